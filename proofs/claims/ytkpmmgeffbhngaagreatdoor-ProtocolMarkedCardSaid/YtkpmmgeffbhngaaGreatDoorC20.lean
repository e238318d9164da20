/- What the laws of the chapter rest on, part 20. -/
import Derived.Test.YtkpmmgeffbhngaaGreatDoorC05
set_option linter.unusedSimpArgs false
set_option linter.unusedVariables false
set_option linter.unnecessarySimpa false
namespace Prot
end Prot
namespace Go.Shelf
end Go.Shelf
namespace Go.Maps
end Go.Maps
namespace Go.Proofs.YtkpmmgeffbhngaaGreatDoor
open Go.RowKit Prot
theorem ByHi.insert {U V : List It} {x : It} (h : ByHi (U ++ V)) (h1 : ∀ v ∈ V, keyI x ≤ keyI v) (h2 : ∀ u ∈ U, keyI u ≤ keyI x) : ByHi (U ++ x :: V) := by
  unfold ByHi at *
  rw [List.pairwise_append] at *
  refine ⟨h.1, List.pairwise_cons.2 ⟨h1, h.2.1⟩, fun a ha b hb => ?_⟩
  rcases List.mem_cons.1 hb with rfl | hb
  · exact h2 a ha
  · exact h.2.2 a ha b hb
theorem ByHi.last {U V : List It} {u : It} (h : ByHi (U ++ [u] ++ V)) {x : It} (hx : keyI u ≤ keyI x) : ∀ y ∈ U ++ [u], keyI y ≤ keyI x := fun y hy => by
  unfold ByHi at h
  rw [List.pairwise_append, List.pairwise_append] at h
  rcases List.mem_append.1 hy with hy | hy
  · have := h.1.2.2 y hy u (by simp); omega
  · rw [List.mem_singleton] at hy; subst hy; exact hx
theorem enters83 : ∀ args W, (callFunc 83 args).run Tryz.prog W = .ok (.enter 83 args) W := fun args W => by simp [go_sem]
set_option maxRecDepth 100000 in
set_option maxHeartbeats 1000000 in
theorem insertion_any (base g c n a b : Nat) (P X S : List It) (w : World) (hrow : TRow w base g c n (P ++ X ++ S)) (hn : n ≤ 1000) (hc : n ≤ c) (hP : P.length = a) (hX : a + X.length = b) (hb : ∀ t ∈ X, okI t) (hno : Rise X) :
    Calls Tryz.prog 141 #[.slice (some ⟨g, 0, none⟩) n c, .int .i64 a, .int .i64 b, .func (.func 83) #[] #[]] w (Ret fun _ w' => (∃ Z, Z.Perm X ∧ ByHi Z ∧ TRow w' base g c n (P ++ Z ++ S)) ∧ w.grownBy w' (some g)) := by
  have hbn : b ≤ n := by have := hrow.1; simp at this; omega
  have Hrow := Lib.hid hrow; clear hrow
  have HP := Lib.hid hP; clear hP
  have HX := Lib.hid hX; clear hX
  have Hb := Lib.hid hb; clear hb
  have Hno := Lib.hid hno; clear hno
  have han : a ≤ n := by have := HX.out; omega
  go_enter Tryz.func141, Tryz.ntmps141
  go_wp2
  go_loopw [8] (fun i wr => ∃ (k : Nat) (Y : List It), a + 1 ≤ k ∧ (k ≤ b ∨ k = a + 1) ∧ i = .int .i64 k ∧ Y.Perm (X.take (k - a)) ∧ ByHi Y ∧ TRow wr base g c n (P ++ (Y ++ X.drop (k - a)) ++ S) ∧ w.grownBy wr (some g)) (fun i _ => b - (intOf i).toNat)
  case atStart =>
    refine ⟨a + 1, X.take 1, by omega, .inr rfl, by go_num, by rw [show a + 1 - a = 1 by omega], ?_, by rw [show a + 1 - a = 1 by omega, List.take_append_drop]; exact Hrow.out, World.grownBy.refl _ _⟩
    cases X with
    | nil => exact List.Pairwise.nil
    | cons x X => simp [ByHi]
  case round =>
    obtain ⟨k, Y, hk1, hk2, rfl, hp, ho, hr, hg⟩ := hrel
    have Hp := Lib.hid hp
    have Ho := Lib.hid ho
    have Hr := Lib.hid hr
    have Hg := Lib.hid hg
    clear hp ho hr hg Hrow
    by_cases hkb : k < b
    · have hm : k - a < X.length := by have := HX.out; omega
      have hYl : Hid (Y.length = k - a) := by rw [Hp.out.length_eq, List.length_take]; exact Nat.min_eq_left (by omega)
      have hdr := List.drop_eq_getElem_cons hm
      have htk := List.take_succ_eq_append_getElem hm
      have hxb := Hb.out _ (List.getElem_mem hm)
      have hnu : ∀ u ∈ X.take (k - a), u.num < X[k - a].num := fun u hu => by
        have h := Hno.out
        unfold Rise at h
        rw [← List.take_append_drop (k - a) X, List.pairwise_append] at h
        exact h.2.2 u hu _ (by rw [hdr]; exact List.mem_cons.2 (.inl rfl))
      generalize hx : X[k - a] = x at hdr htk hxb hnu
      have Hnu := Lib.hid hnu
      rw [hdr] at Hr
      have Htk := Lib.hid htk
      clear hx hdr htk hnu
      generalize hR : X.drop (k - a + 1) = R at Hr
      have HR := Lib.hid hR; clear hR
      go_wp2
      go_loopw [9] (fun i wr => ∃ (j : Nat) (U V : List It), j = a + U.length ∧ j ≤ k ∧ i = .int .i64 j ∧ U ++ V = Y ∧ (∀ v ∈ V, keyI x ≤ keyI v) ∧ TRow wr base g c n (P ++ (U ++ x :: V ++ R) ++ S) ∧ w.grownBy wr (some g)) (fun i _ => (intOf i).toNat)
      case atStart => exact ⟨k, Y, [], by rw [hYl.out]; omega, Nat.le_refl _, rfl, by simp, by simp, by simpa using Hr.out, Hg.out⟩
      case round =>
        clear Hr Hg
        obtain ⟨j, U, V, hj, hjk, rfl, huv, hv, hr, hg⟩ := hrel
        have Huv := Lib.hid huv
        have Hv := Lib.hid hv
        have Hr := Lib.hid hr
        have Hg := Lib.hid hg
        clear huv hv hr hg
        rcases List.eq_nil_or_concat U with rfl | ⟨U, u, rfl⟩
        · have hja : a = j := by simpa using hj.symm
          clear hj
          subst hja
          go_wp2
          go_quiet (fail)
          go_wp2
          go_roundw
          case rel =>
            refine ⟨k + 1, x :: V, by omega, .inl (by omega), by go_num, ?_, ?_, ?_, grown_drewN Hg.out _⟩
            · rw [show k + 1 - a = k - a + 1 by omega, Htk.out]
              have h1 := Huv.out
              rw [List.nil_append] at h1
              rw [h1]
              exact (List.Perm.cons x Hp.out).trans (List.perm_append_singleton x _).symm
            · have h1 := Ho.out
              rw [← Huv.out] at h1
              exact ByHi.insert (U := []) h1 Hv.out (by simp)
            · rw [show k + 1 - a = k - a + 1 by omega, HR.out]; exact Hr.out
          case measure => simp [intOf]; omega
        · rw [List.concat_eq_append] at hj Huv Hr
          obtain ⟨j', rfl⟩ : ∃ j', j = j' + 1 := ⟨a + U.length, by rw [hj]; simp; omega⟩
          have hj' : j' = a + U.length := by simp at hj; omega
          clear hj
          have hrr := Hr.out
          rw [show P ++ (U ++ [u] ++ x :: V ++ R) ++ S = (P ++ U) ++ u :: x :: (V ++ R ++ S) by simp] at hrr
          have hPU : j' = (P ++ U).length := by rw [List.length_append, HP.out]; exact hj'
          obtain ⟨⟨p0, p1, p2, p3, p4, p5, p6⟩, ⟨q0, q1, q2, q3, q4, q5, q6⟩, hjn⟩ := hrr.pair hPU
          have hub : okI u := Hb.out u (List.mem_of_mem_take (Hp.out.subset (by rw [← Huv.out]; simp)))
          have HKx : Hid (keyI x < keyI u ↔ x.box < u.box) := Lib.hid (key_lt hxb hub (Hnu.out u (Hp.out.subset (by rw [← Huv.out]; simp))))
          have Hrr := Lib.hid hrr
          have HPU := Lib.hid hPU
          have Hj' := Lib.hid hj'
          clear hrr hPU hj'
          have hlt := Hrr.out.lt
          have hca : (n : Int) ≤ (c : Int) := by omega
          obtain ⟨u1, u2, u3, u4, u5, u6, u7⟩ := u
          obtain ⟨x1, x2, x3, x4, x5, x6, x7⟩ := x
          dsimp only at p0 p1 p2 p3 p4 p5 p6 q0 q1 q2 q3 q4 q5 q6 hub hxb HKx
          have hcmp := fun W => cmp_any (⟨x1, x2, x3, x4, x5, x6, x7⟩ : It) (⟨u1, u2, u3, u4, u5, u6, u7⟩ : It) W
          dsimp only [vIt] at hcmp
          have eg := enters83
          have hgt : (a : Int) < (j' : Int) + 1 := by have := Hj'.out; omega
          have g0 : (0 : Int) ≤ (j' : Int) + 1 := by omega
          have g1 : (j' : Int) + 1 < (n : Int) := by omega
          have g2 : (j' : Int) < (n : Int) := by omega
          have g4 : ((j' : Int) + 1).toNat = j' + 1 := by omega
          have g5 : IntKind.i64.wrap ((j' : Int) + 1 - 1) = (j' : Int) := by rw [show (j' : Int) + 1 - 1 = j' by omega]; exact IntWalk.i64_in _ (by omega)
          have g6 : IntKind.i64.wrap ((j' : Int)) = (j' : Int) := IntWalk.i64_in _ (by omega)
          go_wp2
          go_region_held3 (fun W => W.cell? ⟨g, j' * 7, none⟩ = some (.int .i64 u1) ∧ W.cell? ⟨g, j' * 7 + 1, none⟩ = some (.int .i64 u2) ∧ W.cell? ⟨g, j' * 7 + 2, none⟩ = some (.int .i64 u3) ∧ W.cell? ⟨g, j' * 7 + 3, none⟩ = some (.int .i64 u4) ∧ W.cell? ⟨g, j' * 7 + 4, none⟩ = some (.int .i64 u5) ∧ W.cell? ⟨g, j' * 7 + 5, none⟩ = some (.int .i64 u6) ∧ W.cell? ⟨g, j' * 7 + 6, none⟩ = some (.bool u7) ∧ W.cell? ⟨g, (j' + 1) * 7, none⟩ = some (.int .i64 x1) ∧ W.cell? ⟨g, (j' + 1) * 7 + 1, none⟩ = some (.int .i64 x2) ∧ W.cell? ⟨g, (j' + 1) * 7 + 2, none⟩ = some (.int .i64 x3) ∧ W.cell? ⟨g, (j' + 1) * 7 + 3, none⟩ = some (.int .i64 x4) ∧ W.cell? ⟨g, (j' + 1) * 7 + 4, none⟩ = some (.int .i64 x5) ∧ W.cell? ⟨g, (j' + 1) * 7 + 5, none⟩ = some (.int .i64 x6) ∧ W.cell? ⟨g, (j' + 1) * 7 + 6, none⟩ = some (.bool x7))
            (first | exact ⟨p0, p1, p2, p3, p4, p5, p6, q0, q1, q2, q3, q4, q5, q6⟩ | exact ⟨cell_below hBx p0, cell_below hBx p1, cell_below hBx p2, cell_below hBx p3, cell_below hBx p4, cell_below hBx p5, cell_below hBx p6, cell_below hBx q0, cell_below hBx q1, cell_below hBx q2, cell_below hBx q3, cell_below hBx q4, cell_below hBx q5, cell_below hBx q6⟩)
            (first | (go_at_call 83; refine (hcmp _).mono ?_; rintro e wx ⟨v, rfl, rfl, hBx⟩))
          have HBx := Lib.hid hBx
          replace p0 := cell_below hBx p0
          replace p1 := cell_below hBx p1
          replace p2 := cell_below hBx p2
          replace p3 := cell_below hBx p3
          replace p4 := cell_below hBx p4
          replace p5 := cell_below hBx p5
          replace p6 := cell_below hBx p6
          replace q0 := cell_below hBx q0
          replace q1 := cell_below hBx q1
          replace q2 := cell_below hBx q2
          replace q3 := cell_below hBx q3
          replace q4 := cell_below hBx q4
          replace q5 := cell_below hBx q5
          replace q6 := cell_below hBx q6
          have Hrx := Lib.hid (Hrr.out.drew.below HBx.out)
          have Hgx := Lib.hid (grown_below (grown_drew Hg.out) HBx.out)
          have fz := Hrx.out.frozen
          clear hBx Hrr hcmp
          by_cases hlt2 : x2 < u2
          · have hd : cmpV x2 u2 < 0 := cmp_lt.2 hlt2
            go_wp2
            go_big_region
            go_wp2
            go_roundw
            case rel =>
              refine ⟨j', U, (⟨u1, u2, u3, u4, u5, u6, u7⟩ : It) :: V, Hj'.out, by omega, (by first | rfl | go_num), ?_, ?_, ?_, ?_⟩
              · rw [← Huv.out, List.append_assoc]; rfl
              · intro v hv
                rcases List.mem_cons.1 hv with rfl | hv
                · exact Int.le_of_lt (HKx.out.2 hlt2)
                · exact Hv.out v hv
              · have h1 := Hrx.out.swap2 HPU.out
                rw [show P ++ U ++ (⟨x1, x2, x3, x4, x5, x6, x7⟩ : It) :: (⟨u1, u2, u3, u4, u5, u6, u7⟩ : It) :: (V ++ R ++ S) = P ++ (U ++ (⟨x1, x2, x3, x4, x5, x6, x7⟩ : It) :: ((⟨u1, u2, u3, u4, u5, u6, u7⟩ : It) :: V) ++ R) ++ S by simp] at h1
                exact h1.drew
              · exact grown_drew (grown_put (grown_put Hgx.out _ _ _ _ _ _ _ _) _ _ _ _ _ _ _ _)
            case measure => simp [intOf]
          · have hd : ¬ cmpV x2 u2 < 0 := fun h => hlt2 (cmp_lt.1 h)
            go_wp2
            go_roundw
            case rel =>
              refine ⟨k + 1, (U ++ [(⟨u1, u2, u3, u4, u5, u6, u7⟩ : It)]) ++ (⟨x1, x2, x3, x4, x5, x6, x7⟩ : It) :: V, by omega, .inl (by omega), by go_num, ?_, ?_, ?_, Hgx.out⟩
              · rw [show k + 1 - a = k - a + 1 by omega, Htk.out]
                have h1 := Hp.out
                rw [← Huv.out] at h1
                exact (List.perm_middle.trans (List.Perm.cons _ h1)).trans (List.perm_append_singleton _ _).symm
              · have h1 := Ho.out
                rw [← Huv.out] at h1
                exact ByHi.insert h1 Hv.out (ByHi.last h1 (Int.not_lt.1 fun h => hlt2 (HKx.out.1 h)))
              · rw [show k + 1 - a = k - a + 1 by omega, HR.out]
                have h1 := Hrx.out
                rw [show (P ++ U) ++ (⟨u1, u2, u3, u4, u5, u6, u7⟩ : It) :: (⟨x1, x2, x3, x4, x5, x6, x7⟩ : It) :: (V ++ R ++ S) = P ++ (U ++ [(⟨u1, u2, u3, u4, u5, u6, u7⟩ : It)] ++ (⟨x1, x2, x3, x4, x5, x6, x7⟩ : It) :: V ++ R) ++ S by simp] at h1
                exact h1
            case measure => simp [intOf]; omega
    · have hm : X.length ≤ k - a := by have := HX.out; omega
      go_wp2
      refine bodyPost_end (results_none rfl _ _ _) rfl ?_
      refine Ret.mk' rfl ⟨⟨Y, by have h1 := Hp.out; rw [List.take_of_length_le hm] at h1; exact h1, Ho.out, ?_⟩, Hg.out⟩
      have h1 := Hr.out
      rw [List.drop_of_length_le hm, List.append_nil] at h1
      exact h1
end Go.Proofs.YtkpmmgeffbhngaaGreatDoor
namespace Go.Proofs.YtkpmmgeffbhngaaGreatDoor
open Go.RowKit Prot
theorem TRow.one {w : World} {base g c n : Nat} {L1 L2 : List It} {u : It} (h : TRow w base g c n (L1 ++ u :: L2)) {k : Nat} (hk : k = L1.length) :
    (w.cell? ⟨g, k * 7, none⟩ = some (.int .i64 u.num) ∧ w.cell? ⟨g, k * 7 + 1, none⟩ = some (.int .i64 u.box) ∧ w.cell? ⟨g, k * 7 + 2, none⟩ = some (.int .i64 u.day) ∧ w.cell? ⟨g, k * 7 + 3, none⟩ = some (.int .i64 u.voice) ∧ w.cell? ⟨g, k * 7 + 4, none⟩ = some (.int .i64 u.turns) ∧ w.cell? ⟨g, k * 7 + 5, none⟩ = some (.int .i64 u.src) ∧ w.cell? ⟨g, k * 7 + 6, none⟩ = some (.bool u.cracked)) ∧ k < n := by
  subst hk
  have h1 := h.1
  have p := h.at_ (k := L1.length) (by simp)
  have e0 : (L1 ++ u :: L2)[L1.length]'(by simp) = u := by simp
  rw [e0] at p
  exact ⟨p, by simp at h1; omega⟩
theorem set_mid (L1 L2 : List It) (u x : It) {k : Nat} (hk : k = L1.length) : (L1 ++ u :: L2).set k x = L1 ++ x :: L2 := by
  subst hk
  rw [List.set_append_right _ _ (by omega), Nat.sub_self]; rfl
theorem TRow.swapFar {w : World} {base g c n : Nat} {L1 L2 L3 : List It} {u x : It} (h : TRow w base g c n (L1 ++ u :: (L2 ++ x :: L3))) {k j : Nat} (hk : k = L1.length) (hj : j = L1.length + 1 + L2.length) :
    TRow ((((((((((((((w.setCell ⟨g, k * 7, none⟩ (.int .i64 x.num)).setCell ⟨g, k * 7 + 1, none⟩ (.int .i64 x.box)).setCell ⟨g, k * 7 + 2, none⟩ (.int .i64 x.day)).setCell ⟨g, k * 7 + 3, none⟩ (.int .i64 x.voice)).setCell ⟨g, k * 7 + 4, none⟩ (.int .i64 x.turns)).setCell ⟨g, k * 7 + 5, none⟩ (.int .i64 x.src)).setCell ⟨g, k * 7 + 6, none⟩ (.bool x.cracked)).setCell ⟨g, j * 7, none⟩ (.int .i64 u.num)).setCell ⟨g, j * 7 + 1, none⟩ (.int .i64 u.box)).setCell ⟨g, j * 7 + 2, none⟩ (.int .i64 u.day)).setCell ⟨g, j * 7 + 3, none⟩ (.int .i64 u.voice)).setCell ⟨g, j * 7 + 4, none⟩ (.int .i64 u.turns)).setCell ⟨g, j * 7 + 5, none⟩ (.int .i64 u.src)).setCell ⟨g, j * 7 + 6, none⟩ (.bool u.cracked)) base g c n (L1 ++ x :: (L2 ++ u :: L3)) := by
  have h2 := (h.put k x).put j u
  have e : ((L1 ++ u :: (L2 ++ x :: L3)).set k x).set j u = L1 ++ x :: (L2 ++ u :: L3) := by
    rw [set_mid _ _ _ _ hk]
    have h3 := set_mid (L1 ++ x :: L2) L3 x u (k := j) (by rw [hj]; simp; omega)
    simpa using h3
  exact e ▸ h2
set_option maxRecDepth 100000 in
set_option maxHeartbeats 1000000 in
theorem swapRange_any (base g c n a b m : Nat) (P X M Y S : List It) (w : World) (hrow : TRow w base g c n (P ++ X ++ M ++ Y ++ S)) (hn : n ≤ 1000) (_hc : n ≤ c) (hP : P.length = a) (hX : X.length = m) (hY : Y.length = m) (hM : a + m + M.length = b) (f : Value) :
    Calls Tryz.prog 203 #[.slice (some ⟨g, 0, none⟩) n c, .int .i64 a, .int .i64 b, .int .i64 m, f] w (Ret fun _ w' => TRow w' base g c n (P ++ Y ++ M ++ X ++ S) ∧ w.grownBy w' (some g)) := by
  have hbn : b + m ≤ n := by have := hrow.1; simp at this; omega
  have Hrow := Lib.hid hrow; clear hrow
  have HP := Lib.hid hP; clear hP
  have HX := Lib.hid hX; clear hX
  have HY := Lib.hid hY; clear hY
  have HM := Lib.hid hM; clear hM
  have hab : a + m ≤ b := by have := HM.out; omega
  go_enter Tryz.func203, Tryz.ntmps203
  go_wp2
  go_loopw [10] (fun i wr => ∃ (k : Nat), k ≤ m ∧ i = .int .i64 k ∧ TRow wr base g c n (P ++ (Y.take k ++ X.drop k) ++ M ++ (X.take k ++ Y.drop k) ++ S) ∧ w.grownBy wr (some g)) (fun i _ => m - (intOf i).toNat)
  case atStart => exact ⟨0, by omega, rfl, by simpa using Hrow.out, World.grownBy.refl _ _⟩
  case round =>
    obtain ⟨k, hk, rfl, hr, hg⟩ := hrel
    have Hr := Lib.hid hr
    have Hg := Lib.hid hg
    clear hr hg Hrow
    by_cases hkm : k < m
    · have hkX : k < X.length := by rw [HX.out]; exact hkm
      have hkY : k < Y.length := by rw [HY.out]; exact hkm
      have hdX := List.drop_eq_getElem_cons hkX
      have htX := List.take_succ_eq_append_getElem hkX
      have hdY := List.drop_eq_getElem_cons hkY
      have htY := List.take_succ_eq_append_getElem hkY
      have HtX : Hid ((X.take k).length = k) := by rw [List.length_take]; exact Nat.min_eq_left (by omega)
      have HtY : Hid ((Y.take k).length = k) := by rw [List.length_take]; exact Nat.min_eq_left (by omega)
      have HdX : Hid ((X.drop (k + 1)).length = m - (k + 1)) := Lib.hid (by rw [List.length_drop, HX.out])
      generalize X[k] = x at hdX htX
      generalize Y[k] = y at hdY htY
      rw [hdX, hdY] at Hr
      generalize hX2 : X.drop (k + 1) = X2 at hdX Hr HdX
      generalize hY2 : Y.drop (k + 1) = Y2 at hdY Hr
      have Htk : Hid (P ++ (Y.take (k + 1) ++ X.drop (k + 1)) ++ M ++ (X.take (k + 1) ++ Y.drop (k + 1)) ++ S = (P ++ Y.take k) ++ y :: ((X2 ++ M ++ X.take k) ++ x :: (Y2 ++ S))) := Lib.hid (by
        rw [htX, htY, hX2, hY2]; simp)
      clear hdX hdY htX htY hX2 hY2 hkX hkY
      have hrr := Hr.out
      rw [show P ++ (Y.take k ++ x :: X2) ++ M ++ (X.take k ++ y :: Y2) ++ S = (P ++ Y.take k) ++ x :: ((X2 ++ M ++ X.take k) ++ y :: (Y2 ++ S)) by simp] at hrr
      have HK1 : Hid (a + k = (P ++ Y.take k).length) := Lib.hid (by rw [List.length_append, HP.out, HtY.out])
      have HK2 : Hid (b + k = (P ++ Y.take k).length + 1 + (X2 ++ M ++ X.take k).length) := Lib.hid (by rw [← HK1.out, List.length_append, List.length_append, HtX.out, HdX.out]; have := HM.out; omega)
      obtain ⟨⟨p0, p1, p2, p3, p4, p5, p6⟩, _⟩ := hrr.one HK1.out
      have hr2 := hrr
      rw [show (P ++ Y.take k) ++ x :: ((X2 ++ M ++ X.take k) ++ y :: (Y2 ++ S)) = (P ++ Y.take k ++ x :: (X2 ++ M ++ X.take k)) ++ y :: (Y2 ++ S) by simp] at hr2
      obtain ⟨⟨q0, q1, q2, q3, q4, q5, q6⟩, _⟩ := hr2.one (k := b + k) (by rw [HK2.out]; simp only [List.length_append, List.length_cons]; omega)
      have Hrr := Lib.hid hrr
      clear hrr hr2 Hr HtX HtY HdX
      obtain ⟨x1, x2, x3, x4, x5, x6, x7⟩ := x
      obtain ⟨y1, y2, y3, y4, y5, y6, y7⟩ := y
      dsimp only at p0 p1 p2 p3 p4 p5 p6 q0 q1 q2 q3 q4 q5 q6
      have fz := Hrr.out.frozen
      have g0 : (0 : Int) ≤ (a : Int) + (k : Int) := by omega
      have g1 : (a : Int) + (k : Int) < (n : Int) := by omega
      have g2 : (0 : Int) ≤ (b : Int) + (k : Int) := by omega
      have g3 : (b : Int) + (k : Int) < (n : Int) := by omega
      have g4 : ((a : Int) + (k : Int)).toNat = a + k := by omega
      have g5 : ((b : Int) + (k : Int)).toNat = b + k := by omega
      have g6 : IntKind.i64.wrap ((a : Int) + (k : Int)) = (a : Int) + (k : Int) := IntWalk.i64_in _ (by omega)
      have g7 : IntKind.i64.wrap ((b : Int) + (k : Int)) = (b : Int) + (k : Int) := IntWalk.i64_in _ (by omega)
      go_wp2
      go_big_region
      go_wp2
      go_roundw
      case rel =>
        refine ⟨k + 1, by omega, by go_num, ?_, ?_⟩
        · rw [Htk.out]; exact (Hrr.out.swapFar HK1.out HK2.out).drew
        · exact grown_drew (grown_put (grown_put Hg.out _ _ _ _ _ _ _ _) _ _ _ _ _ _ _ _)
      case measure => simp [intOf]; omega
    · have hkm : k = m := by omega
      subst hkm
      go_wp2
      go_end0
      have h1 := Hr.out
      rw [List.take_of_length_le (l := X) (by rw [HX.out]; omega), List.take_of_length_le (l := Y) (by rw [HY.out]; omega), List.drop_of_length_le (l := X) (by rw [HX.out]; omega), List.drop_of_length_le (l := Y) (by rw [HY.out]; omega), List.append_nil, List.append_nil] at h1
      exact Ret.mk' rfl ⟨h1, Hg.out⟩
end Go.Proofs.YtkpmmgeffbhngaaGreatDoor
namespace Go.Proofs.YtkpmmgeffbhngaaGreatDoor
open Go.RowKit Prot
set_option maxRecDepth 100000 in
set_option maxHeartbeats 1000000 in
theorem rotate_any (base g c n a m b : Nat) (P X Y S : List It) (w : World) (hrow : TRow w base g c n (P ++ X ++ Y ++ S)) (hn : n ≤ 1000) (hc : n ≤ c) (hP : P.length = a) (hX : a + X.length = m) (hY : m + Y.length = b) (hx : 0 < X.length) (hy : 0 < Y.length) (f : Value) :
    Calls Tryz.prog 173 #[.slice (some ⟨g, 0, none⟩) n c, .int .i64 a, .int .i64 m, .int .i64 b, f] w (Ret fun _ w' => TRow w' base g c n (P ++ Y ++ X ++ S) ∧ w.grownBy w' (some g)) := by
  have hbn : b ≤ n := by have := hrow.1; simp at this; omega
  have Hrow := Lib.hid hrow; clear hrow
  have HP := Lib.hid hP; clear hP
  have HX := Lib.hid hX; clear hX
  have HY := Lib.hid hY; clear hY
  have Hx := Lib.hid hx; clear hx
  have Hy := Lib.hid hy; clear hy
  have ham : a ≤ m := by have := HX.out; omega
  have hmb : m ≤ b := by have := HY.out; omega
  have g1 : IntKind.i64.wrap ((m : Int) - (a : Int)) = (m : Int) - (a : Int) := IntWalk.i64_in _ (by omega)
  have g2 : IntKind.i64.wrap ((b : Int) - (m : Int)) = (b : Int) - (m : Int) := IntWalk.i64_in _ (by omega)
  go_enter Tryz.func173, Tryz.ntmps173
  go_wp2
  go_loopw [10, 11] (fun vi vj wr => ∃ (i j : Nat) (P' X' Y' S' : List It), vi = .int .i64 i ∧ vj = .int .i64 j ∧ i = X'.length ∧ j = Y'.length ∧ 0 < i ∧ 0 < j ∧ P'.length + i = m ∧ m + j ≤ n ∧ P' ++ Y' ++ X' ++ S' = P ++ Y ++ X ++ S ∧ TRow wr base g c n (P' ++ X' ++ Y' ++ S') ∧ w.grownBy wr (some g)) (fun vi vj _ => (intOf vi).toNat + (intOf vj).toNat)
  case atStart =>
    have := HP.out; have := HX.out; have := HY.out
    exact ⟨m - a, b - m, P, X, Y, S, by rw [Int.ofNat_sub ham], by rw [Int.ofNat_sub hmb], by omega, by omega, by have := Hx.out; omega, by have := Hy.out; omega, by omega, by omega, rfl, Hrow.out, World.grownBy.refl _ _⟩
  case round =>
    obtain ⟨i, j, P', X', Y', S', rfl, rfl, hi, hj, hi0, hj0, hm, hjn, ht, hr, hg⟩ := hrel
    have Hi := Lib.hid hi
    have Hj := Lib.hid hj
    have Ht := Lib.hid ht
    have Hr := Lib.hid hr
    have Hg := Lib.hid hg
    have Hm := Lib.hid hm
    clear hi hj ht hr hg Hrow hm g1 g2
    have him : i ≤ m := by have := Hm.out; omega
    obtain ⟨p, hp⟩ : ∃ p, p = m - i := ⟨_, rfl⟩
    have Hp : Hid (p + i = m) := Lib.hid (by omega)
    have g1 : IntKind.i64.wrap ((m : Int) - (i : Int)) = (p : Int) := by rw [hp, Int.ofNat_sub him]; exact IntWalk.i64_in _ (by omega)
    clear hp
    have HP' : Hid (P'.length = p) := Lib.hid (by have := Hm.out; have := Hp.out; omega)
    rcases Nat.lt_trichotomy i j with hij | hij | hij
    · obtain ⟨q, hq⟩ : ∃ q, q = m + j := ⟨_, rfl⟩
      obtain ⟨r, hr⟩ : ∃ r, r = m + j - i := ⟨_, rfl⟩
      obtain ⟨d, hd⟩ : ∃ d, d = j - i := ⟨_, rfl⟩
      have Hrr : Hid (r = m + j - i) := Lib.hid hr
      have Hd : Hid (d + i = j) := Lib.hid (by omega)
      have g3 : IntKind.i64.wrap ((m : Int) + (j : Int)) = (q : Int) := by rw [hq, Int.natCast_add]; exact IntWalk.i64_in _ (by omega)
      have g4 : IntKind.i64.wrap ((q : Int) - (i : Int)) = (r : Int) := by rw [hq, hr, Int.ofNat_sub (by omega)]; exact IntWalk.i64_in _ (by omega)
      have g5 : IntKind.i64.wrap ((j : Int) - (i : Int)) = (d : Int) := by rw [hd, Int.ofNat_sub (by omega)]; exact IntWalk.i64_in _ (by omega)
      clear hq hr
      have Hr2 : Hid (TRow wr base g c n (P' ++ X' ++ Y'.take d ++ Y'.drop d ++ S')) := Lib.hid (by have h := Hr.out; rw [← List.take_append_drop d Y'] at h; simpa using h)
      have L1 : Hid ((Y'.take d).length = d) := Lib.hid (by rw [List.length_take, ← Hj.out]; exact Nat.min_eq_left (by omega))
      have L2 : Hid ((Y'.drop d).length = i) := Lib.hid (by rw [List.length_drop, ← Hj.out]; omega)
      clear hd
      have Hsw : Hid (∀ f, Calls Tryz.prog 203 #[.slice (some ⟨g, 0, none⟩) n c, .int .i64 p, .int .i64 r, .int .i64 i, f] wr (Ret fun _ w' => TRow w' base g c n (P' ++ Y'.drop d ++ Y'.take d ++ X' ++ S') ∧ wr.grownBy w' (some g))) :=
        Lib.hid (swapRange_any base g c n p r i P' X' (Y'.take d) (Y'.drop d) S' wr Hr2.out hn hc HP'.out Hi.out.symm L2.out (by rw [L1.out]; have := Hrr.out; have := Hd.out; have := Hp.out; omega))
      have hne : ¬ ((i : Int) = (j : Int)) := by omega
      have hgt : ¬ ((j : Int) < (i : Int)) := by omega
      go_wp2_with fail
      refine (Hsw.out _).mono ?_
      rintro e w1 ⟨v, rfl, h1, h2⟩
      have H1 := Lib.hid h1
      have H2 := Lib.hid h2
      clear h1 h2 Hsw
      go_wp2
      go_roundw
      case rel =>
        refine ⟨i, d, P', Y'.drop d, Y'.take d, X' ++ S', rfl, rfl, L2.out.symm, L1.out.symm, hi0, by have := Hd.out; omega, Hm.out, by have := Hd.out; omega, ?_, ?_, Hg.out.trans H2.out⟩
        · rw [← Ht.out]; simp only [List.append_assoc]; rw [← List.append_assoc (Y'.take _), List.take_append_drop]
        · have h := H1.out; simpa using h
      case measure => have := Hd.out; simp [intOf]; omega
    · subst hij
      have Hsw : Hid (∀ f, Calls Tryz.prog 203 #[.slice (some ⟨g, 0, none⟩) n c, .int .i64 p, .int .i64 m, .int .i64 i, f] wr (Ret fun _ w' => TRow w' base g c n (P' ++ Y' ++ [] ++ X' ++ S') ∧ wr.grownBy w' (some g))) :=
        Lib.hid (swapRange_any base g c n p m i P' X' [] Y' S' wr (by simpa using Hr.out) hn hc HP'.out Hi.out.symm Hj.out.symm (by have := Hp.out; simp; omega))
      go_wp2_with fail
      refine (Hsw.out _).mono ?_
      rintro e w1 ⟨v, rfl, h1, h2⟩
      have H1 := Lib.hid h1
      have H2 := Lib.hid h2
      clear h1 h2 Hsw
      go_wp2
      go_end0
      have h := H1.out
      rw [List.append_nil, Ht.out] at h
      exact Ret.mk' rfl ⟨h, Hg.out.trans H2.out⟩
    · obtain ⟨d, hd⟩ : ∃ d, d = i - j := ⟨_, rfl⟩
      have Hd : Hid (d + j = i) := Lib.hid (by omega)
      have g5 : IntKind.i64.wrap ((i : Int) - (j : Int)) = (d : Int) := by rw [hd, Int.ofNat_sub (by omega)]; exact IntWalk.i64_in _ (by omega)
      clear hd
      have Hr2 : Hid (TRow wr base g c n (P' ++ X'.take j ++ X'.drop j ++ Y' ++ S')) := Lib.hid (by have h := Hr.out; rw [← List.take_append_drop j X'] at h; simpa using h)
      have L1 : Hid ((X'.take j).length = j) := Lib.hid (by rw [List.length_take, ← Hi.out]; exact Nat.min_eq_left (by omega))
      have L2 : Hid ((X'.drop j).length = d) := Lib.hid (by rw [List.length_drop, ← Hi.out]; have := Hd.out; omega)
      have Hsw : Hid (∀ f, Calls Tryz.prog 203 #[.slice (some ⟨g, 0, none⟩) n c, .int .i64 p, .int .i64 m, .int .i64 j, f] wr (Ret fun _ w' => TRow w' base g c n (P' ++ Y' ++ X'.drop j ++ X'.take j ++ S') ∧ wr.grownBy w' (some g))) :=
        Lib.hid (swapRange_any base g c n p m j P' (X'.take j) (X'.drop j) Y' S' wr Hr2.out hn hc HP'.out L1.out Hj.out.symm (by rw [L2.out]; have := Hd.out; have := Hp.out; omega))
      have hne : ¬ ((i : Int) = (j : Int)) := by omega
      have hgt : (j : Int) < (i : Int) := by omega
      go_wp2_with fail
      refine (Hsw.out _).mono ?_
      rintro e w1 ⟨v, rfl, h1, h2⟩
      have H1 := Lib.hid h1
      have H2 := Lib.hid h2
      clear h1 h2 Hsw
      go_wp2
      go_roundw
      case rel =>
        refine ⟨d, j, P' ++ Y', X'.drop j, X'.take j, S', rfl, rfl, L2.out.symm, L1.out.symm, by have := Hd.out; omega, hj0, ?_, hjn, ?_, ?_, Hg.out.trans H2.out⟩
        · rw [List.length_append, HP'.out, ← Hj.out]; have := Hd.out; have := Hp.out; omega
        · rw [← Ht.out]; simp only [List.append_assoc]; rw [← List.append_assoc (X'.take _), List.take_append_drop]
        · have h := H1.out; simpa using h
      case measure => have := Hd.out; simp [intOf]; omega
end Go.Proofs.YtkpmmgeffbhngaaGreatDoor
