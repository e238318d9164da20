/- The insertion sort of tones. -/
import Derived.Test.YtkjmeeggjmeajaaSO1
namespace Go.Proofs.Ytkjmeeggjmeajaa
open Go.RowKit

theorem ByHi.insert {U V : List Tone} {x : Tone} (h : ByHi (U ++ V)) (h1 : ∀ v ∈ V, x.2.1 ≤ v.2.1) (h2 : ∀ u ∈ U, u.2.1 ≤ x.2.1) : ByHi (U ++ x :: V) := by
  unfold ByHi at *
  rw [List.pairwise_append] at *
  refine ⟨h.1, List.pairwise_cons.2 ⟨h1, h.2.1⟩, fun a ha b hb => ?_⟩
  rcases List.mem_cons.1 hb with rfl | hb
  · exact h2 a ha
  · exact h.2.2 a ha b hb
theorem ByHi.last {U V : List Tone} {u : Tone} (h : ByHi (U ++ [u] ++ V)) {x : Tone} (hx : u.2.1 ≤ x.2.1) : ∀ y ∈ U ++ [u], y.2.1 ≤ x.2.1 := fun y hy => by
  unfold ByHi at h
  rw [List.pairwise_append, List.pairwise_append] at h
  rcases List.mem_append.1 hy with hy | hy
  · have := h.1.2.2 y hy u (by simp); omega
  · rw [List.mem_singleton] at hy; subst hy; exact hx
theorem enters60 : ∀ args W, (callFunc 60 args).run Try.prog W = .ok (.enter 60 args) W := fun args W => by simp [go_sem]

set_option maxRecDepth 100000 in
set_option maxHeartbeats 1000000 in
theorem insertion_any (base g c n a b : Nat) (P X S : List Tone) (w : World) (hrow : TRow w base g c n (P ++ X ++ S)) (hn : n ≤ 1000) (hc : n ≤ c) (hP : P.length = a) (hX : a + X.length = b) (hb : ∀ t ∈ X, inB t.2.1) :
    Calls Try.prog 86 #[.slice (some ⟨g, 0, none⟩) n c, .int .i64 a, .int .i64 b, .func (.func 60) #[] #[]] w (Ret fun _ w' => (∃ Z, Z.Perm X ∧ ByHi Z ∧ TRow w' base g c n (P ++ Z ++ S)) ∧ w.grownBy w' (some g)) := by
  have hbn : b ≤ n := by have := hrow.1; simp at this; omega
  have Hrow := Lib.hid hrow; clear hrow
  have HP := Lib.hid hP; clear hP
  have HX := Lib.hid hX; clear hX
  have Hb := Lib.hid hb; clear hb
  have han : a ≤ n := by have := HX.out; omega
  go_enter Try.func86, Try.ntmps86
  go_wp2
  go_loopw [8] (fun i wr => ∃ (k : Nat) (Y : List Tone), a + 1 ≤ k ∧ (k ≤ b ∨ k = a + 1) ∧ i = .int .i64 k ∧ Y.Perm (X.take (k - a)) ∧ ByHi Y ∧ TRow wr base g c n (P ++ (Y ++ X.drop (k - a)) ++ S) ∧ w.grownBy wr (some g)) (fun i _ => b - (intOf i).toNat)
  case atStart =>
    refine ⟨a + 1, X.take 1, by omega, .inr rfl, by go_num, by rw [show a + 1 - a = 1 by omega], ?_, by rw [show a + 1 - a = 1 by omega, List.take_append_drop]; exact Hrow.out, World.grownBy.refl _ _⟩
    cases X with
    | nil => exact List.Pairwise.nil
    | cons x X => simp [ByHi]
  case round =>
    obtain ⟨k, Y, hk1, hk2, rfl, hp, ho, hr, hg⟩ := hrel
    have Hp := Lib.hid hp
    have Ho := Lib.hid ho
    have Hr := Lib.hid hr
    have Hg := Lib.hid hg
    clear hp ho hr hg Hrow
    by_cases hkb : k < b
    · have hm : k - a < X.length := by have := HX.out; omega
      have hYl : Hid (Y.length = k - a) := by rw [Hp.out.length_eq, List.length_take]; exact Nat.min_eq_left (by omega)
      have hdr := List.drop_eq_getElem_cons hm
      have htk := List.take_succ_eq_append_getElem hm
      have hxb := Hb.out _ (List.getElem_mem hm)
      generalize hx : X[k - a] = x at hdr htk hxb
      rw [hdr] at Hr
      have Htk := Lib.hid htk
      clear hx hdr htk
      generalize hR : X.drop (k - a + 1) = R at Hr
      have HR := Lib.hid hR; clear hR
      go_wp2
      go_loopw [9] (fun i wr => ∃ (j : Nat) (U V : List Tone), j = a + U.length ∧ j ≤ k ∧ i = .int .i64 j ∧ U ++ V = Y ∧ (∀ v ∈ V, x.2.1 ≤ v.2.1) ∧ TRow wr base g c n (P ++ (U ++ x :: V ++ R) ++ S) ∧ w.grownBy wr (some g)) (fun i _ => (intOf i).toNat)
      case atStart => exact ⟨k, Y, [], by rw [hYl.out]; omega, Nat.le_refl _, rfl, by simp, by simp, by simpa using Hr.out, Hg.out⟩
      case round =>
        clear Hr Hg
        obtain ⟨j, U, V, hj, hjk, rfl, huv, hv, hr, hg⟩ := hrel
        have Huv := Lib.hid huv
        have Hv := Lib.hid hv
        have Hr := Lib.hid hr
        have Hg := Lib.hid hg
        clear huv hv hr hg
        rcases List.eq_nil_or_concat U with rfl | ⟨U, u, rfl⟩
        · have hja : a = j := by simpa using hj.symm
          clear hj
          subst hja
          go_wp2
          go_quiet (fail)
          go_wp2
          go_roundw
          case rel =>
            refine ⟨k + 1, x :: V, by omega, .inl (by omega), by go_num, ?_, ?_, ?_, grown_drewN Hg.out _⟩
            · rw [show k + 1 - a = k - a + 1 by omega, Htk.out]
              have h1 := Huv.out
              rw [List.nil_append] at h1
              rw [h1]
              exact (List.Perm.cons x Hp.out).trans (List.perm_append_singleton x _).symm
            · have h1 := Ho.out
              rw [← Huv.out] at h1
              exact ByHi.insert (U := []) h1 Hv.out (by simp)
            · rw [show k + 1 - a = k - a + 1 by omega, HR.out]; exact Hr.out
          case measure => simp [intOf]; omega
        · rw [List.concat_eq_append] at hj Huv Hr
          obtain ⟨j', rfl⟩ : ∃ j', j = j' + 1 := ⟨a + U.length, by rw [hj]; simp; omega⟩
          have hj' : j' = a + U.length := by simp at hj; omega
          clear hj
          have hrr := Hr.out
          rw [show P ++ (U ++ [u] ++ x :: V ++ R) ++ S = (P ++ U) ++ u :: x :: (V ++ R ++ S) by simp] at hrr
          have hPU : j' = (P ++ U).length := by rw [List.length_append, HP.out]; exact hj'
          obtain ⟨⟨p0, p1, p2⟩, ⟨q0, q1, q2⟩, hjn⟩ := hrr.pair hPU
          have hub : inB u.2.1 := Hb.out u (List.mem_of_mem_take (Hp.out.subset (by rw [← Huv.out]; simp)))
          have Hrr := Lib.hid hrr
          have HPU := Lib.hid hPU
          have Hj' := Lib.hid hj'
          clear hrr hPU hj'
          have hlt := Hrr.out.lt
          have hca : (n : Int) ≤ (c : Int) := by omega
          obtain ⟨u1, u2, u3⟩ := u
          obtain ⟨x1, x2, x3⟩ := x
          dsimp only at p0 p1 p2 q0 q1 q2 hub hxb
          have hcmp := fun W => cmp_any (x1, x2, x3) (u1, u2, u3) hxb hub W
          dsimp only [vT] at hcmp
          have eg := enters60
          have hgt : (a : Int) < (j' : Int) + 1 := by have := Hj'.out; omega
          have g0 : (0 : Int) ≤ (j' : Int) + 1 := by omega
          have g1 : (j' : Int) + 1 < (n : Int) := by omega
          have g2 : (j' : Int) < (n : Int) := by omega
          have g4 : ((j' : Int) + 1).toNat = j' + 1 := by omega
          have g5 : IntKind.i64.wrap ((j' : Int) + 1 - 1) = (j' : Int) := by rw [show (j' : Int) + 1 - 1 = j' by omega]; exact IntWalk.i64_in _ (by omega)
          have g6 : IntKind.i64.wrap ((j' : Int)) = (j' : Int) := IntWalk.i64_in _ (by omega)
          go_wp2
          go_region_held3 (fun W => W.cell? ⟨g, j' * 3, none⟩ = some (.int .i64 u1) ∧ W.cell? ⟨g, j' * 3 + 1, none⟩ = some (.int .i64 u2) ∧ W.cell? ⟨g, j' * 3 + 2, none⟩ = some (.int .i64 u3) ∧ W.cell? ⟨g, (j' + 1) * 3, none⟩ = some (.int .i64 x1) ∧ W.cell? ⟨g, (j' + 1) * 3 + 1, none⟩ = some (.int .i64 x2) ∧ W.cell? ⟨g, (j' + 1) * 3 + 2, none⟩ = some (.int .i64 x3))
            (first | exact ⟨p0, p1, p2, q0, q1, q2⟩ | exact ⟨cell_below hBx p0, cell_below hBx p1, cell_below hBx p2, cell_below hBx q0, cell_below hBx q1, cell_below hBx q2⟩)
            (first | (go_at_call 60; refine (hcmp _).mono ?_; rintro e wx ⟨v, rfl, rfl, hBx⟩))
          have HBx := Lib.hid hBx
          replace p0 := cell_below hBx p0
          replace p1 := cell_below hBx p1
          replace p2 := cell_below hBx p2
          replace q0 := cell_below hBx q0
          replace q1 := cell_below hBx q1
          replace q2 := cell_below hBx q2
          have Hrx := Lib.hid (Hrr.out.drew.below HBx.out)
          have Hgx := Lib.hid (grown_below (grown_drew Hg.out) HBx.out)
          have fz := Hrx.out.frozen
          clear hBx Hrr hcmp
          by_cases hlt2 : x2 < u2
          · have hd : x2 - u2 < 0 := by omega
            go_wp2
            go_big_region
            go_wp2
            go_roundw
            case rel =>
              refine ⟨j', U, (u1, u2, u3) :: V, Hj'.out, by omega, (by first | rfl | go_num), ?_, ?_, ?_, ?_⟩
              · rw [← Huv.out, List.append_assoc]; rfl
              · intro v hv
                rcases List.mem_cons.1 hv with rfl | hv
                · exact Int.le_of_lt hlt2
                · exact Hv.out v hv
              · have h1 := Hrx.out.swap2 HPU.out
                rw [show P ++ U ++ (x1, x2, x3) :: (u1, u2, u3) :: (V ++ R ++ S) = P ++ (U ++ (x1, x2, x3) :: ((u1, u2, u3) :: V) ++ R) ++ S by simp] at h1
                exact h1.drew
              · exact grown_drew (grown_put (grown_put Hgx.out _ _ _ _) _ _ _ _)
            case measure => simp [intOf]
          · have hd : ¬ x2 - u2 < 0 := by omega
            go_wp2
            go_roundw
            case rel =>
              refine ⟨k + 1, (U ++ [(u1, u2, u3)]) ++ (x1, x2, x3) :: V, by omega, .inl (by omega), by go_num, ?_, ?_, ?_, Hgx.out⟩
              · rw [show k + 1 - a = k - a + 1 by omega, Htk.out]
                have h1 := Hp.out
                rw [← Huv.out] at h1
                exact (List.perm_middle.trans (List.Perm.cons _ h1)).trans (List.perm_append_singleton _ _).symm
              · have h1 := Ho.out
                rw [← Huv.out] at h1
                exact ByHi.insert h1 Hv.out (ByHi.last h1 (by dsimp only; omega))
              · rw [show k + 1 - a = k - a + 1 by omega, HR.out]
                have h1 := Hrx.out
                rw [show (P ++ U) ++ (u1, u2, u3) :: (x1, x2, x3) :: (V ++ R ++ S) = P ++ (U ++ [(u1, u2, u3)] ++ (x1, x2, x3) :: V ++ R) ++ S by simp] at h1
                exact h1
            case measure => simp [intOf]; omega
    · have hm : X.length ≤ k - a := by have := HX.out; omega
      go_wp2
      refine bodyPost_end (results_none rfl _ _ _) rfl ?_
      refine Ret.mk' rfl ⟨⟨Y, by have h1 := Hp.out; rw [List.take_of_length_le hm] at h1; exact h1, Ho.out, ?_⟩, Hg.out⟩
      have h1 := Hr.out
      rw [List.drop_of_length_le hm, List.append_nil] at h1
      exact h1
end Go.Proofs.Ytkjmeeggjmeajaa
