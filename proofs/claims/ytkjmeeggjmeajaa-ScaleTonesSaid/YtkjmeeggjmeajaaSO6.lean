/- symMerge of tones, one tone on the right. -/
import Derived.Test.YtkjmeeggjmeajaaSO5
namespace Go.Proofs.Ytkjmeeggjmeajaa
open Go.RowKit

set_option maxRecDepth 100000 in
set_option maxHeartbeats 1000000 in
theorem merge2_any (base g c n a m b : Nat) (P X S : List Tone) (y : Tone) (w : World) (hrow : TRow w base g c n (P ++ X ++ [y] ++ S)) (hn : n ≤ 1000) (_hc : n ≤ c) (hP : P.length = a) (hX : a + X.length = m) (hb : m + 1 = b) (hX2 : 1 < X.length) (hby : inB y.2.1) (hbx : ∀ x ∈ X, inB x.2.1) (hoX : ByHi X) :
    Calls Try.prog 87 #[.slice (some ⟨g, 0, none⟩) n c, .int .i64 a, .int .i64 m, .int .i64 b, .func (.func 60) #[] #[]] w (Ret fun _ w' => (∃ Z, Z.Perm (y :: X) ∧ ByHi Z ∧ TRow w' base g c n (P ++ Z ++ S)) ∧ w.grownBy w' (some g)) := by
  have hbn : m < n := by have := hrow.1; simp at this; omega
  have ham : a + 1 < m := by omega
  have Hrow := Lib.hid hrow; clear hrow
  have HP := Lib.hid hP; clear hP
  have HX := Lib.hid hX; clear hX
  have Hby := Lib.hid hbx; clear hbx
  have HoX := Lib.hid hoX; clear hoX
  clear hX2
  have g1 : IntKind.i64.wrap ((m : Int) - (a : Int)) = (m : Int) - (a : Int) := IntWalk.i64_in _ (by omega)
  have g2 : IntKind.i64.wrap ((b : Int) - (m : Int)) = 1 := by rw [show (b : Int) - (m : Int) = 1 by omega]; rfl
  have g3 : ((m : Int) - (a : Int) == 1) = false := by simp; omega
  have Hb := Lib.hid hb; clear hb
  go_enter Try.func87, Try.ntmps87
  go_wp2
  go_loopw [14, 15] (fun vi vj wr => ∃ (i j : Nat), vi = .int .i64 i ∧ vj = .int .i64 j ∧ a ≤ i ∧ i ≤ j ∧ j ≤ m ∧ (∀ x ∈ X.take (i - a), x.2.1 ≤ y.2.1) ∧ (∀ x ∈ X.drop (j - a), y.2.1 < x.2.1) ∧ TRow wr base g c n (P ++ X ++ [y] ++ S) ∧ w.grownBy wr (some g)) (fun vi vj _ => (intOf vj).toNat - (intOf vi).toNat)
  case atStart => exact ⟨a, m, rfl, rfl, Nat.le_refl _, by omega, Nat.le_refl _, by simp, by rw [List.drop_of_length_le (by have := HX.out; omega)]; simp, Hrow.out, World.grownBy.refl _ _⟩
  case round =>
    obtain ⟨i, j, rfl, rfl, hi, hij, hj, hlo, hhi, hr, hg⟩ := hrel
    have Hlo := Lib.hid hlo
    have Hhi := Lib.hid hhi
    have Hr := Lib.hid hr
    have Hg := Lib.hid hg
    clear hlo hhi hr hg Hrow g1 g2 g3
    by_cases hlt : i < j
    · obtain ⟨h, hh⟩ : ∃ h, h = (i + j) / 2 := ⟨_, rfl⟩
      have Hh : Hid (i ≤ h ∧ h < j) := Lib.hid (by omega)
      have hlt' : (i : Int) < (j : Int) := by omega
      have g2 : IntKind.i64.wrap ((i : Int) + (j : Int)) = (i : Int) + (j : Int) := IntWalk.i64_in _ (by omega)
      have gh : ((i : Int) + (j : Int)) / 2 = (h : Int) := by omega
      clear hh
      have hhX : h - a < X.length := by have := Hh.out; have := HX.out; omega
      have hxb := Hby.out _ (List.getElem_mem hhX)
      have hlo1 : ∀ z, X[h - a].2.1 ≤ z → ∀ y ∈ X.take (h + 1 - a), y.2.1 ≤ z := fun z hz => by rw [show h + 1 - a = h - a + 1 by have := Hh.out; omega]; exact HoX.out.take_le hhX hz
      have hhi1 : ∀ z, z < X[h - a].2.1 → ∀ y ∈ X.drop (h - a), z < y.2.1 := fun z hz => HoX.out.drop_gt hhX hz
      generalize hx : X[h - a] = x at hxb hlo1 hhi1
      have hr1 := Hr.out
      rw [List.append_assoc (P ++ X)] at hr1
      have hlh := hr1.at3 hhX hx (j := h) (by rw [HP.out]; have := Hh.out; omega)
      obtain ⟨⟨q0, q1, q2⟩, hhn⟩ := hlh
      have hr2 := Hr.out
      rw [show P ++ X ++ [y] ++ S = (P ++ X) ++ y :: S by simp] at hr2
      obtain ⟨⟨p0, p1, p2⟩, hmn⟩ := hr2.one (k := m) (by rw [List.length_append, HP.out]; exact HX.out.symm)
      have Hlo1 := Lib.hid hlo1
      have Hhi1 := Lib.hid hhi1
      clear hr1 hr2 hx hhX hlo1 hhi1
      obtain ⟨x1, x2, x3⟩ := x
      obtain ⟨y1, y2, y3⟩ := y
      dsimp only at p0 p1 p2 q0 q1 q2 hby hxb
      have hcmp := fun W => cmp_any (y1, y2, y3) (x1, x2, x3) hby hxb W
      dsimp only [vT] at hcmp
      have eg := enters60
      go_wp2
      go_region_held3 (fun W => W.cell? ⟨g, m * 3, none⟩ = some (.int .i64 y1) ∧ W.cell? ⟨g, m * 3 + 1, none⟩ = some (.int .i64 y2) ∧ W.cell? ⟨g, m * 3 + 2, none⟩ = some (.int .i64 y3) ∧ W.cell? ⟨g, h * 3, none⟩ = some (.int .i64 x1) ∧ W.cell? ⟨g, h * 3 + 1, none⟩ = some (.int .i64 x2) ∧ W.cell? ⟨g, h * 3 + 2, none⟩ = some (.int .i64 x3))
        (first | exact ⟨p0, p1, p2, q0, q1, q2⟩ | exact ⟨cell_below hBx p0, cell_below hBx p1, cell_below hBx p2, cell_below hBx q0, cell_below hBx q1, cell_below hBx q2⟩)
        (first | (go_at_call 60; refine (hcmp _).mono ?_; rintro e wx ⟨v, rfl, rfl, hBx⟩))
      have HBx := Lib.hid hBx
      have Hrx := Lib.hid (Hr.out.drew.below HBx.out)
      have Hgx := Lib.hid (grown_below (grown_drew Hg.out) HBx.out)
      clear hBx hcmp p0 p1 p2 q0 q1 q2 Hr
      by_cases hlt2 : y2 < x2
      · have hd : decide (y2 - x2 < 0) = true := by simp; omega
        have hd2 : (!decide (y2 - x2 < 0)) = false := by rw [hd]; rfl
        go_wp2
        all_goals try (exfalso; rename_i hx; rw [hd] at hx; exact absurd hx (by decide))
        go_roundw
        case rel => have := Hh.out; exact ⟨i, h, rfl, rfl, hi, by omega, by omega, Hlo.out, Hhi1.out _ hlt2, Hrx.out, Hgx.out⟩
        case measure => have := Hh.out; simp [intOf]; omega
      · have hd : decide (y2 - x2 < 0) = false := by simp; omega
        have hd2 : (!decide (y2 - x2 < 0)) = true := by rw [hd]; rfl
        go_wp2
        all_goals try (exfalso; rename_i hx; rw [hd] at hx; exact absurd hx (by decide))
        go_roundw
        case rel => have := Hh.out; exact ⟨h + 1, j, by go_num, rfl, by omega, by omega, hj, Hlo1.out _ (by omega), Hhi.out, Hrx.out, Hgx.out⟩
        case measure => have := Hh.out; simp [intOf]; omega
    · have hije : i = j := by omega
      subst hije
      clear hlt hij
      go_wp2
      go_loopw [17] (fun v wr => ∃ (q k : Nat), v = .int .i64 q ∧ q = a + k ∧ i ≤ q ∧ q ≤ m ∧ TRow wr base g c n (P ++ X.take k ++ y :: (X.drop k ++ S)) ∧ w.grownBy wr (some g)) (fun v _ => (intOf v).toNat)
      case atStart => exact ⟨m, X.length, rfl, HX.out.symm, hj, Nat.le_refl _, by simpa using Hr.out, Hg.out⟩
      case round =>
        clear Hr Hg
        obtain ⟨q, k, rfl, hq, hiq, hqm, hr, hg⟩ := hrel
        have Hr := Lib.hid hr
        have Hg := Lib.hid hg
        have Hq := Lib.hid hq
        clear hr hg
        by_cases hlt : i < q
        · obtain ⟨k', rfl⟩ : ∃ k', k = k' + 1 := ⟨k - 1, by omega⟩
          obtain ⟨q', rfl⟩ : ∃ q', q = q' + 1 := ⟨q - 1, by omega⟩
          have hq' : q' = a + k' := by omega
          have Hq' := Lib.hid hq'
          have hc1 : (i : Int) < (q' : Int) + 1 := by omega
          clear hq hq'
          have hkX : k' < X.length := by have := HX.out; have := Hq'.out; omega
          have htk := List.take_succ_eq_append_getElem hkX
          have hdk := List.drop_eq_getElem_cons hkX
          generalize X[k'] = x at htk hdk
          rw [htk] at Hr
          have HK : Hid (q' = (P ++ X.take k').length) := Lib.hid (by rw [List.length_append, List.length_take, HP.out, Hq'.out]; omega)
          have Hr2 : Hid (TRow wr base g c n ((P ++ X.take k') ++ x :: y :: (X.drop (k' + 1) ++ S))) := Lib.hid (by have h := Hr.out; simpa using h)
          have Hdk := Lib.hid hdk
          clear htk hdk hkX Hr
          obtain ⟨⟨p0, p1, p2⟩, ⟨q0, q1, q2⟩, hqn⟩ := Hr2.out.pair HK.out
          obtain ⟨x1, x2, x3⟩ := x
          obtain ⟨y1, y2, y3⟩ := y
          dsimp only at p0 p1 p2 q0 q1 q2
          have fz := Hr2.out.frozen
          have e1 : (0 : Int) ≤ (q' : Int) + 1 := by omega
          have e2 : (q' : Int) + 1 < (n : Int) := by omega
          have e3 : (q' : Int) < (n : Int) := by omega
          have e4 : ((q' : Int) + 1).toNat = q' + 1 := by omega
          have e5 : IntKind.i64.wrap ((q' : Int) + 1 - 1) = (q' : Int) := by rw [show (q' : Int) + 1 - 1 = q' by omega]; exact IntWalk.i64_in _ (by omega)
          have e6 : IntKind.i64.wrap ((q' : Int)) = (q' : Int) := IntWalk.i64_in _ (by omega)
          go_wp2
          go_big_region
          go_wp2
          go_roundw
          case rel =>
            refine ⟨q', k', (by first | rfl | go_num), Hq'.out, by omega, by omega, ?_, grown_drew (grown_put (grown_put Hg.out _ _ _ _) _ _ _ _)⟩
            have h := Hr2.out.swap2 HK.out
            rw [Hdk.out]
            simpa using h.drew
          case measure => simp [intOf]
        · have hqi : q = i := by omega
          subst hqi
          go_wp2
          go_end0
          have hki : q - a = k := by omega
          refine Ret.mk' rfl ⟨⟨X.take k ++ y :: X.drop k, ?_, ?_, by simpa using Hr.out⟩, Hg.out⟩
          · refine List.perm_middle.trans (List.Perm.cons _ ?_)
            rw [List.take_append_drop]
          · refine ByHi.insert ?_ ?_ ?_
            · rw [List.take_append_drop]; exact HoX.out
            · rw [← hki]; exact fun u hu => Int.le_of_lt (Hhi.out u hu)
            · rw [← hki]; exact Hlo.out
end Go.Proofs.Ytkjmeeggjmeajaa
