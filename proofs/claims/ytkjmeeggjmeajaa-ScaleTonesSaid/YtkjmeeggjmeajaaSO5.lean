/- symMerge of tones, one tone on the left. -/
import Derived.Test.YtkjmeeggjmeajaaSO4
namespace Go.Proofs.Ytkjmeeggjmeajaa
open Go.RowKit

theorem ByHi.take_lt {Y : List Tone} (h : ByHi Y) {k : Nat} (hk : k < Y.length) {x : Int} (hx : Y[k].2.1 < x) : ∀ y ∈ Y.take (k + 1), y.2.1 < x := fun y hy => by
  obtain ⟨i, hi, rfl⟩ := List.mem_iff_getElem.1 hy
  rw [List.length_take] at hi
  rw [List.getElem_take]
  by_cases e : i = k
  · subst e; exact hx
  · have := List.pairwise_iff_getElem.1 h i k (by omega) hk (by omega); omega
theorem ByHi.take_le {Y : List Tone} (h : ByHi Y) {k : Nat} (hk : k < Y.length) {x : Int} (hx : Y[k].2.1 ≤ x) : ∀ y ∈ Y.take (k + 1), y.2.1 ≤ x := fun y hy => by
  have := ByHi.take_lt h hk (x := x + 1) (by omega) y hy; omega
theorem ByHi.drop_ge {Y : List Tone} (h : ByHi Y) {k : Nat} (hk : k < Y.length) {x : Int} (hx : x ≤ Y[k].2.1) : ∀ y ∈ Y.drop k, x ≤ y.2.1 := fun y hy => by
  obtain ⟨i, hi, rfl⟩ := List.mem_iff_getElem.1 hy
  rw [List.length_drop] at hi
  rw [List.getElem_drop]
  by_cases e : i = 0
  · subst e; exact hx
  · have := List.pairwise_iff_getElem.1 h k (k + i) hk (by omega) (by omega); omega
theorem ByHi.drop_gt {Y : List Tone} (h : ByHi Y) {k : Nat} (hk : k < Y.length) {x : Int} (hx : x < Y[k].2.1) : ∀ y ∈ Y.drop k, x < y.2.1 := fun y hy => by
  have := ByHi.drop_ge h hk (x := x + 1) (by omega) y hy; omega
theorem TRow.at3 {w : World} {base g c n : Nat} {L1 Y L2 : List Tone} (h : TRow w base g c n (L1 ++ Y ++ L2)) {k : Nat} (hk : k < Y.length) {y : Tone} (hy : Y[k] = y) {j : Nat} (hj : j = L1.length + k) :
    (w.cell? ⟨g, j * 3, none⟩ = some (.int .i64 y.1) ∧ w.cell? ⟨g, j * 3 + 1, none⟩ = some (.int .i64 y.2.1) ∧ w.cell? ⟨g, j * 3 + 2, none⟩ = some (.int .i64 y.2.2)) ∧ j < n := by
  have e : L1 ++ Y ++ L2 = (L1 ++ Y.take k) ++ y :: (Y.drop (k + 1) ++ L2) := by
    rw [← hy]
    have := List.take_append_drop k Y
    conv => lhs; rw [← this, List.drop_eq_getElem_cons hk]
    simp only [List.append_assoc, List.cons_append]
  rw [e] at h
  refine h.one ?_
  rw [List.length_append, List.length_take, hj]; omega

/-- the store of the lower place first -/
theorem TRow.swap2' {w : World} {base g c n : Nat} {L1 L2 : List Tone} {u x : Tone} (h : TRow w base g c n (L1 ++ u :: x :: L2)) {k : Nat} (hk : k = L1.length) :
    TRow ((((((w.setCell ⟨g, k * 3, none⟩ (.int .i64 x.1)).setCell ⟨g, k * 3 + 1, none⟩ (.int .i64 x.2.1)).setCell ⟨g, k * 3 + 2, none⟩ (.int .i64 x.2.2)).setCell ⟨g, (k + 1) * 3, none⟩ (.int .i64 u.1)).setCell ⟨g, (k + 1) * 3 + 1, none⟩ (.int .i64 u.2.1)).setCell ⟨g, (k + 1) * 3 + 2, none⟩ (.int .i64 u.2.2)) base g c n (L1 ++ x :: u :: L2) :=
  TRow.swapFar (L2 := []) h hk (by rw [hk]; rfl)

set_option maxRecDepth 100000 in
set_option maxHeartbeats 1000000 in
theorem merge1_any (base g c n a m b : Nat) (P Y S : List Tone) (x : Tone) (w : World) (hrow : TRow w base g c n (P ++ [x] ++ Y ++ S)) (hn : n ≤ 1000) (_hc : n ≤ c) (hP : P.length = a) (hm : a + 1 = m) (hY : m + Y.length = b) (hbx : inB x.2.1) (hby : ∀ y ∈ Y, inB y.2.1) (hoY : ByHi Y) :
    Calls Try.prog 87 #[.slice (some ⟨g, 0, none⟩) n c, .int .i64 a, .int .i64 m, .int .i64 b, .func (.func 60) #[] #[]] w (Ret fun _ w' => (∃ Z, Z.Perm (x :: Y) ∧ ByHi Z ∧ TRow w' base g c n (P ++ Z ++ S)) ∧ w.grownBy w' (some g)) := by
  have hbn : b ≤ n := by have := hrow.1; simp at this; omega
  have hmb : m ≤ b := by omega
  have Hrow := Lib.hid hrow; clear hrow
  have HP := Lib.hid hP; clear hP
  have HY := Lib.hid hY; clear hY
  have Hm := Lib.hid hm
  have Hby := Lib.hid hby; clear hby
  have HoY := Lib.hid hoY; clear hoY
  have g1 : IntKind.i64.wrap ((m : Int) - (a : Int)) = 1 := by rw [show (m : Int) - (a : Int) = 1 by omega]; rfl
  clear hm
  go_enter Try.func87, Try.ntmps87
  go_wp2
  go_loopw [10, 11] (fun vi vj wr => ∃ (i j : Nat), vi = .int .i64 i ∧ vj = .int .i64 j ∧ m ≤ i ∧ i ≤ j ∧ j ≤ b ∧ (∀ y ∈ Y.take (i - m), y.2.1 < x.2.1) ∧ (∀ y ∈ Y.drop (j - m), x.2.1 ≤ y.2.1) ∧ TRow wr base g c n (P ++ [x] ++ Y ++ S) ∧ w.grownBy wr (some g)) (fun vi vj _ => (intOf vj).toNat - (intOf vi).toNat)
  case atStart => exact ⟨m, b, rfl, rfl, Nat.le_refl _, hmb, Nat.le_refl _, by simp, by rw [List.drop_of_length_le (by have := HY.out; omega)]; simp, Hrow.out, World.grownBy.refl _ _⟩
  case round =>
    obtain ⟨i, j, rfl, rfl, hi, hij, hj, hlo, hhi, hr, hg⟩ := hrel
    have Hlo := Lib.hid hlo
    have Hhi := Lib.hid hhi
    have Hr := Lib.hid hr
    have Hg := Lib.hid hg
    clear hlo hhi hr hg Hrow g1
    by_cases hlt : i < j
    · obtain ⟨h, hh⟩ : ∃ h, h = (i + j) / 2 := ⟨_, rfl⟩
      have Hh : Hid (i ≤ h ∧ h < j) := Lib.hid (by omega)
      have hlt' : (i : Int) < (j : Int) := by omega
      have g2 : IntKind.i64.wrap ((i : Int) + (j : Int)) = (i : Int) + (j : Int) := IntWalk.i64_in _ (by omega)
      have gh : ((i : Int) + (j : Int)) / 2 = (h : Int) := by omega
      clear hh
      have hhY : h - m < Y.length := by have := Hh.out; have := HY.out; omega
      have hyb := Hby.out _ (List.getElem_mem hhY)
      have hlo1 : ∀ z, Y[h - m].2.1 < z → ∀ y ∈ Y.take (h + 1 - m), y.2.1 < z := fun z hz => by rw [show h + 1 - m = h - m + 1 by have := Hh.out; omega]; exact HoY.out.take_lt hhY hz
      have hhi1 : ∀ z, z ≤ Y[h - m].2.1 → ∀ y ∈ Y.drop (h - m), z ≤ y.2.1 := fun z hz => HoY.out.drop_ge hhY hz
      generalize hy : Y[h - m] = y at hyb hlo1 hhi1
      have hlh := Hr.out.at3 hhY hy (j := h) (by rw [List.length_append, HP.out]; have := Hm.out; have := Hh.out; simp; omega)
      obtain ⟨⟨p0, p1, p2⟩, hhn⟩ := hlh
      have hr2 := Hr.out
      rw [show P ++ [x] ++ Y ++ S = P ++ x :: (Y ++ S) by simp] at hr2
      obtain ⟨⟨q0, q1, q2⟩, han⟩ := hr2.one HP.out.symm
      have Hlo1 := Lib.hid hlo1
      have Hhi1 := Lib.hid hhi1
      clear hr2 hy hhY hlo1 hhi1
      obtain ⟨x1, x2, x3⟩ := x
      obtain ⟨y1, y2, y3⟩ := y
      dsimp only at p0 p1 p2 q0 q1 q2 hbx hyb
      have hcmp := fun W => cmp_any (y1, y2, y3) (x1, x2, x3) hyb hbx W
      dsimp only [vT] at hcmp
      have eg := enters60
      go_wp2
      go_region_held3 (fun W => W.cell? ⟨g, h * 3, none⟩ = some (.int .i64 y1) ∧ W.cell? ⟨g, h * 3 + 1, none⟩ = some (.int .i64 y2) ∧ W.cell? ⟨g, h * 3 + 2, none⟩ = some (.int .i64 y3) ∧ W.cell? ⟨g, a * 3, none⟩ = some (.int .i64 x1) ∧ W.cell? ⟨g, a * 3 + 1, none⟩ = some (.int .i64 x2) ∧ W.cell? ⟨g, a * 3 + 2, none⟩ = some (.int .i64 x3))
        (first | exact ⟨p0, p1, p2, q0, q1, q2⟩ | exact ⟨cell_below hBx p0, cell_below hBx p1, cell_below hBx p2, cell_below hBx q0, cell_below hBx q1, cell_below hBx q2⟩)
        (first | (go_at_call 60; refine (hcmp _).mono ?_; rintro e wx ⟨v, rfl, rfl, hBx⟩))
      have HBx := Lib.hid hBx
      have Hrx := Lib.hid (Hr.out.drew.below HBx.out)
      have Hgx := Lib.hid (grown_below (grown_drew Hg.out) HBx.out)
      clear hBx hcmp p0 p1 p2 q0 q1 q2 Hr
      by_cases hlt2 : y2 < x2
      · have hd : y2 - x2 < 0 := by omega
        go_wp2
        go_roundw
        case rel => have := Hh.out; exact ⟨h + 1, j, by go_num, rfl, by omega, by omega, hj, Hlo1.out _ hlt2, Hhi.out, Hrx.out, Hgx.out⟩
        case measure => have := Hh.out; simp [intOf]; omega
      · have hd : ¬ y2 - x2 < 0 := by omega
        go_wp2
        go_roundw
        case rel => have := Hh.out; exact ⟨i, h, rfl, rfl, hi, by omega, by omega, Hlo.out, Hhi1.out _ (by omega), Hrx.out, Hgx.out⟩
        case measure => have := Hh.out; simp [intOf]; omega
    · have hije : i = j := by omega
      subst hije
      clear hlt hij
      go_wp2
      go_loopw [13] (fun v wr => ∃ (k : Nat), v = .int .i64 (a + k : Nat) ∧ m + k ≤ i ∧ TRow wr base g c n (P ++ Y.take k ++ x :: (Y.drop k ++ S)) ∧ w.grownBy wr (some g)) (fun v _ => i - (intOf v).toNat)
      case atStart => exact ⟨0, rfl, by omega, by simpa using Hr.out, Hg.out⟩
      case round =>
        clear Hr Hg
        obtain ⟨k, rfl, hk, hr, hg⟩ := hrel
        have Hr := Lib.hid hr
        have Hg := Lib.hid hg
        clear hr hg
        obtain ⟨q, hq⟩ : ∃ q, q = a + k := ⟨_, rfl⟩
        rw [← hq]
        have Hq := Lib.hid hq
        have g1 : IntKind.i64.wrap ((i : Int) - 1) = (i : Int) - 1 := IntWalk.i64_in _ (by omega)
        by_cases hlt : m + k < i
        · have hc1 : (q : Int) < (i : Int) - 1 := by have := Hm.out; omega
          clear hq
          have hkY : k < Y.length := by have := HY.out; omega
          have htk := List.take_succ_eq_append_getElem hkY
          have hdk := List.drop_eq_getElem_cons hkY
          generalize Y[k] = y at htk hdk
          rw [hdk] at Hr
          have HK : Hid (q = (P ++ Y.take k).length) := Lib.hid (by rw [List.length_append, List.length_take, HP.out, Hq.out]; omega)
          have Hr2 : Hid (TRow wr base g c n ((P ++ Y.take k) ++ x :: y :: (Y.drop (k + 1) ++ S))) := Hr
          have Htk := Lib.hid htk
          clear htk hdk hkY Hr
          obtain ⟨⟨p0, p1, p2⟩, ⟨q0, q1, q2⟩, hqn⟩ := Hr2.out.pair HK.out
          obtain ⟨x1, x2, x3⟩ := x
          obtain ⟨y1, y2, y3⟩ := y
          dsimp only at p0 p1 p2 q0 q1 q2
          have fz := Hr2.out.frozen
          have e1 : (0 : Int) ≤ (q : Int) + 1 := by omega
          have e2 : (q : Int) + 1 < (n : Int) := by omega
          have e3 : (q : Int) < (n : Int) := by omega
          have e4 : ((q : Int) + 1).toNat = q + 1 := by omega
          have e5 : IntKind.i64.wrap ((q : Int) + 1) = (q : Int) + 1 := IntWalk.i64_in _ (by omega)
          go_wp2
          go_big_region
          go_wp2
          go_roundw
          case rel =>
            refine ⟨k + 1, by rw [show a + (k + 1) = q + 1 by have := Hq.out; omega]; go_num, by omega, ?_, grown_drew (grown_put (grown_put Hg.out _ _ _ _) _ _ _ _)⟩
            have h := Hr2.out.swap2' HK.out
            rw [Htk.out]
            simpa using h.drew
          case measure => have := Hq.out; simp [intOf]; omega
        · have hc1 : ¬ (q : Int) < (i : Int) - 1 := by have := Hm.out; omega
          clear hq
          go_wp2
          go_end0
          have hki : i - m = k := by omega
          refine Ret.mk' rfl ⟨⟨Y.take k ++ x :: Y.drop k, ?_, ?_, by simpa using Hr.out⟩, Hg.out⟩
          · refine List.perm_middle.trans (List.Perm.cons _ ?_)
            rw [List.take_append_drop]
          · refine ByHi.insert ?_ ?_ ?_
            · rw [List.take_append_drop]; exact HoY.out
            · rw [← hki]; exact Hhi.out
            · rw [← hki]; exact fun u hu => Int.le_of_lt (Hlo.out u hu)
end Go.Proofs.Ytkjmeeggjmeajaa
