/- What the laws of the chapter rest on, part 21. -/
import Derived.Test.YtkpmmgeffbhngaaGreatDoorC20
set_option linter.unusedSimpArgs false
set_option linter.unusedVariables false
set_option linter.unnecessarySimpa false
namespace Prot
end Prot
namespace Go.Shelf
end Go.Shelf
namespace Go.Maps
end Go.Maps
namespace Go.Proofs.YtkpmmgeffbhngaaGreatDoor
open Go.RowKit Prot
theorem ByHi.take_lt {Y : List It} (h : ByHi Y) {k : Nat} (hk : k < Y.length) {x : Int} (hx : keyI Y[k] < x) : ∀ y ∈ Y.take (k + 1), keyI y < x := fun y hy => by
  obtain ⟨i, hi, rfl⟩ := List.mem_iff_getElem.1 hy
  rw [List.length_take] at hi
  rw [List.getElem_take]
  by_cases e : i = k
  · subst e; exact hx
  · have := List.pairwise_iff_getElem.1 h i k (by omega) hk (by omega); omega
theorem ByHi.take_le {Y : List It} (h : ByHi Y) {k : Nat} (hk : k < Y.length) {x : Int} (hx : keyI Y[k] ≤ x) : ∀ y ∈ Y.take (k + 1), keyI y ≤ x := fun y hy => by
  have := ByHi.take_lt h hk (x := x + 1) (by omega) y hy; omega
theorem ByHi.drop_ge {Y : List It} (h : ByHi Y) {k : Nat} (hk : k < Y.length) {x : Int} (hx : x ≤ keyI Y[k]) : ∀ y ∈ Y.drop k, x ≤ keyI y := fun y hy => by
  obtain ⟨i, hi, rfl⟩ := List.mem_iff_getElem.1 hy
  rw [List.length_drop] at hi
  rw [List.getElem_drop]
  by_cases e : i = 0
  · subst e; exact hx
  · have := List.pairwise_iff_getElem.1 h k (k + i) hk (by omega) (by omega); omega
theorem ByHi.drop_gt {Y : List It} (h : ByHi Y) {k : Nat} (hk : k < Y.length) {x : Int} (hx : x < keyI Y[k]) : ∀ y ∈ Y.drop k, x < keyI y := fun y hy => by
  have := ByHi.drop_ge h hk (x := x + 1) (by omega) y hy; omega
theorem TRow.at3 {w : World} {base g c n : Nat} {L1 Y L2 : List It} (h : TRow w base g c n (L1 ++ Y ++ L2)) {k : Nat} (hk : k < Y.length) {y : It} (hy : Y[k] = y) {j : Nat} (hj : j = L1.length + k) :
    (w.cell? ⟨g, j * 7, none⟩ = some (.int .i64 y.num) ∧ w.cell? ⟨g, j * 7 + 1, none⟩ = some (.int .i64 y.box) ∧ w.cell? ⟨g, j * 7 + 2, none⟩ = some (.int .i64 y.day) ∧ w.cell? ⟨g, j * 7 + 3, none⟩ = some (.int .i64 y.voice) ∧ w.cell? ⟨g, j * 7 + 4, none⟩ = some (.int .i64 y.turns) ∧ w.cell? ⟨g, j * 7 + 5, none⟩ = some (.int .i64 y.src) ∧ w.cell? ⟨g, j * 7 + 6, none⟩ = some (.bool y.cracked)) ∧ j < n := by
  have e : L1 ++ Y ++ L2 = (L1 ++ Y.take k) ++ y :: (Y.drop (k + 1) ++ L2) := by
    rw [← hy]
    have := List.take_append_drop k Y
    conv => lhs; rw [← this, List.drop_eq_getElem_cons hk]
    simp only [List.append_assoc, List.cons_append]
  rw [e] at h
  refine h.one ?_
  rw [List.length_append, List.length_take, hj]; omega
/-- the store of the lower place first -/
theorem TRow.swap2' {w : World} {base g c n : Nat} {L1 L2 : List It} {u x : It} (h : TRow w base g c n (L1 ++ u :: x :: L2)) {k : Nat} (hk : k = L1.length) :
    TRow ((((((((((((((w.setCell ⟨g, k * 7, none⟩ (.int .i64 x.num)).setCell ⟨g, k * 7 + 1, none⟩ (.int .i64 x.box)).setCell ⟨g, k * 7 + 2, none⟩ (.int .i64 x.day)).setCell ⟨g, k * 7 + 3, none⟩ (.int .i64 x.voice)).setCell ⟨g, k * 7 + 4, none⟩ (.int .i64 x.turns)).setCell ⟨g, k * 7 + 5, none⟩ (.int .i64 x.src)).setCell ⟨g, k * 7 + 6, none⟩ (.bool x.cracked)).setCell ⟨g, (k + 1) * 7, none⟩ (.int .i64 u.num)).setCell ⟨g, (k + 1) * 7 + 1, none⟩ (.int .i64 u.box)).setCell ⟨g, (k + 1) * 7 + 2, none⟩ (.int .i64 u.day)).setCell ⟨g, (k + 1) * 7 + 3, none⟩ (.int .i64 u.voice)).setCell ⟨g, (k + 1) * 7 + 4, none⟩ (.int .i64 u.turns)).setCell ⟨g, (k + 1) * 7 + 5, none⟩ (.int .i64 u.src)).setCell ⟨g, (k + 1) * 7 + 6, none⟩ (.bool u.cracked)) base g c n (L1 ++ x :: u :: L2) :=
  TRow.swapFar (L2 := []) h hk (by rw [hk]; rfl)
set_option maxRecDepth 100000 in
set_option maxHeartbeats 1000000 in
theorem merge1_any (base g c n a m b : Nat) (P Y S : List It) (x : It) (w : World) (hrow : TRow w base g c n (P ++ [x] ++ Y ++ S)) (hn : n ≤ 1000) (_hc : n ≤ c) (hP : P.length = a) (hm : a + 1 = m) (hY : m + Y.length = b) (hbx : okI x) (hby : ∀ y ∈ Y, okI y) (hoY : ByHi Y) (hno : ∀ y ∈ Y, x.num < y.num) :
    Calls Tryz.prog 142 #[.slice (some ⟨g, 0, none⟩) n c, .int .i64 a, .int .i64 m, .int .i64 b, .func (.func 83) #[] #[]] w (Ret fun _ w' => (∃ Z, Z.Perm (x :: Y) ∧ ByHi Z ∧ TRow w' base g c n (P ++ Z ++ S)) ∧ w.grownBy w' (some g)) := by
  have hbn : b ≤ n := by have := hrow.1; simp at this; omega
  have hmb : m ≤ b := by omega
  have Hrow := Lib.hid hrow; clear hrow
  have HP := Lib.hid hP; clear hP
  have HY := Lib.hid hY; clear hY
  have Hm := Lib.hid hm
  have Hby := Lib.hid hby; clear hby
  have HoY := Lib.hid hoY; clear hoY
  have Hno := Lib.hid hno; clear hno
  have g1 : IntKind.i64.wrap ((m : Int) - (a : Int)) = 1 := by rw [show (m : Int) - (a : Int) = 1 by omega]; rfl
  clear hm
  go_enter Tryz.func142, Tryz.ntmps142
  go_wp2
  go_loopw [10, 11] (fun vi vj wr => ∃ (i j : Nat), vi = .int .i64 i ∧ vj = .int .i64 j ∧ m ≤ i ∧ i ≤ j ∧ j ≤ b ∧ (∀ y ∈ Y.take (i - m), keyI y < keyI x) ∧ (∀ y ∈ Y.drop (j - m), keyI x ≤ keyI y) ∧ TRow wr base g c n (P ++ [x] ++ Y ++ S) ∧ w.grownBy wr (some g)) (fun vi vj _ => (intOf vj).toNat - (intOf vi).toNat)
  case atStart => exact ⟨m, b, rfl, rfl, Nat.le_refl _, hmb, Nat.le_refl _, by simp, by rw [List.drop_of_length_le (by have := HY.out; omega)]; simp, Hrow.out, World.grownBy.refl _ _⟩
  case round =>
    obtain ⟨i, j, rfl, rfl, hi, hij, hj, hlo, hhi, hr, hg⟩ := hrel
    have Hlo := Lib.hid hlo
    have Hhi := Lib.hid hhi
    have Hr := Lib.hid hr
    have Hg := Lib.hid hg
    clear hlo hhi hr hg Hrow g1
    by_cases hlt : i < j
    · obtain ⟨h, hh⟩ : ∃ h, h = (i + j) / 2 := ⟨_, rfl⟩
      have Hh : Hid (i ≤ h ∧ h < j) := Lib.hid (by omega)
      have hlt' : (i : Int) < (j : Int) := by omega
      have g2 : IntKind.i64.wrap ((i : Int) + (j : Int)) = (i : Int) + (j : Int) := IntWalk.i64_in _ (by omega)
      have gh : ((i : Int) + (j : Int)) / 2 = (h : Int) := by omega
      clear hh
      have hhY : h - m < Y.length := by have := Hh.out; have := HY.out; omega
      have hyb := Hby.out _ (List.getElem_mem hhY)
      have hnyx := Hno.out _ (List.getElem_mem hhY)
      have hlo1 : ∀ z, keyI Y[h - m] < z → ∀ y ∈ Y.take (h + 1 - m), keyI y < z := fun z hz => by rw [show h + 1 - m = h - m + 1 by have := Hh.out; omega]; exact HoY.out.take_lt hhY hz
      have hhi1 : ∀ z, z ≤ keyI Y[h - m] → ∀ y ∈ Y.drop (h - m), z ≤ keyI y := fun z hz => HoY.out.drop_ge hhY hz
      generalize hy : Y[h - m] = y at hyb hlo1 hhi1 hnyx
      have hlh := Hr.out.at3 hhY hy (j := h) (by rw [List.length_append, HP.out]; have := Hm.out; have := Hh.out; simp; omega)
      obtain ⟨⟨p0, p1, p2, p3, p4, p5, p6⟩, hhn⟩ := hlh
      have hr2 := Hr.out
      rw [show P ++ [x] ++ Y ++ S = P ++ x :: (Y ++ S) by simp] at hr2
      obtain ⟨⟨q0, q1, q2, q3, q4, q5, q6⟩, han⟩ := hr2.one HP.out.symm
      have HKx : Hid (keyI y < keyI x ↔ y.box < x.box) := Lib.hid (key_lt hyb hbx hnyx)
      have Hlo1 := Lib.hid hlo1
      have Hhi1 := Lib.hid hhi1
      clear hr2 hy hhY hlo1 hhi1 hnyx
      obtain ⟨x1, x2, x3, x4, x5, x6, x7⟩ := x
      obtain ⟨y1, y2, y3, y4, y5, y6, y7⟩ := y
      dsimp only at p0 p1 p2 p3 p4 p5 p6 q0 q1 q2 q3 q4 q5 q6 hbx hyb HKx
      have hcmp := fun W => cmp_any (⟨y1, y2, y3, y4, y5, y6, y7⟩ : It) (⟨x1, x2, x3, x4, x5, x6, x7⟩ : It) W
      dsimp only [vIt] at hcmp
      have eg := enters83
      go_wp2
      go_region_held3 (fun W => W.cell? ⟨g, h * 7, none⟩ = some (.int .i64 y1) ∧ W.cell? ⟨g, h * 7 + 1, none⟩ = some (.int .i64 y2) ∧ W.cell? ⟨g, h * 7 + 2, none⟩ = some (.int .i64 y3) ∧ W.cell? ⟨g, h * 7 + 3, none⟩ = some (.int .i64 y4) ∧ W.cell? ⟨g, h * 7 + 4, none⟩ = some (.int .i64 y5) ∧ W.cell? ⟨g, h * 7 + 5, none⟩ = some (.int .i64 y6) ∧ W.cell? ⟨g, h * 7 + 6, none⟩ = some (.bool y7) ∧ W.cell? ⟨g, a * 7, none⟩ = some (.int .i64 x1) ∧ W.cell? ⟨g, a * 7 + 1, none⟩ = some (.int .i64 x2) ∧ W.cell? ⟨g, a * 7 + 2, none⟩ = some (.int .i64 x3) ∧ W.cell? ⟨g, a * 7 + 3, none⟩ = some (.int .i64 x4) ∧ W.cell? ⟨g, a * 7 + 4, none⟩ = some (.int .i64 x5) ∧ W.cell? ⟨g, a * 7 + 5, none⟩ = some (.int .i64 x6) ∧ W.cell? ⟨g, a * 7 + 6, none⟩ = some (.bool x7))
        (first | exact ⟨p0, p1, p2, p3, p4, p5, p6, q0, q1, q2, q3, q4, q5, q6⟩ | exact ⟨cell_below hBx p0, cell_below hBx p1, cell_below hBx p2, cell_below hBx p3, cell_below hBx p4, cell_below hBx p5, cell_below hBx p6, cell_below hBx q0, cell_below hBx q1, cell_below hBx q2, cell_below hBx q3, cell_below hBx q4, cell_below hBx q5, cell_below hBx q6⟩)
        (first | (go_at_call 83; refine (hcmp _).mono ?_; rintro e wx ⟨v, rfl, rfl, hBx⟩))
      have HBx := Lib.hid hBx
      have Hrx := Lib.hid (Hr.out.drew.below HBx.out)
      have Hgx := Lib.hid (grown_below (grown_drew Hg.out) HBx.out)
      clear hBx hcmp p0 p1 p2 p3 p4 p5 p6 q0 q1 q2 q3 q4 q5 q6 Hr
      by_cases hlt2 : y2 < x2
      · have hd : cmpV y2 x2 < 0 := cmp_lt.2 hlt2
        go_wp2
        go_roundw
        case rel => have := Hh.out; exact ⟨h + 1, j, by go_num, rfl, by omega, by omega, hj, Hlo1.out _ (HKx.out.2 hlt2), Hhi.out, Hrx.out, Hgx.out⟩
        case measure => have := Hh.out; simp [intOf]; omega
      · have hd : ¬ cmpV y2 x2 < 0 := fun h => hlt2 (cmp_lt.1 h)
        go_wp2
        go_roundw
        case rel => have := Hh.out; exact ⟨i, h, rfl, rfl, hi, by omega, by omega, Hlo.out, Hhi1.out _ (Int.not_lt.1 fun h => hlt2 (HKx.out.1 h)), Hrx.out, Hgx.out⟩
        case measure => have := Hh.out; simp [intOf]; omega
    · have hije : i = j := by omega
      subst hije
      clear hlt hij
      go_wp2
      go_loopw [13] (fun v wr => ∃ (k : Nat), v = .int .i64 (a + k : Nat) ∧ m + k ≤ i ∧ TRow wr base g c n (P ++ Y.take k ++ x :: (Y.drop k ++ S)) ∧ w.grownBy wr (some g)) (fun v _ => i - (intOf v).toNat)
      case atStart => exact ⟨0, rfl, by omega, by simpa using Hr.out, Hg.out⟩
      case round =>
        clear Hr Hg
        obtain ⟨k, rfl, hk, hr, hg⟩ := hrel
        have Hr := Lib.hid hr
        have Hg := Lib.hid hg
        clear hr hg
        obtain ⟨q, hq⟩ : ∃ q, q = a + k := ⟨_, rfl⟩
        rw [← hq]
        have Hq := Lib.hid hq
        have g1 : IntKind.i64.wrap ((i : Int) - 1) = (i : Int) - 1 := IntWalk.i64_in _ (by omega)
        by_cases hlt : m + k < i
        · have hc1 : (q : Int) < (i : Int) - 1 := by have := Hm.out; omega
          clear hq
          have hkY : k < Y.length := by have := HY.out; omega
          have htk := List.take_succ_eq_append_getElem hkY
          have hdk := List.drop_eq_getElem_cons hkY
          generalize Y[k] = y at htk hdk
          rw [hdk] at Hr
          have HK : Hid (q = (P ++ Y.take k).length) := Lib.hid (by rw [List.length_append, List.length_take, HP.out, Hq.out]; omega)
          have Hr2 : Hid (TRow wr base g c n ((P ++ Y.take k) ++ x :: y :: (Y.drop (k + 1) ++ S))) := Hr
          have Htk := Lib.hid htk
          clear htk hdk hkY Hr
          obtain ⟨⟨p0, p1, p2, p3, p4, p5, p6⟩, ⟨q0, q1, q2, q3, q4, q5, q6⟩, hqn⟩ := Hr2.out.pair HK.out
          obtain ⟨x1, x2, x3, x4, x5, x6, x7⟩ := x
          obtain ⟨y1, y2, y3, y4, y5, y6, y7⟩ := y
          dsimp only at p0 p1 p2 p3 p4 p5 p6 q0 q1 q2 q3 q4 q5 q6
          have fz := Hr2.out.frozen
          have e1 : (0 : Int) ≤ (q : Int) + 1 := by omega
          have e2 : (q : Int) + 1 < (n : Int) := by omega
          have e3 : (q : Int) < (n : Int) := by omega
          have e4 : ((q : Int) + 1).toNat = q + 1 := by omega
          have e5 : IntKind.i64.wrap ((q : Int) + 1) = (q : Int) + 1 := IntWalk.i64_in _ (by omega)
          go_wp2
          go_big_region
          go_wp2
          go_roundw
          case rel =>
            refine ⟨k + 1, by rw [show a + (k + 1) = q + 1 by have := Hq.out; omega]; go_num, by omega, ?_, grown_drew (grown_put (grown_put Hg.out _ _ _ _ _ _ _ _) _ _ _ _ _ _ _ _)⟩
            have h := Hr2.out.swap2' HK.out
            rw [Htk.out]
            simpa using h.drew
          case measure => have := Hq.out; simp [intOf]; omega
        · have hc1 : ¬ (q : Int) < (i : Int) - 1 := by have := Hm.out; omega
          clear hq
          go_wp2
          go_end0
          have hki : i - m = k := by omega
          refine Ret.mk' rfl ⟨⟨Y.take k ++ x :: Y.drop k, ?_, ?_, by simpa using Hr.out⟩, Hg.out⟩
          · refine List.perm_middle.trans (List.Perm.cons _ ?_)
            rw [List.take_append_drop]
          · refine ByHi.insert ?_ ?_ ?_
            · rw [List.take_append_drop]; exact HoY.out
            · rw [← hki]; exact Hhi.out
            · rw [← hki]; exact fun u hu => Int.le_of_lt (Hlo.out u hu)
end Go.Proofs.YtkpmmgeffbhngaaGreatDoor
namespace Go.Proofs.YtkpmmgeffbhngaaGreatDoor
open Go.RowKit Prot
set_option maxRecDepth 100000 in
set_option maxHeartbeats 1000000 in
theorem merge2_any (base g c n a m b : Nat) (P X S : List It) (y : It) (w : World) (hrow : TRow w base g c n (P ++ X ++ [y] ++ S)) (hn : n ≤ 1000) (_hc : n ≤ c) (hP : P.length = a) (hX : a + X.length = m) (hb : m + 1 = b) (hX2 : 1 < X.length) (hby : okI y) (hbx : ∀ x ∈ X, okI x) (hoX : ByHi X) (hno : ∀ x ∈ X, x.num < y.num) :
    Calls Tryz.prog 142 #[.slice (some ⟨g, 0, none⟩) n c, .int .i64 a, .int .i64 m, .int .i64 b, .func (.func 83) #[] #[]] w (Ret fun _ w' => (∃ Z, Z.Perm (y :: X) ∧ ByHi Z ∧ TRow w' base g c n (P ++ Z ++ S)) ∧ w.grownBy w' (some g)) := by
  have hbn : m < n := by have := hrow.1; simp at this; omega
  have ham : a + 1 < m := by omega
  have Hrow := Lib.hid hrow; clear hrow
  have HP := Lib.hid hP; clear hP
  have HX := Lib.hid hX; clear hX
  have Hby := Lib.hid hbx; clear hbx
  have HoX := Lib.hid hoX; clear hoX
  have Hno := Lib.hid hno; clear hno
  clear hX2
  have g1 : IntKind.i64.wrap ((m : Int) - (a : Int)) = (m : Int) - (a : Int) := IntWalk.i64_in _ (by omega)
  have g2 : IntKind.i64.wrap ((b : Int) - (m : Int)) = 1 := by rw [show (b : Int) - (m : Int) = 1 by omega]; rfl
  have g3 : ((m : Int) - (a : Int) == 1) = false := by simp; omega
  have Hb := Lib.hid hb; clear hb
  go_enter Tryz.func142, Tryz.ntmps142
  go_wp2
  go_loopw [14, 15] (fun vi vj wr => ∃ (i j : Nat), vi = .int .i64 i ∧ vj = .int .i64 j ∧ a ≤ i ∧ i ≤ j ∧ j ≤ m ∧ (∀ x ∈ X.take (i - a), keyI x ≤ keyI y) ∧ (∀ x ∈ X.drop (j - a), keyI y < keyI x) ∧ TRow wr base g c n (P ++ X ++ [y] ++ S) ∧ w.grownBy wr (some g)) (fun vi vj _ => (intOf vj).toNat - (intOf vi).toNat)
  case atStart => exact ⟨a, m, rfl, rfl, Nat.le_refl _, by omega, Nat.le_refl _, by simp, by rw [List.drop_of_length_le (by have := HX.out; omega)]; simp, Hrow.out, World.grownBy.refl _ _⟩
  case round =>
    obtain ⟨i, j, rfl, rfl, hi, hij, hj, hlo, hhi, hr, hg⟩ := hrel
    have Hlo := Lib.hid hlo
    have Hhi := Lib.hid hhi
    have Hr := Lib.hid hr
    have Hg := Lib.hid hg
    clear hlo hhi hr hg Hrow g1 g2 g3
    by_cases hlt : i < j
    · obtain ⟨h, hh⟩ : ∃ h, h = (i + j) / 2 := ⟨_, rfl⟩
      have Hh : Hid (i ≤ h ∧ h < j) := Lib.hid (by omega)
      have hlt' : (i : Int) < (j : Int) := by omega
      have g2 : IntKind.i64.wrap ((i : Int) + (j : Int)) = (i : Int) + (j : Int) := IntWalk.i64_in _ (by omega)
      have gh : ((i : Int) + (j : Int)) / 2 = (h : Int) := by omega
      clear hh
      have hhX : h - a < X.length := by have := Hh.out; have := HX.out; omega
      have hxb := Hby.out _ (List.getElem_mem hhX)
      have hnyx := Hno.out _ (List.getElem_mem hhX)
      have hlo1 : ∀ z, keyI X[h - a] ≤ z → ∀ y ∈ X.take (h + 1 - a), keyI y ≤ z := fun z hz => by rw [show h + 1 - a = h - a + 1 by have := Hh.out; omega]; exact HoX.out.take_le hhX hz
      have hhi1 : ∀ z, z < keyI X[h - a] → ∀ y ∈ X.drop (h - a), z < keyI y := fun z hz => HoX.out.drop_gt hhX hz
      generalize hx : X[h - a] = x at hxb hlo1 hhi1 hnyx
      have hr1 := Hr.out
      rw [List.append_assoc (P ++ X)] at hr1
      have hlh := hr1.at3 hhX hx (j := h) (by rw [HP.out]; have := Hh.out; omega)
      obtain ⟨⟨q0, q1, q2, q3, q4, q5, q6⟩, hhn⟩ := hlh
      have hr2 := Hr.out
      rw [show P ++ X ++ [y] ++ S = (P ++ X) ++ y :: S by simp] at hr2
      obtain ⟨⟨p0, p1, p2, p3, p4, p5, p6⟩, hmn⟩ := hr2.one (k := m) (by rw [List.length_append, HP.out]; exact HX.out.symm)
      have HKx : Hid (keyI y < keyI x ↔ y.box < x.box) := Lib.hid (key_lt hby hxb hnyx)
      have Hlo1 := Lib.hid hlo1
      have Hhi1 := Lib.hid hhi1
      clear hr1 hr2 hx hhX hlo1 hhi1 hnyx
      obtain ⟨x1, x2, x3, x4, x5, x6, x7⟩ := x
      obtain ⟨y1, y2, y3, y4, y5, y6, y7⟩ := y
      dsimp only at p0 p1 p2 p3 p4 p5 p6 q0 q1 q2 q3 q4 q5 q6 hby hxb HKx
      have hcmp := fun W => cmp_any (⟨y1, y2, y3, y4, y5, y6, y7⟩ : It) (⟨x1, x2, x3, x4, x5, x6, x7⟩ : It) W
      dsimp only [vIt] at hcmp
      have eg := enters83
      go_wp2
      go_region_held3 (fun W => W.cell? ⟨g, m * 7, none⟩ = some (.int .i64 y1) ∧ W.cell? ⟨g, m * 7 + 1, none⟩ = some (.int .i64 y2) ∧ W.cell? ⟨g, m * 7 + 2, none⟩ = some (.int .i64 y3) ∧ W.cell? ⟨g, m * 7 + 3, none⟩ = some (.int .i64 y4) ∧ W.cell? ⟨g, m * 7 + 4, none⟩ = some (.int .i64 y5) ∧ W.cell? ⟨g, m * 7 + 5, none⟩ = some (.int .i64 y6) ∧ W.cell? ⟨g, m * 7 + 6, none⟩ = some (.bool y7) ∧ W.cell? ⟨g, h * 7, none⟩ = some (.int .i64 x1) ∧ W.cell? ⟨g, h * 7 + 1, none⟩ = some (.int .i64 x2) ∧ W.cell? ⟨g, h * 7 + 2, none⟩ = some (.int .i64 x3) ∧ W.cell? ⟨g, h * 7 + 3, none⟩ = some (.int .i64 x4) ∧ W.cell? ⟨g, h * 7 + 4, none⟩ = some (.int .i64 x5) ∧ W.cell? ⟨g, h * 7 + 5, none⟩ = some (.int .i64 x6) ∧ W.cell? ⟨g, h * 7 + 6, none⟩ = some (.bool x7))
        (first | exact ⟨p0, p1, p2, p3, p4, p5, p6, q0, q1, q2, q3, q4, q5, q6⟩ | exact ⟨cell_below hBx p0, cell_below hBx p1, cell_below hBx p2, cell_below hBx p3, cell_below hBx p4, cell_below hBx p5, cell_below hBx p6, cell_below hBx q0, cell_below hBx q1, cell_below hBx q2, cell_below hBx q3, cell_below hBx q4, cell_below hBx q5, cell_below hBx q6⟩)
        (first | (go_at_call 83; refine (hcmp _).mono ?_; rintro e wx ⟨v, rfl, rfl, hBx⟩))
      have HBx := Lib.hid hBx
      have Hrx := Lib.hid (Hr.out.drew.below HBx.out)
      have Hgx := Lib.hid (grown_below (grown_drew Hg.out) HBx.out)
      clear hBx hcmp p0 p1 p2 p3 p4 p5 p6 q0 q1 q2 q3 q4 q5 q6 Hr
      by_cases hlt2 : y2 < x2
      · have hd : decide (cmpV y2 x2 < 0) = true := decide_eq_true (cmp_lt.2 hlt2)
        have hd2 : (!decide (cmpV y2 x2 < 0)) = false := by rw [hd]; rfl
        go_wp2
        all_goals try (exfalso; rename_i hx; rw [hd] at hx; exact absurd hx (by decide))
        go_roundw
        case rel => have := Hh.out; exact ⟨i, h, rfl, rfl, hi, by omega, by omega, Hlo.out, Hhi1.out _ (HKx.out.2 hlt2), Hrx.out, Hgx.out⟩
        case measure => have := Hh.out; simp [intOf]; omega
      · have hd : decide (cmpV y2 x2 < 0) = false := decide_eq_false (fun h => hlt2 (cmp_lt.1 h))
        have hd2 : (!decide (cmpV y2 x2 < 0)) = true := by rw [hd]; rfl
        go_wp2
        all_goals try (exfalso; rename_i hx; rw [hd] at hx; exact absurd hx (by decide))
        go_roundw
        case rel => have := Hh.out; exact ⟨h + 1, j, by go_num, rfl, by omega, by omega, hj, Hlo1.out _ (Int.not_lt.1 fun h => hlt2 (HKx.out.1 h)), Hhi.out, Hrx.out, Hgx.out⟩
        case measure => have := Hh.out; simp [intOf]; omega
    · have hije : i = j := by omega
      subst hije
      clear hlt hij
      go_wp2
      go_loopw [17] (fun v wr => ∃ (q k : Nat), v = .int .i64 q ∧ q = a + k ∧ i ≤ q ∧ q ≤ m ∧ TRow wr base g c n (P ++ X.take k ++ y :: (X.drop k ++ S)) ∧ w.grownBy wr (some g)) (fun v _ => (intOf v).toNat)
      case atStart => exact ⟨m, X.length, rfl, HX.out.symm, hj, Nat.le_refl _, by simpa using Hr.out, Hg.out⟩
      case round =>
        clear Hr Hg
        obtain ⟨q, k, rfl, hq, hiq, hqm, hr, hg⟩ := hrel
        have Hr := Lib.hid hr
        have Hg := Lib.hid hg
        have Hq := Lib.hid hq
        clear hr hg
        by_cases hlt : i < q
        · obtain ⟨k', rfl⟩ : ∃ k', k = k' + 1 := ⟨k - 1, by omega⟩
          obtain ⟨q', rfl⟩ : ∃ q', q = q' + 1 := ⟨q - 1, by omega⟩
          have hq' : q' = a + k' := by omega
          have Hq' := Lib.hid hq'
          have hc1 : (i : Int) < (q' : Int) + 1 := by omega
          clear hq hq'
          have hkX : k' < X.length := by have := HX.out; have := Hq'.out; omega
          have htk := List.take_succ_eq_append_getElem hkX
          have hdk := List.drop_eq_getElem_cons hkX
          generalize X[k'] = x at htk hdk
          rw [htk] at Hr
          have HK : Hid (q' = (P ++ X.take k').length) := Lib.hid (by rw [List.length_append, List.length_take, HP.out, Hq'.out]; omega)
          have Hr2 : Hid (TRow wr base g c n ((P ++ X.take k') ++ x :: y :: (X.drop (k' + 1) ++ S))) := Lib.hid (by have h := Hr.out; simpa using h)
          have Hdk := Lib.hid hdk
          clear htk hdk hkX Hr
          obtain ⟨⟨p0, p1, p2, p3, p4, p5, p6⟩, ⟨q0, q1, q2, q3, q4, q5, q6⟩, hqn⟩ := Hr2.out.pair HK.out
          obtain ⟨x1, x2, x3, x4, x5, x6, x7⟩ := x
          obtain ⟨y1, y2, y3, y4, y5, y6, y7⟩ := y
          dsimp only at p0 p1 p2 p3 p4 p5 p6 q0 q1 q2 q3 q4 q5 q6
          have fz := Hr2.out.frozen
          have e1 : (0 : Int) ≤ (q' : Int) + 1 := by omega
          have e2 : (q' : Int) + 1 < (n : Int) := by omega
          have e3 : (q' : Int) < (n : Int) := by omega
          have e4 : ((q' : Int) + 1).toNat = q' + 1 := by omega
          have e5 : IntKind.i64.wrap ((q' : Int) + 1 - 1) = (q' : Int) := by rw [show (q' : Int) + 1 - 1 = q' by omega]; exact IntWalk.i64_in _ (by omega)
          have e6 : IntKind.i64.wrap ((q' : Int)) = (q' : Int) := IntWalk.i64_in _ (by omega)
          go_wp2
          go_big_region
          go_wp2
          go_roundw
          case rel =>
            refine ⟨q', k', (by first | rfl | go_num), Hq'.out, by omega, by omega, ?_, grown_drew (grown_put (grown_put Hg.out _ _ _ _ _ _ _ _) _ _ _ _ _ _ _ _)⟩
            have h := Hr2.out.swap2 HK.out
            rw [Hdk.out]
            simpa using h.drew
          case measure => simp [intOf]
        · have hqi : q = i := by omega
          subst hqi
          go_wp2
          go_end0
          have hki : q - a = k := by omega
          refine Ret.mk' rfl ⟨⟨X.take k ++ y :: X.drop k, ?_, ?_, by simpa using Hr.out⟩, Hg.out⟩
          · refine List.perm_middle.trans (List.Perm.cons _ ?_)
            rw [List.take_append_drop]
          · refine ByHi.insert ?_ ?_ ?_
            · rw [List.take_append_drop]; exact HoX.out
            · rw [← hki]; exact fun u hu => Int.le_of_lt (Hhi.out u hu)
            · rw [← hki]; exact Hlo.out
end Go.Proofs.YtkpmmgeffbhngaaGreatDoor
namespace Go.Proofs.YtkpmmgeffbhngaaGreatDoor
open Go.RowKit Prot
/-- what symMerge does with two ordered lists beside each other -/
def SymOk (base g c n : Nat) (X Y : List It) : Prop := ∀ (a m b : Nat) (P S : List It) (w : World), TRow w base g c n (P ++ X ++ Y ++ S) → P.length = a → a + X.length = m → m + Y.length = b →
  Calls Tryz.prog 142 #[.slice (some ⟨g, 0, none⟩) n c, .int .i64 a, .int .i64 m, .int .i64 b, .func (.func 83) #[] #[]] w (Ret fun _ w' => (∃ Z, Z.Perm (X ++ Y) ∧ ByHi Z ∧ TRow w' base g c n (P ++ Z ++ S)) ∧ w.grownBy w' (some g))
/-- the upper end of the tone at a place of a list that begins at s -/
def keyAt (X : List It) (s k : Nat) : Int := keyI (X.getD (k - s) ⟨0, 0, 0, 0, 0, 0, false⟩)
theorem keyAt_get {X : List It} {s k : Nat} (h : k - s < X.length) : keyAt X s k = keyI X[k - s] := by
  unfold keyAt; rw [List.getD_eq_getElem?_getD, List.getElem?_eq_getElem h]; rfl
theorem ByHi.parts {X Y : List It} {k l : Nat} (hX : ByHi X) (hY : ByHi Y) (h1 : k = 0 ∨ Y.length ≤ l ∨ keyAt X 0 (k - 1) ≤ keyAt Y 0 l) (h2 : l = 0 ∨ X.length ≤ k ∨ keyAt Y 0 (l - 1) < keyAt X 0 k) (hk : k ≤ X.length) (hl : l ≤ Y.length) :
    ∀ x ∈ X.take k ++ Y.take l, ∀ y ∈ X.drop k ++ Y.drop l, keyI x ≤ keyI y := by
  intro x hx y hy
  rcases List.mem_append.1 hx with hx | hx <;> rcases List.mem_append.1 hy with hy | hy
  · have := hX; unfold ByHi at this; rw [← List.take_append_drop k X, List.pairwise_append] at this
    exact this.2.2 x hx y hy
  · have hk0 : k ≠ 0 := fun e => by subst e; simp at hx
    have hlY : l < Y.length := by
      rcases Nat.lt_or_ge l Y.length with h | h
      · exact h
      · rw [List.drop_of_length_le h] at hy; simp at hy
    rcases h1 with h1 | h1 | h1
    · exact absurd h1 hk0
    · omega
    · rw [keyAt_get (by omega), keyAt_get (by simpa using hlY)] at h1
      simp only [Nat.sub_zero] at h1
      have a1 := hX.take_le (k := k - 1) (by omega) (Int.le_refl _) x (by rw [show k - 1 + 1 = k by omega]; exact hx)
      have a2 := hY.drop_ge hlY (Int.le_refl _) y hy
      omega
  · have hl0 : l ≠ 0 := fun e => by subst e; simp at hx
    have hkX : k < X.length := by
      rcases Nat.lt_or_ge k X.length with h | h
      · exact h
      · rw [List.drop_of_length_le h] at hy; simp at hy
    rcases h2 with h2 | h2 | h2
    · exact absurd h2 hl0
    · omega
    · rw [keyAt_get (by omega), keyAt_get (by simpa using hkX)] at h2
      simp only [Nat.sub_zero] at h2
      have a1 := hY.take_le (k := l - 1) (by omega) (Int.le_refl _) x (by rw [show l - 1 + 1 = l by omega]; exact hx)
      have a2 := hX.drop_ge hkX (Int.le_refl _) y hy
      omega
  · have := hY; unfold ByHi at this; rw [← List.take_append_drop l Y, List.pairwise_append] at this
    exact this.2.2 x hx y hy
theorem keyAt_shift {X : List It} {s k : Nat} : keyAt X s k = keyAt X 0 (k - s) := rfl
theorem ByHi.sub {X Y : List It} (h : ByHi X) (hs : Y.Sublist X) : ByHi Y := List.Pairwise.sublist hs h
theorem ByHi.join {A B Z1 Z2 : List It} (h1 : ByHi Z1) (h2 : ByHi Z2) (p1 : Z1.Perm A) (p2 : Z2.Perm B) (h : ∀ x ∈ A, ∀ y ∈ B, keyI x ≤ keyI y) : ByHi (Z1 ++ Z2) := by
  unfold ByHi; rw [List.pairwise_append]
  exact ⟨h1, h2, fun x hx y hy => h x (p1.subset hx) y (p2.subset hy)⟩
theorem perm_cross (X1 Y1 X2 Y2 : List It) : ((X1 ++ Y1) ++ (X2 ++ Y2)).Perm ((X1 ++ X2) ++ (Y1 ++ Y2)) := by
  rw [List.append_assoc, List.append_assoc]
  refine List.Perm.append_left X1 ?_
  rw [← List.append_assoc, ← List.append_assoc]
  exact List.Perm.append_right Y2 List.perm_append_comm
/-- the state behind the search: where the lists are parted -/
structure Parted (X Y : List It) (a m b mid s e : Nat) : Prop where
  from_ : a ≤ s
  sm : s ≤ m
  me : m ≤ e
  eb : e ≤ b
  sum : s + e = mid + m
  lo : s = a ∨ e = b ∨ keyAt X a (s - 1) ≤ keyAt Y m e
  hi : s = m ∨ e = m ∨ keyAt Y m (e - 1) < keyAt X a s
theorem Parted.law {X Y : List It} {a m b mid s e : Nat} (h : Parted X Y a m b mid s e) (hX : ByHi X) (hY : ByHi Y) (e1 : a + X.length = m) (e2 : m + Y.length = b) :
    ∀ x ∈ X.take (s - a) ++ Y.take (e - m), ∀ y ∈ X.drop (s - a) ++ Y.drop (e - m), keyI x ≤ keyI y := by
  have := h.from_; have := h.sm; have := h.me; have := h.eb
  refine ByHi.parts hX hY ?_ ?_ (by omega) (by omega)
  · rcases h.lo with h1 | h1 | h1
    · exact .inl (by omega)
    · exact .inr (.inl (by omega))
    · rw [keyAt_shift (X := X), keyAt_shift (X := Y), show s - 1 - a = s - a - 1 by omega] at h1; exact .inr (.inr h1)
  · rcases h.hi with h1 | h1 | h1
    · exact .inr (.inl (by omega))
    · exact .inl (by omega)
    · rw [keyAt_shift (X := X), keyAt_shift (X := Y), show e - 1 - m = e - m - 1 by omega] at h1; exact .inr (.inr h1)
end Go.Proofs.YtkpmmgeffbhngaaGreatDoor
