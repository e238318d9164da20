/- What the laws of the chapter rest on, part 22. -/
import Derived.Test.YtkpmmgeffbhngaaGreatDoorC21
set_option linter.unusedSimpArgs false
set_option linter.unusedVariables false
set_option linter.unnecessarySimpa false
namespace Prot
end Prot
namespace Go.Shelf
end Go.Shelf
namespace Go.Maps
end Go.Maps
namespace Go.Proofs.YtkpmmgeffbhngaaGreatDoor
open Go.RowKit Prot
set_option maxRecDepth 100000 in
set_option maxHeartbeats 2000000 in
theorem merge3_any (base g c n : Nat) (X Y : List It) (hn : n ≤ 1000) (hc : n ≤ c) (hX2 : 1 < X.length) (hY2 : 1 < Y.length) (hbx : ∀ x ∈ X, okI x) (hby : ∀ y ∈ Y, okI y) (hoX : ByHi X) (hoY : ByHi Y) (hno : ∀ x ∈ X, ∀ y ∈ Y, x.num < y.num)
    (ih : ∀ X' Y' : List It, X'.length + Y'.length < X.length + Y.length → 0 < X'.length → 0 < Y'.length → ByHi X' → ByHi Y' → (∀ x ∈ X', okI x) → (∀ y ∈ Y', okI y) → (∀ x ∈ X', ∀ y ∈ Y', x.num < y.num) → SymOk base g c n X' Y') : SymOk base g c n X Y := by
  intro a m b P S w hrow hP hX hY
  have hbn : b ≤ n := by have := hrow.1; simp at this; omega
  have ham : a + 1 < m := by omega
  have hmb : m + 1 < b := by omega
  have Hrow := Lib.hid hrow; clear hrow
  have HP := Lib.hid hP; clear hP
  have HX := Lib.hid hX; clear hX
  have HY := Lib.hid hY; clear hY
  have Hbx := Lib.hid hbx; clear hbx
  have Hby := Lib.hid hby; clear hby
  have HoX := Lib.hid hoX; clear hoX
  have HoY := Lib.hid hoY; clear hoY
  have IH := Lib.hid ih; clear ih
  have Hno := Lib.hid hno; clear hno
  clear hX2 hY2
  obtain ⟨mid, hmid⟩ : ∃ mid, mid = (a + b) / 2 := ⟨_, rfl⟩
  obtain ⟨q, hq⟩ : ∃ q, q = mid + m := ⟨_, rfl⟩
  obtain ⟨p, hp⟩ : ∃ p, p + 1 = q := ⟨mid + m - 1, by omega⟩
  have Hmid : Hid (2 * mid ≤ a + b ∧ a + b < 2 * mid + 2) := Lib.hid (by omega)
  have g1 : IntKind.i64.wrap ((m : Int) - (a : Int)) = (m : Int) - (a : Int) := IntWalk.i64_in _ (by omega)
  have g2 : IntKind.i64.wrap ((b : Int) - (m : Int)) = (b : Int) - (m : Int) := IntWalk.i64_in _ (by omega)
  have g3 : ((m : Int) - (a : Int) == 1) = false := by simp; omega
  have g4 : ((b : Int) - (m : Int) == 1) = false := by simp; omega
  have g5 : IntKind.i64.wrap ((a : Int) + (b : Int)) = (a : Int) + (b : Int) := IntWalk.i64_in _ (by omega)
  have g6 : ((a : Int) + (b : Int)) / 2 = (mid : Int) := by omega
  have g7 : IntKind.i64.wrap ((mid : Int) + (m : Int)) = (q : Int) := by rw [show (mid : Int) + (m : Int) = q by omega]; exact IntWalk.i64_in _ (by omega)
  have g8 : IntKind.i64.wrap ((q : Int) - 1) = (p : Int) := by rw [show (q : Int) - 1 = p by omega]; exact IntWalk.i64_in _ (by omega)
  have Hq : Hid (q = mid + m) := Lib.hid hq
  have Hp : Hid (p + 1 = q) := Lib.hid hp
  have hqb : q ≤ 2000 := by omega
  clear hq hp hmid
  have cases3 : ∃ s0 r0 : Nat, (m > mid ∧ s0 + b = q ∧ r0 = mid ∨ m ≤ mid ∧ s0 = a ∧ r0 = m) ∧ a ≤ s0 ∧ s0 ≤ r0 ∧ r0 ≤ m := by
    have := Hq.out; have := Hmid.out
    rcases Nat.lt_or_ge mid m with h | h
    · exact ⟨q - b, mid, .inl ⟨h, by omega, rfl⟩, by omega, by omega, by omega⟩
    · exact ⟨a, m, .inr ⟨h, rfl, rfl⟩, by omega, by omega, by omega⟩
  obtain ⟨s0, r0, hsr, hs0, hsr0, hr0⟩ := cases3
  have Hsr := Lib.hid hsr
  have g9 : m > mid → IntKind.i64.wrap ((q : Int) - (b : Int)) = (s0 : Int) := fun h => by
    rw [show (q : Int) - (b : Int) = s0 by omega]; exact IntWalk.i64_in _ (by omega)
  rcases hsr with ⟨hmm, hs1, hr1⟩ | ⟨hmm, hs1, hr1⟩
  all_goals
    try replace g9 := g9 hmm
    try have hdd : decide (mid < m) = false := by simp; omega
    clear hs1
    try clear hr1
  all_goals
    go_enter Tryz.func142, Tryz.ntmps142
    go_wp2
    go_loopw [20, 21] (fun vi vj wr => ∃ (i j : Nat), vi = .int .i64 i ∧ vj = .int .i64 j ∧ s0 ≤ i ∧ i ≤ j ∧ j ≤ r0 ∧ (i = s0 ∨ keyAt X a (i - 1) ≤ keyAt Y m (q - i)) ∧ (j = r0 ∨ keyAt Y m (q - 1 - j) < keyAt X a j) ∧ TRow wr base g c n (P ++ X ++ Y ++ S) ∧ w.grownBy wr (some g)) (fun vi vj _ => (intOf vj).toNat - (intOf vi).toNat)
    (case atStart => exact ⟨s0, r0, by first | rfl | (rw [show a = s0 by have := Hsr.out; omega]), by first | (rw [show r0 = mid by have := Hsr.out; omega]; done) | (rw [show r0 = m by have := Hsr.out; omega]; done), Nat.le_refl _, hsr0, Nat.le_refl _, .inl rfl, .inl rfl, Hrow.out, World.grownBy.refl _ _⟩)
  all_goals
    obtain ⟨i, j, rfl, rfl, hi, hij, hj, hlo, hhi, hr, hg⟩ := hrel
    have Hlo := Lib.hid hlo
    have Hhi := Lib.hid hhi
    have Hr := Lib.hid hr
    have Hg := Lib.hid hg
    clear hlo hhi hr hg Hrow g1 g2 g5 g6 g7 g8 g9
    by_cases hlt : i < j
    · obtain ⟨h, hh⟩ : ∃ h, h = (i + j) / 2 := ⟨_, rfl⟩
      have Hh : Hid (i ≤ h ∧ h < j) := Lib.hid (by omega)
      have hlt' : (i : Int) < (j : Int) := by omega
      have g2 : IntKind.i64.wrap ((i : Int) + (j : Int)) = (i : Int) + (j : Int) := IntWalk.i64_in _ (by omega)
      have gh : ((i : Int) + (j : Int)) / 2 = (h : Int) := by omega
      clear hh
      obtain ⟨d, hd⟩ : ∃ d, d + h = p := ⟨p - h, by have := Hh.out; have := Hp.out; have := Hq.out; have := Hsr.out; omega⟩
      have gd : IntKind.i64.wrap ((p : Int) - (h : Int)) = (d : Int) := by rw [show (p : Int) - (h : Int) = d by omega]; exact IntWalk.i64_in _ (by have := Hp.out; omega)
      have Hd : Hid (d + h + 1 = q) := Lib.hid (by have := Hp.out; omega)
      clear hd
      have hdm : m ≤ d ∧ d < b := by have := Hsr.out; have := Hq.out; have := Hmid.out; have := Hd.out; have := Hh.out; omega
      have hham : a ≤ h ∧ h < m := by have := Hh.out; omega
      have hhX : h - a < X.length := by have := HX.out; omega
      have hdY : d - m < Y.length := by have := HY.out; omega
      have hxb := Hbx.out _ (List.getElem_mem hhX)
      have hyb := Hby.out _ (List.getElem_mem hdY)
      have hnyx := Hno.out _ (List.getElem_mem hhX) _ (List.getElem_mem hdY)
      have hkx := keyAt_get hhX
      have hky := keyAt_get hdY
      generalize hx : X[h - a] = x at hxb hkx hnyx
      generalize hy : Y[d - m] = y at hyb hky hnyx
      have hr1 := Hr.out
      rw [List.append_assoc (P ++ X)] at hr1
      obtain ⟨⟨q0, q1, q2, q3, q4, q5, q6⟩, hhn⟩ := hr1.at3 hhX hx (j := h) (by rw [HP.out]; omega)
      obtain ⟨⟨p0, p1, p2, p3, p4, p5, p6⟩, hdn⟩ := Hr.out.at3 hdY hy (j := d) (by rw [List.length_append, HP.out, HX.out]; omega)
      have HKx : Hid (keyI y < keyI x ↔ y.box < x.box) := Lib.hid (key_lt hyb hxb hnyx)
      have Hkx := Lib.hid hkx
      have Hky := Lib.hid hky
      clear hr1 hx hy hhX hdY hkx hky hdm hham hnyx
      obtain ⟨x1, x2, x3, x4, x5, x6, x7⟩ := x
      obtain ⟨y1, y2, y3, y4, y5, y6, y7⟩ := y
      dsimp only at p0 p1 p2 p3 p4 p5 p6 q0 q1 q2 q3 q4 q5 q6 hyb hxb Hkx Hky HKx
      have hcmp := fun W => cmp_any (⟨y1, y2, y3, y4, y5, y6, y7⟩ : It) (⟨x1, x2, x3, x4, x5, x6, x7⟩ : It) W
      dsimp only [vIt] at hcmp
      have eg := enters83
      go_wp2
      go_region_held3 (fun W => W.cell? ⟨g, d * 7, none⟩ = some (.int .i64 y1) ∧ W.cell? ⟨g, d * 7 + 1, none⟩ = some (.int .i64 y2) ∧ W.cell? ⟨g, d * 7 + 2, none⟩ = some (.int .i64 y3) ∧ W.cell? ⟨g, d * 7 + 3, none⟩ = some (.int .i64 y4) ∧ W.cell? ⟨g, d * 7 + 4, none⟩ = some (.int .i64 y5) ∧ W.cell? ⟨g, d * 7 + 5, none⟩ = some (.int .i64 y6) ∧ W.cell? ⟨g, d * 7 + 6, none⟩ = some (.bool y7) ∧ W.cell? ⟨g, h * 7, none⟩ = some (.int .i64 x1) ∧ W.cell? ⟨g, h * 7 + 1, none⟩ = some (.int .i64 x2) ∧ W.cell? ⟨g, h * 7 + 2, none⟩ = some (.int .i64 x3) ∧ W.cell? ⟨g, h * 7 + 3, none⟩ = some (.int .i64 x4) ∧ W.cell? ⟨g, h * 7 + 4, none⟩ = some (.int .i64 x5) ∧ W.cell? ⟨g, h * 7 + 5, none⟩ = some (.int .i64 x6) ∧ W.cell? ⟨g, h * 7 + 6, none⟩ = some (.bool x7))
        (first | exact ⟨p0, p1, p2, p3, p4, p5, p6, q0, q1, q2, q3, q4, q5, q6⟩ | exact ⟨cell_below hBx p0, cell_below hBx p1, cell_below hBx p2, cell_below hBx p3, cell_below hBx p4, cell_below hBx p5, cell_below hBx p6, cell_below hBx q0, cell_below hBx q1, cell_below hBx q2, cell_below hBx q3, cell_below hBx q4, cell_below hBx q5, cell_below hBx q6⟩)
        (first | (go_at_call 83; refine (hcmp _).mono ?_; rintro e wx ⟨v, rfl, rfl, hBx⟩))
      have HBx := Lib.hid hBx
      have Hrx := Lib.hid (Hr.out.drew.below HBx.out)
      have Hgx := Lib.hid (grown_below (grown_drew Hg.out) HBx.out)
      clear hBx hcmp p0 p1 p2 p3 p4 p5 p6 q0 q1 q2 q3 q4 q5 q6 Hr
      by_cases hlt2 : y2 < x2
      · have hd : decide (cmpV y2 x2 < 0) = true := decide_eq_true (cmp_lt.2 hlt2)
        have hd2 : (!decide (cmpV y2 x2 < 0)) = false := by rw [hd]; rfl
        go_wp2
        all_goals try (exfalso; rename_i hx; rw [hd] at hx; exact absurd hx (by decide))
        go_roundw
        (case rel => have := Hh.out; exact ⟨i, h, rfl, rfl, hi, by omega, by omega, Hlo.out, .inr (by rw [show q - 1 - h = d by have := Hd.out; omega, Hkx.out, Hky.out]; exact HKx.out.2 hlt2), Hrx.out, Hgx.out⟩)
        (case measure => (have := Hh.out; simp [intOf]; omega))
      · have hd : decide (cmpV y2 x2 < 0) = false := decide_eq_false (fun h => hlt2 (cmp_lt.1 h))
        have hd2 : (!decide (cmpV y2 x2 < 0)) = true := by rw [hd]; rfl
        go_wp2
        all_goals try (exfalso; rename_i hx; rw [hd] at hx; exact absurd hx (by decide))
        go_roundw
        (case rel => have := Hh.out; exact ⟨h + 1, j, by go_num, rfl, by omega, by omega, hj, .inr (by rw [show q - (h + 1) = d by have := Hd.out; omega, Nat.add_sub_cancel, Hkx.out, Hky.out]; exact Int.not_lt.1 fun h => hlt2 (HKx.out.1 h)), Hhi.out, Hrx.out, Hgx.out⟩)
        (case measure => (have := Hh.out; simp [intOf]; omega))
    · have hije : i = j := by omega
      subst hije
      clear hlt hij
      obtain ⟨e, he⟩ : ∃ e, e + i = q := ⟨q - i, by have := Hq.out; omega⟩
      have hpt : Parted X Y a m b mid i e := by
        have := Hsr.out; have := Hq.out; have := Hmid.out
        refine ⟨by omega, by omega, by omega, by omega, by omega, ?_, ?_⟩
        · rcases Hlo.out with h | h
          · omega
          · rw [show q - i = e by omega] at h; exact .inr (.inr h)
        · rcases Hhi.out with h | h
          · omega
          · rw [show q - 1 - i = e - 1 by omega] at h; exact .inr (.inr h)
      have hparts : ∃ X1 X2 Y1 Y2, X = X1 ++ X2 ∧ Y = Y1 ++ Y2 ∧ a + X1.length = i ∧ m + Y1.length = e ∧ ∀ x ∈ X1 ++ Y1, ∀ y ∈ X2 ++ Y2, keyI x ≤ keyI y := by
        have h1 := hpt.from_; have h2 := hpt.sm; have h3 := hpt.me; have h4 := hpt.eb; have h5 := HX.out; have h6 := HY.out
        exact ⟨X.take (i - a), X.drop (i - a), Y.take (e - m), Y.drop (e - m), (List.take_append_drop _ _).symm, (List.take_append_drop _ _).symm, by rw [List.length_take]; omega, by rw [List.length_take]; omega, hpt.law HoX.out HoY.out h5 h6⟩
      have gE : IntKind.i64.wrap ((q : Int) - (i : Int)) = (e : Int) := by rw [show (q : Int) - (i : Int) = e by omega]; exact IntWalk.i64_in _ (by omega)
      obtain ⟨X1, X2, Y1, Y2, hXX, hYY, hl1, hl2, hlaw⟩ := hparts
      have k1 := hpt.from_
      have k2 := hpt.sm
      have k3 := hpt.me
      have k4 := hpt.eb
      have Hsum := Lib.hid hpt.sum
      have HXX := Lib.hid hXX
      have HYY := Lib.hid hYY
      have Hl1 := Lib.hid hl1
      have Hl2 := Lib.hid hl2
      have Hl3 : Hid (i + X2.length = m) := Lib.hid (by have h := HX.out; rw [hXX, List.length_append] at h; omega)
      have Hl4 : Hid (e + Y2.length = b) := Lib.hid (by have h := HY.out; rw [hYY, List.length_append] at h; omega)
      have Hlaw := Lib.hid hlaw
      clear hpt hXX hYY hl1 hl2 hlaw he Hlo Hhi
      have Hr0 : Hid (TRow wr base g c n (P ++ (X1 ++ X2) ++ (Y1 ++ Y2) ++ S)) := Lib.hid (by rw [← HXX.out, ← HYY.out]; exact Hr.out)
      have HsX1 : Hid (ByHi X1) := Lib.hid (HoX.out.sub (by rw [HXX.out]; exact List.sublist_append_left _ _))
      have HsX2 : Hid (ByHi X2) := Lib.hid (HoX.out.sub (by rw [HXX.out]; exact List.sublist_append_right _ _))
      have HsY1 : Hid (ByHi Y1) := Lib.hid (HoY.out.sub (by rw [HYY.out]; exact List.sublist_append_left _ _))
      have HsY2 : Hid (ByHi Y2) := Lib.hid (HoY.out.sub (by rw [HYY.out]; exact List.sublist_append_right _ _))
      have Hend : Hid (∀ Z1 Z2 : List It, Z1.Perm (X1 ++ Y1) → Z2.Perm (X2 ++ Y2) → ByHi Z1 → ByHi Z2 → (Z1 ++ Z2).Perm (X ++ Y) ∧ ByHi (Z1 ++ Z2)) := Lib.hid (fun Z1 Z2 p1 p2 o1 o2 => by
        refine ⟨?_, ByHi.join o1 o2 p1 p2 Hlaw.out⟩
        rw [HXX.out, HYY.out]
        exact (p1.append p2).trans (perm_cross X1 Y1 X2 Y2))
      have HI1 : Hid (0 < X1.length → 0 < Y1.length → SymOk base g c n X1 Y1) := Lib.hid (fun h1 h2 => IH.out X1 Y1 (by have := HX.out; have := HY.out; have := Hl1.out; have := Hl2.out; have := Hl3.out; have := Hl4.out; have := Hsum.out; have := Hmid.out; omega) h1 h2 HsX1.out HsY1.out (fun x hx => Hbx.out x (by rw [HXX.out]; exact List.mem_append_left _ hx)) (fun x hx => Hby.out x (by rw [HYY.out]; exact List.mem_append_left _ hx)) (fun x hx y hy => Hno.out x (by rw [HXX.out]; exact List.mem_append_left _ hx) y (by rw [HYY.out]; exact List.mem_append_left _ hy)))
      have HI2 : Hid (0 < X2.length → 0 < Y2.length → SymOk base g c n X2 Y2) := Lib.hid (fun h1 h2 => IH.out X2 Y2 (by have := HX.out; have := HY.out; have := Hl1.out; have := Hl2.out; have := Hl3.out; have := Hl4.out; have := Hsum.out; have := Hmid.out; omega) h1 h2 HsX2.out HsY2.out (fun x hx => Hbx.out x (by rw [HXX.out]; exact List.mem_append_right _ hx)) (fun x hx => Hby.out x (by rw [HYY.out]; exact List.mem_append_right _ hx)) (fun x hx y hy => Hno.out x (by rw [HXX.out]; exact List.mem_append_right _ hx) y (by rw [HYY.out]; exact List.mem_append_right _ hy)))
      clear Hr IH HoX HoY Hbx Hby Hlaw Hno
      have hways : (0 < X1.length ∧ X2.length = 0 ∧ Y1.length = 0 ∧ 0 < Y2.length) ∨ (0 < X1.length ∧ X2.length = 0 ∧ 0 < Y1.length ∧ 0 < Y2.length) ∨ (X1.length = 0 ∧ 0 < X2.length ∧ 0 < Y1.length ∧ Y2.length = 0) ∨ (X1.length = 0 ∧ 0 < X2.length ∧ 0 < Y1.length ∧ 0 < Y2.length) ∨ (0 < X1.length ∧ 0 < X2.length ∧ Y1.length = 0 ∧ 0 < Y2.length) ∨ (0 < X1.length ∧ 0 < X2.length ∧ 0 < Y1.length ∧ Y2.length = 0) ∨ (0 < X1.length ∧ 0 < X2.length ∧ 0 < Y1.length ∧ 0 < Y2.length) := by
        have := Hl1.out; have := Hl2.out; have := Hl3.out; have := Hl4.out; have := Hsum.out; have := Hmid.out; omega
      rcases hways with ⟨l1, l2, l3, l4⟩ | ⟨l1, l2, l3, l4⟩ | ⟨l1, l2, l3, l4⟩ | ⟨l1, l2, l3, l4⟩ | ⟨l1, l2, l3, l4⟩ | ⟨l1, l2, l3, l4⟩ | ⟨l1, l2, l3, l4⟩
      · have f1 : decide (i < m) = false := by have : ¬ (i < m) := (by have := Hl1.out; have := Hl2.out; have := Hl3.out; have := Hl4.out; have := Hsum.out; omega); simp [this]
        have f2 : decide (m < e) = false := by have : ¬ (m < e) := (by have := Hl1.out; have := Hl2.out; have := Hl3.out; have := Hl4.out; have := Hsum.out; omega); simp [this]
        have f3 : decide (a < i) = true := by have : (a < i) := (by have := Hl1.out; have := Hl2.out; have := Hl3.out; have := Hl4.out; have := Hsum.out; omega); simp [this]
        have f4 : decide (i < mid) = false := by have : ¬ (i < mid) := (by have := Hl1.out; have := Hl2.out; have := Hl3.out; have := Hl4.out; have := Hsum.out; omega); simp [this]
        have f5 : decide (mid < e) = false := by have : ¬ (mid < e) := (by have := Hl1.out; have := Hl2.out; have := Hl3.out; have := Hl4.out; have := Hsum.out; omega); simp [this]
        have f6 : decide (e < b) = true := by have : (e < b) := (by have := Hl1.out; have := Hl2.out; have := Hl3.out; have := Hl4.out; have := Hsum.out; omega); simp [this]
        have n2 : Hid (X2 = []) := Lib.hid (List.length_eq_zero_iff.1 l2)
        have n3 : Hid (Y1 = []) := Lib.hid (List.length_eq_zero_iff.1 l3)
        have H1 : Hid (TRow wr base g c n (P ++ X1 ++ Y1 ++ X2 ++ (Y2 ++ S))) := Lib.hid (by have h := Hr0.out; rw [n2.out] at h ⊢; simpa using h)
        have HG1 := Lib.hid Hg.out
        clear Hr0 Hg
        replace l1 := Lib.hid l1
        replace l2 := Lib.hid l2
        replace l3 := Lib.hid l3
        replace l4 := Lib.hid l4
        obtain ⟨Z1, hZ⟩ : ∃ Z1, Z1 = X1 ++ Y1 := ⟨_, rfl⟩
        have H2 : Hid (TRow wr base g c n (P ++ Z1 ++ (X2 ++ (Y2 ++ S)))) := Lib.hid (by rw [hZ]; have h := H1.out; simpa using h)
        have HZp1 : Hid (Z1.Perm (X1 ++ Y1)) := Lib.hid (by rw [hZ])
        have HZo1 : Hid (ByHi Z1) := Lib.hid (by rw [hZ, n3.out, List.append_nil]; exact HsX1.out)
        have HG2 := Lib.hid HG1.out
        clear hZ
        have HZl : Hid ((P ++ Z1).length = mid) := Lib.hid (by rw [List.length_append, HZp1.out.length_eq, List.length_append, HP.out]; have := Hl1.out; have := Hl2.out; have := Hsum.out; omega)
        obtain ⟨Z2, hZ⟩ : ∃ Z2, Z2 = X2 ++ Y2 := ⟨_, rfl⟩
        have H3 : Hid (TRow wr base g c n (P ++ Z1 ++ Z2 ++ S)) := Lib.hid (by rw [hZ]; have h := H2.out; simpa using h)
        have HZp2 : Hid (Z2.Perm (X2 ++ Y2)) := Lib.hid (by rw [hZ])
        have HZo2 : Hid (ByHi Z2) := Lib.hid (by rw [hZ, n2.out]; exact HsY2.out)
        have HG3 := Lib.hid HG2.out
        clear hZ
        go_wp2
        go_end0
        obtain ⟨e1, e2⟩ := Hend.out Z1 Z2 HZp1.out HZp2.out HZo1.out HZo2.out
        exact Ret.mk' rfl ⟨⟨Z1 ++ Z2, e1, e2, by have h := H3.out; simpa using h⟩, HG3.out⟩
      · have f1 : decide (i < m) = false := by have : ¬ (i < m) := (by have := Hl1.out; have := Hl2.out; have := Hl3.out; have := Hl4.out; have := Hsum.out; omega); simp [this]
        have f2 : decide (m < e) = true := by have : (m < e) := (by have := Hl1.out; have := Hl2.out; have := Hl3.out; have := Hl4.out; have := Hsum.out; omega); simp [this]
        have f3 : decide (a < i) = true := by have : (a < i) := (by have := Hl1.out; have := Hl2.out; have := Hl3.out; have := Hl4.out; have := Hsum.out; omega); simp [this]
        have f4 : decide (i < mid) = true := by have : (i < mid) := (by have := Hl1.out; have := Hl2.out; have := Hl3.out; have := Hl4.out; have := Hsum.out; omega); simp [this]
        have f5 : decide (mid < e) = false := by have : ¬ (mid < e) := (by have := Hl1.out; have := Hl2.out; have := Hl3.out; have := Hl4.out; have := Hsum.out; omega); simp [this]
        have f6 : decide (e < b) = true := by have : (e < b) := (by have := Hl1.out; have := Hl2.out; have := Hl3.out; have := Hl4.out; have := Hsum.out; omega); simp [this]
        have n2 : Hid (X2 = []) := Lib.hid (List.length_eq_zero_iff.1 l2)
        have H1 : Hid (TRow wr base g c n (P ++ X1 ++ Y1 ++ X2 ++ (Y2 ++ S))) := Lib.hid (by have h := Hr0.out; rw [n2.out] at h ⊢; simpa using h)
        have HG1 := Lib.hid Hg.out
        clear Hr0 Hg
        replace l1 := Lib.hid l1
        replace l2 := Lib.hid l2
        replace l3 := Lib.hid l3
        replace l4 := Lib.hid l4
        have Hc1 := Lib.hid (HI1.out l1.out l3.out a i mid P (X2 ++ (Y2 ++ S)) wr (by have h := H1.out; simpa using h) HP.out Hl1.out (by have := Hl2.out; have := Hsum.out; omega))
        go_wp2_with fail
        refine Hc1.out.mono ?_
        rintro _ w2 ⟨_, rfl, ⟨Z1, hz1, hz2, hz3⟩, h2⟩
        have H2 := Lib.hid hz3
        have HZp1 := Lib.hid hz1
        have HZo1 := Lib.hid hz2
        have HG2 := Lib.hid (HG1.out.trans h2)
        clear hz1 hz2 hz3 h2 Hc1
        have HZl : Hid ((P ++ Z1).length = mid) := Lib.hid (by rw [List.length_append, HZp1.out.length_eq, List.length_append, HP.out]; have := Hl1.out; have := Hl2.out; have := Hsum.out; omega)
        obtain ⟨Z2, hZ⟩ : ∃ Z2, Z2 = X2 ++ Y2 := ⟨_, rfl⟩
        have H3 : Hid (TRow w2 base g c n (P ++ Z1 ++ Z2 ++ S)) := Lib.hid (by rw [hZ]; have h := H2.out; simpa using h)
        have HZp2 : Hid (Z2.Perm (X2 ++ Y2)) := Lib.hid (by rw [hZ])
        have HZo2 : Hid (ByHi Z2) := Lib.hid (by rw [hZ, n2.out]; exact HsY2.out)
        have HG3 := Lib.hid HG2.out
        clear hZ
        go_wp2
        go_end0
        obtain ⟨e1, e2⟩ := Hend.out Z1 Z2 HZp1.out HZp2.out HZo1.out HZo2.out
        exact Ret.mk' rfl ⟨⟨Z1 ++ Z2, e1, e2, by have h := H3.out; simpa using h⟩, HG3.out⟩
      · have f1 : decide (i < m) = true := by have : (i < m) := (by have := Hl1.out; have := Hl2.out; have := Hl3.out; have := Hl4.out; have := Hsum.out; omega); simp [this]
        have f2 : decide (m < e) = true := by have : (m < e) := (by have := Hl1.out; have := Hl2.out; have := Hl3.out; have := Hl4.out; have := Hsum.out; omega); simp [this]
        have f3 : decide (a < i) = false := by have : ¬ (a < i) := (by have := Hl1.out; have := Hl2.out; have := Hl3.out; have := Hl4.out; have := Hsum.out; omega); simp [this]
        have f4 : decide (i < mid) = true := by have : (i < mid) := (by have := Hl1.out; have := Hl2.out; have := Hl3.out; have := Hl4.out; have := Hsum.out; omega); simp [this]
        have f5 : decide (mid < e) = true := by have : (mid < e) := (by have := Hl1.out; have := Hl2.out; have := Hl3.out; have := Hl4.out; have := Hsum.out; omega); simp [this]
        have f6 : decide (e < b) = false := by have : ¬ (e < b) := (by have := Hl1.out; have := Hl2.out; have := Hl3.out; have := Hl4.out; have := Hsum.out; omega); simp [this]
        have n1 : Hid (X1 = []) := Lib.hid (List.length_eq_zero_iff.1 l1)
        have n4 : Hid (Y2 = []) := Lib.hid (List.length_eq_zero_iff.1 l4)
        have Hrot : Hid (∀ f, Calls Tryz.prog 173 #[.slice (some ⟨g, 0, none⟩) n c, .int .i64 i, .int .i64 m, .int .i64 e, f] wr (Ret fun _ w' => TRow w' base g c n (P ++ X1 ++ Y1 ++ X2 ++ (Y2 ++ S)) ∧ wr.grownBy w' (some g))) := Lib.hid (rotate_any base g c n i m e (P ++ X1) X2 Y1 (Y2 ++ S) wr (by have h := Hr0.out; simpa using h) hn hc (by rw [List.length_append, HP.out]; exact Hl1.out) Hl3.out Hl2.out l2 l3)
        clear l1 l2 l3 l4
        go_wp2_with fail
        refine (Hrot.out _).mono ?_
        rintro _ w1 ⟨_, rfl, h1, h2⟩
        have H1 := Lib.hid h1
        have HG1 := Lib.hid (Hg.out.trans h2)
        clear h1 h2 Hrot Hr0 Hg
        have l2 : Hid (0 < X2.length) := Lib.hid (by have := of_decide_eq_true f1; have := Hl1.out; have := Hl2.out; have := Hl3.out; have := Hl4.out; omega)
        have l3 : Hid (0 < Y1.length) := Lib.hid (by have := of_decide_eq_true f2; have := Hl1.out; have := Hl2.out; have := Hl3.out; have := Hl4.out; omega)
        obtain ⟨Z1, hZ⟩ : ∃ Z1, Z1 = X1 ++ Y1 := ⟨_, rfl⟩
        have H2 : Hid (TRow w1 base g c n (P ++ Z1 ++ (X2 ++ (Y2 ++ S)))) := Lib.hid (by rw [hZ]; have h := H1.out; simpa using h)
        have HZp1 : Hid (Z1.Perm (X1 ++ Y1)) := Lib.hid (by rw [hZ])
        have HZo1 : Hid (ByHi Z1) := Lib.hid (by rw [hZ, n1.out]; exact HsY1.out)
        have HG2 := Lib.hid HG1.out
        clear hZ
        have HZl : Hid ((P ++ Z1).length = mid) := Lib.hid (by rw [List.length_append, HZp1.out.length_eq, List.length_append, HP.out]; have := Hl1.out; have := Hl2.out; have := Hsum.out; omega)
        obtain ⟨Z2, hZ⟩ : ∃ Z2, Z2 = X2 ++ Y2 := ⟨_, rfl⟩
        have H3 : Hid (TRow w1 base g c n (P ++ Z1 ++ Z2 ++ S)) := Lib.hid (by rw [hZ]; have h := H2.out; simpa using h)
        have HZp2 : Hid (Z2.Perm (X2 ++ Y2)) := Lib.hid (by rw [hZ])
        have HZo2 : Hid (ByHi Z2) := Lib.hid (by rw [hZ, n4.out, List.append_nil]; exact HsX2.out)
        have HG3 := Lib.hid HG2.out
        clear hZ
        go_wp2
        go_end0
        obtain ⟨e1, e2⟩ := Hend.out Z1 Z2 HZp1.out HZp2.out HZo1.out HZo2.out
        exact Ret.mk' rfl ⟨⟨Z1 ++ Z2, e1, e2, by have h := H3.out; simpa using h⟩, HG3.out⟩
      · have f1 : decide (i < m) = true := by have : (i < m) := (by have := Hl1.out; have := Hl2.out; have := Hl3.out; have := Hl4.out; have := Hsum.out; omega); simp [this]
        have f2 : decide (m < e) = true := by have : (m < e) := (by have := Hl1.out; have := Hl2.out; have := Hl3.out; have := Hl4.out; have := Hsum.out; omega); simp [this]
        have f3 : decide (a < i) = false := by have : ¬ (a < i) := (by have := Hl1.out; have := Hl2.out; have := Hl3.out; have := Hl4.out; have := Hsum.out; omega); simp [this]
        have f4 : decide (i < mid) = true := by have : (i < mid) := (by have := Hl1.out; have := Hl2.out; have := Hl3.out; have := Hl4.out; have := Hsum.out; omega); simp [this]
        have f5 : decide (mid < e) = true := by have : (mid < e) := (by have := Hl1.out; have := Hl2.out; have := Hl3.out; have := Hl4.out; have := Hsum.out; omega); simp [this]
        have f6 : decide (e < b) = true := by have : (e < b) := (by have := Hl1.out; have := Hl2.out; have := Hl3.out; have := Hl4.out; have := Hsum.out; omega); simp [this]
        have n1 : Hid (X1 = []) := Lib.hid (List.length_eq_zero_iff.1 l1)
        have Hrot : Hid (∀ f, Calls Tryz.prog 173 #[.slice (some ⟨g, 0, none⟩) n c, .int .i64 i, .int .i64 m, .int .i64 e, f] wr (Ret fun _ w' => TRow w' base g c n (P ++ X1 ++ Y1 ++ X2 ++ (Y2 ++ S)) ∧ wr.grownBy w' (some g))) := Lib.hid (rotate_any base g c n i m e (P ++ X1) X2 Y1 (Y2 ++ S) wr (by have h := Hr0.out; simpa using h) hn hc (by rw [List.length_append, HP.out]; exact Hl1.out) Hl3.out Hl2.out l2 l3)
        clear l1 l2 l3 l4
        go_wp2_with fail
        refine (Hrot.out _).mono ?_
        rintro _ w1 ⟨_, rfl, h1, h2⟩
        have H1 := Lib.hid h1
        have HG1 := Lib.hid (Hg.out.trans h2)
        clear h1 h2 Hrot Hr0 Hg
        have l2 : Hid (0 < X2.length) := Lib.hid (by have := of_decide_eq_true f1; have := Hl1.out; have := Hl2.out; have := Hl3.out; have := Hl4.out; omega)
        have l3 : Hid (0 < Y1.length) := Lib.hid (by have := of_decide_eq_true f2; have := Hl1.out; have := Hl2.out; have := Hl3.out; have := Hl4.out; omega)
        have l4 : Hid (0 < Y2.length) := Lib.hid (by have := of_decide_eq_true f6; have := Hl1.out; have := Hl2.out; have := Hl3.out; have := Hl4.out; omega)
        obtain ⟨Z1, hZ⟩ : ∃ Z1, Z1 = X1 ++ Y1 := ⟨_, rfl⟩
        have H2 : Hid (TRow w1 base g c n (P ++ Z1 ++ (X2 ++ (Y2 ++ S)))) := Lib.hid (by rw [hZ]; have h := H1.out; simpa using h)
        have HZp1 : Hid (Z1.Perm (X1 ++ Y1)) := Lib.hid (by rw [hZ])
        have HZo1 : Hid (ByHi Z1) := Lib.hid (by rw [hZ, n1.out]; exact HsY1.out)
        have HG2 := Lib.hid HG1.out
        clear hZ
        have HZl : Hid ((P ++ Z1).length = mid) := Lib.hid (by rw [List.length_append, HZp1.out.length_eq, List.length_append, HP.out]; have := Hl1.out; have := Hl2.out; have := Hsum.out; omega)
        have Hc2 := Lib.hid (HI2.out l2.out l4.out mid e b (P ++ Z1) S w1 (by have h := H2.out; simpa using h) HZl.out (by have := Hl3.out; have := Hsum.out; omega) Hl4.out)
        go_wp2_with fail
        refine Hc2.out.mono ?_
        rintro _ w3 ⟨_, rfl, ⟨Z2, hz1, hz2, hz3⟩, h2⟩
        have H3 := Lib.hid hz3
        have HZp2 := Lib.hid hz1
        have HZo2 := Lib.hid hz2
        have HG3 := Lib.hid (HG2.out.trans h2)
        clear hz1 hz2 hz3 h2 Hc2
        go_wp2
        go_end0
        obtain ⟨e1, e2⟩ := Hend.out Z1 Z2 HZp1.out HZp2.out HZo1.out HZo2.out
        exact Ret.mk' rfl ⟨⟨Z1 ++ Z2, e1, e2, by have h := H3.out; simpa using h⟩, HG3.out⟩
      · have f1 : decide (i < m) = true := by have : (i < m) := (by have := Hl1.out; have := Hl2.out; have := Hl3.out; have := Hl4.out; have := Hsum.out; omega); simp [this]
        have f2 : decide (m < e) = false := by have : ¬ (m < e) := (by have := Hl1.out; have := Hl2.out; have := Hl3.out; have := Hl4.out; have := Hsum.out; omega); simp [this]
        have f3 : decide (a < i) = true := by have : (a < i) := (by have := Hl1.out; have := Hl2.out; have := Hl3.out; have := Hl4.out; have := Hsum.out; omega); simp [this]
        have f4 : decide (i < mid) = false := by have : ¬ (i < mid) := (by have := Hl1.out; have := Hl2.out; have := Hl3.out; have := Hl4.out; have := Hsum.out; omega); simp [this]
        have f5 : decide (mid < e) = true := by have : (mid < e) := (by have := Hl1.out; have := Hl2.out; have := Hl3.out; have := Hl4.out; have := Hsum.out; omega); simp [this]
        have f6 : decide (e < b) = true := by have : (e < b) := (by have := Hl1.out; have := Hl2.out; have := Hl3.out; have := Hl4.out; have := Hsum.out; omega); simp [this]
        have n3 : Hid (Y1 = []) := Lib.hid (List.length_eq_zero_iff.1 l3)
        have H1 : Hid (TRow wr base g c n (P ++ X1 ++ Y1 ++ X2 ++ (Y2 ++ S))) := Lib.hid (by have h := Hr0.out; rw [n3.out] at h ⊢; simpa using h)
        have HG1 := Lib.hid Hg.out
        clear Hr0 Hg
        replace l1 := Lib.hid l1
        replace l2 := Lib.hid l2
        replace l3 := Lib.hid l3
        replace l4 := Lib.hid l4
        obtain ⟨Z1, hZ⟩ : ∃ Z1, Z1 = X1 ++ Y1 := ⟨_, rfl⟩
        have H2 : Hid (TRow wr base g c n (P ++ Z1 ++ (X2 ++ (Y2 ++ S)))) := Lib.hid (by rw [hZ]; have h := H1.out; simpa using h)
        have HZp1 : Hid (Z1.Perm (X1 ++ Y1)) := Lib.hid (by rw [hZ])
        have HZo1 : Hid (ByHi Z1) := Lib.hid (by rw [hZ, n3.out, List.append_nil]; exact HsX1.out)
        have HG2 := Lib.hid HG1.out
        clear hZ
        have HZl : Hid ((P ++ Z1).length = mid) := Lib.hid (by rw [List.length_append, HZp1.out.length_eq, List.length_append, HP.out]; have := Hl1.out; have := Hl2.out; have := Hsum.out; omega)
        have Hc2 := Lib.hid (HI2.out l2.out l4.out mid e b (P ++ Z1) S wr (by have h := H2.out; simpa using h) HZl.out (by have := Hl3.out; have := Hsum.out; omega) Hl4.out)
        go_wp2_with fail
        refine Hc2.out.mono ?_
        rintro _ w3 ⟨_, rfl, ⟨Z2, hz1, hz2, hz3⟩, h2⟩
        have H3 := Lib.hid hz3
        have HZp2 := Lib.hid hz1
        have HZo2 := Lib.hid hz2
        have HG3 := Lib.hid (HG2.out.trans h2)
        clear hz1 hz2 hz3 h2 Hc2
        go_wp2
        go_end0
        obtain ⟨e1, e2⟩ := Hend.out Z1 Z2 HZp1.out HZp2.out HZo1.out HZo2.out
        exact Ret.mk' rfl ⟨⟨Z1 ++ Z2, e1, e2, by have h := H3.out; simpa using h⟩, HG3.out⟩
      · have f1 : decide (i < m) = true := by have : (i < m) := (by have := Hl1.out; have := Hl2.out; have := Hl3.out; have := Hl4.out; have := Hsum.out; omega); simp [this]
        have f2 : decide (m < e) = true := by have : (m < e) := (by have := Hl1.out; have := Hl2.out; have := Hl3.out; have := Hl4.out; have := Hsum.out; omega); simp [this]
        have f3 : decide (a < i) = true := by have : (a < i) := (by have := Hl1.out; have := Hl2.out; have := Hl3.out; have := Hl4.out; have := Hsum.out; omega); simp [this]
        have f4 : decide (i < mid) = true := by have : (i < mid) := (by have := Hl1.out; have := Hl2.out; have := Hl3.out; have := Hl4.out; have := Hsum.out; omega); simp [this]
        have f5 : decide (mid < e) = true := by have : (mid < e) := (by have := Hl1.out; have := Hl2.out; have := Hl3.out; have := Hl4.out; have := Hsum.out; omega); simp [this]
        have f6 : decide (e < b) = false := by have : ¬ (e < b) := (by have := Hl1.out; have := Hl2.out; have := Hl3.out; have := Hl4.out; have := Hsum.out; omega); simp [this]
        have n4 : Hid (Y2 = []) := Lib.hid (List.length_eq_zero_iff.1 l4)
        have Hrot : Hid (∀ f, Calls Tryz.prog 173 #[.slice (some ⟨g, 0, none⟩) n c, .int .i64 i, .int .i64 m, .int .i64 e, f] wr (Ret fun _ w' => TRow w' base g c n (P ++ X1 ++ Y1 ++ X2 ++ (Y2 ++ S)) ∧ wr.grownBy w' (some g))) := Lib.hid (rotate_any base g c n i m e (P ++ X1) X2 Y1 (Y2 ++ S) wr (by have h := Hr0.out; simpa using h) hn hc (by rw [List.length_append, HP.out]; exact Hl1.out) Hl3.out Hl2.out l2 l3)
        clear l1 l2 l3 l4
        go_wp2_with fail
        refine (Hrot.out _).mono ?_
        rintro _ w1 ⟨_, rfl, h1, h2⟩
        have H1 := Lib.hid h1
        have HG1 := Lib.hid (Hg.out.trans h2)
        clear h1 h2 Hrot Hr0 Hg
        have l1 : Hid (0 < X1.length) := Lib.hid (by have := of_decide_eq_true f3; have := Hl1.out; have := Hl2.out; have := Hl3.out; have := Hl4.out; omega)
        have l2 : Hid (0 < X2.length) := Lib.hid (by have := of_decide_eq_true f1; have := Hl1.out; have := Hl2.out; have := Hl3.out; have := Hl4.out; omega)
        have l3 : Hid (0 < Y1.length) := Lib.hid (by have := of_decide_eq_true f2; have := Hl1.out; have := Hl2.out; have := Hl3.out; have := Hl4.out; omega)
        have Hc1 := Lib.hid (HI1.out l1.out l3.out a i mid P (X2 ++ (Y2 ++ S)) w1 (by have h := H1.out; simpa using h) HP.out Hl1.out (by have := Hl2.out; have := Hsum.out; omega))
        go_wp2_with fail
        refine Hc1.out.mono ?_
        rintro _ w2 ⟨_, rfl, ⟨Z1, hz1, hz2, hz3⟩, h2⟩
        have H2 := Lib.hid hz3
        have HZp1 := Lib.hid hz1
        have HZo1 := Lib.hid hz2
        have HG2 := Lib.hid (HG1.out.trans h2)
        clear hz1 hz2 hz3 h2 Hc1
        have HZl : Hid ((P ++ Z1).length = mid) := Lib.hid (by rw [List.length_append, HZp1.out.length_eq, List.length_append, HP.out]; have := Hl1.out; have := Hl2.out; have := Hsum.out; omega)
        obtain ⟨Z2, hZ⟩ : ∃ Z2, Z2 = X2 ++ Y2 := ⟨_, rfl⟩
        have H3 : Hid (TRow w2 base g c n (P ++ Z1 ++ Z2 ++ S)) := Lib.hid (by rw [hZ]; have h := H2.out; simpa using h)
        have HZp2 : Hid (Z2.Perm (X2 ++ Y2)) := Lib.hid (by rw [hZ])
        have HZo2 : Hid (ByHi Z2) := Lib.hid (by rw [hZ, n4.out, List.append_nil]; exact HsX2.out)
        have HG3 := Lib.hid HG2.out
        clear hZ
        go_wp2
        go_end0
        obtain ⟨e1, e2⟩ := Hend.out Z1 Z2 HZp1.out HZp2.out HZo1.out HZo2.out
        exact Ret.mk' rfl ⟨⟨Z1 ++ Z2, e1, e2, by have h := H3.out; simpa using h⟩, HG3.out⟩
      · have f1 : decide (i < m) = true := by have : (i < m) := (by have := Hl1.out; have := Hl2.out; have := Hl3.out; have := Hl4.out; have := Hsum.out; omega); simp [this]
        have f2 : decide (m < e) = true := by have : (m < e) := (by have := Hl1.out; have := Hl2.out; have := Hl3.out; have := Hl4.out; have := Hsum.out; omega); simp [this]
        have f3 : decide (a < i) = true := by have : (a < i) := (by have := Hl1.out; have := Hl2.out; have := Hl3.out; have := Hl4.out; have := Hsum.out; omega); simp [this]
        have f4 : decide (i < mid) = true := by have : (i < mid) := (by have := Hl1.out; have := Hl2.out; have := Hl3.out; have := Hl4.out; have := Hsum.out; omega); simp [this]
        have f5 : decide (mid < e) = true := by have : (mid < e) := (by have := Hl1.out; have := Hl2.out; have := Hl3.out; have := Hl4.out; have := Hsum.out; omega); simp [this]
        have f6 : decide (e < b) = true := by have : (e < b) := (by have := Hl1.out; have := Hl2.out; have := Hl3.out; have := Hl4.out; have := Hsum.out; omega); simp [this]
        have Hrot : Hid (∀ f, Calls Tryz.prog 173 #[.slice (some ⟨g, 0, none⟩) n c, .int .i64 i, .int .i64 m, .int .i64 e, f] wr (Ret fun _ w' => TRow w' base g c n (P ++ X1 ++ Y1 ++ X2 ++ (Y2 ++ S)) ∧ wr.grownBy w' (some g))) := Lib.hid (rotate_any base g c n i m e (P ++ X1) X2 Y1 (Y2 ++ S) wr (by have h := Hr0.out; simpa using h) hn hc (by rw [List.length_append, HP.out]; exact Hl1.out) Hl3.out Hl2.out l2 l3)
        clear l1 l2 l3 l4
        go_wp2_with fail
        refine (Hrot.out _).mono ?_
        rintro _ w1 ⟨_, rfl, h1, h2⟩
        have H1 := Lib.hid h1
        have HG1 := Lib.hid (Hg.out.trans h2)
        clear h1 h2 Hrot Hr0 Hg
        have l1 : Hid (0 < X1.length) := Lib.hid (by have := of_decide_eq_true f3; have := Hl1.out; have := Hl2.out; have := Hl3.out; have := Hl4.out; omega)
        have l2 : Hid (0 < X2.length) := Lib.hid (by have := of_decide_eq_true f1; have := Hl1.out; have := Hl2.out; have := Hl3.out; have := Hl4.out; omega)
        have l3 : Hid (0 < Y1.length) := Lib.hid (by have := of_decide_eq_true f2; have := Hl1.out; have := Hl2.out; have := Hl3.out; have := Hl4.out; omega)
        have l4 : Hid (0 < Y2.length) := Lib.hid (by have := of_decide_eq_true f6; have := Hl1.out; have := Hl2.out; have := Hl3.out; have := Hl4.out; omega)
        have Hc1 := Lib.hid (HI1.out l1.out l3.out a i mid P (X2 ++ (Y2 ++ S)) w1 (by have h := H1.out; simpa using h) HP.out Hl1.out (by have := Hl2.out; have := Hsum.out; omega))
        go_wp2_with fail
        refine Hc1.out.mono ?_
        rintro _ w2 ⟨_, rfl, ⟨Z1, hz1, hz2, hz3⟩, h2⟩
        have H2 := Lib.hid hz3
        have HZp1 := Lib.hid hz1
        have HZo1 := Lib.hid hz2
        have HG2 := Lib.hid (HG1.out.trans h2)
        clear hz1 hz2 hz3 h2 Hc1
        have HZl : Hid ((P ++ Z1).length = mid) := Lib.hid (by rw [List.length_append, HZp1.out.length_eq, List.length_append, HP.out]; have := Hl1.out; have := Hl2.out; have := Hsum.out; omega)
        have Hc2 := Lib.hid (HI2.out l2.out l4.out mid e b (P ++ Z1) S w2 (by have h := H2.out; simpa using h) HZl.out (by have := Hl3.out; have := Hsum.out; omega) Hl4.out)
        go_wp2_with fail
        refine Hc2.out.mono ?_
        rintro _ w3 ⟨_, rfl, ⟨Z2, hz1, hz2, hz3⟩, h2⟩
        have H3 := Lib.hid hz3
        have HZp2 := Lib.hid hz1
        have HZo2 := Lib.hid hz2
        have HG3 := Lib.hid (HG2.out.trans h2)
        clear hz1 hz2 hz3 h2 Hc2
        go_wp2
        go_end0
        obtain ⟨e1, e2⟩ := Hend.out Z1 Z2 HZp1.out HZp2.out HZo1.out HZo2.out
        exact Ret.mk' rfl ⟨⟨Z1 ++ Z2, e1, e2, by have h := H3.out; simpa using h⟩, HG3.out⟩
end Go.Proofs.YtkpmmgeffbhngaaGreatDoor
