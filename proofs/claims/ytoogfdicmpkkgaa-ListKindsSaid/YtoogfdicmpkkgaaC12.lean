/- ListKinds. -/
import Derived.Test.YtoogfdicmpkkgaaC11
namespace Go.Proofs.Ytoogfdicmpkkgaa
open Go.RowKit Go.Shelf Go.Maps Match

set_option maxRecDepth 100000 in
set_option maxHeartbeats 2000000 in
theorem refItemsE (s : Sh) (right : Bool) (w : World) (hs : ShAt w s) (hv : sheetErr s.L s.R s.l s.t ≠ 0) :
    Calls Try.prog 28 #[s.v, .bool right] w (Ret fun v w' => v = .tuple #[.slice none 0 0, .int .i64 (sheetErr s.L s.R s.l s.t)] ∧ Below w.heap.size w w') := by
  obtain ⟨L, R, A, ca, B, cb, l, t⟩ := s
  have HA := Lib.hid hs
  clear hs
  have HV := Lib.hid hv
  unfold Sh.v vSheet
  dsimp only at hv ⊢
  have hd : (sheetErr L R l t != 0) = true := by simpa using hv
  clear hv
  obtain ⟨w1, hw1⟩ : ∃ w1, w1 = w.alloc (.cells #[.int .i64 L, .int .i64 R, .slice A l.length ca, .slice B t.length cb] 25) := ⟨_, rfl⟩
  have HB1 : Hid (Below w.heap.size w w1) := Lib.hid (by rw [hw1]; exact below_alloc' (Below.refl _ _) _)
  have hX : w1.heap[w.heap.size]? = some (.cells #[.int .i64 L, .int .i64 R, .slice A l.length ca, .slice B t.length cb] 25 (0, 0)) := by rw [hw1]; exact heap_alloc_new _ _
  have y0 : w1.cell? ⟨w.heap.size, 0, none⟩ = some (.int .i64 L) := (blk_cell hX).trans rfl
  have y1 : w1.cell? ⟨w.heap.size, 1, none⟩ = some (.int .i64 R) := (blk_cell hX).trans rfl
  have y2 : w1.cell? ⟨w.heap.size, 2, none⟩ = some (.slice A l.length ca) := (blk_cell hX).trans rfl
  have y3 : w1.cell? ⟨w.heap.size, 3, none⟩ = some (.slice B t.length cb) := (blk_cell hX).trans rfl
  replace HA := Lib.hid (HA.out.below HB1.out)
  go_enter Try.func28, Try.ntmps28
  go_upto_region 1 with fail
  rw [← hw1]
  clear hw1 hX
  have hc := refCheckSheetS ⟨L, R, A, ca, B, cb, l, t⟩ w1 HA.out
  dsimp only at hc
  have Hc := Lib.hid (hc)
  try dsimp only at Hc
  go_wp2_with fail
  refine Hc.out.mono ?_
  rintro e w2 ⟨v, rfl, rfl, hb⟩
  have HB2 := Lib.hid (below_trans' HB1.out hb)
  replace HA := Lib.hid (HA.out.below hb)
  replace y0 := cell_below hb y0
  replace y1 := cell_below hb y1
  replace y2 := cell_below hb y2
  replace y3 := cell_below hb y3
  clear hb Hc HB1 hc
  have hc := refCheckSheetS ⟨L, R, A, ca, B, cb, l, t⟩ w2 HA.out
  dsimp only at hc
  have Hc := Lib.hid (hc)
  try dsimp only at Hc
  go_wp2_with fail
  refine Hc.out.mono ?_
  rintro e w3 ⟨v, rfl, rfl, hb⟩
  have HB3 := Lib.hid (below_trans' HB2.out hb)
  replace HA := Lib.hid (HA.out.below hb)
  replace y0 := cell_below hb y0
  replace y1 := cell_below hb y1
  replace y2 := cell_below hb y2
  replace y3 := cell_below hb y3
  clear hb Hc HB2 hc
  go_wp2
  go_ret2
  exact Ret.mk ⟨rfl, HB3.out⟩

set_option maxRecDepth 100000 in
set_option maxHeartbeats 4000000 in
theorem listKinds_any (s : Sh) (right : Bool) (w : World) (hs : ShIn w s) :
    Calls Try.prog 5 #[s.v, .bool right] w (Ret fun v w' => v = .bool true ∧ Below w.heap.size w w') := by
  obtain ⟨L, R, A, ca, B, cb, l, t⟩ := s
  have HS := Lib.hid hs; clear hs
  unfold Sh.v vSheet
  dsimp only
  obtain ⟨w1, hw1⟩ : ∃ w1, w1 = w.alloc (.cells #[.int .i64 L, .int .i64 R, .slice A l.length ca, .slice B t.length cb] 25) := ⟨_, rfl⟩
  have HB1 : Hid (Below w.heap.size w w1) := Lib.hid (by rw [hw1]; exact below_alloc' (Below.refl _ _) _)
  have hX : w1.heap[w.heap.size]? = some (.cells #[.int .i64 L, .int .i64 R, .slice A l.length ca, .slice B t.length cb] 25 (0, 0)) := by rw [hw1]; exact heap_alloc_new _ _
  have y0 : w1.cell? ⟨w.heap.size, 0, none⟩ = some (.int .i64 L) := (blk_cell hX).trans rfl
  have y1 : w1.cell? ⟨w.heap.size, 1, none⟩ = some (.int .i64 R) := (blk_cell hX).trans rfl
  have y2 : w1.cell? ⟨w.heap.size, 2, none⟩ = some (.slice A l.length ca) := (blk_cell hX).trans rfl
  have y3 : w1.cell? ⟨w.heap.size, 3, none⟩ = some (.slice B t.length cb) := (blk_cell hX).trans rfl
  replace HS := Lib.hid (HS.out.below HB1.out)
  go_enter Try.func5, Try.ntmps5
  go_upto_region 1 with fail
  rw [← hw1]
  clear hw1 hX
  have Hc := Lib.hid (greatS ⟨L, R, A, ca, B, cb, l, t⟩ w1 HS.out)
  try dsimp only at Hc
  go_wp2_with fail
  refine Hc.out.mono ?_
  rintro e w2 ⟨v, rfl, rfl, hb⟩
  have HB2 := Lib.hid (below_trans' HB1.out hb)
  replace HS := Lib.hid (HS.out.below hb)
  replace y0 := cell_below hb y0
  replace y1 := cell_below hb y1
  replace y2 := cell_below hb y2
  replace y3 := cell_below hb y3
  clear hb Hc HB1 
  by_cases hf : greatC ⟨L, R, A, ca, B, cb, l, t⟩ = true
  ·
    rw [hf]
    go_wp2_with fail
    refine (works_any _).mono ?_
    rintro e wz ⟨v, rfl, rfl, hBz⟩
    go_wp2
    go_ret
    exact Ret.mk' rfl ⟨rfl, below_trans' HB2.out hBz⟩
  have hf : greatC ⟨L, R, A, ca, B, cb, l, t⟩ = false := by simpa using hf
  rw [hf]
  have HA := Lib.hid (HS.out.at hf)
  clear HS hf
  by_cases hv : sheetErr L R l t = 0
  rotate_left 1
  ·
    have HV := Lib.hid hv
    clear hv
    have hc := kindsE ⟨L, R, A, ca, B, cb, l, t⟩ w2 HA.out HV.out
    dsimp only at hc
    have Hc := Lib.hid (hc)
    try dsimp only at Hc
    go_wp2_with fail
    refine Hc.out.mono ?_
    rintro e w3 ⟨v, rfl, rfl, hb⟩
    have HB3 := Lib.hid (below_trans' HB2.out hb)
    replace HA := Lib.hid (HA.out.below hb)
    replace y0 := cell_below hb y0
    replace y1 := cell_below hb y1
    replace y2 := cell_below hb y2
    replace y3 := cell_below hb y3
    clear hb Hc HB2 hc
    have hc := refKindsE ⟨L, R, A, ca, B, cb, l, t⟩ w3 HA.out HV.out
    dsimp only at hc
    have Hc := Lib.hid (hc)
    try dsimp only at Hc
    go_wp2_with fail
    refine Hc.out.mono ?_
    rintro e w4 ⟨v, rfl, rfl, hb⟩
    have HB4 := Lib.hid (below_trans' HB3.out hb)
    replace HA := Lib.hid (HA.out.below hb)
    replace y0 := cell_below hb y0
    replace y1 := cell_below hb y1
    replace y2 := cell_below hb y2
    replace y3 := cell_below hb y3
    clear hb Hc HB3 hc
    have hc := itemsE ⟨L, R, A, ca, B, cb, l, t⟩ right w4 HA.out HV.out
    dsimp only at hc
    have Hc := Lib.hid (hc)
    try dsimp only at Hc
    go_wp2_with fail
    refine Hc.out.mono ?_
    rintro e w5 ⟨v, rfl, rfl, hb⟩
    have HB5 := Lib.hid (below_trans' HB4.out hb)
    replace HA := Lib.hid (HA.out.below hb)
    replace y0 := cell_below hb y0
    replace y1 := cell_below hb y1
    replace y2 := cell_below hb y2
    replace y3 := cell_below hb y3
    clear hb Hc HB4 hc
    have hc := refItemsE ⟨L, R, A, ca, B, cb, l, t⟩ right w5 HA.out HV.out
    dsimp only at hc
    have Hc := Lib.hid (hc)
    try dsimp only at Hc
    go_wp2_with fail
    refine Hc.out.mono ?_
    rintro e w6 ⟨v, rfl, rfl, hb⟩
    have HB6 := Lib.hid (below_trans' HB5.out hb)
    replace HA := Lib.hid (HA.out.below hb)
    replace y0 := cell_below hb y0
    replace y1 := cell_below hb y1
    replace y2 := cell_below hb y2
    replace y3 := cell_below hb y3
    clear hb Hc HB5 hc
    clear y0 y1 y2 y3 HA HV
    generalize sheetErr L R l t = e0
    have hc := intsS none none 0 0 [] [] w6 IntsAt.nil IntsAt.nil (by decide) (by decide)
    rw [decide_eq_true (Eq.refl _)] at hc
    have Hc := Lib.hid (hc)
    try dsimp only at Hc
    go_wp2_with fail
    refine Hc.out.mono ?_
    rintro e w7 ⟨v, rfl, rfl, hb⟩
    have HB7 := Lib.hid (below_trans' HB6.out hb)
    clear hb Hc HB6 hc
    have hc := intsS none none 0 0 [] [] w7 IntsAt.nil IntsAt.nil (by decide) (by decide)
    rw [decide_eq_true (Eq.refl _)] at hc
    have Hc := Lib.hid (hc)
    try dsimp only at Hc
    go_wp2_with fail
    refine Hc.out.mono ?_
    rintro e w8 ⟨v, rfl, rfl, hb⟩
    have HB8 := Lib.hid (below_trans' HB7.out hb)
    clear hb Hc HB7 hc
    go_wp2_with fail
    refine (works_any _).mono ?_
    rintro e wz ⟨v, rfl, rfl, hBz⟩
    go_wp2
    go_ret
    exact Ret.mk' rfl ⟨rfl, below_trans' HB8.out hBz⟩
  have HV := Lib.hid (sheetErr_iff.1 hv)
  clear hv
  have hkl := kindsC_len ⟨L, R, A, ca, B, cb, l, t⟩
  have hil := itemsC_len ⟨L, R, A, ca, B, cb, l, t⟩ right
  have hmo : manyOf ⟨L, R, A, ca, B, cb, l, t⟩ right ≤ 12 := by
    have hd := HV.out.dim
    show (bif right then R else L).toNat ≤ 12
    try dsimp only at hd
    cases right <;> dsimp only [cond] <;> omega
  have hmany := HV.out.many
  try dsimp only at hkl hmany
  obtain ⟨ks, hks⟩ : ∃ ks, kindsC ⟨L, R, A, ca, B, cb, l, t⟩ = ks := ⟨_, rfl⟩
  obtain ⟨is, his⟩ : ∃ is, itemsC ⟨L, R, A, ca, B, cb, l, t⟩ right = is := ⟨_, rfl⟩
  rw [hks] at hkl
  rw [his] at hil
  have hk40 : ks.length ≤ 40 := by omega
  have hi12 : is.length ≤ 12 := by omega
  have HKS := Lib.hid hks
  have HIS := Lib.hid his
  clear hkl hil hmo hmany hks his
  have hc := kindsS ⟨L, R, A, ca, B, cb, l, t⟩ w2 HA.out HV.out
  rw [HKS.out] at hc
  try dsimp only at hc
  have Hc := Lib.hid (hc)
  try dsimp only at Hc
  go_wp2_with fail
  refine Hc.out.mono ?_
  rintro e w3 ⟨v, rfl, ⟨G1, c1, rfl, h1⟩, hb⟩
  have HB3 := Lib.hid (below_trans' HB2.out hb)
  replace HA := Lib.hid (HA.out.below hb)
  replace y0 := cell_below hb y0
  replace y1 := cell_below hb y1
  replace y2 := cell_below hb y2
  replace y3 := cell_below hb y3
  clear hb Hc HB2 hc
  have H1 := Lib.hid h1.1
  clear h1
  have hc := refKindsS ⟨L, R, A, ca, B, cb, l, t⟩ w3 HA.out HV.out
  rw [HKS.out] at hc
  try dsimp only at hc
  have Hc := Lib.hid (hc)
  try dsimp only at Hc
  go_wp2_with fail
  refine Hc.out.mono ?_
  rintro e w4 ⟨v, rfl, ⟨G2, c2, rfl, h2⟩, hb⟩
  have HB4 := Lib.hid (below_trans' HB3.out hb)
  replace HA := Lib.hid (HA.out.below hb)
  replace H1 := Lib.hid (H1.out.below hb)
  replace y0 := cell_below hb y0
  replace y1 := cell_below hb y1
  replace y2 := cell_below hb y2
  replace y3 := cell_below hb y3
  clear hb Hc HB3 hc
  have H2 := Lib.hid h2.1
  clear h2
  have hc := itemsS ⟨L, R, A, ca, B, cb, l, t⟩ right w4 HA.out HV.out
  rw [HIS.out] at hc
  try dsimp only at hc
  have Hc := Lib.hid (hc)
  try dsimp only at Hc
  go_wp2_with fail
  refine Hc.out.mono ?_
  rintro e w5 ⟨v, rfl, ⟨G3, c3, rfl, h3⟩, hb⟩
  have HB5 := Lib.hid (below_trans' HB4.out hb)
  replace HA := Lib.hid (HA.out.below hb)
  replace H1 := Lib.hid (H1.out.below hb)
  replace H2 := Lib.hid (H2.out.below hb)
  replace y0 := cell_below hb y0
  replace y1 := cell_below hb y1
  replace y2 := cell_below hb y2
  replace y3 := cell_below hb y3
  clear hb Hc HB4 hc
  have H3 := Lib.hid h3.1
  clear h3
  have hc := refItemsS ⟨L, R, A, ca, B, cb, l, t⟩ right w5 HA.out HV.out
  rw [HIS.out] at hc
  try dsimp only at hc
  have Hc := Lib.hid (hc)
  try dsimp only at Hc
  go_wp2_with fail
  refine Hc.out.mono ?_
  rintro e w6 ⟨v, rfl, ⟨G4, c4, rfl, h4⟩, hb⟩
  have HB6 := Lib.hid (below_trans' HB5.out hb)
  replace HA := Lib.hid (HA.out.below hb)
  replace H1 := Lib.hid (H1.out.below hb)
  replace H2 := Lib.hid (H2.out.below hb)
  replace H3 := Lib.hid (H3.out.below hb)
  replace y0 := cell_below hb y0
  replace y1 := cell_below hb y1
  replace y2 := cell_below hb y2
  replace y3 := cell_below hb y3
  clear hb Hc HB5 hc
  have H4 := Lib.hid h4.1
  clear h4
  clear y0 y1 y2 y3
  have hc := intsS G1 G2 c1 c2 ks ks w6 H1.out H2.out (by omega) (by omega)
  rw [decide_eq_true (Eq.refl _)] at hc
  have Hc := Lib.hid (hc)
  try dsimp only at Hc
  go_wp2_with fail
  refine Hc.out.mono ?_
  rintro e w7 ⟨v, rfl, rfl, hb⟩
  have HB7 := Lib.hid (below_trans' HB6.out hb)
  replace HA := Lib.hid (HA.out.below hb)
  replace H1 := Lib.hid (H1.out.below hb)
  replace H2 := Lib.hid (H2.out.below hb)
  replace H3 := Lib.hid (H3.out.below hb)
  replace H4 := Lib.hid (H4.out.below hb)
  clear hb Hc HB6 hc
  have hc := intsS G3 G4 c3 c4 is is w7 H3.out H4.out (by omega) (by omega)
  rw [decide_eq_true (Eq.refl _)] at hc
  have Hc := Lib.hid (hc)
  try dsimp only at Hc
  go_wp2_with fail
  refine Hc.out.mono ?_
  rintro e w8 ⟨v, rfl, rfl, hb⟩
  have HB8 := Lib.hid (below_trans' HB7.out hb)
  replace HA := Lib.hid (HA.out.below hb)
  replace H1 := Lib.hid (H1.out.below hb)
  replace H2 := Lib.hid (H2.out.below hb)
  replace H3 := Lib.hid (H3.out.below hb)
  replace H4 := Lib.hid (H4.out.below hb)
  clear hb Hc HB7 hc
  go_wp2_with fail
  refine (works_any _).mono ?_
  rintro e wz ⟨v, rfl, rfl, hBz⟩
  go_wp2
  go_ret
  exact Ret.mk' rfl ⟨rfl, below_trans' HB8.out hBz⟩
end Go.Proofs.Ytoogfdicmpkkgaa
