/- ListAsks. -/
import Derived.Test.YtoogfdicmpkkgaaC13
namespace Go.Proofs.Ytoogfdicmpkkgaa
open Go.RowKit Go.Shelf Go.Maps Match

set_option maxRecDepth 100000 in
set_option maxHeartbeats 2000000 in
theorem refAskE (s : Sh) (w : World) (hs : ShAt w s) (hv : sheetErr s.L s.R s.l s.t ≠ 0) :
    Calls Try.prog 31 #[s.v] w (Ret fun v w' => v = .tuple #[.int .i64 0, .int .i64 0, .int .i64 (sheetErr s.L s.R s.l s.t)] ∧ Below w.heap.size w w') := by
  obtain ⟨L, R, A, ca, B, cb, l, t⟩ := s
  have HA := Lib.hid hs
  clear hs
  have HV := Lib.hid hv
  unfold Sh.v vSheet
  dsimp only at hv ⊢
  have hd : (sheetErr L R l t != 0) = true := by simpa using hv
  clear hv
  obtain ⟨w1, hw1⟩ : ∃ w1, w1 = w.alloc (.cells #[.int .i64 L, .int .i64 R, .slice A l.length ca, .slice B t.length cb] 25) := ⟨_, rfl⟩
  have HB1 : Hid (Below w.heap.size w w1) := Lib.hid (by rw [hw1]; exact below_alloc' (Below.refl _ _) _)
  have hX : w1.heap[w.heap.size]? = some (.cells #[.int .i64 L, .int .i64 R, .slice A l.length ca, .slice B t.length cb] 25 (0, 0)) := by rw [hw1]; exact heap_alloc_new _ _
  have y0 : w1.cell? ⟨w.heap.size, 0, none⟩ = some (.int .i64 L) := (blk_cell hX).trans rfl
  have y1 : w1.cell? ⟨w.heap.size, 1, none⟩ = some (.int .i64 R) := (blk_cell hX).trans rfl
  have y2 : w1.cell? ⟨w.heap.size, 2, none⟩ = some (.slice A l.length ca) := (blk_cell hX).trans rfl
  have y3 : w1.cell? ⟨w.heap.size, 3, none⟩ = some (.slice B t.length cb) := (blk_cell hX).trans rfl
  replace HA := Lib.hid (HA.out.below HB1.out)
  go_enter Try.func31, Try.ntmps31
  go_upto_region 1 with fail
  rw [← hw1]
  clear hw1 hX
  have hc := refCheckSheetS ⟨L, R, A, ca, B, cb, l, t⟩ w1 HA.out
  dsimp only at hc
  have Hc := Lib.hid (hc)
  try dsimp only at Hc
  go_wp2_with fail
  refine Hc.out.mono ?_
  rintro e w2 ⟨v, rfl, rfl, hb⟩
  have HB2 := Lib.hid (below_trans' HB1.out hb)
  replace HA := Lib.hid (HA.out.below hb)
  replace y0 := cell_below hb y0
  replace y1 := cell_below hb y1
  replace y2 := cell_below hb y2
  replace y3 := cell_below hb y3
  clear hb Hc HB1 hc
  have hc := refCheckSheetS ⟨L, R, A, ca, B, cb, l, t⟩ w2 HA.out
  dsimp only at hc
  have Hc := Lib.hid (hc)
  try dsimp only at Hc
  go_wp2_with fail
  refine Hc.out.mono ?_
  rintro e w3 ⟨v, rfl, rfl, hb⟩
  have HB3 := Lib.hid (below_trans' HB2.out hb)
  replace HA := Lib.hid (HA.out.below hb)
  replace y0 := cell_below hb y0
  replace y1 := cell_below hb y1
  replace y2 := cell_below hb y2
  replace y3 := cell_below hb y3
  clear hb Hc HB2 hc
  go_wp2
  go_ret3
  exact Ret.mk ⟨rfl, HB3.out⟩

/-- three numbers in a row -/
theorem askV_three (qs : List (Int × Int)) : ∃ a b c : Int, askV qs = .tuple #[.int .i64 a, .int .i64 b, .int .i64 c] := by
  unfold askV
  split
  · exact ⟨_, _, _, rfl⟩
  · exact ⟨_, _, _, rfl⟩
set_option maxRecDepth 100000 in
set_option maxHeartbeats 4000000 in
theorem listAsks_any (s : Sh) (w : World) (hs : ShIn w s) :
    Calls Try.prog 6 #[s.v] w (Ret fun v w' => v = .bool true ∧ Below w.heap.size w w') := by
  obtain ⟨L, R, A, ca, B, cb, l, t⟩ := s
  have HS := Lib.hid hs; clear hs
  unfold Sh.v vSheet
  dsimp only
  obtain ⟨w1, hw1⟩ : ∃ w1, w1 = w.alloc (.cells #[.int .i64 L, .int .i64 R, .slice A l.length ca, .slice B t.length cb] 25) := ⟨_, rfl⟩
  have HB1 : Hid (Below w.heap.size w w1) := Lib.hid (by rw [hw1]; exact below_alloc' (Below.refl _ _) _)
  have hX : w1.heap[w.heap.size]? = some (.cells #[.int .i64 L, .int .i64 R, .slice A l.length ca, .slice B t.length cb] 25 (0, 0)) := by rw [hw1]; exact heap_alloc_new _ _
  have y0 : w1.cell? ⟨w.heap.size, 0, none⟩ = some (.int .i64 L) := (blk_cell hX).trans rfl
  have y1 : w1.cell? ⟨w.heap.size, 1, none⟩ = some (.int .i64 R) := (blk_cell hX).trans rfl
  have y2 : w1.cell? ⟨w.heap.size, 2, none⟩ = some (.slice A l.length ca) := (blk_cell hX).trans rfl
  have y3 : w1.cell? ⟨w.heap.size, 3, none⟩ = some (.slice B t.length cb) := (blk_cell hX).trans rfl
  replace HS := Lib.hid (HS.out.below HB1.out)
  go_enter Try.func6, Try.ntmps6
  go_upto_region 1 with fail
  rw [← hw1]
  clear hw1 hX
  have Hc := Lib.hid (greatS ⟨L, R, A, ca, B, cb, l, t⟩ w1 HS.out)
  try dsimp only at Hc
  go_wp2_with fail
  refine Hc.out.mono ?_
  rintro e w2 ⟨v, rfl, rfl, hb⟩
  have HB2 := Lib.hid (below_trans' HB1.out hb)
  replace HS := Lib.hid (HS.out.below hb)
  replace y0 := cell_below hb y0
  replace y1 := cell_below hb y1
  replace y2 := cell_below hb y2
  replace y3 := cell_below hb y3
  clear hb Hc HB1 
  by_cases hf : greatC ⟨L, R, A, ca, B, cb, l, t⟩ = true
  ·
    rw [hf]
    go_wp2_with fail
    refine (works_any _).mono ?_
    rintro e wz ⟨v, rfl, rfl, hBz⟩
    go_wp2
    go_ret
    exact Ret.mk' rfl ⟨rfl, below_trans' HB2.out hBz⟩
  have hf : greatC ⟨L, R, A, ca, B, cb, l, t⟩ = false := by simpa using hf
  rw [hf]
  have HA := Lib.hid (HS.out.at hf)
  clear HS hf
  have hc := refCheckSheetS ⟨L, R, A, ca, B, cb, l, t⟩ w2 HA.out
  dsimp only at hc
  have Hc := Lib.hid (hc)
  try dsimp only at Hc
  go_wp2_with fail
  refine Hc.out.mono ?_
  rintro e w3 ⟨v, rfl, rfl, hb⟩
  have HB3 := Lib.hid (below_trans' HB2.out hb)
  replace HA := Lib.hid (HA.out.below hb)
  replace y0 := cell_below hb y0
  replace y1 := cell_below hb y1
  replace y2 := cell_below hb y2
  replace y3 := cell_below hb y3
  clear hb Hc HB2 hc
  by_cases hv : sheetErr L R l t = 0
  rotate_left 1
  ·
    have hd : (sheetErr L R l t == 0) = false := by simpa using hv
    have HV := Lib.hid hv
    clear hv
    have hc := askE ⟨L, R, A, ca, B, cb, l, t⟩ w3 HA.out HV.out
    dsimp only at hc
    have Hc := Lib.hid (hc)
    try dsimp only at Hc
    go_wp2_with fail
    refine Hc.out.mono ?_
    rintro e w4 ⟨v, rfl, rfl, hb⟩
    have HB4 := Lib.hid (below_trans' HB3.out hb)
    replace HA := Lib.hid (HA.out.below hb)
    replace y0 := cell_below hb y0
    replace y1 := cell_below hb y1
    replace y2 := cell_below hb y2
    replace y3 := cell_below hb y3
    clear hb Hc HB3 hc
    have hc := refAskE ⟨L, R, A, ca, B, cb, l, t⟩ w4 HA.out HV.out
    dsimp only at hc
    have Hc := Lib.hid (hc)
    try dsimp only at Hc
    go_wp2_with fail
    refine Hc.out.mono ?_
    rintro e w5 ⟨v, rfl, rfl, hb⟩
    have HB5 := Lib.hid (below_trans' HB4.out hb)
    replace HA := Lib.hid (HA.out.below hb)
    replace y0 := cell_below hb y0
    replace y1 := cell_below hb y1
    replace y2 := cell_below hb y2
    replace y3 := cell_below hb y3
    clear hb Hc HB4 hc
    go_wp2_with fail
    refine (works_any _).mono ?_
    rintro e wz ⟨v, rfl, rfl, hBz⟩
    go_wp2
    go_ret
    exact Ret.mk' rfl ⟨rfl, below_trans' HB5.out hBz⟩
  have HV := Lib.hid (sheetErr_iff.1 hv)
  rw [hv]
  clear hv
  by_cases h1 : (12 : Int) < (l.length : Int)
  ·
    go_wp2_with fail
    refine (works_any _).mono ?_
    rintro e wz ⟨v, rfl, rfl, hBz⟩
    go_wp2
    go_ret
    exact Ret.mk' rfl ⟨rfl, below_trans' HB3.out hBz⟩
  by_cases h2 : (6 : Int) < R
  ·
    go_wp2_with fail
    refine (works_any _).mono ?_
    rintro e wz ⟨v, rfl, rfl, hBz⟩
    go_wp2
    go_ret
    exact Ret.mk' rfl ⟨rfl, below_trans' HB3.out hBz⟩
  obtain ⟨a, b, c, habc⟩ := askV_three (qsC ⟨L, R, A, ca, B, cb, l, t⟩)
  have HABC := Lib.hid habc
  clear habc
  have hc := askS ⟨L, R, A, ca, B, cb, l, t⟩ w3 HA.out HV.out
  rw [HABC.out] at hc
  try dsimp only at hc
  have Hc := Lib.hid (hc)
  try dsimp only at Hc
  go_wp2_with fail
  refine Hc.out.mono ?_
  rintro e w4 ⟨v, rfl, rfl, hb⟩
  have HB4 := Lib.hid (below_trans' HB3.out hb)
  replace HA := Lib.hid (HA.out.below hb)
  replace y0 := cell_below hb y0
  replace y1 := cell_below hb y1
  replace y2 := cell_below hb y2
  replace y3 := cell_below hb y3
  clear hb Hc HB3 hc
  have hc := refAskS ⟨L, R, A, ca, B, cb, l, t⟩ w4 HA.out HV.out
  rw [HABC.out] at hc
  try dsimp only at hc
  have Hc := Lib.hid (hc)
  try dsimp only at Hc
  go_wp2_with fail
  refine Hc.out.mono ?_
  rintro e w5 ⟨v, rfl, rfl, hb⟩
  have HB5 := Lib.hid (below_trans' HB4.out hb)
  replace HA := Lib.hid (HA.out.below hb)
  replace y0 := cell_below hb y0
  replace y1 := cell_below hb y1
  replace y2 := cell_below hb y2
  replace y3 := cell_below hb y3
  clear hb Hc HB4 hc
  have e1 : (a == a) = true := by simp
  have e2 : (b == b) = true := by simp
  have e3 : (c == c) = true := by simp
  go_wp2_with fail
  refine (works_any _).mono ?_
  rintro e wz ⟨v, rfl, rfl, hBz⟩
  go_wp2
  go_ret
  exact Ret.mk' rfl ⟨rfl, below_trans' HB5.out hBz⟩
end Go.Proofs.Ytoogfdicmpkkgaa
