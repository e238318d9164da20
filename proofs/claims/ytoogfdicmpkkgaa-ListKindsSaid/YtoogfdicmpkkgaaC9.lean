/- ListGreatest. -/
import Derived.Test.YtoogfdicmpkkgaaC8
namespace Go.Proofs.Ytoogfdicmpkkgaa
open Go.RowKit Go.Shelf Go.Maps Match

set_option maxRecDepth 100000 in
set_option maxHeartbeats 4000000 in
theorem listGreatest_any (s : Sh) (w : World) (hs : ShIn w s) :
    Calls Try.prog 4 #[s.v] w (Ret fun v w' => v = .bool true ∧ Below w.heap.size w w') := by
  obtain ⟨L, R, A, ca, B, cb, l, t⟩ := s
  have HS := Lib.hid hs; clear hs
  unfold Sh.v vSheet
  dsimp only
  obtain ⟨w1, hw1⟩ : ∃ w1, w1 = w.alloc (.cells #[.int .i64 L, .int .i64 R, .slice A l.length ca, .slice B t.length cb] 25) := ⟨_, rfl⟩
  have HB1 : Hid (Below w.heap.size w w1) := Lib.hid (by rw [hw1]; exact below_alloc' (Below.refl _ _) _)
  have hX : w1.heap[w.heap.size]? = some (.cells #[.int .i64 L, .int .i64 R, .slice A l.length ca, .slice B t.length cb] 25 (0, 0)) := by rw [hw1]; exact heap_alloc_new _ _
  have y0 : w1.cell? ⟨w.heap.size, 0, none⟩ = some (.int .i64 L) := (blk_cell hX).trans rfl
  have y1 : w1.cell? ⟨w.heap.size, 1, none⟩ = some (.int .i64 R) := (blk_cell hX).trans rfl
  have y2 : w1.cell? ⟨w.heap.size, 2, none⟩ = some (.slice A l.length ca) := (blk_cell hX).trans rfl
  have y3 : w1.cell? ⟨w.heap.size, 3, none⟩ = some (.slice B t.length cb) := (blk_cell hX).trans rfl
  replace HS := Lib.hid (HS.out.below HB1.out)
  go_enter Try.func4, Try.ntmps4
  go_upto_region 1 with fail
  rw [← hw1]
  clear hw1 hX
  have Hc := Lib.hid (greatS ⟨L, R, A, ca, B, cb, l, t⟩ w1 HS.out)
  try dsimp only at Hc
  go_wp2_with fail
  refine Hc.out.mono ?_
  rintro e w2 ⟨v, rfl, rfl, hb⟩
  have HB2 := Lib.hid (below_trans' HB1.out hb)
  replace HS := Lib.hid (HS.out.below hb)
  replace y0 := cell_below hb y0
  replace y1 := cell_below hb y1
  replace y2 := cell_below hb y2
  replace y3 := cell_below hb y3
  clear hb Hc HB1 
  by_cases hf : greatC ⟨L, R, A, ca, B, cb, l, t⟩ = true
  ·
    rw [hf]
    go_wp2_with fail
    refine (works_any _).mono ?_
    rintro e wz ⟨v, rfl, rfl, hBz⟩
    go_wp2
    go_ret
    exact Ret.mk' rfl ⟨rfl, below_trans' HB2.out hBz⟩
  have hf : greatC ⟨L, R, A, ca, B, cb, l, t⟩ = false := by simpa using hf
  rw [hf]
  have HA := Lib.hid (HS.out.at hf)
  clear HS hf
  by_cases hv : sheetErr L R l t = 0
  rotate_left 1
  ·
    have hd : (sheetErr L R l t != 0) = true := by simpa using hv
    have HV := Lib.hid hv
    clear hv
    have hc := greatestE ⟨L, R, A, ca, B, cb, l, t⟩ w2 HA.out HV.out
    dsimp only at hc
    have Hc := Lib.hid (hc)
    try dsimp only at Hc
    go_wp2_with fail
    refine Hc.out.mono ?_
    rintro e w3 ⟨v, rfl, rfl, hb⟩
    have HB3 := Lib.hid (below_trans' HB2.out hb)
    replace HA := Lib.hid (HA.out.below hb)
    replace y0 := cell_below hb y0
    replace y1 := cell_below hb y1
    replace y2 := cell_below hb y2
    replace y3 := cell_below hb y3
    clear hb Hc HB2 hc
    have hc := coverE ⟨L, R, A, ca, B, cb, l, t⟩ w3 HA.out HV.out
    dsimp only at hc
    unfold vCover at hc
    have Hc := Lib.hid (hc)
    try dsimp only at Hc
    go_wp2_with fail
    refine Hc.out.mono ?_
    rintro e w4 ⟨v, rfl, rfl, hb⟩
    have HB4 := Lib.hid (below_trans' HB3.out hb)
    replace HA := Lib.hid (HA.out.below hb)
    replace y0 := cell_below hb y0
    replace y1 := cell_below hb y1
    replace y2 := cell_below hb y2
    replace y3 := cell_below hb y3
    clear hb Hc HB3 hc
    have hb : Below w4.heap.size w4 (w4.alloc (.cells #[.slice none 0 0, .slice none 0 0] 27)) := below_alloc' (Below.refl _ _) _
    have hZ := heap_alloc_new w4 (.cells #[.slice none 0 0, .slice none 0 0] 27)
    replace HA := Lib.hid (HA.out.below hb)
    replace y0 := cell_below hb y0
    replace y1 := cell_below hb y1
    replace y2 := cell_below hb y2
    replace y3 := cell_below hb y3
    have HB5 := Lib.hid (below_trans' HB4.out hb)
    clear hb HB4
    go_upto_region 5 with fail
    generalize w4.alloc _ = w5 at *
    generalize w4.heap.size = B1 at *
    have x0 : w5.cell? ⟨B1, 0, none⟩ = some (.slice none 0 0) := (blk_cell hZ).trans rfl
    have x1 : w5.cell? ⟨B1, 1, none⟩ = some (.slice none 0 0) := (blk_cell hZ).trans rfl
    clear hZ
    have hc := refCheckSheetS ⟨L, R, A, ca, B, cb, l, t⟩ w5 HA.out
    dsimp only at hc
    have Hc := Lib.hid (hc)
    try dsimp only at Hc
    go_wp2_with fail
    refine Hc.out.mono ?_
    rintro e w6 ⟨v, rfl, rfl, hb⟩
    have HB6 := Lib.hid (below_trans' HB5.out hb)
    replace HA := Lib.hid (HA.out.below hb)
    replace y0 := cell_below hb y0
    replace y1 := cell_below hb y1
    replace y2 := cell_below hb y2
    replace y3 := cell_below hb y3
    replace x0 := cell_below hb x0
    replace x1 := cell_below hb x1
    clear hb Hc HB5 hc
    have hc := refCheckSheetS ⟨L, R, A, ca, B, cb, l, t⟩ w6 HA.out
    dsimp only at hc
    have Hc := Lib.hid (hc)
    try dsimp only at Hc
    go_wp2_with fail
    refine Hc.out.mono ?_
    rintro e w7 ⟨v, rfl, rfl, hb⟩
    have HB7 := Lib.hid (below_trans' HB6.out hb)
    replace HA := Lib.hid (HA.out.below hb)
    replace y0 := cell_below hb y0
    replace y1 := cell_below hb y1
    replace y2 := cell_below hb y2
    replace y3 := cell_below hb y3
    replace x0 := cell_below hb x0
    replace x1 := cell_below hb x1
    clear hb Hc HB6 hc
    go_wp2_with fail
    refine (works_any _).mono ?_
    rintro e wz ⟨v, rfl, rfl, hBz⟩
    go_wp2
    go_ret
    exact Ret.mk' rfl ⟨rfl, below_trans' HB7.out hBz⟩
  have HV := Lib.hid (sheetErr_iff.1 hv)
  have HE := Lib.hid hv
  clear hv
  have Hc := Lib.hid (greatestS ⟨L, R, A, ca, B, cb, l, t⟩ w2 HA.out HV.out)
  try dsimp only at Hc
  go_wp2_with fail
  refine Hc.out.mono ?_
  rintro e w3 ⟨v, rfl, ⟨G, c, j, rfl, hg, hgc, hgj, hgl⟩, hb⟩
  have HB3 := Lib.hid (below_trans' HB2.out hb)
  replace HA := Lib.hid (HA.out.below hb)
  replace y0 := cell_below hb y0
  replace y1 := cell_below hb y1
  replace y2 := cell_below hb y2
  replace y3 := cell_below hb y3
  clear hb Hc HB2 
  try dsimp only at hgl
  have HG := Lib.hid hg
  have HGJ := Lib.hid hgj
  have hj40 := IsJ.short (s := ⟨L, R, A, ca, B, cb, l, t⟩) HV.out hgj
  have HGL := Lib.hid hgl
  clear hg hgj hgl
  have Hc := Lib.hid (coverS ⟨L, R, A, ca, B, cb, l, t⟩ w3 HA.out HV.out)
  try dsimp only at Hc
  go_wp2_with fail
  refine Hc.out.mono ?_
  rintro e w4 ⟨v, rfl, ⟨C1, C2, cc1, cc2, cl, cr, rfl, hcl, hcr, ncl, ncr, herr, hsz⟩, hb⟩
  have HB4 := Lib.hid (below_trans' HB3.out hb)
  replace HA := Lib.hid (HA.out.below hb)
  replace HG := Lib.hid (HG.out.below hb)
  replace y0 := cell_below hb y0
  replace y1 := cell_below hb y1
  replace y2 := cell_below hb y2
  replace y3 := cell_below hb y3
  clear hb Hc HB3 
  try dsimp only at herr hsz
  rw [← HGL.out] at hsz
  have HERR := Lib.hid herr
  have HSZ := Lib.hid hsz
  clear herr hsz
  have H1 := Lib.hid hcl
  have H2 := Lib.hid hcr
  clear hcl hcr
  unfold vCover
  have hb : Below w4.heap.size w4 (w4.alloc (.cells #[.slice C1 cl.length cc1, .slice C2 cr.length cc2] 27)) := below_alloc' (Below.refl _ _) _
  have hZ := heap_alloc_new w4 (.cells #[.slice C1 cl.length cc1, .slice C2 cr.length cc2] 27)
  replace HA := Lib.hid (HA.out.below hb)
  replace HG := Lib.hid (HG.out.below hb)
  replace H1 := Lib.hid (H1.out.below hb)
  replace H2 := Lib.hid (H2.out.below hb)
  replace y0 := cell_below hb y0
  replace y1 := cell_below hb y1
  replace y2 := cell_below hb y2
  replace y3 := cell_below hb y3
  have HB5 := Lib.hid (below_trans' HB4.out hb)
  clear hb HB4
  go_upto_region 5 with fail
  generalize w4.alloc _ = w5 at *
  generalize w4.heap.size = B1 at *
  have x0 : w5.cell? ⟨B1, 0, none⟩ = some (.slice C1 cl.length cc1) := (blk_cell hZ).trans rfl
  have x1 : w5.cell? ⟨B1, 1, none⟩ = some (.slice C2 cr.length cc2) := (blk_cell hZ).trans rfl
  clear hZ
  have hc := refCheckSheetS ⟨L, R, A, ca, B, cb, l, t⟩ w5 HA.out
  dsimp only at hc
  rw [HE.out] at hc
  have Hc := Lib.hid (hc)
  try dsimp only at Hc
  go_wp2_with fail
  refine Hc.out.mono ?_
  rintro e w6 ⟨v, rfl, rfl, hb⟩
  have HB6 := Lib.hid (below_trans' HB5.out hb)
  replace HA := Lib.hid (HA.out.below hb)
  replace HG := Lib.hid (HG.out.below hb)
  replace H1 := Lib.hid (H1.out.below hb)
  replace H2 := Lib.hid (H2.out.below hb)
  replace y0 := cell_below hb y0
  replace y1 := cell_below hb y1
  replace y2 := cell_below hb y2
  replace y3 := cell_below hb y3
  replace x0 := cell_below hb x0
  replace x1 := cell_below hb x1
  clear hb Hc HB5 hc
  have hc := refCheckCoverS ⟨L, R, A, ca, B, cb, l, t⟩ C1 C2 cc1 cc2 cl cr w6 HA.out H1.out H2.out (by omega) (by omega)
  try dsimp only at hc
  rw [HERR.out, HSZ.out] at hc
  have Hc := Lib.hid (hc)
  try dsimp only at Hc
  go_wp2_with fail
  refine Hc.out.mono ?_
  rintro e w7 ⟨v, rfl, rfl, hb⟩
  have HB7 := Lib.hid (below_trans' HB6.out hb)
  replace HA := Lib.hid (HA.out.below hb)
  replace HG := Lib.hid (HG.out.below hb)
  replace H1 := Lib.hid (H1.out.below hb)
  replace H2 := Lib.hid (H2.out.below hb)
  replace y0 := cell_below hb y0
  replace y1 := cell_below hb y1
  replace y2 := cell_below hb y2
  replace y3 := cell_below hb y3
  replace x0 := cell_below hb x0
  replace x1 := cell_below hb x1
  clear hb Hc HB6 hc H1 H2
  have hc := refCheckJoiningS ⟨L, R, A, ca, B, cb, l, t⟩ G c j w7 HA.out HG.out (by omega)
  try dsimp only at hc
  rw [show joinErr L R l t j = 0 from joinErr_of (s := ⟨L, R, A, ca, B, cb, l, t⟩) HV.out HGJ.out] at hc
  have Hc := Lib.hid (hc)
  try dsimp only at Hc
  go_wp2_with fail
  refine Hc.out.mono ?_
  rintro e w8 ⟨v, rfl, rfl, hb⟩
  have HB8 := Lib.hid (below_trans' HB7.out hb)
  replace HA := Lib.hid (HA.out.below hb)
  replace HG := Lib.hid (HG.out.below hb)
  replace y0 := cell_below hb y0
  replace y1 := cell_below hb y1
  replace y2 := cell_below hb y2
  replace y3 := cell_below hb y3
  replace x0 := cell_below hb x0
  replace x1 := cell_below hb x1
  clear hb Hc HB7 hc
  have hc := size_any ⟨L, R, A, ca, B, cb, l, t⟩ w8 HA.out HV.out
  try dsimp only at hc
  rw [show mostS ⟨L, R, A, ca, B, cb, l, t⟩ + t.length = j.length by rw [HGL.out]; exact Nat.add_comm _ _] at hc
  have Hc := Lib.hid (hc)
  try dsimp only at Hc
  go_wp2_with fail
  refine Hc.out.mono ?_
  rintro e w9 ⟨v, rfl, rfl, hb⟩
  have HB9 := Lib.hid (below_trans' HB8.out hb)
  replace HA := Lib.hid (HA.out.below hb)
  replace HG := Lib.hid (HG.out.below hb)
  replace y0 := cell_below hb y0
  replace y1 := cell_below hb y1
  replace y2 := cell_below hb y2
  replace y3 := cell_below hb y3
  replace x0 := cell_below hb x0
  replace x1 := cell_below hb x1
  clear hb Hc HB8 hc
  go_wp2_with fail
  refine (works_any _).mono ?_
  rintro e wz ⟨v, rfl, rfl, hBz⟩
  go_wp2
  go_ret
  exact Ret.mk' rfl ⟨rfl, below_trans' HB9.out hBz⟩
end Go.Proofs.Ytoogfdicmpkkgaa
