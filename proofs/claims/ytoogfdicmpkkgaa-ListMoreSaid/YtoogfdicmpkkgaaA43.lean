/- Works: the examples of the chapter hold. -/
import Derived.Test.YtoogfdicmpkkgaaB7
namespace Go.Proofs.Ytoogfdicmpkkgaa
open Go.RowKit Go.Shelf Go.Maps Match

theorem mostS_ex {A B : Option Addr} {ca cb : Nat} : mostS ⟨3, 3, A, ca, B, cb, sheetL, []⟩ = 3 := most_ex
theorem kindsS_ex {A B : Option Addr} {ca cb : Nat} : kindsC ⟨3, 3, A, ca, B, cb, sheetL, []⟩ = [0, 2, 2, 0, 2] := kinds_ex
theorem kindsS_ex2 {A B : Option Addr} {ca cb : Nat} : kindsC ⟨3, 3, A, ca, B, cb, openL, []⟩ = [1, 1, 1, 1] := kinds_ex2
theorem itemsS_ex2 {A B : Option Addr} {ca cb : Nat} : itemsC ⟨3, 3, A, ca, B, cb, openL, []⟩ false = [2, 0, 2] := items_ex2
theorem askS_ex {A B : Option Addr} {ca cb : Nat} : askV (qsC ⟨3, 3, A, ca, B, cb, sheetL, []⟩) = .tuple #[.int .i64 0, .int .i64 0, .int .i64 5] := by
  rw [show qsC ⟨3, 3, A, ca, B, cb, sheetL, []⟩ = [] from qs_ex]; rfl
theorem askS_ex2 {A B : Option Addr} {ca cb : Nat} : askV (qsC ⟨3, 3, A, ca, B, cb, openL, []⟩) = .tuple #[.int .i64 0, .int .i64 2, .int .i64 0] := by
  rw [show qsC ⟨3, 3, A, ca, B, cb, openL, []⟩ = [(0, 2), (1, 2), (2, 2), (3, 2)] from qs_ex2]; rfl
theorem shEx {W : World} {b c : Nat} (h : RangesAt W (some ⟨b, 0, none⟩) sheetL) (hc : 5 ≤ c) (hm : c ≤ 9223372036854775807) : ShAt W ⟨3, 3, some ⟨b, 0, none⟩, c, none, 0, sheetL, []⟩ := ⟨h, IntsAt.nil, (by decide : 5 ≤ 1000), (by decide : 0 ≤ 900), hc, hm, Nat.le_refl _⟩
theorem shEx2 {W : World} {b c : Nat} (h : RangesAt W (some ⟨b, 0, none⟩) openL) (hc : 4 ≤ c) (hm : c ≤ 9223372036854775807) : ShAt W ⟨3, 3, some ⟨b, 0, none⟩, c, none, 0, openL, []⟩ := ⟨h, IntsAt.nil, (by decide : 4 ≤ 1000), (by decide : 0 ≤ 900), hc, hm, Nat.le_refl _⟩

set_option maxRecDepth 100000 in
set_option maxHeartbeats 2000000 in
theorem works_any (w : World) : Calls Try.prog 15 #[] w (Ret fun v w' => v = .bool true ∧ Below w.heap.size w w') := by
  go_enter Try.func15, Try.ntmps15
  go_wp2_with fail
  refine (sheet_any _).mono ?_
  rintro e w1 ⟨v, rfl, ⟨b, rfl, hb, hR⟩, hB1⟩
  have HS := Lib.hid (shEx hR (Nat.le_refl _) (by decide))
  have HB := Lib.hid hB1
  clear hR hB1 hb
  unfold vSheet
  have hX := heap_alloc_new w1 (.cells #[.int .i64 3, .int .i64 3, .slice (some ⟨b, 0, none⟩) 5 5, .slice none 0 0] 25)
  replace HS := Lib.hid (HS.out.below (below_alloc' (Below.refl _ w1) (.cells #[.int .i64 3, .int .i64 3, .slice (some ⟨b, 0, none⟩) 5 5, .slice none 0 0] 25)))
  replace HB := Lib.hid (below_alloc' HB.out (.cells #[.int .i64 3, .int .i64 3, .slice (some ⟨b, 0, none⟩) 5 5, .slice none 0 0] 25))
  go_upto_region 2 with fail
  generalize w1.alloc _ = W at *
  generalize w1.heap.size = B0 at *
  have y0 : W.cell? ⟨B0, 0, none⟩ = some (.int .i64 3) := (blk_cell hX).trans rfl
  have y1 : W.cell? ⟨B0, 1, none⟩ = some (.int .i64 3) := (blk_cell hX).trans rfl
  have y2 : W.cell? ⟨B0, 2, none⟩ = some (.slice (some ⟨b, 0, none⟩) 5 5) := (blk_cell hX).trans rfl
  have y3 : W.cell? ⟨B0, 3, none⟩ = some (.slice none 0 0) := (blk_cell hX).trans rfl
  clear hX
  have hal : Below W.heap.size W (W.alloc (.cells #[.int .i64 1, .int .i64 2, .int .i64 4] 3)) := below_alloc' (Below.refl _ _) _
  have hc := checkJoiningS _ (some ⟨W.heap.size, 0, none⟩) 3 [1, 2, 4] (W.alloc (.cells #[.int .i64 1, .int .i64 2, .int .i64 4] 3)) (HS.out.below hal) (rows_new encI_len _ _ _ _ rfl) (by decide)
  dsimp only at hc
  rw [show joinErr 3 3 sheetL [] [1, 2, 4] = 0 by decide +kernel] at hc
  have Hc := Lib.hid hc
  have Hal := Lib.hid hal
  clear hc hal
  go_wp2_with fail
  refine Hc.out.mono ?_
  rintro e w2 ⟨v, rfl, rfl, hB⟩
  have hb := below_trans' Hal.out hB
  clear hB Hal
  replace HS := Lib.hid (HS.out.below hb)
  replace HB := Lib.hid (below_trans' HB.out hb)
  replace y0 := cell_below hb y0
  replace y1 := cell_below hb y1
  replace y2 := cell_below hb y2
  replace y3 := cell_below hb y3
  clear hb Hc
  have Hc := Lib.hid (greatestS _ w2 HS.out sheet_ex)
  go_wp2_with fail
  refine Hc.out.mono ?_
  rintro e w3 ⟨v, rfl, ⟨G, c, j, rfl, hg, hgc, hgj, hgl⟩, hb⟩
  replace HS := Lib.hid (HS.out.below hb)
  replace HB := Lib.hid (below_trans' HB.out hb)
  replace y0 := cell_below hb y0
  replace y1 := cell_below hb y1
  replace y2 := cell_below hb y2
  replace y3 := cell_below hb y3
  clear hb Hc
  rw [mostS_ex] at hgl
  have ej : j = [1, 2, 4] := greatest_ex ⟨hgj.rise, hgj.bound, hgj.single, hgj.known⟩ hgl
  subst ej
  have HG := Lib.hid hg
  clear hg hgj hgl
  have Hc := Lib.hid (coverS _ w3 HS.out sheet_ex)
  go_wp2_with fail
  refine Hc.out.mono ?_
  rintro e w4 ⟨v, rfl, ⟨C, E, cc, cd, cl, cr, rfl, hcl, hcr, ncl, ncr, herr, hsz⟩, hb⟩
  replace HS := Lib.hid (HS.out.below hb)
  replace HB := Lib.hid (below_trans' HB.out hb)
  replace y0 := cell_below hb y0
  replace y1 := cell_below hb y1
  replace y2 := cell_below hb y2
  replace y3 := cell_below hb y3
  replace HG := Lib.hid (HG.out.below hb)
  clear hb Hc
  rw [mostS_ex] at hsz
  try dsimp only at herr hsz
  have HC := Lib.hid hcl
  have HE := Lib.hid hcr
  have HN := Lib.hid ncl
  have HM := Lib.hid ncr
  clear hcl hcr ncl ncr
  unfold vCover
  have hZ := heap_alloc_new w4 (.cells #[.slice C cl.length cc, .slice E cr.length cd] 27)
  have hb : Below w4.heap.size w4 (w4.alloc (.cells #[.slice C cl.length cc, .slice E cr.length cd] 27)) := below_alloc' (Below.refl _ _) _
  replace HS := Lib.hid (HS.out.below hb)
  replace HB := Lib.hid (below_trans' HB.out hb)
  replace HG := Lib.hid (HG.out.below hb)
  replace HC := Lib.hid (HC.out.below hb)
  replace HE := Lib.hid (HE.out.below hb)
  replace y0 := cell_below hb y0
  replace y1 := cell_below hb y1
  replace y2 := cell_below hb y2
  replace y3 := cell_below hb y3
  clear hb
  go_upto_region 5 with fail
  generalize w4.alloc _ = W4 at *
  generalize w4.heap.size = B1 at *
  have z0 : W4.cell? ⟨B1, 0, none⟩ = some (.slice C cl.length cc) := (blk_cell hZ).trans rfl
  have z1 : W4.cell? ⟨B1, 1, none⟩ = some (.slice E cr.length cd) := (blk_cell hZ).trans rfl
  clear hZ
  have hc := checkCoverS _ C E cc cd cl cr W4 HS.out HC.out HE.out (by have := HN.out; omega) (by have := HM.out; omega)
  rw [herr, hsz] at hc
  have Hc := Lib.hid (hc)
  go_wp2_with fail
  refine Hc.out.mono ?_
  rintro e w5 ⟨v, rfl, rfl, hb⟩
  replace HS := Lib.hid (HS.out.below hb)
  replace HB := Lib.hid (below_trans' HB.out hb)
  replace y0 := cell_below hb y0
  replace y1 := cell_below hb y1
  replace y2 := cell_below hb y2
  replace y3 := cell_below hb y3
  replace HG := Lib.hid (HG.out.below hb)
  clear hb Hc
  clear hc herr hsz HC HE HN HM z0 z1
  have Hc := Lib.hid (kindsS _ w5 HS.out sheet_ex)
  go_wp2_with fail
  refine Hc.out.mono ?_
  rintro e w6 ⟨v, rfl, ⟨G6, c6, rfl, h6, _⟩, hb⟩
  replace HS := Lib.hid (HS.out.below hb)
  replace HB := Lib.hid (below_trans' HB.out hb)
  replace y0 := cell_below hb y0
  replace y1 := cell_below hb y1
  replace y2 := cell_below hb y2
  replace y3 := cell_below hb y3
  replace HG := Lib.hid (HG.out.below hb)
  clear hb Hc
  rw [kindsS_ex] at h6 ⊢
  have H6 := Lib.hid h6
  clear h6
  have Hc := Lib.hid (open_any w6)
  go_wp2_with fail
  refine Hc.out.mono ?_
  rintro e w7 ⟨v, rfl, ⟨b7, c7, rfl, _, hc7, hm7, hR7⟩, hb⟩
  replace HS := Lib.hid (HS.out.below hb)
  replace HB := Lib.hid (below_trans' HB.out hb)
  replace y0 := cell_below hb y0
  replace y1 := cell_below hb y1
  replace y2 := cell_below hb y2
  replace y3 := cell_below hb y3
  replace HG := Lib.hid (HG.out.below hb)
  replace H6 := Lib.hid (H6.out.below hb)
  clear hb Hc
  have H7 := Lib.hid (shEx2 hR7 hc7 hm7)
  clear hR7
  have Hc := Lib.hid (kindsS _ w7 H7.out sheet_ex2)
  go_wp2_with fail
  refine Hc.out.mono ?_
  rintro e w8 ⟨v, rfl, ⟨G8, c8, rfl, h8, _⟩, hb⟩
  replace HS := Lib.hid (HS.out.below hb)
  replace HB := Lib.hid (below_trans' HB.out hb)
  replace y0 := cell_below hb y0
  replace y1 := cell_below hb y1
  replace y2 := cell_below hb y2
  replace y3 := cell_below hb y3
  replace HG := Lib.hid (HG.out.below hb)
  replace H6 := Lib.hid (H6.out.below hb)
  clear hb Hc
  rw [kindsS_ex2] at h8 ⊢
  have H8 := Lib.hid h8
  clear h8 H7 hc7 hm7
  have Hc := Lib.hid (open_any w8)
  go_wp2_with fail
  refine Hc.out.mono ?_
  rintro e w9 ⟨v, rfl, ⟨b9, c9, rfl, _, hc9, hm9, hR9⟩, hb⟩
  replace HS := Lib.hid (HS.out.below hb)
  replace HB := Lib.hid (below_trans' HB.out hb)
  replace y0 := cell_below hb y0
  replace y1 := cell_below hb y1
  replace y2 := cell_below hb y2
  replace y3 := cell_below hb y3
  replace HG := Lib.hid (HG.out.below hb)
  replace H6 := Lib.hid (H6.out.below hb)
  replace H8 := Lib.hid (H8.out.below hb)
  clear hb Hc
  have H9 := Lib.hid (shEx2 hR9 hc9 hm9)
  clear hR9
  have Hc := Lib.hid (itemsS _ false w9 H9.out sheet_ex2)
  go_wp2_with fail
  refine Hc.out.mono ?_
  rintro e w10 ⟨v, rfl, ⟨G10, c10, rfl, h10, _⟩, hb⟩
  replace HS := Lib.hid (HS.out.below hb)
  replace HB := Lib.hid (below_trans' HB.out hb)
  replace y0 := cell_below hb y0
  replace y1 := cell_below hb y1
  replace y2 := cell_below hb y2
  replace y3 := cell_below hb y3
  replace HG := Lib.hid (HG.out.below hb)
  replace H6 := Lib.hid (H6.out.below hb)
  replace H8 := Lib.hid (H8.out.below hb)
  clear hb Hc
  rw [itemsS_ex2] at h10 ⊢
  have H10 := Lib.hid h10
  clear h10 H9 hc9 hm9
  have Hc := Lib.hid (open_any w10)
  go_wp2_with fail
  refine Hc.out.mono ?_
  rintro e w11 ⟨v, rfl, ⟨b11, c11, rfl, _, hc11, hm11, hR11⟩, hb⟩
  replace HS := Lib.hid (HS.out.below hb)
  replace HB := Lib.hid (below_trans' HB.out hb)
  replace y0 := cell_below hb y0
  replace y1 := cell_below hb y1
  replace y2 := cell_below hb y2
  replace y3 := cell_below hb y3
  replace HG := Lib.hid (HG.out.below hb)
  replace H6 := Lib.hid (H6.out.below hb)
  replace H8 := Lib.hid (H8.out.below hb)
  replace H10 := Lib.hid (H10.out.below hb)
  clear hb Hc
  have H11 := Lib.hid (shEx2 hR11 hc11 hm11)
  clear hR11
  have Hc := Lib.hid (askS _ w11 H11.out sheet_ex2)
  go_wp2_with fail
  refine Hc.out.mono ?_
  rintro e w12 ⟨v, rfl, rfl, hb⟩
  replace HS := Lib.hid (HS.out.below hb)
  replace HB := Lib.hid (below_trans' HB.out hb)
  replace y0 := cell_below hb y0
  replace y1 := cell_below hb y1
  replace y2 := cell_below hb y2
  replace y3 := cell_below hb y3
  replace HG := Lib.hid (HG.out.below hb)
  replace H6 := Lib.hid (H6.out.below hb)
  replace H8 := Lib.hid (H8.out.below hb)
  replace H10 := Lib.hid (H10.out.below hb)
  clear hb Hc
  rw [askS_ex2]
  clear H11 hc11 hm11
  have Hc := Lib.hid (askS _ w12 HS.out sheet_ex)
  go_wp2_with fail
  refine Hc.out.mono ?_
  rintro e w13 ⟨v, rfl, rfl, hb⟩
  replace HS := Lib.hid (HS.out.below hb)
  replace HB := Lib.hid (below_trans' HB.out hb)
  replace y0 := cell_below hb y0
  replace y1 := cell_below hb y1
  replace y2 := cell_below hb y2
  replace y3 := cell_below hb y3
  replace HG := Lib.hid (HG.out.below hb)
  replace H6 := Lib.hid (H6.out.below hb)
  replace H8 := Lib.hid (H8.out.below hb)
  replace H10 := Lib.hid (H10.out.below hb)
  clear hb Hc
  rw [askS_ex]
  clear HS y0 y1 y2 y3
  have hal : Below w13.heap.size w13 (w13.alloc (.cells #[.int .i64 1, .int .i64 2, .int .i64 4] 3)) := below_alloc' (Below.refl _ _) _
  have Hc := Lib.hid (ints_any G (some ⟨w13.heap.size, 0, none⟩) c 3 [1, 2, 4] [1, 2, 4] (w13.alloc (.cells #[.int .i64 1, .int .i64 2, .int .i64 4] 3)) (HG.out.below hal) (rows_new encI_len _ _ _ _ rfl) (by decide) (by decide))
  have Hal := Lib.hid hal
  clear hal
  go_wp2_with fail
  refine Hc.out.mono ?_
  rintro e w14 ⟨v, rfl, rfl, q, rfl⟩
  have hb : Below w13.heap.size w13 ((w13.alloc (.cells #[.int .i64 1, .int .i64 2, .int .i64 4] 3)).drewN q) := below_drewN Hal.out q
  replace HB := Lib.hid (below_trans' HB.out hb)
  replace H6 := Lib.hid (H6.out.below hb)
  replace H8 := Lib.hid (H8.out.below hb)
  replace H10 := Lib.hid (H10.out.below hb)
  clear hb Hc Hal HG
  simp only [decide_true]
  generalize (w13.alloc (.cells #[.int .i64 1, .int .i64 2, .int .i64 4] 3)).drewN q = w14 at *
  have hal : Below w14.heap.size w14 (w14.alloc (.cells #[.int .i64 0, .int .i64 2, .int .i64 2, .int .i64 0, .int .i64 2] 3)) := below_alloc' (Below.refl _ _) _
  have Hc := Lib.hid (ints_any G6 (some ⟨w14.heap.size, 0, none⟩) c6 5 [0, 2, 2, 0, 2] [0, 2, 2, 0, 2] (w14.alloc (.cells #[.int .i64 0, .int .i64 2, .int .i64 2, .int .i64 0, .int .i64 2] 3)) (H6.out.below hal) (rows_new encI_len _ _ _ _ rfl) (by decide) (by decide))
  have Hal := Lib.hid hal
  clear hal
  go_wp2_with fail
  refine Hc.out.mono ?_
  rintro e w15 ⟨v, rfl, rfl, q, rfl⟩
  have hb : Below w14.heap.size w14 ((w14.alloc (.cells #[.int .i64 0, .int .i64 2, .int .i64 2, .int .i64 0, .int .i64 2] 3)).drewN q) := below_drewN Hal.out q
  replace HB := Lib.hid (below_trans' HB.out hb)
  replace H8 := Lib.hid (H8.out.below hb)
  replace H10 := Lib.hid (H10.out.below hb)
  clear hb Hc Hal H6
  simp only [decide_true]
  generalize (w14.alloc (.cells #[.int .i64 0, .int .i64 2, .int .i64 2, .int .i64 0, .int .i64 2] 3)).drewN q = w15 at *
  have hal : Below w15.heap.size w15 (w15.alloc (.cells #[.int .i64 1, .int .i64 1, .int .i64 1, .int .i64 1] 3)) := below_alloc' (Below.refl _ _) _
  have Hc := Lib.hid (ints_any G8 (some ⟨w15.heap.size, 0, none⟩) c8 4 [1, 1, 1, 1] [1, 1, 1, 1] (w15.alloc (.cells #[.int .i64 1, .int .i64 1, .int .i64 1, .int .i64 1] 3)) (H8.out.below hal) (rows_new encI_len _ _ _ _ rfl) (by decide) (by decide))
  have Hal := Lib.hid hal
  clear hal
  go_wp2_with fail
  refine Hc.out.mono ?_
  rintro e w16 ⟨v, rfl, rfl, q, rfl⟩
  have hb : Below w15.heap.size w15 ((w15.alloc (.cells #[.int .i64 1, .int .i64 1, .int .i64 1, .int .i64 1] 3)).drewN q) := below_drewN Hal.out q
  replace HB := Lib.hid (below_trans' HB.out hb)
  replace H10 := Lib.hid (H10.out.below hb)
  clear hb Hc Hal H8
  simp only [decide_true]
  generalize (w15.alloc (.cells #[.int .i64 1, .int .i64 1, .int .i64 1, .int .i64 1] 3)).drewN q = w16 at *
  have hal : Below w16.heap.size w16 (w16.alloc (.cells #[.int .i64 2, .int .i64 0, .int .i64 2] 3)) := below_alloc' (Below.refl _ _) _
  have Hc := Lib.hid (ints_any G10 (some ⟨w16.heap.size, 0, none⟩) c10 3 [2, 0, 2] [2, 0, 2] (w16.alloc (.cells #[.int .i64 2, .int .i64 0, .int .i64 2] 3)) (H10.out.below hal) (rows_new encI_len _ _ _ _ rfl) (by decide) (by decide))
  have Hal := Lib.hid hal
  clear hal
  go_wp2_with fail
  refine Hc.out.mono ?_
  rintro e w17 ⟨v, rfl, rfl, q, rfl⟩
  have hb : Below w16.heap.size w16 ((w16.alloc (.cells #[.int .i64 2, .int .i64 0, .int .i64 2] 3)).drewN q) := below_drewN Hal.out q
  replace HB := Lib.hid (below_trans' HB.out hb)
  clear hb Hc Hal H10
  simp only [decide_true]
  generalize (w16.alloc (.cells #[.int .i64 2, .int .i64 0, .int .i64 2] 3)).drewN q = w17 at *
  go_wp2
  go_ret
  exact Ret.mk' rfl ⟨rfl, HB.out⟩
end Go.Proofs.Ytoogfdicmpkkgaa
