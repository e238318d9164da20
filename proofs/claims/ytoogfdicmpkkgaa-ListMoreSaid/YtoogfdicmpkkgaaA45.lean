/- ListExamples. -/
import Derived.Test.YtoogfdicmpkkgaaA44
namespace Go.Proofs.Ytoogfdicmpkkgaa
open Go.RowKit Go.Shelf Go.Maps Match

theorem joined_all {s : Sh} {j : List Int} (hj : IsJ s j) (h : Sheet s.L s.R s.l s.t) (hl : j.length = s.t.length) : j = s.t := by
  obtain ⟨_, h2⟩ := hj.free h
  rw [List.length_map] at h2
  have h3 : (j.filter fun x => !s.t.contains x) = [] := List.eq_nil_of_length_eq_zero (by omega)
  refine rising_ext hj.rise (rise_iff.1 h.rise).1 fun x => ⟨fun hx => ?_, hj.known x⟩
  have := List.filter_eq_nil_iff.1 h3 x hx
  simpa using this
theorem shEx3 {W : World} {b g : Nat} (h : RangesAt W (some ⟨b, 0, none⟩) sheetL) (hg : IntsAt W (some ⟨g, 0, none⟩) [0, 3]) : ShAt W ⟨3, 3, some ⟨b, 0, none⟩, 5, some ⟨g, 0, none⟩, 2, sheetL, [0, 3]⟩ := ⟨h, hg, (by decide : 5 ≤ 1000), (by decide : 2 ≤ 900), (by decide : 5 ≤ 5), (by decide : 5 ≤ 9223372036854775807), (by decide : 2 ≤ 2)⟩
theorem mostS_ex3 {A B : Option Addr} {ca cb : Nat} : mostS ⟨3, 3, A, ca, B, cb, sheetL, [0, 3]⟩ = 0 := most_ex3

set_option maxRecDepth 100000 in
set_option maxHeartbeats 2000000 in
theorem listExamples_any (w : World) : Calls Try.prog 13 #[] w (Ret fun v w' => v = .bool true ∧ Below w.heap.size w w') := by
  go_enter Try.func13, Try.ntmps13
  go_wp2_with fail
  refine (sheet_any _).mono ?_
  rintro e w1 ⟨v, rfl, ⟨b, rfl, hb, hR⟩, hB1⟩
  have hbB : b < w1.heap.size := by
    obtain ⟨b', o', e, h1, _⟩ := RangesAt.at_ hR (i := 0) (by decide)
    injection e with e; injection e with e1 e2; subst e1
    exact block_lt_of_cell h1
  have HR := Lib.hid hR
  have HS := Lib.hid (shEx hR (Nat.le_refl _) (by decide))
  have HB := Lib.hid hB1
  have hwb := hB1.size
  clear hR hB1 hb
  unfold vSheet
  have hX := heap_alloc_new w1 (.cells #[.int .i64 3, .int .i64 3, .slice (some ⟨b, 0, none⟩) 5 5, .slice none 0 0] 25)
  replace HR := Lib.hid (HR.out.below (below_alloc' (Below.refl _ w1) (.cells #[.int .i64 3, .int .i64 3, .slice (some ⟨b, 0, none⟩) 5 5, .slice none 0 0] 25)))
  replace HS := Lib.hid (HS.out.below (below_alloc' (Below.refl _ w1) (.cells #[.int .i64 3, .int .i64 3, .slice (some ⟨b, 0, none⟩) 5 5, .slice none 0 0] 25)))
  replace HB := Lib.hid (below_alloc' HB.out (.cells #[.int .i64 3, .int .i64 3, .slice (some ⟨b, 0, none⟩) 5 5, .slice none 0 0] 25))
  go_upto_region 2 with fail
  generalize w1.alloc _ = W at *
  have hw0 : w.heap.size ≤ w1.heap.size := hwb
  generalize w1.heap.size = B0 at *
  have y0 : W.cell? ⟨B0, 0, none⟩ = some (.int .i64 3) := (blk_cell hX).trans rfl
  have y1 : W.cell? ⟨B0, 1, none⟩ = some (.int .i64 3) := (blk_cell hX).trans rfl
  have y2 : W.cell? ⟨B0, 2, none⟩ = some (.slice (some ⟨b, 0, none⟩) 5 5) := (blk_cell hX).trans rfl
  have y3 : W.cell? ⟨B0, 3, none⟩ = some (.slice none 0 0) := (blk_cell hX).trans rfl
  have hXb : B0 < W.heap.size := block_lt_of_cell y0
  have hf3 : W.frozen? ⟨B0, 3, none⟩ = false := blk_frozen hX
  have HX := Lib.hid hX
  clear hX
  have hal : Below W.heap.size W (W.alloc (.cells #[.int .i64 0, .int .i64 2] 3)) := below_alloc' (Below.refl _ _) _
  have hc := checkJoiningS _ (some ⟨W.heap.size, 0, none⟩) 2 [0, 2] (W.alloc (.cells #[.int .i64 0, .int .i64 2] 3)) (HS.out.below hal) (rows_new encI_len _ _ _ _ rfl) (by decide)
  dsimp only at hc
  rw [show joinErr 3 3 sheetL [] [0, 2] = 16 by decide +kernel] at hc
  have Hc := Lib.hid hc
  have Hal := Lib.hid hal
  clear hc hal
  go_wp2_with fail
  refine Hc.out.mono ?_
  rintro e w2 ⟨v, rfl, rfl, hB⟩
  have hb := below_trans' Hal.out hB
  replace HX := Lib.hid (blk_below hb HX.out)
  clear hB Hal Hc
  replace HS := Lib.hid (HS.out.below hb)
  replace HR := Lib.hid (HR.out.below hb)
  replace HB := Lib.hid (below_trans' HB.out hb)
  replace y0 := cell_below hb y0
  replace y1 := cell_below hb y1
  replace y2 := cell_below hb y2
  replace y3 := cell_below hb y3
  clear hb
  have hal : Below w2.heap.size w2 (w2.alloc (.cells #[.int .i64 0, .int .i64 1, .int .i64 2] 3)) := below_alloc' (Below.refl _ _) _
  have hc := checkCoverS _ (some ⟨w2.heap.size, 0, none⟩) none 3 0 [0, 1, 2] [] (w2.alloc (.cells #[.int .i64 0, .int .i64 1, .int .i64 2] 3)) (HS.out.below hal) (rows_new encI_len _ _ _ _ rfl) IntsAt.nil (by decide) (by decide)
  dsimp only at hc
  rw [show coverErr 3 3 sheetL [] [0, 1, 2] [] = 0 by decide +kernel, show coverSize 3 3 sheetL [] [0, 1, 2] [] = 3 by decide +kernel] at hc
  have Hc := Lib.hid hc
  have Hal := Lib.hid hal
  clear hc hal
  go_wp2_with fail
  refine Hc.out.mono ?_
  rintro e w3 ⟨v, rfl, rfl, hB⟩
  have hb := below_trans' Hal.out hB
  replace HX := Lib.hid (blk_below hb HX.out)
  clear hB Hal Hc
  replace HS := Lib.hid (HS.out.below hb)
  replace HR := Lib.hid (HR.out.below hb)
  replace HB := Lib.hid (below_trans' HB.out hb)
  replace y0 := cell_below hb y0
  replace y1 := cell_below hb y1
  replace y2 := cell_below hb y2
  replace y3 := cell_below hb y3
  clear hb
  have hal : Below w3.heap.size w3 ((w3.alloc (.cells #[.int .i64 2] 3)).alloc (.cells #[.int .i64 0] 3)) := below_alloc' (below_alloc' (Below.refl _ _) _) _
  have hc := checkCoverS _ (some ⟨w3.heap.size, 0, none⟩) (some ⟨w3.heap.size + 1, 0, none⟩) 1 1 [2] [0] ((w3.alloc (.cells #[.int .i64 2] 3)).alloc (.cells #[.int .i64 0] 3)) (HS.out.below hal) (IntsAt.alloc (rows_new encI_len _ [2] _ _ rfl) _) (by have := rows_new encI_len (w3.alloc (.cells #[.int .i64 2] 3)) [(0 : Int)] #[.int .i64 0] 3 rfl; rwa [World.size_alloc] at this) (by decide) (by decide)
  dsimp only at hc
  rw [show coverErr 3 3 sheetL [] [2] [0] = 14 by decide +kernel, show coverSize 3 3 sheetL [] [2] [0] = 0 by decide +kernel] at hc
  have Hc := Lib.hid hc
  have Hal := Lib.hid hal
  clear hc hal
  go_wp2_with fail
  refine Hc.out.mono ?_
  rintro e w4 ⟨v, rfl, rfl, hB⟩
  have hb := below_trans' Hal.out hB
  replace HX := Lib.hid (blk_below hb HX.out)
  clear hB Hal Hc
  replace HS := Lib.hid (HS.out.below hb)
  replace HR := Lib.hid (HR.out.below hb)
  replace HB := Lib.hid (below_trans' HB.out hb)
  replace y0 := cell_below hb y0
  replace y1 := cell_below hb y1
  replace y2 := cell_below hb y2
  replace y3 := cell_below hb y3
  clear hb
  have hf3 := blk_frozen (i := 3) HX.out
  have hlt4 : B0 < w4.heap.size := block_lt_of_cell y0
  have hV := blk_alloc (blk_set (i := 3) HX.out (.slice (some ⟨w4.heap.size, 0, none⟩) 2 2)) (.cells #[.int .i64 0, .int .i64 3] 3)
  have hRV := (HR.out.far (p := ⟨B0, 3, none⟩) (by dsimp only; omega) (.slice (some ⟨w4.heap.size, 0, none⟩) 2 2)).alloc (.cells #[.int .i64 0, .int .i64 3] 3)
  have hKV := rows_new encI_len (w4.setCell ⟨B0, 3, none⟩ (.slice (some ⟨w4.heap.size, 0, none⟩) 2 2)) [(0 : Int), 3] #[.int .i64 0, .int .i64 3] 3 rfl
  rw [World.size_setCell] at hKV
  have HBV := Lib.hid (below_alloc' (HB.out.setCell (p := ⟨B0, 3, none⟩) hw0 (.slice (some ⟨w4.heap.size, 0, none⟩) 2 2)) (.cells #[.int .i64 0, .int .i64 3] 3))
  go_upto_region 6 with fail
  generalize World.alloc (World.setCell _ _ _) _ = V at *
  generalize w4.heap.size = B1 at *
  clear y0 y1 y2 y3 hf3 HX HR HS HB
  have y0 : V.cell? ⟨B0, 0, none⟩ = some (.int .i64 3) := (blk_cell hV).trans rfl
  have y1 : V.cell? ⟨B0, 1, none⟩ = some (.int .i64 3) := (blk_cell hV).trans rfl
  have y2 : V.cell? ⟨B0, 2, none⟩ = some (.slice (some ⟨b, 0, none⟩) 5 5) := (blk_cell hV).trans rfl
  have y3 : V.cell? ⟨B0, 3, none⟩ = some (.slice (some ⟨B1, 0, none⟩) 2 2) := (blk_cell hV).trans rfl
  clear hV
  have Hc := Lib.hid (greatestS _ V (shEx3 hRV hKV) sheet_ex3)
  clear hRV hKV
  go_wp2_with fail
  refine Hc.out.mono ?_
  rintro e w5 ⟨v, rfl, ⟨G, c, j, rfl, hg, hgc, hgj, hgl⟩, hb⟩
  rw [mostS_ex3] at hgl
  have ej : j = [0, 3] := joined_all hgj sheet_ex3 hgl
  subst ej
  have HG := Lib.hid hg
  have HB5 := Lib.hid (below_trans' HBV.out hb)
  clear hg hgj hgl hb HBV Hc y0 y1 y2 y3
  have hal : Below w5.heap.size w5 (w5.alloc (.cells #[.int .i64 0, .int .i64 3] 3)) := below_alloc' (Below.refl _ _) _
  have Hc := Lib.hid (ints_any G (some ⟨w5.heap.size, 0, none⟩) c 2 [0, 3] [0, 3] (w5.alloc (.cells #[.int .i64 0, .int .i64 3] 3)) (HG.out.below hal) (rows_new encI_len _ _ _ _ rfl) (by decide) (by decide))
  have Hal := Lib.hid hal
  clear hal
  go_wp2_with fail
  refine Hc.out.mono ?_
  rintro e w6 ⟨v, rfl, rfl, q, rfl⟩
  have HB6 := Lib.hid (below_trans' HB5.out (below_drewN Hal.out q))
  clear HB5 Hc Hal HG
  simp only [decide_true]
  generalize (w5.alloc (.cells #[.int .i64 0, .int .i64 3] 3)).drewN q = w6 at *
  go_wp2_with fail
  refine (works_any _).mono ?_
  rintro e wz ⟨v, rfl, rfl, hBz⟩
  go_wp2
  go_ret
  exact Ret.mk' rfl ⟨rfl, below_trans' HB6.out hBz⟩
end Go.Proofs.Ytoogfdicmpkkgaa
