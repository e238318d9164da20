/- ListProved: the stage's theorem. -/
import Derived.Test.YtoogfdicmpkkgaaA47
namespace Go.Proofs.Ytoogfdicmpkkgaa
open Go.RowKit Go.Shelf Go.Maps Match

theorem joinErr_of {s : Sh} {j : List Int} (h : Sheet s.L s.R s.l s.t) (hj : IsJ s j) : joinErr s.L s.R s.l s.t j = 0 := (isJ_iff h j).2 hj
theorem joining_le {s : Sh} {j : List Int} (h : Sheet s.L s.R s.l s.t) (hj : IsJ s j) : j.length ≤ s.t.length + mostS s := by have := most_len h (mostOf_is _ _) hj; unfold mostS; omega
theorem IsJ.short {s : Sh} {j : List Int} (h : Sheet s.L s.R s.l s.t) (hj : IsJ s j) : j.length ≤ 40 := by
  have := nodup_le (j.map Int.toNat) (List.range s.l.length) ((nodup_map_toNat hj.rise fun x hx => (hj.bound x hx).1).imp fun {a b} hab => by omega) fun x hx => by
    obtain ⟨y, hy, rfl⟩ := List.mem_map.1 hx
    have := hj.bound y hy
    exact List.mem_range.2 (by omega)
  rw [List.length_map, List.length_range] at this
  have := h.many
  omega

set_option maxRecDepth 100000 in
set_option maxHeartbeats 4000000 in
theorem listProved_any (s : Sh) (U J C D : Option Addr) (cu cj cc cd : Nat) (u j0 cl0 cr0 : List Int) (w : World) (hs : ShIn w s) (hu : U8At w U u) (hu2 : ∀ x ∈ u, 0 ≤ x ∧ x ≤ 255) (hj : IntsAt w J j0) (hC : IntsAt w C cl0) (hD : IntsAt w D cr0) (hnu : u.length ≤ 9223372036854775807) (hnj : j0.length ≤ 9223372036854775807) (hnc : cl0.length ≤ 9223372036854775807) (hnd : cr0.length ≤ 9223372036854775807) :
    Calls Try.prog 7 #[s.v, .slice U u.length cu, .slice J j0.length cj, vCover C cl0.length cc D cr0.length cd] w (Ret fun v w' => v = .bool true ∧ Below w.heap.size w w') := by
  obtain ⟨L, R, A, ca, B, cb, l, t⟩ := s
  have HS := Lib.hid hs; clear hs
  have HJ := Lib.hid hj; clear hj
  have HU := Lib.hid hu; clear hu
  have HU2 := Lib.hid hu2; clear hu2
  have HC := Lib.hid hC; clear hC
  have HD := Lib.hid hD; clear hD
  unfold Sh.v vSheet vCover
  dsimp only
  obtain ⟨w1, hw1⟩ : ∃ w1, w1 = (w.alloc (.cells #[.int .i64 L, .int .i64 R, .slice A l.length ca, .slice B t.length cb] 25)).alloc (.cells #[.slice C cl0.length cc, .slice D cr0.length cd] 27) := ⟨_, rfl⟩
  have HB1 : Hid (Below w.heap.size w w1) := Lib.hid (by rw [hw1]; exact below_alloc' (below_alloc' (Below.refl _ _) _) _)
  have hX : w1.heap[w.heap.size]? = some (.cells #[.int .i64 L, .int .i64 R, .slice A l.length ca, .slice B t.length cb] 25 (0, 0)) := by rw [hw1]; exact blk_alloc (heap_alloc_new _ _) _
  have y0 : w1.cell? ⟨w.heap.size, 0, none⟩ = some (.int .i64 L) := (blk_cell hX).trans rfl
  have y1 : w1.cell? ⟨w.heap.size, 1, none⟩ = some (.int .i64 R) := (blk_cell hX).trans rfl
  have y2 : w1.cell? ⟨w.heap.size, 2, none⟩ = some (.slice A l.length ca) := (blk_cell hX).trans rfl
  have y3 : w1.cell? ⟨w.heap.size, 3, none⟩ = some (.slice B t.length cb) := (blk_cell hX).trans rfl
  have hX2 : w1.heap[w.heap.size + 1]? = some (.cells #[.slice C cl0.length cc, .slice D cr0.length cd] 27 (0, 0)) := by rw [hw1]; exact heap_alloc_at _ _ (by simp)
  have z0 : w1.cell? ⟨w.heap.size + 1, 0, none⟩ = some (.slice C cl0.length cc) := (blk_cell hX2).trans rfl
  have z1 : w1.cell? ⟨w.heap.size + 1, 1, none⟩ = some (.slice D cr0.length cd) := (blk_cell hX2).trans rfl
  replace HS := Lib.hid (HS.out.below HB1.out)
  go_enter Try.func7, Try.ntmps7
  go_upto_region 1 with fail
  rw [← hw1]
  clear hw1 hX hX2
  replace HJ := Lib.hid (HJ.out.below HB1.out)
  replace HC := Lib.hid (HC.out.below HB1.out)
  replace HD := Lib.hid (HD.out.below HB1.out)
  replace HU : Hid (U8At w1 U u) := Lib.hid (RowsAt.below HU.out HB1.out)
  have Hc := Lib.hid (fineS ⟨L, R, A, ca, B, cb, l, t⟩ w1 HS.out)
  try dsimp only at Hc
  go_wp2_with fail
  refine Hc.out.mono ?_
  rintro e w2 ⟨v, rfl, rfl, hb⟩
  have HB2 := Lib.hid (below_trans' HB1.out hb)
  replace HS := Lib.hid (HS.out.below hb)
  replace HJ := Lib.hid (HJ.out.below hb)
  replace HC := Lib.hid (HC.out.below hb)
  replace HD := Lib.hid (HD.out.below hb)
  replace y0 := cell_below hb y0
  replace y1 := cell_below hb y1
  replace y2 := cell_below hb y2
  replace y3 := cell_below hb y3
  replace z0 := cell_below hb z0
  replace z1 := cell_below hb z1
  replace HU : Hid (U8At w2 U u) := Lib.hid (RowsAt.below HU.out hb)
  clear hb Hc HB1 
  by_cases hf : fineC ⟨L, R, A, ca, B, cb, l, t⟩ = true
  rotate_left 1
  ·
    have hf : fineC ⟨L, R, A, ca, B, cb, l, t⟩ = false := by simpa using hf
    rw [hf]
    go_wp2_with fail
    refine (works_any _).mono ?_
    rintro e wz ⟨v, rfl, rfl, hBz⟩
    go_wp2
    go_ret
    exact Ret.mk' rfl ⟨rfl, below_trans' HB2.out hBz⟩
  rw [hf]
  by_cases h1 : (60 : Int) < (u.length : Int)
  ·
    go_wp2_with fail
    refine (works_any _).mono ?_
    rintro e wz ⟨v, rfl, rfl, hBz⟩
    go_wp2
    go_ret
    exact Ret.mk' rfl ⟨rfl, below_trans' HB2.out hBz⟩
  by_cases h2 : (60 : Int) < (j0.length : Int)
  ·
    go_wp2_with fail
    refine (works_any _).mono ?_
    rintro e wz ⟨v, rfl, rfl, hBz⟩
    go_wp2
    go_ret
    exact Ret.mk' rfl ⟨rfl, below_trans' HB2.out hBz⟩
  by_cases h3 : (30 : Int) < (cl0.length : Int)
  ·
    go_wp2_with fail
    refine (works_any _).mono ?_
    rintro e wz ⟨v, rfl, rfl, hBz⟩
    go_wp2
    go_ret
    exact Ret.mk' rfl ⟨rfl, below_trans' HB2.out hBz⟩
  by_cases h4 : (30 : Int) < (cr0.length : Int)
  ·
    go_wp2_with fail
    refine (works_any _).mono ?_
    rintro e wz ⟨v, rfl, rfl, hBz⟩
    go_wp2
    go_ret
    exact Ret.mk' rfl ⟨rfl, below_trans' HB2.out hBz⟩
  obtain ⟨hg, hv⟩ := fine_iff.1 hf
  have HA := Lib.hid (HS.out.at hg)
  have HV := Lib.hid hv
  clear HS hf hg hv
  have Hc := Lib.hid (greatestS _ w2 HA.out HV.out)
  try dsimp only at Hc
  go_wp2_with fail
  refine Hc.out.mono ?_
  rintro e w3 ⟨v, rfl, ⟨G, c, j, rfl, hg, hgc, hgj, hgl⟩, hb⟩
  have HB3 := Lib.hid (below_trans' HB2.out hb)
  replace HA := Lib.hid (HA.out.below hb)
  replace HJ := Lib.hid (HJ.out.below hb)
  replace HC := Lib.hid (HC.out.below hb)
  replace HD := Lib.hid (HD.out.below hb)
  replace y0 := cell_below hb y0
  replace y1 := cell_below hb y1
  replace y2 := cell_below hb y2
  replace y3 := cell_below hb y3
  replace z0 := cell_below hb z0
  replace z1 := cell_below hb z1
  replace HU : Hid (U8At w3 U u) := Lib.hid (RowsAt.below HU.out hb)
  clear hb Hc HB2 
  try dsimp only at hgl
  have HG := Lib.hid hg
  have HGJ := Lib.hid hgj
  have hj40 := IsJ.short HV.out hgj
  have HGL := Lib.hid hgl
  clear hg hgj hgl
  have Hc := Lib.hid (coverS _ w3 HA.out HV.out)
  try dsimp only at Hc
  go_wp2_with fail
  refine Hc.out.mono ?_
  rintro e w4 ⟨v, rfl, ⟨C1, C2, cc1, cc2, cl, cr, rfl, hcl, hcr, ncl, ncr, herr, hsz⟩, hb⟩
  have HB4 := Lib.hid (below_trans' HB3.out hb)
  replace HA := Lib.hid (HA.out.below hb)
  replace HJ := Lib.hid (HJ.out.below hb)
  replace HC := Lib.hid (HC.out.below hb)
  replace HD := Lib.hid (HD.out.below hb)
  replace HG := Lib.hid (HG.out.below hb)
  replace y0 := cell_below hb y0
  replace y1 := cell_below hb y1
  replace y2 := cell_below hb y2
  replace y3 := cell_below hb y3
  replace z0 := cell_below hb z0
  replace z1 := cell_below hb z1
  replace HU : Hid (U8At w4 U u) := Lib.hid (RowsAt.below HU.out hb)
  clear hb Hc HB3 
  try dsimp only at herr hsz
  rw [← HGL.out] at hsz
  have HERR := Lib.hid herr
  have HSZ := Lib.hid hsz
  clear herr hsz
  have H1 := Lib.hid hcl
  have H2 := Lib.hid hcr
  clear hcl hcr
  unfold vCover
  have hb : Below w4.heap.size w4 (w4.alloc (.cells #[.slice C1 cl.length cc1, .slice C2 cr.length cc2] 27)) := below_alloc' (Below.refl _ _) _
  have hZ := heap_alloc_new w4 (.cells #[.slice C1 cl.length cc1, .slice C2 cr.length cc2] 27)
  replace HA := Lib.hid (HA.out.below hb)
  replace HJ := Lib.hid (HJ.out.below hb)
  replace HC := Lib.hid (HC.out.below hb)
  replace HD := Lib.hid (HD.out.below hb)
  replace HG := Lib.hid (HG.out.below hb)
  replace H1 := Lib.hid (H1.out.below hb)
  replace H2 := Lib.hid (H2.out.below hb)
  replace y0 := cell_below hb y0
  replace y1 := cell_below hb y1
  replace y2 := cell_below hb y2
  replace y3 := cell_below hb y3
  replace z0 := cell_below hb z0
  replace z1 := cell_below hb z1
  replace HU : Hid (U8At _ U u) := Lib.hid (RowsAt.below HU.out hb)
  have HB5 := Lib.hid (below_trans' HB4.out hb)
  clear hb HB4
  go_upto_region 5 with fail
  generalize w4.alloc _ = w5 at *
  generalize w4.heap.size = B1 at *
  have x0 : w5.cell? ⟨B1, 0, none⟩ = some (.slice C1 cl.length cc1) := (blk_cell hZ).trans rfl
  have x1 : w5.cell? ⟨B1, 1, none⟩ = some (.slice C2 cr.length cc2) := (blk_cell hZ).trans rfl
  clear hZ
  have hc := checkCoverS ⟨L, R, A, ca, B, cb, l, t⟩ C1 C2 cc1 cc2 cl cr w5 HA.out H1.out H2.out (by omega) (by omega)
  try dsimp only at hc
  rw [HERR.out, HSZ.out] at hc
  have Hc := Lib.hid (hc)
  try dsimp only at Hc
  go_wp2_with fail
  refine Hc.out.mono ?_
  rintro e w6 ⟨v, rfl, rfl, hb⟩
  have HB6 := Lib.hid (below_trans' HB5.out hb)
  replace HA := Lib.hid (HA.out.below hb)
  replace HJ := Lib.hid (HJ.out.below hb)
  replace HC := Lib.hid (HC.out.below hb)
  replace HD := Lib.hid (HD.out.below hb)
  replace HG := Lib.hid (HG.out.below hb)
  replace H1 := Lib.hid (H1.out.below hb)
  replace H2 := Lib.hid (H2.out.below hb)
  replace y0 := cell_below hb y0
  replace y1 := cell_below hb y1
  replace y2 := cell_below hb y2
  replace y3 := cell_below hb y3
  replace z0 := cell_below hb z0
  replace z1 := cell_below hb z1
  replace x0 := cell_below hb x0
  replace x1 := cell_below hb x1
  replace HU : Hid (U8At w6 U u) := Lib.hid (RowsAt.below HU.out hb)
  clear hb Hc HB5 hc
  have hc := refCheckCoverS ⟨L, R, A, ca, B, cb, l, t⟩ C1 C2 cc1 cc2 cl cr w6 HA.out H1.out H2.out (by omega) (by omega)
  try dsimp only at hc
  rw [HERR.out, HSZ.out] at hc
  have Hc := Lib.hid (hc)
  try dsimp only at Hc
  go_wp2_with fail
  refine Hc.out.mono ?_
  rintro e w7 ⟨v, rfl, rfl, hb⟩
  have HB7 := Lib.hid (below_trans' HB6.out hb)
  replace HA := Lib.hid (HA.out.below hb)
  replace HJ := Lib.hid (HJ.out.below hb)
  replace HC := Lib.hid (HC.out.below hb)
  replace HD := Lib.hid (HD.out.below hb)
  replace HG := Lib.hid (HG.out.below hb)
  replace H1 := Lib.hid (H1.out.below hb)
  replace H2 := Lib.hid (H2.out.below hb)
  replace y0 := cell_below hb y0
  replace y1 := cell_below hb y1
  replace y2 := cell_below hb y2
  replace y3 := cell_below hb y3
  replace z0 := cell_below hb z0
  replace z1 := cell_below hb z1
  replace x0 := cell_below hb x0
  replace x1 := cell_below hb x1
  replace HU : Hid (U8At w7 U u) := Lib.hid (RowsAt.below HU.out hb)
  clear hb Hc HB6 hc x0 x1 H1 H2
  have hc := checkJoiningS ⟨L, R, A, ca, B, cb, l, t⟩ G c j w7 HA.out HG.out (by omega)
  try dsimp only at hc
  rw [show joinErr L R l t j = 0 from joinErr_of (s := ⟨L, R, A, ca, B, cb, l, t⟩) HV.out HGJ.out] at hc
  have Hc := Lib.hid (hc)
  try dsimp only at Hc
  go_wp2_with fail
  refine Hc.out.mono ?_
  rintro e w8 ⟨v, rfl, rfl, hb⟩
  have HB8 := Lib.hid (below_trans' HB7.out hb)
  replace HA := Lib.hid (HA.out.below hb)
  replace HJ := Lib.hid (HJ.out.below hb)
  replace HC := Lib.hid (HC.out.below hb)
  replace HD := Lib.hid (HD.out.below hb)
  replace HG := Lib.hid (HG.out.below hb)
  replace y0 := cell_below hb y0
  replace y1 := cell_below hb y1
  replace y2 := cell_below hb y2
  replace y3 := cell_below hb y3
  replace z0 := cell_below hb z0
  replace z1 := cell_below hb z1
  replace HU : Hid (U8At w8 U u) := Lib.hid (RowsAt.below HU.out hb)
  clear hb Hc HB7 hc
  have hc := refCheckJoiningS ⟨L, R, A, ca, B, cb, l, t⟩ G c j w8 HA.out HG.out (by omega)
  try dsimp only at hc
  rw [show joinErr L R l t j = 0 from joinErr_of (s := ⟨L, R, A, ca, B, cb, l, t⟩) HV.out HGJ.out] at hc
  have Hc := Lib.hid (hc)
  try dsimp only at Hc
  go_wp2_with fail
  refine Hc.out.mono ?_
  rintro e w9 ⟨v, rfl, rfl, hb⟩
  have HB9 := Lib.hid (below_trans' HB8.out hb)
  replace HA := Lib.hid (HA.out.below hb)
  replace HJ := Lib.hid (HJ.out.below hb)
  replace HC := Lib.hid (HC.out.below hb)
  replace HD := Lib.hid (HD.out.below hb)
  replace HG := Lib.hid (HG.out.below hb)
  replace y0 := cell_below hb y0
  replace y1 := cell_below hb y1
  replace y2 := cell_below hb y2
  replace y3 := cell_below hb y3
  replace z0 := cell_below hb z0
  replace z1 := cell_below hb z1
  replace HU : Hid (U8At w9 U u) := Lib.hid (RowsAt.below HU.out hb)
  clear hb Hc HB8 hc HG
  have Hc := Lib.hid (byS ⟨L, R, A, ca, B, cb, l, t⟩ U cu u w9 HA.out HV.out HU.out (by omega) HU2.out)
  try dsimp only at Hc
  go_wp2_with fail
  refine Hc.out.mono ?_
  rintro e w10 ⟨v, rfl, ⟨G3, c3, j3, rfl, hg3, hc3, hj3, hl3⟩, hb⟩
  have HB10 := Lib.hid (below_trans' HB9.out hb)
  replace HA := Lib.hid (HA.out.below hb)
  replace HJ := Lib.hid (HJ.out.below hb)
  replace HC := Lib.hid (HC.out.below hb)
  replace HD := Lib.hid (HD.out.below hb)
  replace y0 := cell_below hb y0
  replace y1 := cell_below hb y1
  replace y2 := cell_below hb y2
  replace y3 := cell_below hb y3
  replace z0 := cell_below hb z0
  replace z1 := cell_below hb z1
  replace HU : Hid (U8At w10 U u) := Lib.hid (RowsAt.below HU.out hb)
  clear hb Hc HB9 
  have H3 := Lib.hid hg3
  have e3 : joinErr L R l t j3 = 0 := joinErr_of (s := ⟨L, R, A, ca, B, cb, l, t⟩) HV.out hj3
  have hle3 := joining_le HV.out hj3
  try dsimp only at hle3
  rw [← HGL.out] at hle3
  have E3 := Lib.hid e3
  have i3 : ¬ ((j.length : Int) < (j3.length : Int)) := by omega
  clear hg3 hj3 e3
  have hc := checkJoiningS ⟨L, R, A, ca, B, cb, l, t⟩ G3 c3 j3 w10 HA.out H3.out (by omega)
  try dsimp only at hc
  rw [E3.out] at hc
  have Hc := Lib.hid (hc)
  try dsimp only at Hc
  go_wp2_with fail
  refine Hc.out.mono ?_
  rintro e w11 ⟨v, rfl, rfl, hb⟩
  have HB11 := Lib.hid (below_trans' HB10.out hb)
  replace HA := Lib.hid (HA.out.below hb)
  replace HJ := Lib.hid (HJ.out.below hb)
  replace HC := Lib.hid (HC.out.below hb)
  replace HD := Lib.hid (HD.out.below hb)
  replace H3 := Lib.hid (H3.out.below hb)
  replace y0 := cell_below hb y0
  replace y1 := cell_below hb y1
  replace y2 := cell_below hb y2
  replace y3 := cell_below hb y3
  replace z0 := cell_below hb z0
  replace z1 := cell_below hb z1
  replace HU : Hid (U8At w11 U u) := Lib.hid (RowsAt.below HU.out hb)
  clear hb Hc HB10 hc H3
  have hc := checkJoiningS ⟨L, R, A, ca, B, cb, l, t⟩ J cj j0 w11 HA.out HJ.out (by omega)
  try dsimp only at hc
  have hw0 : joinErr L R l t j0 = 0 → ¬ ((j.length : Int) < (j0.length : Int)) := fun e => by
    have := joining_le HV.out ((isJ_iff (s := ⟨L, R, A, ca, B, cb, l, t⟩) HV.out j0).1 e)
    dsimp only at this
    rw [← HGL.out] at this
    omega
  have HW0 := Lib.hid hw0
  clear hw0
  have Hc := Lib.hid (hc)
  try dsimp only at Hc
  go_wp2_with fail
  refine Hc.out.mono ?_
  rintro e w12 ⟨v, rfl, rfl, hb⟩
  have HB12 := Lib.hid (below_trans' HB11.out hb)
  replace HA := Lib.hid (HA.out.below hb)
  replace HJ := Lib.hid (HJ.out.below hb)
  replace HC := Lib.hid (HC.out.below hb)
  replace HD := Lib.hid (HD.out.below hb)
  replace y0 := cell_below hb y0
  replace y1 := cell_below hb y1
  replace y2 := cell_below hb y2
  replace y3 := cell_below hb y3
  replace z0 := cell_below hb z0
  replace z1 := cell_below hb z1
  replace HU : Hid (U8At w12 U u) := Lib.hid (RowsAt.below HU.out hb)
  clear hb Hc HB11 hc HJ
  dsimp only
  by_cases he0 : joinErr L R l t j0 = 0
  · rw [he0]
    have i0 := HW0.out he0
    clear HW0 HU HU2
    have hc := checkCoverS ⟨L, R, A, ca, B, cb, l, t⟩ C D cc cd cl0 cr0 w12 HA.out HC.out HD.out (by omega) (by omega)
    try dsimp only at hc
    have hw1 : coverErr L R l t cl0 cr0 = 0 → (j.length : Int) ≤ coverSize L R l t cl0 cr0 := fun e => join_le_cover (s := ⟨L, R, A, ca, B, cb, l, t⟩) HV.out HGJ.out e
    generalize coverErr L R l t cl0 cr0 = e2 at hc hw1
    generalize coverSize L R l t cl0 cr0 = n2 at hc hw1
    have HW1 := Lib.hid hw1
    clear hw1
    have Hc := Lib.hid (hc)
    try dsimp only at Hc
    go_wp2_with fail
    refine Hc.out.mono ?_
    rintro e w13 ⟨v, rfl, rfl, hb⟩
    have HB13 := Lib.hid (below_trans' HB12.out hb)
    replace HA := Lib.hid (HA.out.below hb)
    replace HC := Lib.hid (HC.out.below hb)
    replace HD := Lib.hid (HD.out.below hb)
    replace y0 := cell_below hb y0
    replace y1 := cell_below hb y1
    replace y2 := cell_below hb y2
    replace y3 := cell_below hb y3
    replace z0 := cell_below hb z0
    replace z1 := cell_below hb z1
    clear hb Hc HB12 hc HC HD y0 y1 y2 y3 z0 z1
    by_cases he2 : e2 = 0
    · have d5 : (e2 != 0) = false := by simpa using he2
      have d6 : decide (n2 ≥ (j.length : Int)) = true := decide_eq_true (HW1.out he2)
      have d7 : (j.length : Int) ≤ n2 := HW1.out he2
      go_wp2_with fail
      refine (works_any _).mono ?_
      rintro e wz ⟨v, rfl, rfl, hBz⟩
      go_wp2
      go_ret
      exact Ret.mk' rfl ⟨rfl, below_trans' HB13.out hBz⟩
    · have d5 : (e2 != 0) = true := by simpa using he2
      go_wp2_with fail
      refine (works_any _).mono ?_
      rintro e wz ⟨v, rfl, rfl, hBz⟩
      go_wp2
      go_ret
      exact Ret.mk' rfl ⟨rfl, below_trans' HB13.out hBz⟩
  · generalize joinErr L R l t j0 = e0 at he0 HW0
    have d0 : (e0 == 0) = false := by simpa using he0
    clear HW0 HU HU2
    have hc := checkCoverS ⟨L, R, A, ca, B, cb, l, t⟩ C D cc cd cl0 cr0 w12 HA.out HC.out HD.out (by omega) (by omega)
    try dsimp only at hc
    have hw1 : coverErr L R l t cl0 cr0 = 0 → (j.length : Int) ≤ coverSize L R l t cl0 cr0 := fun e => join_le_cover (s := ⟨L, R, A, ca, B, cb, l, t⟩) HV.out HGJ.out e
    generalize coverErr L R l t cl0 cr0 = e2 at hc hw1
    generalize coverSize L R l t cl0 cr0 = n2 at hc hw1
    have HW1 := Lib.hid hw1
    clear hw1
    have Hc := Lib.hid (hc)
    try dsimp only at Hc
    go_wp2_with fail
    refine Hc.out.mono ?_
    rintro e w13 ⟨v, rfl, rfl, hb⟩
    have HB13 := Lib.hid (below_trans' HB12.out hb)
    replace HA := Lib.hid (HA.out.below hb)
    replace HC := Lib.hid (HC.out.below hb)
    replace HD := Lib.hid (HD.out.below hb)
    replace y0 := cell_below hb y0
    replace y1 := cell_below hb y1
    replace y2 := cell_below hb y2
    replace y3 := cell_below hb y3
    replace z0 := cell_below hb z0
    replace z1 := cell_below hb z1
    clear hb Hc HB12 hc HC HD y0 y1 y2 y3 z0 z1
    by_cases he2 : e2 = 0
    · have d5 : (e2 != 0) = false := by simpa using he2
      have d6 : decide (n2 ≥ (j.length : Int)) = true := decide_eq_true (HW1.out he2)
      have d7 : (j.length : Int) ≤ n2 := HW1.out he2
      go_wp2_with fail
      refine (works_any _).mono ?_
      rintro e wz ⟨v, rfl, rfl, hBz⟩
      go_wp2
      go_ret
      exact Ret.mk' rfl ⟨rfl, below_trans' HB13.out hBz⟩
    · have d5 : (e2 != 0) = true := by simpa using he2
      go_wp2_with fail
      refine (works_any _).mono ?_
      rintro e wz ⟨v, rfl, rfl, hBz⟩
      go_wp2
      go_ret
      exact Ret.mk' rfl ⟨rfl, below_trans' HB13.out hBz⟩
end Go.Proofs.Ytoogfdicmpkkgaa
