/- ListAnswered. -/
import Derived.Test.YtoogfdicmpkkgaaC3
namespace Go.Proofs.Ytoogfdicmpkkgaa
open Go.RowKit Go.Shelf Go.Maps Match

set_option maxRecDepth 100000 in
set_option maxHeartbeats 4000000 in
theorem listAnswered_any (s : Sh) (lk : Nat) (w : World) (hs : ShIn w s) (hlk : lk ≤ 255) :
    Calls Try.prog 11 #[s.v, .int .u8 lk] w (Ret fun v w' => v = .bool true ∧ Below w.heap.size w w') := by
  obtain ⟨L, R, A, ca, B, cb, l, t⟩ := s
  have HS := Lib.hid hs; clear hs
  unfold Sh.v vSheet
  dsimp only
  obtain ⟨w1, hw1⟩ : ∃ w1, w1 = w.alloc (.cells #[.int .i64 L, .int .i64 R, .slice A l.length ca, .slice B t.length cb] 25) := ⟨_, rfl⟩
  have HB1 : Hid (Below w.heap.size w w1) := Lib.hid (by rw [hw1]; exact below_alloc' (Below.refl _ _) _)
  have hX : w1.heap[w.heap.size]? = some (.cells #[.int .i64 L, .int .i64 R, .slice A l.length ca, .slice B t.length cb] 25 (0, 0)) := by rw [hw1]; exact heap_alloc_new _ _
  have y0 : w1.cell? ⟨w.heap.size, 0, none⟩ = some (.int .i64 L) := (blk_cell hX).trans rfl
  have y1 : w1.cell? ⟨w.heap.size, 1, none⟩ = some (.int .i64 R) := (blk_cell hX).trans rfl
  have y2 : w1.cell? ⟨w.heap.size, 2, none⟩ = some (.slice A l.length ca) := (blk_cell hX).trans rfl
  have y3 : w1.cell? ⟨w.heap.size, 3, none⟩ = some (.slice B t.length cb) := (blk_cell hX).trans rfl
  replace HS := Lib.hid (HS.out.below HB1.out)
  go_enter Try.func11, Try.ntmps11
  go_upto_region 1 with fail
  rw [← hw1]
  clear hw1 hX
  have Hc := Lib.hid (fineS ⟨L, R, A, ca, B, cb, l, t⟩ w1 HS.out)
  try dsimp only at Hc
  go_wp2_with fail
  refine Hc.out.mono ?_
  rintro e w2 ⟨v, rfl, rfl, hb⟩
  have HB2 := Lib.hid (below_trans' HB1.out hb)
  replace HS := Lib.hid (HS.out.below hb)
  replace y0 := cell_below hb y0
  replace y1 := cell_below hb y1
  replace y2 := cell_below hb y2
  replace y3 := cell_below hb y3
  clear hb Hc HB1 
  by_cases hf : fineC ⟨L, R, A, ca, B, cb, l, t⟩ = true
  rotate_left 1
  ·
    have hf : fineC ⟨L, R, A, ca, B, cb, l, t⟩ = false := by simpa using hf
    rw [hf]
    go_wp2_with fail
    refine (works_any _).mono ?_
    rintro e wz ⟨v, rfl, rfl, hBz⟩
    go_wp2
    go_ret
    exact Ret.mk' rfl ⟨rfl, below_trans' HB2.out hBz⟩
  rw [hf]
  by_cases h0 : l.length = 0
  ·
    have d0 : ((l.length : Int) == 0) = true := by simp [h0]
    go_wp2_with fail
    refine (works_any _).mono ?_
    rintro e wz ⟨v, rfl, rfl, hBz⟩
    go_wp2
    go_ret
    exact Ret.mk' rfl ⟨rfl, below_trans' HB2.out hBz⟩
  have d0 : ((l.length : Int) == 0) = false := by simpa using h0
  have l0 : ¬ ((l.length : Int) = 0) := by omega
  obtain ⟨hg, hv⟩ := fine_iff.1 hf
  have HA := Lib.hid (HS.out.at hg)
  have hmany := hv.many
  try dsimp only at hmany
  have HV := Lib.hid hv
  clear HS hf hg hv h0
  go_upto_region 4 with fail
  obtain ⟨k, hk, hkl⟩ : ∃ k : Nat, (lk : Int) % (l.length : Int) = (k : Int) ∧ k < l.length := ⟨lk % l.length, by norm_cast, Nat.mod_lt _ (by omega)⟩
  rw [hk]
  clear hk d0 l0
  have ik0 : (0 : Int) ≤ (k : Int) := by omega
  have ik1 : (k : Int) < (l.length : Int) := by omega
  have Hc := Lib.hid (kindsS ⟨L, R, A, ca, B, cb, l, t⟩ w2 HA.out HV.out)
  try dsimp only at Hc
  go_wp2_with fail
  refine Hc.out.mono ?_
  rintro e w3 ⟨v, rfl, ⟨G1, c1, rfl, h1, n1⟩, hb⟩
  have HB3 := Lib.hid (below_trans' HB2.out hb)
  replace HA := Lib.hid (HA.out.below hb)
  replace y0 := cell_below hb y0
  replace y1 := cell_below hb y1
  replace y2 := cell_below hb y2
  replace y3 := cell_below hb y3
  clear hb Hc HB2 
  obtain ⟨ks, hks⟩ : ∃ ks, kindsC ⟨L, R, A, ca, B, cb, l, t⟩ = ks := ⟨_, rfl⟩
  have hkl1 := kindsC_len ⟨L, R, A, ca, B, cb, l, t⟩
  rw [hks] at h1 n1 hkl1
  rw [hks]
  try dsimp only at hkl1
  rw [hkl1]
  have HK := Lib.hid hks
  have HL1 := Lib.hid hkl1
  have H1 := Lib.hid h1
  clear h1 n1 hks hkl1
  have Hc := Lib.hid (greatestS ⟨L, R, A, ca, B, cb, l, t⟩ w3 HA.out HV.out)
  try dsimp only at Hc
  go_wp2_with fail
  refine Hc.out.mono ?_
  rintro e w4 ⟨v, rfl, ⟨G, c, j, rfl, hg, hgc, hgj, hgl⟩, hb⟩
  have HB4 := Lib.hid (below_trans' HB3.out hb)
  replace HA := Lib.hid (HA.out.below hb)
  replace H1 := Lib.hid (H1.out.below hb)
  replace y0 := cell_below hb y0
  replace y1 := cell_below hb y1
  replace y2 := cell_below hb y2
  replace y3 := cell_below hb y3
  clear hb Hc HB3 
  try dsimp only at hgl
  have HGL := Lib.hid hgl
  have hj40 := IsJ.short HV.out hgj
  clear hg hgj hgl hgc
  have HKC := Lib.hid (kindsC_at ⟨L, R, A, ca, B, cb, l, t⟩ hkl)
  rw [HK.out] at HKC
  obtain ⟨b1, o1, rfl⟩ := IntsAt.some_ H1.out (show k < ks.length by rw [HL1.out]; exact hkl)
  have p1 := IntsAt.get H1.out (show k < ks.length by rw [HL1.out]; exact hkl)
  obtain ⟨kv, hkv⟩ : ∃ kv, ks.getD k 0 = kv := ⟨_, rfl⟩
  rw [hkv] at p1 HKC
  have HKV := Lib.hid hkv
  clear hkv
  by_cases hz : kv = 0
  ·
    have dz : (kv == 0) = true := by simpa using hz
    go_wp2_with fail
    refine (works_any _).mono ?_
    rintro e wz ⟨v, rfl, rfl, hBz⟩
    go_wp2
    go_ret
    exact Ret.mk' rfl ⟨rfl, below_trans' HB4.out hBz⟩
  have dz : (kv == 0) = false := by simpa using hz
  have ht40 : t.length ≤ 100000 := by have := HA.out.few; dsimp only at this; omega
  have Hc := Lib.hid (inS B cb t k w4 HA.out.known ht40)
  try dsimp only at Hc
  go_wp2_with fail
  refine Hc.out.mono ?_
  rintro e w5 ⟨v, rfl, rfl, hb⟩
  have HB5 := Lib.hid (below_trans' HB4.out hb)
  replace HA := Lib.hid (HA.out.below hb)
  replace H1 := Lib.hid (H1.out.below hb)
  replace y0 := cell_below hb y0
  replace y1 := cell_below hb y1
  replace y2 := cell_below hb y2
  replace y3 := cell_below hb y3
  clear hb Hc HB4 p1
  by_cases hin : t.contains (k : Int) = true
  ·
    rw [hin]
    go_wp2_with fail
    refine (works_any _).mono ?_
    rintro e wz ⟨v, rfl, rfl, hBz⟩
    go_wp2
    go_ret
    exact Ret.mk' rfl ⟨rfl, below_trans' HB5.out hBz⟩
  have hin' : t.contains (k : Int) = false := by simpa using hin
  rw [hin']
  have hnt : (k : Int) ∉ t := by simpa using hin
  have hk0 : kindC ⟨L, R, A, ca, B, cb, l, t⟩ k ≠ 0 := by rw [← HKC.out]; exact hz
  have hfr : freeP ⟨L, R, A, ca, B, cb, l, t⟩ k = true := kind_free hk0 hnt
  have HNT := Lib.hid hnt
  have HK0 := Lib.hid hk0
  have HFR := Lib.hid hfr
  have HYS := Lib.hid (HV.out.yes hkl hfr)
  clear hin hin' hnt hk0 hfr dz
  have Hc := Lib.hid (knowingS ⟨L, R, A, ca, B, cb, l, t⟩ k w5 HA.out HV.out hkl HFR.out)
  try dsimp only at Hc
  go_wp2_with fail
  refine Hc.out.mono ?_
  rintro e w6 ⟨v, rfl, ⟨Gx, cx, rfl, hx⟩, hb⟩
  have HB6 := Lib.hid (below_trans' HB5.out hb)
  replace HA := Lib.hid (HA.out.below hb)
  replace H1 := Lib.hid (H1.out.below hb)
  replace y0 := cell_below hb y0
  replace y1 := cell_below hb y1
  replace y2 := cell_below hb y2
  replace y3 := cell_below hb y3
  clear hb Hc HB5 
  have HX := Lib.hid hx
  clear hx
  try dsimp only at HX
  unfold vSheet
  try dsimp only
  obtain ⟨tx, htx⟩ : ∃ tx, yesT t k = tx := ⟨_, rfl⟩
  rw [htx] at HX
  rw [htx]
  have HTX := Lib.hid htx
  clear htx
  have hb : Below w6.heap.size w6 (w6.alloc (.cells #[.int .i64 L, .int .i64 R, .slice A l.length ca, .slice Gx tx.length cx] 25)) := below_alloc' (Below.refl _ _) _
  have hZ := heap_alloc_new w6 (.cells #[.int .i64 L, .int .i64 R, .slice A l.length ca, .slice Gx tx.length cx] 25)
  replace HA := Lib.hid (HA.out.below hb)
  replace H1 := Lib.hid (H1.out.below hb)
  replace HX := Lib.hid (HX.out.below hb)
  replace y0 := cell_below hb y0
  replace y1 := cell_below hb y1
  replace y2 := cell_below hb y2
  replace y3 := cell_below hb y3
  have HB7 := Lib.hid (below_trans' HB6.out hb)
  clear hb HB6
  go_upto_region 11 with fail
  generalize w6.alloc _ = w7 at *
  generalize w6.heap.size = Bx at *
  have x0 : w7.cell? ⟨Bx, 0, none⟩ = some (.int .i64 L) := (blk_cell hZ).trans rfl
  have x1 : w7.cell? ⟨Bx, 1, none⟩ = some (.int .i64 R) := (blk_cell hZ).trans rfl
  have x2 : w7.cell? ⟨Bx, 2, none⟩ = some (.slice A l.length ca) := (blk_cell hZ).trans rfl
  have x3 : w7.cell? ⟨Bx, 3, none⟩ = some (.slice Gx tx.length cx) := (blk_cell hZ).trans rfl
  clear hZ
  have hvx : Sheet L R l tx := by rw [← HTX.out]; exact HYS.out
  have HVX := Lib.hid hvx
  have hfx : fineC ⟨L, R, A, ca, Gx, cx, l, tx⟩ = true := fine_of hvx
  have HFX := Lib.hid hfx
  have hcx := fineS ⟨L, R, A, ca, Gx, cx, l, tx⟩ w7 HX.out.in_
  rw [hfx] at hcx
  have HCX := Lib.hid hcx
  clear hvx hfx hcx
  have Hc := Lib.hid (HCX.out)
  try dsimp only at Hc
  go_wp2_with fail
  refine Hc.out.mono ?_
  rintro e w8 ⟨v, rfl, rfl, hb⟩
  have HB8 := Lib.hid (below_trans' HB7.out hb)
  replace HA := Lib.hid (HA.out.below hb)
  replace H1 := Lib.hid (H1.out.below hb)
  replace HX := Lib.hid (HX.out.below hb)
  replace y0 := cell_below hb y0
  replace y1 := cell_below hb y1
  replace y2 := cell_below hb y2
  replace y3 := cell_below hb y3
  replace x0 := cell_below hb x0
  replace x1 := cell_below hb x1
  replace x2 := cell_below hb x2
  replace x3 := cell_below hb x3
  clear hb Hc HB7 HCX
  have Hc := Lib.hid (kindsS ⟨L, R, A, ca, Gx, cx, l, tx⟩ w8 HX.out HVX.out)
  try dsimp only at Hc
  go_wp2_with fail
  refine Hc.out.mono ?_
  rintro e w9 ⟨v, rfl, ⟨G2, c2, rfl, h2, n2⟩, hb⟩
  have HB9 := Lib.hid (below_trans' HB8.out hb)
  replace HA := Lib.hid (HA.out.below hb)
  replace H1 := Lib.hid (H1.out.below hb)
  replace HX := Lib.hid (HX.out.below hb)
  replace y0 := cell_below hb y0
  replace y1 := cell_below hb y1
  replace y2 := cell_below hb y2
  replace y3 := cell_below hb y3
  replace x0 := cell_below hb x0
  replace x1 := cell_below hb x1
  replace x2 := cell_below hb x2
  replace x3 := cell_below hb x3
  clear hb Hc HB8 
  obtain ⟨kx, hkx⟩ : ∃ kx, kindsC ⟨L, R, A, ca, Gx, cx, l, tx⟩ = kx := ⟨_, rfl⟩
  have hkl2 := kindsC_len ⟨L, R, A, ca, Gx, cx, l, tx⟩
  rw [hkx] at h2 n2 hkl2
  rw [hkx]
  try dsimp only at hkl2
  rw [hkl2]
  have HKX := Lib.hid hkx
  have HL2 := Lib.hid hkl2
  have H2 := Lib.hid h2
  clear h2 n2 hkx hkl2
  have Hc := Lib.hid (greatestS ⟨L, R, A, ca, Gx, cx, l, tx⟩ w9 HX.out HVX.out)
  try dsimp only at Hc
  go_wp2_with fail
  refine Hc.out.mono ?_
  rintro e w10 ⟨v, rfl, ⟨Gh, ch, jh, rfl, hg, hgc, hgj, hgl⟩, hb⟩
  have HB10 := Lib.hid (below_trans' HB9.out hb)
  replace HA := Lib.hid (HA.out.below hb)
  replace H1 := Lib.hid (H1.out.below hb)
  replace HX := Lib.hid (HX.out.below hb)
  replace H2 := Lib.hid (H2.out.below hb)
  replace y0 := cell_below hb y0
  replace y1 := cell_below hb y1
  replace y2 := cell_below hb y2
  replace y3 := cell_below hb y3
  replace x0 := cell_below hb x0
  replace x1 := cell_below hb x1
  replace x2 := cell_below hb x2
  replace x3 := cell_below hb x3
  clear hb Hc HB9 
  try dsimp only at hgl
  have hlen := HV.out.yes_len hkl HK0.out HFR.out
  have hjj : jh.length = j.length := by
    rw [HGL.out, hgl, ← HTX.out]
    have e1 : mostS (yesS ⟨L, R, A, ca, B, cb, l, t⟩ k) = mostS ⟨L, R, A, ca, Gx, cx, l, yesT t k⟩ := rfl
    have e2 : (yesS ⟨L, R, A, ca, B, cb, l, t⟩ k).t = yesT t k := rfl
    rw [e1, e2] at hlen
    dsimp only at hlen
    omega
  rw [hjj]
  clear hg hgj hgl hgc hlen hjj
  have HKA : Hid (∀ i, i < l.length → kx.getD i 0 = kindC (yesS ⟨L, R, A, ca, B, cb, l, t⟩ k) i) := Lib.hid fun i hi => by
    rw [← HKX.out, ← HTX.out]
    exact kindsC_at ⟨L, R, A, ca, Gx, cx, l, yesT t k⟩ hi
  have HKS : Hid (∀ i, i < l.length → ks.getD i 0 = kindC ⟨L, R, A, ca, B, cb, l, t⟩ i) := Lib.hid fun i hi => by rw [← HK.out]; exact kindsC_at ⟨L, R, A, ca, B, cb, l, t⟩ hi
  have hkx2 : kx.getD k 0 = 2 := by rw [HKA.out k hkl]; exact HV.out.yes_self hkl HK0.out HFR.out
  obtain ⟨b2, o2, rfl⟩ := IntsAt.some_ H2.out (show k < kx.length by rw [HL2.out]; exact hkl)
  have p2 := IntsAt.get H2.out (show k < kx.length by rw [HL2.out]; exact hkl)
  rw [hkx2] at p2
  have HX2 := Lib.hid hkx2
  clear hkx2
  have p1 := IntsAt.get H1.out (show k < ks.length by rw [HL1.out]; exact hkl)
  rw [HKV.out] at p1
  go_upto_region 17 with fail
  by_cases hk2 : kv = 2
  ·
    have hck : kindC ⟨L, R, A, ca, B, cb, l, t⟩ k = 2 := by rw [← HKC.out]; exact hk2
    have d2 : (kv == 2) = true := by simpa using hk2
    have hkk : ks = kx := by
      refine List.ext_getElem (by rw [HL1.out, HL2.out]) fun i i1 i2 => ?_
      have e1 := HKS.out i (by rw [← HL1.out]; exact i1)
      have e2 := HKA.out i (by rw [← HL1.out]; exact i1)
      rw [HV.out.yes_always hkl hck HFR.out (by rw [← HL1.out]; exact i1)] at e2
      rw [List.getD_eq_getElem?_getD, List.getElem?_eq_getElem i1, Option.getD_some] at e1
      rw [List.getD_eq_getElem?_getD, List.getElem?_eq_getElem i2, Option.getD_some] at e2
      rw [e1, e2]
    have hc := intsS (some ⟨b1, o1, none⟩) (some ⟨b2, o2, none⟩) c1 c2 ks kx w10 H1.out H2.out (by rw [HL1.out]; omega) (by rw [HL2.out]; omega)
    rw [HL1.out, HL2.out, decide_eq_true hkk] at hc
    clear hkk hck
    have Hc := Lib.hid (hc)
    try dsimp only at Hc
    go_wp2_with fail
    refine Hc.out.mono ?_
    rintro e w11 ⟨v, rfl, rfl, hb⟩
    have HB11 := Lib.hid (below_trans' HB10.out hb)
    clear hb Hc HB10 hc
    go_wp2_with fail
    refine (works_any _).mono ?_
    rintro e wz ⟨v, rfl, rfl, hBz⟩
    go_wp2
    go_ret
    exact Ret.mk' rfl ⟨rfl, below_trans' HB11.out hBz⟩
  have d2 : (kv == 2) = false := by simpa using hk2
  have hck : kindC ⟨L, R, A, ca, B, cb, l, t⟩ k = 1 := by
    rcases kindC_vals (s := ⟨L, R, A, ca, B, cb, l, t⟩) (k := k) with e | e | e
    · exact absurd e HK0.out
    · exact e
    · exact absurd (HKC.out.trans e) hk2
  have HCK := Lib.hid hck
  have HYN := Lib.hid (Sheet.no (s := ⟨L, R, A, ca, B, cb, l, t⟩) HV.out hkl HNT.out)
  clear hck hk2 p2 x0 x1 x2 x3
  have Hc := Lib.hid (withoutS ⟨L, R, A, ca, B, cb, l, t⟩ k w10 HA.out HV.out)
  try dsimp only at Hc
  go_wp2_with fail
  refine Hc.out.mono ?_
  rintro e w11 ⟨v, rfl, ⟨Gy, cy, Gz, cz, rfl, hy⟩, hb⟩
  have HB11 := Lib.hid (below_trans' HB10.out hb)
  replace HA := Lib.hid (HA.out.below hb)
  replace H1 := Lib.hid (H1.out.below hb)
  replace H2 := Lib.hid (H2.out.below hb)
  replace y0 := cell_below hb y0
  replace y1 := cell_below hb y1
  replace y2 := cell_below hb y2
  replace y3 := cell_below hb y3
  clear hb Hc HB10 p1
  have HY := Lib.hid hy
  clear hy
  try dsimp only at HY
  unfold vSheet
  try dsimp only
  obtain ⟨ly, hly⟩ : ∃ ly, l.eraseIdx k = ly := ⟨_, rfl⟩
  obtain ⟨ty, hty⟩ : ∃ ty, noT t k = ty := ⟨_, rfl⟩
  rw [hly, hty] at HY
  rw [hly, hty]
  have HLY := Lib.hid hly
  have HTY := Lib.hid hty
  have hlyl : ly.length + 1 = l.length := by rw [← hly, List.length_eraseIdx, if_pos hkl]; omega
  clear hly hty
  have hb : Below w11.heap.size w11 (w11.alloc (.cells #[.int .i64 L, .int .i64 R, .slice Gy ly.length cy, .slice Gz ty.length cz] 25)) := below_alloc' (Below.refl _ _) _
  have hZ := heap_alloc_new w11 (.cells #[.int .i64 L, .int .i64 R, .slice Gy ly.length cy, .slice Gz ty.length cz] 25)
  replace HA := Lib.hid (HA.out.below hb)
  replace H1 := Lib.hid (H1.out.below hb)
  replace H2 := Lib.hid (H2.out.below hb)
  replace HY := Lib.hid (HY.out.below hb)
  replace y0 := cell_below hb y0
  replace y1 := cell_below hb y1
  replace y2 := cell_below hb y2
  replace y3 := cell_below hb y3
  have HB12 := Lib.hid (below_trans' HB11.out hb)
  clear hb HB11
  go_upto_region 20 with fail
  generalize w11.alloc _ = w12 at *
  generalize w11.heap.size = By at *
  have x0 : w12.cell? ⟨By, 0, none⟩ = some (.int .i64 L) := (blk_cell hZ).trans rfl
  have x1 : w12.cell? ⟨By, 1, none⟩ = some (.int .i64 R) := (blk_cell hZ).trans rfl
  have x2 : w12.cell? ⟨By, 2, none⟩ = some (.slice Gy ly.length cy) := (blk_cell hZ).trans rfl
  have x3 : w12.cell? ⟨By, 3, none⟩ = some (.slice Gz ty.length cz) := (blk_cell hZ).trans rfl
  clear hZ
  have HVY : Hid (Sheet L R ly ty) := Lib.hid (by rw [← HLY.out, ← HTY.out]; exact HYN.out)
  have Hc := Lib.hid (kindsS ⟨L, R, Gy, cy, Gz, cz, ly, ty⟩ w12 HY.out HVY.out)
  try dsimp only at Hc
  go_wp2_with fail
  refine Hc.out.mono ?_
  rintro e w13 ⟨v, rfl, ⟨G3, c3, rfl, h3, n3⟩, hb⟩
  have HB13 := Lib.hid (below_trans' HB12.out hb)
  replace HA := Lib.hid (HA.out.below hb)
  replace H1 := Lib.hid (H1.out.below hb)
  replace H2 := Lib.hid (H2.out.below hb)
  replace HY := Lib.hid (HY.out.below hb)
  replace y0 := cell_below hb y0
  replace y1 := cell_below hb y1
  replace y2 := cell_below hb y2
  replace y3 := cell_below hb y3
  replace x0 := cell_below hb x0
  replace x1 := cell_below hb x1
  replace x2 := cell_below hb x2
  replace x3 := cell_below hb x3
  clear hb Hc HB12 
  obtain ⟨ky, hky⟩ : ∃ ky, kindsC ⟨L, R, Gy, cy, Gz, cz, ly, ty⟩ = ky := ⟨_, rfl⟩
  have hkl3 := kindsC_len ⟨L, R, Gy, cy, Gz, cz, ly, ty⟩
  rw [hky] at h3 n3 hkl3
  rw [hky]
  try dsimp only at hkl3
  rw [hkl3]
  have HKY := Lib.hid hky
  have HL3 := Lib.hid hkl3
  have H3 := Lib.hid h3
  clear h3 n3 hky hkl3
  have Hc := Lib.hid (greatestS ⟨L, R, Gy, cy, Gz, cz, ly, ty⟩ w13 HY.out HVY.out)
  try dsimp only at Hc
  go_wp2_with fail
  refine Hc.out.mono ?_
  rintro e w14 ⟨v, rfl, ⟨Gi, ci, ji, rfl, hg, hgc, hgj, hgl⟩, hb⟩
  have HB14 := Lib.hid (below_trans' HB13.out hb)
  replace HA := Lib.hid (HA.out.below hb)
  replace H1 := Lib.hid (H1.out.below hb)
  replace H2 := Lib.hid (H2.out.below hb)
  replace HY := Lib.hid (HY.out.below hb)
  replace H3 := Lib.hid (H3.out.below hb)
  replace y0 := cell_below hb y0
  replace y1 := cell_below hb y1
  replace y2 := cell_below hb y2
  replace y3 := cell_below hb y3
  replace x0 := cell_below hb x0
  replace x1 := cell_below hb x1
  replace x2 := cell_below hb x2
  replace x3 := cell_below hb x3
  clear hb Hc HB13 
  try dsimp only at hgl
  have hlen := Sheet.no_len (s := ⟨L, R, A, ca, B, cb, l, t⟩) HV.out hkl HNT.out HCK.out
  have hjj : ji.length = j.length := by
    rw [HGL.out, hgl, ← HTY.out, ← HLY.out]
    have e1 : mostS (noS ⟨L, R, A, ca, B, cb, l, t⟩ k) = mostS ⟨L, R, Gy, cy, Gz, cz, l.eraseIdx k, noT t k⟩ := rfl
    have e2 : (noS ⟨L, R, A, ca, B, cb, l, t⟩ k).t = noT t k := rfl
    rw [e1, e2] at hlen
    dsimp only at hlen
    omega
  rw [hjj]
  clear hg hgj hgl hgc hlen hjj x0 x1 x2 x3
  have hl1 : (l.length : Int) - 1 = (ly.length : Int) := by omega
  have dly : ((ly.length : Int) != (l.length : Int) - 1) = false := by simp; omega
  have HKN : Hid (∀ i, i < ly.length → ky.getD i 0 = kindC (noS ⟨L, R, A, ca, B, cb, l, t⟩ k) i) := Lib.hid fun i hi => by
    rw [← HKY.out, ← HTY.out, ← HLY.out]
    rw [← HLY.out] at hi
    exact kindsC_at ⟨L, R, Gy, cy, Gz, cz, l.eraseIdx k, noT t k⟩ hi
  go_upto_region 24 with fail
  clear y0 y1 y2 y3
  go_wp2
  go_loopw [15] (fun iv wr => ∃ i : Nat, i ≤ l.length ∧ iv = .int .i64 i ∧ Hid (Below w14.heap.size w14 wr)) (fun iv _ => l.length - (intOf iv).toNat)
  case atStart => exact ⟨0, by omega, rfl, Lib.hid (Below.refl _ _)⟩
  case round =>
    obtain ⟨i, hi, rfl, HBr⟩ := hrel
    by_cases hin : i < l.length
    · have ii0 : (0 : Int) ≤ (i : Int) := by omega
      have ii1 : (i : Int) < (l.length : Int) := by omega
      have q1 := IntsAt.get (H1.out.below HBr.out) (show i < ks.length by rw [HL1.out]; exact hin)
      have q2 := IntsAt.get (H2.out.below HBr.out) (show i < kx.length by rw [HL2.out]; exact hin)
      have e1 := HKS.out i hin
      obtain ⟨vi, hvi⟩ : ∃ vi, ks.getD i 0 = vi := ⟨_, rfl⟩
      rw [hvi] at q1 e1
      by_cases h1 : vi = 1
      · have d3 : (vi == 1) = true := by simpa using h1
        go_wp2
        go_roundw
        case rel => exact ⟨i + 1, by omega, by go_num, HBr⟩
        case measure => simp [intOf]; omega
      · have d3 : (vi == 1) = false := by simpa using h1
        have hik : i ≠ k := fun e => by subst e; exact h1 (by rw [e1]; exact HCK.out)
        have e2 := HKA.out i hin
        rw [HV.out.yes_certain hkl HK0.out HFR.out hin (by rw [← e1]; exact h1), ← e1] at e2
        rw [e2] at q2
        obtain ⟨m1, m2, m3⟩ := erase_dec (l := l) hin hkl hik
        rw [HLY.out] at m1
        have e3 := HKN.out _ m1
        rw [Sheet.no_certain (s := ⟨L, R, A, ca, B, cb, l, t⟩) HV.out hkl HNT.out HCK.out hin (by rw [HLY.out]; exact m1) m3 (by rw [← e1]; exact h1), ← e1] at e3
        obtain ⟨m, hm⟩ : ∃ m, (decK k i).toNat = m := ⟨_, rfl⟩
        rw [hm] at m1 m2 e3
        unfold decK at m2
        obtain ⟨b3, o3, hG3⟩ := IntsAt.some_ H3.out (show m < ky.length by rw [HL3.out]; exact m1)
        subst hG3
        have q3 := IntsAt.get (H3.out.below HBr.out) (show m < ky.length by rw [HL3.out]; exact m1)
        rw [e3] at q3
        have im0 : (0 : Int) ≤ (m : Int) := by omega
        have im1 : (m : Int) < (ly.length : Int) := by omega
        have dvv : (vi != vi) = false := by simp
        clear e1 e2 e3 hm m3 hvi
        by_cases hik2 : k < i
        · have d4 : decide ((i : Int) > (k : Int)) = true := by simp; omega
          rw [if_pos (by omega)] at m2
          go_upto_region 31 with fail
          rw [← m2]
          clear m2
          refine wp_region_quiet_lit (by kernel_rfl) (by kernel_rfl) ?_
          repeat (any_goals (first | go_big_quiet_step (fail) | quiet_step (fail) | (refine wpQuiet_step (fun K hK => ?_); go_simp; split <;> (refine hK _ ?_; clear hK K))))
          all_goals (refine wpQuiet_nil ?_; intro _ hw'; obtain ⟨nq, hw''⟩ := hw'; subst hw'')
          go_wp2
          go_roundw
          case rel => exact ⟨i + 1, by omega, by go_num, Lib.hid (below_drewN HBr.out _)⟩
          case measure => simp [intOf]; omega
        · have d4 : decide ((i : Int) > (k : Int)) = false := by simp; omega
          rw [if_neg (by omega)] at m2
          obtain rfl : m = i := by omega
          go_upto_region 31 with fail
          clear m2
          refine wp_region_quiet_lit (by kernel_rfl) (by kernel_rfl) ?_
          repeat (any_goals (first | go_big_quiet_step (fail) | quiet_step (fail) | (refine wpQuiet_step (fun K hK => ?_); go_simp; split <;> (refine hK _ ?_; clear hK K))))
          all_goals (refine wpQuiet_nil ?_; intro _ hw'; obtain ⟨nq, hw''⟩ := hw'; subst hw'')
          go_wp2
          go_roundw
          case rel => exact ⟨m + 1, by omega, by go_num, Lib.hid (below_drewN HBr.out _)⟩
          case measure => simp [intOf]; omega
    · have hie : i = l.length := by omega
      subst hie
      have HBE := Lib.hid (below_trans' HB14.out HBr.out)
      go_wp2_with fail
      refine (works_any _).mono ?_
      rintro e wz ⟨v, rfl, rfl, hBz⟩
      go_wp2
      go_ret
      exact Ret.mk' rfl ⟨rfl, below_trans' HBE.out hBz⟩
  end Go.Proofs.Ytoogfdicmpkkgaa
