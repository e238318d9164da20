/- FamilyBooks: the walk. -/
import Derived.Test.YtggcooplhodocaaDoorKA
namespace Go.Proofs.YtggcooplhodocaaDoor
open Go.RowKit Go.Shelf Go.Maps Fam

theorem ints_below (A B : Option Addr) (ca cb : Nat) (a : List Int) (w : World) (ha : IntsAt w A a) (hb : IntsAt w B a) (hn : a.length ≤ 100000) :
    Calls Tryd.prog 20 #[.slice A a.length ca, .slice B a.length cb] w (Ret fun v w' => v = .bool true ∧ Below w.heap.size w w') := by
  refine (ints_any A B ca cb a a w ha hb hn hn).mono ?_
  rintro e w' ⟨v, rfl, rfl, q, rfl⟩
  exact Ret.mk ⟨by simp, below_drewN (Below.refl _ _) _⟩
theorem lostV_len (S R : Int) (l : List St) : (lostV S R l).1.length ≤ 100000 := by
  by_cases he : bookErr S R l = 0
  · have hd := (bookErr_iff.1 he).dim
    by_cases hn : lostL S R l = []
    · rw [lostV_none he hn]; simp
    · rw [lostV_some he hn]
      have h1 := lostK_le S R l S.toNat
      rw [lostK_all] at h1
      dsimp only
      omega
  · rw [lostV_err he]; simp
set_option maxRecDepth 100000 in
set_option maxHeartbeats 8000000 in
theorem familyBooks_any (S R : Int) (A B : Option Addr) (ca cb : Nat) (l : List St) (t : List Int) (w : World) (hl : StepsAt w A l) (ht : IntsAt w B t) (hn : l.length ≤ 9223372036854775807) (hm : t.length ≤ 9223372036854775807) (hT : Tab w) :
    Calls Tryd.prog 3 #[vBook S R A l.length ca, .slice B t.length cb] w (Ret fun v w' => v = .bool true ∧ Below w.heap.size w w') := by
  have HL := Lib.hid hl
  have HI := Lib.hid ht
  have HT := Lib.hid hT
  clear hl ht hT
  unfold vBook
  have hX := heap_alloc_new w (.cells #[.int .i64 S, .int .i64 R, .slice A l.length ca] 24)
  have hb := below_alloc' (Below.refl w.heap.size w) (.cells #[.int .i64 S, .int .i64 R, .slice A l.length ca] 24)
  have y0 := (blk_cell (i := 0) hX).trans rfl
  have y1 := (blk_cell (i := 1) hX).trans rfl
  have y2 := (blk_cell (i := 2) hX).trans rfl
  go_enter Tryd.func3, Tryd.ntmps3
  go_upto_region 1 with fail
  have HB1 := Lib.hid hb
  replace HL := Lib.hid (HL.out.below hb)
  replace HI := Lib.hid (HI.out.below hb)
  replace HT := Lib.hid (HT.out.below hb)
  clear hb hX
  generalize w.alloc (.cells #[.int .i64 S, .int .i64 R, .slice A l.length ca] 24) = w1 at *
  have Hc := Lib.hid (great_any S R A l.length ca w1 hn)
  go_wp2_with fail
  refine Hc.out.mono ?_
  rintro e w2 ⟨v, rfl, rfl, hb⟩
  have HB2 := Lib.hid (below_trans' HB1.out hb)
  replace HL := Lib.hid (HL.out.below hb)
  replace HI := Lib.hid (HI.out.below hb)
  replace HT := Lib.hid (HT.out.below hb)
  replace y0 := cell_below hb y0
  replace y1 := cell_below hb y1
  replace y2 := cell_below hb y2
  clear hb Hc HB1
  by_cases hg : 210 < l.length
  · have d1 : decide (210 < l.length) = true := by simpa using hg
    go_wp2_with fail
    refine (works_any _ HT.out).mono ?_
    rintro e wz ⟨v, rfl, rfl, hBz⟩
    go_wp2
    go_ret
    exact Ret.mk' rfl ⟨rfl, below_trans' HB2.out hBz⟩
  have d1 : decide (210 < l.length) = false := by simpa using hg
  by_cases hg2 : 20 < t.length
  · have d2 : decide ((t.length : Int) > 20) = true := by simp; omega
    go_wp2_with fail
    refine (works_any _ HT.out).mono ?_
    rintro e wz ⟨v, rfl, rfl, hBz⟩
    go_wp2
    go_ret
    exact Ret.mk' rfl ⟨rfl, below_trans' HB2.out hBz⟩
  have d2 : decide ((t.length : Int) > 20) = false := by simp; omega
  have hn1 : l.length ≤ 100000 := by omega
  have hm1 : t.length ≤ 100000 := by omega
  clear hg hg2 hn hm
  obtain ⟨m, e1, hme⟩ : ∃ m e1, treeV S R l t = (m, e1) := ⟨_, _, rfl⟩
  have Hme := Lib.hid hme
  clear hme
  have Hc := Lib.hid (checkTree_any S R A B ca cb l t w2 HL.out HI.out hn1 hm1)
  go_wp2_with fail
  refine Hc.out.mono ?_
  rintro e w3 ⟨v, rfl, rfl, hb⟩
  have HB3 := Lib.hid (below_trans' HB2.out hb)
  replace HL := Lib.hid (HL.out.below hb)
  replace HI := Lib.hid (HI.out.below hb)
  replace HT := Lib.hid (HT.out.below hb)
  replace y0 := cell_below hb y0
  replace y1 := cell_below hb y1
  replace y2 := cell_below hb y2
  clear hb Hc HB2
  rw [Hme.out]
  unfold vP
  dsimp only
  have Hc := Lib.hid (rCheckTree_any S R A B ca cb l t w3 HL.out HI.out hn1 hm1)
  go_wp2_with fail
  refine Hc.out.mono ?_
  rintro e w4 ⟨v, rfl, rfl, hb⟩
  have HB4 := Lib.hid (below_trans' HB3.out hb)
  replace HL := Lib.hid (HL.out.below hb)
  replace HI := Lib.hid (HI.out.below hb)
  replace HT := Lib.hid (HT.out.below hb)
  replace y0 := cell_below hb y0
  replace y1 := cell_below hb y1
  replace y2 := cell_below hb y2
  clear hb Hc HB3
  rw [Hme.out]
  unfold vP
  dsimp only
  have hkl : (lostV S R l).1.length ≤ 100000 := lostV_len S R l
  obtain ⟨kl, e2, hke⟩ : ∃ kl e2, lostV S R l = (kl, e2) := ⟨_, _, rfl⟩
  rw [hke] at hkl
  dsimp only at hkl
  have Hke := Lib.hid hke
  clear hke
  have Hc := Lib.hid (lost_any S R A ca l w4 HL.out hn1)
  go_wp2_with fail
  refine Hc.out.mono ?_
  rintro e w5 ⟨v, rfl, hE, hb⟩
  have HB5 := Lib.hid (below_trans' HB4.out hb)
  replace HL := Lib.hid (HL.out.below hb)
  replace HI := Lib.hid (HI.out.below hb)
  replace HT := Lib.hid (HT.out.below hb)
  replace y0 := cell_below hb y0
  replace y1 := cell_below hb y1
  replace y2 := cell_below hb y2
  clear hb Hc HB4
  rw [Hke.out] at hE
  obtain ⟨G1, c1, rfl, hG1, _, _⟩ := hE
  have HG1 := Lib.hid hG1
  clear hG1
  dsimp only at HG1 ⊢
  have Hc := Lib.hid (rLost_any S R A ca l w5 HL.out hn1)
  go_wp2_with fail
  refine Hc.out.mono ?_
  rintro e w6 ⟨v, rfl, hE, hb⟩
  have HB6 := Lib.hid (below_trans' HB5.out hb)
  replace HL := Lib.hid (HL.out.below hb)
  replace HI := Lib.hid (HI.out.below hb)
  replace HT := Lib.hid (HT.out.below hb)
  replace HG1 := Lib.hid (HG1.out.below hb)
  replace y0 := cell_below hb y0
  replace y1 := cell_below hb y1
  replace y2 := cell_below hb y2
  clear hb Hc HB5
  rw [Hke.out] at hE
  obtain ⟨G2, c2, rfl, hG2, _, _⟩ := hE
  have HG2 := Lib.hid hG2
  clear hG2
  dsimp only at HG2 ⊢
  have HCb := Lib.hid (fun V (h : Below w6.heap.size w6 V) => checkBook_any S R A ca l V (StepsAt.below HL.out h) hn1)
  have HRb := Lib.hid (fun V (h : Below w6.heap.size w6 V) => rCheckBook_any S R A ca l V (StepsAt.below HL.out h) hn1)
  have HIn := Lib.hid (fun V (h : Below w6.heap.size w6 V) => ints_below G1 G2 c1 c2 kl V (IntsAt.below HG1.out h) (IntsAt.below HG2.out h) hkl)
  have HWk := Lib.hid (fun V (h : Below w6.heap.size w6 V) => works_any V (Tab.below HT.out h))
  go_upto_region 7 with fail
  refine wp_region_class (C := fun W => Below w6.heap.size w6 W) (by kernel_rfl) (by kernel_rfl) ((Below.refl _ _).drew) ?_
  repeat (first
    | go_big_quiet_skip
    | (go_big_quiet_want
       first
         | (go_big_quiet_op; go_big_quiet_on)
         | (apply Exists.intro
            refine ⟨fun W hW => ?_, ?_⟩
            · replace y0 := cell_below hW y0; replace y1 := cell_below hW y1; replace y2 := cell_below hW y2; go_simp <;> exact rfl
            simp only [Act.put, List.setIfInBounds_toArray, List.set_cons_zero, List.set_cons_succ]
            go_big_quiet_on)))
  go_big_quiet_want
  apply Exists.intro
  refine ⟨fun W hW => ?_, ?_⟩
  · go_simp
    refine (HCb.out _ hW).mono ?_
    rintro e wc ⟨v, rfl, rfl, hBc⟩
    exact ⟨rfl, below_trans' hW hBc⟩
  simp only [Act.put, List.setIfInBounds_toArray, List.set_cons_zero, List.set_cons_succ]
  go_big_quiet_on
  repeat (first
    | go_big_quiet_skip
    | (go_big_quiet_want
       first
         | (go_big_quiet_op; go_big_quiet_on)
         | (apply Exists.intro
            refine ⟨fun W hW => ?_, ?_⟩
            · replace y0 := cell_below hW y0; replace y1 := cell_below hW y1; replace y2 := cell_below hW y2; go_simp <;> exact rfl
            simp only [Act.put, List.setIfInBounds_toArray, List.set_cons_zero, List.set_cons_succ]
            go_big_quiet_on)))
  go_big_quiet_want
  apply Exists.intro
  refine ⟨fun W hW => ?_, ?_⟩
  · go_simp
    refine (HRb.out _ hW).mono ?_
    rintro e wc ⟨v, rfl, rfl, hBc⟩
    exact ⟨rfl, below_trans' hW hBc⟩
  simp only [Act.put, List.setIfInBounds_toArray, List.set_cons_zero, List.set_cons_succ]
  go_big_quiet_on
  repeat (first
    | go_big_quiet_skip
    | (go_big_quiet_want
       first
         | (go_big_quiet_op; go_big_quiet_on)
         | (apply Exists.intro
            refine ⟨fun W hW => ?_, ?_⟩
            · replace y0 := cell_below hW y0; replace y1 := cell_below hW y1; replace y2 := cell_below hW y2; go_simp <;> exact rfl
            simp only [Act.put, List.setIfInBounds_toArray, List.set_cons_zero, List.set_cons_succ]
            go_big_quiet_on)))
  go_big_quiet_want
  apply Exists.intro
  refine ⟨fun W hW => ?_, ?_⟩
  · go_simp
    refine (HIn.out _ hW).mono ?_
    rintro e wc ⟨v, rfl, rfl, hBc⟩
    exact ⟨rfl, below_trans' hW hBc⟩
  simp only [Act.put, List.setIfInBounds_toArray, List.set_cons_zero, List.set_cons_succ]
  go_big_quiet_on
  repeat (first
    | go_big_quiet_skip
    | (go_big_quiet_want
       first
         | (go_big_quiet_op; go_big_quiet_on)
         | (apply Exists.intro
            refine ⟨fun W hW => ?_, ?_⟩
            · replace y0 := cell_below hW y0; replace y1 := cell_below hW y1; replace y2 := cell_below hW y2; go_simp <;> exact rfl
            simp only [Act.put, List.setIfInBounds_toArray, List.set_cons_zero, List.set_cons_succ]
            go_big_quiet_on)))
  go_big_quiet_want
  apply Exists.intro
  refine ⟨fun W hW => ?_, ?_⟩
  · go_simp
    refine (HWk.out _ hW).mono ?_
    rintro e wc ⟨v, rfl, rfl, hBc⟩
    exact ⟨rfl, below_trans' hW hBc⟩
  simp only [Act.put, List.setIfInBounds_toArray, List.set_cons_zero, List.set_cons_succ]
  go_big_quiet_on
  repeat (first
    | go_big_quiet_skip
    | (go_big_quiet_want
       first
         | (go_big_quiet_op; go_big_quiet_on)
         | (apply Exists.intro
            refine ⟨fun W hW => ?_, ?_⟩
            · replace y0 := cell_below hW y0; replace y1 := cell_below hW y1; replace y2 := cell_below hW y2; go_simp <;> exact rfl
            simp only [Act.put, List.setIfInBounds_toArray, List.set_cons_zero, List.set_cons_succ]
            go_big_quiet_on)))
  refine wpQuiet_nil ?_
  intro wz hBz
  go_wp2
  go_ret
  exact Ret.mk' rfl ⟨rfl, below_trans' HB6.out hBz⟩
end Go.Proofs.YtggcooplhodocaaDoor
