/- dense; FamilyCheapest and FamilyGrades: the walks. -/
import Derived.Test.YtggcooplhodocaaGreatDoorZC
import Derived.Test.YtggcooplhodocaaGreatDoorLW
namespace Go.Proofs.YtggcooplhodocaaGreatDoor
open Go.RowKit Go.Shelf Go.Maps Fam
section
variable {S R : Int} {A : Option Addr} {ca : Nat} {l : List St} {w : World}
theorem planE_err (h : bookErr S R l ≠ 0) : planE S R l = bookErr S R l := by unfold planE; rw [if_pos h]
theorem planE_no (h : BookOk S R l) (hf : ¬ Full (netB S R l) (allS (netB S R l))) : planE S R l = 13 := by unfold planE; rw [if_neg (by simp [bookErr_iff.2 h]), if_neg hf]
theorem cheapP (hp : planE S R l ≠ 0) (hl : StepsAt w A l) (hn : l.length ≤ 100000) : Calls Tryz.prog 8 #[vBook S R A l.length ca] w (Ret fun v w' => v = .tuple #[.slice none 0 0, .int .i64 0, .int .i64 (planE S R l)] ∧ Below w.heap.size w w') := by
  by_cases he : bookErr S R l = 0
  · have hok := bookErr_iff.1 he
    have hf : ¬ Full (netB S R l) (allS (netB S R l)) := fun h => hp (planE_iff.2 ⟨hok, h⟩)
    rw [planE_no hok hf]
    exact cheapN hok hf hl hn
  · rw [planE_err he]
    refine Calls.mono (cheapest_any S R A ca l w hl hn) ?_
    rintro e w' ⟨v, rfl, hv, hb⟩
    rcases hv with ⟨_, rfl⟩ | ⟨h1, _, _⟩ | ⟨h1, _⟩
    · exact Ret.mk ⟨rfl, hb⟩
    · exact absurd h1 he
    · exact absurd h1 he
theorem gradesP (hp : planE S R l ≠ 0) (hl : StepsAt w A l) (hn : l.length ≤ 100000) : Calls Tryz.prog 14 #[vBook S R A l.length ca] w (Ret fun v w' => v = .tuple #[.slice none 0 0, .int .i64 (planE S R l)] ∧ Below w.heap.size w w') := by
  by_cases he : bookErr S R l = 0
  · have hok := bookErr_iff.1 he
    have hf : ¬ Full (netB S R l) (allS (netB S R l)) := fun h => hp (planE_iff.2 ⟨hok, h⟩)
    rw [planE_no hok hf]
    exact gradesN hok hf hl hn
  · rw [planE_err he]
    refine Calls.mono (grades_any S R A ca l w hl hn) ?_
    rintro e w' ⟨v, rfl, hv, hb⟩
    rcases hv with ⟨_, rfl⟩ | ⟨h1, _, _⟩ | ⟨h1, _⟩
    · exact Ret.mk ⟨rfl, hb⟩
    · exact absurd h1 he
    · exact absurd h1 he
theorem ints_same (A B : Option Addr) (ca cb : Nat) (a : List Int) (w : World) (ha : IntsAt w A a) (hb : IntsAt w B a) (hn : a.length ≤ 100000) :
    Calls Tryz.prog 16 #[.slice A a.length ca, .slice B a.length cb] w (Ret fun v w' => v = .bool true ∧ Below w.heap.size w w') := by
  refine (ints_any A B ca cb a a w ha hb hn hn).mono ?_
  rintro e w' ⟨v, rfl, rfl, q, rfl⟩
  exact Ret.mk ⟨by simp, below_drewN (Below.refl _ _) _⟩
theorem grades_are {N : Net} (hN : N.Ok) (hf : Full N (allS N)) {g : List Int} (hg : g.length = N.m) (h : ∀ i (hi : i < g.length), GradeIs N i g[i]) : gradesTo N N.m = g := by
  apply List.ext_getElem ((gradesTo_len N N.m).trans hg.symm)
  intro i h1 h2
  exact (gradesTo_is hN hf (Nat.le_refl _) i h1).uniq (h i h2) (best_ex hN hf)
end
/-- what dense answers -/
def DenseQ (S R : Int) (l : List St) (most : Nat) (b : Bool) : Prop := b = false → l.length ≤ 210 → BookOk S R l → manyN (netB S R l) (most + 1) S.toNat ≤ most
theorem few_of {S R : Int} {l : List St} {most : Nat} (h : DenseQ S R l most false) (hok : BookOk S R l) (hf : Full (netB S R l) (allS (netB S R l))) (hm : most ≤ 5000) : ∀ k, k ≤ S.toNat → (prodL (netB S R l) k).length ≤ 5000 := fun k hk =>
  Nat.le_trans (prod_few (N := netB S R l) hf (h rfl (by have := hok.many; omega) hok) hk) hm
set_option maxRecDepth 100000 in
set_option maxHeartbeats 4000000 in
theorem dense_any (S R : Int) (A : Option Addr) (ca : Nat) (l : List St) (most : Nat) (w : World) (hl : StepsAt w A l) (hn : l.length ≤ 9223372036854775807) (hm : most ≤ 5000) :
    Calls Tryz.prog 6 #[vBook S R A l.length ca, .int .i64 most] w (Ret fun v w' => (∃ b, v = .bool b ∧ DenseQ S R l most b) ∧ Below w.heap.size w w') := by
  have HL := Lib.hid hl; clear hl
  have HMa : Hid (BookOk S R l → ∀ W, StepsAt W A l → Calls Tryz.prog 18 #[vBook S R A l.length ca, .int .i64 ((most : Int) + 1)] W (Ret fun u w' => u = .int .i64 (manyN (netB S R l) (most + 1) S.toNat) ∧ Below W.heap.size W w')) := Lib.hid fun hok W h => by
    have k := rMany_any S R A ca l (most + 1) W h hok (by omega) (by omega)
    rw [show (((most + 1 : Nat) : Nat) : Int) = (most : Int) + 1 from by omega] at k
    exact k
  unfold vBook at HMa ⊢
  have hX := heap_alloc_new w (.cells #[.int .i64 S, .int .i64 R, .slice A l.length ca] 24)
  have hb := below_alloc' (Below.refl w.heap.size w) (.cells #[.int .i64 S, .int .i64 R, .slice A l.length ca] 24)
  have y0 := (blk_cell (i := 0) hX).trans rfl
  have y1 := (blk_cell (i := 1) hX).trans rfl
  have y2 := (blk_cell (i := 2) hX).trans rfl
  go_enter Tryz.func6, Tryz.ntmps6
  go_upto_region 1 with fail
  have HB1 := Lib.hid hb
  replace HL := Lib.hid (HL.out.below hb)
  clear hb hX
  generalize w.alloc (.cells #[.int .i64 S, .int .i64 R, .slice A l.length ca] 24) = w1 at *
  have Hc := Lib.hid (great_any S R A l.length ca w1 hn)
  go_wp2_with fail
  refine Hc.out.mono ?_
  rintro e w2 ⟨v, rfl, rfl, hb⟩
  have HB2 := Lib.hid (below_trans' HB1.out hb)
  replace HL := Lib.hid (HL.out.below hb)
  replace y0 := cell_below hb y0
  replace y1 := cell_below hb y1
  replace y2 := cell_below hb y2
  clear hb Hc HB1
  by_cases hg : 210 < l.length
  · have d1 : decide (210 < l.length) = true := by simpa using hg
    have HQ : Hid (DenseQ S R l most false) := Lib.hid fun _ h _ => by omega
    go_wp2
    go_ret
    exact Ret.mk ⟨⟨false, rfl, HQ.out⟩, HB2.out⟩
  have d1 : decide (210 < l.length) = false := by simpa using hg
  have hn2 : l.length ≤ 100000 := by omega
  have Hc := Lib.hid (rCheckBook_any S R A ca l w2 HL.out hn2)
  go_wp2_with fail
  refine Hc.out.mono ?_
  rintro e w3 ⟨v, rfl, rfl, hb⟩
  have HB3 := Lib.hid (below_trans' HB2.out hb)
  replace HL := Lib.hid (HL.out.below hb)
  replace y0 := cell_below hb y0
  replace y1 := cell_below hb y1
  replace y2 := cell_below hb y2
  clear hb Hc HB2
  by_cases he : bookErr S R l = 0
  rotate_left 1
  · have de : (bookErr S R l == 0) = false := by simpa using he
    have HQ : Hid (DenseQ S R l most false) := Lib.hid fun _ _ h => absurd (bookErr_iff.2 h) he
    generalize bookErr S R l = er at *
    clear he
    go_wp2
    go_ret
    exact Ret.mk ⟨⟨false, rfl, HQ.out⟩, HB3.out⟩
  have HM := Lib.hid (HMa.out (bookErr_iff.1 he))
  rw [he]
  clear he HMa
  obtain ⟨q, hq⟩ : ∃ q, manyN (netB S R l) (most + 1) S.toNat = q := ⟨_, rfl⟩
  have HQe := Lib.hid hq
  rw [hq] at HM
  clear hq
  have hw : IntKind.i64.wrap ((most : Int) + 1) = (most : Int) + 1 := IntWalk.i64_in _ (by omega)
  have Hc := Lib.hid (HM.out w3 HL.out)
  go_wp2_with fail
  refine Hc.out.mono ?_
  rintro e w4 ⟨v, rfl, rfl, hb⟩
  have HB4 := Lib.hid (below_trans' HB3.out hb)
  replace HL := Lib.hid (HL.out.below hb)
  replace y0 := cell_below hb y0
  replace y1 := cell_below hb y1
  replace y2 := cell_below hb y2
  clear hb Hc HB3
  by_cases hmq : most < q
  · have d5 : decide (most < q) = true := by simpa using hmq
    have HQ : Hid (DenseQ S R l most true) := Lib.hid fun h => by cases h
    go_wp2
    go_ret
    exact Ret.mk ⟨⟨true, rfl, HQ.out⟩, HB4.out⟩
  · have d5 : decide (most < q) = false := by simpa using hmq
    have HQ : Hid (DenseQ S R l most false) := Lib.hid fun _ _ _ => by rw [HQe.out]; omega
    go_wp2
    go_ret
    exact Ret.mk ⟨⟨false, rfl, HQ.out⟩, HB4.out⟩
set_option maxRecDepth 100000 in
set_option maxHeartbeats 4000000 in
theorem rGradesN {S R : Int} {A : Option Addr} {ca : Nat} {l : List St} {w : World} (hp : planE S R l ≠ 0) (hl : StepsAt w A l) (hn : l.length ≤ 100000) :
    Calls Tryz.prog 15 #[vBook S R A l.length ca] w (Ret fun v w' => v = .tuple #[.slice none 0 0, .int .i64 (planE S R l)] ∧ Below w.heap.size w w') := by
  have HL := Lib.hid hl; clear hl
  have HPl : Hid (∀ W, StepsAt W A l → Calls Tryz.prog 9 #[vBook S R A l.length ca] W (Ret fun v w' => v = .int .i64 (planE S R l) ∧ Below W.heap.size W w')) := Lib.hid fun W h => rPlan_any S R A ca l W h hn
  generalize planE S R l = p at *
  have dp : (p != 0) = true := by simpa using hp
  clear hp
  unfold vBook at HPl ⊢
  have hX := heap_alloc_new w (.cells #[.int .i64 S, .int .i64 R, .slice A l.length ca] 24)
  have hb := below_alloc' (Below.refl w.heap.size w) (.cells #[.int .i64 S, .int .i64 R, .slice A l.length ca] 24)
  have y0 := (blk_cell (i := 0) hX).trans rfl
  have y1 := (blk_cell (i := 1) hX).trans rfl
  have y2 := (blk_cell (i := 2) hX).trans rfl
  go_enter Tryz.func15, Tryz.ntmps15
  go_upto_region 1 with fail
  have HB1 := Lib.hid hb
  replace HL := Lib.hid (HL.out.below hb)
  clear hb hX
  generalize w.alloc (.cells #[.int .i64 S, .int .i64 R, .slice A l.length ca] 24) = w1 at *
  have Hc := Lib.hid (HPl.out w1 HL.out)
  go_wp2_with fail
  refine Hc.out.mono ?_
  rintro e w2 ⟨v, rfl, rfl, hb⟩
  have HB2 := Lib.hid (below_trans' HB1.out hb)
  replace HL := Lib.hid (HL.out.below hb)
  replace y0 := cell_below hb y0
  replace y1 := cell_below hb y1
  replace y2 := cell_below hb y2
  clear hb Hc HB1
  have Hc := Lib.hid (HPl.out w2 HL.out)
  go_wp2_with fail
  refine Hc.out.mono ?_
  rintro e w3 ⟨v, rfl, rfl, hb⟩
  have HB3 := Lib.hid (below_trans' HB2.out hb)
  replace HL := Lib.hid (HL.out.below hb)
  replace y0 := cell_below hb y0
  replace y1 := cell_below hb y1
  replace y2 := cell_below hb y2
  clear hb Hc HB2
  go_wp2
  go_ret2
  exact Ret.mk ⟨rfl, HB3.out⟩
set_option maxRecDepth 100000 in
set_option maxHeartbeats 4000000 in
theorem familyCheapest_any (S R : Int) (A : Option Addr) (ca : Nat) (l : List St) (w : World) (hl : StepsAt w A l) (hn : l.length ≤ 9223372036854775807) (hT : Tab w) :
    Calls Tryz.prog 3 #[vBook S R A l.length ca] w (Ret fun v w' => v = .bool true ∧ Below w.heap.size w w') := by
  have HL := Lib.hid hl
  have HT := Lib.hid hT
  clear hl hT
  have HDe : Hid (∀ W, StepsAt W A l → Calls Tryz.prog 6 #[vBook S R A l.length ca, .int .i64 3000] W (Ret fun v w' => (∃ b, v = .bool b ∧ DenseQ S R l 3000 b) ∧ Below W.heap.size W w')) := Lib.hid fun W h => dense_any S R A ca l 3000 W h hn (by omega)
  unfold vBook at HDe ⊢
  have hX := heap_alloc_new w (.cells #[.int .i64 S, .int .i64 R, .slice A l.length ca] 24)
  have hb := below_alloc' (Below.refl w.heap.size w) (.cells #[.int .i64 S, .int .i64 R, .slice A l.length ca] 24)
  have y0 := (blk_cell (i := 0) hX).trans rfl
  have y1 := (blk_cell (i := 1) hX).trans rfl
  have y2 := (blk_cell (i := 2) hX).trans rfl
  go_enter Tryz.func3, Tryz.ntmps3
  go_upto_region 1 with fail
  have HB1 := Lib.hid hb
  replace HL := Lib.hid (HL.out.below hb)
  clear hb hX
  generalize w.alloc (.cells #[.int .i64 S, .int .i64 R, .slice A l.length ca] 24) = w1 at *
  replace HT := Lib.hid (HT.out.below HB1.out)
  have Hc := Lib.hid (great_any S R A l.length ca w1 hn)
  go_wp2_with fail
  refine Hc.out.mono ?_
  rintro e w2 ⟨v, rfl, rfl, hb⟩
  have HB2 := Lib.hid (below_trans' HB1.out hb)
  replace HL := Lib.hid (HL.out.below hb)
  replace HT := Lib.hid (HT.out.below hb)
  replace y0 := cell_below hb y0
  replace y1 := cell_below hb y1
  replace y2 := cell_below hb y2
  clear hb Hc HB1
  by_cases hg : 210 < l.length
  · have d1 : decide (210 < l.length) = true := by simpa using hg
    go_wp2_with fail
    refine (works_any _ HT.out).mono ?_
    rintro e wz ⟨v, rfl, rfl, hBz⟩
    go_wp2
    go_ret
    exact Ret.mk' rfl ⟨rfl, below_trans' HB2.out hBz⟩
  have d1 : decide (210 < l.length) = false := by simpa using hg
  have hn2 : l.length ≤ 100000 := by omega
  have Hc := Lib.hid (HDe.out w2 HL.out)
  go_wp2_with fail
  refine Hc.out.mono ?_
  rintro e w3 ⟨v, rfl, ⟨bd, rfl, hd⟩, hb⟩
  have HB3 := Lib.hid (below_trans' HB2.out hb)
  replace HL := Lib.hid (HL.out.below hb)
  replace HT := Lib.hid (HT.out.below hb)
  replace y0 := cell_below hb y0
  replace y1 := cell_below hb y1
  replace y2 := cell_below hb y2
  clear hb Hc HB2
  have HD := Lib.hid hd
  clear hd HDe
  cases bd
  rotate_left 1
  · go_wp2_with fail
    refine (works_any _ HT.out).mono ?_
    rintro e wz ⟨v, rfl, rfl, hBz⟩
    go_wp2
    go_ret
    exact Ret.mk' rfl ⟨rfl, below_trans' HB3.out hBz⟩
  by_cases hp : planE S R l = 0
  rotate_left 1
  · have HP := Lib.hid (fun W h => cheapP (w := W) (A := A) (ca := ca) hp h hn2)
    have HPl := Lib.hid (fun W h => rPlan_any S R A ca l W h hn2)
    obtain ⟨p, hpe⟩ : ∃ p, planE S R l = p := ⟨_, rfl⟩
    rw [hpe] at HP HPl hp
    have dp : (p != 0) = true := by simpa using hp
    clear hpe hp
    have Hc := Lib.hid (HP.out w3 HL.out)
    go_wp2_with fail
    refine Hc.out.mono ?_
    rintro e w4 ⟨v, rfl, rfl, hb⟩
    have HB4 := Lib.hid (below_trans' HB3.out hb)
    replace HL := Lib.hid (HL.out.below hb)
    replace HT := Lib.hid (HT.out.below hb)
    replace y0 := cell_below hb y0
    replace y1 := cell_below hb y1
    replace y2 := cell_below hb y2
    clear hb Hc HB3
    have Hc := Lib.hid (HPl.out w4 HL.out)
    go_wp2_with fail
    refine Hc.out.mono ?_
    rintro e w5 ⟨v, rfl, rfl, hb⟩
    have HB5 := Lib.hid (below_trans' HB4.out hb)
    replace HL := Lib.hid (HL.out.below hb)
    replace HT := Lib.hid (HT.out.below hb)
    replace y0 := cell_below hb y0
    replace y1 := cell_below hb y1
    replace y2 := cell_below hb y2
    clear hb Hc HB4
    go_wp2_with fail
    refine (works_any _ HT.out).mono ?_
    rintro e wz ⟨v, rfl, rfl, hBz⟩
    go_wp2
    go_ret
    exact Ret.mk' rfl ⟨rfl, below_trans' HB5.out hBz⟩
  obtain ⟨hok, hf⟩ := planE_iff.1 hp
  have HK := Lib.hid hok
  have HF := Lib.hid hf
  have HFew := Lib.hid (few_of HD.out hok hf (by omega))
  have HPl : Hid (∀ W, StepsAt W A l → Calls Tryz.prog 9 #[vBook S R A l.length ca] W (Ret fun v w' => v = .int .i64 0 ∧ Below W.heap.size W w')) := Lib.hid fun W h => by
    have k := rPlan_any S R A ca l W h hn2
    rw [hp] at k
    exact k
  clear hok hf hp HD
  have Hc := Lib.hid (cheapY (ca := ca) HK.out HF.out (HL.out : StepsAt w3 A l) hn2)
  go_wp2_with fail
  refine Hc.out.mono ?_
  rintro e w4 ⟨v, rfl, ⟨t, Gt, ct, bc, rfl, ht1, ht2, ht3, ht4, hbc⟩, hb⟩
  have HB4 := Lib.hid (below_trans' HB3.out hb)
  replace HL := Lib.hid (HL.out.below hb)
  replace HT := Lib.hid (HT.out.below hb)
  replace y0 := cell_below hb y0
  replace y1 := cell_below hb y1
  replace y2 := cell_below hb y2
  clear hb Hc HB3
  have HTi := Lib.hid ht2
  have htl : t.length ≤ 100000 := by have := HK.out.dim; omega
  have HTr : Hid (∀ W, StepsAt W A l → IntsAt W Gt t → Calls Tryz.prog 11 #[vBook S R A l.length ca, .slice Gt t.length ct] W (Ret fun v w' => v = .tuple #[.int .i64 bc, .int .i64 0] ∧ Below W.heap.size W w')) := Lib.hid fun W h1 h2 => by
    have k := rCheckTree_any S R A Gt ca ct l t W h1 h2 hn2 htl
    rw [treeV_val HK.out ht3, ht4] at k
    exact k
  have HBe : Hid ((bestL (netB S R l)).1 = bc) := Lib.hid (by
    obtain ⟨T, hT⟩ := tree_ex HK.out.net HF.out
    exact (bestL_is HK.out.net hT).1.uniq hbc)
  clear ht1 ht2 ht3 ht4 hbc
  have Hc := Lib.hid (HPl.out w4 HL.out)
  go_wp2_with fail
  refine Hc.out.mono ?_
  rintro e w5 ⟨v, rfl, rfl, hb⟩
  have HB5 := Lib.hid (below_trans' HB4.out hb)
  replace HL := Lib.hid (HL.out.below hb)
  replace HT := Lib.hid (HT.out.below hb)
  replace HTi := Lib.hid (HTi.out.below hb)
  replace y0 := cell_below hb y0
  replace y1 := cell_below hb y1
  replace y2 := cell_below hb y2
  clear hb Hc HB4
  have HBs : Hid (∀ W, StepsAt W A l → Calls Tryz.prog 10 #[vBook S R A l.length ca] W (Ret fun u w' => (∃ (G : Option Addr) (c m : Nat), u = .tuple #[.slice G m c, .int .i64 bc]) ∧ Below W.heap.size W w')) := Lib.hid fun W h => by
    refine (rBest_any S R A ca l W h HK.out HF.out HFew.out).mono ?_
    rintro e w' ⟨v, rfl, ⟨G, c, rfl, _⟩, hb⟩
    exact Ret.mk ⟨⟨G, c, _, by rw [HBe.out]⟩, hb⟩
  clear HBe HFew HPl
  have Hc := Lib.hid (HBs.out w5 HL.out)
  go_wp2_with fail
  refine Hc.out.mono ?_
  rintro e w6 ⟨v, rfl, ⟨Gb, cb, mb, rfl⟩, hb⟩
  have HB6 := Lib.hid (below_trans' HB5.out hb)
  replace HL := Lib.hid (HL.out.below hb)
  replace HT := Lib.hid (HT.out.below hb)
  replace HTi := Lib.hid (HTi.out.below hb)
  replace y0 := cell_below hb y0
  replace y1 := cell_below hb y1
  replace y2 := cell_below hb y2
  clear hb Hc HB5
  have Hc := Lib.hid (HTr.out w6 HL.out HTi.out)
  go_wp2_with fail
  refine Hc.out.mono ?_
  rintro e w7 ⟨v, rfl, rfl, hb⟩
  have HB7 := Lib.hid (below_trans' HB6.out hb)
  replace HL := Lib.hid (HL.out.below hb)
  replace HT := Lib.hid (HT.out.below hb)
  replace HTi := Lib.hid (HTi.out.below hb)
  replace y0 := cell_below hb y0
  replace y1 := cell_below hb y1
  replace y2 := cell_below hb y2
  clear hb Hc HB6
  go_wp2_with fail
  refine (works_any _ HT.out).mono ?_
  rintro e wz ⟨v, rfl, rfl, hBz⟩
  go_wp2
  go_ret
  exact Ret.mk' rfl ⟨rfl, below_trans' HB7.out hBz⟩
set_option maxRecDepth 100000 in
set_option maxHeartbeats 4000000 in
theorem familyGrades_any (S R : Int) (A : Option Addr) (ca : Nat) (l : List St) (w : World) (hl : StepsAt w A l) (hn : l.length ≤ 9223372036854775807) (hT : Tab w) :
    Calls Tryz.prog 4 #[vBook S R A l.length ca] w (Ret fun v w' => v = .bool true ∧ Below w.heap.size w w') := by
  have HL := Lib.hid hl
  have HT := Lib.hid hT
  clear hl hT
  have HDe : Hid (∀ W, StepsAt W A l → Calls Tryz.prog 6 #[vBook S R A l.length ca, .int .i64 1000] W (Ret fun v w' => (∃ b, v = .bool b ∧ DenseQ S R l 1000 b) ∧ Below W.heap.size W w')) := Lib.hid fun W h => dense_any S R A ca l 1000 W h hn (by omega)
  unfold vBook at HDe ⊢
  have hX := heap_alloc_new w (.cells #[.int .i64 S, .int .i64 R, .slice A l.length ca] 24)
  have hb := below_alloc' (Below.refl w.heap.size w) (.cells #[.int .i64 S, .int .i64 R, .slice A l.length ca] 24)
  have y0 := (blk_cell (i := 0) hX).trans rfl
  have y1 := (blk_cell (i := 1) hX).trans rfl
  have y2 := (blk_cell (i := 2) hX).trans rfl
  go_enter Tryz.func4, Tryz.ntmps4
  go_upto_region 1 with fail
  have HB1 := Lib.hid hb
  replace HL := Lib.hid (HL.out.below hb)
  clear hb hX
  generalize w.alloc (.cells #[.int .i64 S, .int .i64 R, .slice A l.length ca] 24) = w1 at *
  replace HT := Lib.hid (HT.out.below HB1.out)
  have Hc := Lib.hid (great_any S R A l.length ca w1 hn)
  go_wp2_with fail
  refine Hc.out.mono ?_
  rintro e w2 ⟨v, rfl, rfl, hb⟩
  have HB2 := Lib.hid (below_trans' HB1.out hb)
  replace HL := Lib.hid (HL.out.below hb)
  replace HT := Lib.hid (HT.out.below hb)
  replace y0 := cell_below hb y0
  replace y1 := cell_below hb y1
  replace y2 := cell_below hb y2
  clear hb Hc HB1
  by_cases hg : 210 < l.length
  · have d1 : decide (210 < l.length) = true := by simpa using hg
    go_wp2_with fail
    refine (works_any _ HT.out).mono ?_
    rintro e wz ⟨v, rfl, rfl, hBz⟩
    go_wp2
    go_ret
    exact Ret.mk' rfl ⟨rfl, below_trans' HB2.out hBz⟩
  have d1 : decide (210 < l.length) = false := by simpa using hg
  have hn2 : l.length ≤ 100000 := by omega
  have Hc := Lib.hid (HDe.out w2 HL.out)
  go_wp2_with fail
  refine Hc.out.mono ?_
  rintro e w3 ⟨v, rfl, ⟨bd, rfl, hd⟩, hb⟩
  have HB3 := Lib.hid (below_trans' HB2.out hb)
  replace HL := Lib.hid (HL.out.below hb)
  replace HT := Lib.hid (HT.out.below hb)
  replace y0 := cell_below hb y0
  replace y1 := cell_below hb y1
  replace y2 := cell_below hb y2
  clear hb Hc HB2
  have HD := Lib.hid hd
  clear hd HDe
  cases bd
  rotate_left 1
  · go_wp2_with fail
    refine (works_any _ HT.out).mono ?_
    rintro e wz ⟨v, rfl, rfl, hBz⟩
    go_wp2
    go_ret
    exact Ret.mk' rfl ⟨rfl, below_trans' HB3.out hBz⟩
  have Hc := Lib.hid (most_any S R A ca l w3 HL.out hn2)
  go_wp2_with fail
  refine Hc.out.mono ?_
  rintro e w4 ⟨v, rfl, ⟨m, e, rfl, hq⟩, hb⟩
  have HB4 := Lib.hid (below_trans' HB3.out hb)
  replace HL := Lib.hid (HL.out.below hb)
  replace HT := Lib.hid (HT.out.below hb)
  replace y0 := cell_below hb y0
  replace y1 := cell_below hb y1
  replace y2 := cell_below hb y2
  clear hb Hc HB3
  have HQ := Lib.hid hq
  clear hq
  have Hc := Lib.hid (rMost_any S R A ca l w4 HL.out hn2)
  go_wp2_with fail
  refine Hc.out.mono ?_
  rintro e w5 ⟨v, rfl, ⟨m2, e2, rfl, hq⟩, hb⟩
  have HB5 := Lib.hid (below_trans' HB4.out hb)
  replace HL := Lib.hid (HL.out.below hb)
  replace HT := Lib.hid (HT.out.below hb)
  replace y0 := cell_below hb y0
  replace y1 := cell_below hb y1
  replace y2 := cell_below hb y2
  clear hb Hc HB4
  obtain ⟨rfl, rfl⟩ := HQ.out.uniq hq
  clear hq HQ
  by_cases hp : planE S R l = 0
  rotate_left 1
  · have HP := Lib.hid (fun W h => gradesP (w := W) (A := A) (ca := ca) hp h hn2)
    have HPl := Lib.hid (fun W h => rGradesN (w := W) (A := A) (ca := ca) hp h hn2)
    obtain ⟨p, hpe⟩ : ∃ p, planE S R l = p := ⟨_, rfl⟩
    rw [hpe] at HP HPl
    clear hpe hp
    have Hc := Lib.hid (HP.out w5 HL.out)
    go_wp2_with fail
    refine Hc.out.mono ?_
    rintro e w6 ⟨v, rfl, rfl, hb⟩
    have HB6 := Lib.hid (below_trans' HB5.out hb)
    replace HL := Lib.hid (HL.out.below hb)
    replace HT := Lib.hid (HT.out.below hb)
    replace y0 := cell_below hb y0
    replace y1 := cell_below hb y1
    replace y2 := cell_below hb y2
    clear hb Hc HB5
    have Hc := Lib.hid (HPl.out w6 HL.out)
    go_wp2_with fail
    refine Hc.out.mono ?_
    rintro e w7 ⟨v, rfl, rfl, hb⟩
    have HB7 := Lib.hid (below_trans' HB6.out hb)
    replace HL := Lib.hid (HL.out.below hb)
    replace HT := Lib.hid (HT.out.below hb)
    replace y0 := cell_below hb y0
    replace y1 := cell_below hb y1
    replace y2 := cell_below hb y2
    clear hb Hc HB6
    have Hi : Hid (∀ W, Calls Tryz.prog 16 #[.slice none 0 0, .slice none 0 0] W (Ret fun v w' => v = .bool true ∧ Below W.heap.size W w')) := Lib.hid fun W => ints_same none none 0 0 [] W IntsAt.nil IntsAt.nil (by simp)
    have Hc := Lib.hid (Hi.out w7)
    go_wp2_with fail
    refine Hc.out.mono ?_
    rintro e w8 ⟨v, rfl, rfl, hb⟩
    have HB8 := Lib.hid (below_trans' HB7.out hb)
    replace HL := Lib.hid (HL.out.below hb)
    replace HT := Lib.hid (HT.out.below hb)
    replace y0 := cell_below hb y0
    replace y1 := cell_below hb y1
    replace y2 := cell_below hb y2
    clear hb Hc HB7
    go_wp2_with fail
    refine (works_any _ HT.out).mono ?_
    rintro e wz ⟨v, rfl, rfl, hBz⟩
    go_wp2
    go_ret
    exact Ret.mk' rfl ⟨rfl, below_trans' HB8.out hBz⟩
  obtain ⟨hok, hf⟩ := planE_iff.1 hp
  have HK := Lib.hid hok
  have HF := Lib.hid hf
  have HFew := Lib.hid (few_of HD.out hok hf (by omega))
  clear hok hf hp HD
  have Hc := Lib.hid (gradesY (ca := ca) HK.out HF.out (HL.out : StepsAt w5 A l) hn2)
  go_wp2_with fail
  refine Hc.out.mono ?_
  rintro e w6 ⟨v, rfl, ⟨gg, Gg, cg, rfl, hg1, hg2, hg3⟩, hb⟩
  have HB6 := Lib.hid (below_trans' HB5.out hb)
  replace HL := Lib.hid (HL.out.below hb)
  replace HT := Lib.hid (HT.out.below hb)
  replace y0 := cell_below hb y0
  replace y1 := cell_below hb y1
  replace y2 := cell_below hb y2
  clear hb Hc HB5
  have HGi := Lib.hid hg2
  have HGe : Hid (gradesTo (netB S R l) l.length = gg) := Lib.hid (grades_are HK.out.net HF.out hg1 hg3)
  have hgl : gg.length ≤ 100000 := by omega
  clear hg1 hg2 hg3
  have HGs : Hid (∀ W, StepsAt W A l → Calls Tryz.prog 15 #[vBook S R A l.length ca] W (Ret fun u w' => (∃ G c, u = .tuple #[.slice G gg.length c, .int .i64 0] ∧ IntsAt w' G gg) ∧ Below W.heap.size W w')) := Lib.hid fun W h => by
    have k := rGrades_any S R A ca l W h HK.out HF.out HFew.out
    rw [HGe.out] at k
    exact k
  clear HGe HFew
  have Hc := Lib.hid (HGs.out w6 HL.out)
  go_wp2_with fail
  refine Hc.out.mono ?_
  rintro e w7 ⟨v, rfl, ⟨Gh, ch, rfl, hh⟩, hb⟩
  have HB7 := Lib.hid (below_trans' HB6.out hb)
  replace HL := Lib.hid (HL.out.below hb)
  replace HT := Lib.hid (HT.out.below hb)
  replace HGi := Lib.hid (HGi.out.below hb)
  replace y0 := cell_below hb y0
  replace y1 := cell_below hb y1
  replace y2 := cell_below hb y2
  clear hb Hc HB6
  have HHi := Lib.hid hh
  clear hh HGs
  have Hc := Lib.hid (ints_same Gg Gh cg ch gg w7 HGi.out HHi.out hgl)
  go_wp2_with fail
  refine Hc.out.mono ?_
  rintro e w8 ⟨v, rfl, rfl, hb⟩
  have HB8 := Lib.hid (below_trans' HB7.out hb)
  replace HL := Lib.hid (HL.out.below hb)
  replace HT := Lib.hid (HT.out.below hb)
  replace HGi := Lib.hid (HGi.out.below hb)
  replace HHi := Lib.hid (HHi.out.below hb)
  replace y0 := cell_below hb y0
  replace y1 := cell_below hb y1
  replace y2 := cell_below hb y2
  clear hb Hc HB7
  go_wp2_with fail
  refine (works_any _ HT.out).mono ?_
  rintro e wz ⟨v, rfl, rfl, hBz⟩
  go_wp2
  go_ret
  exact Ret.mk' rfl ⟨rfl, below_trans' HB8.out hBz⟩
end Go.Proofs.YtggcooplhodocaaGreatDoor
