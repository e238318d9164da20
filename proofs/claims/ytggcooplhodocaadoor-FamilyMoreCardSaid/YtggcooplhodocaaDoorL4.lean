/- FamilyPrices: the walk. -/
import Derived.Test.YtggcooplhodocaaDoorL3
namespace Go.Proofs.YtggcooplhodocaaDoor
open Go.RowKit Go.Shelf Go.Maps Fam

section
variable {S R : Int} {l : List St}
theorem planE_err (h : bookErr S R l ≠ 0) : planE S R l = bookErr S R l := by unfold planE; rw [if_pos h]
theorem planE_yes (h : BookOk S R l) (hf : Full (netB S R l) (allS (netB S R l))) : planE S R l = 0 := planE_iff.2 ⟨h, hf⟩
theorem planE_no (h : BookOk S R l) (hf : ¬ Full (netB S R l) (allS (netB S R l))) : planE S R l = 13 := by unfold planE; rw [if_neg (by simp [bookErr_iff.2 h]), if_neg hf]
end
section
variable {S R : Int} {A : Option Addr} {ca : Nat} {l : List St} {w : World}
theorem cheapE (he : bookErr S R l ≠ 0) (hl : StepsAt w A l) (hn : l.length ≤ 100000) : Calls Tryd.prog 24 #[vBook S R A l.length ca] w (Ret fun v w' => v = .tuple #[.slice none 0 0, .int .i64 0, .int .i64 (bookErr S R l)] ∧ Below w.heap.size w w') := by
  refine Calls.mono (cheapest_any S R A ca l w hl hn) ?_
  rintro e w' ⟨v, rfl, hv, hb⟩
  rcases hv with ⟨_, rfl⟩ | ⟨h1, _, _⟩ | ⟨h1, _⟩
  · exact Ret.mk ⟨rfl, hb⟩
  · exact absurd h1 he
  · exact absurd h1 he
theorem pricesE (he : bookErr S R l ≠ 0) (hl : StepsAt w A l) (hn : l.length ≤ 100000) (hT : Tab w) : Calls Tryd.prog 23 #[vBook S R A l.length ca] w (Ret fun v w' => v = .tuple #[.slice none 0 0, .int .i64 (bookErr S R l)] ∧ Below w.heap.size w w') := by
  refine Calls.mono (prices_any S R A ca l w hl hn hT) ?_
  rintro e w' ⟨v, rfl, hv, hb⟩
  rcases hv with ⟨_, rfl⟩ | ⟨h1, _, _⟩ | ⟨h1, _⟩
  · exact Ret.mk ⟨rfl, hb⟩
  · exact absurd h1 he
  · exact absurd h1 he
end
set_option maxRecDepth 100000 in
set_option maxHeartbeats 8000000 in
theorem familyPrices_any (S R : Int) (A B : Option Addr) (ca cb : Nat) (l : List St) (P : List Pc) (w : World) (hl : StepsAt w A l) (hP : PsAt w B P) (hn : l.length ≤ 9223372036854775807) (hm : P.length ≤ 9223372036854775807) (hPl : ∀ x ∈ P, x.1.length ≤ 9223372036854775807) (hT : Tab w) :
    Calls Tryd.prog 4 #[vBook S R A l.length ca, .slice B P.length cb] w (Ret fun v w' => v = .bool true ∧ Below w.heap.size w w') := by
  have HL := Lib.hid hl
  have HP := Lib.hid hP
  have HT := Lib.hid hT
  have HPl := Lib.hid hPl
  clear hl hP hT hPl
  unfold vBook
  have hX := heap_alloc_new w (.cells #[.int .i64 S, .int .i64 R, .slice A l.length ca] 24)
  have hb := below_alloc' (Below.refl w.heap.size w) (.cells #[.int .i64 S, .int .i64 R, .slice A l.length ca] 24)
  have y0 := (blk_cell (i := 0) hX).trans rfl
  have y1 := (blk_cell (i := 1) hX).trans rfl
  have y2 := (blk_cell (i := 2) hX).trans rfl
  go_enter Tryd.func4, Tryd.ntmps4
  go_upto_region 1 with fail
  have HB1 := Lib.hid hb
  replace HL := Lib.hid (HL.out.below hb)
  replace HP := Lib.hid (HP.out.below hb)
  replace HT := Lib.hid (HT.out.below hb)
  clear hb hX
  generalize w.alloc (.cells #[.int .i64 S, .int .i64 R, .slice A l.length ca] 24) = w1 at *
  have Hc := Lib.hid (great_any S R A l.length ca w1 hn)
  go_wp2_with fail
  refine Hc.out.mono ?_
  rintro e w2 ⟨v, rfl, rfl, hb⟩
  have HB2 := Lib.hid (below_trans' HB1.out hb)
  replace HL := Lib.hid (HL.out.below hb)
  replace HP := Lib.hid (HP.out.below hb)
  replace HT := Lib.hid (HT.out.below hb)
  replace y0 := cell_below hb y0
  replace y1 := cell_below hb y1
  replace y2 := cell_below hb y2
  clear hb Hc HB1
  by_cases hg : 210 < l.length
  · have d1 : decide (210 < l.length) = true := by simpa using hg
    go_wp2_with fail
    refine (works_any _ HT.out).mono ?_
    rintro e wz ⟨v, rfl, rfl, hBz⟩
    go_wp2
    go_ret
    exact Ret.mk' rfl ⟨rfl, below_trans' HB2.out hBz⟩
  have d1 : decide (210 < l.length) = false := by simpa using hg
  by_cases hg0 : 50 < P.length
  · have e0 : decide ((P.length : Int) > 50) = true := by simp; omega
    go_wp2_with fail
    refine (works_any _ HT.out).mono ?_
    rintro e wz ⟨v, rfl, rfl, hBz⟩
    go_wp2
    go_ret
    exact Ret.mk' rfl ⟨rfl, below_trans' HB2.out hBz⟩
  have e0 : decide ((P.length : Int) > 50) = false := by simp; omega
  have hn1 : l.length ≤ 100000 := by omega
  go_wp2
  go_loopw [5] (fun i wr => ∃ k : Nat, k ≤ P.length ∧ i = .int .i64 k ∧ Hid (∀ j (h : j < P.length), j < k → P[j].1.length ≤ 30) ∧ Hid (Below w2.heap.size w2 wr)) (fun i _ => P.length - (intOf i).toNat)
  case atStart => exact ⟨0, by omega, rfl, Lib.hid (fun j h h2 => by omega), Lib.hid (Below.refl _ _)⟩
  case round =>
    obtain ⟨k, hk, rfl, HS, HBr⟩ := hrel
    by_cases hkP : k < P.length
    · obtain ⟨b, off, G, c, rfl, g0, g1, _⟩ := (HP.out.below HBr.out).at_ hkP
      have hgl := HPl.out _ (List.getElem_mem hkP)
      have HSn : Hid (P[k].1.length ≤ 30 → ∀ j (h : j < P.length), j < k + 1 → P[j].1.length ≤ 30) := Lib.hid fun h j hj hjk => by
        by_cases e : j = k
        · subst e; exact h
        · exact HS.out j hj (by omega)
      generalize P[k] = x at g0 g1 hgl HSn
      have k0 : (0 : Int) ≤ (k : Int) := by omega
      have k1 : (k : Int) < (P.length : Int) := by omega
      by_cases hx : 30 < x.1.length
      · have dx : decide ((x.1.length : Int) > 30) = true := by simp; omega
        go_wp2_with fail
        refine (works_any _ (HT.out.below HBr.out)).mono ?_
        rintro e wz ⟨v, rfl, rfl, hBz⟩
        go_wp2
        go_ret
        exact Ret.mk' rfl ⟨rfl, below_trans' (below_trans' HB2.out HBr.out) hBz⟩
      · have dx : decide ((x.1.length : Int) > 30) = false := by simp; omega
        have HS2 := Lib.hid (HSn.out (by omega))
        clear HSn HS
        go_wp2
        go_roundw
        case rel => exact ⟨k + 1, by omega, by go_num, HS2, HBr⟩
        case measure => simp [intOf]; omega
    obtain rfl : k = P.length := by omega
    obtain ⟨w3, hwn⟩ : ∃ x, x = wr := ⟨_, rfl⟩
    subst hwn
    have HB3 := Lib.hid (below_trans' HB2.out HBr.out)
    replace HL := Lib.hid (HL.out.below HBr.out)
    replace HP := Lib.hid (HP.out.below HBr.out)
    replace HT := Lib.hid (HT.out.below HBr.out)
    replace y0 := cell_below HBr.out y0
    replace y1 := cell_below HBr.out y1
    replace y2 := cell_below HBr.out y2
    have HGl : Hid (∀ x ∈ P, x.1.length ≤ 100000) := Lib.hid fun x hx => by
      obtain ⟨j, hj, rfl⟩ := List.mem_iff_getElem.1 hx
      have := HS.out j hj hj
      omega
    clear HBr HB2 HS
    obtain ⟨m, e1, hme⟩ : ∃ m e1, pricesV S R l P = (m, e1) := ⟨_, _, rfl⟩
    have Hme := Lib.hid hme
    clear hme
    have Hc := Lib.hid (checkPrices_any S R A B ca cb l P w3 HL.out hn1 HP.out HGl.out)
    go_wp2_with fail
    refine Hc.out.mono ?_
    rintro e w4 ⟨v, rfl, rfl, hb⟩
    have HB4 := Lib.hid (below_trans' HB3.out hb)
    replace HL := Lib.hid (HL.out.below hb)
    replace HP := Lib.hid (HP.out.below hb)
    replace HT := Lib.hid (HT.out.below hb)
    replace y0 := cell_below hb y0
    replace y1 := cell_below hb y1
    replace y2 := cell_below hb y2
    clear hb Hc HB3
    rw [Hme.out]
    dsimp only
    have Hc := Lib.hid (rCheckPrices_any S R A B ca cb l P w4 HL.out hn1 HP.out HGl.out)
    go_wp2_with fail
    refine Hc.out.mono ?_
    rintro e w5 ⟨v, rfl, rfl, hb⟩
    have HB5 := Lib.hid (below_trans' HB4.out hb)
    replace HL := Lib.hid (HL.out.below hb)
    replace HP := Lib.hid (HP.out.below hb)
    replace HT := Lib.hid (HT.out.below hb)
    replace y0 := cell_below hb y0
    replace y1 := cell_below hb y1
    replace y2 := cell_below hb y2
    clear hb Hc HB4
    rw [Hme.out]
    dsimp only
    by_cases he : bookErr S R l = 0
    rotate_left 1
    · have HE := Lib.hid he
      have Hc := Lib.hid (pricesE (ca := ca) HE.out (HL.out : StepsAt w5 A l) hn1 HT.out)
      go_wp2_with fail
      refine Hc.out.mono ?_
      rintro e w6 ⟨v, rfl, rfl, hb⟩
      have HB6 := Lib.hid (below_trans' HB5.out hb)
      replace HL := Lib.hid (HL.out.below hb)
      replace HP := Lib.hid (HP.out.below hb)
      replace HT := Lib.hid (HT.out.below hb)
      replace y0 := cell_below hb y0
      replace y1 := cell_below hb y1
      replace y2 := cell_below hb y2
      clear hb Hc HB5
      have Hc := Lib.hid (cheapE (ca := ca) HE.out (HL.out : StepsAt w6 A l) hn1)
      go_wp2_with fail
      refine Hc.out.mono ?_
      rintro e w7 ⟨v, rfl, rfl, hb⟩
      have HB7 := Lib.hid (below_trans' HB6.out hb)
      replace HL := Lib.hid (HL.out.below hb)
      replace HP := Lib.hid (HP.out.below hb)
      replace HT := Lib.hid (HT.out.below hb)
      replace y0 := cell_below hb y0
      replace y1 := cell_below hb y1
      replace y2 := cell_below hb y2
      clear hb Hc HB6
      have Hc := Lib.hid (rPlan_any S R A ca l w7 HL.out hn1)
      go_wp2_with fail
      refine Hc.out.mono ?_
      rintro e w8 ⟨v, rfl, rfl, hb⟩
      have HB8 := Lib.hid (below_trans' HB7.out hb)
      replace HL := Lib.hid (HL.out.below hb)
      replace HP := Lib.hid (HP.out.below hb)
      replace HT := Lib.hid (HT.out.below hb)
      replace y0 := cell_below hb y0
      replace y1 := cell_below hb y1
      replace y2 := cell_below hb y2
      clear hb Hc HB7
      rw [planE_err HE.out]
      have d9 : (bookErr S R l != 0) = true := by simpa using he
      go_wp2_with fail
      refine (works_any _ HT.out).mono ?_
      rintro e wz ⟨v, rfl, rfl, hBz⟩
      go_wp2
      go_ret
      exact Ret.mk' rfl ⟨rfl, below_trans' HB8.out hBz⟩
    have HK := Lib.hid (bookErr_iff.1 he)
    clear he
    by_cases hf : Full (netB S R l) (allS (netB S R l))
    rotate_left 1
    · have HF := Lib.hid hf
      clear hf
      have Hc := Lib.hid (pricesN (ca := ca) HK.out HF.out (HL.out : StepsAt w5 A l) hn1 HT.out)
      go_wp2_with fail
      refine Hc.out.mono ?_
      rintro e w6 ⟨v, rfl, rfl, hb⟩
      have HB6 := Lib.hid (below_trans' HB5.out hb)
      replace HL := Lib.hid (HL.out.below hb)
      replace HP := Lib.hid (HP.out.below hb)
      replace HT := Lib.hid (HT.out.below hb)
      replace y0 := cell_below hb y0
      replace y1 := cell_below hb y1
      replace y2 := cell_below hb y2
      clear hb Hc HB5
      have Hc := Lib.hid (cheapN (ca := ca) HK.out HF.out (HL.out : StepsAt w6 A l) hn1)
      go_wp2_with fail
      refine Hc.out.mono ?_
      rintro e w7 ⟨v, rfl, rfl, hb⟩
      have HB7 := Lib.hid (below_trans' HB6.out hb)
      replace HL := Lib.hid (HL.out.below hb)
      replace HP := Lib.hid (HP.out.below hb)
      replace HT := Lib.hid (HT.out.below hb)
      replace y0 := cell_below hb y0
      replace y1 := cell_below hb y1
      replace y2 := cell_below hb y2
      clear hb Hc HB6
      have Hc := Lib.hid (rPlan_any S R A ca l w7 HL.out hn1)
      go_wp2_with fail
      refine Hc.out.mono ?_
      rintro e w8 ⟨v, rfl, rfl, hb⟩
      have HB8 := Lib.hid (below_trans' HB7.out hb)
      replace HL := Lib.hid (HL.out.below hb)
      replace HP := Lib.hid (HP.out.below hb)
      replace HT := Lib.hid (HT.out.below hb)
      replace y0 := cell_below hb y0
      replace y1 := cell_below hb y1
      replace y2 := cell_below hb y2
      clear hb Hc HB7
      rw [planE_no HK.out HF.out]
      go_wp2_with fail
      refine (works_any _ HT.out).mono ?_
      rintro e wz ⟨v, rfl, rfl, hBz⟩
      go_wp2
      go_ret
      exact Ret.mk' rfl ⟨rfl, below_trans' HB8.out hBz⟩
    have HF := Lib.hid hf
    clear hf
    have Hc := Lib.hid (pricesY (ca := ca) HK.out HF.out (HL.out : StepsAt w5 A l) hn1 HT.out)
    go_wp2_with fail
    refine Hc.out.mono ?_
    rintro e w6 ⟨v, rfl, ⟨P2, B2, c2, bp, rfl, hP2, hs2, hb2, hv2⟩, hb⟩
    have HB6 := Lib.hid (below_trans' HB5.out hb)
    replace HL := Lib.hid (HL.out.below hb)
    replace HP := Lib.hid (HP.out.below hb)
    replace HT := Lib.hid (HT.out.below hb)
    replace y0 := cell_below hb y0
    replace y1 := cell_below hb y1
    replace y2 := cell_below hb y2
    clear hb Hc HB5
    have HP2 := Lib.hid hP2
    have HS2 := Lib.hid hs2
    have HV2 := Lib.hid hv2
    have HB2x := Lib.hid hb2
    clear hP2 hs2 hv2 hb2
    have Hc := Lib.hid (cheapY (ca := ca) HK.out HF.out (HL.out : StepsAt w6 A l) hn1)
    go_wp2_with fail
    refine Hc.out.mono ?_
    rintro e w7 ⟨v, rfl, ⟨t, G2, c3, bc, rfl, _, _, _, _, hbc⟩, hb⟩
    have HB7 := Lib.hid (below_trans' HB6.out hb)
    replace HL := Lib.hid (HL.out.below hb)
    replace HP := Lib.hid (HP.out.below hb)
    replace HT := Lib.hid (HT.out.below hb)
    replace HP2 := Lib.hid (HP2.out.below hb)
    replace y0 := cell_below hb y0
    replace y1 := cell_below hb y1
    replace y2 := cell_below hb y2
    clear hb Hc HB6
    obtain rfl := hbc.uniq HB2x.out
    clear hbc
    have Hc := Lib.hid (rPlan_any S R A ca l w7 HL.out hn1)
    go_wp2_with fail
    refine Hc.out.mono ?_
    rintro e w8 ⟨v, rfl, rfl, hb⟩
    have HB8 := Lib.hid (below_trans' HB7.out hb)
    replace HL := Lib.hid (HL.out.below hb)
    replace HP := Lib.hid (HP.out.below hb)
    replace HT := Lib.hid (HT.out.below hb)
    replace HP2 := Lib.hid (HP2.out.below hb)
    replace y0 := cell_below hb y0
    replace y1 := cell_below hb y1
    replace y2 := cell_below hb y2
    clear hb Hc HB7
    rw [planE_yes HK.out HF.out]
    have Hc := Lib.hid (rCheckPrices_any S R A B2 ca c2 l P2 w8 HL.out hn1 HP2.out HS2.out)
    go_wp2_with fail
    refine Hc.out.mono ?_
    rintro e w9 ⟨v, rfl, rfl, hb⟩
    have HB9 := Lib.hid (below_trans' HB8.out hb)
    replace HL := Lib.hid (HL.out.below hb)
    replace HP := Lib.hid (HP.out.below hb)
    replace HT := Lib.hid (HT.out.below hb)
    replace HP2 := Lib.hid (HP2.out.below hb)
    replace y0 := cell_below hb y0
    replace y1 := cell_below hb y1
    replace y2 := cell_below hb y2
    clear hb Hc HB8
    rw [HV2.out]
    dsimp only
    go_wp2_with fail
    refine (works_any _ HT.out).mono ?_
    rintro e wz ⟨v, rfl, rfl, hBz⟩
    go_wp2
    go_ret
    exact Ret.mk' rfl ⟨rfl, below_trans' HB9.out hBz⟩
end Go.Proofs.YtggcooplhodocaaDoor
