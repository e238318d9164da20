/- FamilyProved: the walk. -/
import Derived.Test.YtggcooplhodocaaDoorM0
namespace Go.Proofs.YtggcooplhodocaaDoor
open Go.RowKit Go.Shelf Go.Maps Fam

section
variable {S R : Int} {A B : Option Addr} {ca cb : Nat} {l : List St} {w : World}
theorem checkTreeV {t : List Int} {b e : Int} (h : treeV S R l t = (b, e)) (hl : StepsAt w A l) (ht : IntsAt w B t) (hn : l.length ≤ 100000) (hm : t.length ≤ 100000) :
    Calls Tryd.prog 14 #[vBook S R A l.length ca, .slice B t.length cb] w (Ret fun v w' => v = .tuple #[.int .i64 b, .int .i64 e] ∧ Below w.heap.size w w') := by
  have k := checkTree_any S R A B ca cb l t w hl ht hn hm
  rw [h] at k
  exact k
theorem rCheckTreeV {t : List Int} {b e : Int} (h : treeV S R l t = (b, e)) (hl : StepsAt w A l) (ht : IntsAt w B t) (hn : l.length ≤ 100000) (hm : t.length ≤ 100000) :
    Calls Tryd.prog 15 #[vBook S R A l.length ca, .slice B t.length cb] w (Ret fun v w' => v = .tuple #[.int .i64 b, .int .i64 e] ∧ Below w.heap.size w w') := by
  have k := rCheckTree_any S R A B ca cb l t w hl ht hn hm
  rw [h] at k
  exact k
theorem checkPricesV {P : List Pc} {b e : Int} (h : pricesV S R l P = (b, e)) (hl : StepsAt w A l) (hn : l.length ≤ 100000) (hP : PsAt w B P) (hgl : ∀ x ∈ P, x.1.length ≤ 100000) :
    Calls Tryd.prog 21 #[vBook S R A l.length ca, .slice B P.length cb] w (Ret fun v w' => v = .tuple #[.int .i64 b, .int .i64 e] ∧ Below w.heap.size w w') := by
  have k := checkPrices_any S R A B ca cb l P w hl hn hP hgl
  rw [h] at k
  exact k
theorem rCheckPricesV {P : List Pc} {b e : Int} (h : pricesV S R l P = (b, e)) (hl : StepsAt w A l) (hn : l.length ≤ 100000) (hP : PsAt w B P) (hgl : ∀ x ∈ P, x.1.length ≤ 100000) :
    Calls Tryd.prog 22 #[vBook S R A l.length ca, .slice B P.length cb] w (Ret fun v w' => v = .tuple #[.int .i64 b, .int .i64 e] ∧ Below w.heap.size w w') := by
  have k := rCheckPrices_any S R A B ca cb l P w hl hn hP hgl
  rw [h] at k
  exact k
theorem TreeL.tree {N : Net} {t : List Int} (h : TreeL N t) : Tree N (treeF t) := h.2.2.2
/-- no given tree has fewer changes -/
theorem tree_least (h : BookOk S R l) {b : Int} (hB : Best (netB S R l) b) {t : List Int} {c : Int} (k : treeV S R l t = (c, 0)) : b ≤ c := by
  have h1 : TreeL (netB S R l) t := (treeV_iff h).1 (by rw [k])
  have h2 := hB.2 _ h1.2.2.2
  rw [treeV_val h h1] at k
  have h3 : costL (netB S R l) t = c := congrArg Prod.fst k
  unfold costL at h3
  omega
/-- no right prices have a greater bound -/
theorem prices_most (h : BookOk S R l) {b : Int} (hB : Best (netB S R l) b) {P : List Pc} {c : Int} (k : pricesV S R l P = (c, 0)) : c ≤ b := by
  obtain ⟨h1, h2⟩ := pricesV_right h (P := P) (by rw [k])
  rw [k] at h2
  dsimp only at h2
  obtain ⟨⟨T, hT, e⟩, _⟩ := hB
  have := weak hT h1
  omega
end
set_option maxRecDepth 100000 in
set_option maxHeartbeats 4000000 in
theorem familyProved_any (S R : Int) (A U G B : Option Addr) (ca cu cg cb : Nat) (l : List St) (u g : List Int) (P : List Pc) (w : World) (hl : StepsAt w A l) (hu : U8At w U u) (hu2 : ∀ x ∈ u, 0 ≤ x ∧ x ≤ 255) (hg : IntsAt w G g) (hP : PsAt w B P) (hn : l.length ≤ 9223372036854775807) (hun : u.length ≤ 9223372036854775807) (hgn : g.length ≤ 9223372036854775807) (hm : P.length ≤ 9223372036854775807) (hPl : ∀ x ∈ P, x.1.length ≤ 9223372036854775807) (hT : Tab w) :
    Calls Tryd.prog 5 #[vBook S R A l.length ca, .slice U u.length cu, .slice G g.length cg, .slice B P.length cb] w (Ret fun v w' => v = .bool true ∧ Below w.heap.size w w') := by
  have HL := Lib.hid hl
  have HU := Lib.hid hu
  have HU2 := Lib.hid hu2
  have HG := Lib.hid hg
  have HP := Lib.hid hP
  have HT := Lib.hid hT
  have HPl := Lib.hid hPl
  clear hl hP hT hPl hu hu2 hg
  unfold vBook
  have hX := heap_alloc_new w (.cells #[.int .i64 S, .int .i64 R, .slice A l.length ca] 24)
  have hb := below_alloc' (Below.refl w.heap.size w) (.cells #[.int .i64 S, .int .i64 R, .slice A l.length ca] 24)
  have y0 := (blk_cell (i := 0) hX).trans rfl
  have y1 := (blk_cell (i := 1) hX).trans rfl
  have y2 := (blk_cell (i := 2) hX).trans rfl
  go_enter Tryd.func5, Tryd.ntmps5
  go_upto_region 1 with fail
  have HB1 := Lib.hid hb
  replace HL := Lib.hid (HL.out.below hb)
  replace HU := Lib.hid (HU.out.below hb)
  replace HG := Lib.hid (HG.out.below hb)
  replace HP := Lib.hid (HP.out.below hb)
  replace HT := Lib.hid (HT.out.below hb)
  clear hb hX
  generalize w.alloc (.cells #[.int .i64 S, .int .i64 R, .slice A l.length ca] 24) = w1 at *
  have Hc := Lib.hid (fine_any S R A ca l w1 HL.out hn)
  go_wp2_with fail
  refine Hc.out.mono ?_
  rintro e w2 ⟨v, rfl, ⟨bf, rfl, hfb⟩, hb⟩
  have HB2 := Lib.hid (below_trans' HB1.out hb)
  replace HL := Lib.hid (HL.out.below hb)
  replace HU := Lib.hid (HU.out.below hb)
  replace HG := Lib.hid (HG.out.below hb)
  replace HP := Lib.hid (HP.out.below hb)
  replace HT := Lib.hid (HT.out.below hb)
  replace y0 := cell_below hb y0
  replace y1 := cell_below hb y1
  replace y2 := cell_below hb y2
  clear hb Hc HB1
  cases bf
  · go_wp2_with fail
    refine (works_any _ HT.out).mono ?_
    rintro e wz ⟨v, rfl, rfl, hBz⟩
    go_wp2
    go_ret
    exact Ret.mk' rfl ⟨rfl, below_trans' HB2.out hBz⟩
  obtain ⟨hk, hf⟩ := hfb.1 rfl
  have HK := Lib.hid hk
  have HF := Lib.hid hf
  have hn1 : l.length ≤ 100000 := by have := hk.many; omega
  have hs16 : S ≤ 16 := by have := hk.dim; omega
  clear hfb hk hf
  by_cases hg0 : 30 < u.length
  · have e0 : decide ((u.length : Int) > 30) = true := by simp; omega
    go_wp2_with fail
    refine (works_any _ HT.out).mono ?_
    rintro e wz ⟨v, rfl, rfl, hBz⟩
    go_wp2
    go_ret
    exact Ret.mk' rfl ⟨rfl, below_trans' HB2.out hBz⟩
  have e0 : decide ((u.length : Int) > 30) = false := by simp; omega
  by_cases hg1 : 20 < g.length
  · have e1 : decide ((g.length : Int) > 20) = true := by simp; omega
    go_wp2_with fail
    refine (works_any _ HT.out).mono ?_
    rintro e wz ⟨v, rfl, rfl, hBz⟩
    go_wp2
    go_ret
    exact Ret.mk' rfl ⟨rfl, below_trans' HB2.out hBz⟩
  have e1 : decide ((g.length : Int) > 20) = false := by simp; omega
  by_cases hg2 : 50 < P.length
  · have e2 : decide ((P.length : Int) > 50) = true := by simp; omega
    go_wp2_with fail
    refine (works_any _ HT.out).mono ?_
    rintro e wz ⟨v, rfl, rfl, hBz⟩
    go_wp2
    go_ret
    exact Ret.mk' rfl ⟨rfl, below_trans' HB2.out hBz⟩
  have e2 : decide ((P.length : Int) > 50) = false := by simp; omega
  go_wp2
  go_loopw [9] (fun i wr => ∃ k : Nat, k ≤ P.length ∧ i = .int .i64 k ∧ Hid (∀ j (h : j < P.length), j < k → P[j].1.length ≤ 30) ∧ Hid (Below w2.heap.size w2 wr)) (fun i _ => P.length - (intOf i).toNat)
  case atStart => exact ⟨0, by omega, rfl, Lib.hid (fun j h h2 => by omega), Lib.hid (Below.refl _ _)⟩
  case round =>
    obtain ⟨k, hk, rfl, HS, HBr⟩ := hrel
    by_cases hkP : k < P.length
    · obtain ⟨b, off, G, c, rfl, g0, g1, _⟩ := (HP.out.below HBr.out).at_ hkP
      have hgl := HPl.out _ (List.getElem_mem hkP)
      have HSn : Hid (P[k].1.length ≤ 30 → ∀ j (h : j < P.length), j < k + 1 → P[j].1.length ≤ 30) := Lib.hid fun h j hj hjk => by
        by_cases e : j = k
        · subst e; exact h
        · exact HS.out j hj (by omega)
      generalize P[k] = x at g0 g1 hgl HSn
      have k0 : (0 : Int) ≤ (k : Int) := by omega
      have k1 : (k : Int) < (P.length : Int) := by omega
      by_cases hx : 30 < x.1.length
      · have dx : decide ((x.1.length : Int) > 30) = true := by simp; omega
        go_wp2_with fail
        refine (works_any _ (HT.out.below HBr.out)).mono ?_
        rintro e wz ⟨v, rfl, rfl, hBz⟩
        go_wp2
        go_ret
        exact Ret.mk' rfl ⟨rfl, below_trans' (below_trans' HB2.out HBr.out) hBz⟩
      · have dx : decide ((x.1.length : Int) > 30) = false := by simp; omega
        have HS2 := Lib.hid (HSn.out (by omega))
        clear HSn HS
        go_wp2
        go_roundw
        case rel => exact ⟨k + 1, by omega, by go_num, HS2, HBr⟩
        case measure => simp [intOf]; omega
    obtain rfl : k = P.length := by omega
    obtain ⟨w3, hwn⟩ : ∃ x, x = wr := ⟨_, rfl⟩
    subst hwn
    have HB3 := Lib.hid (below_trans' HB2.out HBr.out)
    replace HL := Lib.hid (HL.out.below HBr.out)
    replace HU := Lib.hid (HU.out.below HBr.out)
    replace HG := Lib.hid (HG.out.below HBr.out)
    replace HP := Lib.hid (HP.out.below HBr.out)
    replace HT := Lib.hid (HT.out.below HBr.out)
    replace y0 := cell_below HBr.out y0
    replace y1 := cell_below HBr.out y1
    replace y2 := cell_below HBr.out y2
    have HGl : Hid (∀ x ∈ P, x.1.length ≤ 100000) := Lib.hid fun x hx => by
      obtain ⟨j, hj, rfl⟩ := List.mem_iff_getElem.1 hx
      have := HS.out j hj hj
      omega
    clear HBr HB2 HS
    have Hc := Lib.hid (cheapY (ca := ca) HK.out HF.out (HL.out : StepsAt w3 A l) hn1)
    go_wp2_with fail
    refine Hc.out.mono ?_
    rintro e w4 ⟨v, rfl, ⟨t, G2, c3, bc, rfl, ht1, ht2, ht3, ht4, hbc⟩, hb⟩
    have HB4 := Lib.hid (below_trans' HB3.out hb)
    replace HL := Lib.hid (HL.out.below hb)
    replace HU := Lib.hid (HU.out.below hb)
    replace HG := Lib.hid (HG.out.below hb)
    replace HP := Lib.hid (HP.out.below hb)
    replace HT := Lib.hid (HT.out.below hb)
    replace y0 := cell_below hb y0
    replace y1 := cell_below hb y1
    replace y2 := cell_below hb y2
    clear hb Hc HB3
    have HT2 := Lib.hid ht2
    have HTV : Hid (treeV S R l t = (bc, 0)) := Lib.hid (by rw [treeV_val HK.out ht3, ht4])
    have HBc := Lib.hid hbc
    have htl : t.length ≤ 100000 := by omega
    clear ht1 ht2 ht3 ht4 hbc
    have Hc := Lib.hid (pricesY (ca := ca) HK.out HF.out (HL.out : StepsAt w4 A l) hn1 HT.out)
    go_wp2_with fail
    refine Hc.out.mono ?_
    rintro e w5 ⟨v, rfl, ⟨P2, B2, c2, bp, rfl, hP2, hs2, hb2, hv2⟩, hb⟩
    have HB5 := Lib.hid (below_trans' HB4.out hb)
    replace HL := Lib.hid (HL.out.below hb)
    replace HU := Lib.hid (HU.out.below hb)
    replace HG := Lib.hid (HG.out.below hb)
    replace HP := Lib.hid (HP.out.below hb)
    replace HT := Lib.hid (HT.out.below hb)
    replace HT2 := Lib.hid (HT2.out.below hb)
    replace y0 := cell_below hb y0
    replace y1 := cell_below hb y1
    replace y2 := cell_below hb y2
    clear hb Hc HB4
    obtain rfl := HBc.out.uniq hb2
    have HP2 := Lib.hid hP2
    have HS2 := Lib.hid hs2
    have HV2 := Lib.hid hv2
    clear hP2 hs2 hv2 hb2
    have Hc := Lib.hid (checkTreeV (ca := ca) (cb := c3) HTV.out HL.out (HT2.out : IntsAt w5 G2 t) hn1 htl)
    go_wp2_with fail
    refine Hc.out.mono ?_
    rintro e w6 ⟨v, rfl, rfl, hb⟩
    have HB6 := Lib.hid (below_trans' HB5.out hb)
    replace HL := Lib.hid (HL.out.below hb)
    replace HU := Lib.hid (HU.out.below hb)
    replace HG := Lib.hid (HG.out.below hb)
    replace HP := Lib.hid (HP.out.below hb)
    replace HT := Lib.hid (HT.out.below hb)
    replace HT2 := Lib.hid (HT2.out.below hb)
    replace HP2 := Lib.hid (HP2.out.below hb)
    replace y0 := cell_below hb y0
    replace y1 := cell_below hb y1
    replace y2 := cell_below hb y2
    clear hb Hc HB5
    have Hc := Lib.hid (rCheckTreeV (ca := ca) (cb := c3) HTV.out HL.out (HT2.out : IntsAt w6 G2 t) hn1 htl)
    go_wp2_with fail
    refine Hc.out.mono ?_
    rintro e w7 ⟨v, rfl, rfl, hb⟩
    have HB7 := Lib.hid (below_trans' HB6.out hb)
    replace HL := Lib.hid (HL.out.below hb)
    replace HU := Lib.hid (HU.out.below hb)
    replace HG := Lib.hid (HG.out.below hb)
    replace HP := Lib.hid (HP.out.below hb)
    replace HT := Lib.hid (HT.out.below hb)
    replace HT2 := Lib.hid (HT2.out.below hb)
    replace HP2 := Lib.hid (HP2.out.below hb)
    replace y0 := cell_below hb y0
    replace y1 := cell_below hb y1
    replace y2 := cell_below hb y2
    clear hb Hc HB6
    have Hc := Lib.hid (checkPricesV (ca := ca) (cb := c2) HV2.out HL.out hn1 (HP2.out : PsAt w7 B2 P2) HS2.out)
    go_wp2_with fail
    refine Hc.out.mono ?_
    rintro e w8 ⟨v, rfl, rfl, hb⟩
    have HB8 := Lib.hid (below_trans' HB7.out hb)
    replace HL := Lib.hid (HL.out.below hb)
    replace HU := Lib.hid (HU.out.below hb)
    replace HG := Lib.hid (HG.out.below hb)
    replace HP := Lib.hid (HP.out.below hb)
    replace HT := Lib.hid (HT.out.below hb)
    replace HT2 := Lib.hid (HT2.out.below hb)
    replace HP2 := Lib.hid (HP2.out.below hb)
    replace y0 := cell_below hb y0
    replace y1 := cell_below hb y1
    replace y2 := cell_below hb y2
    clear hb Hc HB7
    have Hc := Lib.hid (rCheckPricesV (ca := ca) (cb := c2) HV2.out HL.out hn1 (HP2.out : PsAt w8 B2 P2) HS2.out)
    go_wp2_with fail
    refine Hc.out.mono ?_
    rintro e w9 ⟨v, rfl, rfl, hb⟩
    have HB9 := Lib.hid (below_trans' HB8.out hb)
    replace HL := Lib.hid (HL.out.below hb)
    replace HU := Lib.hid (HU.out.below hb)
    replace HG := Lib.hid (HG.out.below hb)
    replace HP := Lib.hid (HP.out.below hb)
    replace HT := Lib.hid (HT.out.below hb)
    replace HT2 := Lib.hid (HT2.out.below hb)
    replace HP2 := Lib.hid (HP2.out.below hb)
    replace y0 := cell_below hb y0
    replace y1 := cell_below hb y1
    replace y2 := cell_below hb y2
    clear hb Hc HB8
    go_upto_region 16 with fail
    clear HT2 HP2 HTV HV2 HS2
    obtain ⟨X1, hX1⟩ : ∃ X1 : Nat, X1 = w.heap.size := ⟨_, rfl⟩
    have d0 : w9.drew.cell? ⟨w.heap.size, 0, none⟩ = some (.int .i64 S) := y0
    have d1 : w9.drew.cell? ⟨w.heap.size, 1, none⟩ = some (.int .i64 R) := y1
    have d2 : w9.drew.cell? ⟨w.heap.size, 2, none⟩ = some (.slice A l.length ca) := y2
    clear hX1 X1
    have HBv : Hid (Below w9.heap.size w9 w9.drew) := Lib.hid ((Below.refl _ _).drew)
    have HLv : Hid (StepsAt w9.drew A l) := Lib.hid HL.out
    have HUv : Hid (U8At w9.drew U u) := Lib.hid HU.out
    refine wp_region_held (S := fun W => W.cell? ⟨w.heap.size, 0, none⟩ = some (.int .i64 S) ∧ W.cell? ⟨w.heap.size, 1, none⟩ = some (.int .i64 R) ∧ W.cell? ⟨w.heap.size, 2, none⟩ = some (.slice A l.length ca)) (by kernel_rfl) ?_
    refine wpAnyH_take (i := 0) (v := ?_) rfl (by kernel_rfl) (by kernel_rfl) (by kernel_rfl) (fun _ _ _ h => h) (Or.inl ⟨by rfl, ?_⟩) ⟨d0, d1, d2⟩ ?_
    rotate_left 1
    · intro W hW; obtain ⟨s0, s1, s2⟩ := hW; go_simp <;> with_reducible rfl
    refine wpAnyH_take (i := 1) (v := ?_) rfl (by kernel_rfl) (by kernel_rfl) (by kernel_rfl) (fun _ _ _ h => h) (Or.inl ⟨by rfl, ?_⟩) ⟨d0, d1, d2⟩ ?_
    rotate_left 1
    · intro W hW; obtain ⟨s0, s1, s2⟩ := hW; go_simp <;> with_reducible rfl
    refine wpAnyH_take (i := 2) (v := ?_) rfl (by kernel_rfl) (by kernel_rfl) (by kernel_rfl) (fun _ _ _ h => h) (Or.inl ⟨by rfl, ?_⟩) ⟨d0, d1, d2⟩ ?_
    rotate_left 1
    · intro W hW; obtain ⟨s0, s1, s2⟩ := hW; go_simp <;> with_reducible rfl
    simp only [Act.put, List.setIfInBounds_toArray]
    refine wpAnyH_ready (rs := [3]) (by kernel_rfl) (by simp) ?_
    refine AllReadyH.cons rfl (fun K hK => ?_) AllReadyH.nil
    go_simp
    refine (growT_any S R A U ca cu l u _ HLv.out HUv.out HU2.out HK.out HF.out (by omega)).mono ?_
    rintro e V3 ⟨v, rfl, ⟨tg, GG, cG, rfl, hgl, hgi, hgt⟩, hb⟩
    replace HBv := Lib.hid (below_trans' HBv.out hb)
    replace HLv := Lib.hid (RowsAt.below HLv.out hb)
    replace d0 := cell_below hb d0
    replace d1 := cell_below hb d1
    replace d2 := cell_below hb d2
    clear hb
    refine hK.out _ _ ⟨d0, d1, d2⟩ (fun _ => ?_)
    clear hK K
    have HGV : Hid (treeV S R l tg = (costL (netB S R l) tg, 0)) := Lib.hid (treeV_val HK.out hgt)
    have hgb := tree_least HK.out HBc.out HGV.out
    generalize costL (netB S R l) tg = gv at HGV hgb
    have htg : tg.length ≤ 100000 := by omega
    clear hgl
    have Hct := Lib.hid (checkTreeV (S := S) (R := R) (A := A) (B := GG) (ca := ca) (cb := cG) (l := l) (w := V3) HGV.out HLv.out hgi hn1 htg)
    refine wpAnyH_ready (rs := [4]) (by kernel_rfl) (by simp) ?_
    refine AllReadyH.cons rfl (fun K hK => ?_) AllReadyH.nil
    go_simp
    refine (Hct.out).mono ?_
    rintro e V4 ⟨v, rfl, rfl, hb⟩
    replace HBv := Lib.hid (below_trans' HBv.out hb)
    replace HLv := Lib.hid (RowsAt.below HLv.out hb)
    replace d0 := cell_below hb d0
    replace d1 := cell_below hb d1
    replace d2 := cell_below hb d2
    clear hb
    refine hK.out _ _ ⟨d0, d1, d2⟩ (fun _ => ?_)
    clear hK K
    refine wpAnyH_take (i := 5) (v := ?_) rfl (by kernel_rfl) (by kernel_rfl) (by kernel_rfl) (fun _ _ _ h => h) (Or.inl ⟨by rfl, ?_⟩) ⟨d0, d1, d2⟩ ?_
    rotate_left 1
    · intro W hW; obtain ⟨s0, s1, s2⟩ := hW; go_simp <;> with_reducible rfl
    refine wpAnyH_take (i := 6) (v := ?_) rfl (by kernel_rfl) (by kernel_rfl) (by kernel_rfl) (fun _ _ _ h => h) (Or.inl ⟨by rfl, ?_⟩) ⟨d0, d1, d2⟩ ?_
    rotate_left 1
    · intro W hW; obtain ⟨s0, s1, s2⟩ := hW; go_simp <;> with_reducible rfl
    refine wpAnyH_take (i := 7) (v := ?_) rfl (by kernel_rfl) (by kernel_rfl) (by kernel_rfl) (fun _ _ _ h => h) (Or.inl ⟨by rfl, ?_⟩) ⟨d0, d1, d2⟩ ?_
    rotate_left 1
    · intro W hW; obtain ⟨s0, s1, s2⟩ := hW; go_simp <;> with_reducible rfl
    refine wpAnyH_take (i := 8) (v := ?_) rfl (by kernel_rfl) (by kernel_rfl) (by kernel_rfl) (fun _ _ _ h => h) (Or.inl ⟨by rfl, ?_⟩) ⟨d0, d1, d2⟩ ?_
    rotate_left 1
    · intro W hW; obtain ⟨s0, s1, s2⟩ := hW; go_simp <;> with_reducible rfl
    refine wpAnyH_take (i := 9) (v := ?_) rfl (by kernel_rfl) (by kernel_rfl) (by kernel_rfl) (fun _ _ _ h => h) (Or.inl ⟨by rfl, ?_⟩) ⟨d0, d1, d2⟩ ?_
    rotate_left 1
    · intro W hW; obtain ⟨s0, s1, s2⟩ := hW; go_simp <;> with_reducible rfl
    simp only [Act.put, List.setIfInBounds_toArray]
    refine wpAnyH_done (by kernel_rfl) ?_ _
    go_simp
    clear Hct HGV hgt hgi htg y0 y1 y2 HLv HUv
    obtain ⟨w10, hV⟩ : ∃ x, x = V4 := ⟨_, rfl⟩
    subst hV
    have HB10 := Lib.hid (below_trans' HB9.out HBv.out)
    replace HL := Lib.hid (HL.out.below HBv.out)
    replace HU := Lib.hid (HU.out.below HBv.out)
    replace HG := Lib.hid (HG.out.below HBv.out)
    replace HP := Lib.hid (HP.out.below HBv.out)
    replace HT := Lib.hid (HT.out.below HBv.out)
    clear HBv HB9
    obtain ⟨gb, ge, hge⟩ : ∃ gb ge, treeV S R l g = (gb, ge) := ⟨_, _, rfl⟩
    obtain ⟨pb, pe, hpe⟩ : ∃ pb pe, pricesV S R l P = (pb, pe) := ⟨_, _, rfl⟩
    have HGE := Lib.hid hge
    have HPE := Lib.hid hpe
    clear hge hpe
    have Hc := Lib.hid (checkTreeV (ca := ca) (cb := cg) HGE.out HL.out (HG.out : IntsAt w10 G g) hn1 (by omega))
    go_wp2_with fail
    refine Hc.out.mono ?_
    rintro e w11 ⟨v, rfl, rfl, hb⟩
    have HB11 := Lib.hid (below_trans' HB10.out hb)
    replace HL := Lib.hid (HL.out.below hb)
    replace HU := Lib.hid (HU.out.below hb)
    replace HG := Lib.hid (HG.out.below hb)
    replace HP := Lib.hid (HP.out.below hb)
    replace HT := Lib.hid (HT.out.below hb)
    replace d0 := cell_below hb d0
    replace d1 := cell_below hb d1
    replace d2 := cell_below hb d2
    clear hb Hc HB10
    have Hc := Lib.hid (checkPricesV (ca := ca) (cb := cb) HPE.out HL.out hn1 (HP.out : PsAt w11 B P) HGl.out)
    go_wp2_with fail
    refine Hc.out.mono ?_
    rintro e w12 ⟨v, rfl, rfl, hb⟩
    have HB12 := Lib.hid (below_trans' HB11.out hb)
    replace HL := Lib.hid (HL.out.below hb)
    replace HU := Lib.hid (HU.out.below hb)
    replace HG := Lib.hid (HG.out.below hb)
    replace HP := Lib.hid (HP.out.below hb)
    replace HT := Lib.hid (HT.out.below hb)
    replace d0 := cell_below hb d0
    replace d1 := cell_below hb d1
    replace d2 := cell_below hb d2
    clear hb Hc HB11
    have x1 : decide (bc ≤ gv) = true := by simpa using hgb
    have x1' : decide (gv ≥ bc) = true := by simpa using hgb
    have HX2 : Hid (ge = 0 → bc ≤ gb) := Lib.hid fun h => by subst h; exact tree_least HK.out HBc.out HGE.out
    have HX3 : Hid (pe = 0 → pb ≤ bc) := Lib.hid fun h => by subst h; exact prices_most HK.out HBc.out HPE.out
    clear HGE HPE hgb
    by_cases h2 : ge = 0
    · subst h2
      have x2 : decide (bc ≤ gb) = true := by simpa using HX2.out rfl
      have x2' : decide (gb ≥ bc) = true := by simpa using HX2.out rfl
      by_cases h3 : pe = 0
      · subst h3
        have x3 : decide (pb ≤ bc) = true := by simpa using HX3.out rfl
        go_wp2_with fail
        refine (works_any _ HT.out).mono ?_
        rintro e wz ⟨v, rfl, rfl, hBz⟩
        go_wp2
        go_ret
        exact Ret.mk' rfl ⟨rfl, below_trans' HB12.out hBz⟩
      · have x3 : (pe != 0) = true := by simpa using h3
        go_wp2_with fail
        refine (works_any _ HT.out).mono ?_
        rintro e wz ⟨v, rfl, rfl, hBz⟩
        go_wp2
        go_ret
        exact Ret.mk' rfl ⟨rfl, below_trans' HB12.out hBz⟩
    · have x2 : (ge != 0) = true := by simpa using h2
      by_cases h3 : pe = 0
      · subst h3
        have x3 : decide (pb ≤ bc) = true := by simpa using HX3.out rfl
        go_wp2_with fail
        refine (works_any _ HT.out).mono ?_
        rintro e wz ⟨v, rfl, rfl, hBz⟩
        go_wp2
        go_ret
        exact Ret.mk' rfl ⟨rfl, below_trans' HB12.out hBz⟩
      · have x3 : (pe != 0) = true := by simpa using h3
        go_wp2_with fail
        refine (works_any _ HT.out).mono ?_
        rintro e wz ⟨v, rfl, rfl, hBz⟩
        go_wp2
        go_ret
        exact Ret.mk' rfl ⟨rfl, below_trans' HB12.out hBz⟩
end Go.Proofs.YtggcooplhodocaaDoor
