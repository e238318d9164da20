/- Best, Most and Grades of the reference; dense. -/
import Derived.Test.YtggcooplhodocaaGreatDoorZB
namespace Go.Proofs.YtggcooplhodocaaGreatDoor
open Go.RowKit Go.Shelf Go.Maps Fam
set_option maxRecDepth 100000 in
set_option maxHeartbeats 8000000 in
theorem rBest_any (S R : Int) (A : Option Addr) (ca : Nat) (l : List St) (w : World) (hl : StepsAt w A l) (hok : BookOk S R l) (hf : Full (netB S R l) (allS (netB S R l))) (hfew : ∀ k, k ≤ S.toNat → (prodL (netB S R l) k).length ≤ 5000) :
    Calls Tryz.prog 10 #[vBook S R A l.length ca] w (Ret fun u w' => (∃ G c, u = .tuple #[.slice G (bestL (netB S R l)).2.length c, .int .i64 (bestL (netB S R l)).1] ∧ ListsAt w' G (bestL (netB S R l)).2) ∧ Below w.heap.size w w') := by
  have HL := Lib.hid hl; clear hl
  have hmany := hok.many
  have hdim := hok.dim
  have hroot := hok.root
  have HK := Lib.hid hok; clear hok
  have HF := Lib.hid hf; clear hf
  have HFew := Lib.hid hfew; clear hfew
  obtain ⟨n, rfl⟩ := Int.eq_ofNat_of_zero_le (by omega : 0 ≤ S)
  obtain ⟨r, rfl⟩ := Int.eq_ofNat_of_zero_le hroot.1
  have hn16 : n ≤ 16 := by omega
  have hrn : r < n := by omega
  have HTr : Hid (∀ W, StepsAt W A l → Calls Tryz.prog 29 #[vBook (n : Int) (r : Int) A l.length ca] W (Ret fun u w' => (∃ G c, u = .slice G (treesL (netB (n : Int) (r : Int) l)).length c ∧ ListsAt w' G (treesL (netB (n : Int) (r : Int) l))) ∧ Below W.heap.size W w')) := Lib.hid fun W h => rTrees_any (n : Int) (r : Int) A ca l W h HK.out HFew.out
  have HTree : Hid (∀ (B : Option Addr) (cb : Nat) (t : List Int) (W : World), StepsAt W A l → IntsAt W B t → TreeL (netB (n : Int) (r : Int) l) t → Calls Tryz.prog 11 #[vBook (n : Int) (r : Int) A l.length ca, .slice B t.length cb] W (Ret fun v w' => v = .tuple #[.int .i64 (costL (netB (n : Int) (r : Int) l) t), .int .i64 0] ∧ Below W.heap.size W w')) := Lib.hid fun B cb t W h1 h2 h3 => by
    have k := rCheckTree_any (n : Int) (r : Int) A B ca cb l t W h1 h2 (by omega) (by have := h3.1; have e : (netB (n : Int) (r : Int) l).n = n := rfl; omega)
    rw [treeV_val HK.out h3] at k
    exact k
  have HTl : Hid ((treesL (netB (n : Int) (r : Int) l)).length ≤ 5000) := Lib.hid (Nat.le_trans (treesL_len _) (HFew.out n (by simp)))
  clear HFew
  obtain ⟨N, hN⟩ : ∃ N, N = netB (n : Int) (r : Int) l := ⟨_, rfl⟩
  rw [← hN] at HTr HTree HTl ⊢
  have HNe := Lib.hid hN
  clear hN
  unfold vBook at HTr HTree ⊢
  have hX := heap_alloc_new w (.cells #[.int .i64 n, .int .i64 r, .slice A l.length ca] 24)
  have hb := below_alloc' (Below.refl w.heap.size w) (.cells #[.int .i64 n, .int .i64 r, .slice A l.length ca] 24)
  have y0 := (blk_cell (i := 0) hX).trans rfl
  have y1 := (blk_cell (i := 1) hX).trans rfl
  have y2 := (blk_cell (i := 2) hX).trans rfl
  go_enter Tryz.func10, Tryz.ntmps10
  go_upto_region 1 with fail
  have HB1 := Lib.hid hb
  replace HL := Lib.hid (HL.out.below hb)
  clear hb hX
  generalize w.alloc (.cells #[.int .i64 n, .int .i64 r, .slice A l.length ca] 24) = w1 at *
  clear hdim hroot
  have Hc := Lib.hid (HTr.out w1 HL.out)
  go_wp2_with fail
  refine Hc.out.mono ?_
  rintro e w2 ⟨v, rfl, ⟨G6, c6, rfl, hT⟩, hb⟩
  have HB2 := Lib.hid (below_trans' HB1.out hb)
  replace HL := Lib.hid (HL.out.below hb)
  replace y0 := cell_below hb y0
  replace y1 := cell_below hb y1
  replace y2 := cell_below hb y2
  clear hb Hc HB1
  have HT6 := Lib.hid hT
  clear hT HTr
  have hTl := HTl.out
  have HTi : Hid (∀ t ∈ treesL N, TreeL N t) := Lib.hid fun t h => mem_treesL.1 h
  have HNx : Hid (∀ i (h : i < (treesL N).length), bestTo N (i + 1) = (if (bestTo N i).1 < 0 ∨ costL N (treesL N)[i] < (bestTo N i).1 then (costL N (treesL N)[i], [(treesL N)[i]]) else if costL N (treesL N)[i] = (bestTo N i).1 then ((bestTo N i).1, (bestTo N i).2 ++ [(treesL N)[i]]) else bestTo N i)) := Lib.hid fun i h => bestTo_next h
  have HBl : Hid (∀ i, i ≤ (treesL N).length → (bestTo N i).2.length ≤ i) := Lib.hid fun i h => bestTo_len N i h
  have HBA : Hid (bestTo N (treesL N).length = bestL N) := Lib.hid (bestTo_all N)
  have HBZ : Hid (bestTo N 0 = (-1, [])) := Lib.hid (bestTo_zero N)
  generalize treesL N = T at *
  have HIs0 : Hid (ListsIn w2 ([] : List Ls) (bestTo N 0).2) := Lib.hid (by rw [HBZ.out]; exact ListsIn.nil _)
  have HO0 : Hid (w2.ownsRow w2.heap.size 28 1 (.slice none 0 0) ([] : List Ls).length (([] : List Ls).flatMap encLs)) := Lib.hid (World.ownsRow_nil w2 w2.heap.size 28 1)
  have HBr0 := Lib.hid (Below.refl w2.heap.size w2)
  clear HTl
  go_wp2
  go_loopw [4, 5, 7] (fun s4 s5 ii wr => ∃ (i : Nat) (b : Int) (Q : List Ls), i ≤ T.length ∧ ii = .int .i64 i ∧ s5 = .int .i64 b ∧ Hid (b = (bestTo N i).1) ∧ Hid (wr.ownsRow w2.heap.size 28 1 s4 Q.length (Q.flatMap encLs)) ∧ Hid (ListsIn w2 Q (bestTo N i).2) ∧ Hid (Below w2.heap.size w2 wr)) (fun _ _ ii _ => T.length - (intOf ii).toNat)
  case atStart => exact ⟨0, -1, [], by omega, rfl, rfl, Lib.hid (by rw [HBZ.out]), HO0, HIs0, HBr0⟩
  case round =>
    clear HO0 HIs0 HBr0
    obtain ⟨i, b, Q, hi, rfl, rfl, Hb, HO, HT, HBr⟩ := hrel
    obtain ⟨w6, hw6⟩ : ∃ x, x = wr := ⟨_, rfl⟩
    subst hw6
    by_cases hin : i < T.length
    · have i0 : (0 : Int) ≤ (i : Int) := by omega
      have i1 : (i : Int) < (T.length : Int) := by omega
      obtain ⟨b1, o1, G1, c1, rfl, p1w, h1w⟩ := ListsAt.at_ HT6.out hin
      have HTr := Lib.hid (HTi.out _ (List.getElem_mem hin))
      have HN1 := Lib.hid (HNx.out i hin)
      have hQ5 : Q.length ≤ 5000 := by rw [HT.out.1]; exact Nat.le_trans (HBl.out i hi) (by omega)
      rw [← Hb.out] at HN1
      have H1 := Lib.hid h1w
      have P1 := Lib.hid p1w
      have HbK := Lib.hid Hb.out
      clear h1w p1w Hb
      generalize T[i] = t at *
      have Hc := Lib.hid (fun W h1 h2 => HTree.out G1 c1 t W h1 h2 HTr.out)
      generalize costL N t = c at *
      have HBv : Hid (Below w6.heap.size w6 w6.drew) := Lib.hid ((Below.refl _ _).drew)
      have d0 : w6.drew.cell? ⟨w.heap.size, 0, none⟩ = some (.int .i64 n) := cell_below HBr.out.drew y0
      have d1 : w6.drew.cell? ⟨w.heap.size, 1, none⟩ = some (.int .i64 r) := cell_below HBr.out.drew y1
      have d2 : w6.drew.cell? ⟨w.heap.size, 2, none⟩ = some (.slice A l.length ca) := cell_below HBr.out.drew y2
      have d3 : w6.drew.cell? ⟨b1, o1 + i, none⟩ = some (.slice G1 t.length c1) := cell_below HBr.out.drew P1.out
      have HLv : Hid (StepsAt w6.drew A l) := Lib.hid (HL.out.below HBr.out.drew)
      have hI6 : IntsAt w6.drew G1 t := H1.out.below HBr.out.drew
      have HIv := Lib.hid hI6
      clear hI6
      go_upto_region 7 with fail
      refine wp_region_held_drew (S := fun W => W.cell? ⟨w.heap.size, 0, none⟩ = some (.int .i64 n) ∧ W.cell? ⟨w.heap.size, 1, none⟩ = some (.int .i64 r) ∧ W.cell? ⟨w.heap.size, 2, none⟩ = some (.slice A l.length ca) ∧ W.cell? ⟨b1, o1 + i, none⟩ = some (.slice G1 t.length c1)) (by kernel_rfl) ⟨d0, d1, d2, d3⟩ (fun hS9 => ?_)
      clear hS9
      refine wpAnyH_take (i := 0) (v := ?_) rfl (by kernel_rfl) (by kernel_rfl) (by kernel_rfl) (fun _ _ _ h => h) (Or.inl ⟨by rfl, ?_⟩) ⟨d0, d1, d2, d3⟩ ?_
      rotate_left 1
      · intro W hW; obtain ⟨s0, s1, s2, s3⟩ := hW; go_simp <;> with_reducible rfl
      refine wpAnyH_take (i := 1) (v := ?_) rfl (by kernel_rfl) (by kernel_rfl) (by kernel_rfl) (fun _ _ _ h => h) (Or.inl ⟨by rfl, ?_⟩) ⟨d0, d1, d2, d3⟩ ?_
      rotate_left 1
      · intro W hW; obtain ⟨s0, s1, s2, s3⟩ := hW; go_simp <;> with_reducible rfl
      refine wpAnyH_take (i := 2) (v := ?_) rfl (by kernel_rfl) (by kernel_rfl) (by kernel_rfl) (fun _ _ _ h => h) (Or.inl ⟨by rfl, ?_⟩) ⟨d0, d1, d2, d3⟩ ?_
      rotate_left 1
      · intro W hW; obtain ⟨s0, s1, s2, s3⟩ := hW; go_simp <;> with_reducible rfl
      refine wpAnyH_take (i := 3) (v := ?_) rfl (by kernel_rfl) (by kernel_rfl) (by kernel_rfl) (fun _ _ _ h => h) (Or.inl ⟨by rfl, ?_⟩) ⟨d0, d1, d2, d3⟩ ?_
      rotate_left 1
      · intro W hW; obtain ⟨s0, s1, s2, s3⟩ := hW; go_simp <;> with_reducible rfl
      refine wpAnyH_take (i := 4) (v := ?_) rfl (by kernel_rfl) (by kernel_rfl) (by kernel_rfl) (fun _ _ _ h => h) (Or.inl ⟨by rfl, ?_⟩) ⟨d0, d1, d2, d3⟩ ?_
      rotate_left 1
      · intro W hW; obtain ⟨s0, s1, s2, s3⟩ := hW; go_simp <;> with_reducible rfl
      simp only [Act.put, List.setIfInBounds_toArray]
      refine wpAnyH_ready (rs := [5]) (by kernel_rfl) (by simp) ?_
      refine AllReadyH.cons rfl (fun K hK => ?_) AllReadyH.nil
      go_simp
      refine (Hc.out _ HLv.out HIv.out).mono ?_
      rintro e V5 ⟨v, rfl, rfl, hb⟩
      replace HBv := Lib.hid (below_trans' HBv.out hb)
      replace HLv := Lib.hid (RowsAt.below HLv.out hb)
      replace HIv := Lib.hid (RowsAt.below HIv.out hb)
      replace d0 := cell_below hb d0
      replace d1 := cell_below hb d1
      replace d2 := cell_below hb d2
      replace d3 := cell_below hb d3
      clear hb
      refine hK.out _ _ ⟨d0, d1, d2, d3⟩ (fun _ => ?_)
      clear hK K
      refine wpAnyH_take (i := 6) (v := ?_) rfl (by kernel_rfl) (by kernel_rfl) (by kernel_rfl) (fun _ _ _ h => h) (Or.inl ⟨by rfl, ?_⟩) ⟨d0, d1, d2, d3⟩ ?_
      rotate_left 1
      · intro W hW; obtain ⟨s0, s1, s2, s3⟩ := hW; go_simp <;> with_reducible rfl
      refine wpAnyH_take (i := 7) (v := ?_) rfl (by kernel_rfl) (by kernel_rfl) (by kernel_rfl) (fun _ _ _ h => h) (Or.inl ⟨by rfl, ?_⟩) ⟨d0, d1, d2, d3⟩ ?_
      rotate_left 1
      · intro W hW; obtain ⟨s0, s1, s2, s3⟩ := hW; go_simp <;> with_reducible rfl
      refine wpAnyH_take (i := 8) (v := ?_) rfl (by kernel_rfl) (by kernel_rfl) (by kernel_rfl) (fun _ _ _ h => h) (Or.inl ⟨by rfl, ?_⟩) ⟨d0, d1, d2, d3⟩ ?_
      rotate_left 1
      · intro W hW; obtain ⟨s0, s1, s2, s3⟩ := hW; go_simp <;> with_reducible rfl
      refine wpAnyH_take (i := 9) (v := ?_) rfl (by kernel_rfl) (by kernel_rfl) (by kernel_rfl) (fun _ _ _ h => h) (Or.inl ⟨by rfl, ?_⟩) ⟨d0, d1, d2, d3⟩ ?_
      rotate_left 1
      · intro W hW; obtain ⟨s0, s1, s2, s3⟩ := hW; go_simp <;> with_reducible rfl
      refine wpAnyH_take (i := 10) (v := ?_) rfl (by kernel_rfl) (by kernel_rfl) (by kernel_rfl) (fun _ _ _ h => h) (Or.inl ⟨by rfl, ?_⟩) ⟨d0, d1, d2, d3⟩ ?_
      rotate_left 1
      · intro W hW; obtain ⟨s0, s1, s2, s3⟩ := hW; go_simp <;> with_reducible rfl
      simp only [Act.put, List.setIfInBounds_toArray]
      refine wpAnyH_done (by kernel_rfl) ?_ _
      replace HBr := Lib.hid (below_trans' HBr.out HBv.out)
      replace HO := Lib.hid (own_below' HO.out HBv.out)
      clear HBv HLv HIv d0 d1 d2 Hc HTr
      by_cases hb0 : b < 0
      · have hlt : b < 0 ∨ c < b := .inl hb0
        have e0 : decide (b < 0) = true := by simpa using hb0
        clear hb0
        have HY : Hid (bestTo N (i + 1) = (c, [t])) := Lib.hid (by rw [HN1.out, if_pos hlt])
        have HTn := Lib.hid ((ListsIn.nil w2).snoc (q := (G1, t.length, c1)) (x := t) rfl H1.out)
        clear hlt HN1 HT HO
        have HO : Hid (V5.ownsRow w2.heap.size 28 1 (.slice none 0 0) ([] : List Ls).length (([] : List Ls).flatMap encLs)) := Lib.hid (World.ownsRow_nil V5 w2.heap.size 28 1)
        have hbk := heap_alloc_new V5 (.cells #[.slice G1 t.length c1] 28)
        have HOA := Lib.hid (HO.out.alloc (.cells #[.slice G1 t.length c1] 28))
        have hr6 := own_base HO.out
        have hsw := HBr.out.size
        go_wp2_with (at_builtin; refine wpList_push _ rfl (.tmp 38) (.tmp 43) 33 rfl elemLs encLs_len oneLs Tryz.underlying33 w2.heap.size _ ([] : List Ls) rfl HOA.out (by simp) (G1, t.length, c1) V5.heap.size (by rfl) _ rfl _ _ hbk (by rw [World.size_alloc]; omega) ?_; intro g2 cap w7 hO7 hg7)
        have HB7 := Lib.hid ((below_alloc' HBr.out (.cells #[.slice G1 t.length c1] 28)).grown hg7 (by rw [World.size_alloc]; omega) (fun r e => hr6 r e))
        have HO7 := Lib.hid hO7
        clear hO7 hg7 hr6 HO HOA hbk HBr
        go_roundw
        case rel => exact ⟨i + 1, c, [(G1, t.length, c1)], by omega, by go_num, rfl, Lib.hid (by rw [HY.out]), HO7, Lib.hid (by rw [HY.out]; exact HTn.out), HB7⟩
        case measure => simp [intOf]; omega
      have e0 : decide (b < 0) = false := by simpa using hb0
      by_cases hcb : c < b
      · have hlt : b < 0 ∨ c < b := .inr hcb
        have e1 : decide (c < b) = true := by simpa using hcb
        clear hcb hb0
        have HY : Hid (bestTo N (i + 1) = (c, [t])) := Lib.hid (by rw [HN1.out, if_pos hlt])
        have HTn := Lib.hid ((ListsIn.nil w2).snoc (q := (G1, t.length, c1)) (x := t) rfl H1.out)
        clear hlt HN1 HT HO
        have HO : Hid (V5.ownsRow w2.heap.size 28 1 (.slice none 0 0) ([] : List Ls).length (([] : List Ls).flatMap encLs)) := Lib.hid (World.ownsRow_nil V5 w2.heap.size 28 1)
        have hbk := heap_alloc_new V5 (.cells #[.slice G1 t.length c1] 28)
        have HOA := Lib.hid (HO.out.alloc (.cells #[.slice G1 t.length c1] 28))
        have hr6 := own_base HO.out
        have hsw := HBr.out.size
        go_wp2_with (at_builtin; refine wpList_push _ rfl (.tmp 38) (.tmp 43) 33 rfl elemLs encLs_len oneLs Tryz.underlying33 w2.heap.size _ ([] : List Ls) rfl HOA.out (by simp) (G1, t.length, c1) V5.heap.size (by rfl) _ rfl _ _ hbk (by rw [World.size_alloc]; omega) ?_; intro g2 cap w7 hO7 hg7)
        have HB7 := Lib.hid ((below_alloc' HBr.out (.cells #[.slice G1 t.length c1] 28)).grown hg7 (by rw [World.size_alloc]; omega) (fun r e => hr6 r e))
        have HO7 := Lib.hid hO7
        clear hO7 hg7 hr6 HO HOA hbk HBr
        go_roundw
        case rel => exact ⟨i + 1, c, [(G1, t.length, c1)], by omega, by go_num, rfl, Lib.hid (by rw [HY.out]), HO7, Lib.hid (by rw [HY.out]; exact HTn.out), HB7⟩
        case measure => simp [intOf]; omega
      have e1 : decide (c < b) = false := by simpa using hcb
      have hge : ¬ (b < 0 ∨ c < b) := by omega
      rw [if_neg hge] at HN1
      clear hge
      by_cases hce : c = b
      · rw [if_pos hce] at HN1
        have HTn := Lib.hid (HT.out.snoc (q := (G1, t.length, c1)) (x := t) rfl H1.out)
        have e2 : (c == b) = true := by simpa using hce
        have Hce := Lib.hid hce
        clear hce hcb hb0 HT
        have hbk := heap_alloc_new V5 (.cells #[.slice G1 t.length c1] 28)
        have HOA := Lib.hid (HO.out.alloc (.cells #[.slice G1 t.length c1] 28))
        have hr6 := own_base HO.out
        have hsw := HBr.out.size
        go_wp2_with (at_builtin; refine wpList_push _ rfl (.tmp 38) (.tmp 43) 33 rfl elemLs encLs_len oneLs Tryz.underlying33 w2.heap.size _ Q rfl HOA.out (by omega) (G1, t.length, c1) V5.heap.size (by rfl) _ rfl _ _ hbk (by rw [World.size_alloc]; omega) ?_; intro g2 cap w7 hO7 hg7)
        have HB7 := Lib.hid ((below_alloc' HBr.out (.cells #[.slice G1 t.length c1] 28)).grown hg7 (by rw [World.size_alloc]; omega) (fun r e => hr6 r e))
        have HO7 := Lib.hid hO7
        clear hO7 hg7 hr6 HO HOA hbk HBr
        go_roundw
        case rel => exact ⟨i + 1, b, Q ++ [(G1, t.length, c1)], by omega, by go_num, rfl, Lib.hid (by rw [HN1.out]), by rw [len_snoc]; exact HO7, Lib.hid (by rw [HN1.out]; exact HTn.out), HB7⟩
        case measure => simp [intOf]; omega
      · rw [if_neg hce] at HN1
        have e2 : (c == b) = false := by simpa using hce
        clear hce hcb hb0 d3
        go_wp2
        go_roundw
        case rel => exact ⟨i + 1, b, Q, by omega, by go_num, rfl, Lib.hid (by rw [HN1.out]; exact HbK.out), HO, Lib.hid (by rw [HN1.out]; exact HT.out), HBr⟩
        case measure => simp [intOf]; omega
    obtain rfl : i = T.length := by omega
    rw [HBA.out] at HT Hb
    obtain ⟨G9, c9, hv9, _⟩ := own_form HO.out
    subst hv9
    have HR : Hid (ListsAt w6 G9 (bestL N).2) := Lib.hid ⟨Q, RowsAt.of_own encLs_len HO.out, HT.out.below HBr.out⟩
    have HQ : Hid (Q.length = (bestL N).2.length) := Lib.hid HT.out.1
    have HBn := Lib.hid (below_trans' HB2.out HBr.out)
    clear HO HT HBA HBZ
    rw [HQ.out, Hb.out]
    go_wp2
    go_ret2
    exact Ret.mk ⟨⟨G9, c9, rfl, HR.out⟩, HBn.out⟩
set_option maxRecDepth 100000 in
set_option maxHeartbeats 8000000 in
theorem rMost_any (S R : Int) (A : Option Addr) (ca : Nat) (l : List St) (w : World) (hl : StepsAt w A l) (hn : l.length ≤ 100000) :
    Calls Tryz.prog 13 #[vBook S R A l.length ca] w (Ret fun u w' => (∃ m e, u = .tuple #[.int .i64 m, .int .i64 e] ∧ MostQ S R l m e) ∧ Below w.heap.size w w') := by
  have HL := Lib.hid hl; clear hl
  have HPl : Hid (∀ W, StepsAt W A l → Calls Tryz.prog 9 #[vBook S R A l.length ca] W (Ret fun v w' => v = .int .i64 (planE S R l) ∧ Below W.heap.size W w')) := Lib.hid fun W h => rPlan_any S R A ca l W h hn
  have HCo : Hid (BookOk S R l → ∀ (x : Int) W, StepsAt W A l → Calls Tryz.prog 37 #[vBook S R A l.length ca, .int .i64 x] W (Ret fun v w' => (∃ g, v = .slice (some ⟨g, 0, none⟩) (comesL S R l x).length (comesL S R l x).length ∧ IntsAt w' (some ⟨g, 0, none⟩) (comesL S R l x)) ∧ Below W.heap.size W w')) := Lib.hid fun hok x W h => rcomes_any S R A ca l x W h hok
  unfold vBook at HPl HCo ⊢
  have hX := heap_alloc_new w (.cells #[.int .i64 S, .int .i64 R, .slice A l.length ca] 24)
  have hb := below_alloc' (Below.refl w.heap.size w) (.cells #[.int .i64 S, .int .i64 R, .slice A l.length ca] 24)
  have y0 := (blk_cell (i := 0) hX).trans rfl
  have y1 := (blk_cell (i := 1) hX).trans rfl
  have y2 := (blk_cell (i := 2) hX).trans rfl
  go_enter Tryz.func13, Tryz.ntmps13
  go_upto_region 1 with fail
  have HB1 := Lib.hid hb
  replace HL := Lib.hid (HL.out.below hb)
  clear hb hX
  generalize w.alloc (.cells #[.int .i64 S, .int .i64 R, .slice A l.length ca] 24) = w1 at *
  obtain ⟨p, hp⟩ : ∃ p, planE S R l = p := ⟨_, rfl⟩
  rw [hp] at HPl
  have HPe := Lib.hid hp
  clear hp
  have Hc := Lib.hid (HPl.out w1 HL.out)
  go_wp2_with fail
  refine Hc.out.mono ?_
  rintro e w2 ⟨v, rfl, rfl, hb⟩
  have HB2 := Lib.hid (below_trans' HB1.out hb)
  replace HL := Lib.hid (HL.out.below hb)
  replace y0 := cell_below hb y0
  replace y1 := cell_below hb y1
  replace y2 := cell_below hb y2
  clear hb Hc HB1
  by_cases hp0 : p = 0
  rotate_left 1
  · have dp : (p != 0) = true := by simpa using hp0
    have HQ : Hid (MostQ S R l 0 p) := Lib.hid (by
      by_cases he : bookErr S R l = 0
      · by_cases hf : Full (netB S R l) (allS (netB S R l))
        · exact absurd (HPe.out.symm.trans (planE_iff.2 ⟨bookErr_iff.1 he, hf⟩)) hp0
        · exact .inr (.inl ⟨he, hf, rfl, by rw [← HPe.out]; unfold planE; rw [if_neg (by simp [he]), if_neg hf]⟩)
      · exact .inl ⟨he, rfl, by rw [← HPe.out]; unfold planE; rw [if_pos he]⟩)
    clear hp0
    have Hc := Lib.hid (HPl.out w2 HL.out)
    go_wp2_with fail
    refine Hc.out.mono ?_
    rintro e w3 ⟨v, rfl, rfl, hb⟩
    have HB3 := Lib.hid (below_trans' HB2.out hb)
    replace HL := Lib.hid (HL.out.below hb)
    replace y0 := cell_below hb y0
    replace y1 := cell_below hb y1
    replace y2 := cell_below hb y2
    clear hb Hc HB2
    go_wp2
    go_ret2
    exact Ret.mk ⟨⟨0, p, rfl, HQ.out⟩, HB3.out⟩
  subst hp0
  obtain ⟨hok, hf⟩ := planE_iff.1 HPe.out
  have HK := Lib.hid hok
  have HF := Lib.hid hf
  have hmany := hok.many
  clear hok hf HPl HPe
  have HCk : Hid (∀ (x : Int) W, StepsAt W A l → _) := Lib.hid (HCo.out HK.out)
  clear HCo
  have HBr0 := Lib.hid (Below.refl w2.heap.size w2)
  have HM0 := Lib.hid (MostI.start (netB S R l))
  go_wp2
  go_loopw [4, 5] (fun s4 ii wr => ∃ (k : Nat) (z b : Int), k ≤ l.length + 1 ∧ Hid (z = (k : Int) - 1) ∧ ii = .int .i64 z ∧ s4 = .int .i64 b ∧ Hid (MostI (netB S R l) k b) ∧ Hid (Below w2.heap.size w2 wr)) (fun _ ii _ => (l.length - intOf ii).toNat)
  case atStart => exact ⟨0, -1, 1000000, by omega, Lib.hid (by omega), rfl, rfl, HM0, HBr0⟩
  case round =>
    clear HM0 HBr0
    obtain ⟨k, z, b, hk, Hz, rfl, rfl, HM, HBr⟩ := hrel
    obtain ⟨w6, hw6⟩ : ∃ x, x = wr := ⟨_, rfl⟩
    subst hw6
    have HB6 := Lib.hid HBr.out
    replace y0 := cell_below HBr.out y0
    replace y1 := cell_below HBr.out y1
    replace y2 := cell_below HBr.out y2
    replace HL := Lib.hid (HL.out.below HBr.out)
    by_cases hkn : k ≤ l.length
    · by_cases hk0 : k = 0
      · obtain rfl : z = -1 := by have := Hz.out; omega
        obtain ⟨x, HX, hx⟩ : ∃ x : Int, Hid (sizeAt (netB S R l) k = x) ∧ x = 0 := ⟨0, Lib.hid (by rw [hk0]; rfl), rfl⟩
        subst hx
        have hl0 : decide ((-1 : Int) < (l.length : Int)) = true := by simp; omega
        clear Hz
        have HCx := Lib.hid (HCk.out 0)
        have HZ := Lib.hid (comesL_zero (S := S) (R := R) (l := l) (k := 0))
        have hcl := comesL_len S R l 0
        have hcl2 : (comesL S R l 0).length ≤ 100000 := by
          have h1 := HK.out.dim
          omega
        clear hcl
        generalize comesL S R l 0 = C at HCx HZ hcl2
        have Hc := Lib.hid (HCx.out w6 HL.out)
        go_wp2_with fail
        refine Hc.out.mono ?_
        rintro e w7 ⟨v, rfl, ⟨gC, rfl, hC⟩, hb⟩
        have HB7 := Lib.hid (below_trans' HB6.out hb)
        replace HL := Lib.hid (HL.out.below hb)
        replace y0 := cell_below hb y0
        replace y1 := cell_below hb y1
        replace y2 := cell_below hb y2
        clear hb Hc HB6
        have HC := Lib.hid hC
        clear hC HCx
        have Hc := Lib.hid (in_below (some ⟨gC, 0, none⟩) C.length C 0 w7 HC.out hcl2)
        go_wp2_with fail
        refine Hc.out.mono ?_
        rintro e w8 ⟨v, rfl, rfl, hb⟩
        have HB8 := Lib.hid (below_trans' HB7.out hb)
        replace HL := Lib.hid (HL.out.below hb)
        replace HC := Lib.hid (HC.out.below hb)
        replace y0 := cell_below hb y0
        replace y1 := cell_below hb y1
        replace y2 := cell_below hb y2
        clear hb Hc HB7
        obtain ⟨q, hq⟩ : ∃ q, C.contains 0 = q := ⟨_, rfl⟩
        rw [hq]
        have HZ2 : Hid (q = true ↔ ¬ Full (netB S R l) (atMost (netB S R l) 0)) := Lib.hid (by rw [← hq]; exact HZ.out)
        clear hq HZ hcl2 HC
        cases q
        · have HMn : Hid (MostI (netB S R l) (k + 1) (min b 0)) := Lib.hid (by
            have hF : Full (netB S R l) (atMost (netB S R l) 0) := Classical.byContradiction fun h => by have := HZ2.out.2 h; cases this
            have := HM.out.hit HK.out.net hkn (by rw [HX.out]; exact hF)
            rw [HX.out] at this
            exact this)
          have HBn := Lib.hid HB8.out
          clear HM HZ2
          go_wp2
          go_roundw
          case rel => exact ⟨k + 1, 0, min b 0, by omega, Lib.hid (by omega), by rfl, rfl, HMn, HBn⟩
          case measure => simp [intOf]
        · have HMn : Hid (MostI (netB S R l) (k + 1) b) := Lib.hid (HM.out.miss (by rw [HX.out]; exact HZ2.out.1 rfl))
          have HBn := Lib.hid HB8.out
          clear HM HZ2
          go_wp2
          go_roundw
          case rel => exact ⟨k + 1, 0, b, by omega, Lib.hid (by omega), by rfl, rfl, HMn, HBn⟩
          case measure => simp [intOf]
      · obtain ⟨j, rfl⟩ : ∃ j, k = j + 1 := ⟨k - 1, by omega⟩
        obtain rfl : z = (j : Int) := by have := Hz.out; omega
        have hjl : j < l.length := by omega
        have HX0 : Hid (sizeAt (netB S R l) (j + 1) = l[j].2.2) := Lib.hid (by unfold sizeAt; rw [if_neg (by omega)]; show (stAt l (j + 1 - 1)).2.2 = _; rw [Nat.add_sub_cancel, stAt_eq hjl])
        obtain ⟨bb, off, rfl, g1, g2, g3⟩ := StepsAt.at_ HL.out hjl
        generalize l[j].2.2 = x at g3 HX0
        have HX := Lib.hid HX0.out
        have j0 : (0 : Int) ≤ (j : Int) := by omega
        have j1 : (j : Int) < (l.length : Int) := by omega
        clear Hz HX0 g1 g2 hk0
        have HCx := Lib.hid (HCk.out x)
        have HZ := Lib.hid (comesL_zero (S := S) (R := R) (l := l) (k := x))
        have hcl := comesL_len S R l x
        have hcl2 : (comesL S R l x).length ≤ 100000 := by
          have h1 := HK.out.dim
          omega
        clear hcl
        generalize comesL S R l x = C at HCx HZ hcl2
        have Hc := Lib.hid (HCx.out w6 HL.out)
        go_wp2_with fail
        refine Hc.out.mono ?_
        rintro e w7 ⟨v, rfl, ⟨gC, rfl, hC⟩, hb⟩
        have HB7 := Lib.hid (below_trans' HB6.out hb)
        replace HL := Lib.hid (HL.out.below hb)
        replace y0 := cell_below hb y0
        replace y1 := cell_below hb y1
        replace y2 := cell_below hb y2
        clear hb Hc HB6
        have HC := Lib.hid hC
        clear hC HCx
        have Hc := Lib.hid (in_below (some ⟨gC, 0, none⟩) C.length C 0 w7 HC.out hcl2)
        go_wp2_with fail
        refine Hc.out.mono ?_
        rintro e w8 ⟨v, rfl, rfl, hb⟩
        have HB8 := Lib.hid (below_trans' HB7.out hb)
        replace HL := Lib.hid (HL.out.below hb)
        replace HC := Lib.hid (HC.out.below hb)
        replace y0 := cell_below hb y0
        replace y1 := cell_below hb y1
        replace y2 := cell_below hb y2
        clear hb Hc HB7
        obtain ⟨q, hq⟩ : ∃ q, C.contains 0 = q := ⟨_, rfl⟩
        rw [hq]
        have HZ2 : Hid (q = true ↔ ¬ Full (netB S R l) (atMost (netB S R l) x)) := Lib.hid (by rw [← hq]; exact HZ.out)
        clear hq HZ hcl2 HC
        cases q
        · have HMn : Hid (MostI (netB S R l) (j + 1 + 1) (min b x)) := Lib.hid (by
            have hF : Full (netB S R l) (atMost (netB S R l) x) := Classical.byContradiction fun h => by have := HZ2.out.2 h; cases this
            have := HM.out.hit HK.out.net hkn (by rw [HX.out]; exact hF)
            rw [HX.out] at this
            exact this)
          have HBn := Lib.hid HB8.out
          clear HM HZ2
          go_wp2
          go_roundw
          case rel => exact ⟨j + 1 + 1, (j : Int) + 1, min b x, by omega, Lib.hid (by omega), by go_num, rfl, HMn, HBn⟩
          case measure => simp [intOf]; omega
        · have HMn : Hid (MostI (netB S R l) (j + 1 + 1) b) := Lib.hid (HM.out.miss (by rw [HX.out]; exact HZ2.out.1 rfl))
          have HBn := Lib.hid HB8.out
          clear HM HZ2
          go_wp2
          go_roundw
          case rel => exact ⟨j + 1 + 1, (j : Int) + 1, b, by omega, Lib.hid (by omega), by go_num, rfl, HMn, HBn⟩
          case measure => simp [intOf]; omega
    obtain rfl : k = l.length + 1 := by omega
    obtain rfl : z = (l.length : Int) := by have := Hz.out; omega
    have HQ : Hid (MostQ S R l b 0) := Lib.hid (.inr (.inr ⟨bookErr_iff.2 HK.out, HM.out.done HK.out HF.out, rfl⟩))
    clear HM Hz
    go_wp2
    go_ret2
    exact Ret.mk ⟨⟨b, 0, rfl, HQ.out⟩, below_trans' HB2.out HBr.out⟩
set_option maxRecDepth 100000 in
set_option maxHeartbeats 8000000 in
theorem rGrades_any (S R : Int) (A : Option Addr) (ca : Nat) (l : List St) (w : World) (hl : StepsAt w A l) (hok : BookOk S R l) (hf : Full (netB S R l) (allS (netB S R l))) (hfew : ∀ k, k ≤ S.toNat → (prodL (netB S R l) k).length ≤ 5000) :
    Calls Tryz.prog 15 #[vBook S R A l.length ca] w (Ret fun u w' => (∃ G c, u = .tuple #[.slice G (gradesTo (netB S R l) l.length).length c, .int .i64 0] ∧ IntsAt w' G (gradesTo (netB S R l) l.length)) ∧ Below w.heap.size w w') := by
  have HL := Lib.hid hl; clear hl
  have hmany := hok.many
  have hdim := hok.dim
  have hroot := hok.root
  have HK := Lib.hid hok; clear hok
  have HF := Lib.hid hf; clear hf
  have HFew := Lib.hid hfew; clear hfew
  obtain ⟨n, rfl⟩ := Int.eq_ofNat_of_zero_le (by omega : 0 ≤ S)
  obtain ⟨r, rfl⟩ := Int.eq_ofNat_of_zero_le hroot.1
  have hn16 : n ≤ 16 := by omega
  have hrn : r < n := by omega
  have HPl : Hid (∀ W, StepsAt W A l → Calls Tryz.prog 9 #[vBook (n : Int) (r : Int) A l.length ca] W (Ret fun v w' => v = .int .i64 0 ∧ Below W.heap.size W w')) := Lib.hid fun W h => by
    have k := rPlan_any (n : Int) (r : Int) A ca l W h (by omega)
    rw [planE_iff.2 ⟨HK.out, HF.out⟩] at k
    exact k
  have HBs : Hid (∀ W, StepsAt W A l → Calls Tryz.prog 10 #[vBook (n : Int) (r : Int) A l.length ca] W (Ret fun u w' => (∃ G c, u = .tuple #[.slice G (bestL (netB (n : Int) (r : Int) l)).2.length c, .int .i64 (bestL (netB (n : Int) (r : Int) l)).1] ∧ ListsAt w' G (bestL (netB (n : Int) (r : Int) l)).2) ∧ Below W.heap.size W w')) := Lib.hid fun W h => rBest_any (n : Int) (r : Int) A ca l W h HK.out HF.out HFew.out
  have hbl : (bestL (netB (n : Int) (r : Int) l)).2.length ≤ 5000 := by
    have h1 := bestTo_len (netB (n : Int) (r : Int) l) _ (Nat.le_refl _)
    rw [bestTo_all] at h1
    exact Nat.le_trans h1 (Nat.le_trans (treesL_len _) (HFew.out n (by simp)))
  have HBm : Hid (∀ t ∈ (bestL (netB (n : Int) (r : Int) l)).2, t.length = n) := Lib.hid fun t ht => by
    rw [← bestTo_all] at ht
    exact (bestTo_mem _ _ (Nat.le_refl _) t ht).1
  have HTo : Hid (∀ j, j < l.length → ∃ q : Nat, q < n ∧ (stAt l j).2.1 = (q : Int) ∧ (netB (n : Int) (r : Int) l).to j = q) := Lib.hid fun j hj => by
    have h := (HK.out.at_ hj).2.1
    obtain ⟨q, hq⟩ := Int.eq_ofNat_of_zero_le h.1
    exact ⟨q, by omega, hq, by show (stAt l j).2.1.toNat = q; omega⟩
  clear HFew
  obtain ⟨N, hN⟩ : ∃ N, N = netB (n : Int) (r : Int) l := ⟨_, rfl⟩
  rw [← hN] at HBs HBm HTo hbl ⊢
  have HNe := Lib.hid hN
  clear hN
  unfold vBook at HPl HBs ⊢
  have hX := heap_alloc_new w (.cells #[.int .i64 n, .int .i64 r, .slice A l.length ca] 24)
  have hb := below_alloc' (Below.refl w.heap.size w) (.cells #[.int .i64 n, .int .i64 r, .slice A l.length ca] 24)
  have y0 := (blk_cell (i := 0) hX).trans rfl
  have y1 := (blk_cell (i := 1) hX).trans rfl
  have y2 := (blk_cell (i := 2) hX).trans rfl
  go_enter Tryz.func15, Tryz.ntmps15
  go_upto_region 1 with fail
  have HB1 := Lib.hid hb
  replace HL := Lib.hid (HL.out.below hb)
  clear hb hX
  generalize w.alloc (.cells #[.int .i64 n, .int .i64 r, .slice A l.length ca] 24) = w1 at *
  clear hdim hroot
  have Hc := Lib.hid (HPl.out w1 HL.out)
  go_wp2_with fail
  refine Hc.out.mono ?_
  rintro e w2 ⟨v, rfl, rfl, hb⟩
  have HB2 := Lib.hid (below_trans' HB1.out hb)
  replace HL := Lib.hid (HL.out.below hb)
  replace y0 := cell_below hb y0
  replace y1 := cell_below hb y1
  replace y2 := cell_below hb y2
  clear hb Hc HB1
  have Hc := Lib.hid (HBs.out w2 HL.out)
  go_wp2_with fail
  refine Hc.out.mono ?_
  rintro e w3 ⟨v, rfl, ⟨G4, c4, rfl, hT⟩, hb⟩
  have HB3 := Lib.hid (below_trans' HB2.out hb)
  replace HL := Lib.hid (HL.out.below hb)
  replace y0 := cell_below hb y0
  replace y1 := cell_below hb y1
  replace y2 := cell_below hb y2
  clear hb Hc HB2
  have HT4 := Lib.hid hT
  clear hT HBs HPl
  have HO0 : Hid (w3.ownsRow w3.heap.size 3 1 (.slice none 0 0) (gradesTo N 0).length ((gradesTo N 0).flatMap encI)) := Lib.hid (World.ownsRow_nil w3 w3.heap.size 3 1)
  have HBr0 := Lib.hid (Below.refl w3.heap.size w3)
  have HGl : Hid (∀ j, (gradesTo N j).length = j) := Lib.hid fun j => gradesTo_len N j
  have HGn : Hid (∀ j, gradesTo N (j + 1) = gradesTo N j ++ [gradeL (manyTo N j (bestL N).2.length) (bestL N).2.length]) := Lib.hid fun j => by rw [manyTo_all]; exact gradesTo_next N j
  have HMh : Hid (∀ j i (h : i < (bestL N).2.length), (bestL N).2[i].getD (N.to j) 0 = (j : Int) → manyTo N j (i + 1) = manyTo N j i + 1) := Lib.hid fun j i h k => manyTo_hit h k
  have HMm : Hid (∀ j i (h : i < (bestL N).2.length), (bestL N).2[i].getD (N.to j) 0 ≠ (j : Int) → manyTo N j (i + 1) = manyTo N j i) := Lib.hid fun j i h k => manyTo_miss h k
  have HMz : Hid (∀ j, manyTo N j 0 = 0) := Lib.hid fun j => manyTo_zero N j
  have HMl : Hid (∀ j i, manyTo N j i ≤ i) := Lib.hid fun j i => manyTo_le N j i
  generalize (bestL N).2 = T at *
  generalize (bestL N).1 = bv at *
  go_wp2
  go_loopw [6, 7] (fun s6 ii wr => ∃ j : Nat, j ≤ l.length ∧ ii = .int .i64 j ∧ Hid (wr.ownsRow w3.heap.size 3 1 s6 (gradesTo N j).length ((gradesTo N j).flatMap encI)) ∧ Hid (Below w3.heap.size w3 wr)) (fun _ ii _ => l.length - (intOf ii).toNat)
  case atStart => exact ⟨0, by omega, rfl, HO0, HBr0⟩
  case round =>
    clear HO0 HBr0
    obtain ⟨j, hj, rfl, HO, HBr⟩ := hrel
    obtain ⟨w6, hw6⟩ : ∃ x, x = wr := ⟨_, rfl⟩
    subst hw6
    replace y0 := cell_below HBr.out y0
    replace y1 := cell_below HBr.out y1
    replace y2 := cell_below HBr.out y2
    by_cases hjn : j < l.length
    · have j0 : (0 : Int) ≤ (j : Int) := by omega
      have j1 : (j : Int) < (l.length : Int) := by omega
      obtain ⟨q, hqn, hq1, hq2⟩ := HTo.out j hjn
      rw [stAt_eq hjn] at hq1
      obtain ⟨bb, off, rfl, _, g2, _⟩ := StepsAt.at_ (HL.out.below HBr.out) hjn
      rw [hq1] at g2
      clear hq1
      have HMh2 := Lib.hid (HMh.out j)
      have HMm2 := Lib.hid (HMm.out j)
      rw [hq2] at HMh2 HMm2
      clear hq2
      have HBi0 := Lib.hid (Below.refl w6.heap.size w6)
      have HG1 := Lib.hid (HGn.out j)
      have HG2 := Lib.hid (HGl.out j)
      go_wp2
      go_loopw [8, 9] (fun s8 ii wr => ∃ i : Nat, i ≤ T.length ∧ ii = .int .i64 i ∧ s8 = .int .i64 (manyTo N j i) ∧ Hid (Below w6.heap.size w6 wr)) (fun _ ii _ => T.length - (intOf ii).toNat)
      case atStart => exact ⟨0, by omega, rfl, by rw [HMz.out]; rfl, HBi0⟩
      case round =>
        clear HBi0
        obtain ⟨i, hi, rfl, rfl, HBi⟩ := hrel
        obtain ⟨w7, hw7⟩ : ∃ x, x = wr := ⟨_, rfl⟩
        subst hw7
        have hml := HMl.out j i
        replace y2 := cell_below HBi.out y2
        replace g2 := cell_below HBi.out g2
        by_cases hin : i < T.length
        · have i0 : (0 : Int) ≤ (i : Int) := by omega
          have i1 : (i : Int) < (T.length : Int) := by omega
          obtain ⟨b1, o1, G1, c1, rfl, p1w, h1w⟩ := ListsAt.at_ (HT4.out.below (below_trans' HBr.out HBi.out)) hin
          have htl : T[i].length = n := HBm.out _ (List.getElem_mem hin)
          have HH := Lib.hid (HMh2.out i hin)
          have HM := Lib.hid (HMm2.out i hin)
          have p1 := p1w
          obtain ⟨b2, o2, rfl, p2⟩ := IntsAt.at_ h1w (i := q) (by omega)
          have HE : Hid (T[i].getD q 0 = T[i][q]) := Lib.hid (getD_at (by omega))
          rw [HE.out] at HH HM
          generalize T[i][q] = x at p2 HH HM HE
          clear HE h1w p1w
          rw [htl] at p1
          have q0 : (0 : Int) ≤ (q : Int) := by omega
          have q1 : (q : Int) < (n : Int) := by omega
          clear htl
          generalize manyTo N j i = m at HH HM hml
          go_upto_region 12 with fail
          refine wp_region_held_drew (S := fun W => W.cell? ⟨w.heap.size, 2, none⟩ = some (.slice (some ⟨bb, off, none⟩) l.length ca) ∧ W.cell? ⟨b1, o1 + i, none⟩ = some (.slice (some ⟨b2, o2, none⟩) n c1) ∧ W.cell? ⟨bb, off + j * 3 + 1, none⟩ = some (.int .i64 q) ∧ W.cell? ⟨b2, o2 + q, none⟩ = some (.int .i64 x)) (by kernel_rfl) ⟨y2, p1, g2, p2⟩ (fun hS9 => ?_)
          clear hS9
          refine wpAnyH_take (i := 0) (v := ?_) rfl (by kernel_rfl) (by kernel_rfl) (by kernel_rfl) (fun _ _ _ h => h) (Or.inl ⟨by rfl, ?_⟩) ⟨y2, p1, g2, p2⟩ ?_
          rotate_left 1
          · intro W hW; obtain ⟨s0, s1, s2, s3⟩ := hW; go_simp <;> with_reducible rfl
          refine wpAnyH_take (i := 1) (v := ?_) rfl (by kernel_rfl) (by kernel_rfl) (by kernel_rfl) (fun _ _ _ h => h) (Or.inl ⟨by rfl, ?_⟩) ⟨y2, p1, g2, p2⟩ ?_
          rotate_left 1
          · intro W hW; obtain ⟨s0, s1, s2, s3⟩ := hW; go_simp <;> with_reducible rfl
          refine wpAnyH_take (i := 2) (v := ?_) rfl (by kernel_rfl) (by kernel_rfl) (by kernel_rfl) (fun _ _ _ h => h) (Or.inl ⟨by rfl, ?_⟩) ⟨y2, p1, g2, p2⟩ ?_
          rotate_left 1
          · intro W hW; obtain ⟨s0, s1, s2, s3⟩ := hW; go_simp <;> with_reducible rfl
          refine wpAnyH_take (i := 3) (v := ?_) rfl (by kernel_rfl) (by kernel_rfl) (by kernel_rfl) (fun _ _ _ h => h) (Or.inl ⟨by rfl, ?_⟩) ⟨y2, p1, g2, p2⟩ ?_
          rotate_left 1
          · intro W hW; obtain ⟨s0, s1, s2, s3⟩ := hW; go_simp <;> with_reducible rfl
          refine wpAnyH_take (i := 4) (v := ?_) rfl (by kernel_rfl) (by kernel_rfl) (by kernel_rfl) (fun _ _ _ h => h) (Or.inl ⟨by rfl, ?_⟩) ⟨y2, p1, g2, p2⟩ ?_
          rotate_left 1
          · intro W hW; obtain ⟨s0, s1, s2, s3⟩ := hW; go_simp <;> with_reducible rfl
          refine wpAnyH_take (i := 5) (v := ?_) rfl (by kernel_rfl) (by kernel_rfl) (by kernel_rfl) (fun _ _ _ h => h) (Or.inl ⟨by rfl, ?_⟩) ⟨y2, p1, g2, p2⟩ ?_
          rotate_left 1
          · intro W hW; obtain ⟨s0, s1, s2, s3⟩ := hW; go_simp <;> with_reducible rfl
          refine wpAnyH_take (i := 6) (v := ?_) rfl (by kernel_rfl) (by kernel_rfl) (by kernel_rfl) (fun _ _ _ h => h) (Or.inl ⟨by rfl, ?_⟩) ⟨y2, p1, g2, p2⟩ ?_
          rotate_left 1
          · intro W hW; obtain ⟨s0, s1, s2, s3⟩ := hW; go_simp <;> with_reducible rfl
          refine wpAnyH_take (i := 7) (v := ?_) rfl (by kernel_rfl) (by kernel_rfl) (by kernel_rfl) (fun _ _ _ h => h) (Or.inl ⟨by rfl, ?_⟩) ⟨y2, p1, g2, p2⟩ ?_
          rotate_left 1
          · intro W hW; obtain ⟨s0, s1, s2, s3⟩ := hW; go_simp <;> with_reducible rfl
          refine wpAnyH_take (i := 8) (v := ?_) rfl (by kernel_rfl) (by kernel_rfl) (by kernel_rfl) (fun _ _ _ h => h) (Or.inl ⟨by rfl, ?_⟩) ⟨y2, p1, g2, p2⟩ ?_
          rotate_left 1
          · intro W hW; obtain ⟨s0, s1, s2, s3⟩ := hW; go_simp <;> with_reducible rfl
          refine wpAnyH_take (i := 9) (v := ?_) rfl (by kernel_rfl) (by kernel_rfl) (by kernel_rfl) (fun _ _ _ h => h) (Or.inl ⟨by rfl, ?_⟩) ⟨y2, p1, g2, p2⟩ ?_
          rotate_left 1
          · intro W hW; obtain ⟨s0, s1, s2, s3⟩ := hW; go_simp <;> with_reducible rfl
          refine wpAnyH_take (i := 10) (v := ?_) rfl (by kernel_rfl) (by kernel_rfl) (by kernel_rfl) (fun _ _ _ h => h) (Or.inl ⟨by rfl, ?_⟩) ⟨y2, p1, g2, p2⟩ ?_
          rotate_left 1
          · intro W hW; obtain ⟨s0, s1, s2, s3⟩ := hW; go_simp <;> with_reducible rfl
          refine wpAnyH_take (i := 11) (v := ?_) rfl (by kernel_rfl) (by kernel_rfl) (by kernel_rfl) (fun _ _ _ h => h) (Or.inl ⟨by rfl, ?_⟩) ⟨y2, p1, g2, p2⟩ ?_
          rotate_left 1
          · intro W hW; obtain ⟨s0, s1, s2, s3⟩ := hW; go_simp <;> with_reducible rfl
          refine wpAnyH_take (i := 12) (v := ?_) rfl (by kernel_rfl) (by kernel_rfl) (by kernel_rfl) (fun _ _ _ h => h) (Or.inl ⟨by rfl, ?_⟩) ⟨y2, p1, g2, p2⟩ ?_
          rotate_left 1
          · intro W hW; obtain ⟨s0, s1, s2, s3⟩ := hW; go_simp <;> with_reducible rfl
          refine wpAnyH_take (i := 13) (v := ?_) rfl (by kernel_rfl) (by kernel_rfl) (by kernel_rfl) (fun _ _ _ h => h) (Or.inl ⟨by rfl, ?_⟩) ⟨y2, p1, g2, p2⟩ ?_
          rotate_left 1
          · intro W hW; obtain ⟨s0, s1, s2, s3⟩ := hW; go_simp <;> with_reducible rfl
          simp only [Act.put, List.setIfInBounds_toArray]
          refine wpAnyH_done (by kernel_rfl) ?_ _
          have HBn : Hid (Below w6.heap.size w6 w7.drew) := Lib.hid HBi.out.drew
          clear y2 p1 g2 p2
          by_cases hx : x = (j : Int)
          · have dx : (x == (j : Int)) = true := by simpa using hx
            have HY := Lib.hid (HH.out hx)
            clear hx HH HM
            go_simp
            go_wp2
            go_roundw
            case rel => exact ⟨i + 1, by omega, by go_num, by rw [HY.out]; go_num, HBn⟩
            case measure => simp [intOf]; omega
          · have dx : (x == (j : Int)) = false := by simpa using hx
            have HY := Lib.hid (HM.out hx)
            clear hx HH HM
            go_simp
            go_wp2
            go_roundw
            case rel => exact ⟨i + 1, by omega, by go_num, by rw [HY.out], HBn⟩
            case measure => simp [intOf]; omega
        obtain rfl : i = T.length := by omega
        have HBn := Lib.hid (below_trans' HBr.out HBi.out)
        have HOn := Lib.hid (own_below' HO.out HBi.out)
        clear HO HBi HMh2 HMm2
        generalize manyTo N j T.length = m at HG1 hml
        generalize gradesTo N j = D at HG1 HG2 HOn
        have hD : D.length ≤ 100000 := by rw [HG2.out]; omega
        have hr6 := own_base HOn.out
        have hsw := HBn.out.size
        by_cases hm : m = T.length
        · have dm : ((m : Int) == (T.length : Int)) = true := by rw [beq_iff_eq]; omega
          have HY : Hid (gradesTo N (j + 1) = D ++ [2]) := Lib.hid (by rw [HG1.out]; unfold gradeL; rw [if_pos hm])
          clear hm HG1
          have hbk := heap_alloc_new w7 (.cells #[.int .i64 2] 3)
          have HOA := Lib.hid (HOn.out.alloc (.cells #[.int .i64 2] 3))
          go_wp2_with (at_builtin; refine wpList_push _ rfl (.tmp 53) (.tmp 54) 28 rfl elemI encI_len oneI Tryz.underlying28 w3.heap.size _ D rfl HOA.out (by omega) (2 : Int) w7.heap.size (by rfl) _ rfl _ _ hbk (by rw [World.size_alloc]; omega) ?_; intro g2 cap w9 hO9 hg9)
          have HB9 := Lib.hid ((below_alloc' HBn.out (.cells #[.int .i64 2] 3)).grown hg9 (by rw [World.size_alloc]; omega) (fun r e => hr6 r e))
          have HO9 := Lib.hid hO9
          clear hO9 hg9 hr6 HOA hbk HBn HOn
          go_roundw
          case rel => exact ⟨j + 1, by omega, by go_num, by rw [HY.out, len_snoc]; exact HO9, HB9⟩
          case measure => simp [intOf]; omega
        have dm : ((m : Int) == (T.length : Int)) = false := by rw [beq_eq_false_iff_ne]; omega
        by_cases hm0 : 0 < m
        · have dm0 : decide (0 < m) = true := by simpa using hm0
          have HY : Hid (gradesTo N (j + 1) = D ++ [1]) := Lib.hid (by rw [HG1.out]; unfold gradeL; rw [if_neg hm, if_pos hm0])
          clear hm HG1
          have hbk := heap_alloc_new w7 (.cells #[.int .i64 1] 3)
          have HOA := Lib.hid (HOn.out.alloc (.cells #[.int .i64 1] 3))
          go_wp2_with (at_builtin; refine wpList_push _ rfl (.tmp 58) (.tmp 59) 28 rfl elemI encI_len oneI Tryz.underlying28 w3.heap.size _ D rfl HOA.out (by omega) (1 : Int) w7.heap.size (by rfl) _ rfl _ _ hbk (by rw [World.size_alloc]; omega) ?_; intro g2 cap w9 hO9 hg9)
          have HB9 := Lib.hid ((below_alloc' HBn.out (.cells #[.int .i64 1] 3)).grown hg9 (by rw [World.size_alloc]; omega) (fun r e => hr6 r e))
          have HO9 := Lib.hid hO9
          clear hO9 hg9 hr6 HOA hbk HBn HOn
          go_roundw
          case rel => exact ⟨j + 1, by omega, by go_num, by rw [HY.out, len_snoc]; exact HO9, HB9⟩
          case measure => simp [intOf]; omega
        · have dm0 : decide (0 < m) = false := by simpa using hm0
          have HY : Hid (gradesTo N (j + 1) = D ++ [0]) := Lib.hid (by rw [HG1.out]; unfold gradeL; rw [if_neg hm, if_neg hm0])
          clear hm HG1
          have hbk := heap_alloc_new w7 (.cells #[.int .i64 0] 3)
          have HOA := Lib.hid (HOn.out.alloc (.cells #[.int .i64 0] 3))
          go_wp2_with (at_builtin; refine wpList_push _ rfl (.tmp 61) (.tmp 62) 28 rfl elemI encI_len oneI Tryz.underlying28 w3.heap.size _ D rfl HOA.out (by omega) (0 : Int) w7.heap.size (by rfl) _ rfl _ _ hbk (by rw [World.size_alloc]; omega) ?_; intro g2 cap w9 hO9 hg9)
          have HB9 := Lib.hid ((below_alloc' HBn.out (.cells #[.int .i64 0] 3)).grown hg9 (by rw [World.size_alloc]; omega) (fun r e => hr6 r e))
          have HO9 := Lib.hid hO9
          clear hO9 hg9 hr6 HOA hbk HBn HOn
          go_roundw
          case rel => exact ⟨j + 1, by omega, by go_num, by rw [HY.out, len_snoc]; exact HO9, HB9⟩
          case measure => simp [intOf]; omega
    obtain rfl : j = l.length := by omega
    obtain ⟨G9, c9, hv9, _⟩ := own_form HO.out
    subst hv9
    have HR : Hid (IntsAt w6 G9 (gradesTo N l.length)) := Lib.hid (RowsAt.of_own encI_len HO.out)
    have HBn := Lib.hid (below_trans' HB3.out HBr.out)
    clear HO
    go_wp2
    go_ret2
    exact Ret.mk ⟨⟨G9, c9, rfl, HR.out⟩, HBn.out⟩
end Go.Proofs.YtggcooplhodocaaGreatDoor
