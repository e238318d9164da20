/- Most: the smallest size of a largest step. fewest: the fewest changes of a tree by some steps alone. Grades: how certain each step is. -/
import Derived.Test.YtggcooplhodocaaDoorK8
import Derived.Test.YtggcooplhodocaaDoorP0
namespace Go.Proofs.YtggcooplhodocaaDoor
open Go.RowKit Go.Shelf Go.Maps Go.Sort Fam

theorem sort64_any (base : Nat) (v : Value) (zs : List Int) (w : World) (ho : w.ownsRow base 2 1 v zs.length (zs.flatMap encI)) (hn : zs.length ≤ 100000) (h0 : 0 < zs.length) :
    Calls Tryd.prog 50 #[v] w (Ret fun u w' => u = .tuple #[] ∧ w'.ownsRow base 2 1 v zs.length ((zs.mergeSort fun x y => decide (x ≤ y)).flatMap encI) ∧ w.grownBy w' v.ownBlock) := by
  rcases ho.2 with ⟨_, hz⟩ | ⟨gb, cap, cur, rfl, hbase, hgb, r1, r2, r3, r4⟩
  · omega
  · rw [← map_encZ] at r4
    have hH : Holds encZ w gb 0 zs.toArray := holds_of_block_i hgb (by simpa using r4)
    have cS : Calls Tryd.prog 50 _ w _ := AnyM.slices_Sort_int Tryd.laysSort64 gb 0 cap zs w hH (blk_lt hgb) (by omega)
    refine cS.mono ?_
    rintro e w' ⟨rfl, nn, os, rfl⟩
    refine Ret.mk ⟨rfl, ?_, grownBy_sorted_i _⟩
    rw [← map_encZ]
    exact ownsRow_sorted_i (by simp) hbase hgb r1 r2 r3
theorem most1_any (x : St) (b : Nat) (n : Int) (w : World) (h : w.cell? ⟨b, 0, none⟩ = some (.int .i64 n)) :
    Calls Tryd.prog 52 #[vT x, .pointer (some ⟨b, 0, none⟩)] w (Ret fun v w' => v = .bool (decide (x.2.2 ≤ n)) ∧ Below w.heap.size w w') := by
  obtain ⟨x1, x2, x3⟩ := x
  unfold vT
  have hX := heap_alloc_new w (.cells #[.int .i64 x1, .int .i64 x2, .int .i64 x3] 50)
  have hba := below_alloc' (Below.refl w.heap.size w) (.cells #[.int .i64 x1, .int .i64 x2, .int .i64 x3] 50)
  replace h := cell_below hba h
  have q2 := (blk_cell (i := 2) hX).trans rfl
  go_enter Tryd.func52, Tryd.ntmps52
  go_wp2
  go_ret
  exact Ret.mk ⟨rfl, hba⟩
theorem enters_most1 : ∀ args w, (callFunc 52 args).run Tryd.prog w = .ok (.enter 52 args) w := fun args w => by simp [go_sem]
set_option maxRecDepth 100000 in
set_option maxHeartbeats 4000000 in
theorem most_any (S R : Int) (A : Option Addr) (ca : Nat) (l : List St) (w : World) (hl : StepsAt w A l) (hn : l.length ≤ 100000) :
    Calls Tryd.prog 28 #[vBook S R A l.length ca] w (Ret fun v w' => (∃ m e, v = .tuple #[.int .i64 m, .int .i64 e] ∧ MostQ S R l m e) ∧ Below w.heap.size w w') := by
  have Hcb := Lib.hid (fun W (h : StepsAt W A l) => checkBook_any S R A ca l W h hn)
  have Hnw := Lib.hid (fun W (h : StepsAt W A l) => newWood_any S R A ca l W h hn)
  have Hl := Lib.hid hl; clear hl
  have hmf : ∀ (fn : Fn) (first cap : Array Value) (w : World), (Instr.makeFunc fn first cap).run Tryd.prog w = .ok (.func fn first cap) w := fun _ _ _ _ => rfl
  unfold vBook at Hcb Hnw ⊢
  have hX := heap_alloc_new w (.cells #[.int .i64 S, .int .i64 R, .slice A l.length ca] 24)
  have hba := below_alloc' (Below.refl w.heap.size w) (.cells #[.int .i64 S, .int .i64 R, .slice A l.length ca] 24)
  have y0 := (blk_cell (i := 0) hX).trans rfl
  have y1 := (blk_cell (i := 1) hX).trans rfl
  have y2 := (blk_cell (i := 2) hX).trans rfl
  go_enter Tryd.func28, Tryd.ntmps28
  go_wp2_with fail
  have HB0 := Lib.hid hba
  clear hba hX
  generalize w.alloc (.cells #[.int .i64 S, .int .i64 R, .slice A l.length ca] 24) = w0 at *
  refine (Hcb.out w0 (Hl.out.below HB0.out)).mono ?_
  rintro e w1 ⟨v, rfl, rfl, hB1⟩
  have HB1 := Lib.hid (below_trans' HB0.out hB1)
  replace y0 := cell_below hB1 y0
  replace y1 := cell_below hB1 y1
  replace y2 := cell_below hB1 y2
  clear hB1 HB0
  by_cases he : bookErr S R l = 0
  rotate_left 1
  · have d1 : (bookErr S R l != 0) = true := by simpa using he
    have HE := Lib.hid he
    clear he
    go_wp2
    go_ret2
    exact Ret.mk ⟨⟨_, _, rfl, .inl ⟨HE.out, rfl, rfl⟩⟩, HB1.out⟩
  have hok := bookErr_iff.1 he
  have HK := Lib.hid hok
  have HE := Lib.hid he
  rw [he]
  have hm200 := hok.many
  clear he Hcb hok
  go_wp2_with fail
  refine (Hnw.out w1 (Hl.out.below HB1.out)).mono ?_
  rintro e w2 ⟨v, rfl, ⟨wb, mb, u, rfl, hXw, ho, hM, e1, e2⟩, hB2⟩
  have HXw := Lib.hid hXw
  have HB2 := Lib.hid (below_trans' HB1.out hB2)
  replace y0 := cell_below hB2 y0
  replace y1 := cell_below hB2 y1
  replace y2 := cell_below hB2 y2
  have HY0 := Lib.hid y0
  have HY1 := Lib.hid y1
  have HY2 := Lib.hid y2
  clear hXw ho hM e1 e2 hB2 Hnw
  have hbx := heap_alloc_new w2 (.cells #[.int .i64 0] 2)
  have hba := below_alloc' (Below.refl w2.heap.size w2) (.cells #[.int .i64 0] 2)
  go_upto_region 6 with fail
  have HO3 : Hid ((w2.alloc (.cells #[.int .i64 0] 2)).ownsRow w2.heap.size 2 1 (.slice (some ⟨w2.heap.size, 0, none⟩) 1 1) ((0 : Int) :: chs (l.take 0)).length (((0 : Int) :: chs (l.take 0)).flatMap encI)) := Lib.hid ⟨rfl, .inr ⟨w2.heap.size, 1, _, rfl, Nat.le_refl _, hbx, Nat.le_refl _, by unfold maxLen; omega, rfl, rfl⟩⟩
  have HB3 := Lib.hid (below_trans' HB2.out hba)
  replace y0 := cell_below hba y0
  replace y1 := cell_below hba y1
  replace y2 := cell_below hba y2
  have hs3 := hba.size
  have HB23 := Lib.hid hba
  clear hba hbx
  generalize hbb : w2.heap.size = bb at *
  generalize w2.alloc (.cells #[.int .i64 0] 2) = w3 at *
  go_wp2
  go_loopw [6, 22] (fun u i wr => ∃ k : Nat, k ≤ l.length ∧ i = .int .i64 k ∧ Hid (wr.ownsRow bb 2 1 u ((0 : Int) :: chs (l.take k)).length (((0 : Int) :: chs (l.take k)).flatMap encI)) ∧ Hid (Below bb w2 wr) ∧ bb ≤ wr.heap.size) (fun _ i _ => l.length - (intOf i).toNat)
  case atStart => exact ⟨0, by omega, rfl, HO3, HB23, hs3⟩
  case round =>
    clear HO3 HB23 hs3
    obtain ⟨k, hk, rfl, HO, HB, hs⟩ := hrel
    have hB2r : Below w2.heap.size w2 wr := by rw [hbb]; exact HB.out
    by_cases hkn : k < l.length
    · obtain ⟨b, off, rfl, g1, g2, g3⟩ := StepsAt.at_ (Hl.out.below (below_trans' HB2.out hB2r)) hkn
      have ij0 : (0 : Int) ≤ (k : Int) := by omega
      have ij1 : (k : Int) < (l.length : Int) := by omega
      have HC := Lib.hid (chs_step hkn)
      have hcl := Nat.le_of_eq (chs_len (l.take k))
      have hc2 : (l.take k).length ≤ 200 := by rw [List.length_take]; omega
      generalize l[k] = x at g1 g2 g3 HC
      generalize chs (l.take k) = T at HC HO hcl
      obtain ⟨x1, x2, x3⟩ := x
      dsimp only at g1 g2 g3 HC
      have hbx := heap_alloc_new wr (.cells #[.int .i64 x1, .int .i64 x2, .int .i64 x3] 50)
      have hba := below_alloc' (Below.refl wr.heap.size wr) (.cells #[.int .i64 x1, .int .i64 x2, .int .i64 x3] 50)
      go_upto_region 9 with fail
      have n2 := (blk_cell (i := 2) hbx).trans rfl
      have HO4 := Lib.hid (own_below' HO.out hba)
      have HB4 := Lib.hid (HB.out.trans (hba.mono hs))
      have hs4 := hba.size
      clear hba g1 g2 g3 hbx HO HB hB2r
      generalize wr.heap.size = xb at *
      generalize wr.alloc (.cells #[.int .i64 x1, .int .i64 x2, .int .i64 x3] 50) = w4 at *
      have hbk := heap_alloc_new w4 (.cells #[.int .i64 x3] 2)
      have HOA := Lib.hid (HO4.out.alloc (.cells #[.int .i64 x3] 2))
      have hr6 := own_base HO4.out
      have hTl : ((0 : Int) :: T).length ≤ 100000 := by simp; omega
      go_wp2_with (at_builtin; refine wpList_push _ rfl (.tmp 26) (.tmp 29) 73 rfl elemL encI_len oneI Tryd.underlying73 bb _ ((0 : Int) :: T) rfl HOA.out hTl x3 w4.heap.size (by rfl) _ rfl _ _ hbk (by rw [World.size_alloc]; omega) ?_; intro g2 cap w6 hO6 hg6)
      have HB6 := Lib.hid (((HB4.out.trans ((below_alloc' (Below.refl w4.heap.size w4) (.cells #[.int .i64 x3] 2)).mono (by omega)))).grown hg6 (by rw [World.size_alloc]; omega) hr6)
      have hs6 := hg6.size
      rw [World.size_alloc] at hs6
      have HO6 := Lib.hid hO6
      clear hO6 hg6 hr6 HO4 HOA hbk HB4 n2
      go_roundw
      case rel => exact ⟨k + 1, by omega, by go_num, by rw [HC.out, ← List.cons_append, len_snoc]; exact HO6, HB6, by omega⟩
      case measure => simp [intOf]; omega
    · obtain rfl : k = l.length := by omega
      rw [List.take_length] at HO
      have hwbl := blk_lt HXw.out
      obtain ⟨zs, hzs⟩ : ∃ zs, zs = (0 : Int) :: chs l := ⟨_, rfl⟩
      rw [← hzs] at HO
      have hz0 : 0 < zs.length := by rw [hzs]; simp
      have hzl : zs.length ≤ 100000 := by rw [hzs, List.length_cons, chs_len]; omega
      have HSo := Lib.hid (sort64_any bb _ zs wr HO.out hzl hz0)
      have HPz := Lib.hid (merge_perm zs)
      rw [hzs] at HPz
      have hPz : Hid ((zs.mergeSort fun x y => decide (x ≤ y)).Perm ((0 : Int) :: l.map fun x => x.2.2)) := Lib.hid (by rw [hzs]; exact merge_perm _)
      have HRz := Lib.hid (merge_rise zs)
      have hkl : (zs.mergeSort fun x y => decide (x ≤ y)).length = zs.length := List.length_mergeSort _
      clear HPz hzs
      go_wp2_with fail
      refine HSo.out.mono ?_
      rintro e w5 ⟨v, rfl, rfl, hO5, hg5⟩
      generalize (zs.mergeSort fun x y => decide (x ≤ y)) = ks at hPz HRz hkl hO5
      have HB5 : Hid (Below w2.heap.size w2 w5) := Lib.hid (by rw [hbb]; exact HB.out.grown hg5 hs (own_base HO.out))
      obtain ⟨G, c, rfl, hc⟩ := own_form hO5
      rw [← hkl] at hO5 hc hz0 hzl ⊢
      have HI5 : Hid (IntsAt w5 G ks) := Lib.hid (RowsAt.of_own encI_len hO5)
      have HX5 := Lib.hid (blk_below HB5.out HXw.out)
      have HL5 := Lib.hid (Hl.out.below (below_trans' HB2.out HB5.out))
      have HBf := Lib.hid (below_trans' HB2.out HB5.out)
      clear hO5 hg5 HO HB HSo hkl y0 y1 y2
      have y0 := cell_below HB5.out HY0.out
      have y1 := cell_below HB5.out HY1.out
      have y2 := cell_below HB5.out HY2.out
      have HBs := Lib.hid (Below.refl w5.heap.size w5)
      go_wp2
      go_loopw [36] (fun i wr => ∃ k : Nat, k ≤ ks.length ∧ i = .int .i64 k ∧ Hid (∀ i (h : i < ks.length), i < k → ¬ Full (netB S R l) (atMost (netB S R l) ks[i])) ∧ Hid (Below w5.heap.size w5 wr)) (fun i _ => ks.length - (intOf i).toNat)
      case atStart => exact ⟨0, by omega, rfl, Lib.hid (fun i h h2 => by omega), HBs⟩
      case round =>
        clear HBs
        obtain ⟨k, hk, rfl, HNo, HBr⟩ := hrel
        have z0 := cell_below HBr.out y0
        have z1 := cell_below HBr.out y1
        have z2 := cell_below HBr.out y2
        obtain ⟨wa, hwa⟩ : ∃ x, x = wr := ⟨_, rfl⟩
        subst hwa
        by_cases hkn : k < ks.length
        · obtain ⟨b, off, rfl, g1⟩ := IntsAt.at_ (IntsAt.below HI5.out HBr.out) hkn
          have k0 : (0 : Int) ≤ (k : Int) := by omega
          have k1 : (k : Int) < (ks.length : Int) := by omega
          have HFo := Lib.hid (fun hf => most_found HK.out hPz.out HRz.out hkn HNo.out hf)
          have HNn : Hid (¬ Full (netB S R l) (atMost (netB S R l) ks[k]) → ∀ i (h : i < ks.length), i < k + 1 → ¬ Full (netB S R l) (atMost (netB S R l) ks[i])) := Lib.hid fun h i hi hik => by
            by_cases e : i = k
            · subst e; exact h
            · exact HNo.out i hi (by omega)
          generalize ks[k] = n at g1 HFo HNn
          have hbx := heap_alloc_new wa (.cells #[.int .i64 n] 2)
          have hba := below_alloc' (Below.refl wa.heap.size wa) (.cells #[.int .i64 n] 2)
          go_upto_region 15 with fail
          have HB6 := Lib.hid (below_trans' HBr.out hba)
          have c0 := (blk_cell (i := 0) hbx).trans rfl
          replace z0 := cell_below hba z0
          replace z1 := cell_below hba z1
          replace z2 := cell_below hba z2
          clear hba hbx g1 HNo HBr
          generalize wa.heap.size = nb at *
          generalize wa.alloc (.cells #[.int .i64 n] 2) = w6 at *
          have HC0 := Lib.hid c0
          have hask : Asks w6 52 #[] #[.pointer (some ⟨nb, 0, none⟩)] vT (fun _ => True) (fun x => decide (x.2.2 ≤ n)) := fun W x hW _ => by simpa using most1_any x nb n W (cell_below hW HC0.out)
          have hal := all_any S R A ca l 52 #[] #[.pointer (some ⟨nb, 0, none⟩)] (fun x => decide (x.2.2 ≤ n)) w6 (HL5.out.below HB6.out) hn enters_most1 hask
          unfold vBook at hal
          have HAl := Lib.hid hal
          clear hal hask
          go_wp2_with fail
          refine HAl.out.mono ?_
          rintro e w7 ⟨v, rfl, ⟨G2, c2, rfl, hG2, hc2, hc3⟩, hB7⟩
          have HB7 := Lib.hid (below_trans' HB6.out hB7)
          replace c0 := cell_below hB7 c0
          have HFu := Lib.hid (full_any S R A G2 ca c2 wb mb u l (allL (fun x => decide (x.2.2 ≤ n)) l) w7 (blk_below HB7.out HX5.out) (HL5.out.below HB7.out) hG2 (fun i hi => (mem_allL.1 hi).1) (by have := allK_le (fun x : St => decide (x.2.2 ≤ n)) l l.length; unfold allL; unfold allK at this; omega) HK.out)
          clear hG2 HAl hB7 z0 z1 z2
          go_wp2_with fail
          refine HFu.out.mono ?_
          rintro e w8 ⟨v, rfl, rfl, hB8⟩
          have HB8 := Lib.hid (below_trans' HB7.out hB8)
          replace c0 := cell_below hB8 c0
          clear hB8 HFu
          cases hfl : fullB (netB S R l) (allL (fun x => decide (x.2.2 ≤ n)) l)
          · have HN := Lib.hid (HNn.out (fun h => fullB_no.1 hfl (full_most.2 h)))
            clear hfl c0
            go_wp2
            go_roundw
            case rel => exact ⟨k + 1, by omega, by go_num, HN, HB8⟩
            case measure => simp [intOf]; omega
          · have HM := Lib.hid (HFo.out (full_most.1 (fullB_iff.1 hfl)))
            clear hfl
            go_wp2
            go_ret2
            exact Ret.mk ⟨⟨_, _, rfl, .inr (.inr ⟨HE.out, HM.out, rfl⟩)⟩, below_trans' HBf.out HB8.out⟩
        · obtain rfl : k = ks.length := by omega
          have HN := Lib.hid (most_none hPz.out HRz.out (fun i h => HNo.out i h h))
          clear HNo
          go_wp2
          go_ret2
          exact Ret.mk ⟨⟨_, _, rfl, .inr (.inl ⟨HE.out, HN.out, rfl, rfl⟩)⟩, below_trans' HBf.out HBr.out⟩
end Go.Proofs.YtggcooplhodocaaDoor

namespace Go.Proofs.YtggcooplhodocaaDoor
open Go.RowKit Go.Shelf Go.Maps Fam

theorem pickL_step {l : List St} {st : List Nat} {k : Nat} (hk : k < st.length) : pickL l (st.take (k + 1)) = pickL l (st.take k) ++ [stAt l st[k]] := by
  unfold pickL
  rw [List.take_succ_eq_append_getElem hk, List.map_append]; rfl
set_option maxRecDepth 100000 in
set_option maxHeartbeats 4000000 in
theorem fewest_any (S R : Int) (A B : Option Addr) (ca cb : Nat) (l : List St) (st : List Nat) (w : World) (hl : StepsAt w A l) (hok : BookOk S R l) (hs : IntsAt w B (castL st)) (hst : ∀ i ∈ st, i < l.length) (hlen : st.length ≤ 200) :
    Calls Tryd.prog 53 #[vBook S R A l.length ca, .slice B st.length cb] w (Ret fun v w' => (∃ n ok, v = .tuple #[.int .i64 n, .bool ok] ∧ FewQ (sub (netB S R l) st) n ok) ∧ Below w.heap.size w w') := by
  have Hch := Lib.hid (fun A' c' l' (hn : l'.length ≤ 100000) W (h : StepsAt W A' l') => cheapest_any S R A' c' l' W h hn)
  have Hl := Lib.hid hl; clear hl
  have Hs := Lib.hid hs; clear hs
  have HK := Lib.hid hok; clear hok
  have Hst := Lib.hid hst; clear hst
  unfold vBook at Hch ⊢
  have hX := heap_alloc_new w (.cells #[.int .i64 S, .int .i64 R, .slice A l.length ca] 24)
  have hba := below_alloc' (Below.refl w.heap.size w) (.cells #[.int .i64 S, .int .i64 R, .slice A l.length ca] 24)
  have y0 := (blk_cell (i := 0) hX).trans rfl
  have y1 := (blk_cell (i := 1) hX).trans rfl
  have y2 := (blk_cell (i := 2) hX).trans rfl
  have hX1 := heap_alloc_at (w.alloc (.cells #[.int .i64 S, .int .i64 R, .slice A l.length ca] 24)) (.cells #[.int .i64 S, .int .i64 R, .slice none 0 0] 24) (n := w.heap.size + 1) (by simp)
  have hb1 := below_alloc' hba (.cells #[.int .i64 S, .int .i64 R, .slice none 0 0] 24)
  have hX0 := blk_alloc hX (.cells #[.int .i64 S, .int .i64 R, .slice none 0 0] 24)
  have hsz : w.heap.size + 2 ≤ ((w.alloc (.cells #[.int .i64 S, .int .i64 R, .slice A l.length ca] 24)).alloc (.cells #[.int .i64 S, .int .i64 R, .slice none 0 0] 24)).heap.size := by simp
  go_enter Tryd.func53, Tryd.ntmps53
  go_upto_region 2 with fail
  have HX0 := Lib.hid hX0
  have HX1 := Lib.hid hX1
  have HB1 := Lib.hid hb1
  clear y0 y1 y2 hX hba hX0 hX1 hb1
  generalize (w.alloc (.cells #[.int .i64 S, .int .i64 R, .slice A l.length ca] 24)).alloc (.cells #[.int .i64 S, .int .i64 R, .slice none 0 0] 24) = w1 at *
  go_wp2
  go_loopw [19] (fun i wr => ∃ (k : Nat) (u : Value), k ≤ st.length ∧ i = .int .i64 k ∧ Hid (wr.heap[w.heap.size]? = some (.cells #[.int .i64 S, .int .i64 R, .slice A l.length ca] 24 (0, 0))) ∧ Hid (wr.heap[w.heap.size + 1]? = some (.cells #[.int .i64 S, .int .i64 R, u] 24 (0, 0))) ∧ Hid (wr.ownsRow (w.heap.size + 2) 50 3 u (pickL l (st.take k)).length ((pickL l (st.take k)).flatMap encT)) ∧ Hid (Below w.heap.size w wr) ∧ w.heap.size + 2 ≤ wr.heap.size) (fun i _ => st.length - (intOf i).toNat)
  case atStart => exact ⟨0, .slice none 0 0, by omega, rfl, HX0, HX1, Lib.hid (by simpa [pickL] using World.ownsRow_nil w1 (w.heap.size + 2) 50 3), HB1, hsz⟩
  case round =>
    clear HX0 HX1 HB1 hsz
    obtain ⟨k, u, hk, rfl, HX0, HX1, HO, HB, hsz⟩ := hrel
    by_cases hkn : k < st.length
    · obtain ⟨b, off, rfl, g1⟩ := IntsAt.at_ (IntsAt.below Hs.out HB.out) (i := k) (by rw [castL_len]; exact hkn)
      rw [castL_at hkn] at g1
      have HP := Lib.hid (pickL_step (l := l) hkn)
      have hil := Hst.out _ (List.getElem_mem hkn)
      have hcl := pickL_len l (st.take k)
      rw [List.length_take, Nat.min_eq_left hk] at hcl
      have hcl := Nat.le_of_eq hcl
      generalize st[k] = i at g1 HP hil
      generalize pickL l (st.take k) = T at HP HO hcl
      obtain ⟨b3, o3, rfl, p1, p2, p3⟩ := StepsAt.at_ (Hl.out.below HB.out) hil
      rw [stAt_eq hil] at HP
      generalize l[i] = x at p1 p2 p3 HP
      obtain ⟨x1, x2, x3⟩ := x
      dsimp only at p1 p2 p3
      have k0 : (0 : Int) ≤ (k : Int) := by omega
      have k1 : (k : Int) < (st.length : Int) := by omega
      have i0 : (0 : Int) ≤ (i : Int) := by omega
      have i1 : (i : Int) < (l.length : Int) := by omega
      have y2 : wr.cell? ⟨w.heap.size, 2, none⟩ = some (.slice (some ⟨b3, o3, none⟩) l.length ca) := (blk_cell HX0.out).trans rfl
      have x2c : wr.cell? ⟨w.heap.size + 1, 2, none⟩ = some u := (blk_cell HX1.out).trans rfl
      go_upto_region 5 with fail
      have x2a := cell_alloc x2c (.cells #[.int .i64 x1, .int .i64 x2, .int .i64 x3] 50)
      go_region_law (refine step_push rfl (.tmp 24) (.tmp 30) 22 rfl elemT encT_len oneT Tryd.underlying22 (w.heap.size + 2) u T (by rfl) ((HO.out.alloc _).drew) (by omega) (x1, x2, x3) wr.heap.size (by rfl) #[.int .i64 x1, .int .i64 x2, .int .i64 x3] rfl 50 (0, 0) (heap_alloc_new wr _) (by simp; omega) ?_; intro g cap w5 hO5 hg5; have hr5 := own_base HO.out; have hX5 := blk_grown hg5 (blk_alloc HX1.out (.cells #[.int .i64 x1, .int .i64 x2, .int .i64 x3] 50)) (fun e => by have := hr5 _ e.symm; omega); have e3 : w5.cell? ⟨w.heap.size + 1, 2, none⟩ = some u := (blk_cell hX5).trans rfl; have f3 : w5.frozen? ⟨w.heap.size + 1, 2, none⟩ = false := blk_frozen hX5)
      all_goals
        have hX6 : (w5.setCell ⟨w.heap.size + 1, 2, none⟩ (.slice (some ⟨g, 0, none⟩) (T.length + 1) cap)).heap[w.heap.size + 1]? = some (.cells #[.int .i64 S, .int .i64 R, .slice (some ⟨g, 0, none⟩) (T.length + 1) cap] 24 (0, 0)) := blk_set (i := 2) hX5 _
        have HX06 := Lib.hid (blk_far (p := ⟨w.heap.size + 1, 2, none⟩) (blk_grown hg5 (blk_alloc HX0.out (.cells #[.int .i64 x1, .int .i64 x2, .int .i64 x3] 50)) (fun e => by have := hr5 _ e.symm; omega)) (by dsimp only; omega) (.slice (some ⟨g, 0, none⟩) (T.length + 1) cap))
        have HO6 := Lib.hid (ownsRow_setCell_below (a := ⟨w.heap.size + 1, 2, none⟩) hO5 (by dsimp only; omega) (.slice (some ⟨g, 0, none⟩) (T.length + 1) cap))
        have HB5 := Lib.hid ((below_alloc' HB.out (.cells #[.int .i64 x1, .int .i64 x2, .int .i64 x3] 50)).drew.grown hg5 (by simp; omega) (fun r e => by have := hr5 r e; omega))
        have HB6 := Lib.hid (HB5.out.setCell (p := ⟨w.heap.size + 1, 2, none⟩) (by dsimp only; omega) (.slice (some ⟨g, 0, none⟩) (T.length + 1) cap))
        have hs6 : w.heap.size + 2 ≤ (w5.setCell ⟨w.heap.size + 1, 2, none⟩ (.slice (some ⟨g, 0, none⟩) (T.length + 1) cap)).heap.size := by have := hg5.size; simp at this; simp; omega
        clear hX5 hO5 hg5 hr5 e3 f3 x2a x2c y2 HB HO HX0 HX1 HB5
        go_wp2
        go_roundw
        case rel => exact ⟨k + 1, _, by omega, by go_num, HX06, Lib.hid hX6, by rw [HP.out, len_snoc]; exact HO6, HB6, hs6⟩
        case measure => simp [intOf]; omega
    · obtain rfl : k = st.length := by omega
      rw [List.take_length] at HO
      obtain ⟨G, c, rfl, hc⟩ := own_form HO.out
      have x0c : wr.cell? ⟨w.heap.size + 1, 0, none⟩ = some (.int .i64 S) := (blk_cell HX1.out).trans rfl
      have x1c : wr.cell? ⟨w.heap.size + 1, 1, none⟩ = some (.int .i64 R) := (blk_cell HX1.out).trans rfl
      have x2c : wr.cell? ⟨w.heap.size + 1, 2, none⟩ = some (.slice G (pickL l st).length c) := (blk_cell HX1.out).trans rfl
      have hok' := pick_ok HK.out Hst.out hlen
      have HK2 := Lib.hid (bookErr_iff.2 hok')
      have HC := Lib.hid (Hch.out G c (pickL l st) (by rw [pickL_len]; omega) wr (RowsAt.of_own encT_len HO.out))
      clear hok' HO HX0 HX1
      go_wp2_with fail
      refine HC.out.mono ?_
      rintro e w5 ⟨v, rfl, hv, hB5⟩
      have HB5 := Lib.hid (below_trans' HB.out hB5)
      clear hB5 HC x0c x1c x2c
      rcases hv with ⟨h1, _⟩ | ⟨_, h2, rfl⟩ | ⟨_, t, G2, c2, rfl, h3, h4, h5, h6, h7, h8⟩
      · exact absurd HK2.out h1
      · have HF := Lib.hid (few_no h2)
        clear h2
        go_wp2
        go_ret2
        exact Ret.mk ⟨⟨_, _, rfl, HF.out⟩, HB5.out⟩
      · have HF := Lib.hid (few_yes h8)
        clear h3 h4 h5 h6 h7 h8
        go_wp2
        go_ret2
        exact Ret.mk ⟨⟨_, _, rfl, HF.out⟩, HB5.out⟩
end Go.Proofs.YtggcooplhodocaaDoor

namespace Go.Proofs.YtggcooplhodocaaDoor
open Go.RowKit Go.Shelf Go.Maps Fam

theorem ne_sym {a b : Option Nat} (h : a = none ∨ a ≠ b) : b = none ∨ b ≠ a := by
  cases b with
  | none => exact .inl rfl
  | some r => exact .inr (fun e => by rcases h with h | h; rw [h] at e; cases e; exact h e.symm)
theorem own_lt {w : World} {base : Nat} {e : TypeId} {size : Nat} {v : Value} {n : Nat} {xs : List Value} (h : w.ownsRow base e size v n xs) : ∀ r, v.ownBlock = some r → r < w.heap.size := fun r e => (h.lt r e).2
theorem apart_push {a b : Option Nat} {g H : Nat} (hD : a = none ∨ a ≠ b) (hat : a = some g ∨ g = H) (hlt : ∀ r, b = some r → r < H) : b = none ∨ b ≠ some g := by
  cases b with
  | none => exact .inl rfl
  | some r =>
    refine .inr (fun e => ?_)
    injection e with e
    subst e
    rcases hat with h | h
    · rcases hD with k | k
      · rw [k] at h; cases h
      · exact k h
    · have := hlt r rfl; omega
section
variable {α : Type} {enc : α → List Value} {e : TypeId} {size bytes : Nat} {z : Value}
/-- an append of one element that says where the row lies -/
theorem wpList_pushL (w : World) {ops : Array Oper} {rest : List Oper} {o : Oper} {a : Act} {Q : Exit → Act → World → Prop}
    (hg : o.guard = none) (s x : Operand) (t : TypeId) (hop : o.op = Op.call { callee := Callee.builtin Builtin.append, args := #[s, x], argTypes := #[t, t] })
    (E : ElemT e size bytes z) (hk : ∀ x, (enc x).length = size) (h1 : ∀ x, ∀ u ∈ enc x, u.oneCell' = true) (ht : Tryd.prog.underlying t = some (.slice e)) (base : Nat)
    (v : Value) (l : List α) (hs : a.eval s = v) (hown : w.ownsRow base e size v l.length (l.flatMap enc)) (hlen : l.length ≤ 100000) (y : α) (B : Nat) (hx : a.eval x = .slice (some ⟨B, 0, none⟩) 1 1)
    (cs : Array Value) (hcs : cs.toList = enc y) (tt : TypeId) (fr : Nat × Nat) (hB : w.heap[B]? = some (.cells cs tt fr)) (b3 : base ≤ w.heap.size)
    (hK : ∀ g cap w', w'.ownsRow base e size (.slice (some ⟨g, 0, none⟩) (l.length + 1) cap) (l.length + 1) ((l ++ [y]).flatMap enc) → w.grownBy w' v.ownBlock → (v.ownBlock = some g ∨ g = w.heap.size) → wpList Tryd.prog ops Q rest (a.put o.dst (.slice (some ⟨g, 0, none⟩) (l.length + 1) cap)) w') :
    wpList Tryd.prog ops Q (o :: rest) a w := by
  obtain ⟨i0, hi, hz0, hz1, hz2⟩ := info_parts E.info
  have hb : (l.length + 1) * bytes ≤ 100001 * 100 := Nat.mul_le_mul (by omega) E.small
  refine wpList_append_lies w hg s x t hop base e i0 z size bytes ht hi hz0 hz1 hz2 E.zsz E.pos v l.length _ hs hown ⟨B, 0, none⟩ 1 1 (enc y) hx (by rw [hk]; omega) (news_new hB hcs) (h1 y) (by omega) (by simp only [maxLen]; omega) (by omega) b3 _ rfl ?_
  intro g cap w' hown' hgrow hat _
  exact hK g cap w' (by rw [← push_flat]; exact hown') hgrow hat
end
theorem castL_put (T : List Nat) (k : Nat) : castL (T ++ [k]) = castL T ++ [(k : Int)] := castL_snoc T k
/-- what Grades answers -/
def GradesQ (S R : Int) (l : List St) (v : Value) (w : World) : Prop :=
  (bookErr S R l ≠ 0 ∧ v = .tuple #[.slice none 0 0, .int .i64 (bookErr S R l)]) ∨
  (bookErr S R l = 0 ∧ ¬ Full (netB S R l) (allS (netB S R l)) ∧ v = .tuple #[.slice none 0 0, .int .i64 13]) ∨
  (bookErr S R l = 0 ∧ Full (netB S R l) (allS (netB S R l)) ∧ ∃ g G c, v = .tuple #[.slice G g.length c, .int .i64 0] ∧ g.length = l.length ∧ IntsAt w G g ∧ ∀ i (h : i < g.length), GradeIs (netB S R l) i g[i])
set_option maxRecDepth 100000 in
set_option maxHeartbeats 8000000 in
theorem grades_any (S R : Int) (A : Option Addr) (ca : Nat) (l : List St) (w : World) (hl : StepsAt w A l) (hn : l.length ≤ 100000) :
    Calls Tryd.prog 29 #[vBook S R A l.length ca] w (Ret fun v w' => GradesQ S R l v w' ∧ Below w.heap.size w w') := by
  have Hch := Lib.hid (fun W (h : StepsAt W A l) => cheapest_any S R A ca l W h hn)
  have Hl := Lib.hid hl; clear hl
  have Hfe := Lib.hid (fun hok B cb st W (h : StepsAt W A l) hs hst hlen => fewest_any S R A B ca cb l st W h hok hs hst hlen)
  unfold vBook at Hch Hfe ⊢
  have hX := heap_alloc_new w (.cells #[.int .i64 S, .int .i64 R, .slice A l.length ca] 24)
  have hba := below_alloc' (Below.refl w.heap.size w) (.cells #[.int .i64 S, .int .i64 R, .slice A l.length ca] 24)
  have y0 := (blk_cell (i := 0) hX).trans rfl
  have y1 := (blk_cell (i := 1) hX).trans rfl
  have y2 := (blk_cell (i := 2) hX).trans rfl
  go_enter Tryd.func29, Tryd.ntmps29
  go_wp2_with fail
  have HB0 := Lib.hid hba
  have HX0 := Lib.hid hX
  clear hba hX
  generalize w.alloc (.cells #[.int .i64 S, .int .i64 R, .slice A l.length ca] 24) = w0 at *
  refine (Hch.out w0 (Hl.out.below HB0.out)).mono ?_
  rintro e w1 ⟨v, rfl, hv, hB1⟩
  have HB1 := Lib.hid (below_trans' HB0.out hB1)
  have HX1 := Lib.hid (blk_below hB1 HX0.out)
  have hs0 := HB0.out.size
  clear hB1 HB0 HX0 y0 y1 y2 Hch
  have y0 : w1.cell? ⟨w.heap.size, 0, none⟩ = some (.int .i64 S) := (blk_cell HX1.out).trans rfl
  have y1 : w1.cell? ⟨w.heap.size, 1, none⟩ = some (.int .i64 R) := (blk_cell HX1.out).trans rfl
  have y2 : w1.cell? ⟨w.heap.size, 2, none⟩ = some (.slice A l.length ca) := (blk_cell HX1.out).trans rfl
  rcases hv with ⟨he, rfl⟩ | ⟨he, hnf, rfl⟩ | ⟨he, t, G, c, rfl, h1, h2, h3, h4, h5, h6⟩
  · have d1 : (bookErr S R l != 0) = true := by simpa using he
    have HE := Lib.hid he
    clear he
    go_wp2
    go_ret2
    exact Ret.mk ⟨.inl ⟨HE.out, rfl⟩, HB1.out⟩
  · have HE := Lib.hid he
    clear he
    go_wp2
    go_ret2
    exact Ret.mk ⟨.inr (.inl ⟨HE.out, hnf, rfl⟩), HB1.out⟩
  have HE := Lib.hid he
  have hok := bookErr_iff.1 he
  have HK := Lib.hid hok
  have HBe := Lib.hid h6
  have HFl := Lib.hid (treeL_iff.1 h5).2.2.all
  have hm200 := hok.many
  generalize costL (netB S R l) t = bc at HBe ⊢
  clear he h1 h2 h3 h4 h5 h6 hok
  obtain ⟨zs, hzs⟩ : ∃ zs : Array Value, zs = madeCells #[.int .i64 0] l.length := ⟨_, rfl⟩
  have hmk := fun W => run_make_row' (P := Tryd.prog) 25 3 (.int .i64 0) 8 Tryd.underlying25 infoI3 rfl .i64 .i64 l.length (by omega) (by omega) W
  have hA0 := made_arr w1 l.length 3
  rw [← hzs] at hmk hA0
  clear hzs
  have hbz := below_alloc' (Below.refl w1.heap.size w1) (.cells zs 3)
  have hgz := blk_lt (heap_alloc_new w1 (.cells zs 3))
  go_upto_region 5 with fail
  clear hmk
  have hs1 := blk_lt HX1.out
  have HB2 := Lib.hid (below_trans' HB1.out hbz)
  have HX2 := Lib.hid (blk_below hbz HX1.out)
  have HA2 := Lib.hid hA0
  clear y0 y1 y2 hbz hA0 HX1
  obtain ⟨gb, hgb⟩ : ∃ gb, gb = w1.heap.size := ⟨_, rfl⟩
  rw [← hgb] at HA2 hs1 hgz ⊢
  clear hgb
  generalize w1.alloc (.cells zs 3) = w2 at *
  have y2 : w2.cell? ⟨w.heap.size, 2, none⟩ = some (.slice A l.length ca) := (blk_cell HX2.out).trans rfl
  go_wp2
  clear y2
  go_loopw [34] (fun i wr => ∃ (k : Nat) (f : Nat → Int), k ≤ l.length ∧ i = .int .i64 k ∧ Hid (Arr wr gb 0 l.length f) ∧ Hid (∀ j, j < k → GradeIs (netB S R l) j (f j)) ∧ Hid (∀ j, k ≤ j → f j = 0) ∧ Hid (wr.heap[w.heap.size]? = some (.cells #[.int .i64 S, .int .i64 R, .slice A l.length ca] 24 (0, 0))) ∧ Hid (Below w.heap.size w wr) ∧ gb < wr.heap.size) (fun i _ => l.length - (intOf i).toNat)
  case atStart => exact ⟨0, fun _ => 0, by omega, rfl, HA2, Lib.hid (fun j h => by omega), Lib.hid (fun _ _ => rfl), HX2, HB2, hgz⟩
  case round =>
    clear HA2 HX2 HB2 hgz
    obtain ⟨k, f, hk, rfl, HA, HG, HZ, HX, HB, hgz⟩ := hrel
    by_cases hkn : k < l.length
    · obtain ⟨b, off, rfl, g1, g2, g3⟩ := StepsAt.at_ (Hl.out.below HB.out) hkn
      have HSk := Lib.hid (grade_skip (S := S) (R := R) HK.out hkn)
      have HGf := Lib.hid (fun hr n1 n2 b1 b2 h1 h2 => grade_few (n1 := n1) (n2 := n2) (b1 := b1) (b2 := b2) HK.out HBe.out hkn hr h1 h2)
      have HGo := Lib.hid (fun hr n1 b1 h1 hb => grade_out (n1 := n1) (b1 := b1) HK.out HBe.out hkn hr h1 hb)
      have HWi := Lib.hid (fun j (hj : j < l.length) => withI_is (S := S) (R := R) HK.out hkn hj)
      generalize l[k] = x at g1 g2 g3 HSk HGf HWi HGo
      obtain ⟨x1, x2, x3⟩ := x
      dsimp only at g1 g2 g3 HSk HGf HWi HGo
      have k0 : (0 : Int) ≤ (k : Int) := by omega
      have k1 : (k : Int) < (l.length : Int) := by omega
      have hbx := heap_alloc_new wr (.cells #[.int .i64 x1, .int .i64 x2, .int .i64 x3] 50)
      have hba := below_alloc' (Below.refl wr.heap.size wr) (.cells #[.int .i64 x1, .int .i64 x2, .int .i64 x3] 50)
      have hsb := blk_lt hbx
      go_upto_region 8 with fail
      have HXs := Lib.hid hbx
      replace HX := Lib.hid (blk_below hba HX.out)
      replace HA := Lib.hid (HA.out.below hba)
      replace HB := Lib.hid (below_trans' HB.out hba)
      have hgw := HX.out
      have hwb := hs1
      clear hba g1 g2 g3 hbx hgw
      obtain ⟨sb, hsbe⟩ : ∃ sb, sb = wr.heap.size := ⟨_, rfl⟩
      rw [← hsbe] at HXs hsb hgz ⊢
      clear hsbe
      generalize wr.alloc (.cells #[.int .i64 x1, .int .i64 x2, .int .i64 x3] 50) = w3 at *
      have q1 : w3.cell? ⟨sb, 1, none⟩ = some (.int .i64 x2) := (blk_cell HXs.out).trans rfl
      have y1 : w3.cell? ⟨w.heap.size, 1, none⟩ = some (.int .i64 R) := (blk_cell HX.out).trans rfl
      have y2 : w3.cell? ⟨w.heap.size, 2, none⟩ = some (.slice (some ⟨b, off, none⟩) l.length ca) := (blk_cell HX.out).trans rfl
      by_cases hr : x2 = R
      · have d1 : (x2 == R) = true := by simpa using hr
        have HGn : Hid (∀ j, j < k + 1 → GradeIs (netB S R l) j (f j)) := Lib.hid fun j hj => by
          by_cases e : j = k
          · subst e; rw [HZ.out j (Nat.le_refl _)]; exact HSk.out hr
          · exact HG.out j (by omega)
        have HZn : Hid (∀ j, k + 1 ≤ j → f j = 0) := Lib.hid fun j hj => HZ.out j (by omega)
        have hg3 : gb < w3.heap.size := by omega
        clear HG HZ HSk HGf HWi HGo hr
        go_wp2
        go_roundw
        case rel => exact ⟨k + 1, f, by omega, by go_num, HA, HGn, HZn, HX, HB, hg3⟩
        case measure => simp [intOf]; omega
      · have d1 : (x2 == R) = false := by simpa using hr
        have HGf2 := Lib.hid (fun n1 n2 b1 b2 h1 h2 => HGf.out hr n1 n2 b1 b2 h1 h2)
        have HGo2 := Lib.hid (fun n1 b1 h1 hb => HGo.out hr n1 b1 h1 hb)
        clear HGo
        clear HSk HGf hr
        have HBs := Lib.hid (Below.refl w3.heap.size w3)
        go_wp2
        go_loopw [10, 11, 47] (fun u v i wr => ∃ j : Nat, j ≤ l.length ∧ i = .int .i64 j ∧ Hid (wr.ownsRow w3.heap.size 3 1 u (castL (withK (netB S R l) k j)).length ((castL (withK (netB S R l) k j)).flatMap encI)) ∧ Hid (wr.ownsRow w3.heap.size 3 1 v (castL (lackK k j)).length ((castL (lackK k j)).flatMap encI)) ∧ Hid (u.ownBlock = none ∨ u.ownBlock ≠ v.ownBlock) ∧ Hid (Below w3.heap.size w3 wr)) (fun _ _ i _ => l.length - (intOf i).toNat)
        case atStart => exact ⟨0, by omega, rfl, Lib.hid (World.ownsRow_nil w3 w3.heap.size 3 1), Lib.hid (World.ownsRow_nil w3 w3.heap.size 3 1), Lib.hid (.inl rfl), HBs⟩
        case round =>
          clear HBs
          obtain ⟨j, hj, rfl, HO1, HO2, HD, HBr⟩ := hrel
          have z1 := cell_below HBr.out y1
          have z2 := cell_below HBr.out y2
          have r1 := cell_below HBr.out q1
          obtain ⟨wa, hwa⟩ : ∃ x, x = wr := ⟨_, rfl⟩
          subst hwa
          by_cases hjn : j < l.length
          · obtain ⟨b3, o3, hb3, g1, g2, g3⟩ := StepsAt.at_ ((Hl.out.below HB.out).below HBr.out) hjn
            injection hb3 with hb3
            injection hb3 with e1 e2
            subst e1 e2
            have HWj := Lib.hid (HWi.out j hjn)
            generalize l[j] = y at g1 g2 g3 HWj
            obtain ⟨v1, v2, v3⟩ := y
            dsimp only at g1 g2 g3 HWj
            have j0 : (0 : Int) ≤ (j : Int) := by omega
            have j1 : (j : Int) < (l.length : Int) := by omega
            have hl1 : (castL (withK (netB S R l) k j)).length ≤ 200 := by rw [castL_len]; exact Nat.le_trans (filt_len _ j) (by omega)
            have hl2 : (castL (lackK k j)).length ≤ 200 := by rw [castL_len]; exact Nat.le_trans (filt_len _ j) (by omega)
            have HP1 : Hid (withI (netB S R l) k j = true → castL (withK (netB S R l) k (j + 1)) = castL (withK (netB S R l) k j) ++ [(j : Int)]) := Lib.hid fun h => by unfold withK; rw [filt_put h, castL_put]
            have HS1 : Hid (withI (netB S R l) k j = false → castL (withK (netB S R l) k (j + 1)) = castL (withK (netB S R l) k j)) := Lib.hid fun h => by unfold withK; rw [filt_skip h]
            have HP2 : Hid (lackI k j = true → castL (lackK k (j + 1)) = castL (lackK k j) ++ [(j : Int)]) := Lib.hid fun h => by unfold lackK; rw [filt_put h, castL_put]
            have HS2 : Hid (lackI k j = false → castL (lackK k (j + 1)) = castL (lackK k j)) := Lib.hid fun h => by unfold lackK; rw [filt_skip h]
            generalize castL (withK (netB S R l) k j) = T1 at HO1 HP1 HS1 hl1
            generalize castL (lackK k j) = T2 at HO2 HP2 HS2 hl2
            have hbx := heap_alloc_new wa (.cells #[.int .i64 v1, .int .i64 v2, .int .i64 v3] 50)
            have hba := below_alloc' (Below.refl wa.heap.size wa) (.cells #[.int .i64 v1, .int .i64 v2, .int .i64 v3] 50)
            go_upto_region 13 with fail
            have n1 := (blk_cell (i := 1) hbx).trans rfl
            replace z1 := cell_below hba z1
            replace z2 := cell_below hba z2
            replace r1 := cell_below hba r1
            replace HO1 := Lib.hid (own_below' HO1.out hba)
            replace HO2 := Lib.hid (own_below' HO2.out hba)
            have HB4 := Lib.hid (below_trans' HBr.out hba)
            have hs4 := HB4.out.size
            clear hba g1 g2 g3 hbx HBr
            generalize wa.heap.size = xb at *
            generalize wa.alloc (.cells #[.int .i64 v1, .int .i64 v2, .int .i64 v3] 50) = w4 at *
            have hr1 := own_base HO1.out
            have hr2 := own_base HO2.out
            by_cases hjk : j = k
            · have HW1 : Hid (withI (netB S R l) k j = true) := Lib.hid (by rw [HWj.out]; simp [hjk])
              have HL1 : Hid (lackI k j = false) := Lib.hid (by unfold lackI; simp [hjk])
              have d2 : ((j : Int) == (k : Int)) = true := by rw [hjk]; simp
              have d3 : ((j : Int) != (k : Int)) = false := by rw [hjk]; simp
              clear hjk
              have hbk := heap_alloc_new w4 (.cells #[.int .i64 (j : Int)] 3)
              have HOA := Lib.hid (HO1.out.alloc (.cells #[.int .i64 (j : Int)] 3))
              have HOB := Lib.hid (HO2.out.alloc (.cells #[.int .i64 (j : Int)] 3))
              have hz := World.size_alloc w4 (.cells #[.int .i64 (j : Int)] 3)
              have hal := below_alloc' HB4.out (.cells #[.int .i64 (j : Int)] 3)
              go_wp2_with (at_builtin; refine wpList_pushL _ rfl (.tmp 62) (.tmp 64) 25 rfl elemI encI_len oneI Tryd.underlying25 w3.heap.size _ T1 rfl HOA.out (by omega) (j : Int) w4.heap.size (by rfl) _ rfl _ _ hbk (by omega) ?_; intro g5 cap5 w5 hO5 hg5 hat5)
              have HO1n := Lib.hid hO5
              have HO2n := Lib.hid (HOB.out.kept hg5 (ne_sym HD.out))
              have HDn := Lib.hid (ne_sym (apart_push HD.out hat5 (fun r e => by have := own_lt HOB.out r e; omega)))
              have HBn := Lib.hid (hal.grown hg5 (by omega) (fun r e => own_base HOA.out r e))
              have hsn := hg5.size
              clear hO5 hg5 hat5 hbk HOA HOB hal
              go_roundw
              case rel => exact ⟨j + 1, by omega, by go_num, by rw [HP1.out HW1.out, len_snoc]; exact HO1n, by rw [HS2.out HL1.out]; exact HO2n, HDn, HBn⟩
              case measure => simp [intOf]; omega
            · have d2 : ((j : Int) == (k : Int)) = false := by rw [beq_eq_false_iff_ne]; omega
              have d3 : ((j : Int) != (k : Int)) = true := by simp; omega
              have HL1 : Hid (lackI k j = true) := Lib.hid (by unfold lackI; simp [hjk])
              by_cases hvx : v2 = x2
              · have HW1 : Hid (withI (netB S R l) k j = false) := Lib.hid (by rw [HWj.out]; simp [hjk, hvx])
                have d4 : (v2 != x2) = false := by simpa using hvx
                clear hjk hvx
                have hbk2 := heap_alloc_new w4 (.cells #[.int .i64 (j : Int)] 3)
                have HOA2 := Lib.hid (HO2.out.alloc (.cells #[.int .i64 (j : Int)] 3))
                have HOB2 := Lib.hid (HO1.out.alloc (.cells #[.int .i64 (j : Int)] 3))
                have hz2 := World.size_alloc w4 (.cells #[.int .i64 (j : Int)] 3)
                have hal2 := below_alloc' HB4.out (.cells #[.int .i64 (j : Int)] 3)
                go_wp2_with (at_builtin; go_loud (refine wpList_pushL _ rfl (.tmp 69) (.tmp 71) 25 rfl elemI encI_len oneI Tryd.underlying25 w3.heap.size _ T2 rfl HOA2.out (by omega) (j : Int) w4.heap.size (by rfl) _ rfl _ _ hbk2 (by omega) ?_; intro g6 cap6 w6 hO6 hg6 hat6))
                have HO2n := Lib.hid hO6
                have HO1n := Lib.hid (HOB2.out.kept hg6 HD.out)
                have HDn := Lib.hid (apart_push (ne_sym HD.out) hat6 (fun r e => by have := own_lt HOB2.out r e; omega))
                have HBn := Lib.hid (hal2.grown hg6 (by omega) (fun r e => own_base HOA2.out r e))
                have hsn := hg6.size
                clear hO6 hg6 hat6 hbk2 HOA2 HOB2 hal2
                go_roundw
                case rel => exact ⟨j + 1, by omega, by go_num, by rw [HS1.out HW1.out]; exact HO1n, by rw [HP2.out HL1.out, len_snoc]; exact HO2n, HDn, HBn⟩
                case measure => simp [intOf]; omega
              · have HW1 : Hid (withI (netB S R l) k j = true) := Lib.hid (by rw [HWj.out]; simp [hvx])
                have d4 : (v2 != x2) = true := by simpa using hvx
                clear hjk hvx
                have hbk := heap_alloc_new w4 (.cells #[.int .i64 (j : Int)] 3)
                have HOA := Lib.hid (HO1.out.alloc (.cells #[.int .i64 (j : Int)] 3))
                have HOB := Lib.hid (HO2.out.alloc (.cells #[.int .i64 (j : Int)] 3))
                have hz := World.size_alloc w4 (.cells #[.int .i64 (j : Int)] 3)
                have hal := below_alloc' HB4.out (.cells #[.int .i64 (j : Int)] 3)
                go_upto_region 15 with (at_builtin; refine wpList_pushL _ rfl (.tmp 62) (.tmp 64) 25 rfl elemI encI_len oneI Tryd.underlying25 w3.heap.size _ T1 rfl HOA.out (by omega) (j : Int) w4.heap.size (by rfl) _ rfl _ _ hbk (by omega) ?_; intro g5 cap5 w5 hO5 hg5 hat5)
                have HO1n := Lib.hid hO5
                have HO2n := Lib.hid (HOB.out.kept hg5 (ne_sym HD.out))
                have HDn := Lib.hid (ne_sym (apart_push HD.out hat5 (fun r e => by have := own_lt HOB.out r e; omega)))
                have HBn := Lib.hid (hal.grown hg5 (by omega) (fun r e => own_base HOA.out r e))
                have hsn := hg5.size
                clear hO5 hg5 hat5 hbk HOA HOB hal
                have hbk2 := heap_alloc_new w5 (.cells #[.int .i64 (j : Int)] 3)
                have HOA2 := Lib.hid (HO2n.out.alloc (.cells #[.int .i64 (j : Int)] 3))
                have HOB2 := Lib.hid (HO1n.out.alloc (.cells #[.int .i64 (j : Int)] 3))
                have hz2 := World.size_alloc w5 (.cells #[.int .i64 (j : Int)] 3)
                have hal2 := below_alloc' HBn.out (.cells #[.int .i64 (j : Int)] 3)
                go_wp2_with (at_builtin; go_loud (refine wpList_pushL _ rfl (.tmp 69) (.tmp 71) 25 rfl elemI encI_len oneI Tryd.underlying25 w3.heap.size _ T2 rfl HOA2.out (by omega) (j : Int) w5.heap.size (by rfl) _ rfl _ _ hbk2 (by omega) ?_; intro g6 cap6 w6 hO6 hg6 hat6))
                have HO2m := Lib.hid hO6
                have HO1m := Lib.hid (HOB2.out.kept hg6 HDn.out)
                have HDm := Lib.hid (apart_push (ne_sym HDn.out) hat6 (fun r e => by have := own_lt HOB2.out r e; omega))
                have HBm := Lib.hid (hal2.grown hg6 (by omega) (fun r e => own_base HOA2.out r e))
                have hsm := hg6.size
                clear hO6 hg6 hat6 hbk2 HOA2 HOB2 hal2
                go_roundw
                case rel => exact ⟨j + 1, by omega, by go_num, by rw [HP1.out HW1.out, len_snoc]; exact HO1m, by rw [HP2.out HL1.out, len_snoc]; exact HO2m, HDm, HBm⟩
                case measure => simp [intOf]; omega
          · obtain rfl : j = l.length := by omega
            obtain ⟨G1, c1, hu1, _⟩ := own_form HO1.out
            obtain ⟨G2, c2, hu2, _⟩ := own_form HO2.out
            rw [hu1] at HO1
            rw [hu2] at HO2
            have HI1 : Hid (IntsAt wa G1 (castL (withK (netB S R l) k l.length))) := Lib.hid (RowsAt.of_own encI_len HO1.out)
            have HI2 : Hid (IntsAt wa G2 (castL (lackK k l.length))) := Lib.hid (RowsAt.of_own encI_len HO2.out)
            have HG2b : Hid (∀ a, G2 = some a → gb < a.block) := Lib.hid fun a e => by
              have h1 := own_base HO2.out a.block (by rw [e]; rfl)
              omega
            rw [castL_len] at hu1 hu2
            subst hu1 hu2
            have hl1 := filt_len (withI (netB S R l) k) l.length
            have hl2 := filt_len (lackI k) l.length
            have HLa := Lib.hid ((Hl.out.below HB.out).below HBr.out)
            have HXa := Lib.hid (blk_below HBr.out HX.out)
            have HAa := Lib.hid (HA.out.below HBr.out)
            have HBa := Lib.hid (below_trans' HB.out HBr.out)
            have hga : gb < wa.heap.size := by have := HBr.out.size; omega
            have HM1 : Hid (∀ x ∈ withK (netB S R l) k l.length, x < l.length) := Lib.hid fun x hx => List.mem_range.1 (List.mem_filter.1 hx).1
            have HM2 : Hid (∀ x ∈ lackK k l.length, x < l.length) := Lib.hid fun x hx => List.mem_range.1 (List.mem_filter.1 hx).1
            have HF1 := Lib.hid (Hfe.out HK.out G1 c1 (withK (netB S R l) k l.length) wa HLa.out HI1.out HM1.out (by unfold withK; omega))
            have z0 : wa.cell? ⟨w.heap.size, 0, none⟩ = some (.int .i64 S) := (blk_cell HXa.out).trans rfl
            clear HO1 HO2 HD HX HA HB r1 HWi HXs
            go_wp2_with fail
            refine HF1.out.mono ?_
            rintro e w5 ⟨v, rfl, ⟨n1, b1, rfl, hf1⟩, hB5⟩
            have HLb := Lib.hid (HLa.out.below hB5)
            have HXb := Lib.hid (blk_below hB5 HXa.out)
            have HAb := Lib.hid (HAa.out.below hB5)
            have HBb := Lib.hid (below_trans' HBa.out hB5)
            have HIb := Lib.hid (IntsAt.below HI2.out hB5)
            have hgb : gb < w5.heap.size := by have := hB5.size; omega
            have Hf1 := Lib.hid hf1
            clear hB5 hf1 HF1 z0 z1 z2 HLa HXa HAa HBa HI1 HI2 HBr
            have hsl : w.heap.size < gb := hs1
            by_cases hsk : b1 = false ∨ bc < n1
            · have HGn : Hid (∀ j, j < k + 1 → GradeIs (netB S R l) j (f j)) := Lib.hid fun j hj => by
                by_cases e : j = k
                · subst e; rw [HZ.out j (Nat.le_refl _)]; exact HGo2.out n1 b1 Hf1.out hsk
                · exact HG.out j (by omega)
              have HZn : Hid (∀ j, k + 1 ≤ j → f j = 0) := Lib.hid fun j hj => HZ.out j (by omega)
              cases b1
              · clear hsk
                go_wp2
                go_roundw
                case rel => exact ⟨k + 1, f, by omega, by go_num, HAb, HGn, HZn, HXb, HBb, hgb⟩
                case measure => simp [intOf]; omega
              · have hb : bc < n1 := by rcases hsk with h | h; cases h; exact h
                have d5 : decide (n1 > bc) = true := by simpa using hb
                clear hsk
                go_wp2
                go_roundw
                case rel => exact ⟨k + 1, f, by omega, by go_num, HAb, HGn, HZn, HXb, HBb, hgb⟩
                case measure => simp [intOf]; omega
            · obtain rfl : b1 = true := by cases b1; exact absurd (.inl rfl) hsk; rfl
              have hb : ¬ bc < n1 := fun h => hsk (.inr h)
              have d5 : decide (n1 > bc) = false := by simpa using hb
              obtain ⟨cx, fx⟩ := HAb.out k hkn
              rw [Nat.zero_add] at cx fx
              have hs9 := HAb.out.set hkn 2
              rw [Nat.zero_add] at hs9
              clear hsk
              go_upto_region 21 with fail
              have HA6 := Lib.hid hs9
              have HX6 := Lib.hid (blk_far (p := ⟨gb, k, none⟩) HXb.out (by dsimp only; omega) (.int .i64 2))
              have HB6 := Lib.hid (HBb.out.setCell (p := ⟨gb, k, none⟩) (by dsimp only; omega) (.int .i64 2))
              have HL6 := Lib.hid (Hl.out.below HB6.out)
              have HI6 : Hid (IntsAt (w5.setCell ⟨gb, k, none⟩ (.int .i64 2)) G2 (castL (lackK k l.length))) := Lib.hid fun i hi => by
                obtain ⟨bq, oq, e, hc⟩ := HIb.out i hi
                have h1 := HG2b.out _ e
                exact ⟨bq, oq, e, fun j v hv => cell_far (hc j v hv) (fun e => by injection e with e; dsimp only at h1; omega)⟩
              have hg6 : gb < (w5.setCell ⟨gb, k, none⟩ (.int .i64 2)).heap.size := by simp; omega
              clear hs9 cx fx HAb HXb HBb HLb HIb
              generalize w5.setCell ⟨gb, k, none⟩ (.int .i64 2) = w6 at *
              have z0 : w6.cell? ⟨w.heap.size, 0, none⟩ = some (.int .i64 S) := (blk_cell HX6.out).trans rfl
              have z1 : w6.cell? ⟨w.heap.size, 1, none⟩ = some (.int .i64 R) := (blk_cell HX6.out).trans rfl
              have z2 : w6.cell? ⟨w.heap.size, 2, none⟩ = some (.slice (some ⟨b, off, none⟩) l.length ca) := (blk_cell HX6.out).trans rfl
              have HF2 := Lib.hid (Hfe.out HK.out G2 c2 (lackK k l.length) w6 HL6.out HI6.out HM2.out (by unfold lackK; omega))
              go_wp2_with fail
              refine HF2.out.mono ?_
              rintro e w7 ⟨v, rfl, ⟨n2, b2, rfl, hf2⟩, hB7⟩
              have HX7 := Lib.hid (blk_below hB7 HX6.out)
              have HA7 := Lib.hid (HA6.out.below hB7)
              have HB7 := Lib.hid (below_trans' HB6.out hB7)
              have hg7 : gb < w7.heap.size := by have := hB7.size; omega
              have HGr := Lib.hid (HGf2.out n1 n2 true b2 Hf1.out hf2)
              clear hB7 hf2 HF2 z0 z1 z2 HX6 HA6 HB6 HL6 HI6
              have HZ2 : Hid (∀ v : Int, ∀ j, k + 1 ≤ j → (fun x => if x = k then v else f x) j = 0) := Lib.hid fun v j hj => by
                dsimp only
                rw [if_neg (by omega)]; exact HZ.out j (by omega)
              by_cases h12 : b2 = true ∧ n2 = bc
              · obtain ⟨rfl, rfl⟩ := h12
                have d6 : (n2 == n2) = true := by simp
                obtain ⟨cx, fx⟩ := HA7.out k hkn
                rw [Nat.zero_add] at cx fx
                have hs9 := HA7.out.set hkn 1
                rw [Nat.zero_add] at hs9
                have HA8 : Hid (Arr (w7.setCell ⟨gb, k, none⟩ (.int .i64 1)) gb 0 l.length fun x => if x = k then 1 else f x) := Lib.hid (hs9.congr fun x _ => by
                  by_cases e : x = k
                  · rw [if_pos e, if_pos e]
                  · rw [if_neg e, if_neg e, if_neg e])
                have HX8 := Lib.hid (blk_far (p := ⟨gb, k, none⟩) HX7.out (by dsimp only; omega) (.int .i64 1))
                have HB8 := Lib.hid (HB7.out.setCell (p := ⟨gb, k, none⟩) (by dsimp only; omega) (.int .i64 1))
                have hg8 : gb < (w7.setCell ⟨gb, k, none⟩ (.int .i64 1)).heap.size := by simp; omega
                have HGn : Hid (∀ j, j < k + 1 → GradeIs (netB S R l) j ((fun x => if x = k then (1 : Int) else f x) j)) := Lib.hid fun j hj => by
                  dsimp only
                  by_cases e : j = k
                  · subst e
                    have h := HGr.out
                    rw [if_neg (by simp; omega), if_pos ⟨rfl, rfl⟩] at h
                    rw [if_pos rfl]; exact h
                  · rw [if_neg e]; exact HG.out j (by omega)
                clear hs9 HA7 HX7 HB7 HGr
                go_wp2
                go_roundw
                case rel => exact ⟨k + 1, _, by omega, by go_num, HA8, HGn, Lib.hid (HZ2.out 1), HX8, HB8, hg8⟩
                case measure => simp [intOf]; omega
              · have HGn : Hid (∀ j, j < k + 1 → GradeIs (netB S R l) j ((fun x => if x = k then (2 : Int) else f x) j)) := Lib.hid fun j hj => by
                  dsimp only
                  by_cases e : j = k
                  · subst e
                    have h := HGr.out
                    rw [if_neg (by simp; omega), if_neg h12] at h
                    rw [if_pos rfl]; exact h
                  · rw [if_neg e]; exact HG.out j (by omega)
                clear HGr
                cases b2
                · clear h12
                  go_wp2
                  go_roundw
                  case rel => exact ⟨k + 1, _, by omega, by go_num, HA7, HGn, Lib.hid (HZ2.out 2), HX7, HB7, hg7⟩
                  case measure => simp [intOf]; omega
                · have d6 : (n2 == bc) = false := by
                    rw [beq_eq_false_iff_ne]; exact fun h => h12 ⟨rfl, h⟩
                  clear h12
                  go_wp2
                  go_roundw
                  case rel => exact ⟨k + 1, _, by omega, by go_num, HA7, HGn, Lib.hid (HZ2.out 2), HX7, HB7, hg7⟩
                  case measure => simp [intOf]; omega
    · obtain rfl : k = l.length := by omega
      have HIf := Lib.hid (Arr.ints HA.out)
      have HGf : Hid (∀ i (h : i < ((List.range l.length).map f).length), GradeIs (netB S R l) i ((List.range l.length).map f)[i]) := Lib.hid fun i h => by
        rw [List.getElem_map, List.getElem_range]
        exact HG.out i (by simpa using h)
      go_wp2
      go_ret2
      exact Ret.mk ⟨.inr (.inr ⟨HE.out, HFl.out, (List.range l.length).map f, some ⟨gb, 0, none⟩, l.length, by simp, by simp, HIf.out, HGf.out⟩), HB.out⟩
end Go.Proofs.YtggcooplhodocaaDoor
