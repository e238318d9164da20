/- CheckPrices: the bound of prices, or the error. -/
import Derived.Test.YtggcooplhodocaaDoorK6
import Derived.Test.YtggcooplhodocaaDoorP0
namespace Go.Proofs.YtggcooplhodocaaDoor
open Go.RowKit Go.Shelf Go.Maps Fam
attribute [local go_sem] Oper.semAt_some

theorem cp1_any (x : Int) (w : World) : Calls Tryd.prog 45 #[.int .i64 x] w (Ret fun v w' => v = .bool (decide (x < 0)) ∧ Below w.heap.size w w') := by
  go_enter Tryd.func45, Tryd.ntmps45
  go_wp2
  go_ret
  exact Ret.mk ⟨rfl, Below.refl _ _⟩
theorem infoI64 : (Tryd.prog.info? 2).map (fun i => (i.zero, i.size, i.bytes)) = some (some (.int .i64 0), 1, 8) := by kernel_rfl
theorem enters_cp1 : ∀ args w, (callFunc 45 args).run Tryd.prog w = .ok (.enter 45 args) w := fun args w => by simp [go_sem]
/-- a loop over the steps into a group, whose assignments write slots alone -/
theorem wp_rangeY {α : Type} {gop : Operand} {ps : Array Tmp} {assign body : Code} {Q : Exit → Act → World → Prop} {a : Act} {w : World}
    {gf : Nat} {lb : Array Value} (hg : a.eval gop = .func (.func gf) #[] lb) (eg : ∀ args w, (callFunc gf args).run Tryd.prog w = .ok (.enter gf args) w)
    {encs : α → Array Value} (n x0 : Nat) (h1 : n ≤ w.heap.size) {xs : List α} (hseq : SeqStopsK Fence.wide 9 Tryd.prog gf lb encs (KeepX n x0) (fun ys => ys = xs) (fun pre => pre <+: xs) xs.length w)
    (hps : ∀ x, (encs x).size = ps.size)
    (I : List α → World → Prop) (hI : OwnFrom w.heap.size I) (h0 : I [] w) (put : α → Array Value → Array Value)
    (hassign : ∀ (l : Nat) (x : α) (W : World) (K : Act → World → Prop), K { tmps := put x a.tmps, defers := [] } W →
      assign.wpIn (Fence.wide.inRound l) 8 Tryd.prog (Exit.then K (fun _ _ _ => False)) { tmps := (ps.zip (encs x)).foldl (fun t (p, v) => t.setIfInBounds p v) a.tmps, defers := [] } W)
    (hbody : ∀ (l : Nat) (pre : List α) (x : α) (W : World), w.heap.size ≤ l → I pre W → pre.length < xs.length → body.wpIn (Fence.wide.inRound l) 8 Tryd.prog (ownPostG w.heap.size (KeepX n x0) I (fun _ _ _ => False) (pre ++ [x]) W) { tmps := put x a.tmps, defers := [] } W)
    (hdone : ∀ (D : Nat) (W : World), w.heap.size ≤ D → I xs W → W.heap[D]? = some (.deferred (some [])) → Q .normal { a with defers := { target := .collected D, args := #[] } :: a.defers } W) :
    (Code.rangeFunc gop ps assign body).wp Tryd.prog Q a w :=
  wp_rangeX hg eg n x0 h1 hseq hps I hI h0 (fun x a' _ => a' = { tmps := put x a.tmps, defers := [] }) (fun x a' _ W W' row h _ _ => h)
    (fun l pre x W K hI hK => hassign l x W K (hK _ _ ((KeepsOthers.refl W).from _) (KeepX.refl _ _ _) hI rfl)) (fun l pre x a' W hl _ hI hA hlen => by subst hA; exact hbody l pre x W hl hI hlen) hdone
theorem Arr.grown {W W' : World} {row : Option Nat} {b n : Nat} {f : Nat → Int} (h : Arr W b 0 n f) (hg : W.grownBy W' row) (hr : row ≠ some b) : Arr W' b 0 n f := fun i hi => by
  have e : W'.heap[b]? = W.heap[b]? := hg.block b (block_lt_of_cell (h i hi).1) (fun e => hr e.symm)
  exact ⟨(World.cell?_of_block (a := ⟨b, 0 + i, none⟩) e).trans (h i hi).1, (World.frozen?_of_block (a := ⟨b, 0 + i, none⟩) e).trans (h i hi).2⟩
theorem Arr.keepX {n' x b n : Nat} {W W' : World} {f : Nat → Int} (h : Arr W b 0 n f) (hk : KeepX n' x W W') (hb : b < n') (hx : b ≠ x) : Arr W' b 0 n f := fun i hi => by
  have e : W'.heap[b]? = W.heap[b]? := hk.block b hb hx
  exact ⟨(World.cell?_of_block (a := ⟨b, 0 + i, none⟩) e).trans (h i hi).1, (World.frozen?_of_block (a := ⟨b, 0 + i, none⟩) e).trans (h i hi).2⟩
theorem below_keepX {m n x : Nat} {X Y Z : World} (h : Below m X Y) (k : KeepX n x Y Z) (h1 : m ≤ n) (h2 : m ≤ x) : Below m X Z := ⟨k.os.trans h.os, k.tape.trans h.tape, k.output.trans h.output, Nat.le_trans h.size k.size, fun b hb => (k.block b (by omega) (by omega)).trans (h.block b hb)⟩
/-- between two groups -/
structure PrI (S R : Int) (A : Option Addr) (ca : Nat) (l : List St) (lb : Nat) (P : List Pc) (w : World) (k : Nat) (ds : List Nat) (W : World) : Prop where
  book : W.heap[w.heap.size]? = some (.cells #[.int .i64 S, .int .i64 R, .slice A l.length ca] 24 (0, 0))
  box : W.heap[lb + 1]? = some (.cells #[.slice (some ⟨lb, 0, none⟩) l.length l.length] 73 (0, 0))
  arr : Arr W lb 0 l.length (leftK (netB S R l) P k)
  marks : MarksAt (lb + 2) ds W
  below : Below w.heap.size w W
  size : lb + 1 < W.heap.size
  ok : ∀ x ∈ P.take k, grpOk S R x
theorem PrI.next {S R : Int} {A : Option Addr} {ca : Nat} {l : List St} {lb : Nat} {P : List Pc} {w : World} {k : Nat} {ds : List Nat} {W W' : World} (h : PrI S R A ca l lb P w k ds W) (hb : Below W.heap.size W W') : PrI S R A ca l lb P w k ds W' :=
  ⟨blk_below hb h.book, blk_below hb h.box, h.arr.below hb, h.marks.below hb, below_trans' h.below hb, by have := hb.size; have := h.size; omega, h.ok⟩

set_option maxRecDepth 100000 in
set_option maxHeartbeats 8000000 in
theorem checkPrices_any (S R : Int) (A B : Option Addr) (ca cb : Nat) (l : List St) (P : List Pc) (w : World) (hl : StepsAt w A l) (hn : l.length ≤ 100000) (hP : PsAt w B P) (hgl : ∀ x ∈ P, x.1.length ≤ 100000) :
    Calls Tryd.prog 21 #[vBook S R A l.length ca, .slice B P.length cb] w (Ret fun v w' => v = .tuple #[.int .i64 (pricesV S R l P).1, .int .i64 (pricesV S R l P).2] ∧ Below w.heap.size w w') := by
  have Hcb := Lib.hid (fun W (h : StepsAt W A l) => checkBook_any S R A ca l W h hn)
  have Hl := Lib.hid hl; clear hl
  have HP := Lib.hid hP; clear hP
  have HGl := Lib.hid hgl; clear hgl
  unfold vBook at Hcb ⊢
  have hX := heap_alloc_new w (.cells #[.int .i64 S, .int .i64 R, .slice A l.length ca] 24)
  have hba := below_alloc' (Below.refl w.heap.size w) (.cells #[.int .i64 S, .int .i64 R, .slice A l.length ca] 24)
  have y0 := (blk_cell (i := 0) hX).trans rfl
  have y1 := (blk_cell (i := 1) hX).trans rfl
  have y2 := (blk_cell (i := 2) hX).trans rfl
  refine calls_of_wp_marks Tryd.func21 rfl ?_
  simp only [Tryd.ntmps21, List.size_toArray, List.length_cons, List.length_nil, Nat.reduceAdd, Nat.reduceSub, Array.replicate_succ, Array.replicate_zero, List.push_toArray, List.append_toArray, List.nil_append, List.cons_append]
  go_wp2_with fail
  have HB0 := Lib.hid hba
  have HX0 := Lib.hid hX
  clear hba hX
  generalize w.alloc (.cells #[.int .i64 S, .int .i64 R, .slice A l.length ca] 24) = w0 at *
  refine (Hcb.out w0 (Hl.out.below HB0.out)).mono ?_
  rintro e w1 ⟨v, rfl, rfl, hB1⟩
  have HB1 := Lib.hid (below_trans' HB0.out hB1)
  have HX1 := Lib.hid (blk_below hB1 HX0.out)
  replace y0 := cell_below hB1 y0
  replace y1 := cell_below hB1 y1
  replace y2 := cell_below hB1 y2
  clear hB1 HB0 HX0 Hcb
  by_cases he : bookErr S R l = 0
  rotate_left 1
  · have d1 : (bookErr S R l != 0) = true := by simpa using he
    have HE := Lib.hid (pricesV_err he P)
    clear he
    go_wp2
    exact leaves_marks [] _ (MarksAt.nil w.heap.size _) ⟨_, results_tmp2 rfl _ _ _, Ret.mk' (by rw [HE.out]; rfl) ⟨rfl, HB1.out⟩⟩
  have hok := bookErr_iff.1 he
  have HK := Lib.hid hok
  rw [he]
  clear he
  by_cases hp : 40 < P.length
  · have HE := Lib.hid (pricesV_many hok hp)
    have d1 : (40 : Int) < (P.length : Int) := by omega
    clear hok
    go_wp2
    exact leaves_marks [] _ (MarksAt.nil w.heap.size _) ⟨_, results_tmp2 rfl _ _ _, Ret.mk' (by rw [HE.out]; rfl) ⟨rfl, HB1.out⟩⟩
  have hp40 : P.length ≤ 40 := by omega
  have d1 : ¬ (40 : Int) < (P.length : Int) := by omega
  have hm200 := hok.many
  have hdim := hok.dim
  clear hp hok
  obtain ⟨zs, hzs⟩ : ∃ zs : Array Value, zs = madeCells #[.int .i64 0] l.length := ⟨_, rfl⟩
  have hmk := fun W => run_make_row' (P := Tryd.prog) 73 2 (.int .i64 0) 8 Tryd.underlying73 infoI64 rfl .i64 .i64 l.length (by omega) (by omega) W
  have hA0 := made_arr w1 l.length 2
  rw [← hzs] at hmk hA0
  clear hzs
  have hbz := below_alloc' (below_alloc' (Below.refl w1.heap.size w1) (.cells zs 2)) (.cells #[.slice (some ⟨w1.heap.size, 0, none⟩) l.length l.length] 73)
  have hbx := heap_alloc_at (w1.alloc (.cells zs 2)) (.cells #[.slice (some ⟨w1.heap.size, 0, none⟩) l.length l.length] 73) (n := w1.heap.size + 1) (by simp)
  have hA1 := hA0.below (below_alloc' (Below.refl _ _) (.cells #[.slice (some ⟨w1.heap.size, 0, none⟩) l.length l.length] 73))
  go_upto_region 7 with fail
  clear hmk hA0
  have hs1 := blk_lt HX1.out
  have HB2 := Lib.hid (below_trans' HB1.out hbz)
  have HX2 := Lib.hid (blk_below hbz HX1.out)
  have HA2 := Lib.hid hA1
  have HBx2 := Lib.hid hbx
  have hs2 := hbz.size
  have hsl := blk_lt hbx
  clear y0 y1 y2 hbz hbx hA1 HX1 hs2
  obtain ⟨lb, hlb⟩ : ∃ lb, lb = w1.heap.size := ⟨_, rfl⟩
  rw [← hlb] at HBx2 HA2 HB2 HX2 hs1 hsl ⊢
  have HLB := Lib.hid hlb
  clear hlb
  generalize (w1.alloc (.cells zs 2)).alloc (.cells #[.slice (some ⟨lb, 0, none⟩) l.length l.length] 73) = w2 at *
  have y2 : w2.cell? ⟨w.heap.size, 2, none⟩ = some (.slice A l.length ca) := (blk_cell HX2.out).trans rfl
  go_wp2
  clear y2
  go_loopw [33] (fun i wr => ∃ k : Nat, k ≤ l.length ∧ i = .int .i64 k ∧ Hid (Arr wr lb 0 l.length fun x => if x < k then (netB S R l).ch x else 0) ∧ Hid (wr.heap[w.heap.size]? = some (.cells #[.int .i64 S, .int .i64 R, .slice A l.length ca] 24 (0, 0))) ∧ Hid (wr.heap[lb + 1]? = some (.cells #[.slice (some ⟨lb, 0, none⟩) l.length l.length] 73 (0, 0))) ∧ Hid (Below w.heap.size w wr) ∧ lb + 1 < wr.heap.size) (fun i _ => l.length - (intOf i).toNat)
  case atStart => exact ⟨0, by omega, rfl, Lib.hid (HA2.out.congr fun x _ => by simp), HX2, HBx2, HB2, hsl⟩
  case round =>
    clear HA2 HX2 HBx2 HB2 hsl HLB
    obtain ⟨k, hk, rfl, HA2, HX2, HBx2, HB2, hsl⟩ := hrel
    by_cases hkn : k < l.length
    · obtain ⟨b, off, rfl, g1, g2, g3⟩ := StepsAt.at_ (Hl.out.below HB2.out) hkn
      have hat := stAt_eq hkn
      have hbk := (HK.out.stp _ (List.getElem_mem hkn)).2.2.2
      generalize l[k] = x at g1 g2 g3 hat hbk
      obtain ⟨x1, x2, x3⟩ := x
      dsimp only at g1 g2 g3 hbk
      have HCh : Hid ((netB S R l).ch k = x3) := Lib.hid (by show (stAt l k).2.2 = _; rw [hat])
      clear hat
      have k0 : (0 : Int) ≤ (k : Int) := by omega
      have k1 : (k : Int) < (l.length : Int) := by omega
      have hbx := heap_alloc_new wr (.cells #[.int .i64 x1, .int .i64 x2, .int .i64 x3] 50)
      have hba := below_alloc' (Below.refl wr.heap.size wr) (.cells #[.int .i64 x1, .int .i64 x2, .int .i64 x3] 50)
      go_upto_region 10 with fail
      replace HX2 := Lib.hid (blk_below hba HX2.out)
      replace HBx2 := Lib.hid (blk_below hba HBx2.out)
      replace HA2 := Lib.hid (HA2.out.below hba)
      replace HB2 := Lib.hid (below_trans' HB2.out hba)
      have hsz := hba.size
      clear hba g1 g2 g3
      generalize wr.alloc (.cells #[.int .i64 x1, .int .i64 x2, .int .i64 x3] 50) = w3 at *
      obtain ⟨c1, f1⟩ := HA2.out k hkn
      rw [Nat.zero_add] at c1 f1
      have hs9 := HA2.out.set hkn x3
      rw [Nat.zero_add] at hs9
      have HA9 : Hid (Arr (w3.setCell ⟨lb, k, none⟩ (.int .i64 x3)) lb 0 l.length fun x => if x < k + 1 then (netB S R l).ch x else 0) := Lib.hid (Arr.congr hs9 fun i _ => by
        by_cases e : i = k
        · rw [if_pos e, if_pos (by omega), e, HCh.out]
        · rw [if_neg e]
          by_cases e2 : i < k
          · rw [if_pos e2, if_pos (by omega)]
          · rw [if_neg e2, if_neg (by omega)])
      have HX9 := Lib.hid (blk_far (p := ⟨lb, k, none⟩) HX2.out (by dsimp only; omega) (.int .i64 x3))
      have HBx9 := Lib.hid (blk_far (p := ⟨lb, k, none⟩) HBx2.out (by dsimp only; omega) (.int .i64 x3))
      have HB9 := Lib.hid (HB2.out.setCell (p := ⟨lb, k, none⟩) (by dsimp only; omega) (.int .i64 x3))
      have p0 : w3.cell? ⟨lb + 1, 0, none⟩ = some (.slice (some ⟨lb, 0, none⟩) l.length l.length) := (blk_cell HBx2.out).trans rfl
      have q2 := (blk_cell (i := 2) hbx).trans rfl
      have hs9' : lb + 1 < (w3.setCell ⟨lb, k, none⟩ (.int .i64 x3)).heap.size := by simp; omega
      clear hs9 HB2 HBx2 HX2 HA2 hbx hsz hsl
      go_wp2
      go_roundw
      case rel => exact ⟨k + 1, by omega, by go_num, HA9, HX9, HBx9, HB9, hs9'⟩
      case measure => simp [intOf]; omega
    · obtain rfl : k = l.length := by omega
      have HA3 : Hid (Arr wr lb 0 l.length (leftK (netB S R l) P 0)) := Lib.hid (HA2.out.congr fun x hx => by rw [if_pos hx, leftK_zero])
      clear HA2
      go_wp2
      refine wp_loop_ghost_k (fun n a' wr => ∃ (f : Nat → Value) (defs : List Deferred), (∃ k ds, n + k = P.length ∧ f 10 = .int .i64 (sumP (P.take k)) ∧ f 46 = .int .i64 (k : Nat) ∧ defs = ds.map mark ∧ Hid (PrI S R A ca l lb P w k ds wr)) ∧ a' = { tmps := #[f 0, f 1, .pointer (some ⟨w.heap.size, 0, none⟩), f 3, f 4, f 5, f 6, .pointer (some ⟨lb + 1, 0, none⟩), f 8, f 9, f 10, f 11, f 12, f 13, f 14, f 15, f 16, f 17, f 18, f 19, f 20, f 21, f 22, f 23, f 24, f 25, f 26, f 27, f 28, f 29, f 30, f 31, f 32, f 33, f 34, f 35, f 36, f 37, f 38, f 39, f 40, f 41, f 42, f 43, .slice B P.length cb, .int .i64 (P.length : Nat), f 46, f 47, f 48, f 49, f 50, f 51, f 52, f 53, f 54, f 55, f 56, f 57, f 58, f 59, f 60, f 61, f 62, f 63, f 64, f 65, f 66, f 67, f 68, f 69, f 70, f 71, f 72, f 73, f 74, f 75, f 76, f 77, f 78, f 79, f 80, f 81, f 82, f 83, f 84, f 85, f 86, f 87, f 88, f 89, f 90, f 91, f 92, f 93, f 94, f 95, f 96, f 97, f 98, f 99, f 100, f 101, f 102, f 103, f 104, f 105, f 106, f 107], defers := defs }) P.length ?start ?round
      case start =>
        refine ⟨fun i => List.getD [_, _, undef, _, _, _, _, undef, _, _, _, _, _, _, _, _, _, _, _, _, _, _, _, _, _, _, _, _, _, _, _, _, _, _, _, _, _, _, _, _, _, _, _, _, undef, undef, _, _, _, _, _, _, _, _, _, _, _, _, _, _, _, _, _, _, _, _, _, _, _, _, _, _, _, _, _, _, _, _, _, _, _, _, _, _, _, _, _, _, _, _, _, _, _, _, _, _, _, _, _, _, _, _, _, _, _, _, _, _] i undef, _, ?_, rfl⟩
        exact ⟨0, [], by omega, by simp [sumP, sm], rfl, rfl, Lib.hid ⟨HX2.out, HBx2.out, HA3.out, MarksAt.nil _ _, HB2.out, hsl, fun x h => by simp at h⟩⟩
      case round =>
        clear HA3 HX2 HBx2 HB2 hsl
        rintro n _ wr ⟨f, _, ⟨k, ds, hnk, h10, h46, rfl, HI⟩, rfl⟩ J K hJ hK
        have HJK := Lib.hid (fun (k : Nat) a' w' (hk : k < n) h => hK a' w' ⟨k, hk, hJ k a' w' h⟩)
        clear hJ hK
        rw [h10, h46]
        clear h10 h46
        by_cases hkP : k < P.length
        · obtain ⟨b, off, G, c, rfl, g0, g1, hGi⟩ := (HP.out.below HI.out.below).at_ hkP
          have HLn : Hid (∀ i, leftK (netB S R l) P (k + 1) i = leftK (netB S R l) P k i - toll (netB S R l) i (grp P[k].1, P[k].2)) := Lib.hid (fun i => leftK_next hkP i)
          have HSn := Lib.hid (sumP_next hkP)
          have HMx := Lib.hid (List.getElem_mem hkP)
          have HTk := Lib.hid (take_snoc' hkP)
          have hgl := HGl.out _ HMx.out
          have hsb := sumP_bound (P := P) (k := k) (fun x hx => (HI.out.ok x hx).2.2.1)
          have hlk : (P.take k).length ≤ 40 := by rw [List.length_take]; omega
          generalize P[k] = x at g0 g1 hGi HLn HSn HMx HTk hgl
          obtain ⟨g, p⟩ := x
          dsimp only at g0 g1 hGi HLn HSn hgl
          obtain ⟨bd, hbd⟩ : ∃ bd, sumP (P.take k) = bd := ⟨_, rfl⟩
          rw [hbd] at HSn hsb ⊢
          clear hbd
          have hbd0 := hsb.1
          have hbd1 : bd ≤ 43980465111040 := by omega
          clear hsb
          have HGi := Lib.hid hGi
          have k0 : (0 : Int) ≤ (k : Int) := by omega
          have k1 : (k : Int) < (P.length : Int) := by omega
          have hpx := heap_alloc_new wr (.cells #[.slice G g.length c, .int .i64 p] 38)
          have hba := below_alloc' (Below.refl wr.heap.size wr) (.cells #[.slice G g.length c, .int .i64 p] 38)
          go_upto_region 16 with fail
          have hpw := HI.out.size
          replace HI := Lib.hid (HI.out.next hba)
          replace HGi := Lib.hid (IntsAt.below HGi.out hba)
          have hpb := blk_lt hpx
          clear hba g0 g1 hGi
          generalize wr.alloc (.cells #[.slice G g.length c, .int .i64 p] 38) = W3 at *
          generalize wr.heap.size = pb at *
          have HPx := Lib.hid hpx
          have q0 : W3.cell? ⟨pb, 0, none⟩ = some (.slice G g.length c) := (blk_cell HPx.out).trans rfl
          clear hpx
          go_wp2
          clear q0
          refine wp_loop_ghost_k (fun n a' wr => ∃ f2 : Nat → Value, (∃ (j m : Nat) (last : Int), n + j = g.length ∧ f2 13 = .int .i64 (m : Nat) ∧ f2 14 = .int .i64 last ∧ f2 53 = .int .i64 (j : Nat) ∧ wr = W3 ∧ Hid (GrpK S R g j m last)) ∧ a' = { tmps := #[f2 0, f2 1, .pointer (some ⟨w.heap.size, 0, none⟩), f2 3, f2 4, f2 5, f2 6, .pointer (some ⟨lb + 1, 0, none⟩), f2 8, f2 9, .int .i64 bd, f2 11, .pointer (some ⟨pb, 0, none⟩), f2 13, f2 14, f2 15, f2 16, f2 17, f2 18, f2 19, f2 20, f2 21, f2 22, f2 23, f2 24, f2 25, f2 26, f2 27, f2 28, f2 29, f2 30, f2 31, f2 32, f2 33, f2 34, f2 35, f2 36, f2 37, f2 38, f2 39, f2 40, f2 41, f2 42, f2 43, .slice (some ⟨b, off, none⟩) P.length cb, .int .i64 (P.length : Nat), .int .i64 (k : Nat), f2 47, f2 48, f2 49, f2 50, .slice G g.length c, .int .i64 (g.length : Nat), f2 53, f2 54, f2 55, f2 56, f2 57, f2 58, f2 59, f2 60, f2 61, f2 62, f2 63, f2 64, f2 65, f2 66, f2 67, f2 68, f2 69, f2 70, f2 71, f2 72, f2 73, f2 74, f2 75, f2 76, f2 77, f2 78, f2 79, f2 80, f2 81, f2 82, f2 83, f2 84, f2 85, f2 86, f2 87, f2 88, f2 89, f2 90, f2 91, f2 92, f2 93, f2 94, f2 95, f2 96, f2 97, f2 98, f2 99, f2 100, f2 101, f2 102, f2 103, f2 104, f2 105, f2 106, f2 107], defers := List.map mark ds }) g.length ?st2 ?rd2
          case st2 =>
            refine ⟨fun i => List.getD [_, _, undef, _, _, _, _, undef, _, _, undef, _, undef, _, _, _, _, _, _, _, _, _, _, _, _, _, _, _, _, _, _, _, _, _, _, _, _, _, _, _, _, _, _, _, undef, undef, undef, _, _, _, _, undef, undef, _, _, _, _, _, _, _, _, _, _, _, _, _, _, _, _, _, _, _, _, _, _, _, _, _, _, _, _, _, _, _, _, _, _, _, _, _, _, _, _, _, _, _, _, _, _, _, _, _, _, _, _, _, _, _] i undef, ?_, rfl⟩
            exact ⟨0, 0, -1, by omega, rfl, rfl, rfl, rfl, Lib.hid (GrpK.start S R g)⟩
          case rd2 =>
            rintro n2 _ wr2 ⟨f2, ⟨j, m, last, hnj, h13, h14, h53, rfl, HGk⟩, rfl⟩ J2 K2 hJ hK
            have HJK2 := Lib.hid (fun (k : Nat) a' w' (hk : k < n2) h => hK a' w' ⟨k, hk, hJ k a' w' h⟩)
            clear hJ hK
            rw [h13, h14, h53]
            clear h13 h14 h53
            by_cases hjg : j < g.length
            · obtain ⟨b2, o2, rfl, q1⟩ := IntsAt.at_ HGi.out hjg
              have y0 : wr2.cell? ⟨w.heap.size, 0, none⟩ = some (.int .i64 S) := (blk_cell HI.out.book).trans rfl
              have y1 : wr2.cell? ⟨w.heap.size, 1, none⟩ = some (.int .i64 R) := (blk_cell HI.out.book).trans rfl
              have HSt : Hid (g[j] ≤ last ∨ S ≤ g[j] ∨ g[j] = R → pricesV S R l P = (0, 3)) := Lib.hid fun h => pricesV_grp HK.out hp40 HMx.out (HGk.out.stop hjg h)
              have HNx : Hid (∀ n : Nat, g[j] = (n : Int) → last < n → (n : Int) < S → (n : Int) ≠ R → m ||| 2 ^ n < 65536 → GrpK S R g (j + 1) (m ||| 2 ^ n) n) := Lib.hid fun n h1 h2 h3 h4 h5 => HGk.out.next hdim.2 hjg h1 h2 h3 h4 h5
              have hneg := HGk.out.neg
              have hml := HGk.out.lt
              generalize g[j] = v at q1 HSt HNx
              have j0 : (0 : Int) ≤ (j : Int) := by omega
              have j1 : (j : Int) < (g.length : Int) := by omega
              clear HGk
              by_cases c1 : v ≤ last
              · have HE := Lib.hid (HSt.out (.inl c1))
                clear HSt HNx
                go_wp2
                exact leaves_marks ds _ HI.out.marks ⟨_, results_tmp2 rfl _ _ _, Ret.mk' (by rw [HE.out]; rfl) ⟨rfl, putAll_below (by omega) ds _ HI.out.marks HI.out.below⟩⟩
              · by_cases c2 : S ≤ v
                · have HE := Lib.hid (HSt.out (.inr (.inl c2)))
                  clear HSt HNx
                  go_wp2
                  exact leaves_marks ds _ HI.out.marks ⟨_, results_tmp2 rfl _ _ _, Ret.mk' (by rw [HE.out]; rfl) ⟨rfl, putAll_below (by omega) ds _ HI.out.marks HI.out.below⟩⟩
                · by_cases c3 : v = R
                  · have HE := Lib.hid (HSt.out (.inr (.inr c3)))
                    have d3 : (v == R) = true := by simpa using c3
                    clear HSt HNx c3
                    go_wp2
                    exact leaves_marks ds _ HI.out.marks ⟨_, results_tmp2 rfl _ _ _, Ret.mk' (by rw [HE.out]; rfl) ⟨rfl, putAll_below (by omega) ds _ HI.out.marks HI.out.below⟩⟩
                  · have d3 : (v == R) = false := by simpa using c3
                    obtain ⟨nn, rfl⟩ := Int.eq_ofNat_of_zero_le (by omega : 0 ≤ v)
                    obtain ⟨hw1, hw2, hw3⟩ := put_bit (r := nn) hml (by omega)
                    have HG2 := Lib.hid (HNx.out nn rfl (by omega) (by omega) c3 hw3)
                    have hn0 : (0 : Int) ≤ (nn : Int) := by omega
                    have hn16 : nn < 16 := by omega
                    clear HSt HNx c3
                    obtain ⟨m2, hm2⟩ : ∃ m2, m ||| 2 ^ nn = m2 := ⟨_, rfl⟩
                    rw [hm2] at hw2 HG2
                    obtain ⟨qq, hqq⟩ : ∃ qq, 2 ^ nn = qq := ⟨_, rfl⟩
                    have hw4 : wrap64 (2 ^ nn) = (qq : Int) := by rw [← IntWalk.i64_left, hw1, hqq]
                    rw [hqq] at hw2
                    clear hm2 hw3 hw1
                    go_wp2
                    refine HJK2.out (n2 - 1) _ _ (by omega) ⟨fun i => List.getD [_, _, undef, _, _, _, _, undef, _, _, undef, _, undef, _, _, _, _, _, _, _, _, _, _, _, _, _, _, _, _, _, _, _, _, _, _, _, _, _, _, _, _, _, _, _, undef, undef, undef, _, _, _, _, undef, undef, _, _, _, _, _, _, _, _, _, _, _, _, _, _, _, _, _, _, _, _, _, _, _, _, _, _, _, _, _, _, _, _, _, _, _, _, _, _, _, _, _, _, _, _, _, _, _, _, _, _, _, _, _, _, _] i undef, ?_, rfl⟩
                    exact ⟨j + 1, m2, nn, by omega, rfl, rfl, (by show Value.int .i64 ((j : Int) + 1) = _; go_num), rfl, HG2⟩
            · obtain rfl : j = g.length := by omega
              by_cases hm : m = 0
              · have HE := Lib.hid (pricesV_grp HK.out hp40 HMx.out (HGk.out.empty hm))
                have d0 : ((m : Int) == 0) = true := by rw [hm]; rfl
                clear HGk
                go_wp2
                exact leaves_marks ds _ HI.out.marks ⟨_, results_tmp2 rfl _ _ _, Ret.mk' (by rw [HE.out]; rfl) ⟨rfl, putAll_below (by omega) ds _ HI.out.marks HI.out.below⟩⟩
              · have d0 : ((m : Int) == 0) = false := by simpa using hm
                have q1 : wr2.cell? ⟨pb, 1, none⟩ = some (.int .i64 p) := (blk_cell HPx.out).trans rfl
                have hwi := within_any (some ⟨wr2.heap.size, 0, none⟩) 1 0 1099511627776 [p] (wr2.alloc (.cells #[.int .i64 p] 2)) (ints_new1 _ _ _) (by simp)
                have HWi := Lib.hid hwi
                clear hwi
                go_wp2_with fail
                refine HWi.out.mono ?_
                rintro e w5 ⟨v, rfl, rfl, hB5⟩
                rw [any_one]
                have hB5' := below_trans' (below_alloc' (Below.refl _ _) (.cells #[.int .i64 p] 2)) hB5
                have HI5 := Lib.hid (HI.out.next hB5')
                have HPx5 := Lib.hid (blk_below hB5' HPx.out)
                have HPD : Hid (lb + 1 < pb) := Lib.hid hpw
                clear hB5 hB5' HWi q1
                by_cases hpr : p < 0 ∨ 1099511627776 < p
                · have HE := Lib.hid (pricesV_grp HK.out hp40 HMx.out (price_bad hpr))
                  have hof : offB 0 1099511627776 p = true := by unfold offB; simpa using hpr
                  rw [hof]
                  clear HGk
                  go_wp2
                  exact leaves_marks ds _ HI5.out.marks ⟨_, results_tmp2 rfl _ _ _, Ret.mk' (by rw [HE.out]; rfl) ⟨rfl, putAll_below (by omega) ds _ HI5.out.marks HI5.out.below⟩⟩
                · have hof : offB 0 1099511627776 p = false := by unfold offB; simp; omega
                  rw [hof]
                  have hp0 : 0 ≤ p := by omega
                  have hp1 : p ≤ 1099511627776 := by omega
                  have HGo := Lib.hid (HGk.out.good hm hp0 hp1)
                  have HSm := Lib.hid HGk.out.same
                  have hml := HGk.out.lt
                  have q1 : w5.cell? ⟨pb, 1, none⟩ = some (.int .i64 p) := (blk_cell HPx5.out).trans rfl
                  have y0 : w5.cell? ⟨w.heap.size, 0, none⟩ = some (.int .i64 S) := (blk_cell HI5.out.book).trans rfl
                  have y1 : w5.cell? ⟨w.heap.size, 1, none⟩ = some (.int .i64 R) := (blk_cell HI5.out.book).trans rfl
                  have y2 : w5.cell? ⟨w.heap.size, 2, none⟩ = some (.slice A l.length ca) := (blk_cell HI5.out.book).trans rfl
                  have hia := into_any S R A l.length ca (m : Int) w5
                  unfold vBook at hia
                  have Hc := Lib.hid hia
                  clear hia HGk hpr hof hm
                  go_wp2_with fail
                  refine Hc.out.mono ?_
                  rintro e w6 ⟨v, rfl, rfl, hw6⟩
                  clear q1 y0 y1 y2 Hc
                  have hX0 := heap_alloc_new w5 (.cells #[.int .i64 S, .int .i64 R, .slice A l.length ca] 24)
                  have hX1 := heap_alloc_at (w5.alloc (.cells #[.int .i64 S, .int .i64 R, .slice A l.length ca] 24)) (.cells #[.int .i64 (m : Int)] 3) (n := w5.heap.size + 1) (by simp)
                  replace hX0 := blk_alloc hX0 (.cells #[.int .i64 (m : Int)] 3)
                  have hba : Below w5.heap.size w5 ((w5.alloc (.cells #[.int .i64 S, .int .i64 R, .slice A l.length ca] 24)).alloc (.cells #[.int .i64 (m : Int)] 3)) := below_alloc' (below_alloc' (Below.refl _ _) _) _
                  have hsz : ((w5.alloc (.cells #[.int .i64 S, .int .i64 R, .slice A l.length ca] 24)).alloc (.cells #[.int .i64 (m : Int)] 3)).heap.size = w5.heap.size + 2 := by simp
                  rw [← hw6] at hX0 hX1 hba hsz
                  have HI6 := Lib.hid (HI5.out.next hba)
                  have HPx6 := Lib.hid (blk_below hba HPx5.out)
                  clear hba hw6
                  obtain ⟨xs, hxs⟩ := subs_ex (netB S R l) m l.length
                  have hxl : xs.length ≤ l.length := by
                    have h1 := congrArg List.length hxs
                    rw [List.length_map] at h1
                    rw [h1]; exact intoK_len _ _ _
                  have hb5 := HI5.out.size
                  have hlw : w.heap.size < lb := hs1
                  have hAA : l ≠ [] → ∀ a, A = some a → a.block < w6.heap.size ∧ a.block ≠ lb := fun h a e => by
                    obtain ⟨b, off, e', hc'⟩ := Hl.out 0 (List.length_pos_iff.2 h)
                    rw [e] at e'
                    injection e' with e'
                    have h6 := block_lt_of_cell (hc' 0 _ rfl)
                    rw [e']
                    dsimp only at h6 ⊢
                    omega
                  go_wp2_with fail
                  refine wp_rangeY (gf := 56) (lb := #[.pointer (some ⟨w5.heap.size, 0, none⟩), .pointer (some ⟨w5.heap.size + 1, 0, none⟩)]) (by rfl) enters_into1 (encs := fun x : {i : Nat // i < l.length} => #[.int .i64 (x.1 : Nat), vT (stAt l x.1)]) w6.heap.size lb (Nat.le_refl _) (xs := xs)
                    (into_stops (·.1) xs 9 (by omega) w5.heap.size w6.heap.size lb S R A ca l m hml HK.out hxs w6 (Nat.le_refl _) (by omega) (by omega) (by omega) hAA hX0 hX1 (Hl.out.below HI6.out.below)) (fun _ => rfl)
                    (fun pre W => Arr W lb 0 l.length (fun i => leftK (netB S R l) P k i - p * ((pre.map fun x => x.1).count i : Nat)) ∧ KeepX w6.heap.size lb w6 W)
                    ?hI ⟨HI6.out.arr.congr (fun i _ => by simp), KeepX.refl _ _ _⟩
                    (fun x t => ((t.setIfInBounds 94 (.int .i64 (x.1 : Nat))).setIfInBounds 95 (vT (stAt l x.1))).setIfInBounds 17 (.int .i64 (x.1 : Nat)))
                    ?assign ?body ?done
                  case hI =>
                    rintro pre W W' row ⟨ha, hk⟩ hgr hr
                    exact ⟨ha.grown hgr (fun e => by have := (hr lb e).1; omega), hk.grown hgr hk.size (fun r e' => .inr (hr r e').1)⟩
                  case assign =>
                    rintro l0 x W K9 hK9
                    unfold vT at hK9 ⊢
                    gi_wp2
                    exact hK9
                  case body =>
                    rintro l0 pre x W hl0 ⟨ha, hk⟩ hpl
                    obtain ⟨xi, hxi⟩ := x
                    dsimp only
                    have hcnt : (pre.map fun x => x.1).count xi ≤ 200 := Nat.le_trans List.count_le_length (by rw [List.length_map]; omega)
                    obtain ⟨cx, fx⟩ := ha xi hxi
                    rw [Nat.zero_add] at cx fx
                    dsimp only at cx
                    have hlkb := leftK_bound HK.out hp40 (k := k) (fun x hx => (HI6.out.ok x hx).2.2.1) hxi
                    have hs9 := ha.set hxi (leftK (netB S R l) P k xi - p * ((pre.map fun x => x.1).count xi : Nat) - p)
                    rw [Nat.zero_add] at hs9
                    have HA9 : Hid (Arr (W.setCell ⟨lb, xi, none⟩ (.int .i64 (leftK (netB S R l) P k xi - p * ((pre.map fun x => x.1).count xi : Nat) - p))) lb 0 l.length (fun i => leftK (netB S R l) P k i - p * (((pre ++ [(⟨xi, hxi⟩ : {i : Nat // i < l.length})]).map fun x => x.1).count i : Nat))) := Lib.hid (Arr.congr hs9 fun i _ => by
                      rw [List.map_append, List.count_append]
                      by_cases e : i = xi
                      · subst e
                        rw [if_pos rfl]
                        simp only [List.map_cons, List.map_nil, List.count_cons_self, List.count_nil]
                        rw [Int.natCast_add, Int.mul_add]; omega
                      · rw [if_neg e]
                        simp only [List.map_cons, List.map_nil]
                        rw [List.count_cons_of_ne (fun h => e h.symm)]; simp)
                    have HKx := Lib.hid hk
                    have hpc : 0 ≤ p * ((pre.map fun x => x.1).count xi : Nat) ∧ p * ((pre.map fun x => x.1).count xi : Nat) ≤ 1099511627776 * 200 := ⟨Int.mul_nonneg hp0 (by omega), Int.mul_le_mul hp1 (by omega) (by omega) (by omega)⟩
                    obtain ⟨q, hq⟩ : ∃ q, leftK (netB S R l) P k xi - p * ((pre.map fun x => x.1).count xi : Nat) = q := ⟨_, rfl⟩
                    have hqb : -263882790666240 ≤ q ∧ q ≤ 1000000 := by omega
                    rw [hq] at cx HA9
                    clear hs9 ha hk hcnt hlkb hpc hq
                    have hksz := HKx.out.size
                    have c0 : W.cell? ⟨lb + 1, 0, none⟩ = some (.slice (some ⟨lb, 0, none⟩) l.length l.length) := (blk_cell (HKx.out.blk HI6.out.box (by have := HI6.out.size; omega) (by omega))).trans rfl
                    have c1 : W.cell? ⟨pb, 1, none⟩ = some (.int .i64 p) := (blk_cell (HKx.out.blk HPx6.out (blk_lt HPx6.out) (by have := HPD.out; omega))).trans rfl
                    have c0n : (W.setCell ⟨lb, xi, none⟩ (.int .i64 (q - p))).cell? ⟨lb + 1, 0, none⟩ = some (.slice (some ⟨lb, 0, none⟩) l.length l.length) := cell_far c0 (fun e => by injection e with e; omega)
                    have c1n : (W.setCell ⟨lb, xi, none⟩ (.int .i64 (q - p))).cell? ⟨pb, 1, none⟩ = some (.int .i64 p) := cell_far c1 (fun e => by injection e with e; have := HPD.out; omega)
                    have HC := Lib.hid (And.intro c0n c1n)
                    have i0 : (0 : Int) ≤ (xi : Int) := by omega
                    have i1 : (xi : Int) < (l.length : Int) := by omega
                    clear c0n c1n
                    have hwr : IntKind.i64.wrap (q - p) = q - p := IntWalk.i64_in _ (by omega)
                    simp only [List.setIfInBounds_toArray, List.set_cons_zero, List.set_cons_succ]
                    refine wpIn_block ?_
                    refine wpIn_region_held (S := fun V => V.cell? ⟨lb + 1, 0, none⟩ = some (.slice (some ⟨lb, 0, none⟩) l.length l.length) ∧ V.cell? ⟨pb, 1, none⟩ = some (.int .i64 p)) (by kernel_rfl) (by kernel_rfl) (by rintro ⟨_, _, h⟩; exact h) ?_
                    refine wpAnyH_take (i := 0) (v := ?_) rfl (by kernel_rfl) (by kernel_rfl) (by kernel_rfl) (fun _ _ _ h => h) (Or.inl ⟨by rfl, ?_⟩) ⟨c0, c1⟩ ?_
                    rotate_left 1
                    · intro W hW; obtain ⟨s0, s1⟩ := hW; go_simp <;> with_reducible rfl
                    refine wpAnyH_take (i := 1) (v := ?_) rfl (by kernel_rfl) (by kernel_rfl) (by kernel_rfl) (fun _ _ _ h => h) (Or.inl ⟨by rfl, ?_⟩) ⟨c0, c1⟩ ?_
                    rotate_left 1
                    · intro W hW; obtain ⟨s0, s1⟩ := hW; go_simp <;> with_reducible rfl
                    refine wpAnyH_take (i := 2) (v := ?_) rfl (by kernel_rfl) (by kernel_rfl) (by kernel_rfl) (fun _ _ _ h => h) (Or.inl ⟨by rfl, ?_⟩) ⟨c0, c1⟩ ?_
                    rotate_left 1
                    · intro W hW; obtain ⟨s0, s1⟩ := hW; go_simp <;> with_reducible rfl
                    refine wpAnyH_take (i := 4) (v := ?_) rfl (by kernel_rfl) (by kernel_rfl) (by kernel_rfl) (fun _ _ _ h => h) (Or.inl ⟨by rfl, ?_⟩) ⟨c0, c1⟩ ?_
                    rotate_left 1
                    · intro W hW; obtain ⟨s0, s1⟩ := hW; go_simp <;> with_reducible rfl
                    refine wpAnyH_take (i := 5) (v := ?_) rfl (by kernel_rfl) (by kernel_rfl) (by kernel_rfl) (fun _ _ _ h => h) (Or.inl ⟨by rfl, ?_⟩) ⟨c0, c1⟩ ?_
                    rotate_left 1
                    · intro W hW; obtain ⟨s0, s1⟩ := hW; go_simp <;> with_reducible rfl
                    simp only [Act.put, List.setIfInBounds_toArray]
                    refine wpAnyH_ready (rs := [3]) (by kernel_rfl) (by simp) ?_
                    refine AllReadyH.cons rfl (fun K hK => ?_) AllReadyH.nil
                    go_simp
                    refine hK.out _ _ ⟨c0, c1⟩ (fun _ => ?_)
                    clear hK K
                    refine wpAnyH_take (i := 6) (v := ?_) rfl (by kernel_rfl) (by kernel_rfl) (by kernel_rfl) (fun _ _ _ h => h) (Or.inl ⟨by rfl, ?_⟩) ⟨c0, c1⟩ ?_
                    rotate_left 1
                    · intro W hW; obtain ⟨s0, s1⟩ := hW; go_simp <;> with_reducible rfl
                    refine wpAnyH_take (i := 7) (v := ?_) rfl (by kernel_rfl) (by kernel_rfl) (by kernel_rfl) (fun _ _ _ h => h) (Or.inl ⟨by rfl, ?_⟩) ⟨c0, c1⟩ ?_
                    rotate_left 1
                    · intro W hW; obtain ⟨s0, s1⟩ := hW; go_simp <;> with_reducible rfl
                    simp only [Act.put, List.setIfInBounds_toArray]
                    refine wpAnyH_ready (rs := [8]) (by kernel_rfl) (by simp) ?_
                    refine AllReadyH.cons rfl (fun K hK => ?_) AllReadyH.nil
                    go_simp
                    refine hK.out _ _ HC.out (fun _ => ?_)
                    clear hK K
                    refine wpAnyH_done (by kernel_rfl) ?_ _
                    have hkx : KeepX w6.heap.size lb W (W.setCell ⟨lb, xi, none⟩ (.int .i64 (q - p))).drew := ((KeepX.refl _ _ W).set (p := ⟨lb, xi, none⟩) (.inl rfl) _).drew
                    exact ⟨((KeepsOthers.setCell W ⟨lb, xi, none⟩ (.int .i64 (q - p))).trans (KeepsOthers.drew _)).from _, hkx, HA9.out, HKx.out.trans hkx⟩
                  case done =>
                    rintro D W hD ⟨ha, hk⟩ hm5
                    have HI9 : Hid (PrI S R A ca l lb (P) w (k + 1) (D :: ds) W) := Lib.hid (by
                      have h1 := HI6.out.size
                      refine ⟨hk.blk HI6.out.book (by omega) (by omega), hk.blk HI6.out.box (by omega) (by omega), ha.congr fun i hi => ?_, (HI6.out.marks.keepX hk (Nat.le_refl _) (fun E hE => ?_)).cons hm5 (by omega) (fun hE => ?_), below_keepX HI6.out.below hk (by omega) (by omega), by have := hk.size; omega, fun y hy => ?_⟩
                      · have h2 := HLn.out i
                        rw [h2, hxs, (intoK_nodup (netB S R l) m l.length).count]
                        unfold toll
                        rw [HSm.out]
                        dsimp only
                        by_cases e : i ∈ intoK (netB S R l) m l.length
                        · rw [if_pos e, if_pos (intoK_mem.1 e).2]; simp
                        · rw [if_neg e, if_neg (fun h => e (intoK_mem.2 ⟨hi, h⟩))]; simp
                      · have := (HI6.out.marks.2 E hE).1; omega
                      · have := blk_lt (HI6.out.marks.2 D hE).2; omega
                      · rw [HTk.out, List.mem_append, List.mem_singleton] at hy
                        rcases hy with hy | hy
                        · exact HI6.out.ok y hy
                        · subst hy; exact HGo.out)
                    have HSb := Lib.hid HSn.out
                    clear ha hk hm5 HI6 HPx6 HI5 HPx5
                    go_wp2
                    refine HJK.out (n - 1) _ _ (by omega) ⟨fun i => List.getD [_, _, undef, _, _, _, _, undef, _, _, _, _, _, _, _, _, _, _, _, _, _, _, _, _, _, _, _, _, _, _, _, _, _, _, _, _, _, _, _, _, _, _, _, _, undef, undef, _, _, _, _, _, _, _, _, _, _, _, _, _, _, _, _, _, _, _, _, _, _, _, _, _, _, _, _, _, _, _, _, _, _, _, _, _, _, _, _, _, _, _, _, _, _, _, _, _, _, _, _, _, _, _, _, _, _, _, _, _, _] i undef, _, ?_, rfl⟩
                    exact ⟨k + 1, D :: ds, by omega, by rw [HSb.out]; rfl, (by show Value.int .i64 ((k : Int) + 1) = _; go_num), rfl, HI9⟩
        · obtain rfl : k = P.length := by omega
          have p0 : wr.cell? ⟨lb + 1, 0, none⟩ = some (.slice (some ⟨lb, 0, none⟩) l.length l.length) := (blk_cell HI.out.box).trans rfl
          have hll : ((List.range l.length).map (leftK (netB S R l) P P.length)).length = l.length := by simp
          have hask : Asks wr 45 #[] #[] vI (fun _ => True) (fun x => decide (x < 0)) := fun W x _ _ => by simpa [vI] using cp1_any x W
          have hct := contains64_any (some ⟨lb, 0, none⟩) l.length ((List.range l.length).map (leftK (netB S R l) P P.length)) 45 #[] #[] (fun _ => True) (fun x => decide (x < 0)) wr (Arr.ints HI.out.arr) (by rw [hll]; exact hn) (fun _ _ => trivial) enters_cp1 hask
          rw [hll] at hct
          have HCt := Lib.hid hct
          clear hct hask hll
          have hgr : ∀ x ∈ P, grpOk S R x := fun x hx => HI.out.ok x (by rw [List.take_length]; exact hx)
          have HGr := Lib.hid hgr
          clear hgr
          go_wp2_with fail
          refine HCt.out.mono ?_
          rintro e w4 ⟨v, rfl, rfl, hB4⟩
          have HBf := Lib.hid (below_trans' HI.out.below hB4)
          have HMf := Lib.hid (HI.out.marks.below hB4)
          clear p0 HCt hB4
          by_cases hany : ((List.range l.length).map (leftK (netB S R l) P P.length)).any (fun x => decide (x < 0)) = true
          · rw [hany]
            have HE : Hid (pricesV S R l P = (0, 14)) := Lib.hid (by
              obtain ⟨x, hx, hx0⟩ := List.any_eq_true.1 hany
              obtain ⟨i, hi, rfl⟩ := List.mem_map.1 hx
              exact pricesV_sum HK.out hp40 HGr.out (List.mem_range.1 hi) (by simpa using hx0))
            clear hany
            go_wp2
            exact leaves_marks ds _ HMf.out ⟨_, results_tmp2 rfl _ _ _, Ret.mk' (by rw [HE.out]; rfl) ⟨rfl, putAll_below (by omega) ds _ HMf.out HBf.out⟩⟩
          · have hany' : ((List.range l.length).map (leftK (netB S R l) P P.length)).any (fun x => decide (x < 0)) = false := by simpa using hany
            rw [hany']
            have HE : Hid (pricesV S R l P = (sumP P, 0)) := Lib.hid (pricesV_fine HK.out hp40 HGr.out fun i hi => by
              have h1 := List.any_eq_false.1 hany' _ (List.mem_map.2 ⟨i, List.mem_range.2 hi, rfl⟩)
              simpa using h1)
            clear hany hany'
            go_wp2
            exact leaves_marks ds _ HMf.out ⟨_, results_tmp2 rfl _ _ _, Ret.mk' (by rw [HE.out]; rfl) ⟨rfl, putAll_below (by omega) ds _ HMf.out HBf.out⟩⟩
end Go.Proofs.YtggcooplhodocaaDoor
