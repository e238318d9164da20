/- grow: groups are priced, and steps chosen, until all variants come from the root. -/
import Derived.Test.YtggcooplhodocaaDoorK3
namespace Go.Proofs.YtggcooplhodocaaDoor
open Go.RowKit Go.Shelf Go.Maps Fam
attribute [local go_sem] Oper.semAt_some

/-- between two rounds: what has been priced and chosen -/
structure GrowI (S R : Int) (A : Option Addr) (ca : Nat) (l : List St) (lb mb wb pb : Nat) (u : Value) (w : World) (Hm : List EntM) (ds : List Nat) (D : DataW Unit) (cnt : Nat) (C : Option Addr) (cc : Nat) (W : World) : Prop where
  grown : Grown (netB S R l) (hist Hm)
  ints : IntsAt W C (castL (stM Hm))
  cap : (stM Hm).length ≤ cc
  capm : cc ≤ 9223372036854775807
  left : LeftAt W lb u l.length (lft (netB S R l) (hist Hm))
  map : MapD W mb cnt D
  cnt : cnt ≤ Hm.length
  pr : PrD D Hm
  wood : W.heap[wb]? = some (woodC S R A l.length ca u mb)
  box : W.heap[pb]? = some (.cells #[.pointer (some ⟨wb, 0, none⟩)] 61 (0, 0))
  marks : MarksAt w.heap.size ds W
  own : ∀ a, C = some a → w.heap.size ≤ a.block
  emp : stM Hm = [] → C = none ∧ cc = 0
  keep : KeepG w.heap.size lb mb w W
/-- behind the search -/
structure GrowQ (S R : Int) (A : Option Addr) (ca : Nat) (l : List St) (lb mb wb : Nat) (u : Value) (w : World) (Hm : List EntM) (D : DataW Unit) (cnt : Nat) (C : Option Addr) (cc : Nat) (W : World) : Prop where
  grown : Grown (netB S R l) (hist Hm)
  full : Full (netB S R l) (· ∈ stM Hm)
  ints : IntsAt W C (castL (stM Hm))
  cap : (stM Hm).length ≤ cc
  capm : cc ≤ 9223372036854775807
  map : MapD W mb cnt D
  cnt : cnt ≤ Hm.length
  pr : PrD D Hm
  wood : W.heap[wb]? = some (woodC S R A l.length ca u mb)
theorem GrowI.below {S R : Int} {A : Option Addr} {ca : Nat} {l : List St} {lb mb wb pb : Nat} {u : Value} {w : World} {Hm : List EntM} {ds : List Nat} {D : DataW Unit} {cnt : Nat} {C : Option Addr} {cc : Nat} {W W' : World} (h : GrowI S R A ca l lb mb wb pb u w Hm ds D cnt C cc W) (hb : Below W.heap.size W W') : GrowI S R A ca l lb mb wb pb u w Hm ds D cnt C cc W' :=
  ⟨h.grown, h.ints.below hb, h.cap, h.capm, h.left.below hb, h.map.below hb, h.cnt, h.pr, blk_below hb h.wood, blk_below hb h.box, h.marks.below hb, h.own, h.emp, h.keep.below hb (Nat.le_refl _)⟩
theorem flatMap_inv {α : Type} {enc : α → List Value} {k : Nat} (hk : ∀ x, (enc x).length = k) : ∀ (l : List α) (j : Nat) (u : Value), (l.flatMap enc)[j]? = some u → ∃ (i r : Nat) (hi : i < l.length), j = i * k + r ∧ (enc l[i])[r]? = some u
  | [], j, u, h => by simp at h
  | x :: l, j, u, h => by
    rw [List.flatMap_cons] at h
    by_cases hj : j < k
    · rw [List.getElem?_append_left (by rw [hk]; exact hj)] at h
      exact ⟨0, j, by simp, by simp, by simpa using h⟩
    · rw [List.getElem?_append_right (by rw [hk]; omega), hk] at h
      obtain ⟨i, r, hi, e, hr⟩ := flatMap_inv hk l (j - k) u h
      exact ⟨i + 1, r, by simpa using hi, by rw [Nat.succ_mul]; omega, by simpa using hr⟩
theorem RowsAt.olds {α : Type} {enc : α → List Value} {k : Nat} {w : World} {A : Option Addr} {l : List α} (hk : ∀ x, (enc x).length = k) (h : RowsAt enc k w A l) : ∀ b, A = some b → ∀ j u, (l.flatMap enc)[j]? = some u → w.cell? (b.add j) = some u := fun b hA j u hj => by
  obtain ⟨i, r, hi, e, hr⟩ := flatMap_inv hk l j u hj
  obtain ⟨b', off, hA', hc⟩ := h i hi
  rw [hA] at hA'
  injection hA' with e'
  subst e'
  have := hc r u hr
  rw [Addr.add_mid, e, ← Nat.add_assoc]; exact this
theorem flatMap_len {α : Type} {enc : α → List Value} {k : Nat} (hk : ∀ x, (enc x).length = k) : ∀ l : List α, (l.flatMap enc).length = l.length * k
  | [] => by simp
  | x :: l => by rw [List.flatMap_cons, List.length_append, hk, flatMap_len hk l, List.length_cons, Nat.succ_mul]; omega
/-- left in the normal way alone: so no panic's end looks at the frame -/
def onlyN (Q : Exit → Act → World → Prop) : Exit → Act → World → Prop
  | .normal, a, w => Q .normal a w
  | _, _, _ => False
theorem wp_onlyN {c : Code} {Q : Exit → Act → World → Prop} {a : Act} {w : World} (h : c.wp Tryd.prog (onlyN Q) a w) : c.wp Tryd.prog Q a w :=
  wp_mono h fun e a w h => by
    cases e <;> first | exact h | exact h.elim
theorem KeepX.drew {n x : Nat} {X Y : World} (h : KeepX n x X Y) : KeepX n x X Y.drew := ⟨h.os, h.tape, h.output, h.size, h.block⟩
theorem KeepG.keepL {n n' lb mb : Nat} {X Y Z : World} (h : KeepG n lb mb X Y) (k : KeepX n' lb Y Z) (hn : n ≤ n') : KeepG n lb mb X Z := ⟨k.os.trans h.os, k.tape.trans h.tape, k.output.trans h.output, Nat.le_trans h.size k.size, fun b h1 h2 h3 => (k.block b (by omega) h2).trans (h.block b h1 h2 h3)⟩
theorem MapD.blk {W W' : World} {b n : Nat} {D : DataW Unit} (h : MapD W b n D) (e : W'.heap[b]? = W.heap[b]?) : MapD W' b n D := by
  obtain ⟨es, clock, h1, h2⟩ := h
  exact ⟨es, clock, e.trans h1, h2⟩
theorem LeftAt.grown {W W' : World} {row : Option Nat} {lb : Nat} {u : Value} {m : Nat} {f : Nat → Int} (h : LeftAt W lb u m f) (hg : W.grownBy W' row) (hr : ∀ r, row = some r → r ≠ lb) : LeftAt W' lb u m f := by
  obtain ⟨B, c, h1, h2, h3⟩ := h
  refine ⟨B, c, h1, h2, fun i hi => ?_⟩
  have e : W'.heap[lb]? = W.heap[lb]? := hg.block lb (block_lt_of_cell (h3 i hi).1) (fun e => hr lb e.symm rfl)
  exact ⟨(World.cell?_of_block (a := ⟨lb, 0 + i, none⟩) e).trans (h3 i hi).1, (World.frozen?_of_block (a := ⟨lb, 0 + i, none⟩) e).trans (h3 i hi).2⟩
theorem GrowI.next {S R : Int} {A : Option Addr} {ca : Nat} {l : List St} {lb mb wb pb : Nat} {u : Value} {w : World} {Hm : List EntM} {ds : List Nat} {D : DataW Unit} {cnt : Nat} {C : Option Addr} {cc : Nat} {W V V' V'' : World}
    (h : GrowI S R A ca l lb mb wb pb u w Hm ds D cnt C cc W) (h1 : lb ≠ mb) (h2 : wb ≠ lb) (h3 : wb ≠ mb) (hlb : lb < w.heap.size) (hmb : mb < w.heap.size) (hpb : w.heap.size ≤ pb) {ds' : List Nat} (hm : MarksAt w.heap.size ds' W) (hk : KeepX W.heap.size lb W V) (hg : V.grownBy V' (some mb)) (hb : Below V'.heap.size V' V'')
    {x : EntM} {D' : DataW Unit} {C' : Option Addr} {cc' : Nat} (hgr : Grown (netB S R l) (hist (Hm ++ [x]))) (hi : IntsAt V'' C' (castL (stM (Hm ++ [x])))) (hc1 : (stM (Hm ++ [x])).length ≤ cc') (hc2 : cc' ≤ 9223372036854775807)
    (hl : LeftAt V lb u l.length (lft (netB S R l) (hist (Hm ++ [x])))) (hM : MapD V' mb (cnt + 1) D') (hp : PrD D' (Hm ++ [x])) (ho : ∀ a, C' = some a → w.heap.size ≤ a.block) : GrowI S R A ca l lb mb wb pb u w (Hm ++ [x]) ds' D' (cnt + 1) C' cc' V'' := by
  have hW := h.keep.size
  have hwb := blk_lt h.wood
  have hpl := blk_lt h.box
  refine ⟨hgr, hi, hc1, hc2, (hl.grown hg (fun r e => by injection e with e; omega)).below hb, hM.below hb, by have := h.cnt; rw [len_snoc]; omega, hp, ?_, ?_, ?_, ho, fun e => ?_, ?_⟩
  · exact blk_below hb (blk_grown hg (hk.blk h.wood hwb h2) (fun e => by injection e with e; omega))
  · exact blk_below hb (blk_grown hg (hk.blk h.box hpl (by omega)) (fun e => by injection e with e; omega))
  · exact ((hm.keepX hk (Nat.le_refl _) (fun E hE => by have := (hm.2 E hE).1; omega)).grown hg (fun r e E hE => by have := (hm.2 E hE).1; injection e with e; omega)).below hb
  · rw [stM_snoc] at e; simp at e
  · exact ((h.keep.keepL hk hW).grown hg (Nat.le_refl _) (fun r e => by injection e with e; exact .inr (.inl e.symm))).below hb (Nat.le_refl _)
theorem KeepX.below' {c n : Nat} {X Y Z : World} (h : Below c X Y) (k : KeepX n c Y Z) (hn : c ≤ n) : Below c X Z := ⟨k.os.trans h.os, k.tape.trans h.tape, k.output.trans h.output, Nat.le_trans h.size k.size, fun b hb => (k.block b (by omega) (by omega)).trans (h.block b hb)⟩
def ent1 (l : List St) (i : Nat) : En := (i, stAt l i)
theorem subs_ex (N : Net) (g m : Nat) : ∃ xs : List {i : Nat // i < m}, xs.map (·.1) = intoK N g m := by
  refine ⟨(intoK N g m).attachWith (· < m) (fun x hx => List.mem_range.1 (List.mem_filter.1 hx).1), ?_⟩
  simp
theorem intoK_len (N : Net) (g k : Nat) : (intoK N g k).length ≤ k := by
  unfold intoK
  exact Nat.le_trans (List.length_filter_le _ _) (by simp)
theorem intoK_nodup (N : Net) (g k : Nat) : (intoK N g k).Nodup := List.nodup_range.filter _
theorem intoK_mem {N : Net} {g k i : Nat} : i ∈ intoK N g k ↔ i < k ∧ ent N (fun v => g.testBit v) i = true := by unfold intoK; simp
theorem not_mem_take {T : List Nat} (h : T.Nodup) {k : Nat} (hk : k < T.length) : T[k] ∉ T.take k := fun hm => by
  obtain ⟨i, hi, e⟩ := List.mem_iff_getElem.1 hm
  rw [List.length_take] at hi
  rw [List.getElem_take] at e
  exact List.pairwise_iff_getElem.1 h i k (by omega) hk (by omega) e
theorem run_eqT (a b c : Int) (w : World) : (Op.equalIn 10000 50 (.agg #[.int .i64 a, .int .i64 b, .int .i64 c]) (.agg #[.int .i64 0, .int .i64 0, .int .i64 0])).run Tryd.prog w = .ok (a == 0 && b == 0 && c == 0) w := by
  have u2 := Tryd.underlying2
  have u3 := Tryd.underlying3
  have a2 := Tryd.isAgg2
  have a3 := Tryd.isAgg3
  have z2 := Tryd.sizeOf2
  have z3 := Tryd.sizeOf3
  have hS : Tryd.prog.underlying 50 = some (.struct (Tryd.prog.fieldsOf 50)) := by kernel_rfl
  have hp : Tryd.prog.stoodInHeld 50 = false := by kernel_rfl
  rw [show (10000 : Nat) = 9999 + 1 from rfl, run_equalIn_agg w 9999 50 _ _ hS hp]
  simp only [Program.fieldsOf, Tryd.underlying50]
  go_simp
  by_cases h1 : a = 0 <;> by_cases h2 : b = 0 <;> by_cases h3 : c = 0 <;> simp [h1, h2, h3]
theorem putAll_map {base b n : Nat} {D : DataW Unit} : ∀ (ds : List Nat) (W : World), MarksAt base ds W → MapD W b n D → MapD (putAll ds W) b n D
  | [], _, _, h => h
  | E :: ds, W, hm, h => by
    refine putAll_map ds _ hm.tail ?_
    obtain ⟨es, clock, h1, h2⟩ := h
    exact ⟨es, clock, (World.putObj_heap_other (fun e => by
      have h3 := (hm.2 E (by simp)).2
      subst e
      rw [h1] at h3
      cases h3)).trans h1, h2⟩
theorem putAll_keep {base n lb mb : Nat} {w : World} (hb : n ≤ base) : ∀ (ds : List Nat) (W : World), MarksAt base ds W → KeepG n lb mb w W → KeepG n lb mb w (putAll ds W)
  | [], _, _, h => h
  | E :: ds, W, hm, h => putAll_keep hb ds _ hm.tail ⟨h.os, h.tape, h.output, by simpa [World.putObj] using h.size, fun b h1 h2 h3 => (World.putObj_heap_other (by have := (hm.2 E (by simp)).1; omega)).trans (h.block b h1 h2 h3)⟩

set_option maxRecDepth 100000 in
set_option maxHeartbeats 16000000 in
theorem grow_any (S R : Int) (A : Option Addr) (ca : Nat) (l : List St) (lb mb wb : Nat) (u : Value) (w : World) (hok : BookOk S R l) (hX : w.heap[wb]? = some (woodC S R A l.length ca u mb)) (hl : StepsAt w A l) (hA : l ≠ [] → ∀ a, A = some a → a.block < w.heap.size ∧ a.block ≠ lb ∧ a.block ≠ mb)
    (hu : LeftAt w lb u l.length (lft (netB S R l) [])) (hD : MapD w mb 0 (.map [])) (h1 : lb ≠ mb) (h2 : wb ≠ lb) (h3 : wb ≠ mb) (h4 : lb < w.heap.size) :
    Calls Tryd.prog 58 #[.pointer (some ⟨wb, 0, none⟩)] w (Ret fun v w' => ((∃ Hm D cnt C cc, v = .tuple #[.slice C (stM Hm).length cc, .bool true] ∧ GrowQ S R A ca l lb mb wb u w Hm D cnt C cc w') ∨ (v = .tuple #[.slice none 0 0, .bool false] ∧ ¬ Full (netB S R l) (allS (netB S R l)))) ∧ KeepG w.heap.size lb mb w w') := by
  have HK := Lib.hid hok
  have hmany := hok.many
  have hdim := hok.dim
  have hN := Lib.hid hok.net
  have HL := Lib.hid hl; clear hl
  have HA := Lib.hid hA; clear hA

  have hbx := heap_alloc_new w (.cells #[.pointer (some ⟨wb, 0, none⟩)] 61)
  have hba := below_alloc' (Below.refl w.heap.size w) (.cells #[.pointer (some ⟨wb, 0, none⟩)] 61)
  have HI0 : Hid (GrowI S R A ca l lb mb wb w.heap.size u w [] [] (.map []) 0 none 0 (w.alloc (.cells #[.pointer (some ⟨wb, 0, none⟩)] 61))) := Lib.hid ⟨.nil, IntsAt.nil, Nat.le_refl _, by omega, hu.below hba, hD.below hba, Nat.le_refl _, PrD.nil, blk_below hba hX, hbx, MarksAt.nil _ _, fun _ e => (by cases e), fun _ => ⟨rfl, rfl⟩, (KeepG.refl _ _ _ _).below hba (Nat.le_refl _)⟩
  have hwb := blk_lt hX
  have hmb := MapD.lt hD
  clear hu hD hX hbx hba hok
  refine calls_of_wp_marks Tryd.func58 rfl ?_
  simp only [Tryd.ntmps58, List.size_toArray, List.length_cons, List.length_nil, Nat.reduceAdd, Nat.reduceSub, Array.replicate_succ, Array.replicate_zero, List.push_toArray, List.append_toArray, List.nil_append, List.cons_append]
  go_wp2_with fail
  generalize w.alloc (.cells #[.pointer (some ⟨wb, 0, none⟩)] 61) = w0 at HI0 ⊢
  refine wp_loop_ghost (fun n a' wr => ∃ (f : Nat → Value) (defs : List Deferred), (∃ Hm ds D cnt C cc, n + Hm.length = 40 ∧ f 4 = .slice C (stM Hm).length cc ∧ defs = ds.map mark ∧ Hid (GrowI S R A ca l lb mb wb w.heap.size u w Hm ds D cnt C cc wr)) ∧ a' = { tmps := #[.pointer (some ⟨wb, 0, none⟩), .pointer (some ⟨w.heap.size, 0, none⟩), .slice none 0 0, .bool false, f 4, .func (.func 65) #[] #[.pointer (some ⟨w.heap.size, 0, none⟩)], f 6, f 7, f 8, f 9, f 10, f 11, f 12, f 13, .func (.func 65) #[] #[.pointer (some ⟨w.heap.size, 0, none⟩)], f 15, f 16, f 17, f 18, f 19, f 20, f 21, f 22, f 23, f 24, f 25, f 26, f 27, f 28, f 29, f 30, f 31, f 32, f 33, f 34, f 35, f 36, f 37, f 38, f 39, f 40, f 41, f 42, f 43, f 44, f 45, f 46, f 47, f 48, f 49, f 50, f 51, f 52, f 53, f 54, f 55, f 56, f 57, f 58, f 59, f 60, f 61, f 62, f 63, f 64, f 65, f 66, f 67, f 68, f 69, f 70, f 71, f 72, f 73, f 74, f 75, f 76, f 77, f 78, f 79, f 80, f 81, f 82, f 83, f 84, f 85, f 86, f 87, f 88], defers := defs }) 40 ?start ?round
  case start =>
    refine ⟨fun i => List.getD [undef, undef, undef, undef, _, undef, _, _, _, _, _, _, _, _, undef, _, _, _, _, _, _, _, _, _, _, _, _, _, _, _, _, _, _, _, _, _, _, _, _, _, _, _, _, _, _, _, _, _, _, _, _, _, _, _, _, _, _, _, _, _, _, _, _, _, _, _, _, _, _, _, _, _, _, _, _, _, _, _, _, _, _, _, _, _, _, _, _, _, _] i undef, _, ?_, rfl⟩
    exact ⟨[], [], _, _, _, _, rfl, rfl, rfl, HI0⟩
  case round =>
    clear HI0
    rintro n _ wr ⟨f, _, ⟨Hm, ds, D, cnt, C, cc, hn, h4f, rfl, HI⟩, rfl⟩
    rw [h4f]
    clear h4f
    have HLr := Lib.hid (HI.out.keep.rows HL.out HA.out)
    have y0 : wr.cell? ⟨w.heap.size, 0, none⟩ = some (.pointer (some ⟨wb, 0, none⟩)) := (blk_cell HI.out.box).trans rfl
    have Hc := Lib.hid (open_any S R A C ca cc wb mb u l (stM Hm) wr HI.out.wood HLr.out HI.out.ints (HI.out.grown.lt) (by rw [stM_len]; have := HI.out.grown.many hN.out; rw [hist_len] at this; have h5 : (netB S R l).n = S.toNat := rfl; omega) HK.out)
    go_wp2_with fail
    refine Hc.out.mono ?_
    rintro e w1 ⟨v, rfl, ⟨g, rfl, hg, hQ⟩, hB1⟩
    have HI1 := Lib.hid (HI.out.below hB1)
    have HL1 := Lib.hid (HLr.out.below hB1)
    have hs1 := Nat.le_trans HI.out.keep.size hB1.size
    clear hB1 Hc HI HLr y0
    have HQ := Lib.hid hQ; clear hQ
    by_cases hg0 : g = 0
    · have hfull : Full (netB S R l) (· ∈ stM Hm) := by
        rcases HQ.out with ⟨_, h⟩ | ⟨h, _⟩
        · exact h
        · exact absurd hg0 h
      have HFu := Lib.hid hfull
      clear hfull
      subst hg0
      go_wp2
      have hm := HI1.out.marks
      exact leaves_marks ds _ hm ⟨_, results_tmp2 rfl _ _ _, Ret.mk ⟨.inl ⟨Hm, D, cnt, C, cc, rfl, ⟨HI1.out.grown, HFu.out, putAll_rows ds _ hm HI1.out.ints, HI1.out.cap, HI1.out.capm, putAll_map ds _ hm HI1.out.map, HI1.out.cnt, HI1.out.pr, putAll_blk rfl ds _ hm HI1.out.wood⟩⟩, putAll_keep (Nat.le_refl _) ds _ hm HI1.out.keep⟩⟩
    have hOp : Fam.Open (netB S R l) (stM Hm) (fun v => g.testBit v) := by
      rcases HQ.out with ⟨h, _⟩ | ⟨_, h⟩
      · exact absurd h hg0
      · exact h
    have HOp := Lib.hid hOp
    have d0 : ((g : Int) == 0) = false := by simp; exact hg0
    clear hOp HQ hg0
    have y0 : w1.cell? ⟨w.heap.size, 0, none⟩ = some (.pointer (some ⟨wb, 0, none⟩)) := (blk_cell HI1.out.box).trans rfl
    have z0 : w1.cell? ⟨wb, 0, none⟩ = some (.int .i64 S) := (blk_cell HI1.out.wood).trans rfl
    have z1 : w1.cell? ⟨wb, 1, none⟩ = some (.int .i64 R) := (blk_cell HI1.out.wood).trans rfl
    have z2 : w1.cell? ⟨wb, 2, none⟩ = some (.slice A l.length ca) := (blk_cell HI1.out.wood).trans rfl
    have hba := below_alloc' (Below.refl w1.heap.size w1) (.cells #[.slice none 0 0] 108)
    replace y0 := cell_below hba y0
    replace z0 := cell_below hba z0
    replace z1 := cell_below hba z1
    replace z2 := cell_below hba z2
    have hcb := heap_alloc_new w1 (.cells #[.slice none 0 0] 108)
    have hia := into_any S R A l.length ca (g : Int) (w1.alloc (.cells #[.slice none 0 0] 108))
    unfold vBook at hia
    have Hc := Lib.hid hia
    clear hia
    go_upto_region 7 with fail
    have hs2 := hba.size
    obtain ⟨cb, hcbe⟩ : ∃ cb, cb = w1.heap.size := ⟨_, rfl⟩
    rw [← hcbe] at hcb hs2 hba ⊢
    have hcw : w.heap.size ≤ cb := by omega
    have HB2 := Lib.hid hba
    have HCB := Lib.hid hcbe
    clear hba hcbe hs1 hs2
    generalize w1.alloc (.cells #[.slice none 0 0] 108) = w2 at *
    have hcb2 := blk_lt hcb
    go_wp2_with fail
    refine Hc.out.mono ?_
    rintro e w3 ⟨v, rfl, rfl, hw3⟩
    have hX0 := heap_alloc_new w2 (.cells #[.int .i64 S, .int .i64 R, .slice A l.length ca] 24)
    have hX1 := heap_alloc_at (w2.alloc (.cells #[.int .i64 S, .int .i64 R, .slice A l.length ca] 24)) (.cells #[.int .i64 (g : Int)] 3) (n := w2.heap.size + 1) (by simp)
    replace hX0 := blk_alloc hX0 (.cells #[.int .i64 (g : Int)] 3)
    have hba : Below w2.heap.size w2 ((w2.alloc (.cells #[.int .i64 S, .int .i64 R, .slice A l.length ca] 24)).alloc (.cells #[.int .i64 (g : Int)] 3)) := below_alloc' (below_alloc' (Below.refl _ _) _) _
    have hsz3 : ((w2.alloc (.cells #[.int .i64 S, .int .i64 R, .slice A l.length ca] 24)).alloc (.cells #[.int .i64 (g : Int)] 3)).heap.size = w2.heap.size + 2 := by simp
    rw [← hw3] at hX0 hX1 hba hsz3
    have HB3 := Lib.hid (HB2.out.trans (hba.mono (Nat.le_of_lt hcb2)))
    have HL3 := Lib.hid (HL1.out.below (HCB.out ▸ HB3.out))
    replace hcb := blk_below hba hcb
    clear hba hw3 Hc y0 z0 z1 z2
    obtain ⟨xs, hxs⟩ := subs_ex (netB S R l) g l.length
    have hxl : xs.length ≤ l.length := by
      have h1 := congrArg List.length hxs
      rw [List.length_map] at h1
      rw [h1]; exact intoK_len _ _ _
    go_wp2_with fail
    have hAA : l ≠ [] → ∀ a, A = some a → a.block < w3.heap.size ∧ a.block ≠ cb := fun h a e => by have := HA.out h a e; omega
    refine wp_rangeX (a := _) (gf := 56) (lb := #[.pointer (some ⟨w2.heap.size, 0, none⟩), .pointer (some ⟨w2.heap.size + 1, 0, none⟩)]) (by rfl) enters_into1 (encs := fun x : {i : Nat // i < l.length} => #[.int .i64 (x.1 : Nat), vT (stAt l x.1)]) w3.heap.size cb (Nat.le_refl _) (xs := xs)
      (into_stops (·.1) xs 9 (by omega) w2.heap.size w3.heap.size cb S R A ca l g hg HK.out hxs w3 (Nat.le_refl _) (by omega) (by omega) (by omega) hAA hX0 hX1 HL3.out) (fun _ => rfl)
      (fun pre W => (∃ v, W.heap[cb]? = some (.cells #[v] 108 (0, 0)) ∧ W.ownsRow w3.heap.size 105 4 v (pre.map fun x => ent1 l x.1).length ((pre.map fun x => ent1 l x.1).flatMap encE)) ∧ KeepX w3.heap.size cb w3 W)
      ?hI ⟨⟨_, hcb, by simpa using World.ownsRow_nil w3 w3.heap.size 105 4⟩, KeepX.refl _ _ _⟩
      (fun x a' W => ∃ xb, w3.heap.size ≤ xb ∧ W.heap[xb]? = some (.cells #[.int .i64 (stAt l x.1).1, .int .i64 (stAt l x.1).2.1, .int .i64 (stAt l x.1).2.2] 50 (0, 0)) ∧ a' = { tmps := #[.pointer (some ⟨wb, 0, none⟩), .pointer (some ⟨w.heap.size, 0, none⟩), .slice none 0 0, .bool false, .slice C (stM Hm).length cc, .func (.func 65) #[] #[.pointer (some ⟨w.heap.size, 0, none⟩)], .int .i64 (g : Int), .pointer (some ⟨cb, 0, none⟩), .int .i64 (x.1 : Nat), .pointer (some ⟨xb, 0, none⟩), f 10, f 11, f 12, f 13, .func (.func 65) #[] #[.pointer (some ⟨w.heap.size, 0, none⟩)], .pointer (some ⟨wb, 0, none⟩), .slice C (stM Hm).length cc, .int .i64 (g : Int), .int .i64 (g : Int), .bool false, f 20, .pointer (some ⟨wb, 0, none⟩), .pointer (some ⟨wb, 0, none⟩), .pointer (some ⟨wb, 0, none⟩), .agg #[.int .i64 S, .int .i64 R, .slice A l.length ca], .int .i64 (g : Int), .func (.func 56) #[] #[.pointer (some ⟨w2.heap.size, 0, none⟩), .pointer (some ⟨w2.heap.size + 1, 0, none⟩)], .int .i64 (x.1 : Nat), vT (stAt l x.1), f 29, f 30, f 31, f 32, f 33, f 34, f 35, f 36, f 37, f 38, f 39, f 40, f 41, f 42, f 43, f 44, f 45, f 46, f 47, f 48, f 49, f 50, f 51, f 52, f 53, f 54, f 55, f 56, f 57, f 58, f 59, f 60, f 61, f 62, f 63, f 64, f 65, f 66, f 67, f 68, f 69, f 70, f 71, f 72, f 73, f 74, f 75, f 76, f 77, f 78, f 79, f 80, f 81, f 82, f 83, f 84, f 85, f 86, f 87, f 88], defers := [] })
      ?hAx ?assign ?body ?done
    case hAx =>
      rintro x a' _ W W' row ⟨xb, hxb, hc, e⟩ hgr hr
      exact ⟨xb, hxb, blk_grown hgr hc (fun e' => by
        obtain ⟨_, o, ho, hno⟩ := hr xb e'.symm
        rw [hc] at ho; injection ho with ho; rw [← ho] at hno; cases hno), e⟩
    case hI =>
      rintro pre W W' row ⟨⟨v, hc, ho⟩, hk⟩ hgr hr
      refine ⟨⟨v, blk_grown hgr hc (fun e' => ?_), ho.kept hgr ?_⟩, hk.grown hgr hk.size (fun r e' => .inr (hr r e').1)⟩
      · obtain ⟨_, o, ho', hno⟩ := hr cb e'.symm
        rw [hc] at ho'; injection ho' with ho'; rw [← ho'] at hno; cases hno
      · by_cases hv : v.ownBlock = none
        · exact .inl hv
        · right
          intro e'
          obtain ⟨r, hr'⟩ := Option.ne_none_iff_exists'.1 hv
          obtain ⟨cs, t, fr, h⟩ := own_cells ho r hr'
          obtain ⟨_, o, ho', hno⟩ := hr r (by rw [← e', hr'])
          rw [h] at ho'; injection ho' with ho'; rw [← ho'] at hno; cases hno
    case assign =>
      rintro l0 pre x W K ⟨⟨v, hc, ho⟩, hk⟩ hK
      unfold vT
      gi_wp2
      exact hK _ _ ((KeepsOthers.alloc _ _).from _) (KeepX.of_below (below_alloc' (Below.refl _ _) _) hk.size) ⟨⟨v, blk_alloc hc _, ho.alloc _⟩, hk.trans (KeepX.of_below (below_alloc' (Below.refl _ _) _) hk.size)⟩ ⟨W.heap.size, hk.size, heap_alloc_new .., rfl⟩
    case body =>
      rintro l0 pre x _ W hl0 _ ⟨⟨v, hc, ho⟩, hk⟩ ⟨xb, hxb, hcx, rfl⟩ hpl
      have p0 : W.cell? ⟨cb, 0, none⟩ = some v := (blk_cell hc).trans rfl
      have n0 : W.cell? ⟨xb, 0, none⟩ = some (.int .i64 (stAt l x.1).1) := (blk_cell hcx).trans rfl
      have n1 : W.cell? ⟨xb, 1, none⟩ = some (.int .i64 (stAt l x.1).2.1) := (blk_cell hcx).trans rfl
      have n2 : W.cell? ⟨xb, 2, none⟩ = some (.int .i64 (stAt l x.1).2.2) := (blk_cell hcx).trans rfl
      have HO := Lib.hid ho
      have HC := Lib.hid hc
      have HKp := Lib.hid hk
      have hks := hk.size
      have hbk := heap_alloc_new W (.cells #[.int .i64 (x.1 : Nat), .int .i64 (stAt l x.1).1, .int .i64 (stAt l x.1).2.1, .int .i64 (stAt l x.1).2.2] 105)
      have HOA := Lib.hid (HO.out.alloc (.cells #[.int .i64 (x.1 : Nat), .int .i64 (stAt l x.1).1, .int .i64 (stAt l x.1).2.1, .int .i64 (stAt l x.1).2.2] 105))
      have hcbx : cb < w3.heap.size := blk_lt hcb
      clear ho hc hk hcx
      gi_wp2_with (gi_at_builtin; refine wpListIn_push _ rfl (.tmp 29) (.tmp 33) 108 rfl elemE encE_len oneE Tryd.underlying108 w3.heap.size v (pre.map fun x : {i : Nat // i < l.length} => ent1 l x.1) rfl HOA.out (by rw [List.length_map]; omega) (ent1 l x.1) W.heap.size (by rfl) #[.int .i64 (x.1 : Nat), .int .i64 (stAt l x.1).1, .int .i64 (stAt l x.1).2.1, .int .i64 (stAt l x.1).2.2] rfl _ _ hbk (by rw [World.size_alloc]; omega) ?_; intro g2 cap w6 hO6 hg6; have r1 : w6.cell? ⟨cb, 0, none⟩ = some v := (blk_cell (blk_grown hg6 (blk_alloc HC.out _) (own_ne_blk HOA.out (blk_alloc HC.out _) (by decide)))).trans rfl; have r2 : w6.frozen? ⟨cb, 0, none⟩ = false := blk_frozen (i := 0) (blk_grown hg6 (blk_alloc HC.out _) (own_ne_blk HOA.out (blk_alloc HC.out _) (by decide))))
      have hr := own_base HO.out
      have hal := below_alloc' (Below.refl W.heap.size W) (.cells #[.int .i64 (x.1 : Nat), .int .i64 (stAt l x.1).1, .int .i64 (stAt l x.1).2.1, .int .i64 (stAt l x.1).2.2] 105)
      have hkx : KeepX w3.heap.size cb W (w6.setCell ⟨cb, 0, none⟩ (.slice (some ⟨g2, 0, none⟩) (pre.length + 1) cap)) := (((KeepX.of_below hal hks).grown hg6 (by rw [World.size_alloc]; omega) (fun r e => .inr (hr r e))).set (p := ⟨cb, 0, none⟩) (.inl rfl) _)
      have hkf : KeepsFrom w3.heap.size W (w6.setCell ⟨cb, 0, none⟩ (.slice (some ⟨g2, 0, none⟩) (pre.length + 1) cap)) := ((((KeepsOthers.alloc _ _).trans (KeepsOthers.of_grownBy hg6 (fun j o e h => by
        obtain ⟨cs, t, fr, h'⟩ := own_cells HOA.out j e
        rw [h] at h'; injection h' with h'; subst h'; rfl))).trans (KeepsOthers.setCell _ _ _)).from _)
      refine ⟨hkf, hkx, ⟨_, blk_set (i := 0) (blk_grown hg6 (blk_alloc HC.out _) (own_ne_blk HOA.out (blk_alloc HC.out _) (by decide))) _, ?_⟩, HKp.out.trans hkx⟩
      rw [List.map_append, List.map_singleton, len_snoc]
      rw [List.length_map] at hO6 ⊢
      exact ownsRow_setCell_below hO6 hcbx _
    case done =>
      rintro D5 W hD5 ⟨⟨v, hc, ho⟩, hk⟩ hm5
      have HBW := Lib.hid (KeepX.below' (HCB.out ▸ HB3.out) (HCB.out ▸ hk) (by have := blk_lt hcb; have := HCB.out; omega))
      have hds : D5 ∉ ds := fun h => by
        have h1 := blk_lt (HI1.out.marks.2 D5 h).2
        have h2 := blk_lt hcb
        have := HCB.out
        omega
      have hwD : w.heap.size ≤ D5 := by have := blk_lt hcb; omega
      have HIW := Lib.hid (HI1.out.below HBW.out)
      have HLW := Lib.hid (HL1.out.below HBW.out)
      have HMK := Lib.hid (HIW.out.marks.cons hm5 hwD hds)
      have hex : (xs.map fun x : {i : Nat // i < l.length} => ent1 l x.1) = (intoK (netB S R l) g l.length).map (ent1 l) := by rw [← hxs, List.map_map]; rfl
      rw [hex] at ho
      have hsz := HBW.out.size
      clear hex hxs hxl hds hm5 hwD HBW HB3 HL3 hk
      have hTn := intoK_nodup (netB S R l) g l.length
      have hTm : ∀ i, i ∈ intoK (netB S R l) g l.length ↔ i < l.length ∧ ent (netB S R l) (fun v => g.testBit v) i = true := fun i => intoK_mem
      have hTl := intoK_len (netB S R l) g l.length
      generalize intoK (netB S R l) g l.length = T at ho hTn hTm hTl
      have hob := own_base ho
      obtain ⟨G, c, rfl, hgc⟩ := own_form ho
      have hEn := RowsAt.of_own encE_len ho
      rw [List.length_map] at hc
      have p0 : W.cell? ⟨cb, 0, none⟩ = some (.slice G T.length c) := (blk_cell hc).trans rfl
      clear ho
      have HTm := Lib.hid hTm
      dsimp only
      rw [show ({ target := .collected D5, args := #[] } : Deferred) = mark D5 from rfl, ← List.map_cons]
      by_cases hT0 : T.length = 0
      · have d1 : ((T.length : Int) == 0) = true := by rw [hT0]; rfl
        have hstuck := Open.stuck HOp.out (fun i hi => by
          cases hq : ent (netB S R l) (fun v => g.testBit v) i
          · rfl
          · have h1 := (HTm.out i).2 ⟨hi, hq⟩
            rw [List.length_eq_zero_iff.1 hT0] at h1; cases h1)
        clear HTm hTm
        go_wp2
        exact leaves_marks (D5 :: ds) _ HMK.out ⟨_, results_tmp2 rfl _ _ _, Ret.mk ⟨.inr ⟨rfl, hstuck⟩, putAll_keep (Nat.le_refl _) (D5 :: ds) _ HMK.out HIW.out.keep⟩⟩
      have d1 : ((T.length : Int) == 0) = false := by rw [beq_eq_false_iff_ne]; omega
      have hgv : Gives W 65 #[] #[.pointer (some ⟨w.heap.size, 0, none⟩)] (fun x => x.1 < l.length) (lft (netB S R l) (hist Hm)) := fun W' x hB hx => by
        have := grow1_any S R A l.length ca w.heap.size wb mb lb u l.length (lft (netB S R l) (hist Hm)) x W' (cell_below hB ((blk_cell HIW.out.box).trans rfl)) (blk_below hB HIW.out.wood) (HIW.out.left.below hB) hx
        simpa using this
      have hlst := least_any G c (T.map (ent1 l)) 65 #[] #[.pointer (some ⟨w.heap.size, 0, none⟩)] (fun x => x.1 < l.length) (lft (netB S R l) (hist Hm)) W hEn (by rw [List.length_map]; omega) (by rw [List.length_map]; omega) (fun x hx => by
        obtain ⟨i, hi, rfl⟩ := List.mem_map.1 hx
        exact ((HTm.out i).1 hi).1) enters_grow1 hgv
      rw [List.length_map] at hlst
      have Hc := Lib.hid hlst
      have HEn := Lib.hid hEn
      clear hlst hgv hEn hTm
      go_wp2_with fail
      refine Hc.out.mono ?_
      rintro e W1 ⟨v, rfl, ⟨e1, he1, rfl, hmin⟩, hB1⟩
      obtain ⟨i, hi, rfl⟩ := List.mem_map.1 he1
      obtain ⟨hil, hent⟩ := (HTm.out i).1 hi
      have HEnt := Lib.hid hent
      have HMin : Hid (∀ j, j < l.length → ent (netB S R l) (fun v => g.testBit v) j = true → lft (netB S R l) (hist Hm) i ≤ lft (netB S R l) (hist Hm) j) := Lib.hid fun j hj he => hmin _ (List.mem_map.2 ⟨j, (HTm.out j).2 ⟨hj, he⟩, rfl⟩)
      have hne0 : ((stAt l i).1 == 0 && (stAt l i).2.1 == 0 && (stAt l i).2.2 == 0) = false := by
        have h1 := HK.out.stp _ (List.getElem_mem hil)
        rw [← stAt_eq hil] at h1
        have h2 := h1.2.2.1
        rw [Bool.and_eq_false_iff, Bool.and_eq_false_iff]
        by_cases c0 : (stAt l i).1 = 0
        · exact .inl (.inr (by rw [beq_eq_false_iff_ne]; omega))
        · exact .inl (.inl (by rw [beq_eq_false_iff_ne]; exact c0))
      have eq0 : ∀ V, (Op.equalIn 10000 50 (.agg #[.int .i64 (stAt l i).1, .int .i64 (stAt l i).2.1, .int .i64 (stAt l i).2.2]) (.agg #[.int .i64 0, .int .i64 0, .int .i64 0])).run Tryd.prog V = .ok false V := fun V => by rw [run_eqT, hne0]
      have hc1 := blk_below hB1 hc
      have HI2 := Lib.hid (HIW.out.below hB1)
      have HL2 := Lib.hid (HLW.out.below hB1)
      have HEn2 := Lib.hid (EnsAt.below HEn.out hB1)
      have HM2 := Lib.hid (HMK.out.below hB1)
      have hs1 := hB1.size
      have hcbW := blk_lt hc
      clear hB1 Hc HIW HLW HEn HMK hent hmin he1 hi p0 hc hne0
      unfold vE ent1
      dsimp only
      have hba := below_alloc' (Below.refl W1.heap.size W1) (.cells #[.int .i64 (i : Nat), .int .i64 (stAt l i).1, .int .i64 (stAt l i).2.1, .int .i64 (stAt l i).2.2] 105)
      have hbx := heap_alloc_new W1 (.cells #[.int .i64 (i : Nat), .int .i64 (stAt l i).1, .int .i64 (stAt l i).2.1, .int .i64 (stAt l i).2.2] 105)
      obtain ⟨B1, cl, hue, hBe, harr⟩ := HI2.out.left
      have hBe1 := hBe (by omega)
      subst hBe1
      clear hBe
      have y0 : W1.cell? ⟨w.heap.size, 0, none⟩ = some (.pointer (some ⟨wb, 0, none⟩)) := (blk_cell HI2.out.box).trans rfl
      have y3 : W1.cell? ⟨wb, 3, none⟩ = some u := (blk_cell HI2.out.wood).trans rfl
      rw [hue] at y3
      have n0 := (blk_cell (i := 0) hbx).trans rfl
      obtain ⟨c0, _⟩ := harr i hil
      rw [Nat.zero_add] at c0
      replace y0 := cell_below hba y0
      replace y3 := cell_below hba y3
      replace c0 := cell_below hba c0
      have i0 : (0 : Int) ≤ (i : Int) := by omega
      have i1 : (i : Int) < (l.length : Int) := by omega
      have hGb : ∀ a, G = some a → lb < a.block ∧ a.block < W1.heap.size := fun a e => by
        subst e
        have h1 := hob a.block rfl
        obtain ⟨b, off, e', hc'⟩ := HEn2.out 0 (by rw [List.length_map]; omega)
        injection e' with e'
        have h2 := block_lt_of_cell (hc' 0 _ rfl)
        rw [e']
        rw [e'] at h1
        exact ⟨by dsimp only at h1 ⊢; omega, h2⟩
      have HGb := Lib.hid hGb
      clear hGb hob
      go_upto_region 16 with fail
      replace hc1 := blk_below hba hc1
      replace HI2 := Lib.hid (HI2.out.below hba)
      replace HL2 := Lib.hid (HL2.out.below hba)
      replace HEn2 := Lib.hid (EnsAt.below HEn2.out hba)
      replace HM2 := Lib.hid (HM2.out.below hba)
      have HAr := Lib.hid (harr.below hba)
      have hs2 := hba.size
      have htb := blk_lt hbx
      have htb0 : w.heap.size ≤ W1.heap.size := by omega
      have htb1 : cb < W1.heap.size := by omega
      clear hba harr hs1 hs2
      generalize W1.heap.size = tb at *
      generalize W1.alloc (.cells #[.int .i64 (i : Nat), .int .i64 (stAt l i).1, .int .i64 (stAt l i).2.1, .int .i64 (stAt l i).2.2] 105) = W2 at *
      have HC1 := Lib.hid hc1
      have HX := Lib.hid hbx
      clear hc1 hbx eq0
      go_quiet (fail)
      have hdr := below_drewN (Below.refl W2.heap.size W2) nq
      replace y0 := cell_below hdr y0
      replace y3 := cell_below hdr y3
      replace HI2 := Lib.hid (HI2.out.below hdr)
      replace HL2 := Lib.hid (HL2.out.below hdr)
      replace HEn2 := Lib.hid (EnsAt.below HEn2.out hdr)
      replace HM2 := Lib.hid (HM2.out.below hdr)
      replace HAr := Lib.hid (HAr.out.below hdr)
      replace HC1 := Lib.hid (blk_below hdr HC1.out)
      replace HX := Lib.hid (blk_below hdr HX.out)
      have htb2 : tb < (W2.drewN nq).heap.size := htb
      clear hdr htb
      generalize W2.drewN nq = W3 at *
      have hch : ∀ j, j < l.length → (netB S R l).ch j ≤ 1000000 := fun j hj => by
        have h1 := HK.out.stp _ (List.getElem_mem hj)
        rw [← stAt_eq hj] at h1
        exact h1.2.2.2.2
      have HFb : Hid (∀ j, j < l.length → lft (netB S R l) (hist Hm) j ≤ 1000000) := Lib.hid fun j hj => Int.le_trans (HI2.out.grown.lft_le hN.out j) (hch j hj)
      have hp0 : 0 ≤ lft (netB S R l) (hist Hm) i := HI2.out.grown.lft_pos hN.out i hil
      have hp1 := HFb.out i hil
      have hTl' : T.length ≤ 200 := by omega
      obtain ⟨F, hF⟩ : ∃ F, lft (netB S R l) (hist Hm) = F := ⟨_, rfl⟩
      rw [hF] at HAr HMin HFb hp0 hp1 ⊢
      obtain ⟨p, hp⟩ : ∃ p, F i = p := ⟨_, rfl⟩
      rw [hp] at HMin hp0 hp1 ⊢
      have hHF := Lib.hid hF
      have hHp := Lib.hid hp
      have p0 : W3.cell? ⟨cb, 0, none⟩ = some (.slice G T.length c) := (blk_cell HC1.out).trans rfl
      clear hF hp hch c0 n0
      go_wp2
      clear p0 y0 y3
      refine wp_loop_ghost (fun n a' wr => ∃ f2 : Nat → Value, (∃ k, n + k = T.length ∧ f2 55 = .int .i64 (k : Nat) ∧ Hid (KeepX W3.heap.size lb W3 wr) ∧ Hid (Arr wr lb 0 l.length fun x => F x - if x ∈ T.take k then p else 0)) ∧ a' = { tmps := #[.pointer (some ⟨wb, 0, none⟩), .pointer (some ⟨w.heap.size, 0, none⟩), .slice none 0 0, .bool false, .slice C (stM Hm).length cc, .func (.func 65) #[] #[.pointer (some ⟨w.heap.size, 0, none⟩)], .int .i64 (g : Int), .pointer (some ⟨cb, 0, none⟩), f2 8, f2 9, .pointer (some ⟨tb, 0, none⟩), .int .i64 p, f2 12, f2 13, .func (.func 65) #[] #[.pointer (some ⟨w.heap.size, 0, none⟩)], f2 15, f2 16, f2 17, f2 18, f2 19, f2 20, f2 21, f2 22, f2 23, f2 24, f2 25, f2 26, f2 27, f2 28, f2 29, f2 30, f2 31, f2 32, f2 33, f2 34, f2 35, f2 36, f2 37, f2 38, f2 39, f2 40, f2 41, f2 42, f2 43, f2 44, f2 45, f2 46, f2 47, f2 48, f2 49, f2 50, f2 51, f2 52, .slice G T.length c, .int .i64 (T.length : Nat), f2 55, f2 56, f2 57, f2 58, f2 59, f2 60, f2 61, f2 62, f2 63, f2 64, f2 65, f2 66, f2 67, f2 68, f2 69, f2 70, f2 71, f2 72, f2 73, f2 74, f2 75, f2 76, f2 77, f2 78, f2 79, f2 80, f2 81, f2 82, f2 83, f2 84, f2 85, f2 86, f2 87, f2 88], defers := List.map mark (D5 :: ds) }) T.length ?st2 ?rd2
      case st2 =>
        refine ⟨fun i => List.getD [undef, undef, undef, undef, undef, undef, undef, undef, _, _, undef, undef, _, _, undef, _, _, _, _, _, _, _, _, _, _, _, _, _, _, _, _, _, _, _, _, _, _, _, _, _, _, _, _, _, _, _, _, _, _, _, _, _, _, undef, undef, _, _, _, _, _, _, _, _, _, _, _, _, _, _, _, _, _, _, _, _, _, _, _, _, _, _, _, _, _, _, _, _, _, _] i undef, ?_, rfl⟩
        exact ⟨0, rfl, rfl, Lib.hid (KeepX.refl _ _ _), Lib.hid (HAr.out.congr fun x _ => by simp)⟩
      case rd2 =>
        clear HAr
        rintro n2 _ wr ⟨f2, ⟨k, hnk, h55, HKx, HAr⟩, rfl⟩
        rw [h55]
        clear h55
        by_cases hkT : k < T.length
        · obtain ⟨b, off, rfl, g0, g1, g2, g3⟩ := EnsAt.at_ (KeepX.rows HKx.out HEn2.out (fun _ a e => by have := HGb.out a e; omega)) (i := k) (by rw [List.length_map]; exact hkT)
          rw [List.getElem_map] at g0 g1 g2 g3
          obtain ⟨hjl, hje⟩ := (HTm.out T[k]).1 (List.getElem_mem hkT)
          have hjn := not_mem_take hTn hkT
          have HTS := Lib.hid (take_snoc hkT rfl)
          have hFj := HFb.out _ hjl
          have hpj := HMin.out _ hjl hje
          obtain ⟨cj, fj⟩ := HAr.out _ hjl
          dsimp only at cj
          rw [if_neg hjn, Int.sub_zero, Nat.zero_add] at cj
          rw [Nat.zero_add] at fj
          clear hje
          generalize T[k] = j at *
          unfold ent1 at g0 g1 g2 g3
          dsimp only at g0 g1 g2 g3
          have hbx := heap_alloc_new wr (.cells #[.int .i64 (j : Nat), .int .i64 (stAt l j).1, .int .i64 (stAt l j).2.1, .int .i64 (stAt l j).2.2] 105)
          have hba := below_alloc' (Below.refl wr.heap.size wr) (.cells #[.int .i64 (j : Nat), .int .i64 (stAt l j).1, .int .i64 (stAt l j).2.1, .int .i64 (stAt l j).2.2] 105)
          have k0 : (0 : Int) ≤ (k : Int) := by omega
          have k1 : (k : Int) < (T.length : Int) := by omega
          have j0 : (0 : Int) ≤ (j : Int) := by omega
          have j1 : (j : Int) < (l.length : Int) := by omega
          have z0 : wr.cell? ⟨w.heap.size, 0, none⟩ = some (.pointer (some ⟨wb, 0, none⟩)) := (blk_cell (HKx.out.blk HI2.out.box (by omega) (by omega))).trans rfl
          have z3 : wr.cell? ⟨wb, 3, none⟩ = some u := (blk_cell (HKx.out.blk HI2.out.wood (by have := blk_lt HI2.out.wood; omega) h2)).trans rfl
          rw [hue] at z3
          replace z0 := cell_below hba z0
          replace z3 := cell_below hba z3
          replace fj := frozen_below hba cj fj
          replace cj := cell_below hba cj
          have n0 := (blk_cell (i := 0) hbx).trans rfl
          go_upto_region 20 with fail
          replace HKx := Lib.hid (HKx.out.trans (KeepX.of_below hba HKx.out.size))
          replace HAr := Lib.hid (HAr.out.below hba)
          clear hba g0 g1 g2 g3 hbx
          generalize wr.alloc (.cells #[.int .i64 (j : Nat), .int .i64 (stAt l j).1, .int .i64 (stAt l j).2.1, .int .i64 (stAt l j).2.2] 105) = w4 at *
          generalize wr.heap.size = xb at *
          go_big_region
          have hs9 := HAr.out.set (k := j) hjl (F j - p)
          rw [Nat.zero_add] at hs9
          have HArN : Hid (Arr (w4.setCell ⟨lb, j, none⟩ (.int .i64 (F j - p))).drew lb 0 l.length fun x => F x - if x ∈ T.take (k + 1) then p else 0) := Lib.hid (Arr.congr hs9 fun x _ => by
            rw [HTS.out]
            by_cases e : x = j
            · subst e; rw [if_pos rfl, if_pos (by simp)]
            · rw [if_neg e]
              by_cases e2 : x ∈ T.take k
              · rw [if_pos e2, if_pos (by simp [e2])]
              · rw [if_neg e2, if_neg (by simp [e2, e])])
          have HKxN := Lib.hid (HKx.out.set (p := ⟨lb, j, none⟩) (.inl rfl) (.int .i64 (F j - p))).drew
          clear hs9 HAr HKx z0 z3 fj cj n0
          go_wp2
          refine ⟨n2 - 1, by omega, fun i => List.getD [undef, undef, undef, undef, undef, undef, undef, undef, _, _, undef, undef, _, _, undef, _, _, _, _, _, _, _, _, _, _, _, _, _, _, _, _, _, _, _, _, _, _, _, _, _, _, _, _, _, _, _, _, _, _, _, _, _, _, undef, undef, _, _, _, _, _, _, _, _, _, _, _, _, _, _, _, _, _, _, _, _, _, _, _, _, _, _, _, _, _, _, _, _, _, _] i undef, ?_, rfl⟩
          exact ⟨k + 1, by omega, by go_num, HKxN, HArN⟩
        · obtain rfl : k = T.length := by omega
          rw [List.take_length] at HAr
          have HLf : Hid (LeftAt wr lb u l.length (lft (netB S R l) (hist (Hm ++ [(g, i, p)])))) := Lib.hid ⟨_, cl, hue, fun _ => rfl, HAr.out.congr fun x hx => by
            rw [lft_next, hHF.out]
            by_cases e : x ∈ T
            · rw [if_pos e, if_pos ((HTm.out x).1 e).2]
            · rw [if_neg e, if_neg (fun h => e ((HTm.out x).2 ⟨hx, h⟩))]⟩
          have HGr : Hid (Grown (netB S R l) (hist (Hm ++ [(g, i, p)]))) := Lib.hid (by
            have h1 := HI2.out.grown.next HOp.out hil HEnt.out (by rw [hHF.out]; intro x hx he; rw [hHp.out]; exact HMin.out x hx he)
            rw [hHF.out, hHp.out] at h1
            exact h1)
          clear HAr HTm HMin HFb HEnt HGb HC1
          have hmn := (HGr.out.many hN.out)
          rw [hist_len, len_snoc] at hmn
          have hmn2 : Hm.length + 1 ≤ 32 := by have h5 : (netB S R l).n = S.toNat := rfl; omega
          have HMp := HI2.out.map.blk (HKx.out.block mb (by have := HI2.out.map.lt; exact this) (fun e => h1 e.symm))
          have hlook := HMp.look (g := (g : Int)) (x := prSum Hm g) ⟨by omega, by omega⟩ (HI2.out.pr.at_ g hg)
          obtain ⟨V1, hupd, hMn, hGn⟩ := HMp.upd (g := (g : Int)) ⟨by omega, by omega⟩ (prSum Hm g + p) (by have := HI2.out.cnt; omega)
          have hPn := HI2.out.pr.put HMp hg i p
          have hpb := prSum_bound hN.out (b := 1000000) (by omega) (fun x hx => (by
            have h1 := HK.out.stp _ (List.getElem_mem hx)
            rw [← stAt_eq hx] at h1
            exact h1.2.2.2.2)) HI2.out.grown g
          obtain ⟨s0, hs0⟩ : ∃ s0, prSum Hm g = s0 := ⟨_, rfl⟩
          rw [hs0] at hlook hupd hpb hMn hPn
          have z0 : wr.cell? ⟨w.heap.size, 0, none⟩ = some (.pointer (some ⟨wb, 0, none⟩)) := (blk_cell (HKx.out.blk HI2.out.box (by omega) (by omega))).trans rfl
          have z4 : wr.cell? ⟨wb, 4, none⟩ = some (.map (some mb)) := (blk_cell (HKx.out.blk HI2.out.wood (by have := blk_lt HI2.out.wood; omega) h2)).trans rfl
          have HM9 := Lib.hid hMn
          have HG9 := Lib.hid hGn
          have HP9 := Lib.hid hPn
          clear HMp hs0 hMn hGn hPn
          have HKG := Lib.hid (((KeepG.refl W3.heap.size lb mb W3).keepL HKx.out (Nat.le_refl _)).grown HG9.out (Nat.le_refl _) (fun r e => by injection e with e; exact .inr (.inl e.symm)))
          go_upto_region 23 with fail
          clear z0 z4 hlook hupd hpb
          have n0 : V1.cell? ⟨tb, 0, none⟩ = some (.int .i64 (i : Nat)) := (blk_cell ((HKG.out.block tb htb2 (by omega) (by omega)).trans HX.out)).trans rfl
          have HIC : Hid (IntsAt V1 C (castL (stM Hm))) := Lib.hid (HKG.out.rows HI2.out.ints (fun hne a e => by
            have h5 := HI2.out.own a e
            obtain ⟨b, off, e', hc'⟩ := HI2.out.ints 0 (List.length_pos_iff.2 hne)
            rw [e] at e'
            injection e' with e'
            have h6 := block_lt_of_cell (hc' 0 _ rfl)
            rw [e'] at h5 ⊢
            exact ⟨h6, by omega, by omega⟩))
          have HICa := Lib.hid (IntsAt.below HIC.out (below_alloc' (Below.refl _ _) (.cells #[.int .i64 (i : Nat)] 3)))
          have hlo : ((castL (stM Hm)).flatMap encI).length = (stM Hm).length * 1 := by rw [flatMap_len encI_len, castL_len]
          have hnw := cell_one_new V1 (.int .i64 (i : Nat)) 3
          have n0a := cell_alloc n0 (.cells #[.int .i64 (i : Nat)] 3)
          have hsl := stM_len Hm
          obtain ⟨t0, hti, hz0, hz1, hz2⟩ := info_parts elemI.info
          have hC : (C = none ∧ (stM Hm).length = 0 ∧ cc = 0) ∨ ∃ b off, C = some ⟨b, off, none⟩ := by
            by_cases e : stM Hm = []
            · obtain ⟨e1, e2⟩ := HI2.out.emp e
              exact .inl ⟨e1, by rw [e]; rfl, e2⟩
            · obtain ⟨b, off, e', _⟩ := HI2.out.ints 0 (by rw [castL_len]; exact List.length_pos_iff.2 e)
              exact .inr ⟨b, off, e'⟩
          have hcc := HI2.out.cap
          have hccm := HI2.out.capm
          have hFin : Hid (∀ (W9 : World) (g9 cap9 : Nat), W9.ownsRow V1.heap.size 3 1 (.slice (some ⟨g9, 0, none⟩) ((stM Hm).length + 1) cap9) ((stM Hm).length + 1) ((castL (stM Hm)).flatMap encI ++ [.int .i64 (i : Nat)]) → Below V1.heap.size V1 W9 →
              GrowI S R A ca l lb mb wb w.heap.size u w (Hm ++ [(g, i, p)]) (D5 :: ds) (D.put (.int .i64 (g : Int)) (dB (s0 + p))) (cnt + 1) (some ⟨g9, 0, none⟩) cap9 W9 ∧ (stM (Hm ++ [(g, i, p)])).length = (stM Hm).length + 1) := Lib.hid fun W9 g9 cap9 ho hb => by
            have hl9 : (stM (Hm ++ [(g, i, p)])).length = (stM Hm).length + 1 := by rw [stM_snoc, len_snoc]
            have hc9 : castL (stM (Hm ++ [(g, i, p)])) = castL (stM Hm) ++ [(i : Int)] := by rw [stM_snoc, castL_snoc]
            have hcl9 : (castL (stM Hm) ++ [(i : Int)]).length = (stM Hm).length + 1 := by rw [len_snoc, castL_len]
            obtain ⟨A9, c9, e9, hle9⟩ := own_form ho
            injection e9 with _ _ e9
            subst e9
            have hcap9 := own_cap ho
            have hbs9 := own_base ho g9 rfl
            have hV1 := HKG.out.size
            have hW3 := HI2.out.keep.size
            have ho2 : W9.ownsRow V1.heap.size 3 1 (.slice (some ⟨g9, 0, none⟩) (castL (stM Hm) ++ [(i : Int)]).length cap9) (castL (stM Hm) ++ [(i : Int)]).length ((castL (stM Hm) ++ [(i : Int)]).flatMap encI) := by
              rw [hcl9, List.flatMap_append]
              exact ho
            exact ⟨HI2.out.next h1 h2 h3 h4 hmb (Nat.le_refl _) HM2.out HKx.out HG9.out hb HGr.out (by rw [hc9]; exact RowsAt.of_own encI_len ho2) (by rw [hl9]; exact hle9) hcap9 HLf.out HM9.out HP9.out (fun a e => by injection e with e; rw [← e]; exact Nat.le_trans (Nat.le_trans hW3 hV1) hbs9), hl9⟩
          clear HI2 HIC HGr HLf HG9 HP9 HM9 HKG HKx HM2 HX HL2 HEn2 HL1 HI1 hue
          have hb30 : (stM Hm).length ≤ 40 := by omega
          clear hsl
          obtain ⟨N0, hN0⟩ : ∃ N0, (stM Hm).length = N0 := ⟨_, rfl⟩
          rw [hN0] at hFin hlo hcc hb30 hC ⊢
          clear hN0
          refine wp_onlyN ?_
          rcases hC with ⟨rfl, rfl, rfl⟩ | ⟨b, off, rfl⟩
          · go_region_law (refine step_append_grows rfl (.tmp 84) (.tmp 87) 25 rfl 3 t0 (.int .i64 0) 1 8 Tryd.underlying25 hti hz0 hz1 hz2 rfl (by omega) none 0 0 ((castL (stM Hm)).flatMap encI) (by simp [Act.eval]) (fun _ => ⟨rfl, rfl⟩) hlo (RowsAt.olds encI_len HICa.out) ⟨V1.heap.size, 0, none⟩ 1 1 [.int .i64 (i : Nat)] (by simp [Act.eval]) rfl hnw (oneI _) (by omega) (by unfold maxLen; omega) (by omega) ?_; intro v' w9 hown9 hg9; obtain ⟨g9, cap9, rfl⟩ := ownsRow_succ hown9)
            all_goals
              have hb9 : Below V1.heap.size V1 w9 := (below_alloc' (Below.refl V1.heap.size V1) (.cells #[.int .i64 (i : Nat)] 3)).drew.grown hg9 (by simp) (fun r e => by cases e)
              obtain ⟨hI9, hl9⟩ := hFin.out w9 g9 cap9 (own_mono hown9 (by simp)) hb9
              have HI9 := Lib.hid hI9
              clear hFin hown9 hg9 hb9 hI9 HICa hlo hnw n0 n0a
              simp only [onlyN]
              go_wp2
              refine ⟨n - 1, by omega, fun i => List.getD [undef, undef, undef, undef, _, undef, _, _, _, _, _, _, _, _, undef, _, _, _, _, _, _, _, _, _, _, _, _, _, _, _, _, _, _, _, _, _, _, _, _, _, _, _, _, _, _, _, _, _, _, _, _, _, _, _, _, _, _, _, _, _, _, _, _, _, _, _, _, _, _, _, _, _, _, _, _, _, _, _, _, _, _, _, _, _, _, _, _, _, _] i undef, _, ?_, rfl⟩
              exact ⟨Hm ++ [(g, i, p)], D5 :: ds, _, _, _, _, by rw [len_snoc]; omega, by rw [hl9]; rfl, rfl, HI9⟩
          · go_region_law (refine step_append_grows rfl (.tmp 84) (.tmp 87) 25 rfl 3 t0 (.int .i64 0) 1 8 Tryd.underlying25 hti hz0 hz1 hz2 rfl (by omega) (some ⟨b, off, none⟩) N0 N0 ((castL (stM Hm)).flatMap encI) (by simp [Act.eval]) (fun h => by cases h) hlo (RowsAt.olds encI_len HICa.out) ⟨V1.heap.size, 0, none⟩ 1 1 [.int .i64 (i : Nat)] (by simp [Act.eval]) rfl hnw (oneI _) (by omega) (by unfold maxLen; omega) (by omega) ?_; intro v' w9 hown9 hg9; obtain ⟨g9, cap9, rfl⟩ := ownsRow_succ hown9)
            all_goals
              have hb9 : Below V1.heap.size V1 w9 := (below_alloc' (Below.refl V1.heap.size V1) (.cells #[.int .i64 (i : Nat)] 3)).drew.grown hg9 (by simp) (fun r e => by cases e)
              obtain ⟨hI9, hl9⟩ := hFin.out w9 g9 cap9 (own_mono hown9 (by simp)) hb9
              have HI9 := Lib.hid hI9
              clear hFin hown9 hg9 hb9 hI9 HICa hlo hnw n0 n0a
              simp only [onlyN]
              go_wp2
              refine ⟨n - 1, by omega, fun i => List.getD [undef, undef, undef, undef, _, undef, _, _, _, _, _, _, _, _, undef, _, _, _, _, _, _, _, _, _, _, _, _, _, _, _, _, _, _, _, _, _, _, _, _, _, _, _, _, _, _, _, _, _, _, _, _, _, _, _, _, _, _, _, _, _, _, _, _, _, _, _, _, _, _, _, _, _, _, _, _, _, _, _, _, _, _, _, _, _, _, _, _, _, _] i undef, _, ?_, rfl⟩
              exact ⟨Hm ++ [(g, i, p)], D5 :: ds, _, _, _, _, by rw [len_snoc]; omega, by rw [hl9]; rfl, rfl, HI9⟩
end Go.Proofs.YtggcooplhodocaaDoor
