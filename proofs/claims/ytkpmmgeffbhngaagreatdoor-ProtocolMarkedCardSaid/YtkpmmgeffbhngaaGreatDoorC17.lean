/- What the laws of the chapter rest on, part 17. -/
import Derived.Test.YtkpmmgeffbhngaaGreatDoorC12
import Derived.Test.YtkpmmgeffbhngaaGreatDoorC16
import Derived.Shelf.SlSortCmp.WholeK
set_option linter.unusedSimpArgs false
set_option linter.unusedVariables false
set_option linter.unnecessarySimpa false
namespace Prot
end Prot
namespace Go.Shelf
end Go.Shelf
namespace Go.Maps
end Go.Maps
namespace Go.Proofs.YtkpmmgeffbhngaaGreatDoor
open Go.RowKit Go.Shelf Prot Go.Lib Go.Maps
attribute [local go_sem] Oper.semAt_some
/-- the marks that loops over an iterator have left -/
def mark (D : Nat) : Deferred := { target := .collected D, args := #[] }
def MarksAt (base : Nat) (ds : List Nat) (W : World) : Prop := ds.Nodup ∧ ∀ D ∈ ds, base ≤ D ∧ W.heap[D]? = some (.deferred (some []))
theorem MarksAt.nil (base : Nat) (W : World) : MarksAt base [] W := ⟨List.nodup_nil, fun _ h => by cases h⟩
theorem MarksAt.one {base D : Nat} {W : World} (h : W.heap[D]? = some (.deferred (some []))) (hb : base ≤ D) : MarksAt base [D] W := ⟨by simp, fun E hE => by
  have : E = D := by simpa using hE
  subst this; exact ⟨hb, h⟩⟩
def putAll : List Nat → World → World
  | [], W => W
  | D :: ds, W => putAll ds (W.putObj D (.deferred none))
theorem MarksAt.tail {base D : Nat} {ds : List Nat} {W : World} (h : MarksAt base (D :: ds) W) : MarksAt base ds (W.putObj D (.deferred none)) := by
  obtain ⟨h1, h2⟩ := h
  rw [List.nodup_cons] at h1
  exact ⟨h1.2, fun E hE => ⟨(h2 E (by simp [hE])).1, (World.putObj_heap_other (by intro e; subst e; exact h1.1 hE)).trans (h2 E (by simp [hE])).2⟩⟩
theorem leaves_marks {fn : Func} {tmps : Array Value} {R : Ending → World → Prop} {base : Nat} : ∀ (ds : List Nat) (W : World), MarksAt base ds W →
    (∃ v, (results fn tmps).run Tryz.prog (putAll ds W) = .ok v (putAll ds W) ∧ R (.returned v) (putAll ds W)) → LeavesInM Fence.wide 10 Tryz.prog fn tmps R (ds.map mark) .returning W
  | [], W, _, h => h
  | D :: ds, W, hm, h => ⟨by simp, .inl ⟨D, _, rfl, run_takeDeferred (hm.2 D (by simp)).2, leaves_marks ds _ hm.tail h⟩⟩
theorem putAll_below {base m : Nat} {w0 : World} (hb : m ≤ base) : ∀ (ds : List Nat) (W : World), MarksAt base ds W → Below m w0 W → Below m w0 (putAll ds W)
  | [], _, _, h => h
  | D :: ds, W, hm, h => putAll_below hb ds _ hm.tail (below_put h (Nat.le_trans hb (hm.2 D (by simp)).1) _ (hm.2 D (by simp)).2)
theorem subs_range (c m n : Nat) (h : ∀ x, x < n → c * x < m) : ∃ xs : List {j : Nat // c * j < m}, xs.map (·.1) = List.range n := by
  refine ⟨(List.range n).attachWith (fun j => c * j < m) (fun x hx => h x (List.mem_range.1 hx)), ?_⟩
  simp
def badD (d : Int) : Bool := decide (d < 0) || decide (1000 < d)
theorem badD_any (ds : List Int) : ds.any badD = false ↔ ds.all dOk = true := by
  rw [List.any_eq_false, List.all_eq_true]
  constructor
  · intro h d hd
    have := h d hd
    unfold badD at this; unfold dOk
    simp at this ⊢; omega
  · intro h d hd
    have := h d hd
    unfold dOk at this; unfold badD
    simp at this ⊢; omega
set_option maxRecDepth 100000 in
theorem Encode1_any (d : Int) (w : World) : Calls Tryz.prog 57 #[.int .i64 d] w (Ret fun v w' => v = .bool (badD d) ∧ w' = w) := by
  by_cases h1 : d < 0
  · have HV : Hid (badD d = true) := Lib.hid (by unfold badD; simp [h1])
    have t1 : decide (d < 0) = true := decide_eq_true h1
    clear h1
    go_enter Tryz.func57, Tryz.ntmps57
    go_wp2
    go_ret
    exact Ret.mk ⟨by rw [HV.out]; rfl, rfl⟩
  · have t1 : decide (d < 0) = false := decide_eq_false h1
    have HV : Hid (badD d = decide (1000 < d)) := Lib.hid (by unfold badD; rw [t1]; rfl)
    clear h1
    go_enter Tryz.func57, Tryz.ntmps57
    go_wp2
    go_ret
    exact Ret.mk ⟨by rw [HV.out]; rfl, rfl⟩
theorem enters57 : ∀ args w, (callFunc 57 args).run Tryz.prog w = .ok (.enter 57 args) w := fun args w => by simp [go_sem]
theorem containsBad_any (A : Option Addr) (ca : Nat) (ds : List Int) (w : World) (hl : IntsAt w A ds) (hn : ds.length ≤ 100000) :
    Calls Tryz.prog 56 #[.slice A ds.length ca, .func (.func 57) #[] #[]] w (Ret fun v w' => v = .bool (ds.any badD) ∧ ∃ q, w' = w.drewN q) := by
  by_cases h0 : ds.length = 0
  · have hds := List.length_eq_zero_iff.1 h0
    subst hds
    refine (Tryz.slices_ContainsFunc_empty (α := Int) A ca _ w).mono ?_
    rintro _ w' ⟨rfl, rfl⟩
    exact Ret.mk ⟨rfl, 0, rfl⟩
  · obtain ⟨b, off, rfl, _⟩ := hl.at_ (i := 0) (by omega)
    refine (Tryz.slices_ContainsFunc (fun d : Int => Value.int .i64 d) badD 57 #[] enters57 b off ds.length ca ds w (fun W x _ => ?_) (Nat.le_refl _) (by omega) (fun j hj => ?_)).mono ?_
    · exact (Encode1_any x W).mono (by rintro _ w' ⟨v, rfl, rfl, rfl⟩; exact ⟨rfl, 0, rfl⟩)
    · obtain ⟨b', off', e, h2⟩ := hl.at_ hj
      injection e with e; injection e with e1 e2
      subst e1; subst e2
      rw [h2]; simp [hj]
    · rintro _ w' ⟨rfl, q, rfl⟩
      rw [List.take_length]
      exact Ret.mk ⟨rfl, q, rfl⟩
theorem cells_app (a l : List UInt8) : byteCells (a ++ l) = byteCells a ++ strCells (bs l) := by
  unfold byteCells strCells
  rw [List.map_append]; rfl
theorem builder_blk {T e : TypeId} {B b : Nat} {bs : List Value} {W : World} (h : IsBuilderF T e B b bs W) : ∃ cs, W.heap[b]? = some (.cells cs T (0, 0)) := by
  rcases h with ⟨_, v, h, _⟩ | ⟨_, v, h, _⟩
  · exact ⟨_, h⟩
  · exact ⟨_, h⟩
theorem keepsFrom_below {n : Nat} {W W' : World} (h : Below W.heap.size W W') : KeepsFrom n W W' := ⟨h.size, fun k _ _ hk _ => (h.block k (blk_lt hk)).trans hk⟩
theorem keepsFrom_write {n N : Nat} {W W' : World} {cs : Array Value} (hb : W.heap[N]? = some (.cells cs 81 (0, 0))) (hs : W.heap.size ≤ W'.heap.size) (h : OthersKept 5 (some N) W W') : KeepsFrom n W W' := ⟨hs, fun k o _ hk ho =>
  h k o hk (fun e => by
    injection e with e; subst e
    rw [hb] at hk; injection hk with hk; rw [← hk] at ho; cases ho) (fun c fz e => by rw [e] at ho; cases ho)⟩
theorem keepC_write {n N : Nat} {W W' : World} {c2 c3 : Array Value} (hn : n = N + 4) (h2 : W.heap[N + 2]? = some (.cells c2 29 (0, 0))) (h3 : W.heap[N + 2 + 1]? = some (.cells c3 3 (0, 0))) (hb : Below N W W') (h : OthersKept 5 (some N) W W') : KeepC n N (N + 1) W W' :=
  ⟨hb.os, hb.tape, hb.output, hb.size, fun b h1 hx hy => by
    by_cases q : b < N
    · exact hb.block b q
    · by_cases q2 : b = N + 2
      · subst q2
        rw [h2]
        exact h _ _ h2 (fun e => by injection e with e; omega) (fun c fz e => by injection e with _ e; cases e)
      · obtain rfl : b = N + 2 + 1 := by omega
        rw [h3]
        exact h _ _ h3 (fun e => by injection e with e; omega) (fun c fz e => by injection e with _ e; cases e)⟩
set_option maxRecDepth 100000 in
set_option maxHeartbeats 4000000 in
theorem Encode_any (A : Option Addr) (ca : Nat) (ds : List Int) (w : World) (hl : IntsAt w A ds) (hn : ds.length ≤ 100000) (hca : ds.length ≤ ca) :
    Calls Tryz.prog 20 #[.slice A ds.length ca] w (Ret fun v w' => v = encT ds ∧ Below w.heap.size w w') := by
  by_cases h2 : 200 < ds.length
  · have HE := Lib.hid (encT_of (encV_bad (ds := ds) (e := 6) (by unfold encErr; rw [if_pos h2]) (by omega)))
    have d1 : decide ((ds.length : Int) > 200) = true := by simp; omega
    have d2 : decide ((200 : Int) < (ds.length : Int)) = true := by simp; omega
    clear h2 hl hn hca
    go_enter Tryz.func20, Tryz.ntmps20
    go_wp2
    go_ret2
    exact Ret.mk' HE.out.symm ⟨rfl, Below.refl _ _⟩
  have d1 : decide ((ds.length : Int) > 200) = false := by simp; omega
  have d2 : decide ((200 : Int) < (ds.length : Int)) = false := by simp; omega
  have HF := Lib.hid (containsBad_any A ca ds w hl hn)
  cases hb : ds.any badD with
  | true =>
    rw [hb] at HF
    have HE := Lib.hid (encT_of (encV_bad (ds := ds) (e := 3) (by
      unfold encErr; rw [if_neg h2, if_neg]
      intro k
      rw [(badD_any ds).2 k] at hb; cases hb) (by omega)))
    clear h2 hl hn hca hb
    go_enter Tryz.func20, Tryz.ntmps20
    go_wp2_with fail
    refine HF.out.mono ?_
    rintro _ w1 ⟨v, rfl, rfl, q, rfl⟩
    go_wp2
    go_ret2
    exact Ret.mk' HE.out.symm ⟨rfl, below_drewN (Below.refl _ _) _⟩
  | false =>
    rw [hb] at HF
    have hall := (badD_any ds).1 hb
    have hE0 : encErr ds = 0 := by unfold encErr; rw [if_neg h2, if_pos hall]
    have HE := Lib.hid (encT_of (ds := ds) (l := encL ds) (e := 0) (by unfold encV; rw [if_pos hE0]))
    have HBd := Lib.hid (encErr_iff.1 hE0).2
    have hlen : ds.length ≤ 200 := by omega
    have Hl := Lib.hid hl
    clear hb hall hE0 h2 hl
    refine calls_of_wp_marks Tryz.func20 rfl ?_
    simp only [Tryz.ntmps20, List.size_toArray, List.length_cons, List.length_nil, Nat.reduceAdd, Nat.reduceSub, Array.replicate_succ, Array.replicate_zero, List.push_toArray, List.append_toArray, List.nil_append, List.cons_append]
    go_wp2_with fail
    refine HF.out.mono ?_
    rintro _ w1 ⟨v, rfl, rfl, q, rfl⟩
    have Hl1 : Hid (IntsAt (w.drewN q) A ds) := Lib.hid (Hl.out.drewN q)
    have HB1 : Hid (Below w.heap.size w (w.drewN q)) := Lib.hid (below_drewN (Below.refl _ _) q)
    have hsz1 : (w.drewN q).heap.size = w.heap.size := rfl
    generalize w.drewN q = w1 at *
    have HA : Hid (0 < ds.length → ∃ b off, A = some ⟨b, off, none⟩ ∧ b < w.heap.size) := Lib.hid fun h => by
      obtain ⟨b, off, e, hc⟩ := Hl.out.at_ h
      exact ⟨b, off, e, block_lt_of_cell hc⟩
    have hA2 : ∃ b off, (0 < ds.length → A = some ⟨b, off, none⟩) ∧ (0 < ds.length → b < w.heap.size) := by
      by_cases h0 : 0 < ds.length
      · obtain ⟨b, off, e, hb⟩ := HA.out h0
        exact ⟨b, off, fun _ => e, fun _ => hb⟩
      · exact ⟨0, 0, fun h => absurd h h0, fun h => absurd h h0⟩
    obtain ⟨b, off, hA3, hA4⟩ := hA2
    have HA3 := Lib.hid hA3
    clear HA hA3 Hl
    have hb1 := builder_new w1
    rw [hsz1] at hb1
    have hb2 := hb1.alloc (.cells #[.int .i64 0] 2)
    have hl2 : ((w1.alloc (.cells #[.pointer none, .slice none 0 0] 81)).alloc (.cells #[.int .i64 0] 2)).heap[w.heap.size + 1]? = some (.cells #[.int .i64 0] 2 (0, 0)) := heap_alloc_at _ _ (by simp [hsz1])
    have hs2 : ((w1.alloc (.cells #[.pointer none, .slice none 0 0] 81)).alloc (.cells #[.int .i64 0] 2)).heap.size = w.heap.size + 2 := by simp [hsz1]
    have hB2 : Below w.heap.size w ((w1.alloc (.cells #[.pointer none, .slice none 0 0] 81)).alloc (.cells #[.int .i64 0] 2)) := below_alloc' (below_alloc' HB1.out _) _
    clear hb1
    go_wp2_with fail
    generalize (w1.alloc (.cells #[.pointer none, .slice none 0 0] 81)).alloc (.cells #[.int .i64 0] 2) = W0 at *
    have HC := chunk_any A ds.length ca W0
    rw [hs2] at HC
    refine HC.mono ?_
    rintro _ w3 ⟨v, rfl, rfl, hw3⟩
    clear HC
    generalize hN : w.heap.size = N at *
    have F1 := Lib.hid ((hb2.alloc (.cells #[.slice A ds.length ca] 29)).alloc (.cells #[.int .i64 20] 3))
    have F2 := Lib.hid (blk_alloc (blk_alloc hl2 (.cells #[.slice A ds.length ca] 29)) (.cells #[.int .i64 20] 3))
    have f3 : (W0.alloc (.cells #[.slice A ds.length ca] 29)).heap[N + 2]? = some (.cells #[.slice A ds.length ca] 29 (0, 0)) := heap_alloc_at _ _ (by omega)
    have F3 := Lib.hid (blk_alloc f3 (.cells #[.int .i64 20] 3))
    have F4 : Hid (((W0.alloc (.cells #[.slice A ds.length ca] 29)).alloc (.cells #[.int .i64 20] 3)).heap[N + 2 + 1]? = some (.cells #[.int .i64 20] 3 (0, 0))) := Lib.hid (heap_alloc_at _ _ (by simp; omega))
    have hs3 : ((W0.alloc (.cells #[.slice A ds.length ca] 29)).alloc (.cells #[.int .i64 20] 3)).heap.size = N + 4 := by simp; omega
    have HB3 : Hid (Below N w ((W0.alloc (.cells #[.slice A ds.length ca] 29)).alloc (.cells #[.int .i64 20] 3))) := Lib.hid (by rw [← hN] at hB2 ⊢; exact below_alloc' (below_alloc' hB2 _) _)
    rw [← hw3] at F1 F2 F3 F4 hs3 HB3
    have HI3 : Hid (∀ k (h : k < ds.length), w3.cell? ⟨b, off + k, none⟩ = some (.int .i64 ds[k])) := Lib.hid fun k h => by
      obtain ⟨b', off', e, hc⟩ := IntsAt.at_ Hl1.out h
      rw [HA3.out (by omega)] at e
      injection e with e; injection e with e1 e2
      subst e1; subst e2
      have hbw : w3.heap[b]? = w1.heap[b]? := by
        have := hA4 (by omega)
        rw [HB3.out.block b this]
        exact (HB1.out.block b this).symm
      exact (World.cell?_of_block (a := ⟨b, off + k, none⟩) hbw).trans hc
    have hA5 : 0 < ds.length → b < N := hA4
    clear hb2 hl2 f3 hw3 hs2 hB2 hA4 Hl1 HB1 hsz1
    obtain ⟨xs, hxs⟩ := subs_range 20 ds.length ((ds.length + 19) / 20) (fun x hx => by omega)
    have hxl : xs.length = (ds.length + 19) / 20 := by have := congrArg List.length hxs; simpa using this
    go_wp2_with fail
    refine wp_rangeCs (a := _) (gf := 99) (lb := #[.pointer (some ⟨N + 2, 0, none⟩), .pointer (some ⟨N + 2 + 1, 0, none⟩)]) (by rfl) enters_chunk1 (encs := fun x : {j : Nat // 20 * j < ds.length} => #[pieceV b off ds.length x.1]) w3.heap.size N (N + 1) (Nat.le_refl _) (xs := xs)
      (chunk_stops (·.1) xs 9 (by omega) (N + 2) w3.heap.size N (N + 1) b off ds.length ca A HA3.out hn hca hxs w3 (Nat.le_refl _) (by omega) (by omega) (by omega) (by omega) (by omega) F3.out F4.out) (fun _ => rfl)
      (fun pre W => IsBuilderF 81 5 N N (byteCells (rowsC ds (pre.map (·.1))).1) W ∧ W.heap[N + 1]? = some (.cells #[.int .i64 (rowsC ds (pre.map (·.1))).2] 2 (0, 0)) ∧ KeepC w3.heap.size N (N + 1) w3 W)
      ?hI ⟨F1.out, F2.out, KeepC.refl _ _ _ _⟩
      (fun x t => (t.setIfInBounds 17 (pieceV b off ds.length x.1)).setIfInBounds 6 (pieceV b off ds.length x.1))
      ?assign ?body ?done
    case hI =>
      rintro pre W W' row ⟨h1, h2, h3⟩ hgr hr
      refine ⟨builder_grown h1 hgr (fun r e => (hr r e).2), blk_grown hgr h2 (fun e' => ?_), h3.grown hgr h3.size (fun r e' => .inr (.inr (hr r e').1))⟩
      obtain ⟨_, o, ho', hno⟩ := hr _ e'.symm
      rw [h2] at ho'; injection ho' with ho'; rw [← ho'] at hno; cases hno
    case assign =>
      rintro l0 x W K9 hK9
      unfold pieceV at hK9 ⊢
      gi_wp2
      exact hK9
    case body =>
      rintro l0 pre ⟨j, hj⟩ W hl0 ⟨hbd, hlast, hkp⟩ hpl
      have hm1 : (pre ++ [(⟨j, hj⟩ : {j : Nat // 20 * j < ds.length})]).map (·.1) = pre.map (·.1) ++ [j] := by simp
      have HNext : Hid (rowsC ds ((pre ++ [(⟨j, hj⟩ : {j : Nat // 20 * j < ds.length})]).map (·.1)) = stepC ds (rowsC ds (pre.map (·.1))) j) := Lib.hid (by rw [hm1, rowsC_snoc])
      obtain ⟨hpb, htl⟩ := rowsC_bound HBd.out (pre.map (·.1))
      rw [List.length_map] at htl
      have htl2 : (rowsC ds (pre.map (·.1))).1.length ≤ 1000 := by omega
      have hrc : rowsC ds (pre.map (·.1)) = ((rowsC ds (pre.map (·.1))).1, (rowsC ds (pre.map (·.1))).2) := rfl
      generalize rowsC ds (pre.map (·.1)) = st at *
      obtain ⟨t, p⟩ := st
      dsimp only at hbd hlast hpb htl2
      clear hrc htl hm1
      have hcl := chunkL_len ds j
      have hcb := chunkL_bound HBd.out j
      have hcell : ∀ k (h : k < (chunkL ds j).length), w3.cell? ⟨b, off + 20 * j + k, none⟩ = some (.int .i64 (chunkL ds j)[k]) := fun k h => by
        obtain ⟨h2, e⟩ := chunkL_at h
        rw [e, Nat.add_assoc]; exact HI3.out _ h2
      have hbN := hA5 (by omega)
      have HSt : Hid (stepC ds (t, p) j = (t ++ pieceR (chunkL ds j) p ++ [10], lastR p (chunkL ds j))) := Lib.hid rfl
      have hPl := pieceR_len hcb hpb
      unfold pieceV
      rw [← hcl]
      have hcl20 : (chunkL ds j).length ≤ 20 := by omega
      have hj0 := hj
      clear hcl
      generalize off + 20 * j = o at hcell ⊢
      generalize chunkL ds j = c at *
      have HCell := Lib.hid hcell
      have HBC := Lib.hid hcb
      have HKP := Lib.hid hkp
      have HPB := Lib.hid hpb
      have HSub : Hid (∀ k, k ≤ c.length → (pieceR (c.take k) p).length ≤ 4 * k) := Lib.hid fun k hk => by
        have := pieceR_len (r := c.take k) (fun d hd => hcb d (List.mem_of_mem_take hd)) hpb
        rw [List.length_take] at this; omega
      have hnN : w3.heap.size = N + 4 := hs3
      clear hcell hcb hkp hpb hPl hA5
      gi_wp2
      gi_loopw [20] (fun i wr => ∃ k, k ≤ c.length ∧ i = .int .i64 (k : Nat) ∧ Hid (IsBuilderF 81 5 N N (byteCells (t ++ pieceR (c.take k) p)) wr) ∧ Hid (wr.heap[N + 1]? = some (.cells #[.int .i64 (lastR p (c.take k))] 2 (0, 0))) ∧ Hid (KeepC w3.heap.size N (N + 1) W wr) ∧ Hid (KeepsFrom w3.heap.size W wr)) (fun i _ => c.length - (intOf i).toNat)
      case atStart => exact ⟨0, Nat.zero_le _, rfl, Lib.hid (by simpa [pieceR] using hbd), Lib.hid (by simpa [lastR] using hlast), Lib.hid (KeepC.refl _ _ _ _), Lib.hid (KeepsFrom.refl _ _)⟩
      case round =>
        clear hbd hlast
        obtain ⟨k, hk, rfl, HBu, HLa, HKc, HKf⟩ := hrel
        have HKt := Lib.hid (HKP.out.trans HKc.out)
        by_cases hkc : k < c.length
        · have g1 : wr.cell? ⟨b, o + k, none⟩ = some (.int .i64 c[k]) := by
            have hb1 : wr.heap[b]? = w3.heap[b]? := HKt.out.block b (by omega) (by omega) (by omega)
            exact (World.cell?_of_block (a := ⟨b, o + k, none⟩) hb1).trans (HCell.out k hkc)
          have l1 : wr.cell? ⟨N + 1, 0, none⟩ = some (.int .i64 (lastR p (c.take k))) := (blk_cell HLa.out).trans rfl
          have hdb := HBC.out _ (List.getElem_mem hkc)
          have hpb' := lastR_bound (r := c.take k) (fun d hd => HBC.out d (List.mem_of_mem_take hd)) HPB.out
          have htk := List.take_succ_eq_append_getElem hkc
          have HP1 : Hid (pieceR (c.take (k + 1)) p = pieceR (c.take k) p ++ letL (zz (c[k] - lastR p (c.take k)))) := Lib.hid (by rw [htk, pieceR_snoc])
          have HP2 : Hid (lastR p (c.take (k + 1)) = c[k]) := Lib.hid (by rw [htk, lastR_snoc])
          have hsub := HSub.out k hk
          clear htk
          generalize c[k] = d at *
          generalize hpr : lastR p (c.take k) = p' at *
          generalize pieceR (c.take k) p = P at *
          obtain ⟨D, hD⟩ : ∃ D, d - p' = D := ⟨_, rfl⟩
          rw [hD] at HP1
          obtain ⟨z, hz⟩ : ∃ z, z = zz D := ⟨_, rfl⟩
          rw [← hz] at HP1
          have hz2 : z ≤ 2000 := by rw [hz]; exact zz_lt (by omega) (by omega)
          have hLl := letL_len hz2
          have wd : IntKind.i64.wrap D = D := IntWalk.i64_in _ (by omega)
          obtain ⟨y, hy⟩ : ∃ y, 2 * D = y := ⟨_, rfl⟩
          have wd2 : IntKind.i64.wrap y = y := IntWalk.i64_in _ (by omega)
          have hz3 : (decide (y < 0) = false ∧ y = (z : Int)) ∨ (decide (y < 0) = true ∧ -y - 1 = (z : Int)) := by
            unfold zz at hz
            split at hz
            · exact .inl ⟨by simp; omega, by omega⟩
            · exact .inr ⟨by simp; omega, by omega⟩
          have wd3 : IntKind.i64.wrap (-y) = -y := IntWalk.i64_in _ (by omega)
          have wd4 : IntKind.i64.wrap (z : Int) = (z : Int) := IntWalk.i64_in _ (by omega)
          have HLet : Hid (∀ V, Calls Tryz.prog 60 #[.int .i64 (z : Int)] V (Ret fun v w' => v = .string (bs (letL z)) ∧ Below V.heap.size V w')) := Lib.hid fun V => letters_any z V (by omega)
          generalize letL z = L at *
          have hyd : 2 * D = y := hy
          clear hdb hpb' hz hy hz2 hpr hlen hxl
          have hwN : N + 4 ≤ wr.heap.size := by have := HKt.out.size; omega
          rcases hz3 with ⟨z1, rfl⟩ | ⟨z1, z2⟩
          all_goals
            gi_wp2_with fail
            refine ⟨trivial, (CallsIn.inRound l0 (callsIn_wide.2 (HLet.out _))).mono ?_⟩
            rintro _ W1 ⟨v, rfl, rfl, hB1⟩
            have HB1 := Lib.hid hB1
            have hs1 := hB1.size
            have HBu1 := Lib.hid (builder_kept HBu.out fun k c t fr hk _ => blk_below hB1 hk)
            have HLa1 := Lib.hid (blk_below hB1 HLa.out)
            have HKt1 := Lib.hid (HKt.out.trans (KeepC.of_below hB1 (by omega)))
            clear hB1
            gi_wp2_with fail
            refine ⟨trivial, (CallsIn.inRound l0 (callsIn_wide.2 (Tryz.writeString N N _ (bs L) W1 HBu1.out (by unfold byteCells; rw [List.length_map, List.length_append, bs_size]; omega) (by omega)))).mono ?_⟩
            rintro _ W2 ⟨rfl, hb2, hB2, hO2⟩
            obtain ⟨cs, hcs⟩ := builder_blk HBu1.out
            have HK2 := Lib.hid (keepC_write hnN (HKt1.out.blk F3.out (by omega) (by omega) (by omega)) (HKt1.out.blk F4.out (by omega) (by omega) (by omega)) hB2 hO2)
            have HF2 := Lib.hid (keepsFrom_write (n := w3.heap.size) hcs hB2.size hO2)
            have hl2 : W2.heap[N + 1]? = some (.cells #[.int .i64 p'] 2 (0, 0)) := hO2 _ _ HLa1.out (fun e => by injection e with e; omega) (fun c fz e => by injection e with _ e; cases e)
            have q1 : W2.cell? ⟨N + 1, 0, none⟩ = some (.int .i64 p') := (blk_cell hl2).trans rfl
            have q2 : W2.frozen? ⟨N + 1, 0, none⟩ = false := blk_frozen (i := 0) hl2
            have HL2 := Lib.hid hl2
            have HBu2 : Hid (IsBuilderF 81 5 N N (byteCells (t ++ P ++ L)) W2) := Lib.hid (by rw [cells_app]; exact .inr hb2)
            clear hb2 hB2 hO2 hcs hl2
            gi_wp2
            go_roundw
            case rel => exact ⟨k + 1, by omega, by go_num, Lib.hid (by rw [HP1.out, ← List.append_assoc]; exact builder_set HBu2.out HL2.out (by decide) (by omega) 0 _), Lib.hid (by rw [HP2.out]; exact blk_set (i := 0) HL2.out _), Lib.hid ((HKc.out.trans ((KeepC.of_below HB1.out (by omega)).trans HK2.out)).set (p := ⟨N + 1, 0, none⟩) (.inr (.inl rfl)) _), Lib.hid (((HKf.out.trans (keepsFrom_below HB1.out)).trans HF2.out).trans ((KeepsOthers.setCell _ _ _).from _))⟩
            case measure => simp [intOf]; omega
        · obtain rfl : k = c.length := by omega
          rw [List.take_length] at HBu HLa
          have hsub := HSub.out c.length (Nat.le_refl _)
          rw [List.take_length] at hsub
          have hwN : N + 4 ≤ wr.heap.size := by have := HKt.out.size; omega
          have HEnd : Hid (stepC ds (t, p) j = (t ++ pieceR c p ++ [10], lastR p c)) := HSt
          gi_wp2_with fail
          refine ⟨trivial, (CallsIn.inRound l0 (callsIn_wide.2 (Tryz.writeString N N _ ⟨#[10]⟩ wr HBu.out (by unfold byteCells; rw [List.length_map, List.length_append]; show _ + 1 ≤ _; omega) (by omega)))).mono ?_⟩
          rintro _ W2 ⟨rfl, hb2, hB2, hO2⟩
          obtain ⟨cs, hcs⟩ := builder_blk HBu.out
          have hk2 := keepC_write hnN (HKt.out.blk F3.out (by omega) (by omega) (by omega)) (HKt.out.blk F4.out (by omega) (by omega) (by omega)) hB2 hO2
          have hf2 := keepsFrom_write (n := w3.heap.size) hcs hB2.size hO2
          have hl2 : W2.heap[N + 1]? = some (.cells #[.int .i64 (lastR p c)] 2 (0, 0)) := hO2 _ _ HLa.out (fun e => by injection e with e; omega) (fun c fz e => by injection e with _ e; cases e)
          have hbu2 : IsBuilderF 81 5 N N (byteCells (t ++ pieceR c p ++ [10])) W2 := by rw [cells_app]; exact .inr hb2
          have HFin : Hid (KeepsFrom w3.heap.size W W2 ∧ KeepC w3.heap.size N (N + 1) W W2 ∧ (IsBuilderF 81 5 N N (byteCells (rowsC ds ((pre ++ [(⟨j, hj0⟩ : {j : Nat // 20 * j < ds.length})]).map (·.1))).1) W2 ∧ W2.heap[N + 1]? = some (.cells #[.int .i64 (rowsC ds ((pre ++ [(⟨j, hj0⟩ : {j : Nat // 20 * j < ds.length})]).map (·.1))).2] 2 (0, 0)) ∧ KeepC w3.heap.size N (N + 1) w3 W2)) := Lib.hid
            ⟨HKf.out.trans hf2, HKc.out.trans hk2, by rw [HNext.out, HEnd.out]; exact hbu2, by rw [HNext.out, HEnd.out]; exact hl2, HKt.out.trans hk2⟩
          clear hb2 hB2 hO2 hcs hk2 hf2 hl2 hbu2
          gi_wp2
          exact HFin.out
    case done =>
      rintro D W hD ⟨h1, h2, h3⟩ hm
      rw [hxs, rowsC_all] at h1
      have HBW : Hid (Below N w W) := Lib.hid ⟨h3.os.trans HB3.out.os, h3.tape.trans HB3.out.tape, h3.output.trans HB3.out.output, Nat.le_trans HB3.out.size h3.size, fun k hk => (h3.block k (by omega) (by omega) (by omega)).trans (HB3.out.block k hk)⟩
      have HBu := Lib.hid h1
      have HMk := Lib.hid (MarksAt.one hm (Nat.le_of_lt (Nat.lt_of_lt_of_le (show N < w3.heap.size by omega) hD)))
      have hNW : N ≤ W.heap.size := by have := h3.size; omega
      clear h1 h2 h3 hm
      dsimp only
      rw [show ({ target := .collected D, args := #[] } : Deferred) = mark D from rfl]
      go_wp2_with fail
      refine (Tryz.Builder_String_any_k N N (encL ds) W HBu.out hNW).mono ?_
      rintro _ W2 ⟨rfl, hb2, hB2, hO2⟩
      have HM2 := Lib.hid (MarksAt.one (W := W2) (hO2 _ _ (HMk.out.2 D (by simp)).2 (fun e => by injection e with e; omega) (fun c fz e => by cases e)) (HMk.out.2 D (by simp)).1)
      have HB2 := Lib.hid (HBW.out.trans hB2)
      clear hb2 hB2 hO2 HMk HBu HBW
      go_wp2
      exact leaves_marks [D] _ HM2.out ⟨_, results_tmp2 (t := 2) (u := 3) rfl _ _ _, Ret.mk ⟨by rw [HE.out]; rfl, by rw [hN]; exact putAll_below (Nat.le_refl _) [D] _ HM2.out HB2.out⟩⟩
end Go.Proofs.YtkpmmgeffbhngaaGreatDoor
namespace Go.Proofs.YtkpmmgeffbhngaaGreatDoor
open Go.RowKit Prot Go.Lib Go.Maps
theorem suffix_nl (t : List UInt8) : Lib.hasSuffix t [10] = true ↔ t.getLast? = some 10 := by
  unfold Lib.hasSuffix
  rw [List.isSuffixOf_iff_suffix, List.getLast?_eq_some_iff]
  constructor
  · rintro ⟨r, e⟩; exact ⟨r, e.symm⟩
  · rintro ⟨r, e⟩; exact ⟨r, e.symm⟩
theorem countByte_nl (t : List UInt8) : (Lib.countByte t 10 : Int) = ((t.count 10 : Nat) : Int) := rfl
set_option maxRecDepth 100000 in
set_option maxHeartbeats 1000000 in
theorem checkText_any (s : ByteArray) (w : World) (hs : s.size ≤ 9223372036854775807) : Calls Tryz.prog 104 #[.string s] w (Ret fun v w' => v = .int .i64 (textErr s.data.toList) ∧ w' = w) := by
  have hsz : s.data.toList.length = s.size := (Lib.size_eq s).symm
  obtain ⟨t, ht⟩ : ∃ t, t = s.data.toList := ⟨_, rfl⟩
  rw [← ht] at hsz ⊢
  by_cases h1 : 65536 < s.size
  · have HV : Hid (textErr t = 7) := Lib.hid (by unfold textErr; rw [if_pos (by omega)])
    have d1 : decide ((s.size : Int) > 65536) = true := by simp; omega
    have d2 : decide ((65536 : Int) < (s.size : Int)) = true := by simp; omega
    clear h1 ht hsz hs
    go_enter Tryz.func104, Tryz.ntmps104
    go_wp2
    go_ret
    exact Ret.mk ⟨by rw [HV.out]; rfl, rfl⟩
  have d1 : decide ((s.size : Int) > 65536) = false := by simp; omega
  have d2 : decide ((65536 : Int) < (s.size : Int)) = false := by simp; omega
  have HS : Hid (Calls Tryz.prog 131 #[.string s, .string ⟨#[10]⟩] w fun e w' => e = .returned (.bool (Lib.hasSuffix t [10])) ∧ w' = w) := Lib.hid (by
    rw [ht]; exact Tryz.strings_HasSuffix s ⟨#[10]⟩ w (by omega))
  have HC : Hid (Calls Tryz.prog 132 #[.string s, .string ⟨#[10]⟩] w fun e w' => e = .returned (.int .i64 (t.count 10 : Nat)) ∧ w' = w) := Lib.hid (by
    rw [← countByte_nl, ht]; exact Tryz.strings_Count_one s 10 w)
  have HE : Hid (textErr t = if t ≠ [] ∧ t.getLast? ≠ some 10 then 8 else if 60 < t.count 10 then 6 else 0) := Lib.hid (by
    unfold textErr; rw [if_neg (by omega)])
  have hcnt : (decide ((60 : Int) < ((t.count 10 : Nat) : Int)) = true ∧ decide (((t.count 10 : Nat) : Int) > 60) = true ∧ decide (60 < t.count 10) = true ∧ Hid ((if 60 < t.count 10 then (6 : Int) else 0) = 6)) ∨ (decide ((60 : Int) < ((t.count 10 : Nat) : Int)) = false ∧ decide (((t.count 10 : Nat) : Int) > 60) = false ∧ decide (60 < t.count 10) = false ∧ Hid ((if 60 < t.count 10 then (6 : Int) else 0) = 0)) := by
    by_cases h : 60 < t.count 10
    · exact .inl ⟨by simp; omega, by simp; omega, by simp; omega, Lib.hid (if_pos h)⟩
    · exact .inr ⟨by simp; omega, by simp; omega, by simp; omega, Lib.hid (if_neg h)⟩
  by_cases h0 : t = []
  · have hse : s.toList.isEmpty = true := by rw [ByteArray.toList_eq, ← ht, h0]; rfl
    have HV : Hid (textErr t = if 60 < t.count 10 then 6 else 0) := Lib.hid (by rw [HE.out, if_neg (fun k => k.1 h0)])
    clear h0 ht hsz hs h1 HE HS
    generalize t.count 10 = n at *
    rcases hcnt with ⟨c1, c2, c3, hv⟩ | ⟨c1, c2, c3, hv⟩
    all_goals
      rw [hv] at HV
      clear hv
      go_enter Tryz.func104, Tryz.ntmps104
      go_wp2_with fail
      refine HC.out.mono ?_
      rintro _ w1 ⟨rfl, rfl⟩
      go_wp2
      go_ret
      exact Ret.mk ⟨by rw [HV.out]; rfl, rfl⟩
  · have hse : s.toList.isEmpty = false := by
      rw [ByteArray.toList_eq, ← ht]
      cases t with
      | nil => exact absurd rfl h0
      | cons a l => rfl
    cases hq : Lib.hasSuffix t [10] with
    | false =>
      rw [hq] at HS
      have HV : Hid (textErr t = 8) := Lib.hid (by
        rw [HE.out, if_pos ⟨h0, fun k => by rw [(suffix_nl t).2 k] at hq; cases hq⟩])
      clear h0 ht hsz hs h1 HE hcnt HC hq
      go_enter Tryz.func104, Tryz.ntmps104
      go_wp2_with fail
      refine HS.out.mono ?_
      rintro _ w1 ⟨rfl, rfl⟩
      go_wp2
      go_ret
      exact Ret.mk ⟨by rw [HV.out]; rfl, rfl⟩
    | true =>
      rw [hq] at HS
      have HV : Hid (textErr t = if 60 < t.count 10 then 6 else 0) := Lib.hid (by rw [HE.out, if_neg (fun k => k.2 ((suffix_nl t).1 hq))])
      clear h0 ht hsz hs h1 HE hq
      generalize t.count 10 = n at *
      rcases hcnt with ⟨c1, c2, c3, hv⟩ | ⟨c1, c2, c3, hv⟩
      all_goals
        rw [hv] at HV
        clear hv
        go_enter Tryz.func104, Tryz.ntmps104
        go_wp2_with fail
        refine HS.out.mono ?_
        rintro _ w1 ⟨rfl, rfl⟩
        go_wp2_with fail
        refine HC.out.mono ?_
        rintro _ w1 ⟨rfl, rfl⟩
        go_wp2
        go_ret
        exact Ret.mk ⟨by rw [HV.out]; rfl, rfl⟩
/-- an item as a value -/
def vItem (x : It) : Value := .agg #[.int .i64 x.num, .int .i64 x.box, .int .i64 x.day, .int .i64 x.voice, .int .i64 x.turns, .int .i64 x.src, .bool x.cracked]
def wholeV (x : It) (b : Bool) : Int := if b = false then 5 else if x.cracked = true then 22 else 0
set_option maxRecDepth 100000 in
theorem whole_any (x : It) (b : Bool) (w : World) : Calls Tryz.prog 135 #[vItem x, .bool b] w (Ret fun v w' => v = .int .i64 (wholeV x b) ∧ Below w.heap.size w w') := by
  obtain ⟨num, box, day, voice, turns, src, cracked⟩ := x
  have hX := heap_alloc_new w (.cells #[.int .i64 num, .int .i64 box, .int .i64 day, .int .i64 voice, .int .i64 turns, .int .i64 src, .bool cracked] 67)
  have hB := below_alloc' (Below.refl w.heap.size w) (.cells #[.int .i64 num, .int .i64 box, .int .i64 day, .int .i64 voice, .int .i64 turns, .int .i64 src, .bool cracked] 67)
  have y6 := (blk_cell (i := 6) hX).trans rfl
  unfold vItem
  dsimp only
  clear hX
  cases b <;> cases cracked
  all_goals
    go_enter Tryz.func135, Tryz.ntmps135
    go_wp2
    go_ret
    exact Ret.mk ⟨rfl, hB⟩
end Go.Proofs.YtkpmmgeffbhngaaGreatDoor
namespace Go.Proofs.YtkpmmgeffbhngaaGreatDoor
open Go.RowKit Go.Shelf Prot Go.Lib
open Go.Sort (grow SWO PermIn SortedIn HoldsK)
instance instInhItV5 : Inhabited It := ⟨⟨0, 0, 0, 0, 0, 0, false⟩⟩
theorem enters87 : ∀ args w, (callFunc 87 args).run Tryz.prog w = .ok (.enter 87 args) w := fun args w => by simp [go_sem]
def cfI (a b : It) : Int := cmpV a.num b.num
theorem cfI_lt (a b : It) : ltOf cfI a b = decide (a.num < b.num) := by
  unfold ltOf cfI cmpV
  by_cases h : a.num < b.num
  · rw [if_pos h, decide_eq_true h]; rfl
  · rw [if_neg h, decide_eq_false h]
    split <;> rfl
theorem cfI_swo : SWO (ltOf cfI) := by
  refine ⟨fun x => ?_, fun x y z => ?_, fun x y z => ?_⟩ <;> simp only [cfI_lt, decide_eq_true_eq, decide_eq_false_iff_not] <;> omega
set_option maxRecDepth 100000 in
theorem sortF_any (blk off cap : Nat) (l : List It) (w : World) (hH : HoldsK encIt 7 w blk off l.toArray) (hblk : blk < w.heap.size) (hn : l.length ≤ 100000) :
    Calls Tryz.prog 86 #[.slice (some ⟨blk, off, none⟩) l.length cap, .func (.func 87) #[] #[]] w fun e w' => e = .returned (.tuple #[]) ∧ ∃ (d : Array It) (n : Nat) (os : Array Obj), d.toList.Perm l ∧ d.toList.Pairwise (fun a b => a.num ≤ b.num) ∧ w' = sortWorldK encIt 7 w blk off n d os := by
  refine (AnyQ.slices_SortFunc Tryz.laysSortF 7 (by intro w; kernel_rfl) (by intro w; kernel_rfl) encIt encIt_len oneIt cfI cfI_swo 87 #[] blk off cap l.toArray w enters87 (fun m os dk hs x y => ?_) hH hblk (by simp; omega)).mono ?_
  · exact ReadList1_lays x y _
  · rintro e w' ⟨rfl, d, n, os, hp, hs, rfl⟩
    refine ⟨rfl, d, n, os, ?_, ?_, rfl⟩
    · have h := hp.2.2
      have h1 := hp.1
      have e1 : d.extract 0 l.toArray.size = d := by rw [← h1]; simp
      rw [e1] at h
      simpa using h
    · rw [List.pairwise_iff_getElem]
      intro i j hi hj hij
      have h1 := hp.1
      have h2 := hs i j (Nat.zero_le _) hij (by have : d.toList.length = d.size := by simp
                                                omega)
      rw [cfI_lt] at h2
      simp only [decide_eq_false_iff_not] at h2
      simp at hi hj
      rw [getElem!_pos d j hj, getElem!_pos d i hi] at h2
      simp
      omega
end Go.Proofs.YtkpmmgeffbhngaaGreatDoor
namespace Go.Proofs.YtkpmmgeffbhngaaGreatDoor
open Go.RowKit Go.Shelf Prot Go.Lib
open Go.Sort (grow SWO PermIn SortedIn HoldsK putRow mapBlock putRowK)
theorem sorted_block (w : World) (blk off n : Nat) (d : Array It) (os : Array Obj) (b : Nat) (hb : b < w.heap.size) (hne : b ≠ blk) : (sortWorldK encIt 7 w blk off n d os).heap[b]? = w.heap[b]? := by
  unfold sortWorldK grow putRowK putRow mapBlock
  show ((w.heap.modify blk _) ++ os)[b]? = _
  rw [Array.getElem?_append_left (by simpa using hb), Array.getElem?_modify, if_neg (Ne.symm hne)]
theorem sorted_size (w : World) (blk off n : Nat) (d : Array It) (os : Array Obj) : w.heap.size ≤ (sortWorldK encIt 7 w blk off n d os).heap.size := by
  unfold sortWorldK grow putRowK putRow mapBlock
  show _ ≤ ((w.heap.modify blk _) ++ os).size
  simp
theorem sorted_below (w : World) (blk off n : Nat) (d : Array It) (os : Array Obj) {N : Nat} (hN : N ≤ blk) (hw : N ≤ w.heap.size) : Below N w (sortWorldK encIt 7 w blk off n d os) :=
  ⟨rfl, rfl, rfl, sorted_size w blk off n d os, fun k hk => sorted_block w blk off n d os k (by omega) (by omega)⟩
theorem sorted_items (w : World) (blk off n : Nat) (l : List It) (d : Array It) (os : Array Obj) (hH : HoldsK encIt 7 w blk off l.toArray) (hblk : blk < w.heap.size) (hs : d.toList.Perm l) :
    ItemsAt (sortWorldK encIt 7 w blk off n d os) (some ⟨blk, off, none⟩) d.toList := by
  have hH' := holdsK_sortWorldK_c encIt 7 w blk off l.toArray d n os hH hblk (by have := hs.length_eq; simpa using this)
  intro i hi
  refine ⟨blk, off, rfl, fun c u hc => ?_⟩
  have hc' : c < 7 := by have := (List.getElem?_eq_some_iff.1 hc).1; rw [encIt_len] at this; exact this
  have hi' : i < d.size := by simpa using hi
  have h := (hH'.cell hi' hc').1
  rw [h, getElem!_pos d i hi']
  rw [show d.toList[i] = d[i] from by simp] at hc
  rw [getElem!_pos _ c (by rw [encIt_len]; exact hc')]
  obtain ⟨_, h2⟩ := List.getElem?_eq_some_iff.1 hc
  rw [h2]
end Go.Proofs.YtkpmmgeffbhngaaGreatDoor
