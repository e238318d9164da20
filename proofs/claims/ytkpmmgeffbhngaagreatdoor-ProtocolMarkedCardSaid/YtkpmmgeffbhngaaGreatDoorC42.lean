/- What the laws of the chapter rest on, part 42. -/
import Derived.Test.YtkpmmgeffbhngaaGreatDoorC41
set_option linter.unusedSimpArgs false
set_option linter.unusedVariables false
set_option linter.unnecessarySimpa false
namespace Prot
end Prot
namespace Go.Shelf
end Go.Shelf
namespace Go.Maps
end Go.Maps
namespace Go.Proofs.YtkpmmgeffbhngaaGreatDoor
open Go.RowKit Go.Shelf Prot Go.Lib Go.Maps
attribute [local go_sem] Oper.semAt_some
/-- left in the normal way alone -/
def onlyN (Q : Exit → Act → World → Prop) : Exit → Act → World → Prop
  | .normal, a, w => Q .normal a w
  | _, _, _ => False
theorem wp_onlyN {c : Code} {Q : Exit → Act → World → Prop} {a : Act} {w : World} (h : c.wp Tryz.prog (onlyN Q) a w) : c.wp Tryz.prog Q a w :=
  wp_mono h fun e a w h => by
    cases e <;> first | exact h | exact h.elim
theorem yields_row {W : World} {o : Oper} {a : Act} (x : Operand) (ty : TypeId) (ho : o.op = .load ty x) (g : Nat) (hx : a.eval x = .pointer (some ⟨g, 0, none⟩)) {v : Value} (hl : (loadVar ty ⟨g, 0, none⟩).run Tryz.prog W = .ok v W) : (execOp a.eval o).run Tryz.prog W = .ok (.value v) W := by
  unfold execOp
  simp only [ho, hx, Instr.loadAt, Instr.sureAddr, Sem.run_bind, Sem.run_pure, Result.andThen_ok, hl]
/-- the cylinder of a line, in a block of its own, beside all else -/
def ItX (w W : World) (N : Nat) (s : RSt) (A : Option Addr) (ca : Nat) (x : It) (k : Nat) (V : World) : Prop :=
  RdM w N s A ca V ∧ Keep2 N W V ∧ N + 6 ≤ k ∧ V.heap[k]? = some (.cells (encIt x).toArray 67 (0, 0))
section
variable {w W V : World} {k : Nat} {a0 a1 a2 a3 a4 a5 a6 : Value} {ty : TypeId}
theorem seven_cells (h : V.heap[k]? = some (.cells #[a0, a1, a2, a3, a4, a5, a6] ty (0, 0))) : V.cell? ⟨k, 0, none⟩ = some a0 ∧ V.cell? ⟨k, 1, none⟩ = some a1 ∧ V.cell? ⟨k, 2, none⟩ = some a2 ∧ V.cell? ⟨k, 3, none⟩ = some a3 ∧ V.cell? ⟨k, 4, none⟩ = some a4 ∧ V.cell? ⟨k, 5, none⟩ = some a5 ∧ V.cell? ⟨k, 6, none⟩ = some a6 ∧
    V.frozen? ⟨k, 0, none⟩ = false ∧ V.frozen? ⟨k, 1, none⟩ = false ∧ V.frozen? ⟨k, 2, none⟩ = false ∧ V.frozen? ⟨k, 3, none⟩ = false ∧ V.frozen? ⟨k, 4, none⟩ = false ∧ V.frozen? ⟨k, 5, none⟩ = false ∧ V.frozen? ⟨k, 6, none⟩ = false :=
  ⟨(blk_cell (i := 0) h).trans rfl, (blk_cell (i := 1) h).trans rfl, (blk_cell (i := 2) h).trans rfl, (blk_cell (i := 3) h).trans rfl, (blk_cell (i := 4) h).trans rfl, (blk_cell (i := 5) h).trans rfl, (blk_cell (i := 6) h).trans rfl, blk_frozen (i := 0) h, blk_frozen (i := 1) h, blk_frozen (i := 2) h, blk_frozen (i := 3) h, blk_frozen (i := 4) h, blk_frozen (i := 5) h, blk_frozen (i := 6) h⟩
theorem RdM.free {N : Nat} {s : RSt} {A : Option Addr} {ca : Nat} (h : RdM w N s A ca V) (hk : N + 6 ≤ k) (ho : ∀ r, (Value.slice A s.2.length ca).ownBlock = some r → r ≠ k) (i : Nat) (v : Value) : RdM w N s A ca (V.setCell ⟨k, i, none⟩ v) := by
  obtain ⟨u, hu⟩ := h.str
  exact ⟨blk_far h.r0 (by show _ ≠ k; omega) v, blk_far h.r1 (by show _ ≠ k; omega) v, blk_far h.out (by show _ ≠ k; omega) v, blk_far h.bxs (by show _ ≠ k; omega) v, blk_far h.box (by show _ ≠ k; omega) v, ⟨u, blk_far hu (by show _ ≠ k; omega) v⟩,
    ownsRow_setCell_other h.own (a := ⟨k, i, none⟩) (fun e => ho k e rfl) v, h.below.setCell (p := ⟨k, i, none⟩) (by show N ≤ k; omega) v⟩
theorem seven_put {N : Nat} {s : RSt} {A : Option Addr} {ca : Nat} (hM : RdM w N s A ca V) (hK : Keep2 N W V) (hX : V.heap[k]? = some (.cells #[a0, a1, a2, a3, a4, a5, a6] ty (0, 0))) (hk : N + 6 ≤ k) (ho : ∀ r, (Value.slice A s.2.length ca).ownBlock = some r → r ≠ k) (h5 : 5 < N) (u0 u1 u2 u3 u4 u5 u6 : Value) :
    RdM w N s A ca (((((((V.setCell ⟨k, 0, none⟩ u0).setCell ⟨k, 1, none⟩ u1).setCell ⟨k, 2, none⟩ u2).setCell ⟨k, 3, none⟩ u3).setCell ⟨k, 4, none⟩ u4).setCell ⟨k, 5, none⟩ u5).setCell ⟨k, 6, none⟩ u6) ∧
    Keep2 N W (((((((V.setCell ⟨k, 0, none⟩ u0).setCell ⟨k, 1, none⟩ u1).setCell ⟨k, 2, none⟩ u2).setCell ⟨k, 3, none⟩ u3).setCell ⟨k, 4, none⟩ u4).setCell ⟨k, 5, none⟩ u5).setCell ⟨k, 6, none⟩ u6) ∧
    (((((((V.setCell ⟨k, 0, none⟩ u0).setCell ⟨k, 1, none⟩ u1).setCell ⟨k, 2, none⟩ u2).setCell ⟨k, 3, none⟩ u3).setCell ⟨k, 4, none⟩ u4).setCell ⟨k, 5, none⟩ u5).setCell ⟨k, 6, none⟩ u6).heap[k]? = some (.cells #[u0, u1, u2, u3, u4, u5, u6] ty (0, 0)) := by
  have q0 := blk_set hX (i := 0) u0
  simp only [List.setIfInBounds_toArray, List.set_cons_zero, List.set_cons_succ] at q0
  have q1 := blk_set q0 (i := 1) u1
  simp only [List.setIfInBounds_toArray, List.set_cons_zero, List.set_cons_succ] at q1
  have q2 := blk_set q1 (i := 2) u2
  simp only [List.setIfInBounds_toArray, List.set_cons_zero, List.set_cons_succ] at q2
  have q3 := blk_set q2 (i := 3) u3
  simp only [List.setIfInBounds_toArray, List.set_cons_zero, List.set_cons_succ] at q3
  have q4 := blk_set q3 (i := 4) u4
  simp only [List.setIfInBounds_toArray, List.set_cons_zero, List.set_cons_succ] at q4
  have q5 := blk_set q4 (i := 5) u5
  simp only [List.setIfInBounds_toArray, List.set_cons_zero, List.set_cons_succ] at q5
  have q6 := blk_set q5 (i := 6) u6
  simp only [List.setIfInBounds_toArray, List.set_cons_zero, List.set_cons_succ] at q6
  have n5 : k ≠ N + 5 := by omega
  have n6 : k ≠ 5 := by omega
  exact ⟨((((((hM.free hk ho 0 u0).free hk ho 1 u1).free hk ho 2 u2).free hk ho 3 u3).free hk ho 4 u4).free hk ho 5 u5).free hk ho 6 u6,
    (((((((hK.trans (Keep2.set hX n5 n6 0 u0)).trans (Keep2.set q0 n5 n6 1 u1)).trans (Keep2.set q1 n5 n6 2 u2)).trans (Keep2.set q2 n5 n6 3 u3)).trans (Keep2.set q3 n5 n6 4 u4)).trans (Keep2.set q4 n5 n6 5 u5)).trans (Keep2.set q5 n5 n6 6 u6)), q6⟩
theorem cell_sev {b o : Nat} {v : Value} (hb : b ≠ k) (h : V.cell? ⟨b, o, none⟩ = some v) (u0 u1 u2 u3 u4 u5 u6 : Value) : (((((((V.setCell ⟨k, 0, none⟩ u0).setCell ⟨k, 1, none⟩ u1).setCell ⟨k, 2, none⟩ u2).setCell ⟨k, 3, none⟩ u3).setCell ⟨k, 4, none⟩ u4).setCell ⟨k, 5, none⟩ u5).setCell ⟨k, 6, none⟩ u6).cell? ⟨b, o, none⟩ = some v := by
  have far : ∀ {X : World} (i : Nat) (u : Value), X.cell? ⟨b, o, none⟩ = some v → (X.setCell ⟨k, i, none⟩ u).cell? ⟨b, o, none⟩ = some v := fun i u h => cell_far h (fun e => hb (by injection e))
  exact far 6 u6 (far 5 u5 (far 4 u4 (far 3 u3 (far 2 u2 (far 1 u1 (far 0 u0 h))))))
theorem seven_far {b N o1 o2 o3 o4 o5 : Nat} {v0 v1 v2 v3 v4 v5 : Value} (hb : b ≠ k) (hN : N ≠ k) (h : V.cell? ⟨N, 0, none⟩ = some v0 ∧ V.cell? ⟨b, o1, none⟩ = some v1 ∧ V.cell? ⟨b, o2, none⟩ = some v2 ∧ V.cell? ⟨b, o3, none⟩ = some v3 ∧ V.cell? ⟨b, o4, none⟩ = some v4 ∧ V.cell? ⟨b, o5, none⟩ = some v5) (u0 u1 u2 u3 u4 u5 u6 : Value) :
    (((((((V.setCell ⟨k, 0, none⟩ u0).setCell ⟨k, 1, none⟩ u1).setCell ⟨k, 2, none⟩ u2).setCell ⟨k, 3, none⟩ u3).setCell ⟨k, 4, none⟩ u4).setCell ⟨k, 5, none⟩ u5).setCell ⟨k, 6, none⟩ u6).cell? ⟨N, 0, none⟩ = some v0 ∧ (((((((V.setCell ⟨k, 0, none⟩ u0).setCell ⟨k, 1, none⟩ u1).setCell ⟨k, 2, none⟩ u2).setCell ⟨k, 3, none⟩ u3).setCell ⟨k, 4, none⟩ u4).setCell ⟨k, 5, none⟩ u5).setCell ⟨k, 6, none⟩ u6).cell? ⟨b, o1, none⟩ = some v1 ∧ (((((((V.setCell ⟨k, 0, none⟩ u0).setCell ⟨k, 1, none⟩ u1).setCell ⟨k, 2, none⟩ u2).setCell ⟨k, 3, none⟩ u3).setCell ⟨k, 4, none⟩ u4).setCell ⟨k, 5, none⟩ u5).setCell ⟨k, 6, none⟩ u6).cell? ⟨b, o2, none⟩ = some v2 ∧ (((((((V.setCell ⟨k, 0, none⟩ u0).setCell ⟨k, 1, none⟩ u1).setCell ⟨k, 2, none⟩ u2).setCell ⟨k, 3, none⟩ u3).setCell ⟨k, 4, none⟩ u4).setCell ⟨k, 5, none⟩ u5).setCell ⟨k, 6, none⟩ u6).cell? ⟨b, o3, none⟩ = some v3 ∧ (((((((V.setCell ⟨k, 0, none⟩ u0).setCell ⟨k, 1, none⟩ u1).setCell ⟨k, 2, none⟩ u2).setCell ⟨k, 3, none⟩ u3).setCell ⟨k, 4, none⟩ u4).setCell ⟨k, 5, none⟩ u5).setCell ⟨k, 6, none⟩ u6).cell? ⟨b, o4, none⟩ = some v4 ∧ (((((((V.setCell ⟨k, 0, none⟩ u0).setCell ⟨k, 1, none⟩ u1).setCell ⟨k, 2, none⟩ u2).setCell ⟨k, 3, none⟩ u3).setCell ⟨k, 4, none⟩ u4).setCell ⟨k, 5, none⟩ u5).setCell ⟨k, 6, none⟩ u6).cell? ⟨b, o5, none⟩ = some v5 :=
  ⟨cell_sev hN h.1 _ _ _ _ _ _ _, cell_sev hb h.2.1 _ _ _ _ _ _ _, cell_sev hb h.2.2.1 _ _ _ _ _ _ _, cell_sev hb h.2.2.2.1 _ _ _ _ _ _ _, cell_sev hb h.2.2.2.2.1 _ _ _ _ _ _ _, cell_sev hb h.2.2.2.2.2 _ _ _ _ _ _ _⟩
end
theorem lines_len (t : List UInt8) : (rowsL t).length ≤ t.length := by
  have key : ∀ (t acc : List UInt8), (rowsA acc t).length ≤ t.length + (if acc = [] then 0 else 1) := fun t => by
    induction t with
    | nil => intro acc; unfold rowsA; split <;> simp_all
    | cons c r ih =>
      intro acc
      unfold rowsA
      split
      · rw [List.length_cons, List.length_cons]; have := ih []; rw [if_pos rfl] at this; omega
      · have := ih (acc ++ [c]); rw [if_neg (by simp)] at this; rw [List.length_cons]; omega
  have := key t []
  rw [if_pos rfl] at this
  exact this
theorem rowsA_line (t : List UInt8) : ∀ acc : List UInt8, ∀ l ∈ rowsA acc t, l.length ≤ acc.length + t.length := by
  induction t with
  | nil =>
    intro acc l hl
    unfold rowsA at hl
    split at hl
    · cases hl
    · rw [List.mem_singleton] at hl; subst hl; omega
  | cons c r ih =>
    intro acc l hl
    unfold rowsA at hl
    rw [List.length_cons]
    split at hl
    · rcases List.mem_cons.1 hl with rfl | hl
      · omega
      · have := ih [] l hl; simp at this; omega
    · have := ih _ l hl
      simp only [List.length_append, List.length_cons, List.length_nil] at this; omega
theorem rows_line (t : List UInt8) : ∀ l ∈ rowsL t, l.length ≤ t.length := fun l hl => by have := rowsA_line t [] l hl; simpa using this
set_option maxRecDepth 100000 in
set_option maxHeartbeats 20000000 in
theorem ReadList_any (t : List UInt8) (w : World) (hT : Tab w) (ht : t.length ≤ 100000) : Calls Tryz.prog 39 #[.string (bs t)] w (Ret (ItQ (readA t) w)) := by
  have HT := Lib.hid hT
  by_cases h1 : 65536 < t.length
  · have HR : Hid (readA t = ([], 7)) := Lib.hid (by unfold readA; rw [if_pos h1])
    have d1 : decide (((bs t).size : Int) > 65536) = true := decide_eq_true (by rw [bs_size]; omega)
    have d2 : decide ((65536 : Int) < ((bs t).size : Int)) = true := decide_eq_true (by rw [bs_size]; omega)
    clear h1 ht
    go_enter Tryz.func39, Tryz.ntmps39
    go_wp2
    (try simp only [Exit.inBlock, Exit.then])
    refine bodyPost_ret (results_cells2 rfl (N := w.heap.size) (v1 := .slice none 0 0) (v2 := .int .i64 7) _ rfl (by simp) (by go_simp) (by go_simp)) rfl ?_
    exact Ret.mk (by rw [HR.out]; exact ItErr.mk (below_alloc' (below_alloc' (Below.refl _ _) _) _))
  have d1 : decide (((bs t).size : Int) > 65536) = false := decide_eq_false (by rw [bs_size]; omega)
  have d2 : decide ((65536 : Int) < ((bs t).size : Int)) = false := decide_eq_false (by rw [bs_size]; omega)
  have HR : Hid (readA t = readV waysP t) := Lib.hid (by unfold readA; rw [if_neg h1])
  have h65 : t.length ≤ 65536 := by omega
  clear h1
  obtain ⟨N, hN⟩ : ∃ N, w.heap.size = N := ⟨_, rfl⟩
  have hZ : Tryz.zeroCells120 = shelfC [] := by rw [zero120, shelfC_nil]
  have h5N : 5 < N := by
    obtain ⟨m, hm⟩ := HT.out.max
    have := block_lt_of_cell hm
    rw [hN] at this; exact this
  refine calls_of_wp_marks Tryz.func39 rfl ?_
  simp only [Tryz.ntmps39, List.size_toArray, List.length_cons, List.length_nil, Nat.reduceAdd, Nat.reduceSub, Array.replicate_succ, Array.replicate_zero, List.push_toArray, List.append_toArray, List.nil_append, List.cons_append]
  go_wp2_with fail
  have hB5 := below_alloc' (below_alloc' (below_alloc' (below_alloc' (below_alloc' (Below.refl w.heap.size w) (.cells #[.slice none 0 0] 44)) (.cells #[.int .i64 0] 23)) (.cells #[.slice none 0 0] 44)) (.cells (shelfC []) 120)) (.cells #[.int .i64 0] 2)
  have k0 := blk_alloc (blk_alloc (blk_alloc (blk_alloc (heap_alloc_at w (.cells #[.slice none 0 0] 44) hN) (.cells #[.int .i64 0] 23)) (.cells #[.slice none 0 0] 44)) (.cells (shelfC []) 120)) (.cells #[.int .i64 0] 2)
  have k1 := blk_alloc (blk_alloc (blk_alloc (heap_alloc_at (n := N + 1) (w.alloc (.cells #[.slice none 0 0] 44)) (.cells #[.int .i64 0] 23) (by simp [hN])) (.cells #[.slice none 0 0] 44)) (.cells (shelfC []) 120)) (.cells #[.int .i64 0] 2)
  have k2 := blk_alloc (blk_alloc (heap_alloc_at (n := N + 2) ((w.alloc (.cells #[.slice none 0 0] 44)).alloc (.cells #[.int .i64 0] 23)) (.cells #[.slice none 0 0] 44) (by simp [hN])) (.cells (shelfC []) 120)) (.cells #[.int .i64 0] 2)
  have k3 := blk_alloc (heap_alloc_at (n := N + 3) (((w.alloc (.cells #[.slice none 0 0] 44)).alloc (.cells #[.int .i64 0] 23)).alloc (.cells #[.slice none 0 0] 44)) (.cells (shelfC []) 120) (by simp [hN])) (.cells #[.int .i64 0] 2)
  have k4 := heap_alloc_at (n := N + 4) ((((w.alloc (.cells #[.slice none 0 0] 44)).alloc (.cells #[.int .i64 0] 23)).alloc (.cells #[.slice none 0 0] 44)).alloc (.cells (shelfC []) 120)) (.cells #[.int .i64 0] 2) (by simp [hN])
  have hs5 : (((((w.alloc (.cells #[.slice none 0 0] 44)).alloc (.cells #[.int .i64 0] 23)).alloc (.cells #[.slice none 0 0] 44)).alloc (.cells (shelfC []) 120)).alloc (.cells #[.int .i64 0] 2)).heap.size = N + 5 := by simp [hN]
  generalize ((((w.alloc (.cells #[.slice none 0 0] 44)).alloc (.cells #[.int .i64 0] 23)).alloc (.cells #[.slice none 0 0] 44)).alloc (.cells (shelfC []) 120)).alloc (.cells #[.int .i64 0] 2) = w3 at *
  simp only [hN, Nat.add_assoc, Nat.reduceAdd]
  rw [hN] at hB5
  have HNw := Lib.hid hN
  clear hN hZ
  have HRo := Lib.hid (rows_any (bs t) w3)
  rw [hs5] at HRo
  refine HRo.out.mono ?_
  rintro _ w4 ⟨v, rfl, rfl, hw4⟩
  have hs4 : w4.heap.size = N + 6 := by rw [hw4]; simp [hs5]
  have hB34 : Below w3.heap.size w3 w4 := by rw [hw4]; exact below_alloc' (Below.refl _ _) _
  have hbx : w4.heap[N + 5]? = some (.cells #[.string (bs t)] 9 (0, 0)) := by rw [hw4]; exact heap_alloc_at _ _ hs5
  have HM4 : Hid (RdM w N (0, []) none 0 w4) := Lib.hid ⟨blk_below hB34 k0, blk_below hB34 k1, blk_below hB34 k2, blk_below hB34 k3, blk_below hB34 k4, ⟨_, hbx⟩, World.ownsRow_nil _ _ _ _, hB5.trans (hB34.mono (by omega))⟩
  have HT4 := Lib.hid (HT.out.below (by rw [HNw.out]; exact HM4.out.below))
  have HBx := Lib.hid hbx
  clear hw4 hB34 hbx k0 k1 k2 k3 k4 hs5 HRo hB5 w3
  obtain ⟨L, hL⟩ : ∃ L, rowsL t = L := ⟨_, rfl⟩
  have hll := lines_len t
  rw [hL] at hll
  have hlr : ∀ l ∈ L, l.length ≤ 65536 := fun l hl => by
    rw [← hL] at hl
    have := rows_line t l hl
    omega
  obtain ⟨xs, hxs⟩ := subs_range 1 L.length L.length (fun x hx => by omega)
  obtain ⟨m5, h5⟩ := HT4.out.max
  have hSeq := rows1_seq3 (fun x : {k : Nat // 1 * k < L.length} => x.1) xs (N + 5) t m5 (KeepB (N + 5)) (fun A B h => h) w4 (by omega) (by omega) (by rw [hL]; exact hxs) HBx.out h5 (by rw [hL]; omega)
  rw [hL] at hSeq
  have HSeq := Lib.hid hSeq
  have HL := Lib.hid hL
  have HLr := Lib.hid hlr
  have Hxs := Lib.hid hxs
  clear hSeq hL h5 hlr hxs
  go_wp2_with fail
  refine wp_rangeB3 (a := _) (gf := 113) (lb := #[.pointer (some ⟨N + 5, 0, none⟩)]) (by rfl) enters113 (encs := fun x : {k : Nat // 1 * k < L.length} => #[.int .i64 (x.1 : Nat), .string (bs (L.getD x.1 []))]) (Kp := KeepB (N + 5)) (xs := xs) (N + 5) (by omega) HSeq.out
    (fun h k => ⟨k.1.trans h.1, fun m q => k.2 m (h.2 m q)⟩) (fun W l o' hl => ⟨World.putObj_heap_other (by omega), fun m q => (World.cell?_of_block (a := ⟨5, 0, none⟩) (World.putObj_heap_other (show (5 : Nat) ≠ l by omega))).trans q⟩) (fun _ => rfl)
    (fun pre W => RdI w N L (pre.map (fun x : {k : Nat // 1 * k < L.length} => x.1)) W) (RdX w N L) (RdI.stays w N L _ (fun x : {k : Nat // 1 * k < L.length} => x.1)) (RdX.stays w N L) (fun V l o o' h hl ho hlo => h.put o' (by omega)) (fun ys V l o o' h hl ho hlo => h.put o' (by omega) ho hlo) (fun ys V v h => h.line v)
    ⟨(0, []), none, 0, rfl, RdOk.start, Nat.zero_le _, HM4.out⟩
    (fun x t => (((t.setIfInBounds 20 (.int .i64 (x.1 : Nat))).setIfInBounds 21 (.string (bs (L.getD x.1 [])))).setIfInBounds 8 (.string (bs (L.getD x.1 [])))))
    ?assign ?body ?done ?stop
  case assign =>
    rintro l0 x W K9 hK9
    gi_wp2
    exact hK9
  case stop =>
    rintro D W hD hX hm
    refine wpIn_ret ?_
    have hDN : N + 6 ≤ D := by omega
    have HMk := Lib.hid (MarksAt.one hm (show N ≤ D by omega))
    have c0 : (putAll [D] W).cell? ⟨N, 0, none⟩ = some (.slice none 0 0) := (blk_cell ((World.putObj_heap_other (show N ≠ D by omega)).trans hX.r0)).trans rfl
    have c1 : (putAll [D] W).cell? ⟨N + 1, 0, none⟩ = some (.int .i64 8) := (blk_cell ((World.putObj_heap_other (show N + 1 ≠ D by omega)).trans hX.r1)).trans rfl
    have HRb : Hid (readA t = ([], 8)) := Lib.hid (by rw [HR.out]; unfold readV; rw [HL.out, hX.bad])
    dsimp only
    rw [show ({ target := .collected D, args := #[] } : Deferred) = mark D from rfl]
    (try simp only [Exit.inBlock, Exit.then])
    exact leaves_marks [D] _ HMk.out ⟨_, results_cells2 rfl (N := N) _ rfl rfl c0 c1, Ret.mk (by rw [HRb.out]; exact ItErr.mk (by rw [HNw.out]; exact putAll_below (Nat.le_refl _) [D] _ HMk.out hX.below))⟩
  case done =>
    rintro D W hD hI hm
    obtain ⟨s, A, ca, hgo, hok, hlen, hM⟩ := hI.ex
    rw [Hxs.out, getD_range] at hgo
    rw [Hxs.out, List.length_range] at hlen
    have hR2 : readA t = (if itemsErr (toldL s.2) = 0 ∧ shelfT (toldL s.2) = t then (toldL s.2, 0) else ([], 8)) := by rw [HR.out]; unfold readV; rw [HL.out, hgo]
    have hDN : N + 6 ≤ D := by omega
    have hca : s.2.length ≤ ca := by
      obtain ⟨A', c', e, h⟩ := own_form hM.own
      injection e with _ _ e
      rw [e]; exact h
    have hDo : some D ≠ (Value.slice A s.2.length ca).ownBlock := fun e => by
      obtain ⟨cs, t', fr, h⟩ := own_cells hM.own D e.symm
      rw [hm] at h; cases h
    have HSo := Lib.hid (sortF_row hM.own (by have := hM.size; omega) (by omega))
    have HTW := Lib.hid (HT.out.below (by rw [HNw.out]; exact hM.below))
    have o0 : W.cell? ⟨N + 2, 0, none⟩ = some (.slice A s.2.length ca) := (blk_cell hM.out).trans rfl
    have HM := Lib.hid hM
    have Hm := Lib.hid hm
    have HDo := Lib.hid hDo
    have HR2 := Lib.hid hR2
    have Hok := Lib.hid hok
    have HAg : Hid (∀ g o, A = some ⟨g, o, none⟩ → N + 6 ≤ g ∧ g ≠ D) := Lib.hid fun g o e => ⟨own_base HM.out.own g (by rw [e]; rfl), fun eD => HDo.out (by rw [e, ← eD]; rfl)⟩
    clear hI hm hM hgo hR2 hDo hok
    dsimp only
    rw [show ({ target := .collected D, args := #[] } : Deferred) = mark D from rfl]
    go_wp2_with fail
    refine HSo.out.mono ?_
    rintro _ W2 ⟨rfl, d, hp, hs, hId, hsz, hblk, hbel⟩
    have hdl : s.2.length = d.length := hp.length_eq.symm
    have same : ∀ {b : Nat} {cs : Array Value} {ty : TypeId}, W.heap[b]? = some (.cells cs ty (0, 0)) → ty ≠ 67 → W2.heap[b]? = some (.cells cs ty (0, 0)) := fun h hne => (hblk _ (blk_lt h) (own_ne_blk HM.out.own h hne)).trans h
    have HK0 := Lib.hid (same HM.out.r0 (by decide))
    have HK1 := Lib.hid (same HM.out.r1 (by decide))
    have HK2 := Lib.hid (same HM.out.out (by decide))
    have HK3 := Lib.hid (same HM.out.bxs (by decide))
    have HKD := Lib.hid ((hblk D (blk_lt Hm.out) HDo.out).trans Hm.out)
    have HBe : Hid (Below N w W2) := Lib.hid (HM.out.below.trans (hbel.mono (by omega)))
    rw [hdl] at hca hlen HK2 ⊢
    rw [shelfC_perm hp.symm] at HK3
    have HR3 : Hid (readA t = if itemsErr d = 0 ∧ shelfT d = t then (d, 0) else ([], 8)) := Lib.hid (by rw [HR2.out]; exact read_sorted hp hs)
    have HI := Lib.hid hId
    have HBx2 : Hid (∀ x ∈ d, 0 ≤ x.box ∧ x.box < 1000) := Lib.hid fun x hx => by
      have := Hok.out.2 x (hp.mem_iff.1 hx)
      unfold boxIn at this; omega
    have HT2 := Lib.hid (HT.out.below (by rw [HNw.out]; exact HBe.out))
    clear o0 hp hs hId hblk hbel same hdl HM Hm HDo HR2 HSo HTW Hok hsz
    have o2 : W2.cell? ⟨N + 2, 0, none⟩ = some (.slice A d.length ca) := (blk_cell HK2.out).trans rfl
    have HLi := Lib.hid (List_any A ca d W2 HT2.out HI.out hca (by omega))
    go_wp2_with fail
    refine HLi.out.mono ?_
    rintro _ W3 ⟨v, rfl, rfl, hB3⟩
    replace HK0 := Lib.hid (blk_below hB3 HK0.out)
    replace HK1 := Lib.hid (blk_below hB3 HK1.out)
    replace HK2 := Lib.hid (blk_below hB3 HK2.out)
    replace HK3 := Lib.hid (blk_below hB3 HK3.out)
    replace HKD := Lib.hid (blk_below hB3 HKD.out)
    replace HI := Lib.hid (ItemsAt.below HI.out hB3)
    replace HBe := Lib.hid (HBe.out.trans (hB3.mono (by have h := HBe.out.size; rw [HNw.out] at h; exact h)))
    clear o2 HT2 HLi hB3
    have HV : Hid (listA d = if itemsErr d ≠ 0 then ([], itemsErr d) else (shelfT d, 0)) := Lib.hid rfl
    have HDD : Hid (N + 6 ≤ D) := Lib.hid hDN
    have ends : ∀ (r : List It × Int) (v1 : Value), readA t = r → ∀ W4 : World, W4.heap[N]? = some (.cells #[v1] 44 (0, 0)) → W4.heap[N + 1]? = some (.cells #[.int .i64 r.2] 23 (0, 0)) → W4.heap[D]? = some (.deferred (some [])) → Below N w W4 → (∀ W5, Below N w W5 → (∀ b, b ≠ D → W5.heap[b]? = W4.heap[b]?) → ItQ r w (.tuple #[v1, .int .i64 r.2]) W5) →
        ∀ tmps : Array Value, tmps.getD 2 undef = .pointer (some ⟨N, 0, none⟩) → tmps.getD 3 undef = .pointer (some ⟨N + 1, 0, none⟩) → LeavesInM Fence.wide 10 Tryz.prog Tryz.f39 tmps (Ret (ItQ (readA t) w)) [mark D] .returning W4 := fun r v1 hr W4 h0 h1 hD4 hB4 hQ tmps ht2 ht3 => by
      have hMk := MarksAt.one hD4 (show N ≤ D by omega)
      have c0 : (putAll [D] W4).cell? ⟨N, 0, none⟩ = some v1 := (blk_cell ((World.putObj_heap_other (show N ≠ D by omega)).trans h0)).trans rfl
      have c1 : (putAll [D] W4).cell? ⟨N + 1, 0, none⟩ = some (.int .i64 r.2) := (blk_cell ((World.putObj_heap_other (show N + 1 ≠ D by omega)).trans h1)).trans rfl
      exact leaves_marks [D] _ hMk ⟨_, results_cells2 rfl (N := N) _ ht2 ht3 c0 c1, Ret.mk (by rw [hr]; exact hQ _ (putAll_below (Nat.le_refl _) [D] _ hMk hB4) (fun b hb => World.putObj_heap_other hb))⟩
    have Ends := Lib.hid ends
    clear ends
    unfold textT
    dsimp only
    by_cases he : itemsErr d = 0
    · rw [if_neg (fun h => h he)] at HV
      rw [HV.out]
      dsimp only
      by_cases hq : shelfT d = t
      · rw [if_pos ⟨he, hq⟩] at HR3
        rw [hq]
        have hd60 := (itemsErr_iff.1 he).few
        have HSm := shelf_same d (by omega)
        have o3 : W3.cell? ⟨N + 2, 0, none⟩ = some (.slice A d.length ca) := (blk_cell HK2.out).trans rfl
        clear he hq HV
        go_upto_region 19 with fail
        refine wp_onlyN ?_
        refine wp_region_held_drew (S := fun V => V.heap[N + 3]? = some (.cells (shelfC d) 120 (0, 0)) ∧ V.cell? ⟨N + 2, 0, none⟩ = some (.slice A d.length ca)) (by kernel_rfl) ⟨HK3.out, o3⟩ (fun hS9 => ?_)
        have z0 : W3.drew.heap[N]? = some (.cells #[.slice none 0 0] 44 (0, 0)) := HK0.out
        have z1 : W3.drew.heap[N + 1]? = some (.cells #[.int .i64 0] 23 (0, 0)) := HK1.out
        have z2 : W3.drew.heap[N + 2]? = some (.cells #[.slice A d.length ca] 44 (0, 0)) := HK2.out
        have zD : W3.drew.heap[D]? = some (.deferred (some [])) := HKD.out
        have zI : ItemsAt W3.drew A d := HI.out
        have zB : Below N w W3.drew := HBe.out.drew
        have z3 := hS9.1
        clear o3 hS9 HK0 HK1 HK2 HK3 HKD HI HBe
        generalize W3.drew = V0 at *
        have hS9 : V0.heap[N + 3]? = some (.cells (shelfC d) 120 (0, 0)) ∧ V0.cell? ⟨N + 2, 0, none⟩ = some (.slice A d.length ca) := ⟨z3, (blk_cell z2).trans rfl⟩
        refine takeD (i := 0) (d := 96) (v := ?_) rfl rfl (by kernel_rfl) (by kernel_rfl) (by kernel_rfl) (fun _ _ _ h => h) (Or.inl ⟨by rfl, ?_⟩) hS9 ?_
        rotate_left 1
        · intro W hW; obtain ⟨-, s1⟩ := hW; go_simp <;> with_reducible rfl
        simp only [List.setIfInBounds_toArray, List.set_cons_succ, List.set_cons_zero]
        refine takeD (i := 1) (d := 97) (v := ?_) rfl rfl (by kernel_rfl) (by kernel_rfl) (by kernel_rfl) (fun _ _ _ h => h) (Or.inl ⟨by rfl, ?_⟩) hS9 ?_
        rotate_left 1
        · intro W hW; obtain ⟨-, s1⟩ := hW; go_simp <;> with_reducible rfl
        simp only [List.setIfInBounds_toArray, List.set_cons_succ, List.set_cons_zero]
        refine takeD (i := 2) (d := 98) (v := ?_) rfl rfl (by kernel_rfl) (by kernel_rfl) (by kernel_rfl) (fun _ _ _ h => h) (Or.inl ⟨by rfl, ?_⟩) hS9 ?_
        rotate_left 1
        · intro W hW; obtain ⟨-, s1⟩ := hW; go_simp <;> with_reducible rfl
        simp only [List.setIfInBounds_toArray, List.set_cons_succ, List.set_cons_zero]
        refine takeD (i := 3) (d := 99) (v := ?_) rfl rfl (by kernel_rfl) (by kernel_rfl) (by kernel_rfl) (fun _ _ _ h => h) (Or.inl ⟨by rfl, ?_⟩) hS9 ?_
        rotate_left 1
        · intro W hW; obtain ⟨-, s1⟩ := hW; go_simp <;> with_reducible rfl
        simp only [List.setIfInBounds_toArray, List.set_cons_succ, List.set_cons_zero]
        refine takeD (i := 4) (d := 100) (v := ?_) rfl rfl (by kernel_rfl) (by kernel_rfl) (by kernel_rfl) (fun _ _ _ h => h) (Or.inl ⟨by rfl, ?_⟩) hS9 ?_
        rotate_left 1
        · intro W hW; obtain ⟨-, s1⟩ := hW; go_simp <;> with_reducible rfl
        simp only [List.setIfInBounds_toArray, List.set_cons_succ, List.set_cons_zero]
        refine takeD (i := 5) (d := 101) (v := ?_) rfl rfl (by kernel_rfl) (by kernel_rfl) (by kernel_rfl) (fun _ _ _ h => h) (Or.inl ⟨by rfl, ?_⟩) hS9 ?_
        rotate_left 1
        · intro W hW; obtain ⟨-, s1⟩ := hW; go_simp <;> with_reducible rfl
        simp only [List.setIfInBounds_toArray, List.set_cons_succ, List.set_cons_zero]
        refine takeD (i := 6) (d := 102) (v := ?_) rfl rfl (by kernel_rfl) (by kernel_rfl) (by kernel_rfl) (fun _ _ _ h => h) (Or.inl ⟨by rfl, ?_⟩) hS9 ?_
        rotate_left 1
        · intro W hW; obtain ⟨-, s1⟩ := hW; go_simp <;> with_reducible rfl
        simp only [List.setIfInBounds_toArray, List.set_cons_succ, List.set_cons_zero]
        refine takeD (i := 7) (d := 103) (v := ?_) rfl rfl (by kernel_rfl) (by kernel_rfl) (by kernel_rfl) (fun _ _ _ h => h) (Or.inl ⟨by rfl, ?_⟩) hS9 ?_
        rotate_left 1
        · intro W hW; obtain ⟨-, s1⟩ := hW; go_simp <;> with_reducible rfl
        simp only [List.setIfInBounds_toArray, List.set_cons_succ, List.set_cons_zero]
        refine takeD (i := 8) (d := 104) (v := .agg (shelfC d)) rfl rfl (by kernel_rfl) (by kernel_rfl) (by kernel_rfl) (fun _ _ _ h => h) (Or.inl ⟨by rfl, ?_⟩) hS9 ?_
        · intro W hW
          exact yields_row (.tmp 5) 120 rfl (N + 3) rfl (run_loadVar_row (P := Tryz.prog) W (N + 3) 120 120 (shelfC d) (0, 0) _ hW.1 Tryz.underlying120 rfl (by rw [info120, shelfC_size]))
        simp only [List.setIfInBounds_toArray, List.set_cons_succ, List.set_cons_zero]
        refine takeD (i := 9) (d := 105) (v := ?_) rfl rfl (by kernel_rfl) (by kernel_rfl) (by kernel_rfl) (fun _ _ _ h => h) (Or.inl ⟨by rfl, ?_⟩) hS9 ?_
        rotate_left 1
        · intro W hW; obtain ⟨-, s1⟩ := hW; go_simp <;> with_reducible rfl
        simp only [List.setIfInBounds_toArray, List.set_cons_succ, List.set_cons_zero]
        refine wpAnyH_ready (rs := [10]) (by kernel_rfl) (by simp) ?_
        refine AllReadyH.cons rfl (fun K hK => ?_) AllReadyH.nil
        go_simp
        refine (shelve_any A ca d V0 zI (by omega) HBx2.out).mono ?_
        rintro _ V1 ⟨v, rfl, rfl, hB1⟩
        replace z0 := blk_below hB1 z0
        replace z1 := blk_below hB1 z1
        replace z2 := blk_below hB1 z2
        replace z3 := blk_below hB1 z3
        replace zD := blk_below hB1 zD
        replace zI := ItemsAt.below zI hB1
        replace zB : Below N w V1 := zB.trans (hB1.mono (by have h := zB.size; rw [HNw.out] at h; exact h))
        have hS9 : V1.heap[N + 3]? = some (.cells (shelfC d) 120 (0, 0)) ∧ V1.cell? ⟨N + 2, 0, none⟩ = some (.slice A d.length ca) := ⟨z3, (blk_cell z2).trans rfl⟩
        refine hK.out _ _ hS9 (fun _ => ?_)
        clear hK K hB1
        refine takeD (i := 11) (d := 107) (v := ?_) rfl rfl (by kernel_rfl) (by kernel_rfl) (by kernel_rfl) (fun _ _ _ h => h) (Or.inl ⟨by rfl, ?_⟩) hS9 ?_
        rotate_left 1
        · intro W hW; obtain ⟨-, s1⟩ := hW; go_simp <;> with_reducible rfl
        simp only [List.setIfInBounds_toArray, List.set_cons_succ, List.set_cons_zero]
        refine takeD (i := 12) (d := 108) (v := ?_) rfl rfl (by kernel_rfl) (by kernel_rfl) (by kernel_rfl) (fun _ _ _ h => h) (Or.inl ⟨by rfl, ?_⟩) hS9 ?_
        rotate_left 1
        · intro W hW; obtain ⟨-, s1⟩ := hW; go_simp <;> with_reducible rfl
        simp only [List.setIfInBounds_toArray, List.set_cons_succ, List.set_cons_zero]
        refine wpAnyH_done (by kernel_rfl) ?_ _
        have s2 := hS9.2
        have q0 : V1.cell? ⟨N, 0, none⟩ = some (.slice none 0 0) := (blk_cell z0).trans rfl
        have q1 : V1.cell? ⟨N + 1, 0, none⟩ = some (.int .i64 0) := (blk_cell z1).trans rfl
        have f0 : V1.frozen? ⟨N, 0, none⟩ = false := blk_frozen (i := 0) z0
        have f1 : V1.frozen? ⟨N + 1, 0, none⟩ = false := blk_frozen (i := 0) z1
        have Z := Lib.hid (Ends.out (d, 0) (.slice A d.length ca) HR3.out ((V1.setCell ⟨N, 0, none⟩ (.slice A d.length ca)).setCell ⟨N + 1, 0, none⟩ (.int .i64 0)) (blk_far (blk_set z0 (i := 0) _) (by show N ≠ N + 1; omega) _) (blk_set (blk_far z1 (by show N + 1 ≠ N; omega) _) (i := 0) _)
          (blk_far (blk_far zD (by show D ≠ N; omega) _) (by show D ≠ N + 1; omega) _) ((zB.setCell (p := ⟨N, 0, none⟩) (Nat.le_refl _) _).setCell (p := ⟨N + 1, 0, none⟩) (by show N ≤ N + 1; omega) _) (fun W5 hb5 hf => ⟨A, ca, rfl, hca, fun i hi => by
            obtain ⟨g, off, hA, hc⟩ := zI i hi
            obtain ⟨hg1, hg2⟩ := HAg.out g off hA
            have e1 : W5.heap[g]? = V1.heap[g]? := (hf g hg2).trans ((Below.heap_setCell _ ⟨N + 1, 0, none⟩ _ g (by show g ≠ N + 1; omega)).trans (Below.heap_setCell _ ⟨N, 0, none⟩ _ g (by show g ≠ N; omega)))
            exact ⟨g, off, hA, fun j v hj => (World.cell?_of_block (a := ⟨g, off + i * 7 + j, none⟩) e1).trans (hc j v hj)⟩, by rw [HNw.out]; exact hb5⟩))
        clear z0 z1 z2 z3 zD zB hS9
        simp only [onlyN]
        go_wp2
        exact Z.out _ rfl rfl
      · rw [if_neg (fun h => hq h.2)] at HR3
        have t2 : ((bs (shelfT d)).toList == (bs t).toList) = false := toList_ne (fun e => hq (bs_inj.1 e))
        have t3 : ((bs (shelfT d)).toList != (bs t).toList) = true := by rw [bne, t2]; rfl
        clear he hq HV
        have q0 : W3.cell? ⟨N, 0, none⟩ = some (.slice none 0 0) := (blk_cell HK0.out).trans rfl
        have q1 : W3.cell? ⟨N + 1, 0, none⟩ = some (.int .i64 0) := (blk_cell HK1.out).trans rfl
        have f0 : W3.frozen? ⟨N, 0, none⟩ = false := blk_frozen (i := 0) HK0.out
        have f1 : W3.frozen? ⟨N + 1, 0, none⟩ = false := blk_frozen (i := 0) HK1.out
        go_upto_region 19 with fail
        go_quiet (fail)
        have z0 : (W3.drewN nq).heap[N]? = some (.cells #[.slice none 0 0] 44 (0, 0)) := HK0.out
        have z1 : (W3.drewN nq).heap[N + 1]? = some (.cells #[.int .i64 0] 23 (0, 0)) := HK1.out
        have zD : (W3.drewN nq).heap[D]? = some (.deferred (some [])) := HKD.out
        have zB : Below N w (W3.drewN nq) := below_drewN HBe.out nq
        have Z := Lib.hid (Ends.out ([], 8) (.slice none 0 0) HR3.out (((W3.drewN nq).setCell ⟨N, 0, none⟩ (.slice none 0 0)).setCell ⟨N + 1, 0, none⟩ (.int .i64 8)) (blk_far (blk_set z0 (i := 0) _) (by show N ≠ N + 1; omega) _) (blk_set (blk_far z1 (by show N + 1 ≠ N; omega) _) (i := 0) _)
          (blk_far (blk_far zD (by show D ≠ N; omega) _) (by show D ≠ N + 1; omega) _) ((zB.setCell (p := ⟨N, 0, none⟩) (Nat.le_refl _) _).setCell (p := ⟨N + 1, 0, none⟩) (by show N ≤ N + 1; omega) _) (fun W5 hb5 _ => ItErr.mk (by rw [HNw.out]; exact hb5)))
        clear z0 z1 zD zB
        go_wp2
        exact Z.out _ rfl rfl
    · rw [if_neg (fun h => he h.1)] at HR3
      rw [if_pos he] at HV
      rw [HV.out]
      dsimp only
      have t1 : (itemsErr d != 0) = true := by simpa using he
      generalize itemsErr d = er at *
      clear he HV
      have q0 : W3.cell? ⟨N, 0, none⟩ = some (.slice none 0 0) := (blk_cell HK0.out).trans rfl
      have q1 : W3.cell? ⟨N + 1, 0, none⟩ = some (.int .i64 0) := (blk_cell HK1.out).trans rfl
      have f0 : W3.frozen? ⟨N, 0, none⟩ = false := blk_frozen (i := 0) HK0.out
      have f1 : W3.frozen? ⟨N + 1, 0, none⟩ = false := blk_frozen (i := 0) HK1.out
      go_upto_region 19 with fail
      go_quiet (fail)
      have z0 : (W3.drewN nq).heap[N]? = some (.cells #[.slice none 0 0] 44 (0, 0)) := HK0.out
      have z1 : (W3.drewN nq).heap[N + 1]? = some (.cells #[.int .i64 0] 23 (0, 0)) := HK1.out
      have zD : (W3.drewN nq).heap[D]? = some (.deferred (some [])) := HKD.out
      have zB : Below N w (W3.drewN nq) := below_drewN HBe.out nq
      have Z := Lib.hid (Ends.out ([], 8) (.slice none 0 0) HR3.out (((W3.drewN nq).setCell ⟨N, 0, none⟩ (.slice none 0 0)).setCell ⟨N + 1, 0, none⟩ (.int .i64 8)) (blk_far (blk_set z0 (i := 0) _) (by show N ≠ N + 1; omega) _) (blk_set (blk_far z1 (by show N + 1 ≠ N; omega) _) (i := 0) _)
        (blk_far (blk_far zD (by show D ≠ N; omega) _) (by show D ≠ N + 1; omega) _) ((zB.setCell (p := ⟨N, 0, none⟩) (Nat.le_refl _) _).setCell (p := ⟨N + 1, 0, none⟩) (by show N ≤ N + 1; omega) _) (fun W5 hb5 _ => ItErr.mk (by rw [HNw.out]; exact hb5)))
      clear z0 z1 zD zB
      go_wp2
      exact Z.out _ rfl rfl
  case body =>
    rintro l0 pre ⟨x, hx⟩ rest W hl0 hI hpre
    obtain ⟨s, A, ca, hgo, hok, hlen, hM⟩ := hI.ex
    have hm1 : (pre ++ [(⟨x, hx⟩ : {k : Nat // 1 * k < L.length})]).map (fun x : {k : Nat // 1 * k < L.length} => x.1) = pre.map (fun x : {k : Nat // 1 * k < L.length} => x.1) ++ [x] := by simp
    have hks : pre.map (fun x : {k : Nat // 1 * k < L.length} => x.1) ++ x :: rest.map (fun x : {k : Nat // 1 * k < L.length} => x.1) = List.range L.length := by
      have := Hxs.out
      rw [hpre, List.map_append, List.map_cons] at this
      exact this
    have hpl : pre.length < L.length := by
      have := congrArg List.length hks
      simp at this; omega
    rw [List.length_map] at hlen
    have HM1 := Lib.hid hm1
    obtain ⟨ks, hke⟩ : ∃ ks, pre.map (fun x : {k : Nat // 1 * k < L.length} => x.1) = ks := ⟨_, rfl⟩
    obtain ⟨kr, hkr⟩ : ∃ kr, rest.map (fun x : {k : Nat // 1 * k < L.length} => x.1) = kr := ⟨_, rfl⟩
    rw [hke, hkr] at hks
    rw [hke] at hgo hm1
    have hll : (L.getD x []).length ≤ 65536 := by
      rw [List.getD_eq_getElem?_getD, List.getElem?_eq_getElem (by omega)]
      exact HLr.out _ (List.getElem_mem _)
    have HBad : Hid (readLine waysP s (L.getD x []) = none → readGo waysP L (0, []) = none) := Lib.hid fun h => by
      have e1 := Prot.readGo_snoc _ (L.getD x []) _ _ hgo
      rw [h] at e1
      have e2 := readGo_more _ (kr.map fun k => L.getD k []) _ e1
      have e3 : (ks.map fun k => L.getD k []) ++ [L.getD x []] ++ (kr.map fun k => L.getD k []) = L := by
        conv => rhs; rw [← getD_range L, ← hks]
        simp
      rw [e3] at e2
      exact e2
    have HGo : Hid (∀ s', readLine waysP s (L.getD x []) = some s' → readGo waysP (((pre ++ [(⟨x, hx⟩ : {k : Nat // 1 * k < L.length})]).map (fun x : {k : Nat // 1 * k < L.length} => x.1)).map fun k => L.getD k []) (0, []) = some s') := Lib.hid fun s' h => by
      rw [HM1.out, hke, List.map_append, List.map_cons, List.map_nil, Prot.readGo_snoc _ _ _ _ hgo, h]
    have HLi := Lib.hid (line_is s (L.getD x []))
    have hwl := split_len (L.getD x [])
    have HWl := Lib.hid (split_word_len (L.getD x []))
    have HMl : Hid (((pre ++ [(⟨x, hx⟩ : {k : Nat // 1 * k < L.length})]).map (fun x : {k : Nat // 1 * k < L.length} => x.1)).length = pre.length + 1) := Lib.hid (by simp)
    clear hke hkr hks hgo hm1 hpre hI HM1
    generalize L.getD x [] = l at *
    have HM := Lib.hid hM
    have HTW := Lib.hid (HT.out.below (by rw [HNw.out]; exact hM.below))
    have Hok := Lib.hid hok
    have hW6 := hM.size
    clear hM hok
    have HFd := Lib.hid (fields_any (bs l) W HTW.out (by rw [bs_size]; omega))
    rw [bs_list] at HFd
    gi_wp2_with fail
    refine ⟨trivial, (CallsIn.inRound l0 (callsIn_wide.2 HFd.out)).mono ?_⟩
    rintro _ W1 ⟨v, rfl, B, cb, rfl, hcb, hS1, hB1⟩
    have HM1 := Lib.hid (HM.out.go hB1)
    have HK1 := Lib.hid (Keep2.of_below hB1 (by omega) h5N)
    have HT1 := Lib.hid (HTW.out.below hB1)
    have HS1 := Lib.hid hS1
    have hB1s := hB1.size
    clear hB1 hS1 HFd HM HTW
    rcases HLi.out with ⟨v, hsp, hv, hrl⟩ | ⟨m, a, b, c, d, e, hsp, hrl⟩ | ⟨w', v, hsp, hwv, hrl⟩ | ⟨h2, h6, hrl⟩
    · rw [hsp] at hcb HS1 ⊢
      obtain ⟨b, off, rfl, hcs⟩ := HS1.out.cells (by simp)
      have g0 := hcs 0 (by simp)
      have g1 := hcs 1 (by simp)
      rw [show [boxWord, v][0] = boxWord from rfl, Nat.add_zero] at g0
      rw [show [boxWord, v][1] = v from rfl] at g1
      have hvl := HWl.out v (by rw [hsp]; simp)
      have HNm : Hid (∀ V, Tab V → Calls Tryz.prog 53 #[.string (bs v)] V (Ret fun r w' => r = .int .i64 (numP v) ∧ Below V.heap.size V w')) := Lib.hid fun V hV => by
        have := number_any (bs v) V hV (by rw [bs_size]; omega)
        rw [bs_list] at this
        exact this
      have dq : ((bs boxWord).toList == [98, 111, 120]) = true := by rw [ByteArray.toList_eq]; rfl
      have HGn := Lib.hid (HGo.out _ hrl)
      have hn1 : -1 ≤ numP v := by rcases numP_cases v with h | ⟨k, h⟩ <;> omega
      generalize numP v = n at *
      have d9 : decide (n ≤ 999) = true := decide_eq_true hv
      clear hcs hvl hsp hrl HLi HBad HGo HWl
      gi_wp2_with fail
      refine ⟨trivial, (CallsIn.inRound l0 (callsIn_wide.2 (HNm.out _ HT1.out))).mono ?_⟩
      rintro _ W2 ⟨r, rfl, rfl, hB2⟩
      have HM2 := Lib.hid (HM1.out.go hB2)
      have HK2 := Lib.hid (HK1.out.trans (Keep2.of_below hB2 (by omega) h5N))
      have HT2 := Lib.hid (HT1.out.below hB2)
      replace g0 := cell_below hB2 g0
      replace g1 := cell_below hB2 g1
      have hB2s := hB2.size
      clear hB2 HM1 HK1 HT1
      gi_wp2_with fail
      refine ⟨trivial, (CallsIn.inRound l0 (callsIn_wide.2 (HNm.out _ HT2.out))).mono ?_⟩
      rintro _ W3 ⟨r, rfl, rfl, hB3⟩
      have HM3 := Lib.hid (HM2.out.go hB3)
      have HK3 := Lib.hid (HK2.out.trans (Keep2.of_below hB3 (by omega) h5N))
      clear hB3 HM2 HK2 HT2 HNm g0 g1
      have q0 : W3.cell? ⟨N + 4, 0, none⟩ = some (.int .i64 s.1) := (blk_cell HM3.out.box).trans rfl
      have f0 : W3.frozen? ⟨N + 4, 0, none⟩ = false := blk_frozen (i := 0) HM3.out.box
      have HK4 := Lib.hid (HK3.out.trans (Keep2.set HM3.out.box (by omega) (by omega) 0 (.int .i64 (max 0 n))))
      have HM4 := Lib.hid (HM3.out.setBox (max 0 n))
      have HOk4 : Hid (RdOk (max 0 n, s.2)) := Lib.hid ⟨⟨by dsimp only; omega, by dsimp only; omega⟩, Hok.out.2⟩
      clear HM3 HK3 Hok d9 hv hn1
      gi_wp2_with fail
      (try simp only [Exit.inBlock, Exit.then])
      exact ⟨fun l o _ h ho => HK4.out.loops l o h ho, .inl ⟨rfl, HK4.out.keepB, ⟨(max 0 n, s.2), A, ca, HGn.out, HOk4.out, by rw [HMl.out]; dsimp only; omega, HM4.out⟩⟩⟩
    · obtain ⟨s1, s2⟩ := s
      have hbx := Hok.out.1
      unfold boxIn at hbx
      dsimp only at hbx hlen hrl HBad HGo ⊢
      obtain ⟨bo, rfl⟩ : ∃ bo : Nat, s1 = (bo : Int) := ⟨s1.toNat, by omega⟩
      have hbo : bo < 1000 := by omega
      rw [hsp] at hcb HS1 ⊢
      obtain ⟨bb, off, rfl, hcs⟩ := HS1.out.cells (by simp)
      have g0 := hcs 0 (by simp)
      rw [show [m, a, b, c, d, e][0] = m from rfl, Nat.add_zero] at g0
      have g1 := hcs 1 (by simp)
      rw [show [m, a, b, c, d, e][1] = a from rfl] at g1
      have g2 := hcs 2 (by simp)
      rw [show [m, a, b, c, d, e][2] = b from rfl] at g2
      have g3 := hcs 3 (by simp)
      rw [show [m, a, b, c, d, e][3] = c from rfl] at g3
      have g4 := hcs 4 (by simp)
      rw [show [m, a, b, c, d, e][4] = d from rfl] at g4
      have g5 := hcs 5 (by simp)
      rw [show [m, a, b, c, d, e][5] = e from rfl] at g5
      have l0 := HWl.out m (by rw [hsp]; simp)
      have l1 := HWl.out a (by rw [hsp]; simp)
      have l2 := HWl.out b (by rw [hsp]; simp)
      have l3 := HWl.out c (by rw [hsp]; simp)
      have l4 := HWl.out d (by rw [hsp]; simp)
      have l5 := HWl.out e (by rw [hsp]; simp)
      have HCm : Hid (∀ V, Tab V → Calls Tryz.prog 18 #[.string (bs m)] V (Ret fun v w' => v = .tuple #[.int .i64 (cmV m).1, .int .i64 (cmV m).2] ∧ Below V.heap.size V w')) := Lib.hid fun V hV => CheckMark_any m V hV (by omega)
      have HN1 : Hid (∀ V, Tab V → Calls Tryz.prog 53 #[.string (bs a)] V (Ret fun r w' => r = .int .i64 (numP a) ∧ Below V.heap.size V w')) := Lib.hid fun V hV => by
        have := number_any (bs a) V hV (by rw [bs_size]; omega)
        rw [bs_list] at this
        exact this
      have HN2 : Hid (∀ V, Tab V → Calls Tryz.prog 53 #[.string (bs b)] V (Ret fun r w' => r = .int .i64 (numP b) ∧ Below V.heap.size V w')) := Lib.hid fun V hV => by
        have := number_any (bs b) V hV (by rw [bs_size]; omega)
        rw [bs_list] at this
        exact this
      have HN3 : Hid (∀ V, Tab V → Calls Tryz.prog 53 #[.string (bs c)] V (Ret fun r w' => r = .int .i64 (numP c) ∧ Below V.heap.size V w')) := Lib.hid fun V hV => by
        have := number_any (bs c) V hV (by rw [bs_size]; omega)
        rw [bs_list] at this
        exact this
      have HN4 : Hid (∀ V, Tab V → Calls Tryz.prog 53 #[.string (bs d)] V (Ret fun r w' => r = .int .i64 (numP d) ∧ Below V.heap.size V w')) := Lib.hid fun V hV => by
        have := number_any (bs d) V hV (by rw [bs_size]; omega)
        rw [bs_list] at this
        exact this
      have HGn := Lib.hid (HGo.out _ hrl)
      have dq : ((bs e).toList == [49]) = decide (e = [49]) := by
        rw [ByteArray.toList_eq]
        show (e == [49]) = decide (e = [49])
        by_cases h : e = [49]
        · rw [h]; rfl
        · rw [decide_eq_false h]; exact beq_false_of_ne h
      have hbW : bb < W1.heap.size := block_lt_of_cell g0
      generalize (cmV m).1 = n0 at *
      generalize (cmV m).2 = e0 at *
      generalize numP a = n1 at *
      generalize numP b = n2 at *
      generalize numP c = n3 at *
      generalize numP d = n4 at *
      generalize decide (e = [49]) = kb at *
      clear hcs hsp hrl HLi HBad HGo HWl l0 l1 l2 l3 l4 l5 hbx
      gi_wp2_with fail
      refine ⟨trivial, ?_⟩
      gi_wp2_with fail
      refine ⟨trivial, (CallsIn.inRound l0 (callsIn_wide.2 (HCm.out _ HT1.out))).mono ?_⟩
      rintro _ W2 ⟨r, rfl, rfl, hB2⟩
      have HM2 := Lib.hid (HM1.out.go hB2)
      have HK2 := Lib.hid (HK1.out.trans (Keep2.of_below hB2 (by omega) h5N))
      have HT2 := Lib.hid (HT1.out.below hB2)
      replace g0 := cell_below hB2 g0
      replace g1 := cell_below hB2 g1
      replace g2 := cell_below hB2 g2
      replace g3 := cell_below hB2 g3
      replace g4 := cell_below hB2 g4
      replace g5 := cell_below hB2 g5
      have hB2s := hB2.size
      clear hB2 HM1 HK1 HT1 HCm HS1
      have hown2 : Hid (∀ r, (Value.slice A s2.length ca).ownBlock = some r → r < W2.heap.size) := Lib.hid fun r hr => (HM2.out.own.lt r hr).2
      gi_upto_region 14 with fail
      gi_cut [12] from 57 (fun p Wc => ∃ k : Nat, p = .pointer (some ⟨k, 0, none⟩) ∧ Hid (ItX w W N ((bo : Int), s2) A ca ⟨n0, (bo : Int), n1, n2, n3, n4, kb⟩ k Wc))
      case first =>
        refine wpIn_region_held (S := fun V => V.cell? ⟨N + 4, 0, none⟩ = some (.int .i64 (bo : Int)) ∧ V.cell? ⟨bb, off + 1, none⟩ = some (.string (bs a)) ∧ V.cell? ⟨bb, off + 2, none⟩ = some (.string (bs b)) ∧ V.cell? ⟨bb, off + 3, none⟩ = some (.string (bs c)) ∧ V.cell? ⟨bb, off + 4, none⟩ = some (.string (bs d)) ∧ V.cell? ⟨bb, off + 5, none⟩ = some (.string (bs e))) (by kernel_rfl) (by kernel_rfl) (by rintro ⟨_, _, h⟩; first | exact h | exact h.elim | (rcases h.2 with h | h <;> cases h.1)) ?_
        have hM : RdM w N ((bo : Int), s2) A ca W2.drew := HM2.out.drew
        have hK : Keep2 N W W2.drew := ⟨HK2.out.loops, HK2.out.bx, HK2.out.five⟩
        have hT : Tab W2.drew := HT2.out.below (Below.refl _ _).drew
        have hq : W2.drew.cell? ⟨N + 4, 0, none⟩ = some (.int .i64 (bo : Int)) ∧ W2.drew.cell? ⟨bb, off + 1, none⟩ = some (.string (bs a)) ∧ W2.drew.cell? ⟨bb, off + 2, none⟩ = some (.string (bs b)) ∧ W2.drew.cell? ⟨bb, off + 3, none⟩ = some (.string (bs c)) ∧ W2.drew.cell? ⟨bb, off + 4, none⟩ = some (.string (bs d)) ∧ W2.drew.cell? ⟨bb, off + 5, none⟩ = some (.string (bs e)) := ⟨(blk_cell HM2.out.box).trans rfl, g1, g2, g3, g4, g5⟩
        have hsz : W2.heap.size ≤ W2.drew.heap.size := Nat.le_refl _
        clear g0 g1 g2 g3 g4 g5 HM2 HK2 HT2
        generalize W2.drew = V0 at *
        refine takeD (i := 0) (d := 57) (v := ?_) rfl rfl (by kernel_rfl) (by kernel_rfl) (by kernel_rfl) (fun _ _ _ h => h) (Or.inl ⟨by rfl, ?_⟩) hq ?_
        rotate_left 1
        · intro W hW; obtain ⟨z0, z1, z2, z3, z4, z5⟩ := hW; go_simp <;> with_reducible rfl
        simp only [List.setIfInBounds_toArray, List.set_cons_succ, List.set_cons_zero]
        refine takeD (i := 1) (d := 58) (v := ?_) rfl rfl (by kernel_rfl) (by kernel_rfl) (by kernel_rfl) (fun _ _ _ h => h) (Or.inl ⟨by rfl, ?_⟩) hq ?_
        rotate_left 1
        · intro W hW; obtain ⟨z0, z1, z2, z3, z4, z5⟩ := hW; go_simp <;> with_reducible rfl
        simp only [List.setIfInBounds_toArray, List.set_cons_succ, List.set_cons_zero]
        refine takeD (i := 2) (d := 59) (v := ?_) rfl rfl (by kernel_rfl) (by kernel_rfl) (by kernel_rfl) (fun _ _ _ h => h) (Or.inl ⟨by rfl, ?_⟩) hq ?_
        rotate_left 1
        · intro W hW; obtain ⟨z0, z1, z2, z3, z4, z5⟩ := hW; go_simp <;> with_reducible rfl
        simp only [List.setIfInBounds_toArray, List.set_cons_succ, List.set_cons_zero]
        refine takeD (i := 3) (d := 60) (v := ?_) rfl rfl (by kernel_rfl) (by kernel_rfl) (by kernel_rfl) (fun _ _ _ h => h) (Or.inl ⟨by rfl, ?_⟩) hq ?_
        rotate_left 1
        · intro W hW; obtain ⟨z0, z1, z2, z3, z4, z5⟩ := hW; go_simp <;> with_reducible rfl
        simp only [List.setIfInBounds_toArray, List.set_cons_succ, List.set_cons_zero]
        refine takeD (i := 4) (d := 61) (v := ?_) rfl rfl (by kernel_rfl) (by kernel_rfl) (by kernel_rfl) (fun _ _ _ h => h) (Or.inl ⟨by rfl, ?_⟩) hq ?_
        rotate_left 1
        · intro W hW; obtain ⟨z0, z1, z2, z3, z4, z5⟩ := hW; go_simp <;> with_reducible rfl
        simp only [List.setIfInBounds_toArray, List.set_cons_succ, List.set_cons_zero]
        refine takeD (i := 6) (d := 63) (v := ?_) rfl rfl (by kernel_rfl) (by kernel_rfl) (by kernel_rfl) (fun _ _ _ h => h) (Or.inl ⟨by rfl, ?_⟩) hq ?_
        rotate_left 1
        · intro W hW; obtain ⟨z0, z1, z2, z3, z4, z5⟩ := hW; go_simp <;> with_reducible rfl
        simp only [List.setIfInBounds_toArray, List.set_cons_succ, List.set_cons_zero]
        refine takeD (i := 7) (d := 64) (v := ?_) rfl rfl (by kernel_rfl) (by kernel_rfl) (by kernel_rfl) (fun _ _ _ h => h) (Or.inl ⟨by rfl, ?_⟩) hq ?_
        rotate_left 1
        · intro W hW; obtain ⟨z0, z1, z2, z3, z4, z5⟩ := hW; go_simp <;> with_reducible rfl
        simp only [List.setIfInBounds_toArray, List.set_cons_succ, List.set_cons_zero]
        refine takeD (i := 8) (d := 65) (v := ?_) rfl rfl (by kernel_rfl) (by kernel_rfl) (by kernel_rfl) (fun _ _ _ h => h) (Or.inl ⟨by rfl, ?_⟩) hq ?_
        rotate_left 1
        · intro W hW; obtain ⟨z0, z1, z2, z3, z4, z5⟩ := hW; go_simp <;> with_reducible rfl
        simp only [List.setIfInBounds_toArray, List.set_cons_succ, List.set_cons_zero]
        refine takeD (i := 10) (d := 67) (v := ?_) rfl rfl (by kernel_rfl) (by kernel_rfl) (by kernel_rfl) (fun _ _ _ h => h) (Or.inl ⟨by rfl, ?_⟩) hq ?_
        rotate_left 1
        · intro W hW; obtain ⟨z0, z1, z2, z3, z4, z5⟩ := hW; go_simp <;> with_reducible rfl
        simp only [List.setIfInBounds_toArray, List.set_cons_succ, List.set_cons_zero]
        refine takeD (i := 11) (d := 68) (v := ?_) rfl rfl (by kernel_rfl) (by kernel_rfl) (by kernel_rfl) (fun _ _ _ h => h) (Or.inl ⟨by rfl, ?_⟩) hq ?_
        rotate_left 1
        · intro W hW; obtain ⟨z0, z1, z2, z3, z4, z5⟩ := hW; go_simp <;> with_reducible rfl
        simp only [List.setIfInBounds_toArray, List.set_cons_succ, List.set_cons_zero]
        refine takeD (i := 12) (d := 69) (v := ?_) rfl rfl (by kernel_rfl) (by kernel_rfl) (by kernel_rfl) (fun _ _ _ h => h) (Or.inl ⟨by rfl, ?_⟩) hq ?_
        rotate_left 1
        · intro W hW; obtain ⟨z0, z1, z2, z3, z4, z5⟩ := hW; go_simp <;> with_reducible rfl
        simp only [List.setIfInBounds_toArray, List.set_cons_succ, List.set_cons_zero]
        refine takeD (i := 14) (d := 71) (v := ?_) rfl rfl (by kernel_rfl) (by kernel_rfl) (by kernel_rfl) (fun _ _ _ h => h) (Or.inl ⟨by rfl, ?_⟩) hq ?_
        rotate_left 1
        · intro W hW; obtain ⟨z0, z1, z2, z3, z4, z5⟩ := hW; go_simp <;> with_reducible rfl
        simp only [List.setIfInBounds_toArray, List.set_cons_succ, List.set_cons_zero]
        refine takeD (i := 15) (d := 72) (v := ?_) rfl rfl (by kernel_rfl) (by kernel_rfl) (by kernel_rfl) (fun _ _ _ h => h) (Or.inl ⟨by rfl, ?_⟩) hq ?_
        rotate_left 1
        · intro W hW; obtain ⟨z0, z1, z2, z3, z4, z5⟩ := hW; go_simp <;> with_reducible rfl
        simp only [List.setIfInBounds_toArray, List.set_cons_succ, List.set_cons_zero]
        refine takeD (i := 16) (d := 73) (v := ?_) rfl rfl (by kernel_rfl) (by kernel_rfl) (by kernel_rfl) (fun _ _ _ h => h) (Or.inl ⟨by rfl, ?_⟩) hq ?_
        rotate_left 1
        · intro W hW; obtain ⟨z0, z1, z2, z3, z4, z5⟩ := hW; go_simp <;> with_reducible rfl
        simp only [List.setIfInBounds_toArray, List.set_cons_succ, List.set_cons_zero]
        refine takeD (i := 18) (d := 75) (v := ?_) rfl rfl (by kernel_rfl) (by kernel_rfl) (by kernel_rfl) (fun _ _ _ h => h) (Or.inl ⟨by rfl, ?_⟩) hq ?_
        rotate_left 1
        · intro W hW; obtain ⟨z0, z1, z2, z3, z4, z5⟩ := hW; go_simp <;> with_reducible rfl
        simp only [List.setIfInBounds_toArray, List.set_cons_succ, List.set_cons_zero]
        refine takeD (i := 19) (d := 76) (v := ?_) rfl rfl (by kernel_rfl) (by kernel_rfl) (by kernel_rfl) (fun _ _ _ h => h) (Or.inl ⟨by rfl, ?_⟩) hq ?_
        rotate_left 1
        · intro W hW; obtain ⟨z0, z1, z2, z3, z4, z5⟩ := hW; go_simp <;> with_reducible rfl
        simp only [List.setIfInBounds_toArray, List.set_cons_succ, List.set_cons_zero]
        refine takeD (i := 20) (d := 77) (v := ?_) rfl rfl (by kernel_rfl) (by kernel_rfl) (by kernel_rfl) (fun _ _ _ h => h) (Or.inl ⟨by rfl, ?_⟩) hq ?_
        rotate_left 1
        · intro W hW; obtain ⟨z0, z1, z2, z3, z4, z5⟩ := hW; go_simp <;> with_reducible rfl
        simp only [List.setIfInBounds_toArray, List.set_cons_succ, List.set_cons_zero]
        refine takeD (i := 21) (d := 78) (v := ?_) rfl rfl (by kernel_rfl) (by kernel_rfl) (by kernel_rfl) (fun _ _ _ h => h) (Or.inl ⟨by rfl, ?_⟩) hq ?_
        rotate_left 1
        · intro W hW; obtain ⟨z0, z1, z2, z3, z4, z5⟩ := hW; go_simp <;> with_reducible rfl
        simp only [List.setIfInBounds_toArray, List.set_cons_succ, List.set_cons_zero]
        refine wpAnyH_ready (rs := [5, 23]) (by kernel_rfl) (by simp) ?_
        refine AllReadyH.cons rfl (fun K hk => ?_) (AllReadyH.cons rfl (fun K hk => ?_) AllReadyH.nil)
        · go_simp
          refine (HN1.out _ hT).mono ?_
          rintro _ V1 ⟨r, rfl, rfl, hB⟩
          replace hM := hM.go hB
          replace hK := hK.trans (Keep2.of_below hB (by omega) h5N)
          replace hT := hT.below hB
          replace hq : V1.cell? ⟨N + 4, 0, none⟩ = some (.int .i64 (bo : Int)) ∧ V1.cell? ⟨bb, off + 1, none⟩ = some (.string (bs a)) ∧ V1.cell? ⟨bb, off + 2, none⟩ = some (.string (bs b)) ∧ V1.cell? ⟨bb, off + 3, none⟩ = some (.string (bs c)) ∧ V1.cell? ⟨bb, off + 4, none⟩ = some (.string (bs d)) ∧ V1.cell? ⟨bb, off + 5, none⟩ = some (.string (bs e)) := ⟨cell_below hB hq.1, cell_below hB hq.2.1, cell_below hB hq.2.2.1, cell_below hB hq.2.2.2.1, cell_below hB hq.2.2.2.2.1, cell_below hB hq.2.2.2.2.2⟩
          replace hsz : W2.heap.size ≤ V1.heap.size := Nat.le_trans hsz hB.size
          clear hB
          refine hk.out _ _ hq (fun _ => ?_)
          clear hk K
          refine wpAnyH_ready (rs := [9, 23]) (by kernel_rfl) (by simp) ?_
          refine AllReadyH.cons rfl (fun K hk => ?_) (AllReadyH.cons rfl (fun K hk => ?_) AllReadyH.nil)
          · go_simp
            refine (HN2.out _ hT).mono ?_
            rintro _ V2 ⟨r, rfl, rfl, hB⟩
            replace hM := hM.go hB
            replace hK := hK.trans (Keep2.of_below hB (by omega) h5N)
            replace hT := hT.below hB
            replace hq : V2.cell? ⟨N + 4, 0, none⟩ = some (.int .i64 (bo : Int)) ∧ V2.cell? ⟨bb, off + 1, none⟩ = some (.string (bs a)) ∧ V2.cell? ⟨bb, off + 2, none⟩ = some (.string (bs b)) ∧ V2.cell? ⟨bb, off + 3, none⟩ = some (.string (bs c)) ∧ V2.cell? ⟨bb, off + 4, none⟩ = some (.string (bs d)) ∧ V2.cell? ⟨bb, off + 5, none⟩ = some (.string (bs e)) := ⟨cell_below hB hq.1, cell_below hB hq.2.1, cell_below hB hq.2.2.1, cell_below hB hq.2.2.2.1, cell_below hB hq.2.2.2.2.1, cell_below hB hq.2.2.2.2.2⟩
            replace hsz : W2.heap.size ≤ V2.heap.size := Nat.le_trans hsz hB.size
            clear hB
            refine hk.out _ _ hq (fun _ => ?_)
            clear hk K
            refine wpAnyH_ready (rs := [13, 23]) (by kernel_rfl) (by simp) ?_
            refine AllReadyH.cons rfl (fun K hk => ?_) (AllReadyH.cons rfl (fun K hk => ?_) AllReadyH.nil)
            · go_simp
              refine (HN3.out _ hT).mono ?_
              rintro _ V3 ⟨r, rfl, rfl, hB⟩
              replace hM := hM.go hB
              replace hK := hK.trans (Keep2.of_below hB (by omega) h5N)
              replace hT := hT.below hB
              replace hq : V3.cell? ⟨N + 4, 0, none⟩ = some (.int .i64 (bo : Int)) ∧ V3.cell? ⟨bb, off + 1, none⟩ = some (.string (bs a)) ∧ V3.cell? ⟨bb, off + 2, none⟩ = some (.string (bs b)) ∧ V3.cell? ⟨bb, off + 3, none⟩ = some (.string (bs c)) ∧ V3.cell? ⟨bb, off + 4, none⟩ = some (.string (bs d)) ∧ V3.cell? ⟨bb, off + 5, none⟩ = some (.string (bs e)) := ⟨cell_below hB hq.1, cell_below hB hq.2.1, cell_below hB hq.2.2.1, cell_below hB hq.2.2.2.1, cell_below hB hq.2.2.2.2.1, cell_below hB hq.2.2.2.2.2⟩
              replace hsz : W2.heap.size ≤ V3.heap.size := Nat.le_trans hsz hB.size
              clear hB
              refine hk.out _ _ hq (fun _ => ?_)
              clear hk K
              refine wpAnyH_ready (rs := [17, 23]) (by kernel_rfl) (by simp) ?_
              refine AllReadyH.cons rfl (fun K hk => ?_) (AllReadyH.cons rfl (fun K hk => ?_) AllReadyH.nil)
              · go_simp
                refine (HN4.out _ hT).mono ?_
                rintro _ V4 ⟨r, rfl, rfl, hB⟩
                replace hM := hM.go hB
                replace hK := hK.trans (Keep2.of_below hB (by omega) h5N)
                replace hT := hT.below hB
                replace hq : V4.cell? ⟨N + 4, 0, none⟩ = some (.int .i64 (bo : Int)) ∧ V4.cell? ⟨bb, off + 1, none⟩ = some (.string (bs a)) ∧ V4.cell? ⟨bb, off + 2, none⟩ = some (.string (bs b)) ∧ V4.cell? ⟨bb, off + 3, none⟩ = some (.string (bs c)) ∧ V4.cell? ⟨bb, off + 4, none⟩ = some (.string (bs d)) ∧ V4.cell? ⟨bb, off + 5, none⟩ = some (.string (bs e)) := ⟨cell_below hB hq.1, cell_below hB hq.2.1, cell_below hB hq.2.2.1, cell_below hB hq.2.2.2.1, cell_below hB hq.2.2.2.2.1, cell_below hB hq.2.2.2.2.2⟩
                replace hsz : W2.heap.size ≤ V4.heap.size := Nat.le_trans hsz hB.size
                clear hB
                refine hk.out _ _ hq (fun _ => ?_)
                clear hk K
                refine takeD (i := 22) (d := 79) (v := ?_) rfl rfl (by kernel_rfl) (by kernel_rfl) (by kernel_rfl) (fun _ _ _ h => h) (Or.inl ⟨by rfl, ?_⟩) hq ?_
                rotate_left 1
                · intro W hW; obtain ⟨z0, z1, z2, z3, z4, z5⟩ := hW; go_simp <;> with_reducible rfl
                simp only [List.setIfInBounds_toArray, List.set_cons_succ, List.set_cons_zero]
                refine wpAnyH_ready (rs := [23]) (by kernel_rfl) (by simp) ?_
                refine AllReadyH.cons rfl (fun K hk => ?_) AllReadyH.nil
                go_simp
                have hB := below_alloc' (Below.refl V4.heap.size V4) (.cells #[.int .i64 0, .int .i64 0, .int .i64 0, .int .i64 0, .int .i64 0, .int .i64 0, .bool false] 67)
                have hX := heap_alloc_new V4 (.cells #[.int .i64 0, .int .i64 0, .int .i64 0, .int .i64 0, .int .i64 0, .int .i64 0, .bool false] 67)
                have hkN : N + 6 ≤ V4.heap.size := by omega
                have hko : ∀ r, (Value.slice A s2.length ca).ownBlock = some r → r ≠ V4.heap.size := fun r hr => by have := hown2.out r hr; omega
                have hkb : W2.heap.size ≤ V4.heap.size := hsz
                generalize V4.alloc (.cells #[.int .i64 0, .int .i64 0, .int .i64 0, .int .i64 0, .int .i64 0, .int .i64 0, .bool false] 67) = V5 at *
                replace hM := hM.go hB
                replace hK := hK.trans (Keep2.of_below hB (by omega) h5N)
                replace hT := hT.below hB
                replace hq : V5.cell? ⟨N + 4, 0, none⟩ = some (.int .i64 (bo : Int)) ∧ V5.cell? ⟨bb, off + 1, none⟩ = some (.string (bs a)) ∧ V5.cell? ⟨bb, off + 2, none⟩ = some (.string (bs b)) ∧ V5.cell? ⟨bb, off + 3, none⟩ = some (.string (bs c)) ∧ V5.cell? ⟨bb, off + 4, none⟩ = some (.string (bs d)) ∧ V5.cell? ⟨bb, off + 5, none⟩ = some (.string (bs e)) := ⟨cell_below hB hq.1, cell_below hB hq.2.1, cell_below hB hq.2.2.1, cell_below hB hq.2.2.2.1, cell_below hB hq.2.2.2.2.1, cell_below hB hq.2.2.2.2.2⟩
                replace hsz : W2.heap.size ≤ V5.heap.size := Nat.le_trans hsz hB.size
                clear hB
                generalize V4.heap.size = k at *
                refine hk.out _ _ hq (fun _ => ?_)
                clear hk K
                obtain ⟨x0, x1, x2, x3, x4, x5, x6, y0, y1, y2, y3, y4, y5, y6⟩ := seven_cells hX
                have hfin := seven_put hM hK hX hkN hko h5N (.int .i64 n0) (.int .i64 (bo : Int)) (.int .i64 n1) (.int .i64 n2) (.int .i64 n3) (.int .i64 n4) (.bool kb)
                have HFin := Lib.hid hfin
                have hq9 := seven_far (b := bb) (by omega : bb ≠ k) (by omega : N + 4 ≠ k) hq (.int .i64 n0) (.int .i64 (bo : Int)) (.int .i64 n1) (.int .i64 n2) (.int .i64 n3) (.int .i64 n4) (.bool kb)
                clear hfin hM hK hX hq
                refine wpAnyH_ready (rs := [24]) (by kernel_rfl) (by simp) ?_
                refine AllReadyH.cons rfl (fun K hK => ?_) AllReadyH.nil
                go_simp
                refine hK.out _ _ hq9 (fun _ => ?_)
                clear hK K
                refine wpAnyH_done (by kernel_rfl) ?_ _
                clear x0 x1 x2 x3 x4 x5 x6 y0 y1 y2 y3 y4 y5 y6
                gi_wp2_with fail
                gi_meet
                case rel => exact ⟨k, rfl, Lib.hid ⟨HFin.out.1, HFin.out.2.1, hkN, HFin.out.2.2⟩⟩
              · go_simp
                have hB := below_alloc' (Below.refl V3.heap.size V3) (.cells #[.int .i64 0, .int .i64 0, .int .i64 0, .int .i64 0, .int .i64 0, .int .i64 0, .bool false] 67)
                have hX := heap_alloc_new V3 (.cells #[.int .i64 0, .int .i64 0, .int .i64 0, .int .i64 0, .int .i64 0, .int .i64 0, .bool false] 67)
                have hkN : N + 6 ≤ V3.heap.size := by omega
                have hko : ∀ r, (Value.slice A s2.length ca).ownBlock = some r → r ≠ V3.heap.size := fun r hr => by have := hown2.out r hr; omega
                have hkb : W2.heap.size ≤ V3.heap.size := hsz
                generalize V3.alloc (.cells #[.int .i64 0, .int .i64 0, .int .i64 0, .int .i64 0, .int .i64 0, .int .i64 0, .bool false] 67) = V6 at *
                replace hM := hM.go hB
                replace hK := hK.trans (Keep2.of_below hB (by omega) h5N)
                replace hT := hT.below hB
                replace hq : V6.cell? ⟨N + 4, 0, none⟩ = some (.int .i64 (bo : Int)) ∧ V6.cell? ⟨bb, off + 1, none⟩ = some (.string (bs a)) ∧ V6.cell? ⟨bb, off + 2, none⟩ = some (.string (bs b)) ∧ V6.cell? ⟨bb, off + 3, none⟩ = some (.string (bs c)) ∧ V6.cell? ⟨bb, off + 4, none⟩ = some (.string (bs d)) ∧ V6.cell? ⟨bb, off + 5, none⟩ = some (.string (bs e)) := ⟨cell_below hB hq.1, cell_below hB hq.2.1, cell_below hB hq.2.2.1, cell_below hB hq.2.2.2.1, cell_below hB hq.2.2.2.2.1, cell_below hB hq.2.2.2.2.2⟩
                replace hsz : W2.heap.size ≤ V6.heap.size := Nat.le_trans hsz hB.size
                clear hB
                generalize V3.heap.size = k at *
                refine hk.out _ _ hq (fun _ => ?_)
                clear hk K
                refine wpAnyH_ready (rs := [17]) (by kernel_rfl) (by simp) ?_
                refine AllReadyH.cons rfl (fun K hk => ?_) AllReadyH.nil
                go_simp
                refine (HN4.out _ hT).mono ?_
                rintro _ V7 ⟨r, rfl, rfl, hB⟩
                replace hM := hM.go hB
                replace hK := hK.trans (Keep2.of_below hB (by omega) h5N)
                replace hT := hT.below hB
                replace hq : V7.cell? ⟨N + 4, 0, none⟩ = some (.int .i64 (bo : Int)) ∧ V7.cell? ⟨bb, off + 1, none⟩ = some (.string (bs a)) ∧ V7.cell? ⟨bb, off + 2, none⟩ = some (.string (bs b)) ∧ V7.cell? ⟨bb, off + 3, none⟩ = some (.string (bs c)) ∧ V7.cell? ⟨bb, off + 4, none⟩ = some (.string (bs d)) ∧ V7.cell? ⟨bb, off + 5, none⟩ = some (.string (bs e)) := ⟨cell_below hB hq.1, cell_below hB hq.2.1, cell_below hB hq.2.2.1, cell_below hB hq.2.2.2.1, cell_below hB hq.2.2.2.2.1, cell_below hB hq.2.2.2.2.2⟩
                replace hsz : W2.heap.size ≤ V7.heap.size := Nat.le_trans hsz hB.size
                replace hX := blk_below hB hX
                clear hB
                refine hk.out _ _ hq (fun _ => ?_)
                clear hk K
                refine takeD (i := 22) (d := 79) (v := ?_) rfl rfl (by kernel_rfl) (by kernel_rfl) (by kernel_rfl) (fun _ _ _ h => h) (Or.inl ⟨by rfl, ?_⟩) hq ?_
                rotate_left 1
                · intro W hW; obtain ⟨z0, z1, z2, z3, z4, z5⟩ := hW; go_simp <;> with_reducible rfl
                simp only [List.setIfInBounds_toArray, List.set_cons_succ, List.set_cons_zero]
                obtain ⟨x0, x1, x2, x3, x4, x5, x6, y0, y1, y2, y3, y4, y5, y6⟩ := seven_cells hX
                have hfin := seven_put hM hK hX hkN hko h5N (.int .i64 n0) (.int .i64 (bo : Int)) (.int .i64 n1) (.int .i64 n2) (.int .i64 n3) (.int .i64 n4) (.bool kb)
                have HFin := Lib.hid hfin
                have hq9 := seven_far (b := bb) (by omega : bb ≠ k) (by omega : N + 4 ≠ k) hq (.int .i64 n0) (.int .i64 (bo : Int)) (.int .i64 n1) (.int .i64 n2) (.int .i64 n3) (.int .i64 n4) (.bool kb)
                clear hfin hM hK hX hq
                refine wpAnyH_ready (rs := [24]) (by kernel_rfl) (by simp) ?_
                refine AllReadyH.cons rfl (fun K hK => ?_) AllReadyH.nil
                go_simp
                refine hK.out _ _ hq9 (fun _ => ?_)
                clear hK K
                refine wpAnyH_done (by kernel_rfl) ?_ _
                clear x0 x1 x2 x3 x4 x5 x6 y0 y1 y2 y3 y4 y5 y6
                gi_wp2_with fail
                gi_meet
                case rel => exact ⟨k, rfl, Lib.hid ⟨HFin.out.1, HFin.out.2.1, hkN, HFin.out.2.2⟩⟩
            · go_simp
              have hB := below_alloc' (Below.refl V2.heap.size V2) (.cells #[.int .i64 0, .int .i64 0, .int .i64 0, .int .i64 0, .int .i64 0, .int .i64 0, .bool false] 67)
              have hX := heap_alloc_new V2 (.cells #[.int .i64 0, .int .i64 0, .int .i64 0, .int .i64 0, .int .i64 0, .int .i64 0, .bool false] 67)
              have hkN : N + 6 ≤ V2.heap.size := by omega
              have hko : ∀ r, (Value.slice A s2.length ca).ownBlock = some r → r ≠ V2.heap.size := fun r hr => by have := hown2.out r hr; omega
              have hkb : W2.heap.size ≤ V2.heap.size := hsz
              generalize V2.alloc (.cells #[.int .i64 0, .int .i64 0, .int .i64 0, .int .i64 0, .int .i64 0, .int .i64 0, .bool false] 67) = V8 at *
              replace hM := hM.go hB
              replace hK := hK.trans (Keep2.of_below hB (by omega) h5N)
              replace hT := hT.below hB
              replace hq : V8.cell? ⟨N + 4, 0, none⟩ = some (.int .i64 (bo : Int)) ∧ V8.cell? ⟨bb, off + 1, none⟩ = some (.string (bs a)) ∧ V8.cell? ⟨bb, off + 2, none⟩ = some (.string (bs b)) ∧ V8.cell? ⟨bb, off + 3, none⟩ = some (.string (bs c)) ∧ V8.cell? ⟨bb, off + 4, none⟩ = some (.string (bs d)) ∧ V8.cell? ⟨bb, off + 5, none⟩ = some (.string (bs e)) := ⟨cell_below hB hq.1, cell_below hB hq.2.1, cell_below hB hq.2.2.1, cell_below hB hq.2.2.2.1, cell_below hB hq.2.2.2.2.1, cell_below hB hq.2.2.2.2.2⟩
              replace hsz : W2.heap.size ≤ V8.heap.size := Nat.le_trans hsz hB.size
              clear hB
              generalize V2.heap.size = k at *
              refine hk.out _ _ hq (fun _ => ?_)
              clear hk K
              refine wpAnyH_ready (rs := [13]) (by kernel_rfl) (by simp) ?_
              refine AllReadyH.cons rfl (fun K hk => ?_) AllReadyH.nil
              go_simp
              refine (HN3.out _ hT).mono ?_
              rintro _ V9 ⟨r, rfl, rfl, hB⟩
              replace hM := hM.go hB
              replace hK := hK.trans (Keep2.of_below hB (by omega) h5N)
              replace hT := hT.below hB
              replace hq : V9.cell? ⟨N + 4, 0, none⟩ = some (.int .i64 (bo : Int)) ∧ V9.cell? ⟨bb, off + 1, none⟩ = some (.string (bs a)) ∧ V9.cell? ⟨bb, off + 2, none⟩ = some (.string (bs b)) ∧ V9.cell? ⟨bb, off + 3, none⟩ = some (.string (bs c)) ∧ V9.cell? ⟨bb, off + 4, none⟩ = some (.string (bs d)) ∧ V9.cell? ⟨bb, off + 5, none⟩ = some (.string (bs e)) := ⟨cell_below hB hq.1, cell_below hB hq.2.1, cell_below hB hq.2.2.1, cell_below hB hq.2.2.2.1, cell_below hB hq.2.2.2.2.1, cell_below hB hq.2.2.2.2.2⟩
              replace hsz : W2.heap.size ≤ V9.heap.size := Nat.le_trans hsz hB.size
              replace hX := blk_below hB hX
              clear hB
              refine hk.out _ _ hq (fun _ => ?_)
              clear hk K
              refine wpAnyH_ready (rs := [17]) (by kernel_rfl) (by simp) ?_
              refine AllReadyH.cons rfl (fun K hk => ?_) AllReadyH.nil
              go_simp
              refine (HN4.out _ hT).mono ?_
              rintro _ V10 ⟨r, rfl, rfl, hB⟩
              replace hM := hM.go hB
              replace hK := hK.trans (Keep2.of_below hB (by omega) h5N)
              replace hT := hT.below hB
              replace hq : V10.cell? ⟨N + 4, 0, none⟩ = some (.int .i64 (bo : Int)) ∧ V10.cell? ⟨bb, off + 1, none⟩ = some (.string (bs a)) ∧ V10.cell? ⟨bb, off + 2, none⟩ = some (.string (bs b)) ∧ V10.cell? ⟨bb, off + 3, none⟩ = some (.string (bs c)) ∧ V10.cell? ⟨bb, off + 4, none⟩ = some (.string (bs d)) ∧ V10.cell? ⟨bb, off + 5, none⟩ = some (.string (bs e)) := ⟨cell_below hB hq.1, cell_below hB hq.2.1, cell_below hB hq.2.2.1, cell_below hB hq.2.2.2.1, cell_below hB hq.2.2.2.2.1, cell_below hB hq.2.2.2.2.2⟩
              replace hsz : W2.heap.size ≤ V10.heap.size := Nat.le_trans hsz hB.size
              replace hX := blk_below hB hX
              clear hB
              refine hk.out _ _ hq (fun _ => ?_)
              clear hk K
              refine takeD (i := 22) (d := 79) (v := ?_) rfl rfl (by kernel_rfl) (by kernel_rfl) (by kernel_rfl) (fun _ _ _ h => h) (Or.inl ⟨by rfl, ?_⟩) hq ?_
              rotate_left 1
              · intro W hW; obtain ⟨z0, z1, z2, z3, z4, z5⟩ := hW; go_simp <;> with_reducible rfl
              simp only [List.setIfInBounds_toArray, List.set_cons_succ, List.set_cons_zero]
              obtain ⟨x0, x1, x2, x3, x4, x5, x6, y0, y1, y2, y3, y4, y5, y6⟩ := seven_cells hX
              have hfin := seven_put hM hK hX hkN hko h5N (.int .i64 n0) (.int .i64 (bo : Int)) (.int .i64 n1) (.int .i64 n2) (.int .i64 n3) (.int .i64 n4) (.bool kb)
              have HFin := Lib.hid hfin
              have hq9 := seven_far (b := bb) (by omega : bb ≠ k) (by omega : N + 4 ≠ k) hq (.int .i64 n0) (.int .i64 (bo : Int)) (.int .i64 n1) (.int .i64 n2) (.int .i64 n3) (.int .i64 n4) (.bool kb)
              clear hfin hM hK hX hq
              refine wpAnyH_ready (rs := [24]) (by kernel_rfl) (by simp) ?_
              refine AllReadyH.cons rfl (fun K hK => ?_) AllReadyH.nil
              go_simp
              refine hK.out _ _ hq9 (fun _ => ?_)
              clear hK K
              refine wpAnyH_done (by kernel_rfl) ?_ _
              clear x0 x1 x2 x3 x4 x5 x6 y0 y1 y2 y3 y4 y5 y6
              gi_wp2_with fail
              gi_meet
              case rel => exact ⟨k, rfl, Lib.hid ⟨HFin.out.1, HFin.out.2.1, hkN, HFin.out.2.2⟩⟩
          · go_simp
            have hB := below_alloc' (Below.refl V1.heap.size V1) (.cells #[.int .i64 0, .int .i64 0, .int .i64 0, .int .i64 0, .int .i64 0, .int .i64 0, .bool false] 67)
            have hX := heap_alloc_new V1 (.cells #[.int .i64 0, .int .i64 0, .int .i64 0, .int .i64 0, .int .i64 0, .int .i64 0, .bool false] 67)
            have hkN : N + 6 ≤ V1.heap.size := by omega
            have hko : ∀ r, (Value.slice A s2.length ca).ownBlock = some r → r ≠ V1.heap.size := fun r hr => by have := hown2.out r hr; omega
            have hkb : W2.heap.size ≤ V1.heap.size := hsz
            generalize V1.alloc (.cells #[.int .i64 0, .int .i64 0, .int .i64 0, .int .i64 0, .int .i64 0, .int .i64 0, .bool false] 67) = V11 at *
            replace hM := hM.go hB
            replace hK := hK.trans (Keep2.of_below hB (by omega) h5N)
            replace hT := hT.below hB
            replace hq : V11.cell? ⟨N + 4, 0, none⟩ = some (.int .i64 (bo : Int)) ∧ V11.cell? ⟨bb, off + 1, none⟩ = some (.string (bs a)) ∧ V11.cell? ⟨bb, off + 2, none⟩ = some (.string (bs b)) ∧ V11.cell? ⟨bb, off + 3, none⟩ = some (.string (bs c)) ∧ V11.cell? ⟨bb, off + 4, none⟩ = some (.string (bs d)) ∧ V11.cell? ⟨bb, off + 5, none⟩ = some (.string (bs e)) := ⟨cell_below hB hq.1, cell_below hB hq.2.1, cell_below hB hq.2.2.1, cell_below hB hq.2.2.2.1, cell_below hB hq.2.2.2.2.1, cell_below hB hq.2.2.2.2.2⟩
            replace hsz : W2.heap.size ≤ V11.heap.size := Nat.le_trans hsz hB.size
            clear hB
            generalize V1.heap.size = k at *
            refine hk.out _ _ hq (fun _ => ?_)
            clear hk K
            refine wpAnyH_ready (rs := [9]) (by kernel_rfl) (by simp) ?_
            refine AllReadyH.cons rfl (fun K hk => ?_) AllReadyH.nil
            go_simp
            refine (HN2.out _ hT).mono ?_
            rintro _ V12 ⟨r, rfl, rfl, hB⟩
            replace hM := hM.go hB
            replace hK := hK.trans (Keep2.of_below hB (by omega) h5N)
            replace hT := hT.below hB
            replace hq : V12.cell? ⟨N + 4, 0, none⟩ = some (.int .i64 (bo : Int)) ∧ V12.cell? ⟨bb, off + 1, none⟩ = some (.string (bs a)) ∧ V12.cell? ⟨bb, off + 2, none⟩ = some (.string (bs b)) ∧ V12.cell? ⟨bb, off + 3, none⟩ = some (.string (bs c)) ∧ V12.cell? ⟨bb, off + 4, none⟩ = some (.string (bs d)) ∧ V12.cell? ⟨bb, off + 5, none⟩ = some (.string (bs e)) := ⟨cell_below hB hq.1, cell_below hB hq.2.1, cell_below hB hq.2.2.1, cell_below hB hq.2.2.2.1, cell_below hB hq.2.2.2.2.1, cell_below hB hq.2.2.2.2.2⟩
            replace hsz : W2.heap.size ≤ V12.heap.size := Nat.le_trans hsz hB.size
            replace hX := blk_below hB hX
            clear hB
            refine hk.out _ _ hq (fun _ => ?_)
            clear hk K
            refine wpAnyH_ready (rs := [13]) (by kernel_rfl) (by simp) ?_
            refine AllReadyH.cons rfl (fun K hk => ?_) AllReadyH.nil
            go_simp
            refine (HN3.out _ hT).mono ?_
            rintro _ V13 ⟨r, rfl, rfl, hB⟩
            replace hM := hM.go hB
            replace hK := hK.trans (Keep2.of_below hB (by omega) h5N)
            replace hT := hT.below hB
            replace hq : V13.cell? ⟨N + 4, 0, none⟩ = some (.int .i64 (bo : Int)) ∧ V13.cell? ⟨bb, off + 1, none⟩ = some (.string (bs a)) ∧ V13.cell? ⟨bb, off + 2, none⟩ = some (.string (bs b)) ∧ V13.cell? ⟨bb, off + 3, none⟩ = some (.string (bs c)) ∧ V13.cell? ⟨bb, off + 4, none⟩ = some (.string (bs d)) ∧ V13.cell? ⟨bb, off + 5, none⟩ = some (.string (bs e)) := ⟨cell_below hB hq.1, cell_below hB hq.2.1, cell_below hB hq.2.2.1, cell_below hB hq.2.2.2.1, cell_below hB hq.2.2.2.2.1, cell_below hB hq.2.2.2.2.2⟩
            replace hsz : W2.heap.size ≤ V13.heap.size := Nat.le_trans hsz hB.size
            replace hX := blk_below hB hX
            clear hB
            refine hk.out _ _ hq (fun _ => ?_)
            clear hk K
            refine wpAnyH_ready (rs := [17]) (by kernel_rfl) (by simp) ?_
            refine AllReadyH.cons rfl (fun K hk => ?_) AllReadyH.nil
            go_simp
            refine (HN4.out _ hT).mono ?_
            rintro _ V14 ⟨r, rfl, rfl, hB⟩
            replace hM := hM.go hB
            replace hK := hK.trans (Keep2.of_below hB (by omega) h5N)
            replace hT := hT.below hB
            replace hq : V14.cell? ⟨N + 4, 0, none⟩ = some (.int .i64 (bo : Int)) ∧ V14.cell? ⟨bb, off + 1, none⟩ = some (.string (bs a)) ∧ V14.cell? ⟨bb, off + 2, none⟩ = some (.string (bs b)) ∧ V14.cell? ⟨bb, off + 3, none⟩ = some (.string (bs c)) ∧ V14.cell? ⟨bb, off + 4, none⟩ = some (.string (bs d)) ∧ V14.cell? ⟨bb, off + 5, none⟩ = some (.string (bs e)) := ⟨cell_below hB hq.1, cell_below hB hq.2.1, cell_below hB hq.2.2.1, cell_below hB hq.2.2.2.1, cell_below hB hq.2.2.2.2.1, cell_below hB hq.2.2.2.2.2⟩
            replace hsz : W2.heap.size ≤ V14.heap.size := Nat.le_trans hsz hB.size
            replace hX := blk_below hB hX
            clear hB
            refine hk.out _ _ hq (fun _ => ?_)
            clear hk K
            refine takeD (i := 22) (d := 79) (v := ?_) rfl rfl (by kernel_rfl) (by kernel_rfl) (by kernel_rfl) (fun _ _ _ h => h) (Or.inl ⟨by rfl, ?_⟩) hq ?_
            rotate_left 1
            · intro W hW; obtain ⟨z0, z1, z2, z3, z4, z5⟩ := hW; go_simp <;> with_reducible rfl
            simp only [List.setIfInBounds_toArray, List.set_cons_succ, List.set_cons_zero]
            obtain ⟨x0, x1, x2, x3, x4, x5, x6, y0, y1, y2, y3, y4, y5, y6⟩ := seven_cells hX
            have hfin := seven_put hM hK hX hkN hko h5N (.int .i64 n0) (.int .i64 (bo : Int)) (.int .i64 n1) (.int .i64 n2) (.int .i64 n3) (.int .i64 n4) (.bool kb)
            have HFin := Lib.hid hfin
            have hq9 := seven_far (b := bb) (by omega : bb ≠ k) (by omega : N + 4 ≠ k) hq (.int .i64 n0) (.int .i64 (bo : Int)) (.int .i64 n1) (.int .i64 n2) (.int .i64 n3) (.int .i64 n4) (.bool kb)
            clear hfin hM hK hX hq
            refine wpAnyH_ready (rs := [24]) (by kernel_rfl) (by simp) ?_
            refine AllReadyH.cons rfl (fun K hK => ?_) AllReadyH.nil
            go_simp
            refine hK.out _ _ hq9 (fun _ => ?_)
            clear hK K
            refine wpAnyH_done (by kernel_rfl) ?_ _
            clear x0 x1 x2 x3 x4 x5 x6 y0 y1 y2 y3 y4 y5 y6
            gi_wp2_with fail
            gi_meet
            case rel => exact ⟨k, rfl, Lib.hid ⟨HFin.out.1, HFin.out.2.1, hkN, HFin.out.2.2⟩⟩
        · go_simp
          have hB := below_alloc' (Below.refl V0.heap.size V0) (.cells #[.int .i64 0, .int .i64 0, .int .i64 0, .int .i64 0, .int .i64 0, .int .i64 0, .bool false] 67)
          have hX := heap_alloc_new V0 (.cells #[.int .i64 0, .int .i64 0, .int .i64 0, .int .i64 0, .int .i64 0, .int .i64 0, .bool false] 67)
          have hkN : N + 6 ≤ V0.heap.size := by omega
          have hko : ∀ r, (Value.slice A s2.length ca).ownBlock = some r → r ≠ V0.heap.size := fun r hr => by have := hown2.out r hr; omega
          have hkb : W2.heap.size ≤ V0.heap.size := hsz
          generalize V0.alloc (.cells #[.int .i64 0, .int .i64 0, .int .i64 0, .int .i64 0, .int .i64 0, .int .i64 0, .bool false] 67) = V15 at *
          replace hM := hM.go hB
          replace hK := hK.trans (Keep2.of_below hB (by omega) h5N)
          replace hT := hT.below hB
          replace hq : V15.cell? ⟨N + 4, 0, none⟩ = some (.int .i64 (bo : Int)) ∧ V15.cell? ⟨bb, off + 1, none⟩ = some (.string (bs a)) ∧ V15.cell? ⟨bb, off + 2, none⟩ = some (.string (bs b)) ∧ V15.cell? ⟨bb, off + 3, none⟩ = some (.string (bs c)) ∧ V15.cell? ⟨bb, off + 4, none⟩ = some (.string (bs d)) ∧ V15.cell? ⟨bb, off + 5, none⟩ = some (.string (bs e)) := ⟨cell_below hB hq.1, cell_below hB hq.2.1, cell_below hB hq.2.2.1, cell_below hB hq.2.2.2.1, cell_below hB hq.2.2.2.2.1, cell_below hB hq.2.2.2.2.2⟩
          replace hsz : W2.heap.size ≤ V15.heap.size := Nat.le_trans hsz hB.size
          clear hB
          generalize V0.heap.size = k at *
          refine hk.out _ _ hq (fun _ => ?_)
          clear hk K
          refine wpAnyH_ready (rs := [5]) (by kernel_rfl) (by simp) ?_
          refine AllReadyH.cons rfl (fun K hk => ?_) AllReadyH.nil
          go_simp
          refine (HN1.out _ hT).mono ?_
          rintro _ V16 ⟨r, rfl, rfl, hB⟩
          replace hM := hM.go hB
          replace hK := hK.trans (Keep2.of_below hB (by omega) h5N)
          replace hT := hT.below hB
          replace hq : V16.cell? ⟨N + 4, 0, none⟩ = some (.int .i64 (bo : Int)) ∧ V16.cell? ⟨bb, off + 1, none⟩ = some (.string (bs a)) ∧ V16.cell? ⟨bb, off + 2, none⟩ = some (.string (bs b)) ∧ V16.cell? ⟨bb, off + 3, none⟩ = some (.string (bs c)) ∧ V16.cell? ⟨bb, off + 4, none⟩ = some (.string (bs d)) ∧ V16.cell? ⟨bb, off + 5, none⟩ = some (.string (bs e)) := ⟨cell_below hB hq.1, cell_below hB hq.2.1, cell_below hB hq.2.2.1, cell_below hB hq.2.2.2.1, cell_below hB hq.2.2.2.2.1, cell_below hB hq.2.2.2.2.2⟩
          replace hsz : W2.heap.size ≤ V16.heap.size := Nat.le_trans hsz hB.size
          replace hX := blk_below hB hX
          clear hB
          refine hk.out _ _ hq (fun _ => ?_)
          clear hk K
          refine wpAnyH_ready (rs := [9]) (by kernel_rfl) (by simp) ?_
          refine AllReadyH.cons rfl (fun K hk => ?_) AllReadyH.nil
          go_simp
          refine (HN2.out _ hT).mono ?_
          rintro _ V17 ⟨r, rfl, rfl, hB⟩
          replace hM := hM.go hB
          replace hK := hK.trans (Keep2.of_below hB (by omega) h5N)
          replace hT := hT.below hB
          replace hq : V17.cell? ⟨N + 4, 0, none⟩ = some (.int .i64 (bo : Int)) ∧ V17.cell? ⟨bb, off + 1, none⟩ = some (.string (bs a)) ∧ V17.cell? ⟨bb, off + 2, none⟩ = some (.string (bs b)) ∧ V17.cell? ⟨bb, off + 3, none⟩ = some (.string (bs c)) ∧ V17.cell? ⟨bb, off + 4, none⟩ = some (.string (bs d)) ∧ V17.cell? ⟨bb, off + 5, none⟩ = some (.string (bs e)) := ⟨cell_below hB hq.1, cell_below hB hq.2.1, cell_below hB hq.2.2.1, cell_below hB hq.2.2.2.1, cell_below hB hq.2.2.2.2.1, cell_below hB hq.2.2.2.2.2⟩
          replace hsz : W2.heap.size ≤ V17.heap.size := Nat.le_trans hsz hB.size
          replace hX := blk_below hB hX
          clear hB
          refine hk.out _ _ hq (fun _ => ?_)
          clear hk K
          refine wpAnyH_ready (rs := [13]) (by kernel_rfl) (by simp) ?_
          refine AllReadyH.cons rfl (fun K hk => ?_) AllReadyH.nil
          go_simp
          refine (HN3.out _ hT).mono ?_
          rintro _ V18 ⟨r, rfl, rfl, hB⟩
          replace hM := hM.go hB
          replace hK := hK.trans (Keep2.of_below hB (by omega) h5N)
          replace hT := hT.below hB
          replace hq : V18.cell? ⟨N + 4, 0, none⟩ = some (.int .i64 (bo : Int)) ∧ V18.cell? ⟨bb, off + 1, none⟩ = some (.string (bs a)) ∧ V18.cell? ⟨bb, off + 2, none⟩ = some (.string (bs b)) ∧ V18.cell? ⟨bb, off + 3, none⟩ = some (.string (bs c)) ∧ V18.cell? ⟨bb, off + 4, none⟩ = some (.string (bs d)) ∧ V18.cell? ⟨bb, off + 5, none⟩ = some (.string (bs e)) := ⟨cell_below hB hq.1, cell_below hB hq.2.1, cell_below hB hq.2.2.1, cell_below hB hq.2.2.2.1, cell_below hB hq.2.2.2.2.1, cell_below hB hq.2.2.2.2.2⟩
          replace hsz : W2.heap.size ≤ V18.heap.size := Nat.le_trans hsz hB.size
          replace hX := blk_below hB hX
          clear hB
          refine hk.out _ _ hq (fun _ => ?_)
          clear hk K
          refine wpAnyH_ready (rs := [17]) (by kernel_rfl) (by simp) ?_
          refine AllReadyH.cons rfl (fun K hk => ?_) AllReadyH.nil
          go_simp
          refine (HN4.out _ hT).mono ?_
          rintro _ V19 ⟨r, rfl, rfl, hB⟩
          replace hM := hM.go hB
          replace hK := hK.trans (Keep2.of_below hB (by omega) h5N)
          replace hT := hT.below hB
          replace hq : V19.cell? ⟨N + 4, 0, none⟩ = some (.int .i64 (bo : Int)) ∧ V19.cell? ⟨bb, off + 1, none⟩ = some (.string (bs a)) ∧ V19.cell? ⟨bb, off + 2, none⟩ = some (.string (bs b)) ∧ V19.cell? ⟨bb, off + 3, none⟩ = some (.string (bs c)) ∧ V19.cell? ⟨bb, off + 4, none⟩ = some (.string (bs d)) ∧ V19.cell? ⟨bb, off + 5, none⟩ = some (.string (bs e)) := ⟨cell_below hB hq.1, cell_below hB hq.2.1, cell_below hB hq.2.2.1, cell_below hB hq.2.2.2.1, cell_below hB hq.2.2.2.2.1, cell_below hB hq.2.2.2.2.2⟩
          replace hsz : W2.heap.size ≤ V19.heap.size := Nat.le_trans hsz hB.size
          replace hX := blk_below hB hX
          clear hB
          refine hk.out _ _ hq (fun _ => ?_)
          clear hk K
          refine takeD (i := 22) (d := 79) (v := ?_) rfl rfl (by kernel_rfl) (by kernel_rfl) (by kernel_rfl) (fun _ _ _ h => h) (Or.inl ⟨by rfl, ?_⟩) hq ?_
          rotate_left 1
          · intro W hW; obtain ⟨z0, z1, z2, z3, z4, z5⟩ := hW; go_simp <;> with_reducible rfl
          simp only [List.setIfInBounds_toArray, List.set_cons_succ, List.set_cons_zero]
          obtain ⟨x0, x1, x2, x3, x4, x5, x6, y0, y1, y2, y3, y4, y5, y6⟩ := seven_cells hX
          have hfin := seven_put hM hK hX hkN hko h5N (.int .i64 n0) (.int .i64 (bo : Int)) (.int .i64 n1) (.int .i64 n2) (.int .i64 n3) (.int .i64 n4) (.bool kb)
          have HFin := Lib.hid hfin
          have hq9 := seven_far (b := bb) (by omega : bb ≠ k) (by omega : N + 4 ≠ k) hq (.int .i64 n0) (.int .i64 (bo : Int)) (.int .i64 n1) (.int .i64 n2) (.int .i64 n3) (.int .i64 n4) (.bool kb)
          clear hfin hM hK hX hq
          refine wpAnyH_ready (rs := [24]) (by kernel_rfl) (by simp) ?_
          refine AllReadyH.cons rfl (fun K hK => ?_) AllReadyH.nil
          go_simp
          refine hK.out _ _ hq9 (fun _ => ?_)
          clear hK K
          refine wpAnyH_done (by kernel_rfl) ?_ _
          clear x0 x1 x2 x3 x4 x5 x6 y0 y1 y2 y3 y4 y5 y6
          gi_wp2_with fail
          gi_meet
          case rel => exact ⟨k, rfl, Lib.hid ⟨HFin.out.1, HFin.out.2.1, hkN, HFin.out.2.2⟩⟩
      case rest =>
        obtain ⟨k, rfl, HX⟩ := hcut
        obtain ⟨hM4, hK4, hk4, hX4⟩ := HX.out
        have hX4' : wc.heap[k]? = some (.cells #[.int .i64 n0, .int .i64 (bo : Int), .int .i64 n1, .int .i64 n2, .int .i64 n3, .int .i64 n4, .bool kb] 67 (0, 0)) := hX4
        obtain ⟨x0, x1, x2, x3, x4, x5, x6, -, -, -, -, -, -, -⟩ := seven_cells hX4'
        have o0 : wc.cell? ⟨N + 2, 0, none⟩ = some (.slice A s2.length ca) := (blk_cell hM4.out).trans rfl
        have HM4 := Lib.hid hM4
        have HK4 := Lib.hid hK4
        have HOA := Lib.hid (hM4.own.alloc (.cells #[.int .i64 n0, .int .i64 (bo : Int), .int .i64 n1, .int .i64 n2, .int .i64 n3, .int .i64 n4, .bool kb] 67))
        have hbk := heap_alloc_new wc (.cells #[.int .i64 n0, .int .i64 (bo : Int), .int .i64 n1, .int .i64 n2, .int .i64 n3, .int .i64 n4, .bool kb] 67)
        have hw6 := hM4.size
        have hrl := room_le s2 (bo : Int)
        have e1 : IntKind.i64.wrap (((room s2 (bo : Int) : Nat) : Int) + 1) = ((room s2 (bo : Int) : Nat) : Int) + 1 := IntWalk.i64_in _ (by omega)
        have o1 : (0 : Int) ≤ (bo : Int) := by omega
        have o2 : (bo : Int) < 1000 := by omega
        have hs2 : s2.length ≤ 100000 := by omega
        clear hM4 hK4 hX4 hX4' HX hrl
        gi_wp2_with (gi_at_builtin; refine wpListIn_push _ rfl (.tmp 80) (.tmp 82) 44 rfl elemIt encIt_len oneIt Tryz.underlying44 (N + 6) (.slice A s2.length ca) s2 (by rfl) HOA.out hs2 ⟨n0, (bo : Int), n1, n2, n3, n4, kb⟩ wc.heap.size (by rfl) #[.int .i64 n0, .int .i64 (bo : Int), .int .i64 n1, .int .i64 n2, .int .i64 n3, .int .i64 n4, .bool kb] rfl _ _ hbk (by rw [World.size_alloc]; omega) ?_; intro g9 cap9 w6 hO6 hg6; have k2 := blk_grown hg6 (blk_alloc HM4.out.out _) (own_ne_blk HM4.out.own HM4.out.out (by decide)); have k3 := blk_grown hg6 (blk_alloc HM4.out.bxs _) (own_ne_blk HM4.out.own HM4.out.bxs (by decide)); have k4 := blk_grown hg6 (blk_alloc HM4.out.box _) (own_ne_blk HM4.out.own HM4.out.box (by decide)); have r1 : w6.cell? ⟨N + 2, 0, none⟩ = some (.slice A s2.length ca) := (blk_cell k2).trans rfl; have r2 : w6.frozen? ⟨N + 2, 0, none⟩ = false := blk_frozen (i := 0) k2; have r3 : w6.cell? ⟨N + 4, 0, none⟩ = some (.int .i64 (bo : Int)) := (blk_cell k4).trans rfl; have r4 : w6.cell? ⟨N + 3, bo, none⟩ = some (.int .i64 ((room s2 (bo : Int) : Nat) : Int)) := (blk_cell k3).trans (shelfC_at _ hbo); have r5 : w6.frozen? ⟨N + 3, bo, none⟩ = false := blk_frozen (i := bo) k3; have HP := Lib.hid (HM4.out.push (x := ⟨n0, (bo : Int), n1, n2, n3, n4, kb⟩) hbo rfl h5N hO6 hg6); clear k2 k3 k4 hO6 hg6 HOA hbk HM4 o0 x0 x1 x2 x3 x4 x5 x6)
        (try simp only [Exit.inBlock, Exit.then])
        exact ⟨fun l o _ h ho => (HK4.out.trans HP.out.2).loops l o h ho, .inl ⟨rfl, (HK4.out.trans HP.out.2).keepB, show RdI w N L ((pre ++ [(⟨x, hx⟩ : {k : Nat // 1 * k < L.length})]).map (fun x : {k : Nat // 1 * k < L.length} => x.1)) _ from ⟨((bo : Int), s2 ++ [⟨n0, (bo : Int), n1, n2, n3, n4, kb⟩]), _, cap9, HGn.out, ⟨Hok.out.1, fun x hx => by
          rcases List.mem_append.1 hx with hx | hx
          · exact Hok.out.2 x hx
          · rw [List.mem_singleton] at hx; subst hx; exact ⟨by dsimp only; omega, by dsimp only; omega⟩⟩, by rw [HMl.out, List.length_append]; simp only [List.length_cons, List.length_nil]; omega, HP.out.1⟩⟩⟩
    · rw [hsp] at hcb HS1 ⊢
      obtain ⟨b, off, rfl, hcs⟩ := HS1.out.cells (by simp)
      have g0 := hcs 0 (by simp)
      have g1 := hcs 1 (by simp)
      rw [show [w', v][0] = w' from rfl, Nat.add_zero] at g0
      rw [show [w', v][1] = v from rfl] at g1
      have hvl := HWl.out v (by rw [hsp]; simp)
      have HBd := Lib.hid (HBad.out hrl)
      by_cases hw : w' = boxWord
      · have hv : 999 < numP v := by
          rcases hwv with h | h
          · exact absurd hw h
          · exact h.2
        have HNm : Hid (∀ V, Tab V → Calls Tryz.prog 53 #[.string (bs v)] V (Ret fun r w' => r = .int .i64 (numP v) ∧ Below V.heap.size V w')) := Lib.hid fun V hV => by
          have := number_any (bs v) V hV (by rw [bs_size]; omega)
          rw [bs_list] at this
          exact this
        subst hw
        have dq : ((bs boxWord).toList == [98, 111, 120]) = true := by rw [ByteArray.toList_eq]; rfl
        generalize numP v = n at *
        have d9 : decide (n ≤ 999) = false := decide_eq_false (by omega)
        clear hcs hvl hsp hrl HBad hwv hv
        gi_wp2_with fail
        refine ⟨trivial, (CallsIn.inRound l0 (callsIn_wide.2 (HNm.out _ HT1.out))).mono ?_⟩
        rintro _ W2 ⟨r, rfl, rfl, hB2⟩
        have HM2 := Lib.hid (HM1.out.go hB2)
        have HK2 := Lib.hid (HK1.out.trans (Keep2.of_below hB2 (by omega) h5N))
        clear hB2 HM1 HK1 HT1 HNm g0 g1
        have q0 : W2.cell? ⟨N, 0, none⟩ = some (.slice none 0 0) := (blk_cell HM2.out.r0).trans rfl
        have q1 : W2.cell? ⟨N + 1, 0, none⟩ = some (.int .i64 0) := (blk_cell HM2.out.r1).trans rfl
        have f0 : W2.frozen? ⟨N, 0, none⟩ = false := blk_frozen (i := 0) HM2.out.r0
        have f1 : W2.frozen? ⟨N + 1, 0, none⟩ = false := blk_frozen (i := 0) HM2.out.r1
        have HZ := Lib.hid (HM2.out.stop h5N HBd.out)
        clear HLi HGo HWl
        gi_wp2_with fail
        (try simp only [Exit.inBlock, Exit.then])
        exact ⟨fun l o _ h ho => (HK2.out.trans HZ.out.2).loops l o h ho, .inr ⟨rfl, HZ.out.1⟩⟩
      · have dq : ((bs w').toList == [98, 111, 120]) = false := by rw [ByteArray.toList_eq]; exact beq_false_of_ne hw
        clear hcs hvl hsp hrl HBad hwv hw
        have q0 : W1.cell? ⟨N, 0, none⟩ = some (.slice none 0 0) := (blk_cell HM1.out.r0).trans rfl
        have q1 : W1.cell? ⟨N + 1, 0, none⟩ = some (.int .i64 0) := (blk_cell HM1.out.r1).trans rfl
        have f0 : W1.frozen? ⟨N, 0, none⟩ = false := blk_frozen (i := 0) HM1.out.r0
        have f1 : W1.frozen? ⟨N + 1, 0, none⟩ = false := blk_frozen (i := 0) HM1.out.r1
        have HZ := Lib.hid (HM1.out.stop h5N HBd.out)
        clear HLi HGo HWl
        gi_wp2_with fail
        refine ⟨trivial, ?_⟩
        gi_wp2_with fail
        (try simp only [Exit.inBlock, Exit.then])
        exact ⟨fun l o _ h ho => (HK1.out.trans HZ.out.2).loops l o h ho, .inr ⟨rfl, HZ.out.1⟩⟩
    · have HBd := Lib.hid (HBad.out hrl)
      generalize (splitSp l).length = n at *
      have t2 : ((n : Int) == 2) = false := by simp; omega
      have t6 : ((n : Int) == 6) = false := by simp; omega
      clear hrl HBad h2 h6 hcb HS1
      have q0 : W1.cell? ⟨N, 0, none⟩ = some (.slice none 0 0) := (blk_cell HM1.out.r0).trans rfl
      have q1 : W1.cell? ⟨N + 1, 0, none⟩ = some (.int .i64 0) := (blk_cell HM1.out.r1).trans rfl
      have f0 : W1.frozen? ⟨N, 0, none⟩ = false := blk_frozen (i := 0) HM1.out.r0
      have f1 : W1.frozen? ⟨N + 1, 0, none⟩ = false := blk_frozen (i := 0) HM1.out.r1
      have HZ := Lib.hid (HM1.out.stop h5N HBd.out)
      clear HLi HGo HWl
      gi_wp2_with fail
      refine ⟨trivial, ?_⟩
      gi_wp2_with fail
      (try simp only [Exit.inBlock, Exit.then])
      exact ⟨fun l o _ h ho => (HK1.out.trans HZ.out.2).loops l o h ho, .inr ⟨rfl, HZ.out.1⟩⟩
end Go.Proofs.YtkpmmgeffbhngaaGreatDoor
