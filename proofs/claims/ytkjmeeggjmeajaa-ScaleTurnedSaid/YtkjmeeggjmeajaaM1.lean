/- most: what it computes, and small facts for its walk. The invariants of most's loops. -/
import Derived.Test.YtkjmeeggjmeajaaM0
namespace Go.Proofs.Ytkjmeeggjmeajaa
open Go.RowKit Go.Shelf

/-- how many tones begin above x and have y in their range -/
def cnt (ts : List Tone) (x y : Int) : Nat := ts.countP fun t => decide (x < t.1) && onT t y
/-- the ends that most tries, from the greatest on, and -1 -/
def endsOf (ts : List Tone) : List Int := (dedup ((-1) :: ts.map (·.2.1))).reverse
/-- the first of the candidates with the greatest number of tones -/
def stepT (ts : List Tone) (f : Int → Rg) (E : List Int) (x : Int) : List Rg := (E.filter fun y => decide (x < y)).map fun y => ((f y).1 + cnt ts x y, y)
def bestT (ts : List Tone) : Nat → Int → Rg
  | 0, _ => (0, -1)
  | j + 1, x => grB (0, -1) (stepT ts (bestT ts j) (endsOf ts) x)
def outT (ts : List Tone) : Nat → Int → List Int
  | 0, _ => []
  | j + 1, x => if bestT ts (j + 1) x = (0, -1) then [] else (bestT ts (j + 1) x).2 :: outT ts j (bestT ts (j + 1) x).2

theorem grB_cases (out : Rg) (l : List Rg) : grB out l = out ∨ grB out l ∈ l := by
  induction l generalizing out with
  | nil => exact .inl rfl
  | cons x l ih =>
    simp only [grB]
    rcases ih (if out.1 < x.1 then x else out) with h | h
    · rw [h]
      by_cases c : out.1 < x.1
      · rw [if_pos c]; exact .inr (by simp)
      · rw [if_neg c]; exact .inl rfl
    · exact .inr (List.mem_cons_of_mem _ h)
theorem bestT_in (ts : List Tone) (j : Nat) (x : Int) : bestT ts j x = (0, -1) ∨ (∃ y ∈ endsOf ts, x < y ∧ ∃ i, j = i + 1 ∧ bestT ts j x = ((bestT ts i y).1 + cnt ts x y, y)) := by
  cases j with
  | zero => exact .inl rfl
  | succ i =>
    show grB _ _ = _ ∨ _
    rcases grB_cases (0, -1) (stepT ts (bestT ts i) (endsOf ts) x) with h | h
    · exact .inl h
    · refine .inr ?_
      unfold stepT at h
      obtain ⟨y, hy, e⟩ := List.mem_map.1 h
      obtain ⟨h1, h2⟩ := List.mem_filter.1 hy
      exact ⟨y, h1, by simpa using h2, i, rfl, e.symm⟩
theorem cnt_le (ts : List Tone) (x y : Int) : cnt ts x y ≤ ts.length := List.countP_le_length
theorem bestT_bound (ts : List Tone) : ∀ (j : Nat) (x : Int), 0 ≤ (bestT ts j x).1 ∧ (bestT ts j x).1 ≤ (j : Int) * ts.length
  | 0, x => by simp [bestT]
  | j + 1, x => by
    rcases bestT_in ts (j + 1) x with h | ⟨y, _, _, i, hi, h⟩
    · rw [h]; exact ⟨Int.le_refl _, Int.mul_nonneg (by omega) (by omega)⟩
    · obtain rfl : i = j := by omega
      have ih := bestT_bound ts i y
      have hc := cnt_le ts x y
      rw [h]
      simp only [Int.natCast_add, Int.add_mul, Int.natCast_one, Int.one_mul]
      omega
theorem bestT_next (ts : List Tone) {j : Nat} {x : Int} (h : bestT ts (j + 1) x ≠ (0, -1)) : (bestT ts (j + 1) x).2 ∈ endsOf ts := by
  rcases bestT_in ts (j + 1) x with e | ⟨y, hy, _, _, _, e⟩
  · exact absurd e h
  · rw [e]; exact hy
theorem endsOf_inB {ts : List Tone} (hs : ByHi ts) (h0 : ∀ t ∈ ts, 0 ≤ t.2.1 ∧ t.2.1 ≤ 10000) : ∀ y ∈ endsOf ts, -1 ≤ y ∧ y ≤ 10000 := fun y hy => by
  unfold endsOf at hy
  have hord : ((-1) :: ts.map (·.2.1)).Pairwise (· ≤ ·) := List.pairwise_cons.2 ⟨fun a ha => by obtain ⟨t, ht, rfl⟩ := List.mem_map.1 ha; have := h0 t ht; omega, by rw [List.pairwise_map]; exact hs⟩
  rcases List.mem_cons.1 ((dedup_mem hord y).1 (List.mem_reverse.1 hy)) with rfl | h
  · omega
  · obtain ⟨t, ht, rfl⟩ := List.mem_map.1 h; have := h0 t ht; omega
theorem endsOf_neg {ts : List Tone} (hs : ByHi ts) (h0 : ∀ t ∈ ts, 0 ≤ t.2.1 ∧ t.2.1 ≤ 10000) : (-1 : Int) ∈ endsOf ts := by
  unfold endsOf
  have hord : ((-1) :: ts.map (·.2.1)).Pairwise (· ≤ ·) := List.pairwise_cons.2 ⟨fun a ha => by obtain ⟨t, ht, rfl⟩ := List.mem_map.1 ha; have := h0 t ht; omega, by rw [List.pairwise_map]; exact hs⟩
  exact List.mem_reverse.2 ((dedup_mem hord _).2 (by simp))
theorem endsOf_len (ts : List Tone) : (endsOf ts).length ≤ ts.length + 1 := by
  unfold endsOf; rw [List.length_reverse]
  have := dedup_len ((-1) :: ts.map (·.2.1)); simpa using this

theorem own_ne_kind {w : World} {base : Nat} {e : TypeId} {size : Nat} {v : Value} {n : Nat} {xs : List Value} (h : w.ownsRow base e size v n xs) {b : Nat} {cs : Array Value} {t : TypeId} {fr : Nat × Nat} (hb : w.heap[b]? = some (.cells cs t fr)) (hne : t ≠ e) : some b ≠ v.ownBlock := fun k => by
  rcases h.2 with ⟨rfl, _⟩ | ⟨g, cap, cur, rfl, _, hh, _⟩
  · simp [Value.ownBlock] at k
  · simp only [Value.ownBlock, Option.some.injEq] at k; subst k; rw [hb] at hh; cases hh; exact hne rfl
theorem own_ne_map {w : World} {base : Nat} {e : TypeId} {size : Nat} {v : Value} {n : Nat} {xs : List Value} (h : w.ownsRow base e size v n xs) {b : Nat} {o : Obj} (hb : w.heap[b]? = some o) (hc : o.isCells = false) : some b ≠ v.ownBlock := fun k => by
  obtain ⟨cs, t, fr, hh⟩ := own_cells h b k.symm
  rw [hb] at hh; cases hh; cases hc
theorem MapIs.obj {w : World} {b n : Nat} {f : Int × Int → Rg} (h : MapIs w b n f) : ∃ o, w.heap[b]? = some o ∧ o.isCells = false ∧ ∀ k, o ≠ .deferred k := by
  obtain ⟨D, ⟨es, clock, hb, _⟩, _⟩ := h
  exact ⟨_, hb, rfl, fun k e => by cases e⟩
theorem RowsAt.grown {α : Type} {enc : α → List Value} {k : Nat} {w w' : World} {A : Option Addr} {l : List α} (h : RowsAt enc k w A l) {row : Option Nat} (hg : w.grownBy w' row) (hr : ∀ r, row = some r → ∃ o : Obj, w.heap[r]? = some o ∧ o.isCells = false) : RowsAt enc k w' A l := fun i hi => by
  obtain ⟨b, off, hA, hc⟩ := h i hi
  refine ⟨b, off, hA, fun j v hv => ?_⟩
  have h1 := hc j v hv
  have hlt := block_lt_of_cell h1
  rw [World.cell?_of_block (a := ⟨b, off + i * k + j, none⟩) (hg.block b hlt (fun e => ?_))]
  · exact h1
  · obtain ⟨o, ho, hcc⟩ := hr b e.symm
    simp only [World.cell?, ho] at h1
    cases o <;> first | (cases hcc; done) | (simp at h1; done)

theorem own_setCell_kind {w : World} {base : Nat} {e : TypeId} {size : Nat} {v : Value} {n : Nat} {xs : List Value} (h : w.ownsRow base e size v n xs) {b : Nat} {cs : Array Value} {t : TypeId} {fr : Nat × Nat} (hb : w.heap[b]? = some (.cells cs t fr)) (hne : t ≠ e) (i : Nat) (u : Value) :
    (w.setCell ⟨b, i, none⟩ u).ownsRow base e size v n xs :=
  h.kept (row := some b) (grownBy_set' (World.grownBy.refl w (some b)) ⟨b, i, none⟩ rfl u) (.inr (fun k => own_ne_kind h hb hne k.symm))
theorem MapIs.setCell {w : World} {b n : Nat} {f : Int × Int → Rg} (h : MapIs w b n f) {p : Addr} (hne : b ≠ p.block) (u : Value) : MapIs (w.setCell p u) b n f :=
  h.kept (row := some p.block) (grownBy_set' (World.grownBy.refl w (some p.block)) p rfl u) (fun e => hne (by cases e; rfl))
def candT (ts : List Tone) : Nat → List Int → Int → List Rg
  | 0, _, _ => []
  | j + 1, l, x => stepT ts (bestT ts j) l x
theorem bestT_cand (ts : List Tone) (k : Nat) (x : Int) : bestT ts k x = grB (0, -1) (candT ts k (endsOf ts) x) := by cases k <;> rfl
theorem stepT_on {ts : List Tone} {f : Int → Rg} {l : List Int} {x y : Int} (h : x < y) : stepT ts f (l ++ [y]) x = stepT ts f l x ++ [((f y).1 + cnt ts x y, y)] := by simp [stepT, List.filter_append, h]
theorem stepT_off {ts : List Tone} {f : Int → Rg} {l : List Int} {x y : Int} (h : ¬ x < y) : stepT ts f (l ++ [y]) x = stepT ts f l x := by simp [stepT, List.filter_append, h]
theorem stepT_len (ts : List Tone) (f : Int → Rg) (l : List Int) (x : Int) : (stepT ts f l x).length ≤ l.length := by unfold stepT; rw [List.length_map]; exact List.length_filter_le _ _
theorem candT_len (ts : List Tone) (k : Nat) (l : List Int) (x : Int) : (candT ts k l x).length ≤ l.length := by cases k with | zero => simp [candT] | succ j => exact stepT_len _ _ _ _
theorem elemB : ElemT 107 2 16 (.agg #[.int .i64 0, .int .i64 0]) := ⟨by kernel_rfl, rfl, by omega, by omega⟩
theorem cnt_snoc_on {pre : List Tone} {t : Tone} {x y : Int} (h1 : x < t.1) (h2 : onT t y = true) : cnt (pre ++ [t]) x y = cnt pre x y + 1 := by simp [cnt, List.countP_append, h1, h2]
theorem cnt_snoc_off1 {pre : List Tone} {t : Tone} {x y : Int} (h1 : ¬ x < t.1) : cnt (pre ++ [t]) x y = cnt pre x y := by simp [cnt, List.countP_append, h1]
theorem cnt_snoc_off2 {pre : List Tone} {t : Tone} {x y : Int} (h2 : onT t y = false) : cnt (pre ++ [t]) x y = cnt pre x y := by simp [cnt, List.countP_append, h2]
theorem grown_of_below {w w' : World} (hB : Below w.heap.size w w') (row : Option Nat) : w.grownBy w' row := ⟨hB.os, hB.tape, hB.output, hB.size, fun k hk _ => hB.block k hk⟩
def CntI (x y p : Int) (b : Nat) (w0 w : World) (pre : List Tone) (W : World) : Prop :=
  W.heap[b]? = some (.cells #[.int .i64 y] 2 (0, 0)) ∧ W.heap[b + 1]? = some (.cells #[.int .i64 (p + cnt pre x y)] 3 (0, 0)) ∧ Below b w0 W ∧ w.heap.size ≤ W.heap.size ∧ KeepB b (b + 1 + 1) w W
theorem field107_0 (a b : Value) (W : World) : (Instr.field 107 (.agg #[a, b]) 0).run Try.prog W = .ok a W := by kernel_rfl
theorem field107_1 (a b : Value) (W : World) : (Instr.field 107 (.agg #[a, b]) 1).run Try.prog W = .ok b W := by kernel_rfl
theorem run_equalB (a b c d : Int) (w : World) : (Op.equalIn 10000 107 (.agg #[.int .i64 a, .int .i64 b]) (.agg #[.int .i64 c, .int .i64 d])).run Try.prog w = .ok (a == c && b == d) w := by
  have u2 := Try.underlying2
  have a2 := Try.isAgg2
  have z2 := Try.sizeOf2
  have u3 := Try.underlying3
  have a3 := Try.isAgg3
  have z3 := Try.sizeOf3
  have hS : Try.prog.underlying 107 = some (.struct (Try.prog.fieldsOf 107)) := by kernel_rfl
  have hp : Try.prog.stoodInHeld 107 = false := by kernel_rfl
  rw [show (10000 : Nat) = 9999 + 1 from rfl, run_equalIn_agg w 9999 107 _ _ hS hp]
  simp only [Program.fieldsOf, Try.underlying107]
  go_simp
  by_cases h1 : a = c <;> by_cases h2 : b = d <;> simp [h1, h2]
theorem run_neqB (a b c d : Int) (w : World) : (binOp .neq 107 (.agg #[.int .i64 a, .int .i64 b]) (.agg #[.int .i64 c, .int .i64 d])).run Try.prog w = .ok (.bool (neqRB a b c d)) w := by
  rw [run_neq_struct, run_equalB]; rfl
def mu4 (b : Nat) (w : World) : Nat := (intOf ((w.cell? ⟨b, 1, none⟩).getD undef)).toNat
theorem outT_stop {ts : List Tone} {j : Nat} {x : Int} (h : bestT ts j x = (0, -1)) : outT ts j x = [] := by
  cases j with
  | zero => rfl
  | succ j => show (if _ then _ else _) = _; rw [if_pos h]
theorem outT_go {ts : List Tone} {j : Nat} {x : Int} (h : bestT ts (j + 1) x ≠ (0, -1)) : outT ts (j + 1) x = (bestT ts (j + 1) x).2 :: outT ts j (bestT ts (j + 1) x).2 := by
  show (if _ then _ else _) = _; rw [if_neg h]
def EndsI (m : Nat) (w0 w : World) (pre : List Tone) (W : World) : Prop :=
  ∃ v, MapIs W m 0 (fun _ => (0, 0)) ∧ W.heap[m + 1 + 1]? = some (.cells #[v] 23 (0, 0)) ∧ W.ownsRow (m + 1) 2 1 v ((-1) :: pre.map (·.2.1)).length (((-1) :: pre.map (·.2.1)).flatMap encI) ∧
    Below m w0 W ∧ w.heap.size ≤ W.heap.size ∧ KeepB m (m + 1 + 1 + 1) w W
end Go.Proofs.Ytkjmeeggjmeajaa

namespace Go.Proofs.Ytkjmeeggjmeajaa
open Go.RowKit Go.Shelf
def MI1 (w w3 : World) (sb steps _g _cap : Nat) (E : List Int) (ts : List Tone) (a : Act) (W : World) : Prop :=
  a.tmps.size = 128 ∧ (∃ Ds : List Nat, a.defers = Ds.map mark ∧ Marks w.heap.size W Ds) ∧ a.tmps.getD 0 undef = .pointer (some ⟨sb, 0, none⟩) ∧ a.tmps.getD 1 undef = .int .i64 steps ∧ a.tmps.getD 6 undef = .map (some w.heap.size) ∧ a.tmps.getD 7 undef = .pointer (some ⟨w.heap.size + 1 + 1, 0, none⟩) ∧ a.tmps.getD 37 undef = .int .i64 ((steps : Int) + 1) ∧ ∃ (k n : Nat) (f : Int × Int → Rg), a.tmps.getD 38 undef = .int .i64 k ∧ k ≤ steps + 1 ∧ n ≤ k * 30 ∧ MapIs W w.heap.size n f ∧ (∀ j, j < k → ∀ y ∈ E, f (y, (j : Int)) = bestT ts j y) ∧ w3.grownBy W (some w.heap.size)
def MI2 (w w3 : World) (sb steps g cap : Nat) (E : List Int) (ts : List Tone) (k : Nat) (a : Act) (W : World) : Prop :=
  a.tmps.size = 128 ∧ (∃ Ds : List Nat, a.defers = Ds.map mark ∧ Marks w.heap.size W Ds) ∧ a.tmps.getD 0 undef = .pointer (some ⟨sb, 0, none⟩) ∧ a.tmps.getD 1 undef = .int .i64 steps ∧ a.tmps.getD 6 undef = .map (some w.heap.size) ∧ a.tmps.getD 7 undef = .pointer (some ⟨w.heap.size + 1 + 1, 0, none⟩) ∧ a.tmps.getD 37 undef = .int .i64 ((steps : Int) + 1) ∧ a.tmps.getD 38 undef = .int .i64 k ∧ a.tmps.getD 9 undef = .int .i64 k ∧ a.tmps.getD 41 undef = .slice (some ⟨g, 0, none⟩) E.length cap ∧ a.tmps.getD 42 undef = .int .i64 E.length ∧ ∃ (i n : Nat) (f : Int × Int → Rg), a.tmps.getD 43 undef = .int .i64 i ∧ i ≤ E.length ∧ n ≤ k * 30 + i ∧ MapIs W w.heap.size n f ∧ (∀ j, j < k → ∀ y ∈ E, f (y, (j : Int)) = bestT ts j y) ∧ (∀ y ∈ E.take i, f (y, (k : Int)) = bestT ts k y) ∧ w3.grownBy W (some w.heap.size)
def MI3 (w _w3 : World) (sb steps g cap : Nat) (E : List Int) (ts : List Tone) (k i : Nat) (x : Int) (Wb : World) (a : Act) (W : World) : Prop :=
  a.tmps.size = 128 ∧ (∃ Ds : List Nat, a.defers = Ds.map mark ∧ Marks w.heap.size W Ds) ∧ a.tmps.getD 0 undef = .pointer (some ⟨sb, 0, none⟩) ∧ a.tmps.getD 1 undef = .int .i64 steps ∧ a.tmps.getD 6 undef = .map (some w.heap.size) ∧ a.tmps.getD 7 undef = .pointer (some ⟨w.heap.size + 1 + 1, 0, none⟩) ∧ a.tmps.getD 37 undef = .int .i64 ((steps : Int) + 1) ∧ a.tmps.getD 38 undef = .int .i64 k ∧ a.tmps.getD 9 undef = .int .i64 k ∧ a.tmps.getD 41 undef = .slice (some ⟨g, 0, none⟩) E.length cap ∧ a.tmps.getD 42 undef = .int .i64 E.length ∧ a.tmps.getD 43 undef = .int .i64 i ∧ a.tmps.getD 11 undef = .pointer (some ⟨Wb.heap.size, 0, none⟩) ∧ a.tmps.getD 49 undef = .slice (some ⟨g, 0, none⟩) E.length cap ∧ a.tmps.getD 50 undef = .int .i64 E.length ∧ ∃ (q : Nat) (v : Value) (L : List Rg), a.tmps.getD 51 undef = .int .i64 q ∧ a.tmps.getD 12 undef = v ∧ q ≤ E.length ∧ L = (0, -1) :: candT ts k (E.take q) x ∧ W.ownsRow (Wb.heap.size + 1) 107 2 v L.length (L.flatMap encR) ∧ W.heap[Wb.heap.size]? = some (.cells #[.int .i64 x] 2 (0, 0)) ∧ Below Wb.heap.size Wb W
def mu1 (steps : Nat) (a : Act) : Nat := steps + 1 - (intOf (a.tmps.getD 38 undef)).toNat
def mu2 (E : List Int) (a : Act) : Nat := E.length - (intOf (a.tmps.getD 43 undef)).toNat
def mu3 (E : List Int) (a : Act) : Nat := E.length - (intOf (a.tmps.getD 51 undef)).toNat
end Go.Proofs.Ytkjmeeggjmeajaa
