/- Loops over an iterator whose memory lies in blocks that the body leaves alone: one law for the walks of this seat. -/
import Derived.Test.YtkjmeeggjmeajaaB8
import Derived.Deep.MidRow
import Derived.ArgAppend
import Derived.Deep.RegionLawGrows
namespace Go.Proofs.Ytkjmeeggjmeajaa
open Go.RowKit Go.Shelf

theorem calls_of_wp_marks {f : FuncId} {fn : Func} {c : Code} {args : Array Value} {w : World} {R : Ending → World → Prop} (hf : Try.prog.funcs[f]? = some fn) (hb : fn.body = some c)
    (h : c.wp Try.prog (bodyPostM Fence.wide 10 Try.prog fn R) { tmps := args ++ Array.replicate (fn.ntmps - args.size) undef, defers := [] } w) : Calls Try.prog f args w R :=
  callsIn_wide.1 (callsIn_of_wp_marks (n := 10) hf hb trivial (wpIn_wide.2 h))

theorem leave_mark {fn : Func} {R : Ending → World → Prop} {tmps : Array Value} {D : Nat} {W : World} (v : Value) (hK : W.heap[D]? = some (.deferred (some [])))
    (hres : (results fn tmps).run Try.prog (W.putObj D (.deferred none)) = .ok v (W.putObj D (.deferred none))) (hR : R (.returned v) (W.putObj D (.deferred none))) :
    bodyPostM Fence.wide 10 Try.prog fn R .ret { tmps, defers := [{ target := .collected D, args := #[] }] } W :=
  ⟨by simp, .inl ⟨_, _, rfl, run_takeDeferred hK, ⟨v, hres, hR⟩⟩⟩
theorem leave_plain {fn : Func} {R : Ending → World → Prop} {tmps : Array Value} {W : World} (v : Value)
    (hres : (results fn tmps).run Try.prog W = .ok v W) (hR : R (.returned v) W) : bodyPostM Fence.wide 10 Try.prog fn R .ret { tmps, defers := [] } W :=
  ⟨v, hres, hR⟩

/-- what a step of the body may do to memory: blocks that are no cells lie from B on as they lay; what the iterator reads lies as it lay -/
structure Stp (B n0 bx : Nat) (W W' : World) : Prop where
  kf : KeepsFrom B W W'
  kb : KeepB n0 bx W W'
theorem Stp.refl (B n0 bx : Nat) (W : World) : Stp B n0 bx W W := ⟨KeepsFrom.refl _ _, KeepB.refl _ _ _⟩
theorem Stp.trans {B n0 bx : Nat} {X Y Z : World} (h : Stp B n0 bx X Y) (k : Stp B n0 bx Y Z) : Stp B n0 bx X Z := ⟨h.kf.trans k.kf, h.kb.trans k.kb⟩
theorem Stp.below {B n0 bx : Nat} {X Y Z : World} (h : Stp B n0 bx X Y) (hb : Below Y.heap.size Y Z) (h1 : n0 ≤ X.heap.size) (h2 : bx < X.heap.size) : Stp B n0 bx X Z :=
  ⟨h.kf.trans ⟨hb.size, fun k _ _ hk _ => (hb.block k (blk_lt hk)).trans hk⟩, fun b hb' => (hb.block b (h.kb.lt h1 h2 hb')).trans (h.kb b hb')⟩
theorem Stp.alloc {B n0 bx : Nat} {X Y : World} (h : Stp B n0 bx X Y) (o : Obj) (h1 : n0 ≤ X.heap.size) (h2 : bx < X.heap.size) : Stp B n0 bx X (Y.alloc o) := h.below ((Below.refl _ _).alloc (Nat.le_refl _) o) h1 h2
theorem Stp.drew {B n0 bx : Nat} {X Y : World} (h : Stp B n0 bx X Y) : Stp B n0 bx X Y.drew := ⟨h.kf.trans ((KeepsOthers.drew Y).from _), h.kb⟩
theorem Stp.setCell {B n0 bx : Nat} {X Y : World} (h : Stp B n0 bx X Y) {p : Addr} (h1 : n0 ≤ p.block) (h2 : p.block ≠ bx) (u : Value) : Stp B n0 bx X (Y.setCell p u) :=
  ⟨h.kf.trans ((KeepsOthers.setCell _ _ _).from _), fun b hb => (Below.heap_setCell Y p u b (by omega)).trans (h.kb b hb)⟩
theorem Stp.grown {B n0 bx : Nat} {X Y Z : World} {row : Option Nat} (h : Stp B n0 bx X Y) (hg : Y.grownBy Z row) (hr : ∀ r, row = some r → n0 ≤ r ∧ r ≠ bx ∧ ∃ cs t fr, Y.heap[r]? = some (.cells cs t fr)) (h1 : n0 ≤ X.heap.size) (h2 : bx < X.heap.size) : Stp B n0 bx X Z :=
  ⟨h.kf.trans ⟨hg.size, fun k o _ hk ho => (hg.block k (blk_lt hk) (fun e => by obtain ⟨_, _, cs, t, fr, hc⟩ := hr k e.symm; rw [hk] at hc; cases hc; cases ho)).trans hk⟩,
   fun b hb => (hg.block b (h.kb.lt h1 h2 hb) (fun e => by obtain ⟨_, _, _⟩ := hr b e.symm; omega)).trans (h.kb b hb)⟩
theorem own_cells {w : World} {base : Nat} {e : TypeId} {size : Nat} {v : Value} {n : Nat} {xs : List Value} (h : w.ownsRow base e size v n xs) : ∀ r, v.ownBlock = some r → ∃ cs t fr, w.heap[r]? = some (.cells cs t fr) := fun r e => by
  rcases h.2 with ⟨rfl, _⟩ | ⟨g, cap, cur, rfl, _, hh, _⟩
  · simp [Value.ownBlock] at e
  · simp only [Value.ownBlock, Option.some.injEq] at e; subst e; exact ⟨_, _, _, hh⟩

/-- what an invariant has to abide: new blocks, and turns of blocks that are no cells, from B on -/
theorem blk_own {B b : Nat} {W W' : World} {row : Option Nat} {cs : Array Value} {t : TypeId} {fr : Nat × Nat} (h : W.heap[b]? = some (.cells cs t fr)) (hg : W.grownBy W' row) (hr : ∀ r, row = some r → B ≤ r ∧ ∃ o : Obj, W.heap[r]? = some o ∧ o.isCells = false) :
    W'.heap[b]? = some (.cells cs t fr) := blk_grown hg h (fun e => by obtain ⟨_, o, ho, hc⟩ := hr b e.symm; rw [h] at ho; cases ho; cases hc)
theorem row_own {B base : Nat} {W W' : World} {row : Option Nat} {e : TypeId} {size : Nat} {v : Value} {n : Nat} {xs : List Value} (h : W.ownsRow base e size v n xs) (hg : W.grownBy W' row)
    (hr : ∀ r, row = some r → B ≤ r ∧ ∃ o : Obj, W.heap[r]? = some o ∧ o.isCells = false) : W'.ownsRow base e size v n xs := h.kept hg (by
  cases hv : v.ownBlock with
  | none => exact .inl rfl
  | some g => exact .inr (fun e => by
      obtain ⟨cs, t, fr, hc⟩ := own_cells h g hv
      obtain ⟨_, o, ho, hcc⟩ := hr g e.symm
      rw [hc] at ho; cases ho; cases hcc))
theorem below_own {B B0 : Nat} {w0 W W' : World} {row : Option Nat} (h : Below B0 w0 W) (hB : B0 ≤ B) (hs : B0 ≤ w0.heap.size) (hg : W.grownBy W' row) (hr : ∀ r, row = some r → B ≤ r ∧ ∃ o : Obj, W.heap[r]? = some o ∧ o.isCells = false) : Below B0 w0 W' :=
  h.grown hg (Nat.le_trans hs h.size) (fun k e => by have := (hr k e).1; omega)

theorem wp_range {α : Type} {g : Operand} {ps : Array Tmp} {assign body : Code} {Q : Exit → Act → World → Prop} {a : Act} {w : World}
    {gf : Nat} {lb : Array Value} (hg : a.eval g = .func (.func gf) #[] lb) (eg : ∀ args w, (callFunc gf args).run Try.prog w = .ok (.enter gf args) w)
    {encs : α → Array Value} (n0 bx : Nat) (h1 : n0 ≤ w.heap.size) (h2 : bx < w.heap.size) {xs : List α} (hseq : SeqStopsK Fence.wide 9 Try.prog gf lb encs (KeepB n0 bx) (fun ys => ys = xs) (fun pre => pre <+: xs) xs.length w)
    (hps : ∀ x, (encs x).size = ps.size)
    (I : List α → World → Prop) (Ix : Code → List α → World → Prop) (hI : OwnFrom w.heap.size I) (hIx : ∀ c, OwnFrom w.heap.size (Ix c)) (h0 : I [] w) (Ax : α → Act → World → Prop) (hAx : ∀ x a', OwnFrom w.heap.size (fun (_ : Unit) W => Ax x a' W))
    (hassign : ∀ (l : Nat) (pre : List α) (x : α) (W : World) (K : Act → World → Prop), I pre W → (∀ a' W', KeepsFrom w.heap.size W W' → KeepB n0 bx W W' → I pre W' → Ax x a' W' → K a' W') →
      assign.wpIn (Fence.wide.inRound l) 8 Try.prog (Exit.then K (fun _ _ _ => False)) { tmps := (ps.zip (encs x)).foldl (fun t (p, v) => t.setIfInBounds p v) a.tmps, defers := [] } W)
    (hbody : ∀ (l : Nat) (pre : List α) (x : α) (a' : Act) (W : World), w.heap.size ≤ l → (∃ r, W.heap[l]? = some (.loop r)) → I pre W → Ax x a' W → pre.length < xs.length → body.wpIn (Fence.wide.inRound l) 8 Try.prog (ownPostG w.heap.size (KeepB n0 bx) I Ix (pre ++ [x]) W) a' W)
    (hdone : ∀ (D : Nat) (W : World), w.heap.size ≤ D → I xs W → W.heap[D]? = some (.deferred (some [])) → Q .normal { a with defers := { target := .collected D, args := #[] } :: a.defers } W)
    (hstop : ∀ (D : Nat) (c : Code) (pre : List α) (W : World), w.heap.size ≤ D → pre <+: xs → Ix c pre W → W.heap[D]? = some (.deferred (some [])) → c.wp Try.prog Q { a with defers := { target := .collected D, args := #[] } :: a.defers } W) :
    (Code.rangeFunc g ps assign body).wp Try.prog Q a w :=
  wpIn_wide.1 (wpIn_rangeFunc_ownH (n := 10) rfl (by omega) hg trivial eg hseq (fun h k => h.trans k) (fun W l o o' hl a b c => keepB_b h1 h2 W l o o' hl a b c) (Below.refl _ _) hps I Ix hI hIx h0 Ax hAx hassign hbody
    (fun D ys W hD e hi hk => by subst e; exact hdone D W hD hi hk) (fun D c pre W hD hp hi hk => wpIn_wide.2 (hstop D c pre W hD hp hi hk)))

/-- the same, for one loop variable (temporary p) that is boxed (its address in temporary q) -/
theorem wp_range1 {α : Type} {g : Operand} {p q : Tmp} {assign body : Code} {Q : Exit → Act → World → Prop} {a : Act} {w : World}
    {gf : Nat} {lb : Array Value} (hg : a.eval g = .func (.func gf) #[] lb) (eg : ∀ args w, (callFunc gf args).run Try.prog w = .ok (.enter gf args) w)
    {enc1 : α → Value} (cellsOf : α → Array Value) (T : TypeId) (n0 bx : Nat) (h1 : n0 ≤ w.heap.size) (h2 : bx < w.heap.size) {xs : List α} (hseq : SeqStopsK Fence.wide 9 Try.prog gf lb (fun x => #[enc1 x]) (KeepB n0 bx) (fun ys => ys = xs) (fun pre => pre <+: xs) xs.length w)
    (I : List α → World → Prop) (Ix : Code → List α → World → Prop) (hI : OwnFrom w.heap.size I) (hIx : ∀ c, OwnFrom w.heap.size (Ix c)) (h0 : I [] w) (hsz : ∀ pre W, I pre W → w.heap.size ≤ W.heap.size)
    (hassign : ∀ (l : Nat) (x : α) (W : World) (K : Act → World → Prop), w.heap.size ≤ W.heap.size → K { tmps := (a.tmps.setIfInBounds p (enc1 x)).setIfInBounds q (.pointer (some ⟨W.heap.size, 0, none⟩)), defers := [] } (W.alloc (.cells (cellsOf x) T)) →
      assign.wpIn (Fence.wide.inRound l) 8 Try.prog (Exit.then K (fun _ _ _ => False)) { tmps := a.tmps.setIfInBounds p (enc1 x), defers := [] } W)
    (hbody : ∀ (l : Nat) (pre : List α) (x : α) (Bx : Nat) (W : World), w.heap.size ≤ Bx → W.heap[Bx]? = some (.cells (cellsOf x) T (0, 0)) → I pre W → pre.length < xs.length →
      body.wpIn (Fence.wide.inRound l) 8 Try.prog (ownPostG w.heap.size (KeepB n0 bx) I Ix (pre ++ [x]) W) { tmps := (a.tmps.setIfInBounds p (enc1 x)).setIfInBounds q (.pointer (some ⟨Bx, 0, none⟩)), defers := [] } W)
    (hdone : ∀ (D : Nat) (W : World), w.heap.size ≤ D → I xs W → W.heap[D]? = some (.deferred (some [])) → Q .normal { a with defers := { target := .collected D, args := #[] } :: a.defers } W)
    (hstop : ∀ (D : Nat) (c : Code) (pre : List α) (W : World), w.heap.size ≤ D → pre <+: xs → Ix c pre W → W.heap[D]? = some (.deferred (some [])) → c.wp Try.prog Q { a with defers := { target := .collected D, args := #[] } :: a.defers } W) :
    (Code.rangeFunc g #[p] assign body).wp Try.prog Q a w :=
  wp_range hg eg n0 bx h1 h2 hseq (fun _ => rfl) I Ix hI hIx h0
    (fun x a' W => ∃ Bx, w.heap.size ≤ Bx ∧ W.heap[Bx]? = some (.cells (cellsOf x) T (0, 0)) ∧ a' = { tmps := (a.tmps.setIfInBounds p (enc1 x)).setIfInBounds q (.pointer (some ⟨Bx, 0, none⟩)), defers := [] })
    (fun _ _ _ _ _ _ hs hg hr => by obtain ⟨Bx, hlt, hb, e⟩ := hs; exact ⟨Bx, hlt, blk_own hb hg hr, e⟩)
    (fun l pre x W K hi hK => by
      have h := hassign l x W K (hsz _ _ hi) (hK _ _ ((KeepsOthers.alloc _ _).from _) ((KeepB.refl _ _ _).alloc (Nat.le_trans h1 (hsz _ _ hi)) (Nat.lt_of_lt_of_le h2 (hsz _ _ hi)) _) (hI.alloc _ hi) ⟨W.heap.size, hsz _ _ hi, heap_alloc_new _ _, rfl⟩)
      simpa using h)
    (fun l pre x a' W _ _ hi hax hlt => by obtain ⟨Bx, hB, hb, rfl⟩ := hax; exact hbody l pre x Bx W hB hb hi hlt)
    hdone hstop

/-- an element type of the seat: its size in cells and its zero -/
structure ElemT (e : TypeId) (size bytes : Nat) (z : Value) : Prop where
  info : (Try.prog.info? e).map (fun i => (i.zero, i.size, i.bytes)) = some (some z, size, bytes)
  zsz : z.cells.size = size
  pos : 0 < size
  small : bytes ≤ 100
theorem elemI2 : ElemT 2 1 8 (.int .i64 0) := ⟨by kernel_rfl, rfl, by omega, by omega⟩
theorem elemI3 : ElemT 3 1 8 (.int .i64 0) := ⟨by kernel_rfl, rfl, by omega, by omega⟩
theorem elemR : ElemT 50 2 16 (.agg #[.int .i64 0, .int .i64 0]) := ⟨by kernel_rfl, rfl, by omega, by omega⟩
theorem elemT : ElemT 95 3 24 (.agg #[.int .i64 0, .int .i64 0, .int .i64 0]) := ⟨by kernel_rfl, rfl, by omega, by omega⟩

theorem push_flat {α : Type} {enc : α → List Value} (l : List α) (x : α) : l.flatMap enc ++ enc x = (l ++ [x]).flatMap enc := by simp
theorem news_new {α : Type} {enc : α → List Value} {w : World} {x : α} {B : Nat} {cs : Array Value} {t : TypeId} {fr : Nat × Nat} (hB : w.heap[B]? = some (.cells cs t fr)) (hcs : cs.toList = enc x) :
    ∀ j u, (enc x)[j]? = some u → w.cell? ((⟨B, 0, none⟩ : Addr).add j) = some u := by rw [← hcs]; exact World.news_of_block hB

section
variable {α : Type} {enc : α → List Value} {e : TypeId} {size bytes : Nat} {z : Value}
theorem wpListIn_push {F : Fence} {n : Nat} (w : World) {ops : Array Oper} {rest : List Oper} {o : Oper} {a : Act} {Q : Exit → Act → World → Prop}
    (hg : o.guard = none) (s x : Operand) (t : TypeId) (hop : o.op = Op.call { callee := Callee.builtin Builtin.append, args := #[s, x], argTypes := #[t, t] })
    (E : ElemT e size bytes z) (hk : ∀ x, (enc x).length = size) (h1 : ∀ x, ∀ u ∈ enc x, u.oneCell' = true) (ht : Try.prog.underlying t = some (.slice e)) (base : Nat)
    (v : Value) (l : List α) (hs : a.eval s = v) (hown : w.ownsRow base e size v l.length (l.flatMap enc)) (hlen : l.length ≤ 100000) (y : α) (B : Nat) (hx : a.eval x = .slice (some ⟨B, 0, none⟩) 1 1)
    (cs : Array Value) (hcs : cs.toList = enc y) (tt : TypeId) (fr : Nat × Nat) (hB : w.heap[B]? = some (.cells cs tt fr)) (b3 : base ≤ w.heap.size)
    (hK : ∀ g cap w', w'.ownsRow base e size (.slice (some ⟨g, 0, none⟩) (l.length + 1) cap) (l.length + 1) ((l ++ [y]).flatMap enc) → w.grownBy w' v.ownBlock → wpListIn F n Try.prog ops Q rest (a.put o.dst (.slice (some ⟨g, 0, none⟩) (l.length + 1) cap)) w') :
    wpListIn F n Try.prog ops Q (o :: rest) a w := by
  obtain ⟨i0, hi, hz0, hz1, hz2⟩ := info_parts E.info
  have hb : (l.length + 1) * bytes ≤ 100001 * 100 := Nat.mul_le_mul (by omega) E.small
  refine wpListIn_append_own w hg s x t hop base e i0 z size bytes ht hi hz0 hz1 hz2 E.zsz E.pos v l.length _ hs hown ⟨B, 0, none⟩ 1 1 (enc y) hx (by rw [hk]; omega) (news_new hB hcs) (h1 y) (by simp only [maxLen]; omega) (by omega) b3 ?_
  intro v' w' hown' hgrow _
  obtain ⟨g, cap, rfl⟩ := ownsRow_succ hown'
  exact hK g cap w' (by rw [← push_flat]; exact hown') hgrow
theorem wpList_push (w : World) {ops : Array Oper} {rest : List Oper} {o : Oper} {a : Act} {Q : Exit → Act → World → Prop}
    (hg : o.guard = none) (s x : Operand) (t : TypeId) (hop : o.op = Op.call { callee := Callee.builtin Builtin.append, args := #[s, x], argTypes := #[t, t] })
    (E : ElemT e size bytes z) (hk : ∀ x, (enc x).length = size) (h1 : ∀ x, ∀ u ∈ enc x, u.oneCell' = true) (ht : Try.prog.underlying t = some (.slice e)) (base : Nat)
    (v : Value) (l : List α) (hs : a.eval s = v) (hown : w.ownsRow base e size v l.length (l.flatMap enc)) (hlen : l.length ≤ 100000) (y : α) (B : Nat) (hx : a.eval x = .slice (some ⟨B, 0, none⟩) 1 1)
    (cs : Array Value) (hcs : cs.toList = enc y) (tt : TypeId) (fr : Nat × Nat) (hB : w.heap[B]? = some (.cells cs tt fr)) (b3 : base ≤ w.heap.size)
    (hK : ∀ g cap w', w'.ownsRow base e size (.slice (some ⟨g, 0, none⟩) (l.length + 1) cap) (l.length + 1) ((l ++ [y]).flatMap enc) → w.grownBy w' v.ownBlock → wpList Try.prog ops Q rest (a.put o.dst (.slice (some ⟨g, 0, none⟩) (l.length + 1) cap)) w') :
    wpList Try.prog ops Q (o :: rest) a w := by
  obtain ⟨i0, hi, hz0, hz1, hz2⟩ := info_parts E.info
  have hb : (l.length + 1) * bytes ≤ 100001 * 100 := Nat.mul_le_mul (by omega) E.small
  refine wpList_append_own w hg s x t hop base e i0 z size bytes ht hi hz0 hz1 hz2 E.zsz E.pos v l.length _ hs hown ⟨B, 0, none⟩ 1 1 (enc y) hx (by rw [hk]; omega) (news_new hB hcs) (h1 y) (by simp only [maxLen]; omega) (by omega) b3 ?_
  intro v' w' hown' hgrow _
  obtain ⟨g, cap, rfl⟩ := ownsRow_succ hown'
  exact hK g cap w' (by rw [← push_flat]; exact hown') hgrow
end
theorem oneI (x : Int) : ∀ u ∈ encI x, u.oneCell' = true := by simp [encI, Value.oneCell']
theorem oneR (x : Int × Int) : ∀ u ∈ encR x, u.oneCell' = true := by simp [encR, Value.oneCell']
theorem oneT (x : Tone) : ∀ u ∈ encT x, u.oneCell' = true := by simp [encT, Value.oneCell']
theorem own_apart {w : World} {base base' : Nat} {e e' : TypeId} {size size' : Nat} {v v' : Value} {n n' : Nat} {xs xs' : List Value} (h : w.ownsRow base e size v n xs) (h' : w.ownsRow base' e' size' v' n' xs') (hne : e ≠ e') :
    v.ownBlock = none ∨ v.ownBlock ≠ v'.ownBlock := by
  rcases h.2 with ⟨rfl, _⟩ | ⟨g, cap, cur, rfl, _, hh, _⟩
  · exact .inl rfl
  · right
    rcases h'.2 with ⟨rfl, _⟩ | ⟨g', cap', cur', rfl, _, hh', _⟩
    · simp [Value.ownBlock]
    · simp only [Value.ownBlock]
      intro e1
      injection e1 with e1
      subst e1
      rw [hh] at hh'; injection hh' with hh'; injection hh' with _ h2; exact hne h2
/-- an append behind a new block, and the store of its result into block b0: another block lies as it lay -/
theorem blk_push {W W1 : World} {o : Obj} {row : Option Nat} {b b0 i : Nat} {u : Value} {o' : Obj} (h : W.heap[b]? = some o') (hg : (W.alloc o).grownBy W1 row) (hne : some b ≠ row) (hb : b ≠ b0) :
    (W1.setCell ⟨b0, i, none⟩ u).heap[b]? = some o' := blk_far (blk_grown hg (blk_alloc h o) hne) hb u
theorem row_push {W W1 : World} {o : Obj} {row : Option Nat} {b0 i : Nat} {u : Value} {base : Nat} {e : TypeId} {size : Nat} {v : Value} {n : Nat} {xs : List Value} (h : W.ownsRow base e size v n xs) (hg : (W.alloc o).grownBy W1 row)
    (hne : v.ownBlock = none ∨ v.ownBlock ≠ row) (hb : b0 < base) : (W1.setCell ⟨b0, i, none⟩ u).ownsRow base e size v n xs := ownsRow_setCell_below ((h.alloc o).kept hg hne) hb u
theorem heap_alloc_at (w : World) (o : Obj) {n : Nat} (h : w.heap.size = n) : (w.alloc o).heap[n]? = some o := by subst h; exact heap_alloc_new w o
theorem own_ne_blk {w : World} {base : Nat} {e : TypeId} {size : Nat} {v : Value} {n : Nat} {xs : List Value} (h : w.ownsRow base e size v n xs) {b : Nat} {cs : Array Value} {t : TypeId} {fr : Nat × Nat} (hb : w.heap[b]? = some (.cells cs t fr)) (hne : t ≠ e) : some b ≠ v.ownBlock := by
  rcases h.2 with ⟨rfl, _⟩ | ⟨g, cap, cur, rfl, _, hh, _⟩
  · simp [Value.ownBlock]
  · simp only [Value.ownBlock]
    intro e1
    injection e1 with e1
    subst e1
    rw [hh] at hb; injection hb with hb; injection hb with _ h2; exact hne h2.symm
theorem Stp.push {B n0 bx : Nat} {X Y Z : World} {o : Obj} {base : Nat} {e : TypeId} {size : Nat} {v : Value} {n : Nat} {xs : List Value} (h : Stp B n0 bx X Y) (hown : Y.ownsRow base e size v n xs) (hg : (Y.alloc o).grownBy Z v.ownBlock)
    (h1 : n0 ≤ X.heap.size) (h2 : bx < X.heap.size) (h3 : n0 ≤ base) (h4 : bx < base) {b0 i : Nat} (h5 : n0 ≤ b0) (h6 : b0 ≠ bx) (u : Value) : Stp B n0 bx X (Z.setCell ⟨b0, i, none⟩ u) :=
  ((h.alloc o h1 h2).grown hg (fun r e => ⟨by have := own_base hown r e; omega, by have := own_base hown r e; omega, own_cells (hown.alloc o) r e⟩) h1 h2).setCell h5 h6 u
theorem below_push {B0 : Nat} {w0 Y Z : World} {o : Obj} {base : Nat} {e : TypeId} {size : Nat} {v : Value} {n : Nat} {xs : List Value} (h : Below B0 w0 Y) (hs : B0 ≤ w0.heap.size) (hown : Y.ownsRow base e size v n xs) (hg : (Y.alloc o).grownBy Z v.ownBlock)
    (h3 : B0 ≤ base) {b0 i : Nat} (h5 : B0 ≤ b0) (u : Value) : Below B0 w0 (Z.setCell ⟨b0, i, none⟩ u) :=
  ((h.alloc (Nat.le_trans hs h.size) o).grown hg (by have := h.size; simp; omega) (fun r e => by have := own_base hown r e; omega)).setCell h5 u
theorem len_snoc {α : Type} (l : List α) (x : α) : (l ++ [x]).length = l.length + 1 := by simp
theorem cell_put {W : World} {D : Nat} {o o' : Obj} {a : Addr} {v : Value} (h : W.cell? a = some v) (hK : W.heap[D]? = some o) (hc : o.isCells = false) : (W.putObj D o').cell? a = some v :=
  (World.cell?_of_block (World.putObj_heap_other (fun e => by
    simp only [World.cell?, e, hK] at h
    cases o <;> first | (simp [Obj.isCells] at hc; done) | (simp at h; done)))).trans h
theorem rows_put {α : Type} {enc : α → List Value} {k : Nat} {W : World} {A : Option Addr} {l : List α} {D : Nat} {o o' : Obj} (h : RowsAt enc k W A l) (hK : W.heap[D]? = some o) (hc : o.isCells = false) : RowsAt enc k (W.putObj D o') A l := fun i hi => by
  obtain ⟨b, off, hA, hv⟩ := h i hi
  exact ⟨b, off, hA, fun j v hj => cell_put (hv j v hj) hK hc⟩
theorem below_put {m D : Nat} {w0 W : World} {o : Obj} (h : Below m w0 W) (hD : m ≤ D) (o' : Obj) (_hK : W.heap[D]? = some o) : Below m w0 (W.putObj D o') :=
  h.trans ⟨rfl, rfl, rfl, by simp, fun k hk => World.putObj_heap_other (by omega)⟩
theorem results_cell_mid {fn : Func} {p : Tmp} {ty : TypeId} (h : fn.results = #[.cell p ty]) (tmps : Array Value) (w : World) (g : Nat) (cs : List Value) (d : TypeDesc)
    (hp : tmps.getD p undef = .pointer (some ⟨g, 0, none⟩)) (hc : w.rangeAt g 0 cs)
    (hu : Try.prog.underlying ty = some d) (hd : d.isRow = true) (hi : (Try.prog.info? ty).map (·.size) = some cs.length) :
    (results fn tmps).run Try.prog w = .ok (.agg cs.toArray) w := by
  have hp' : tmps[p]?.getD undef = .pointer (some ⟨g, 0, none⟩) := by simpa using hp
  simp [results, h, hp', asAddr, run_loadVar_mid w g 0 ty cs d hc hu hd hi]
theorem setCells_far {b k : Nat} (hk : k ≠ b) : ∀ (vs : List Value) (o : Nat) (w : World), (w.setCells b o vs).heap[k]? = w.heap[k]?
  | [], _, _ => rfl
  | v :: r, o, w => (setCells_far hk r (o + 1) _).trans (Below.heap_setCell w ⟨b, o, none⟩ v k hk)
theorem below_setCells {B b : Nat} (hb : B ≤ b) {w0 : World} : ∀ (vs : List Value) (o : Nat) (w : World), Below B w0 w → Below B w0 (w.setCells b o vs)
  | [], _, _, h => h
  | v :: r, o, _, h => below_setCells hb r (o + 1) _ (h.setCell (p := ⟨b, o, none⟩) hb v)
theorem flatMap_inv {α : Type} {enc : α → List Value} {k : Nat} (hk : ∀ x, (enc x).length = k) : ∀ (l : List α) (j : Nat) (u : Value), (l.flatMap enc)[j]? = some u → ∃ (i r : Nat) (hi : i < l.length), j = i * k + r ∧ (enc l[i])[r]? = some u
  | [], j, u, h => by simp at h
  | x :: l, j, u, h => by
    rw [List.flatMap_cons] at h
    by_cases hj : j < k
    · rw [List.getElem?_append_left (by rw [hk]; exact hj)] at h
      exact ⟨0, j, by simp, by simp, by simpa using h⟩
    · rw [List.getElem?_append_right (by rw [hk]; omega), hk] at h
      obtain ⟨i, r, hi, e, hr⟩ := flatMap_inv hk l (j - k) u h
      exact ⟨i + 1, r, by simpa using hi, by rw [Nat.succ_mul]; omega, by simpa using hr⟩
theorem RowsAt.olds {α : Type} {enc : α → List Value} {k : Nat} {w : World} {A : Option Addr} {l : List α} (hk : ∀ x, (enc x).length = k) (h : RowsAt enc k w A l) : ∀ b, A = some b → ∀ j u, (l.flatMap enc)[j]? = some u → w.cell? (b.add j) = some u := fun b hA j u hj => by
  obtain ⟨i, r, hi, e, hr⟩ := flatMap_inv hk l j u hj
  obtain ⟨b', off, hA', hc⟩ := h i hi
  rw [hA] at hA'
  injection hA' with e'
  subst e'
  have := hc r u hr
  rw [Addr.add_mid, e, ← Nat.add_assoc]; exact this
theorem flatMap_len {α : Type} {enc : α → List Value} {k : Nat} (hk : ∀ x, (enc x).length = k) : ∀ l : List α, (l.flatMap enc).length = l.length * k
  | [] => by simp
  | x :: l => by rw [List.flatMap_cons, List.length_append, hk, flatMap_len hk l, List.length_cons, Nat.succ_mul]; omega
section
variable {α : Type} {enc : α → List Value} {e : TypeId} {size bytes : Nat} {z : Value}
theorem rows_of_grown {w w' : World} {v : Value} {l : List α} (hk : ∀ x, (enc x).length = size) {m : Nat} (hm : l.length = m + 1) (h : w'.ownsRow w.heap.size e size v l.length (l.flatMap enc)) :
    ∃ g cap, v = .slice (some ⟨g, 0, none⟩) l.length cap ∧ l.length ≤ cap ∧ RowsAt enc size w' (some ⟨g, 0, none⟩) l := by
  obtain ⟨A, c, rfl, hc⟩ := own_form h
  obtain ⟨g, cap, hv, _⟩ := h.form (by omega)
  injection hv with hA _ _
  subst hA
  exact ⟨g, c, rfl, hc, RowsAt.of_own hk h⟩
theorem wpList_pushg (w : World) {ops : Array Oper} {rest : List Oper} {o : Oper} {a : Act} {Q : Exit → Act → World → Prop}
    (hg : o.guard = none) (s x : Operand) (t : TypeId) (hop : o.op = Op.call { callee := Callee.builtin Builtin.append, args := #[s, x], argTypes := #[t, t] })
    (E : ElemT e size bytes z) (hk : ∀ x, (enc x).length = size) (h1 : ∀ x, ∀ u ∈ enc x, u.oneCell' = true) (ht : Try.prog.underlying t = some (.slice e))
    (A : Option Addr) (l : List α) (hs : a.eval s = .slice A l.length l.length) (hnil : A = none → l = []) (hrow : RowsAt enc size w A l) (hlen : l.length ≤ 100000) (y : α) (B : Nat) (hx : a.eval x = .slice (some ⟨B, 0, none⟩) 1 1)
    (cs : Array Value) (hcs : cs.toList = enc y) (tt : TypeId) (fr : Nat × Nat) (hB : w.heap[B]? = some (.cells cs tt fr))
    (hK : ∀ g cap w', l.length + 1 ≤ cap → RowsAt enc size w' (some ⟨g, 0, none⟩) (l ++ [y]) → Below w.heap.size w w' → wpList Try.prog ops Q rest (a.put o.dst (.slice (some ⟨g, 0, none⟩) (l.length + 1) cap)) w') :
    wpList Try.prog ops Q (o :: rest) a w := by
  obtain ⟨i0, hi, hz0, hz1, hz2⟩ := info_parts E.info
  have hb : (l.length + 1) * bytes ≤ 100001 * 100 := Nat.mul_le_mul (by omega) E.small
  refine wpList_append_grows w hg s x t hop e i0 z size bytes ht hi hz0 hz1 hz2 E.zsz E.pos A l.length l.length (l.flatMap enc) hs (fun h => by rw [hnil h]; simp) (flatMap_len hk l) (hrow.olds hk) ⟨B, 0, none⟩ 1 1 (enc y) hx (by rw [hk]; omega) (news_new hB hcs) (h1 y) (by omega) (by simp only [maxLen]; omega) (by omega) ?_
  intro v' w' hown hgrow
  rw [push_flat, ← len_snoc l y] at hown
  obtain ⟨g, cap, rfl, hc, hr⟩ := rows_of_grown hk (len_snoc l y) hown
  rw [len_snoc] at hc ⊢
  exact hK g cap w' hc hr ((Below.refl _ w).grown hgrow (Nat.le_refl _) (fun k e => by cases e))
end
end Go.Proofs.Ytkjmeeggjmeajaa
