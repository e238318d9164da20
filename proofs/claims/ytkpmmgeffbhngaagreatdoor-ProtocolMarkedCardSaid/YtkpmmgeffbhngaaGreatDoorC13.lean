/- What the laws of the chapter rest on, part 13. -/
import Derived.Test.YtkpmmgeffbhngaaGreatDoorC10
set_option linter.unusedSimpArgs false
set_option linter.unusedVariables false
set_option linter.unnecessarySimpa false
namespace Prot
end Prot
namespace Go.Shelf
end Go.Shelf
namespace Go.Maps
end Go.Maps
namespace Go.Proofs.YtkpmmgeffbhngaaGreatDoor
open Go.RowKit Go.Shelf Prot Go.Lib Go.Maps
attribute [local go_sem] Oper.semAt_some
/-- what lay below n lies there as it lay, but for blocks x and y -/
structure KeepC (n x y : Nat) (X Y : World) : Prop where
  os : Y.os = X.os
  tape : Y.tape = X.tape
  output : Y.output = X.output
  size : X.heap.size ≤ Y.heap.size
  block : ∀ b, b < n → b ≠ x → b ≠ y → Y.heap[b]? = X.heap[b]?
theorem KeepC.refl (n x y : Nat) (X : World) : KeepC n x y X X := ⟨rfl, rfl, rfl, Nat.le_refl _, fun _ _ _ _ => rfl⟩
theorem KeepC.trans {n x y : Nat} {X Y Z : World} (h : KeepC n x y X Y) (k : KeepC n x y Y Z) : KeepC n x y X Z := ⟨k.os.trans h.os, k.tape.trans h.tape, k.output.trans h.output, Nat.le_trans h.size k.size, fun b h1 h2 h3 => (k.block b h1 h2 h3).trans (h.block b h1 h2 h3)⟩
theorem KeepC.of_below {n x y : Nat} {X Y : World} (h : Below X.heap.size X Y) (hn : n ≤ X.heap.size) : KeepC n x y X Y := ⟨h.os, h.tape, h.output, h.size, fun b h1 _ _ => h.block b (by omega)⟩
theorem KeepC.put {n x y l : Nat} (h1 : n ≤ l) (W : World) (o' : Obj) : KeepC n x y W (W.putObj l o') := ⟨rfl, rfl, rfl, Nat.le_of_eq (by simp [World.putObj]), fun b hb _ _ => World.putObj_heap_other (by omega)⟩
theorem KeepC.drewN {n x y : Nat} {X Y : World} (h : KeepC n x y X Y) (q : Nat) : KeepC n x y X (Y.drewN q) := ⟨h.os, h.tape, h.output, h.size, h.block⟩
theorem KeepC.drew {n x y : Nat} {X Y : World} (h : KeepC n x y X Y) : KeepC n x y X Y.drew := ⟨h.os, h.tape, h.output, h.size, h.block⟩
theorem KeepC.set {n x y : Nat} {X Y : World} (h : KeepC n x y X Y) {p : Addr} (hp : p.block = x ∨ p.block = y ∨ n ≤ p.block) (v : Value) : KeepC n x y X (Y.setCell p v) :=
  ⟨h.os, h.tape, h.output, by simpa using h.size, fun b h1 h2 h3 => (Below.heap_setCell Y p v b (by rcases hp with hp | hp | hp <;> omega)).trans (h.block b h1 h2 h3)⟩
theorem KeepC.grown {n x y : Nat} {X Y Z : World} {row : Option Nat} (h : KeepC n x y X Y) (hg : Y.grownBy Z row) (hn : n ≤ Y.heap.size) (hr : ∀ r, row = some r → r = x ∨ r = y ∨ n ≤ r) : KeepC n x y X Z :=
  ⟨hg.os.trans h.os, hg.tape.trans h.tape, hg.output.trans h.output, Nat.le_trans h.size hg.size, fun b h1 h2 h3 => (hg.block b (by omega) (fun e => by rcases hr b e.symm with k | k | k <;> omega)).trans (h.block b h1 h2 h3)⟩
theorem KeepC.blk {n x y b : Nat} {X Y : World} {o : Obj} (h : KeepC n x y X Y) (hb : X.heap[b]? = some o) (h1 : b < n) (h2 : b ≠ x) (h3 : b ≠ y) : Y.heap[b]? = some o := (h.block b h1 h2 h3).trans hb
theorem grown_of_below {w w' : World} (h : Below w.heap.size w w') : w.grownBy w' none := ⟨h.os, h.tape, h.output, h.size, fun i hi _ => h.block i hi⟩
theorem take_snoc' {α : Type} {l : List α} {k : Nat} (hk : k < l.length) : l.take (k + 1) = l.take k ++ [l[k]] := List.take_succ_eq_append_getElem hk
/-- a loop over an iterator, whose body always goes on -/
theorem wp_rangeC {α : Type} {gop : Operand} {ps : Array Tmp} {assign body : Code} {Q : Exit → Act → World → Prop} {a : Act} {w : World}
    {gf : Nat} {lb : Array Value} (hg : a.eval gop = .func (.func gf) #[] lb) (eg : ∀ args w, (callFunc gf args).run Tryz.prog w = .ok (.enter gf args) w)
    {encs : α → Array Value} (n x0 y0 : Nat) (h1 : n ≤ w.heap.size) {xs : List α} (hseq : SeqStopsK Fence.wide 9 Tryz.prog gf lb encs (KeepC n x0 y0) (fun ys => ys = xs) (fun pre => pre <+: xs) xs.length w)
    (hps : ∀ x, (encs x).size = ps.size)
    (I : List α → World → Prop) (hI : OwnFrom w.heap.size I) (h0 : I [] w) (Ax : α → Act → World → Prop) (hAx : ∀ x a', OwnFrom w.heap.size (fun (_ : Unit) W => Ax x a' W))
    (hassign : ∀ (l : Nat) (pre : List α) (x : α) (W : World) (K : Act → World → Prop), I pre W → (∀ a' W', KeepsFrom w.heap.size W W' → KeepC n x0 y0 W W' → I pre W' → Ax x a' W' → K a' W') →
      assign.wpIn (Fence.wide.inRound l) 8 Tryz.prog (Exit.then K (fun _ _ _ => False)) { tmps := (ps.zip (encs x)).foldl (fun t (p, v) => t.setIfInBounds p v) a.tmps, defers := [] } W)
    (hbody : ∀ (l : Nat) (pre : List α) (x : α) (a' : Act) (W : World), w.heap.size ≤ l → (∃ r, W.heap[l]? = some (.loop r)) → I pre W → Ax x a' W → pre.length < xs.length → body.wpIn (Fence.wide.inRound l) 8 Tryz.prog (ownPostG w.heap.size (KeepC n x0 y0) I (fun _ _ _ => False) (pre ++ [x]) W) a' W)
    (hdone : ∀ (D : Nat) (W : World), w.heap.size ≤ D → I xs W → W.heap[D]? = some (.deferred (some [])) → Q .normal { a with defers := { target := .collected D, args := #[] } :: a.defers } W) :
    (Code.rangeFunc gop ps assign body).wp Tryz.prog Q a w :=
  wpIn_wide.1 (wpIn_rangeFunc_ownH (n := 10) rfl (by omega) hg trivial eg hseq (fun h k => h.trans k) (fun W l o o' hl _ _ _ => KeepC.put (by omega) W o') (Below.refl _ _) hps I (fun _ _ _ => False) hI (fun _ _ _ _ _ h _ _ => h) h0 Ax hAx hassign hbody
    (fun D ys W hD e hi hk => by subst e; exact hdone D W hD hi hk) (fun _ _ _ _ _ _ h _ => h.elim))
/-- the same, where the assignments write slots alone -/
theorem wp_rangeCs {α : Type} {gop : Operand} {ps : Array Tmp} {assign body : Code} {Q : Exit → Act → World → Prop} {a : Act} {w : World}
    {gf : Nat} {lb : Array Value} (hg : a.eval gop = .func (.func gf) #[] lb) (eg : ∀ args w, (callFunc gf args).run Tryz.prog w = .ok (.enter gf args) w)
    {encs : α → Array Value} (n x0 y0 : Nat) (h1 : n ≤ w.heap.size) {xs : List α} (hseq : SeqStopsK Fence.wide 9 Tryz.prog gf lb encs (KeepC n x0 y0) (fun ys => ys = xs) (fun pre => pre <+: xs) xs.length w)
    (hps : ∀ x, (encs x).size = ps.size)
    (I : List α → World → Prop) (hI : OwnFrom w.heap.size I) (h0 : I [] w) (put : α → Array Value → Array Value)
    (hassign : ∀ (l : Nat) (x : α) (W : World) (K : Act → World → Prop), K { tmps := put x a.tmps, defers := [] } W →
      assign.wpIn (Fence.wide.inRound l) 8 Tryz.prog (Exit.then K (fun _ _ _ => False)) { tmps := (ps.zip (encs x)).foldl (fun t (p, v) => t.setIfInBounds p v) a.tmps, defers := [] } W)
    (hbody : ∀ (l : Nat) (pre : List α) (x : α) (W : World), w.heap.size ≤ l → I pre W → pre.length < xs.length → body.wpIn (Fence.wide.inRound l) 8 Tryz.prog (ownPostG w.heap.size (KeepC n x0 y0) I (fun _ _ _ => False) (pre ++ [x]) W) { tmps := put x a.tmps, defers := [] } W)
    (hdone : ∀ (D : Nat) (W : World), w.heap.size ≤ D → I xs W → W.heap[D]? = some (.deferred (some [])) → Q .normal { a with defers := { target := .collected D, args := #[] } :: a.defers } W) :
    (Code.rangeFunc gop ps assign body).wp Tryz.prog Q a w :=
  wp_rangeC hg eg n x0 y0 h1 hseq hps I hI h0 (fun x a' _ => a' = { tmps := put x a.tmps, defers := [] }) (fun x a' _ W W' row h _ _ => h)
    (fun l pre x W K hI hK => hassign l x W K (hK _ _ ((KeepsOthers.refl W).from _) (KeepC.refl _ _ _ _) hI rfl)) (fun l pre x a' W hl _ hI hA hlen => by subst hA; exact hbody l pre x W hl hI hlen) hdone
theorem calls_of_wp_marks {f : FuncId} {fn : Func} {c : Code} {args : Array Value} {w : World} {R : Ending → World → Prop} (hf : Tryz.prog.funcs[f]? = some fn) (hb : fn.body = some c)
    (h : c.wp Tryz.prog (bodyPostM Fence.wide 10 Tryz.prog fn R) { tmps := args ++ Array.replicate (fn.ntmps - args.size) undef, defers := [] } w) : Calls Tryz.prog f args w R :=
  callsIn_wide.1 (callsIn_of_wp_marks (n := 10) hf hb trivial (wpIn_wide.2 h))
set_option maxRecDepth 100000 in
theorem chunk_any (A : Option Addr) (n ca : Nat) (w : World) :
    Calls Tryz.prog 58 #[.slice A n ca, .int .i64 20] w (Ret fun v w' => v = .func (.func 99) #[] #[.pointer (some ⟨w.heap.size, 0, none⟩), .pointer (some ⟨w.heap.size + 1, 0, none⟩)] ∧
      w' = (w.alloc (.cells #[.slice A n ca] 29)).alloc (.cells #[.int .i64 20] 3)) := by
  go_enter Tryz.func58, Tryz.ntmps58
  go_wp2
  go_ret
  exact Ret.mk ⟨rfl, rfl⟩
/-- a piece of twenty -/
def pieceV (b off n j : Nat) : Value := .slice (some ⟨b, off + 20 * j, none⟩) (min 20 (n - 20 * j)) (min 20 (n - 20 * j))
set_option maxRecDepth 100000 in
set_option maxHeartbeats 4000000 in
theorem chunk1_in {α : Type} (f : α → Nat) (xs : List α) (N : Nat) (hN : 1 ≤ N) (l0 bx n x0 y0 b off m ca : Nat) (A : Option Addr) (hA : 0 < m → A = some ⟨b, off, none⟩) (hm : m ≤ 100000) (hca : m ≤ ca) (hxs : xs.map f = List.range ((m + 19) / 20)) (J Jx : List α → World → Prop) (W : World)
    (hJ : AbidesFrom W.heap.size J) (hn : n ≤ W.heap.size) (hbx : bx + 1 < n) (hb0 : bx ≠ x0) (hb1 : bx + 1 ≠ x0) (hb2 : bx ≠ y0) (hb3 : bx + 1 ≠ y0)
    (hY : ∀ pre x W1, J pre W1 → pre.length < xs.length → YieldAt Fence.wide (N - 1) Tryz.prog l0 #[pieceV b off m (f x)] W1 fun e W' =>
      (e = .returned (.bool true) ∧ J (pre ++ [x]) W' ∧ KeepC n x0 y0 W1 W') ∨ (e = .returned (.bool false) ∧ Jx (pre ++ [x]) W'))
    (hc0 : W.heap[bx]? = some (.cells #[.slice A m ca] 29 (0, 0))) (hc1 : W.heap[bx + 1]? = some (.cells #[.int .i64 20] 3 (0, 0)))
    (h0 : J [] W) :
    CallsIn Fence.wide N Tryz.prog 99 #[.func (.yield l0) #[] #[], .pointer (some ⟨bx, 0, none⟩), .pointer (some ⟨bx + 1, 0, none⟩)] W fun e W' => (∃ v, e = .returned v) ∧
      ((∃ ys, ys = xs ∧ J ys W') ∨ (∃ pre, pre <+: xs ∧ Jx pre W')) := by
  have hxl : xs.length = (m + 19) / 20 := by have := congrArg List.length hxs; simpa using this
  have HX : Hid (∀ k (h : k < xs.length), f xs[k] = k) := Lib.hid fun k h => by
    have h2 : (xs.map f)[k]? = some k := by rw [hxs, List.getElem?_range (by omega)]
    rw [List.getElem?_map, List.getElem?_eq_getElem h] at h2
    simpa using h2
  clear hxs
  have HY := Lib.hid hY; clear hY
  have H0 := Lib.hid hc0; clear hc0
  have H1 := Lib.hid hc1; clear hc1
  refine callsIn_of_wp Tryz.func99 rfl trivial ?_ rfl
  simp only [Tryz.ntmps99, List.size_toArray, List.length_cons, List.length_nil, Nat.reduceAdd, Nat.reduceSub, Array.replicate_succ, Array.replicate_zero, List.push_toArray, List.append_toArray, List.nil_append, List.cons_append]
  gi_wp2
  gi_loopw [4] (fun i wr => ∃ k i0 : Nat, k ≤ xs.length ∧ i = .int .i64 i0 ∧ i0 = 20 * k ∧ J (xs.take k) wr ∧ Hid (KeepC n x0 y0 W wr)) (fun i _ => m + 40 - (intOf i).toNat)
  case atStart => exact ⟨0, 0, Nat.zero_le _, rfl, rfl, h0, Lib.hid (KeepC.refl _ _ _ _)⟩
  case round =>
    obtain ⟨k, i0, hk, rfl, hi0, hJs, HKp⟩ := hrel
    have p0 : wr.cell? ⟨bx, 0, none⟩ = some (.slice A m ca) := (blk_cell (HKp.out.blk H0.out (by omega) hb0 hb2)).trans rfl
    have p1 : wr.cell? ⟨bx + 1, 0, none⟩ = some (.int .i64 20) := (blk_cell (HKp.out.blk H1.out (by omega) hb1 hb3)).trans rfl
    have hJq : ∀ q, J (xs.take k) (wr.drewN q) := fun q => hJ _ _ _ none hJs (grown_of_below (below_drewN (Below.refl _ _) q)) (fun r e => by cases e)
    by_cases hlt : i0 < m
    · have hA' := hA (by omega)
      rw [hA'] at p0
      have hkx : k < xs.length := by omega
      have hY' := fun q => HY.out _ xs[k] (wr.drewN q) (hJq q) (by rw [List.length_take]; omega)
      rw [HX.out k hkx] at hY'
      have HT := Lib.hid (take_snoc' hkx)
      generalize xs[k] = y at *
      obtain ⟨e, he⟩ : ∃ e, e = min 20 (m - 20 * k) := ⟨_, rfl⟩
      unfold pieceV at hY'
      rw [← he, ← hi0] at hY'
      have t1 : decide ((i0 : Int) < (m : Int)) = true := by simp; omega
      have hs1 : 0 < e := by omega
      have hs2 : i0 + e ≤ m := by omega
      have e1 : min (20 : Int) ((m - i0 : Nat) : Int) = (e : Int) := by omega
      have e2 : IntKind.i64.wrap ((i0 : Int) + (e : Int)) = (i0 : Int) + (e : Int) := IntWalk.i64_in _ (by omega)
      have e3 : IntKind.i64.wrap ((i0 : Int) + 20) = (i0 : Int) + 20 := IntWalk.i64_in _ (by omega)
      have HI := Lib.hid hi0
      have HYq := Lib.hid hY'
      have HJ := Lib.hid hJ
      have hs3 : (m : Int) - (i0 : Int) = ((m - i0 : Nat) : Int) := by omega
      clear he hi0 hJq hY' hJs hk hJ h0
      gi_upto_region 3 with fail
      gi_quiet (fail)
      obtain ⟨fn, tmps, assign, body, hy, hR⟩ := HYq.out nq
      have HR := Lib.hid hR; clear hR
      gi_wp2
      refine HR.out.mono ?_
      rintro e' W3 (⟨rfl, hJ3, hk3⟩ | ⟨rfl, hJx3⟩)
      · have HK3 := Lib.hid (HKp.out.trans ((KeepC.of_below (below_drewN (Below.refl _ _) nq) (by have := HKp.out.size; omega)).trans hk3))
        have p1 : W3.cell? ⟨bx + 1, 0, none⟩ = some (.int .i64 20) := (blk_cell (HK3.out.blk H1.out (by omega) hb1 hb3)).trans rfl
        clear hk3
        gi_wp2
        go_roundw
        case rel => exact ⟨k + 1, i0 + 20, by omega, by go_num, by have := HI.out; omega, by rw [HT.out]; exact hJ3, HK3⟩
        case measure => simp [intOf]; omega
      · gi_wp2
        refine bodyPost_ret (results_none rfl _ _ _) rfl ?_
        exact ⟨⟨_, rfl⟩, .inr ⟨_, by rw [← HT.out]; exact List.take_prefix _ _, hJx3⟩⟩
    · have hkx : k = xs.length := by omega
      subst hkx
      have t1 : decide ((i0 : Int) < (m : Int)) = false := by simp; omega
      have t2 : decide (i0 < m) = false := by simp; omega
      have HJ2 : Hid (J xs wr) := Lib.hid (by rw [List.take_length] at hJs; exact hJs)
      clear hJs hi0 hk hJq
      gi_wp2
      go_end0
      exact ⟨⟨_, rfl⟩, .inl ⟨_, rfl, HJ2.out⟩⟩
theorem chunk_stops {α : Type} (f : α → Nat) (xs : List α) (N : Nat) (hN : 1 ≤ N) (bx n x0 y0 b off m ca : Nat) (A : Option Addr) (hA : 0 < m → A = some ⟨b, off, none⟩) (hm : m ≤ 100000) (hca : m ≤ ca) (hxs : xs.map f = List.range ((m + 19) / 20)) (w : World)
    (hn : n ≤ w.heap.size) (hbx : bx + 1 < n) (hb0 : bx ≠ x0) (hb1 : bx + 1 ≠ x0) (hb2 : bx ≠ y0) (hb3 : bx + 1 ≠ y0)
    (hc0 : w.heap[bx]? = some (.cells #[.slice A m ca] 29 (0, 0))) (hc1 : w.heap[bx + 1]? = some (.cells #[.int .i64 20] 3 (0, 0))) :
    SeqStopsK Fence.wide N Tryz.prog 99 #[.pointer (some ⟨bx, 0, none⟩), .pointer (some ⟨bx + 1, 0, none⟩)] (fun x : α => #[pieceV b off m (f x)]) (KeepC n x0 y0)
      (fun ys => ys = xs) (fun pre => pre <+: xs) xs.length w := fun l0 J Jx W hW hJ _ hY h0 =>
  chunk1_in f xs N hN l0 bx n x0 y0 b off m ca A hA hm hca hxs J Jx W hJ (Nat.le_trans hn hW.size) hbx hb0 hb1 hb2 hb3 hY (blk_below hW hc0) (blk_below hW hc1) h0
theorem enters_chunk1 : ∀ args w, (callFunc 99 args).run Tryz.prog w = .ok (.enter 99 args) w := fun args w => by simp [go_sem]
end Go.Proofs.YtkpmmgeffbhngaaGreatDoor
