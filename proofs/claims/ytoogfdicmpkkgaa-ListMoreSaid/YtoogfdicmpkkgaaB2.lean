/- Loops over the iterator; drawn regions within a round; the map of sides. The search for a partner: what it does in plain words, and what it keeps. -/
import Derived.Test.YtoogfdicmpkkgaaB1
import Derived.Maps.OwnOps
import Derived.Maps.OwnSet
import Derived.Maps.Views
import Derived.DeepKeys4
import Derived.Test.YtoogfdicmpkkgaaPM
namespace Go.Proofs.Ytoogfdicmpkkgaa
open Go.RowKit Go.Shelf Go.Maps

theorem calls_of_wp_marks {f : FuncId} {fn : Func} {c : Code} {args : Array Value} {w : World} {R : Ending → World → Prop} (hf : Try.prog.funcs[f]? = some fn) (hb : fn.body = some c)
    (h : c.wp Try.prog (bodyPostM Fence.wide 10 Try.prog fn R) { tmps := args ++ Array.replicate (fn.ntmps - args.size) undef, defers := [] } w) : Calls Try.prog f args w R :=
  callsIn_wide.1 (callsIn_of_wp_marks (n := 10) hf hb trivial (wpIn_wide.2 h))
theorem leave_mark {fn : Func} {R : Ending → World → Prop} {tmps : Array Value} {D : Nat} {W : World} (v : Value) (hK : W.heap[D]? = some (.deferred (some [])))
    (hres : (results fn tmps).run Try.prog (W.putObj D (.deferred none)) = .ok v (W.putObj D (.deferred none))) (hR : R (.returned v) (W.putObj D (.deferred none))) :
    bodyPostM Fence.wide 10 Try.prog fn R .ret { tmps, defers := [{ target := .collected D, args := #[] }] } W :=
  ⟨by simp, .inl ⟨_, _, rfl, run_takeDeferred hK, ⟨v, hres, hR⟩⟩⟩
theorem KeepJ.put {n jb mb l : Nat} (h1 : n ≤ l) (h2 : jb ≠ l) (W : World) (o' : Obj) : KeepJ n jb mb W (W.putObj l o') :=
  ⟨rfl, rfl, rfl, Nat.le_of_eq (by simp [World.putObj]), fun b hb _ _ => World.putObj_heap_other (by omega), fun i _ => ⟨World.cell?_of_block (a := ⟨jb, i, none⟩) (World.putObj_heap_other h2), World.frozen?_of_block (a := ⟨jb, i, none⟩) (World.putObj_heap_other h2)⟩⟩

theorem wp_rangeJ {α : Type} {g : Operand} {ps : Array Tmp} {assign body : Code} {Q : Exit → Act → World → Prop} {a : Act} {w : World}
    {gf : Nat} {lb : Array Value} (hg : a.eval g = .func (.func gf) #[] lb) (eg : ∀ args w, (callFunc gf args).run Try.prog w = .ok (.enter gf args) w)
    {encs : α → Array Value} (n jb mb : Nat) (h1 : n ≤ w.heap.size) (h2 : jb < w.heap.size) {xs : List α} (hseq : SeqStopsK Fence.wide 9 Try.prog gf lb encs (KeepJ n jb mb) (fun ys => ys = xs) (fun pre => pre <+: xs) xs.length w)
    (hps : ∀ x, (encs x).size = ps.size)
    (I : List α → World → Prop) (Ix : Code → List α → World → Prop) (hI : OwnFrom w.heap.size I) (hIx : ∀ c, OwnFrom w.heap.size (Ix c)) (h0 : I [] w) (Ax : α → Act → World → Prop) (hAx : ∀ x a', OwnFrom w.heap.size (fun (_ : Unit) W => Ax x a' W))
    (hassign : ∀ (l : Nat) (pre : List α) (x : α) (W : World) (K : Act → World → Prop), I pre W → (∀ a' W', KeepsFrom w.heap.size W W' → KeepJ n jb mb W W' → I pre W' → Ax x a' W' → K a' W') →
      assign.wpIn (Fence.wide.inRound l) 8 Try.prog (Exit.then K (fun _ _ _ => False)) { tmps := (ps.zip (encs x)).foldl (fun t (p, v) => t.setIfInBounds p v) a.tmps, defers := [] } W)
    (hbody : ∀ (l : Nat) (pre : List α) (x : α) (a' : Act) (W : World), w.heap.size ≤ l → (∃ r, W.heap[l]? = some (.loop r)) → I pre W → Ax x a' W → pre.length < xs.length → body.wpIn (Fence.wide.inRound l) 8 Try.prog (ownPostG w.heap.size (KeepJ n jb mb) I Ix (pre ++ [x]) W) a' W)
    (hdone : ∀ (D : Nat) (W : World), w.heap.size ≤ D → I xs W → W.heap[D]? = some (.deferred (some [])) → Q .normal { a with defers := { target := .collected D, args := #[] } :: a.defers } W)
    (hstop : ∀ (D : Nat) (c : Code) (pre : List α) (W : World), w.heap.size ≤ D → pre <+: xs → Ix c pre W → W.heap[D]? = some (.deferred (some [])) → c.wp Try.prog Q { a with defers := { target := .collected D, args := #[] } :: a.defers } W) :
    (Code.rangeFunc g ps assign body).wp Try.prog Q a w :=
  wpIn_wide.1 (wpIn_rangeFunc_ownH (n := 10) rfl (by omega) hg trivial eg hseq (fun h k => h.trans k) (fun W l o o' hl _ _ _ => KeepJ.put (by omega) (by omega) W o') (Below.refl _ _) hps I Ix hI hIx h0 Ax hAx hassign hbody
    (fun D ys W hD e hi hk => by subst e; exact hdone D W hD hi hk) (fun D c pre W hD hp hi hk => wpIn_wide.2 (hstop D c pre W hD hp hi hk)))

/-! drawn regions within a round -/
section
variable {ops : Array Oper} {Q : Exit → Act → World → Prop} {md : Region.Mode} {n : Nat}
theorem operIn_of_oper {l : Nat} {o : Oper} {a : Act} {w : World} {K : Act → World → Prop} (hnd : ∀ c, o.op ≠ .defer c) (h : o.wp Try.prog a w K Q) : o.wpIn (Fence.wide.inRound l) n Try.prog a w K Q := by
  unfold Oper.wp at h
  refine ⟨fun _ _ => trivial, ?_⟩
  rw [Oper.semAt_eq _ _ _ hnd]
  generalize (execOp a.eval o).run Try.prog w = r at *
  have hd : ((Fence.wide.inRound l).depth.isSome = true → 1 ≤ n) := fun h => by simp [Fence.wide] at h
  cases r with
  | ok x w' =>
    cases x
    case value v => exact h
    case skip => exact h
    case defer d => exact h
    case enter f args => exact ⟨hd, CallsIn.inRound l (callsIn_wide.2 h)⟩
    case row row args => exact ⟨hd, fun c cs _ => let ⟨v, w', r, s⟩ := h c cs; ⟨v, w', r, stepsIn_wide.2 s⟩⟩
    all_goals exact h.elim
  | halt x w' =>
    cases x
    case panic v => exact h
    all_goals exact h.elim
theorem wpOpIn_of_wpOp {l : Nat} (hnd : ∀ (i : Nat) (o : Oper), ops[i]? = some o → ∀ c, o.op ≠ .defer c) (hlo : ¬ LetsOut Q) {i : Nat} {K : Act → World → Prop} {a : Act} {w : World} (h : wpOp Try.prog ops Q i K a w) : wpOpIn (Fence.wide.inRound l) n Try.prog ops Q i K a w := by
  unfold wpOp at h
  unfold wpOpIn
  cases ho : ops[i]? with
  | none => rw [ho] at h; exact h
  | some o =>
    rw [ho] at h
    dsimp only at h ⊢
    by_cases hw : Region.wanted o (yielded ops a.tmps) = true
    · rw [if_pos hw] at h ⊢
      rcases h with h | ⟨_, h⟩
      · exact operIn_of_oper (hnd i o ho) h
      · exact absurd h hlo
    · rw [if_neg hw] at h ⊢
      exact ⟨fun _ _ => trivial, h⟩
theorem wpAnyIn_of_wpAny {l : Nat} (hnd : ∀ (i : Nat) (o : Oper), ops[i]? = some o → ∀ c, o.op ≠ .defer c) (hlo : ¬ LetsOut Q) : ∀ (fuel : Nat) (listed : Array Bool) (a : Act) (w : World), wpAny Try.prog md ops Q fuel listed a w → wpAnyIn (Fence.wide.inRound l) n Try.prog md ops Q fuel listed a w
  | 0, _, _, _, h => h
  | fuel + 1, _, _, _, h => ⟨h.1, fun i hi => wpOpIn_mono (fun a' w' h' => wpAnyIn_of_wpAny hnd hlo fuel _ a' w' h') (wpOpIn_of_wpOp hnd hlo (h.2 i hi))⟩
def noDefer (ops : Array Oper) : Bool := ops.all fun o => match o.op with | .defer _ => false | _ => true
theorem noDefer_spec (h : noDefer ops = true) : ∀ (i : Nat) (o : Oper), ops[i]? = some o → ∀ c, o.op ≠ .defer c := fun i o ho c e => by
  unfold noDefer at h
  rw [Array.all_eq_true] at h
  obtain ⟨hi, rfl⟩ := Array.getElem?_eq_some_iff.1 ho
  have := h i hi
  rw [e] at this
  cases this
/-- a drawn region in a round: its steps leave the class C's worlds in C, and yield the same in each of them -/
theorem wpIn_region_class {id l : Nat} {C : World → Prop} {a : Act} {w : World} {ol : List Oper} (hm : Try.prog.follows .mixedOrders = true) (hB : Region.lexB .any ol.toArray = true) (hnd : noDefer ol.toArray = true) (hlo : ¬ LetsOut Q) (hC : C w.drew)
    (h : wpQuiet Try.prog ol.toArray C (fun a' => ∀ w', C w' → Q .normal a' w') ol a) : (Code.region id ol.toArray true).wpIn (Fence.wide.inRound l) n Try.prog Q a w := by
  simp only [Region.lexB, Bool.and_eq_true] at hB
  refine wpIn_region_any hm (wpAnyIn_of_wpAny (noDefer_spec hnd) hlo _ _ _ _ (wpAny_of_quiet (Q := fun a' => ∀ w', C w' → Q .normal a' w') (fun _ w' hw' h => h w' hw') _ _ _ _ hC ?_))
  have := wpAnyQ_lex (C := C) (md := .any) hB.1 ol.toArray.toList 0 (Array.replicate ol.toArray.size false) a (by simp) (by simpa using hB.2) (by simpa using h)
  simpa using this
/-- a drawn region in a round, by the walk that holds S -/
theorem wpIn_region_held {id l : Nat} {S : World → Prop} {a : Act} {w : World} (hm : Try.prog.follows .mixedOrders = true) (hnd : noDefer ops = true) (hlo : ¬ LetsOut Q)
    (h : wpAnyH Try.prog .any ops Q S ops.size (Array.replicate ops.size false) a w.drew) : (Code.region id ops true).wpIn (Fence.wide.inRound l) n Try.prog Q a w :=
  wpIn_region_any hm (wpAnyIn_of_wpAny (noDefer_spec hnd) hlo _ _ _ _ (wpAny_of_held _ _ _ _ h))
end
theorem Try.laidOut : laidOutB Try.prog = true := by kernel_rfl
theorem Try.row98 : (98 : TypeId) < Try.prog.types.size := of_decide_eq_true (by kernel_rfl)
theorem Try.cells4 : Try.prog.cellsOf 4 = 1 := by kernel_rfl
theorem Try.cells3 : Try.prog.cellsOf 3 = 1 := by kernel_rfl
theorem Try.kt98 : Try.prog.keyTypeAt 2 98 = true := by kernel_rfl
theorem pos_succ {n m : Nat} (h : m < n) : ∃ k, n = k + 1 := ⟨n - 1, by omega⟩
theorem three_le : (2 : Nat) + 1 ≤ 10000 := by omega
theorem Try.klaw98 : WideMaps.KeyLaw Try.prog 98 := deep_law_laid (P := Try.prog) Try.laidOut (m := 2) three_le (k := 98) Try.row98 Try.kt98 (by rw [Try.underlying98])
theorem Try.law98 : Keyed Try.prog 98 := Keyed.of_law Try.klaw98
theorem Try.key98 : Try.prog.keyType 98 = true := by kernel_rfl
theorem Try.cells98 : Try.prog.cellsOf 98 = 2 := by kernel_rfl

abbrev Sd := Bool × Int
def vS (s : Sd) : Value := .agg #[.bool s.1, .int .i64 s.2]
def kS (s : Sd) : Lit := .string (keyBytes [.bool s.1, .int .i64 s.2])
def okS (s : Sd) : Prop := 0 ≤ s.2 ∧ s.2 ≤ 1000
theorem wf_in {x : Int} (h : 0 ≤ x ∧ x ≤ 1000) : (Lit.int .i64 x).wf = true := WalkArith.wf_i64 (by omega)
theorem formed_S (a b : Value) : (Value.agg #[a, b]).formed Try.prog 98 = true := by simp [Value.formed, Try.underlying98, Try.cells98]
theorem lit4 (d : Nat) (x : Bool) : Try.prog.keyLits (d + 1) 4 [.bool x] = some [.bool x] := by
  simp only [Program.keyLits, Try.underlying4]
theorem lit3 (d : Nat) {x : Int} (h : (Lit.int .i64 x).wf = true) : Try.prog.keyLits (d + 1) 3 [.int .i64 x] = some [.int .i64 x] := by
  simp only [Program.keyLits, Try.underlying3]; rw [if_pos ⟨trivial, h⟩]
theorem lits98 (d : Nat) (a : Bool) {b : Int} (hb : (Lit.int .i64 b).wf = true) : Try.prog.keyLits (d + 2) 98 [.bool a, .int .i64 b] = some [.bool a, .int .i64 b] := by
  rw [Program.keyLits.eq_def]
  simp only [Try.underlying98]
  simp only [Try.cells98]
  simp [Try.cells4, Try.cells3, lit4, lit3 d hb]
theorem keyOf_struct {P : Program} {k : TypeId} {fs : Array Field} {v : Value} {cs : List Value} {ls : List Lit} (hu : P.underlying k = some (.struct fs)) (hk : P.keyType k = true) (hf : v.formed P k = true) (hc : v.cells.toList = cs) (hl : ∀ d, P.keyLits (d + 2) k cs = some ls) (hs : 0 < P.types.size) :
    keyOf P k v = some (.string (keyBytes ls)) := by
  obtain ⟨n, hn⟩ := pos_succ hs
  have h := hl n
  rw [← hc] at h
  rw [show n + 2 = P.types.size + 1 by omega] at h
  simp [keyOf, hu, hk, hf, h]
theorem key_S {s : Sd} (h : okS s) : keyOf Try.prog 98 (vS s) = some (kS s) :=
  keyOf_struct Try.underlying98 Try.key98 (formed_S _ _) rfl (fun d => lits98 d _ (wf_in h)) (Nat.lt_of_le_of_lt (Nat.zero_le _) Try.row98)
theorem kS_inj {s t : Sd} (hs : okS s) (ht : okS t) (e : kS s = kS t) : s = t := by
  have h := Try.law98.inj (key_S hs) (by rw [e]; exact key_S ht)
  obtain ⟨a, b⟩ := s
  obtain ⟨c, d⟩ := t
  simpa [vS] using h

def dB (x : Int) : DataW Unit := .lit (.int .i64 x)
theorem dB_inj {x y : Int} (h : dB x = dB y) : x = y := by simpa [dB] using h
def rB (v : Value) : Option (DataW Unit × List MemPlace) :=
  match v with
  | .int .i64 a => some (dB a, [])
  | _ => none
theorem rB_v (x : Int) : rB (.int .i64 x) = some (dB x, []) := rfl
theorem rB_inv {v : Value} {x : Int} {ps : List MemPlace} (h : rB v = some (dB x, ps)) : v = .int .i64 x := by
  unfold rB at h
  split at h
  · rename_i a
    simp only [Option.some.injEq, Prod.mk.injEq] at h
    rw [dB_inj h.1]
  · cases h
theorem zero3 (w : World) : (zeroValue 3).run Try.prog w = .ok (.int .i64 0) w := by kernel_rfl
/-- block b is a map of states: f is what it holds, a zero best where there is none -/
def MapIs (w : World) (b n : Nat) (f : Sd → Int) : Prop := ∃ D : DataW Unit, w.ownsMap Try.prog 98 rB b n D ∧ ∀ s, okS s → D.atKey (kS s) (dB 0) = dB (f s)
theorem MapIs.made (w : World) : MapIs (w.alloc (.map #[] 0)) w.heap.size 0 (fun _ => 0) := ⟨.map [], World.ownsMap_made _ _ _ _, fun _ _ => rfl⟩
theorem MapIs.lt {w : World} {b n : Nat} {f : Sd → Int} (h : MapIs w b n f) : b < w.heap.size := by obtain ⟨D, hD, _⟩ := h; exact hD.lt
theorem MapIs.kept {w w' : World} {b n : Nat} {f : Sd → Int} (h : MapIs w b n f) {row : Option Nat} (hg : w.grownBy w' row) (hne : some b ≠ row) : MapIs w' b n f := by
  obtain ⟨D, hD, hf⟩ := h; exact ⟨D, hD.kept hg hne, hf⟩
theorem MapIs.congr {w : World} {b n : Nat} {f g : Sd → Int} (h : MapIs w b n f) (e : ∀ s, okS s → f s = g s) : MapIs w b n g := by
  obtain ⟨D, hD, hf⟩ := h; exact ⟨D, hD, fun s hs => by rw [hf s hs, e s hs]⟩
theorem MapIs.alloc {w : World} {b n : Nat} {f : Sd → Int} (h : MapIs w b n f) (o : Obj) : MapIs (w.alloc o) b n f := h.kept (World.grownBy_alloc w o none) (by simp)
theorem MapIs.look {w : World} {b n : Nat} {f : Sd → Int} (h : MapIs w b n f) {s : Sd} (hs : okS s) : (Instr.lookup 96 (.map (some b)) (vS s) false).run Try.prog w = .ok (.int .i64 (f s)) w := by
  obtain ⟨D, hD, hf⟩ := h
  obtain ⟨v, ps, hrun, hv⟩ := hD.lookup (t := 96) (e := 3) Try.law98 Try.underlying96 (zero3 w) (rB_v 0) (key_S hs)
  rw [hf s hs] at hv
  rw [hrun, rB_inv hv]
theorem MapIs.upd {w : World} {b n : Nat} {f : Sd → Int} (h : MapIs w b n f) {s : Sd} (hs : okS s) (x : Int) (hn : n ≤ 1000000) :
    ∃ w', (Instr.mapUpdate 96 (.map (some b)) (vS s) (.int .i64 x)).run Try.prog w = .ok () w' ∧ MapIs w' b (n + 1) (fun t => if t = s then x else f t) ∧ w.grownBy w' (some b) := by
  obtain ⟨D, hD, hf⟩ := h
  obtain ⟨w', hrun, hD', hg⟩ := hD.update (t := 96) (e := 3) Try.law98 Try.underlying96 (by unfold maxLen; omega) (key_S hs) (rB_v x)
  refine ⟨w', hrun, ⟨_, hD', fun t ht => ?_⟩, hg⟩
  have hm : Maps.IsMap D := by obtain ⟨es, clock, _, _, _, e⟩ := hD; exact ⟨_, e⟩
  dsimp only
  by_cases e : t = s
  · subst e; rw [if_pos rfl, Maps.atKey_put_same hm (Try.law98.key (key_S hs))]
  · rw [if_neg e, Maps.atKey_put_other (fun h => e (kS_inj ht hs h)), hf t ht]
theorem MapIs.del {w : World} {b n : Nat} {f : Sd → Int} (h : MapIs w b n f) {s : Sd} (hs : okS s) (ty : TypeId) :
    ∃ w', (Builtin.delete_ #[96, 98] ty #[.map (some b), vS s]).run Try.prog w = .ok (.tuple #[]) w' ∧ MapIs w' b n (fun t => if t = s then 0 else f t) ∧ w.grownBy w' (some b) := by
  obtain ⟨D, hD, hf⟩ := h
  obtain ⟨w', hrun, hD', hg⟩ := hD.drop (t := 96) (e := 3) Try.law98 Try.underlying96 (key_S hs) ty
  refine ⟨w', hrun, ⟨_, hD', fun t ht => ?_⟩, hg.grown⟩
  dsimp only
  by_cases e : t = s
  · subst e; rw [if_pos rfl, Maps.atKey_del_same]
  · rw [if_neg e, Maps.atKey_del_other (fun h => e (kS_inj ht hs h)), hf t ht]
end Go.Proofs.Ytoogfdicmpkkgaa

namespace Go.Proofs.Ytoogfdicmpkkgaa
open Go.RowKit Go.Shelf Go.Maps Match

def netOf (l : List (Int × Int)) : Net := ⟨l.length, fun k => ((atL l k).1.toNat, (atL l k).2.toNat)⟩
/-- a partner as the program writes it down: the link's name and 1, or 0 -/
def encP (P : Partners) (r : Nat) : Int := match P r with | some k => (k : Int) + 1 | none => 0
def okP (m : Nat) (P : Partners) : Prop := ∀ r k, P r = some k → k < m
def Seen (f : Sd → Int) (r : Nat) : Prop := f (true, (r : Int)) = 1
def unseen (f : Sd → Int) : Nat := (List.range 12).countP fun r => !(f (true, ((r : Nat) : Int)) == 1)
def mark (f : Sd → Int) (r : Nat) : Sd → Int := fun t => if t = (true, (r : Int)) then 1 else f t
theorem seen_mark (f : Sd → Int) (r : Nat) : Seen (mark f r) = plus (Seen f) r := by
  funext x
  unfold Seen mark plus
  by_cases e : x = r
  · subst e; simp
  · rw [if_neg (fun h => e (by injection h with _ h; omega))]; simp [e]
theorem countP_one {q q' : Nat → Bool} (r : Nat) (h1 : q r = true) (h2 : q' r = false) (h3 : ∀ x, x ≠ r → q' x = q x) : ∀ n, r < n → (List.range n).countP q' + 1 = (List.range n).countP q
  | 0, h => by omega
  | n + 1, h => by
    rw [List.range_succ, List.countP_append, List.countP_append]
    by_cases e : r = n
    · subst e
      have : (List.range r).countP q' = (List.range r).countP q := List.countP_congr fun x hx => by rw [h3 x (by have := List.mem_range.1 hx; omega)]
      rw [this]; simp [h1, h2]
    · have := countP_one r h1 h2 h3 n (by omega)
      simp only [List.countP_cons, List.countP_nil, Nat.zero_add, h3 n (fun e' => e e'.symm)]
      omega
theorem unseen_mark {f : Sd → Int} {r : Nat} (h : f (true, (r : Int)) ≠ 1) (hr : r < 12) : unseen (mark f r) + 1 = unseen f := by
  unfold unseen
  refine countP_one r (by simpa using h) (by simp [mark]) (fun x hx => ?_) 12 hr
  unfold mark
  rw [if_neg (fun e => hx (by injection e with _ e; omega))]
theorem unseen_le (f : Sd → Int) : unseen f ≤ 12 := by
  unfold unseen
  have := List.countP_le_length (p := fun r => !(f (true, ((r : Nat) : Int)) == 1)) (l := List.range 12)
  simpa using this
theorem encP_none {P : Partners} {r : Nat} : encP P r = 0 ↔ P r = none := by
  unfold encP
  cases P r with
  | none => simp
  | some k => simp; omega
theorem encP_some {P : Partners} {r : Nat} {x : Int} (h : encP P r = x) (hx : x ≠ 0) : ∃ k : Nat, P r = some k ∧ x = (k : Int) + 1 := by
  unfold encP at h
  cases hp : P r with
  | none => rw [hp] at h; exact absurd h.symm hx
  | some k => rw [hp] at h; exact ⟨k, rfl, h.symm⟩
theorem encP_put (P : Partners) (r k i : Nat) : encP (putP P r k) i = if i = r then (k : Int) + 1 else encP P i := by
  unfold encP putP
  by_cases e : i = r
  · rw [if_pos e, if_pos e]
  · rw [if_neg e, if_neg e]
theorem okP.put {m : Nat} {P : Partners} (h : okP m P) {r k : Nat} (hk : k < m) : okP m (putP P r k) := fun x y hy => by
  unfold putP at hy
  by_cases e : x = r
  · rw [if_pos e] at hy; injection hy with hy; omega
  · rw [if_neg e] at hy; exact h x y hy

/-- where the search goes on behind the links that have come -/
def nxt {α : Type} (f : α → Nat) (pre : List α) : Nat := match pre.getLast? with | some x => f x + 1 | none => 0
theorem nxt_snoc {α : Type} (f : α → Nat) (pre : List α) (x : α) : nxt f (pre ++ [x]) = f x + 1 := by unfold nxt; simp
theorem pick_mem {q : Nat → Bool} {k m : Nat} : k ∈ pick q m ↔ k < m ∧ q k = true := by unfold pick; rw [List.mem_filter, List.mem_range]
theorem pick_pair (q : Nat → Bool) (m : Nat) : (pick q m).Pairwise (· < ·) := List.Pairwise.filter _ List.pairwise_lt_range
/-- the link that comes next is picked, and those on the way to it are not -/
theorem pick_next {α : Type} {f : α → Nat} {xs : List α} {q : Nat → Bool} {m : Nat} (hxs : xs.map f = pick q m) {pre : List α} {x : α} (h : pre ++ [x] <+: xs) : q (f x) = true ∧ f x < m ∧ nxt f pre ≤ f x ∧ ∀ t, nxt f pre ≤ t → t < f x → q t = false := by
  obtain ⟨r, hr⟩ := h
  have hp := pick_pair q m
  rw [← hxs, ← hr, List.map_append, List.map_append, List.append_assoc] at hp
  have hm : f x ∈ pick q m := by rw [← hxs, ← hr]; simp
  have hall : ∀ t, t ∈ pick q m → t ∈ pre.map f ∨ t = f x ∨ t ∈ r.map f := fun t ht => by
    rw [← hxs, ← hr] at ht
    simpa [or_assoc] using ht
  rw [List.pairwise_append] at hp
  obtain ⟨p1, p2, p3⟩ := hp
  have hle : ∀ t, t ∈ pre.map f → t + 1 ≤ nxt f pre := fun t ht => by
    unfold nxt
    rcases List.eq_nil_or_concat pre with rfl | ⟨pre', y, rfl⟩
    · simp at ht
    · simp only [List.concat_eq_append, List.map_append, List.map_cons, List.map_nil] at ht p1
      simp only [List.concat_eq_append, List.getLast?_append, List.getLast?_singleton, Option.some_or]
      rcases List.mem_append.1 ht with h | h
      · have := (List.pairwise_append.1 p1).2.2 t h (f y) (by simp); omega
      · simp at h; omega
  have hnx : nxt f pre ≤ f x := by
    unfold nxt
    rcases List.eq_nil_or_concat pre with rfl | ⟨pre', y, rfl⟩
    · simp
    · simp only [List.concat_eq_append, List.getLast?_append, List.getLast?_singleton, Option.some_or]
      exact p3 (f y) (by simp) (f x) (by simp)
  refine ⟨(pick_mem.1 hm).2, (pick_mem.1 hm).1, hnx, fun t h1 h2 => ?_⟩
  cases hq : q t
  · rfl
  · exfalso
    rcases hall t (pick_mem.2 ⟨by have := (pick_mem.1 hm).1; omega, hq⟩) with h | h | h
    · have := hle t h; omega
    · omega
    · simp only [List.map_cons, List.map_nil, List.singleton_append, List.pairwise_cons] at p2
      have := p2.1 t h; omega
theorem pick_end {α : Type} {f : α → Nat} {xs : List α} {q : Nat → Bool} {m : Nat} (hxs : xs.map f = pick q m) {t : Nat} (h : nxt f xs ≤ t) (hm : t < m) : q t = false := by
  cases hq : q t
  · rfl
  · exfalso
    have ht := pick_mem.2 ⟨hm, hq⟩
    have hp := pick_pair q m
    rw [← hxs] at ht hp
    unfold nxt at h
    rcases List.eq_nil_or_concat xs with rfl | ⟨xs', y, rfl⟩
    · simp at ht
    · simp only [List.concat_eq_append, List.map_append, List.map_cons, List.map_nil] at ht hp
      simp only [List.concat_eq_append, List.getLast?_append, List.getLast?_singleton, Option.some_or] at h
      rcases List.mem_append.1 ht with h' | h'
      · have := (List.pairwise_append.1 hp).2.2 t h' (f y) (by simp); omega
      · simp at h'; omega
theorem run_to {N : Net} {p : Nat → Bool} {l : Nat} {P P' : Partners} {S S' : Nat → Prop} {b : Bool} (x : Nat) (hx : x ≤ N.m) : ∀ (d t : Nat), t + d = x → (∀ i, t ≤ i → i < x → ¬ (p i = true ∧ (N.e i).1 = l)) → Run N p l x P S b P' S' → Run N p l t P S b P' S'
  | 0, t, he, _, h => by rw [show t = x by omega]; exact h
  | d + 1, t, he, hn, h => .skip (by omega) (.inl (hn t (Nat.le_refl _) (by omega))) (run_to x hx d (t + 1) (by omega) (fun i h1 h2 => hn i (by omega) h2) h)
theorem wants_net {s : Sh} {left : Nat} {p : Nat → Bool} {k : Nat} (hk : k < s.l.length) (hli : ∀ x ∈ s.l, (0 ≤ x.1 ∧ x.1 < 12) ∧ 0 ≤ x.2 ∧ x.2 < 12) : wants s left p k = true ↔ p k = true ∧ ((netOf s.l).e k).1 = left := by
  have h := hli s.l[k] (List.getElem_mem hk)
  unfold wants netOf
  dsimp only
  rw [atL_eq hk]
  simp only [Bool.and_eq_true, beq_iff_eq]
  constructor
  · rintro ⟨a, b⟩; exact ⟨b, by omega⟩
  · rintro ⟨a, b⟩; exact ⟨by omega, a⟩
end Go.Proofs.Ytoogfdicmpkkgaa
