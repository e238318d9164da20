/- The map of states: what it holds, as a function. -/
import Derived.Test.YtkjmeeggjmeajaaC6
import Derived.Test.YtkjmeeggjmeajaaC7
import Derived.Maps.OwnOps
import Derived.Maps.OwnSet
import Derived.Maps.Views
import Derived.DeepKeys4
namespace Go.Proofs.Ytkjmeeggjmeajaa
open Go.RowKit Go.Shelf Go.Maps

theorem Try.laidOut : laidOutB Try.prog = true := by kernel_rfl
theorem Try.row110 : (110 : TypeId) < Try.prog.types.size := of_decide_eq_true (by kernel_rfl)
theorem Try.cells2 : Try.prog.cellsOf 2 = 1 := by kernel_rfl
theorem Try.cells3 : Try.prog.cellsOf 3 = 1 := by kernel_rfl
theorem Try.kt110 : Try.prog.keyTypeAt 2 110 = true := by kernel_rfl
theorem pos_succ {n m : Nat} (h : m < n) : ∃ k, n = k + 1 := ⟨n - 1, by omega⟩
theorem three_le : (2 : Nat) + 1 ≤ 10000 := by omega
theorem Try.klaw110 : WideMaps.KeyLaw Try.prog 110 := deep_law_laid (P := Try.prog) Try.laidOut (m := 2) three_le (k := 110) Try.row110 Try.kt110 (by rw [Try.underlying110])
theorem Try.law110 : Keyed Try.prog 110 := Keyed.of_law Try.klaw110
theorem Try.key110 : Try.prog.keyType 110 = true := by kernel_rfl
theorem Try.cells110 : Try.prog.cellsOf 110 = 2 := by kernel_rfl

def vS (s : Int × Int) : Value := .agg #[.int .i64 s.1, .int .i64 s.2]
def kS (s : Int × Int) : Lit := .string (keyBytes [.int .i64 s.1, .int .i64 s.2])
def okS (s : Int × Int) : Prop := inB s.1 ∧ inB s.2
theorem wf_in {x : Int} (h : inB x) : (Lit.int .i64 x).wf = true := by unfold inB at h; exact WalkArith.wf_i64 (by omega)
theorem formed_S (a b : Value) : (Value.agg #[a, b]).formed Try.prog 110 = true := by simp [Value.formed, Try.underlying110, Try.cells110]
theorem lit2 (d : Nat) {x : Int} (h : (Lit.int .i64 x).wf = true) : Try.prog.keyLits (d + 1) 2 [.int .i64 x] = some [.int .i64 x] := by
  simp only [Program.keyLits, Try.underlying2]; rw [if_pos ⟨trivial, h⟩]
theorem lit3 (d : Nat) {x : Int} (h : (Lit.int .i64 x).wf = true) : Try.prog.keyLits (d + 1) 3 [.int .i64 x] = some [.int .i64 x] := by
  simp only [Program.keyLits, Try.underlying3]; rw [if_pos ⟨trivial, h⟩]
theorem lits110 (d : Nat) {a b : Int} (ha : (Lit.int .i64 a).wf = true) (hb : (Lit.int .i64 b).wf = true) : Try.prog.keyLits (d + 2) 110 [.int .i64 a, .int .i64 b] = some [.int .i64 a, .int .i64 b] := by
  rw [Program.keyLits.eq_def]
  simp only [Try.underlying110]
  simp only [Try.cells110]
  simp [Try.cells2, Try.cells3, lit2 d ha, lit3 d hb]
theorem keyOf_struct {P : Program} {k : TypeId} {fs : Array Field} {v : Value} {cs : List Value} {ls : List Lit} (hu : P.underlying k = some (.struct fs)) (hk : P.keyType k = true) (hf : v.formed P k = true) (hc : v.cells.toList = cs) (hl : ∀ d, P.keyLits (d + 2) k cs = some ls) (hs : 0 < P.types.size) :
    keyOf P k v = some (.string (keyBytes ls)) := by
  obtain ⟨n, hn⟩ := pos_succ hs
  have h := hl n
  rw [← hc] at h
  rw [show n + 2 = P.types.size + 1 by omega] at h
  simp [keyOf, hu, hk, hf, h]
theorem key_S {s : Int × Int} (h : okS s) : keyOf Try.prog 110 (vS s) = some (kS s) :=
  keyOf_struct Try.underlying110 Try.key110 (formed_S _ _) rfl (fun d => lits110 d (wf_in h.1) (wf_in h.2)) (Nat.lt_of_le_of_lt (Nat.zero_le _) Try.row110)
theorem kS_inj {s t : Int × Int} (hs : okS s) (ht : okS t) (e : kS s = kS t) : s = t := by
  have h := Try.law110.inj (key_S hs) (by rw [e]; exact key_S ht)
  obtain ⟨a, b⟩ := s
  obtain ⟨c, d⟩ := t
  simpa [vS] using h

def dB (x : Rg) : DataW Unit := .agg [.lit (.int .i64 x.1), .lit (.int .i64 x.2)]
theorem dB_inj {x y : Rg} (h : dB x = dB y) : x = y := by
  obtain ⟨a, b⟩ := x
  obtain ⟨c, d⟩ := y
  simpa [dB] using h
def rB (v : Value) : Option (DataW Unit × List MemPlace) :=
  match v with
  | .agg cs => match cs.toList with
    | [.int .i64 a, .int .i64 b] => some (dB (a, b), [])
    | _ => none
  | _ => none
theorem rB_v (x : Rg) : rB (vR x) = some (dB x, []) := rfl
theorem rB_inv {v : Value} {x : Rg} {ps : List MemPlace} (h : rB v = some (dB x, ps)) : v = vR x := by
  unfold rB at h
  split at h
  · rename_i cs
    split at h
    · rename_i a b he
      simp only [Option.some.injEq, Prod.mk.injEq] at h
      have := dB_inj h.1
      subst this
      have : cs = #[.int .i64 a, .int .i64 b] := by rw [← Array.toList_inj]; exact he
      subst this
      rfl
    · cases h
  · cases h
theorem zero107 (w : World) : (zeroValue 107).run Try.prog w = .ok (vR (0, 0)) w := by kernel_rfl
/-- block b is a map of states: f is what it holds, a zero best where there is none -/
def MapIs (w : World) (b n : Nat) (f : Int × Int → Rg) : Prop := ∃ D : DataW Unit, w.ownsMap Try.prog 110 rB b n D ∧ ∀ s, okS s → D.atKey (kS s) (dB (0, 0)) = dB (f s)
theorem MapIs.made (w : World) : MapIs (w.alloc (.map #[] 0)) w.heap.size 0 (fun _ => (0, 0)) := ⟨.map [], World.ownsMap_made _ _ _ _, fun _ _ => rfl⟩
theorem MapIs.lt {w : World} {b n : Nat} {f : Int × Int → Rg} (h : MapIs w b n f) : b < w.heap.size := by obtain ⟨D, hD, _⟩ := h; exact hD.lt
theorem MapIs.kept {w w' : World} {b n : Nat} {f : Int × Int → Rg} (h : MapIs w b n f) {row : Option Nat} (hg : w.grownBy w' row) (hne : some b ≠ row) : MapIs w' b n f := by
  obtain ⟨D, hD, hf⟩ := h; exact ⟨D, hD.kept hg hne, hf⟩
theorem MapIs.congr {w : World} {b n : Nat} {f g : Int × Int → Rg} (h : MapIs w b n f) (e : ∀ s, okS s → f s = g s) : MapIs w b n g := by
  obtain ⟨D, hD, hf⟩ := h; exact ⟨D, hD, fun s hs => by rw [hf s hs, e s hs]⟩
theorem MapIs.alloc {w : World} {b n : Nat} {f : Int × Int → Rg} (h : MapIs w b n f) (o : Obj) : MapIs (w.alloc o) b n f := h.kept (World.grownBy_alloc w o none) (by simp)
theorem MapIs.look {w : World} {b n : Nat} {f : Int × Int → Rg} (h : MapIs w b n f) {s : Int × Int} (hs : okS s) : (Instr.lookup 104 (.map (some b)) (vS s) false).run Try.prog w = .ok (vR (f s)) w := by
  obtain ⟨D, hD, hf⟩ := h
  obtain ⟨v, ps, hrun, hv⟩ := hD.lookup (t := 104) (e := 107) Try.law110 Try.underlying104 (zero107 w) (rB_v (0, 0)) (key_S hs)
  rw [hf s hs] at hv
  rw [hrun, rB_inv hv]
theorem MapIs.upd {w : World} {b n : Nat} {f : Int × Int → Rg} (h : MapIs w b n f) {s : Int × Int} (hs : okS s) (x : Rg) (hn : n ≤ 1000000) :
    ∃ w', (Instr.mapUpdate 104 (.map (some b)) (vS s) (vR x)).run Try.prog w = .ok () w' ∧ MapIs w' b (n + 1) (fun t => if t = s then x else f t) ∧ w.grownBy w' (some b) := by
  obtain ⟨D, hD, hf⟩ := h
  obtain ⟨w', hrun, hD', hg⟩ := hD.update (t := 104) (e := 107) Try.law110 Try.underlying104 (by unfold maxLen; omega) (key_S hs) (rB_v x)
  refine ⟨w', hrun, ⟨_, hD', fun t ht => ?_⟩, hg⟩
  have hm : Maps.IsMap D := by obtain ⟨es, clock, _, _, _, e⟩ := hD; exact ⟨_, e⟩
  dsimp only
  by_cases e : t = s
  · subst e; rw [if_pos rfl, Maps.atKey_put_same hm (Try.law110.key (key_S hs))]
  · rw [if_neg e, Maps.atKey_put_other (fun h => e (kS_inj ht hs h)), hf t ht]
theorem MapIs.del {w : World} {b n : Nat} {f : Int × Int → Rg} (h : MapIs w b n f) {s : Int × Int} (hs : okS s) (ty : TypeId) :
    ∃ w', (Builtin.delete_ #[104, 110] ty #[.map (some b), vS s]).run Try.prog w = .ok (.tuple #[]) w' ∧ MapIs w' b n (fun t => if t = s then (0, 0) else f t) ∧ w.grownBy w' (some b) := by
  obtain ⟨D, hD, hf⟩ := h
  obtain ⟨w', hrun, hD', hg⟩ := hD.drop (t := 104) (e := 107) Try.law110 Try.underlying104 (key_S hs) ty
  refine ⟨w', hrun, ⟨_, hD', fun t ht => ?_⟩, hg.grown⟩
  dsimp only
  by_cases e : t = s
  · subst e; rw [if_pos rfl, Maps.atKey_del_same]
  · rw [if_neg e, Maps.atKey_del_other (fun h => e (kS_inj ht hs h)), hf t ht]
end Go.Proofs.Ytkjmeeggjmeajaa
