/- Words for memory and for posts, shared by the walks of this seat. Small functions: in, ints; IndexFunc, ContainsFunc at steps and at numbers; within. Small functions of the law, of the reference and of the program: great, ints, Step, song, within. CheckBook, of the program. CheckBook, of the reference. CheckTree, of the program. -/
import Derived.Test.YtggcooplhodocaaDoorRows
import Derived.Test.YtggcooplhodocaaDoorP0
import Derived.Maps.AppendAt
import Derived.Deep.AppendLies
import Derived.WalkKit
import Derived.WalkSpells
import Derived.WalkLawsBesides
import Derived.BigQuiet
import Derived.Deep.QuietTactic
import Derived.Lib.Hide
import Derived.Deep.RegionHeld3
import Derived.Deep.DeepCutAuto
import Derived.Laws.EntriesVeiled
import Derived.WalkMore
namespace Go.Proofs.YtggcooplhodocaaDoor
open Go.RowKit

def Ret (Q : Value → World → Prop) (e : Ending) (w' : World) : Prop := ∃ v, e = .returned v ∧ Q v w'
theorem Ret.mk {Q : Value → World → Prop} {v : Value} {w' : World} (h : Q v w') : Ret Q (.returned v) w' := ⟨v, rfl, h⟩
theorem Ret.mk' {Q : Value → World → Prop} {u v : Value} {w' : World} (e : u = v) (h : Q v w') : Ret Q (.returned u) w' := ⟨v, by rw [e], h⟩

theorem block_lt_of_cell {w : World} {a : Addr} {v : Value} (h : w.cell? a = some v) : a.block < w.heap.size := by
  rcases Nat.lt_or_ge a.block w.heap.size with h1 | h1
  · exact h1
  · simp [World.cell?, Array.getElem?_eq_none h1] at h
theorem cell_below {w w' : World} (hb : Below w.heap.size w w') {a : Addr} {v : Value} (h : w.cell? a = some v) : w'.cell? a = some v :=
  (hb.cell (block_lt_of_cell h)).trans h
theorem cell_alloc {w : World} {a : Addr} {v : Value} (h : w.cell? a = some v) (o : Obj) : (w.alloc o).cell? a = some v := cell_below ((Below.refl _ w).alloc (Nat.le_refl _) o) h
theorem cell_far {w : World} {p q : Addr} {u v : Value} (h : w.cell? q = some v) (hne : q ≠ p) : (w.setCell p u).cell? q = some v := (World.cell?_setCell_other w p q u hne.symm).trans h
theorem addr_ne {b b' o o' : Nat} (h : b < b') : (⟨b, o, none⟩ : Addr) ≠ ⟨b', o', none⟩ := fun e => by injection e with e1; omega
theorem new2_0 (w : World) (x y : Value) (t : TypeId) : (w.alloc (.cells #[x, y] t)).cell? ⟨w.heap.size, 0, none⟩ = some x := by simp only [World.cell?, heap_alloc_new]; rfl
theorem new2_1 (w : World) (x y : Value) (t : TypeId) : (w.alloc (.cells #[x, y] t)).cell? ⟨w.heap.size, 1, none⟩ = some y := by simp only [World.cell?, heap_alloc_new]; rfl
theorem new1_0 (w : World) (x : Value) (t : TypeId) : (w.alloc (.cells #[x] t)).cell? ⟨w.heap.size, 0, none⟩ = some x := by simp only [World.cell?, heap_alloc_new]; rfl
theorem new_frozen (w : World) (cs : Array Value) (t : TypeId) (i : Nat) : (w.alloc (.cells cs t)).frozen? ⟨w.heap.size, i, none⟩ = false := by simp only [World.frozen?, heap_alloc_new]; simp
theorem frozen_later {w w' : World} (hb : Below w.heap.size w w') {a : Addr} {f : Bool} (hlt : a.block < w.heap.size) (hf : w.frozen? a = f) : w'.frozen? a = f := (hb.frozen hlt).trans hf
theorem blk_cell {w : World} {b i : Nat} {cs : Array Value} {t : TypeId} {fr : Nat × Nat} (h : w.heap[b]? = some (.cells cs t fr)) : w.cell? ⟨b, i, none⟩ = cs[i]? := by simp [World.cell?, h]
theorem blk_frozen {w : World} {b i : Nat} {cs : Array Value} {t : TypeId} (h : w.heap[b]? = some (.cells cs t (0, 0))) : w.frozen? ⟨b, i, none⟩ = false := by simp [World.frozen?, h]
theorem blk_lt {w : World} {b : Nat} {o : Obj} (h : w.heap[b]? = some o) : b < w.heap.size := (Array.getElem?_eq_some_iff.1 h).1
theorem blk_alloc {w : World} {b : Nat} {o : Obj} (h : w.heap[b]? = some o) (o' : Obj) : (w.alloc o').heap[b]? = some o := (Below.heap_alloc w o' b (blk_lt h)).trans h
theorem blk_below {w w' : World} {b : Nat} {o : Obj} (hb : Below w.heap.size w w') (h : w.heap[b]? = some o) : w'.heap[b]? = some o := (hb.block b (blk_lt h)).trans h
theorem blk_grown {w w' : World} {row : Option Nat} {b : Nat} {o : Obj} (hg : w.grownBy w' row) (h : w.heap[b]? = some o) (hne : some b ≠ row) : w'.heap[b]? = some o := (hg.block b (blk_lt h) hne).trans h
theorem blk_set {w : World} {b i : Nat} {cs : Array Value} {t : TypeId} {fr : Nat × Nat} (h : w.heap[b]? = some (.cells cs t fr)) (u : Value) : (w.setCell ⟨b, i, none⟩ u).heap[b]? = some (.cells (cs.setIfInBounds i u) t fr) := by
  simp [World.setCell, Array.getElem?_modify, h]
theorem blk_far {w : World} {b : Nat} {o : Obj} (h : w.heap[b]? = some o) {p : Addr} (hne : b ≠ p.block) (u : Value) : (w.setCell p u).heap[b]? = some o := (Below.heap_setCell w p u b hne).trans h
theorem own_ne {w : World} {base : Nat} {e : TypeId} {size : Nat} {v : Value} {n : Nat} {xs : List Value} (h : w.ownsRow base e size v n xs) {b : Nat} (hb : b < base ∨ w.heap.size ≤ b) : some b ≠ v.ownBlock := fun e => by
  obtain ⟨h1, h2⟩ := h.lt b e.symm; omega
theorem own_base {w : World} {base : Nat} {e : TypeId} {size : Nat} {v : Value} {n : Nat} {xs : List Value} (h : w.ownsRow base e size v n xs) : ∀ k, v.ownBlock = some k → base ≤ k := fun k e => (h.lt k e).1
theorem frozen_below {w w' : World} (hb : Below w.heap.size w w') {a : Addr} {v : Value} {f : Bool} (h : w.cell? a = some v) (hf : w.frozen? a = f) : w'.frozen? a = f :=
  (hb.frozen (block_lt_of_cell h)).trans hf
theorem below_drewN {B : Nat} {a w : World} (h : Below B a w) (n : Nat) : Below B a (w.drewN n) := ⟨h.os, h.tape, h.output, h.size, h.block⟩
theorem below_trans' {a b c : World} (h : Below a.heap.size a b) (k : Below b.heap.size b c) : Below a.heap.size a c := h.trans (k.mono h.size)
theorem below_alloc' {a b : World} (h : Below a.heap.size a b) (o : Obj) : Below a.heap.size a (b.alloc o) := h.alloc h.size o

theorem below_alloc_of {a b c : World} {o : Obj} (h : Below a.heap.size a b) (k : Below (b.alloc o).heap.size (b.alloc o) c) : Below a.heap.size a c := below_trans' (below_alloc' h o) k
theorem below_drew_of {a b c : World} (h : Below a.heap.size a b) (k : Below b.drew.heap.size b.drew c) : Below a.heap.size a c := below_trans' h.drew k
theorem drewN_two (w : World) (a b : Nat) : ∃ q, (w.drewN a).drewN b = w.drewN q := ⟨a + b, World.drewN_drewN w a b⟩

section
variable {α : Type} {enc : α → List Value} {k : Nat} {w w' : World} {A : Option Addr} {l : List α}

def RowsAt (enc : α → List Value) (k : Nat) (w : World) (A : Option Addr) (l : List α) : Prop :=
  ∀ i (h : i < l.length), ∃ b off, A = some ⟨b, off, none⟩ ∧ ∀ j v, (enc l[i])[j]? = some v → w.cell? ⟨b, off + i * k + j, none⟩ = some v

theorem RowsAt.nil (A : Option Addr) : RowsAt enc k w A [] := fun i h => absurd h (by simp)
theorem RowsAt.below (h : RowsAt enc k w A l) (hb : Below w.heap.size w w') : RowsAt enc k w' A l := fun i hi => by
  obtain ⟨b, off, hA, hc⟩ := h i hi
  exact ⟨b, off, hA, fun j v hv => cell_below hb (hc j v hv)⟩
theorem RowsAt.drewN (h : RowsAt enc k w A l) (n : Nat) : RowsAt enc k (w.drewN n) A l := h
theorem RowsAt.drew (h : RowsAt enc k w A l) : RowsAt enc k w.drew A l := h
theorem RowsAt.alloc (h : RowsAt enc k w A l) (o : Obj) : RowsAt enc k (w.alloc o) A l := h.below ((Below.refl _ w).alloc (Nat.le_refl _) o)
theorem RowsAt.take (h : RowsAt enc k w A l) (n : Nat) : RowsAt enc k w A (l.take n) := fun i hi => by
  have hi' : i < l.length := by simp at hi; omega
  obtain ⟨b, off, hA, hc⟩ := h i hi'
  exact ⟨b, off, hA, fun j v hv => hc j v (by simpa using hv)⟩

theorem flatMap_at {l : List α} (hk : ∀ x, (enc x).length = k) : ∀ (i j : Nat) (hi : i < l.length) (v : Value), (enc l[i])[j]? = some v → (l.flatMap enc)[i * k + j]? = some v := by
  induction l with
  | nil => intro i j hi; simp at hi
  | cons x l ih =>
    intro i j hi v hv
    rw [List.flatMap_cons]
    cases i with
    | zero =>
      simp only [List.getElem_cons_zero] at hv
      have : j < (enc x).length := (List.getElem?_eq_some_iff.1 hv).1
      rw [Nat.zero_mul, Nat.zero_add, List.getElem?_append_left this]; exact hv
    | succ i =>
      have hi' : i < l.length := by simpa using hi
      simp only [List.getElem_cons_succ] at hv
      rw [List.getElem?_append_right (by rw [hk, Nat.succ_mul]; omega), hk, show (i + 1) * k + j - k = i * k + j from by rw [Nat.succ_mul]; omega]
      exact ih i j hi' v hv

theorem RowsAt.of_own {base : Nat} {e : TypeId} {c : Nat} (hk : ∀ x, (enc x).length = k) (h : w.ownsRow base e k (.slice A l.length c) l.length (l.flatMap enc)) : RowsAt enc k w A l := fun i hi => by
  obtain ⟨g, cap, hv, hg, hlt⟩ := h.form (by omega)
  injection hv with hA hn hc
  subst hA
  refine ⟨g, 0, rfl, fun j v hv => ?_⟩
  have h1 := h.cells (g := g) rfl (i * k + j) v (flatMap_at hk i j hi v hv)
  have hlt2 : i * k + j < (l.flatMap enc).length := (List.getElem?_eq_some_iff.1 (flatMap_at hk i j hi v hv)).1
  rw [Nat.zero_add]
  by_cases h0 : i * k + j = 0
  · rw [h0] at h1 ⊢; exact h1
  · unfold Addr.add at h1; rw [if_neg h0, Nat.zero_add] at h1; exact h1

theorem own_form {base : Nat} {e : TypeId} {v : Value} {n : Nat} {xs : List Value} (h : w.ownsRow base e k v n xs) : ∃ A c, v = .slice A n c ∧ n ≤ c := by
  rcases h.2 with ⟨rfl, rfl⟩ | ⟨g, cap, cur, rfl, _, _, hc, _⟩
  · exact ⟨none, 0, rfl, by omega⟩
  · exact ⟨_, _, rfl, hc⟩
end

def encI (x : Int) : List Value := [.int .i64 x]
def encR (x : Int × Int) : List Value := [.int .i64 x.1, .int .i64 x.2]
def IntsAt (w : World) (A : Option Addr) (l : List Int) : Prop := RowsAt encI 1 w A l
def RangesAt (w : World) (A : Option Addr) (l : List (Int × Int)) : Prop := RowsAt encR 2 w A l
theorem encI_len (x : Int) : (encI x).length = 1 := rfl
theorem encR_len (x : Int × Int) : (encR x).length = 2 := rfl

section
variable {w w' : World} {A : Option Addr}
theorem IntsAt.at_ {l : List Int} (h : IntsAt w A l) {i : Nat} (hi : i < l.length) : ∃ b off, A = some ⟨b, off, none⟩ ∧ w.cell? ⟨b, off + i, none⟩ = some (.int .i64 l[i]) := by
  obtain ⟨b, off, hA, hc⟩ := h i hi
  exact ⟨b, off, hA, by have := hc 0 _ rfl; simpa using this⟩
theorem RangesAt.at_ {l : List (Int × Int)} (h : RangesAt w A l) {i : Nat} (hi : i < l.length) : ∃ b off, A = some ⟨b, off, none⟩ ∧
    w.cell? ⟨b, off + i * 2, none⟩ = some (.int .i64 l[i].1) ∧ w.cell? ⟨b, off + i * 2 + 1, none⟩ = some (.int .i64 l[i].2) := by
  obtain ⟨b, off, hA, hc⟩ := h i hi
  exact ⟨b, off, hA, hc 0 _ rfl, hc 1 _ rfl⟩
theorem IntsAt.below {l : List Int} (h : IntsAt w A l) (hb : Below w.heap.size w w') : IntsAt w' A l := RowsAt.below h hb
theorem RangesAt.below {l : List (Int × Int)} (h : RangesAt w A l) (hb : Below w.heap.size w w') : RangesAt w' A l := RowsAt.below h hb
theorem IntsAt.drewN {l : List Int} (h : IntsAt w A l) (n : Nat) : IntsAt (w.drewN n) A l := h
theorem RangesAt.drewN {l : List (Int × Int)} (h : RangesAt w A l) (n : Nat) : RangesAt (w.drewN n) A l := h
theorem IntsAt.alloc {l : List Int} (h : IntsAt w A l) (o : Obj) : IntsAt (w.alloc o) A l := RowsAt.alloc h o
theorem RangesAt.alloc {l : List (Int × Int)} (h : RangesAt w A l) (o : Obj) : RangesAt (w.alloc o) A l := RowsAt.alloc h o
theorem IntsAt.nil : IntsAt w A [] := RowsAt.nil A
theorem RangesAt.nil : RangesAt w A [] := RowsAt.nil A
end

/-- A function value that answers a question of each x, in whatever world behind w0. -/
def Asks {α : Type} (w0 : World) (g : Nat) (first captured : Array Value) (encV : α → Value) (dom : α → Prop) (p : α → Bool) : Prop :=
  ∀ (W : World) (x : α), Below w0.heap.size w0 W → dom x → Calls Tryd.prog g (first ++ #[encV x] ++ captured) W (Ret fun v W' => v = .bool (p x) ∧ Below W.heap.size W W')
theorem Asks.below {α : Type} {w0 w1 : World} {g : Nat} {first captured : Array Value} {encV : α → Value} {dom : α → Prop} {p : α → Bool} (h : Asks w0 g first captured encV dom p) (hb : Below w0.heap.size w0 w1) :
    Asks w1 g first captured encV dom p := fun W x hW hd => h W x (below_trans' hb hW) hd

def vI (x : Int) : Value := .int .i64 x

def IdxQ {α : Type} (w : World) (p : α → Bool) (l : List α) (v : Value) (w' : World) : Prop := (∃ r : Int, v = .int .i64 r ∧ (decide (0 ≤ r) = l.any p)) ∧ Below w.heap.size w w'


theorem take_snoc {α : Type} {l : List α} {k : Nat} (hk : k < l.length) {x : α} (hx : l[k] = x) : l.take (k+1) = l.take k ++ [x] := by
  rw [List.take_succ_eq_append_getElem hk, hx]

theorem in_next {l : List Int} {n : Int} {k : Nat} (hk : k < l.length) {x : Int} (hx : l[k] = x) (h : (l.take k).contains n = false) (hn : (x == n) = false) : (l.take (k + 1)).contains n = false := by
  rw [take_snoc hk hx]
  simp only [List.contains_eq_any_beq, List.any_append, List.any_cons, List.any_nil, Bool.or_false] at h ⊢
  rw [h]
  rw [Bool.false_or]
  rw [beq_eq_false_iff_ne] at hn ⊢
  exact fun e => hn e.symm


theorem any_hit {α : Type} {p : α → Bool} {l : List α} {k : Nat} (hk : k < l.length) (h : p l[k] = true) : decide ((0 : Int) ≤ (k : Int)) = l.any p := by
  rw [show l.any p = true from List.any_eq_true.2 ⟨_, List.getElem_mem hk, h⟩]; simp

theorem any_miss {α : Type} {p : α → Bool} {l : List α} {k : Nat} (hk : ¬ k < l.length) (h : (l.take k).any p = false) : decide ((0 : Int) ≤ -1) = l.any p := by
  rw [List.take_of_length_le (by omega)] at h; rw [h]; simp

theorem any_next {α : Type} {p : α → Bool} {l : List α} {k : Nat} (hk : k < l.length) (h : (l.take k).any p = false) (h2 : p l[k] = false) : (l.take (k+1)).any p = false := by
  rw [List.take_succ_eq_append_getElem hk, List.any_append, h]; simpa using h2


theorem rows_new {α : Type} {enc : α → List Value} {k : Nat} (hk : ∀ x, (enc x).length = k) (w : World) (l : List α) (cs : Array Value) (t : TypeId) (h : cs.toList = l.flatMap enc) : RowsAt enc k (w.alloc (.cells cs t)) (some ⟨w.heap.size, 0, none⟩) l := fun i hi => by
  refine ⟨w.heap.size, 0, rfl, fun j v hv => ?_⟩
  rw [blk_cell (heap_alloc_new w _), Nat.zero_add, ← Array.getElem?_toList, h]
  exact flatMap_at hk i j hi v hv

theorem RowsAt.far {α : Type} {enc : α → List Value} {k : Nat} {w : World} {b off : Nat} {l : List α} (h : RowsAt enc k w (some ⟨b, off, none⟩) l) {p : Addr} (hne : b ≠ p.block) (u : Value) : RowsAt enc k (w.setCell p u) (some ⟨b, off, none⟩) l := fun i hi => by
  obtain ⟨b', off', hA, hc⟩ := h i hi
  refine ⟨b', off', hA, fun j v hv => cell_far (hc j v hv) fun e => ?_⟩
  injection hA with hA
  injection hA with e1
  rw [← e] at hne
  exact hne e1

theorem ints_new1 (w : World) (x : Int) (t : TypeId) : IntsAt (w.alloc (.cells #[.int .i64 x] t)) (some ⟨w.heap.size, 0, none⟩) [x] := fun i hi => by
  obtain rfl : i = 0 := by simp at hi; omega
  refine ⟨w.heap.size, 0, rfl, fun j v hv => ?_⟩
  obtain rfl : j = 0 := by
    have := (List.getElem?_eq_some_iff.1 hv).1
    simp [encI] at this; omega
  have hv' : Value.int .i64 x = v := by simpa [encI] using hv
  rw [← hv']
  exact new1_0 _ _ _


theorem any_one (p : Int → Bool) (x : Int) : ([x] : List Int).any p = p x := by simp
open Fam
def encT (x : St) : List Value := [.int .i64 x.1, .int .i64 x.2.1, .int .i64 x.2.2]
def vT (x : St) : Value := .agg #[.int .i64 x.1, .int .i64 x.2.1, .int .i64 x.2.2]
theorem encT_len (x : St) : (encT x).length = 3 := rfl
def StepsAt (w : World) (A : Option Addr) (l : List St) : Prop := RowsAt encT 3 w A l
theorem StepsAt.at_ {w : World} {A : Option Addr} {l : List St} (h : StepsAt w A l) {i : Nat} (hi : i < l.length) : ∃ b off, A = some ⟨b, off, none⟩ ∧
    w.cell? ⟨b, off + i * 3, none⟩ = some (.int .i64 l[i].1) ∧ w.cell? ⟨b, off + i * 3 + 1, none⟩ = some (.int .i64 l[i].2.1) ∧ w.cell? ⟨b, off + i * 3 + 2, none⟩ = some (.int .i64 l[i].2.2) := by
  obtain ⟨b, off, hA, hc⟩ := h i hi
  exact ⟨b, off, hA, hc 0 _ rfl, hc 1 _ rfl, hc 2 _ rfl⟩
theorem StepsAt.below {w w' : World} {A : Option Addr} {l : List St} (h : StepsAt w A l) (hb : Below w.heap.size w w') : StepsAt w' A l := RowsAt.below h hb
theorem StepsAt.alloc {w : World} {A : Option Addr} {l : List St} (h : StepsAt w A l) (o : Obj) : StepsAt (w.alloc o) A l := RowsAt.alloc h o
theorem new3_0 (w : World) (x y z : Value) (t : TypeId) : (w.alloc (.cells #[x, y, z] t)).cell? ⟨w.heap.size, 0, none⟩ = some x := by simp only [World.cell?, heap_alloc_new]; rfl
theorem new3_1 (w : World) (x y z : Value) (t : TypeId) : (w.alloc (.cells #[x, y, z] t)).cell? ⟨w.heap.size, 1, none⟩ = some y := by simp only [World.cell?, heap_alloc_new]; rfl
theorem new3_2 (w : World) (x y z : Value) (t : TypeId) : (w.alloc (.cells #[x, y, z] t)).cell? ⟨w.heap.size, 2, none⟩ = some z := by simp only [World.cell?, heap_alloc_new]; rfl
/-- a book, as it is handed over -/
def vBook (S R : Int) (A : Option Addr) (n ca : Nat) : Value := .agg #[.int .i64 S, .int .i64 R, .slice A n ca]
theorem heap_alloc_at {n : Nat} (w : World) (o : Obj) (h : w.heap.size = n) : (w.alloc o).heap[n]? = some o := by subst h; exact heap_alloc_new w o
end Go.Proofs.YtggcooplhodocaaDoor

namespace Go.Proofs.YtggcooplhodocaaDoor
open Go.RowKit Fam

set_option maxHeartbeats 400000 in
theorem in_any (A : Option Addr) (ca : Nat) (l : List Int) (n : Int) (w : World) (hl : IntsAt w A l) (hn : l.length ≤ 100000) :
    Calls Tryd.prog 46 #[.slice A l.length ca, .int .i64 n] w (Ret fun v w' => v = .bool (l.contains n) ∧ ∃ q, w' = w.drewN q) := by
  have Hl := Lib.hid hl; clear hl
  go_enter Tryd.func46, Tryd.ntmps46
  go_wp2
  go_loopw [5] (fun i wr => ∃ k q : Nat, k ≤ l.length ∧ i = .int .i64 k ∧ wr = w.drewN q ∧ Hid ((l.take k).contains n = false)) (fun i _ => l.length - (intOf i).toNat)
  case atStart => exact ⟨0, 0, by omega, rfl, rfl, by simp [Hid]⟩
  case round =>
    obtain ⟨k, q, hk, rfl, rfl, Hb⟩ := hrel
    by_cases hkn : k < l.length
    · obtain ⟨b, off, rfl, g1⟩ := Hl.out.at_ hkn
      generalize hx : l[k] = x at g1
      have Hx := Lib.hid hx
      clear hx
      have g1 : (w.drewN q).cell? ⟨b, off + k, none⟩ = some (.int .i64 x) := g1
      cases hq : (x == n)
      · have HN := Lib.hid (in_next hkn Hx.out Hb.out hq)
        go_wp2
        go_roundw
        case rel => exact ⟨k + 1, _, by omega, by go_num, rfl, HN⟩
        case measure => simp [intOf]; omega
      · have hc : l.contains n = true := by
          rw [List.contains_eq_any_beq, List.any_eq_true]
          exact ⟨x, by rw [← Hx.out]; exact List.getElem_mem hkn, by rw [beq_iff_eq] at hq ⊢; exact hq.symm⟩
        have HC := Lib.hid hc
        clear hc
        go_wp2
        go_ret
        exact Ret.mk' (by rw [HC.out]; rfl) ⟨rfl, q, rfl⟩
    · have hkl : k = l.length := by omega
      subst hkl
      have hb := Hb.out
      rw [List.take_length] at hb
      have HB := Lib.hid hb
      clear hb
      go_wp2
      go_ret
      exact Ret.mk' (by rw [HB.out]; rfl) ⟨rfl, q, rfl⟩

set_option maxHeartbeats 400000 in
theorem indexStep_any (A : Option Addr) (cap : Nat) (l : List St) (g : Nat) (fst cpt : Array Value) (dom : St → Prop) (p : St → Bool) (w : World) (hl : StepsAt w A l) (hn : l.length ≤ 100000)
    (hd : ∀ x ∈ l, dom x) (eg : ∀ args W, (callFunc g args).run Tryd.prog W = .ok (.enter g args) W) (hp : Asks w g fst cpt vT dom p) :
    Calls Tryd.prog 55 #[.slice A l.length cap, .func (.func g) fst cpt] w (Ret (IdxQ w p l)) := by

  go_enter Tryd.func55, Tryd.ntmps55
  go_wp2
  go_loopw [5, 8] (fun _ i wr => ∃ k : Nat, k ≤ l.length ∧ i = .int .i64 k ∧ Below w.heap.size w wr ∧ (l.take k).any p = false) (fun _ i _ => l.length - (intOf i).toNat)
  case atStart => exact ⟨0, by omega, rfl, Below.refl _ _, by simp⟩
  case round =>
    obtain ⟨k, hk, rfl, hB, hb⟩ := hrel
    by_cases hkn : k < l.length
    · obtain ⟨b, off, rfl, g1, g2, g3⟩ := (hl.below hB).at_ hkn
      have hc := hp wr l[k] hB (hd _ (List.getElem_mem hkn))
      generalize hx : l[k] = x at g1 g2 g3 hc
      obtain ⟨lo, hi, ch⟩ := x
      dsimp only [vT] at g1 g2 g3 hc
      have HB := Lib.hid hB
      have Hb := Lib.hid hb
      have Hc := Lib.hid hc
      have Hx := Lib.hid hx
      have Hp := Lib.hid hp
      clear hB hb hp hl hd hc hx
      cases hq : p (lo, hi, ch) with
      | true =>
        rw [hq] at Hc
        have Hq := Lib.hid hq
        clear hq
        go_wp2_with fail
        refine Hc.out.mono ?_
        rintro e w1 ⟨v, rfl, rfl, hB1⟩
        have HB1 := Lib.hid hB1; clear hB1
        go_wp2
        go_ret
        exact Ret.mk ⟨⟨_, rfl, any_hit hkn (by rw [Hx.out]; exact Hq.out)⟩, below_trans' HB.out HB1.out⟩
      | false =>
        rw [hq] at Hc
        have Hq := Lib.hid hq
        clear hq
        go_wp2_with fail
        refine Hc.out.mono ?_
        rintro e w1 ⟨v, rfl, rfl, hB1⟩
        have HB1 := Lib.hid hB1; clear hB1
        go_wp2
        go_roundw
        case rel => exact ⟨k + 1, by omega, by go_num, below_trans' HB.out HB1.out, any_next hkn Hb.out (by rw [Hx.out]; exact Hq.out)⟩
        case measure => simp [intOf]; omega
    · have HB := Lib.hid hB
      have Hb := Lib.hid hb
      clear hB hb hp hl hd
      go_wp2
      go_ret
      exact Ret.mk ⟨⟨_, rfl, any_miss hkn Hb.out⟩, HB.out⟩

set_option maxHeartbeats 400000 in
theorem containsStep_any (A : Option Addr) (cap : Nat) (l : List St) (g : Nat) (fst cpt : Array Value) (dom : St → Prop) (p : St → Bool) (w : World) (hl : StepsAt w A l) (hn : l.length ≤ 100000)
    (hd : ∀ x ∈ l, dom x) (eg : ∀ args W, (callFunc g args).run Tryd.prog W = .ok (.enter g args) W) (hp : Asks w g fst cpt vT dom p) :
    Calls Tryd.prog 41 #[.slice A l.length cap, .func (.func g) fst cpt] w (Ret fun v w' => v = .bool (l.any p) ∧ Below w.heap.size w w') := by
  go_enter Tryd.func41, Tryd.ntmps41
  have Hl := Lib.hid hl
  have Hd := Lib.hid hd
  have Hp := Lib.hid hp
  clear hl hd hp
  go_wp2_with fail
  refine (indexStep_any _ _ l g fst cpt dom p _ Hl.out hn Hd.out eg Hp.out).mono ?_
  rintro e w1 ⟨v, rfl, ⟨r, rfl, hr⟩, hB1⟩
  have Hr := Lib.hid hr; clear hr
  have HB1 := Lib.hid hB1; clear hB1
  go_wp2
  go_ret
  exact Ret.mk ⟨by rw [Hr.out]; rfl, HB1.out⟩
set_option maxHeartbeats 400000 in
theorem index64_any (A : Option Addr) (cap : Nat) (l : List (Int)) (g : Nat) (fst cpt : Array Value) (dom : Int → Prop) (p : Int → Bool) (w : World) (hl : IntsAt w A l) (hn : l.length ≤ 100000)
    (hd : ∀ x ∈ l, dom x) (eg : ∀ args W, (callFunc g args).run Tryd.prog W = .ok (.enter g args) W) (hp : Asks w g fst cpt vI dom p) :
    Calls Tryd.prog 57 #[.slice A l.length cap, .func (.func g) fst cpt] w (Ret (IdxQ w p l)) := by

  go_enter Tryd.func57, Tryd.ntmps57
  go_wp2
  go_loopw [5, 8] (fun _ i wr => ∃ k : Nat, k ≤ l.length ∧ i = .int .i64 k ∧ Below w.heap.size w wr ∧ (l.take k).any p = false) (fun _ i _ => l.length - (intOf i).toNat)
  case atStart => exact ⟨0, by omega, rfl, Below.refl _ _, by simp⟩
  case round =>
    obtain ⟨k, hk, rfl, hB, hb⟩ := hrel
    by_cases hkn : k < l.length
    · obtain ⟨b, off, rfl, g1⟩ := (hl.below hB).at_ hkn
      have hc := hp wr l[k] hB (hd _ (List.getElem_mem hkn))
      generalize hx : l[k] = x at g1 hc
      dsimp only [vI] at hc
      have HB := Lib.hid hB
      have Hb := Lib.hid hb
      have Hc := Lib.hid hc
      have Hx := Lib.hid hx
      have Hp := Lib.hid hp
      clear hB hb hp hl hd hc hx
      cases hq : p x with
      | true =>
        rw [hq] at Hc
        have Hq := Lib.hid hq
        clear hq
        go_wp2_with fail
        refine Hc.out.mono ?_
        rintro e w1 ⟨v, rfl, rfl, hB1⟩
        have HB1 := Lib.hid hB1; clear hB1
        go_wp2
        go_ret
        exact Ret.mk ⟨⟨_, rfl, any_hit hkn (by rw [Hx.out]; exact Hq.out)⟩, below_trans' HB.out HB1.out⟩
      | false =>
        rw [hq] at Hc
        have Hq := Lib.hid hq
        clear hq
        go_wp2_with fail
        refine Hc.out.mono ?_
        rintro e w1 ⟨v, rfl, rfl, hB1⟩
        have HB1 := Lib.hid hB1; clear hB1
        go_wp2
        go_roundw
        case rel => exact ⟨k + 1, by omega, by go_num, below_trans' HB.out HB1.out, any_next hkn Hb.out (by rw [Hx.out]; exact Hq.out)⟩
        case measure => simp [intOf]; omega
    · have HB := Lib.hid hB
      have Hb := Lib.hid hb
      clear hB hb hp hl hd
      go_wp2
      go_ret
      exact Ret.mk ⟨⟨_, rfl, any_miss hkn Hb.out⟩, HB.out⟩

set_option maxHeartbeats 400000 in
theorem contains64_any (A : Option Addr) (cap : Nat) (l : List (Int)) (g : Nat) (fst cpt : Array Value) (dom : Int → Prop) (p : Int → Bool) (w : World) (hl : IntsAt w A l) (hn : l.length ≤ 100000)
    (hd : ∀ x ∈ l, dom x) (eg : ∀ args W, (callFunc g args).run Tryd.prog W = .ok (.enter g args) W) (hp : Asks w g fst cpt vI dom p) :
    Calls Tryd.prog 44 #[.slice A l.length cap, .func (.func g) fst cpt] w (Ret fun v w' => v = .bool (l.any p) ∧ Below w.heap.size w w') := by
  go_enter Tryd.func44, Tryd.ntmps44
  have Hl := Lib.hid hl
  have Hd := Lib.hid hd
  have Hp := Lib.hid hp
  clear hl hd hp
  go_wp2_with fail
  refine (index64_any _ _ l g fst cpt dom p _ Hl.out hn Hd.out eg Hp.out).mono ?_
  rintro e w1 ⟨v, rfl, ⟨r, rfl, hr⟩, hB1⟩
  have Hr := Lib.hid hr; clear hr
  have HB1 := Lib.hid hB1; clear hB1
  go_wp2
  go_ret
  exact Ret.mk ⟨by rw [Hr.out]; rfl, HB1.out⟩
end Go.Proofs.YtggcooplhodocaaDoor

namespace Go.Proofs.YtggcooplhodocaaDoor
open Go.RowKit Fam

theorem rows_part {α : Type} [DecidableEq α] {a b : List α} {k : Nat} (hk : k < a.length) (hk' : k < b.length) (h2 : a[k] ≠ b[k]) : decide (a = b) = false := by
  simp only [decide_eq_false_iff_not]; rintro rfl; exact h2 rfl

theorem rows_end {α : Type} [DecidableEq α] {a b : List α} (hab : a.length = b.length) {k : Nat} (hk : ¬ k < a.length) (h : a.take k = b.take k) : decide (a = b) = true := by
  rw [List.take_of_length_le (by omega), List.take_of_length_le (by omega)] at h; simp [h]
theorem rows_next {α : Type} [DecidableEq α] {a b : List α} (hab : a.length = b.length) {k : Nat} (hk : k < a.length) (h : a.take k = b.take k) (h2 : a[k] = b[k]) : a.take (k+1) = b.take (k+1) := by
  rw [List.take_succ_eq_append_getElem hk, List.take_succ_eq_append_getElem (by omega), h, h2]
set_option maxHeartbeats 400000 in
theorem ints_any (A B : Option Addr) (ca cb : Nat) (a b : List Int) (w : World) (ha : IntsAt w A a) (hb : IntsAt w B b) (hn : a.length ≤ 100000) (_hm : b.length ≤ 100000) :
    Calls Tryd.prog 20 #[.slice A a.length ca, .slice B b.length cb] w (Ret fun v w' => v = .bool (decide (a = b)) ∧ ∃ q, w' = w.drewN q) := by
  have Ha := Lib.hid ha; clear ha
  have Hb := Lib.hid hb; clear hb
  by_cases h1 : a.length = b.length
  · have d1 : ((a.length : Int) != (b.length : Int)) = false := by simp [h1]
    have Hab := Lib.hid h1; clear h1
    go_enter Tryd.func20, Tryd.ntmps20
    go_wp2
    go_loopw [5] (fun i wr => ∃ k q : Nat, k ≤ a.length ∧ i = .int .i64 k ∧ wr = w.drewN q ∧ Hid (a.take k = b.take k)) (fun i _ => a.length - (intOf i).toNat)
    case atStart => exact ⟨0, 0, by omega, rfl, rfl, rfl⟩
    case round =>
      obtain ⟨k, q, hk, rfl, rfl, HT⟩ := hrel
      by_cases hkn : k < a.length
      · have hkm : k < b.length := by have := Hab.out; omega
        obtain ⟨b1, o1, rfl, g1⟩ := Ha.out.at_ hkn
        obtain ⟨b2, o2, rfl, g2⟩ := Hb.out.at_ hkm
        generalize hx : a[k] = x at g1
        generalize hy : b[k] = y at g2
        have Hx := Lib.hid hx; clear hx
        have Hy := Lib.hid hy; clear hy
        go_wp2
        go_quiet (fail)
        by_cases hxy : x = y
        · obtain rfl := hxy
          go_wp2
          go_roundw
          case rel => exact ⟨k + 1, _, by omega, by go_num, rfl, rows_next Hab.out hkn HT.out (by rw [Hx.out, Hy.out])⟩
          case measure => simp [intOf]; omega
        · have d2 : (x != y) = true := by simpa using hxy
          go_wp2
          go_ret
          exact Ret.mk' (by simp [rows_part hkn hkm (by rw [Hx.out, Hy.out]; exact hxy)]) ⟨rfl, (by first | exact ⟨_, rfl⟩ | exact drewN_two _ _ _)⟩
      · go_wp2
        go_ret
        exact Ret.mk' (by simp [rows_end Hab.out hkn HT.out]) ⟨rfl, (by first | exact ⟨_, rfl⟩ | exact drewN_two _ _ _)⟩
  · have d1 : ((a.length : Int) != (b.length : Int)) = true := by simp; omega
    go_enter Tryd.func20, Tryd.ntmps20
    go_wp2
    go_ret
    exact Ret.mk' (by simp; intro e; rw [e] at h1; exact h1 rfl) ⟨rfl, 0, rfl⟩


theorem great_any (S R : Int) (A : Option Addr) (n ca : Nat) (w : World) (_hn : n ≤ 9223372036854775807) :
    Calls Tryd.prog 12 #[vBook S R A n ca] w (Ret fun v w' => v = .bool (decide (210 < n)) ∧ Below w.heap.size w w') := by
  unfold vBook
  go_enter Tryd.func12, Tryd.ntmps12
  by_cases h : 210 < n
  all_goals
    go_wp2
    go_ret
    exact Ret.mk' (by simp only [show ∀ a : Nat, (210 < (a : Int)) = (210 < a) from fun a => propext (by omega), h, decide_false]; rfl) ⟨rfl, below_alloc' (Below.refl _ _) _⟩

set_option maxHeartbeats 400000 in
theorem step_any (a b c : Int) (w : World) : Calls Tryd.prog 30 #[.int .i64 a, .int .i64 b, .int .i64 c] w (Ret fun v w' => v = vT (a, b, c) ∧ Below w.heap.size w w') := by
  go_enter Tryd.func30, Tryd.ntmps30
  go_wp2
  exact bodyPost_ret (v := vT (a, b, c)) (by simp [vT, results, Tryd.results30, go_sem]) rfl (Ret.mk ⟨rfl, by first | exact (below_alloc' (Below.refl _ _) _) | exact ((Below.refl _ _).alloc (Nat.le_refl _) _).setCell (by simp) _⟩)

theorem rsong_any (S R : Int) (A : Option Addr) (n ca : Nat) (x : Int) (w : World) :
    Calls Tryd.prog 42 #[vBook S R A n ca, .int .i64 x] w (Ret fun v w' => v = .bool (songC S x) ∧ Below w.heap.size w w') := by
  unfold vBook
  go_enter Tryd.func42, Tryd.ntmps42
  by_cases c : 0 ≤ x
  · have d : decide (x ≥ 0) = true := by simpa using c
    go_wp2
    go_ret
    exact Ret.mk' (by unfold songC; rw [show decide (0 ≤ x) = true by simpa using c]; rfl) ⟨rfl, below_alloc' (Below.refl _ _) _⟩
  · have d : decide (x ≥ 0) = false := by simpa using c
    go_wp2
    go_ret
    exact Ret.mk' (by unfold songC; rw [show decide (0 ≤ x) = false by simpa using c]; rfl) ⟨rfl, below_alloc' (Below.refl _ _) _⟩

def offB (lo hi n : Int) : Bool := decide (n < lo) || decide (hi < n)
theorem entersW1 : ∀ args W, (callFunc 54 args).run Tryd.prog W = .ok (.enter 54 args) W := fun args W => by simp [go_sem]
theorem within1_any (n lo hi : Int) (b1 b2 : Nat) (w : World) (h1 : w.cell? ⟨b1, 0, none⟩ = some (.int .i64 lo)) (h2 : w.cell? ⟨b2, 0, none⟩ = some (.int .i64 hi)) :
    Calls Tryd.prog 54 #[.int .i64 n, .pointer (some ⟨b1, 0, none⟩), .pointer (some ⟨b2, 0, none⟩)] w (Ret fun v w' => v = .bool (offB lo hi n) ∧ Below w.heap.size w w') := by
  go_enter Tryd.func54, Tryd.ntmps54
  by_cases c : n < lo
  · have d : decide (n < lo) = true := by simpa using c
    go_wp2
    go_ret
    exact Ret.mk' (by unfold offB; rw [d]; rfl) ⟨rfl, Below.refl _ _⟩
  · have d : decide (n < lo) = false := by simpa using c
    go_wp2
    go_ret
    exact Ret.mk' (by unfold offB; rw [d]; rfl) ⟨rfl, Below.refl _ _⟩

set_option maxHeartbeats 400000 in
theorem within_any (A : Option Addr) (cap : Nat) (lo hi : Int) (l : List Int) (w : World) (hl : IntsAt w A l) (hn : l.length ≤ 100000) :
    Calls Tryd.prog 40 #[.int .i64 lo, .int .i64 hi, .slice A l.length cap] w (Ret fun v w' => v = .bool (!l.any (offB lo hi)) ∧ Below w.heap.size w w') := by
  have Hl := Lib.hid hl; clear hl
  have hmf : ∀ (fn : Fn) (first cap : Array Value) (w : World), (Instr.makeFunc fn first cap).run Tryd.prog w = .ok (.func fn first cap) w := fun _ _ _ _ => rfl
  obtain ⟨W, hW⟩ : ∃ W, W = (w.alloc (.cells #[.int .i64 lo] 2)).alloc (.cells #[.int .i64 hi] 2) := ⟨_, rfl⟩
  have p0 : W.cell? ⟨w.heap.size, 0, none⟩ = some (.int .i64 lo) := by rw [hW]; exact cell_alloc (new1_0 _ _ _) _
  have p1 : W.cell? ⟨w.heap.size + 1, 0, none⟩ = some (.int .i64 hi) := by rw [hW]; have := new1_0 (w.alloc (.cells #[.int .i64 lo] 2)) (.int .i64 hi) 2; rwa [World.size_alloc] at this
  have ha : Asks W 54 #[] #[.pointer (some ⟨w.heap.size, 0, none⟩), .pointer (some ⟨w.heap.size + 1, 0, none⟩)] vI (fun _ => True) (offB lo hi) := fun V x hV _ => within1_any x lo hi _ _ V (cell_below hV p0) (cell_below hV p1)
  have hc := contains64_any A cap l 54 #[] #[.pointer (some ⟨w.heap.size, 0, none⟩), .pointer (some ⟨w.heap.size + 1, 0, none⟩)] (fun _ => True) (offB lo hi) W (by rw [hW]; exact (Hl.out.alloc _).alloc _) hn (fun _ _ => trivial) entersW1 ha
  have Hc := Lib.hid hc
  have HB : Hid (Below w.heap.size w W) := Lib.hid (by rw [hW]; exact below_alloc' (below_alloc' (Below.refl _ _) _) _)
  clear hc ha p0 p1
  go_enter Tryd.func40, Tryd.ntmps40
  rw [hW] at Hc
  have HW := Lib.hid hW
  clear hW
  go_wp2_with fail
  refine Hc.out.mono ?_
  rintro e w1 ⟨v, rfl, rfl, hB1⟩
  have HB1 : Hid (Below w.heap.size w w1) := Lib.hid (below_trans' HB.out (by rw [HW.out]; exact hB1))
  clear hB1
  go_wp2
  go_ret
  exact Ret.mk' rfl ⟨rfl, HB1.out⟩

end Go.Proofs.YtggcooplhodocaaDoor

namespace Go.Proofs.YtggcooplhodocaaDoor
open Go.RowKit Fam

theorem enterscb1 : ∀ args W, (callFunc 38 args).run Tryd.prog W = .ok (.enter 38 args) W := fun args W => by simp [go_sem]
theorem enterscb2 : ∀ args W, (callFunc 39 args).run Tryd.prog W = .ok (.enter 39 args) W := fun args W => by simp [go_sem]
theorem cb1_any (S x : Int) (bb : Nat) (w : World) (h0 : w.cell? ⟨bb, 0, none⟩ = some (.int .i64 S)) :
    Calls Tryd.prog 38 #[.int .i64 x, .pointer (some ⟨bb, 0, none⟩)] w (Ret fun v w' => v = .bool (songC S x) ∧ Below w.heap.size w w') := by
  go_enter Tryd.func38, Tryd.ntmps38
  by_cases c : 0 ≤ x
  · have d : decide (x ≥ 0) = true := by simpa using c
    go_wp2
    go_ret
    exact Ret.mk' (by unfold songC; rw [show decide (0 ≤ x) = true by simpa using c]; rfl) ⟨rfl, Below.refl _ _⟩
  · have d : decide (x ≥ 0) = false := by simpa using c
    go_wp2
    go_ret
    exact Ret.mk' (by unfold songC; rw [show decide (0 ≤ x) = false by simpa using c]; rfl) ⟨rfl, Below.refl _ _⟩

set_option maxRecDepth 100000 in
set_option maxHeartbeats 1000000 in
theorem cb2_any (S : Int) (x : St) (bb fb : Nat) (w : World) (h0 : w.cell? ⟨bb, 0, none⟩ = some (.int .i64 S)) (hf : w.cell? ⟨fb, 0, none⟩ = some (.func (.func 38) #[] #[.pointer (some ⟨bb, 0, none⟩)])) :
    Calls Tryd.prog 39 #[vT x, .pointer (some ⟨fb, 0, none⟩)] w (Ret fun v w' => v = .bool (badC S x) ∧ Below w.heap.size w w') := by
  obtain ⟨x1, x2, x3⟩ := x
  unfold vT
  dsimp only
  have eg := enterscb1
  obtain ⟨w0, hw0⟩ : ∃ w0, w0 = w.alloc (.cells #[.int .i64 x1, .int .i64 x2, .int .i64 x3] 50) := ⟨_, rfl⟩
  have HB0 : Hid (Below w.heap.size w w0) := Lib.hid (by rw [hw0]; exact below_alloc' (Below.refl _ _) _)
  have f0 : w0.cell? ⟨fb, 0, none⟩ = some (.func (.func 38) #[] #[.pointer (some ⟨bb, 0, none⟩)]) := by rw [hw0]; exact cell_alloc hf _
  have g0 : w0.cell? ⟨bb, 0, none⟩ = some (.int .i64 S) := by rw [hw0]; exact cell_alloc h0 _
  have n0 : w0.cell? ⟨w.heap.size, 0, none⟩ = some (.int .i64 x1) := by rw [hw0]; exact new3_0 _ _ _ _ _
  have n1 : w0.cell? ⟨w.heap.size, 1, none⟩ = some (.int .i64 x2) := by rw [hw0]; exact new3_1 _ _ _ _ _
  have n2 : w0.cell? ⟨w.heap.size, 2, none⟩ = some (.int .i64 x3) := by rw [hw0]; exact new3_2 _ _ _ _ _
  clear h0 hf
  have Hc := Lib.hid (cb1_any S x1 bb w0 g0)
  go_enter Tryd.func39, Tryd.ntmps39
  rw [hw0] at f0 n0 n1 n2 Hc g0
  have HW0 := Lib.hid hw0
  clear hw0
  go_wp2_with fail
  refine Hc.out.mono ?_
  rintro e w1 ⟨v, rfl, rfl, hB1⟩
  rw [← HW0.out] at hB1 f0 n0 n1 n2 g0
  have HB1 := Lib.hid (below_trans' HB0.out hB1)
  replace f0 := cell_below hB1 f0
  replace g0 := cell_below hB1 g0
  replace n0 := cell_below hB1 n0
  replace n1 := cell_below hB1 n1
  replace n2 := cell_below hB1 n2
  clear hB1 Hc HW0
  cases c1 : songC S x1
  · have HF : Hid (badC S (x1, x2, x3) = true) := Lib.hid (by unfold badC; dsimp only; rw [c1]; rfl)
    clear c1
    go_wp2
    go_ret
    exact Ret.mk' (by rw [HF.out]; rfl) ⟨rfl, HB1.out⟩
  · have Hc := Lib.hid (cb1_any S x2 bb w1 g0)
    clear g0
    have H1 := Lib.hid c1; clear c1
    go_wp2_with fail
    refine Hc.out.mono ?_
    rintro e w2 ⟨v, rfl, rfl, hB2⟩
    have HB2 := Lib.hid (below_trans' HB1.out hB2)
    replace n0 := cell_below hB2 n0
    replace n1 := cell_below hB2 n1
    replace n2 := cell_below hB2 n2
    clear hB2 Hc
    cases c2 : songC S x2
    · have HF : Hid (badC S (x1, x2, x3) = true) := Lib.hid (by unfold badC; dsimp only; rw [H1.out, c2]; rfl)
      clear c2
      go_wp2
      go_ret
      exact Ret.mk' (by rw [HF.out]; rfl) ⟨rfl, HB2.out⟩
    · have H2 := Lib.hid c2; clear c2
      by_cases c3 : x1 = x2
      · have HF : Hid (badC S (x1, x2, x3) = true) := Lib.hid (by unfold badC; dsimp only; rw [H1.out, H2.out, show decide (x1 = x2) = true by simpa using c3]; rfl)
        have d3 : (x1 == x2) = true := by simpa using c3
        go_wp2
        go_ret
        exact Ret.mk' (by rw [HF.out]; rfl) ⟨rfl, HB2.out⟩
      · have d3 : (x1 == x2) = false := by simpa using c3
        have HF : Hid (badC S (x1, x2, x3) = offB 0 1000000 x3) := Lib.hid (by unfold badC offB; dsimp only; rw [H1.out, H2.out, show decide (x1 = x2) = false by simpa using c3]; rfl)
        have hc := within_any (some ⟨w2.heap.size, 0, none⟩) 1 0 1000000 [x3] (w2.alloc (.cells #[.int .i64 x3] 2)) (ints_new1 _ _ _) (by simp)
        rw [show ([x3] : List Int).length = 1 from rfl, any_one] at hc
        have Hc := Lib.hid hc
        clear hc c3
        go_wp2_with fail
        refine Hc.out.mono ?_
        rintro e w3 ⟨v, rfl, rfl, hB3⟩
        have HB3 := Lib.hid (below_trans' HB2.out (below_alloc_of (Below.refl _ _) hB3))
        clear hB3 Hc
        cases ho : offB 0 1000000 x3
        all_goals
          rw [ho] at HF
          clear ho
          go_wp2
          go_ret
          exact Ret.mk' (congrArg Value.bool HF.out.symm) ⟨rfl, HB3.out⟩

theorem book_many {S R : Int} {l : List St} (h : S < 1 ∨ 16 < S ∨ 200 < l.length) : bookErr S R l = 6 := by unfold bookErr; rw [if_pos h]
theorem book_in {S R : Int} {l : List St} (h : ¬ (S < 1 ∨ 16 < S ∨ 200 < l.length)) : bookErr S R l = if songC S R = false ∨ l.any (badC S) = true then 2 else 0 := by unfold bookErr; rw [if_neg h]

set_option maxRecDepth 100000 in
set_option maxHeartbeats 1000000 in
theorem checkBook_any (S R : Int) (A : Option Addr) (ca : Nat) (l : List St) (w : World) (hl : StepsAt w A l) (hn : l.length ≤ 100000) :
    Calls Tryd.prog 18 #[vBook S R A l.length ca] w (Ret fun v w' => v = .int .i64 (bookErr S R l) ∧ Below w.heap.size w w') := by
  have Hl := Lib.hid hl; clear hl
  unfold vBook
  have hmf : ∀ (fn : Fn) (first cap : Array Value) (w : World), (Instr.makeFunc fn first cap).run Tryd.prog w = .ok (.func fn first cap) w := fun _ _ _ _ => rfl
  have eg := enterscb1
  go_enter Tryd.func18, Tryd.ntmps18
  go_upto_region 3 with fail
  have hX := blk_alloc (heap_alloc_new w (.cells #[.int .i64 S, .int .i64 R, .slice A l.length ca] 24)) (.cells #[.func (.func 38) #[] #[.pointer (some ⟨w.heap.size, 0, none⟩)]] 69)
  have hF := heap_alloc_at (w.alloc (.cells #[.int .i64 S, .int .i64 R, .slice A l.length ca] 24)) (.cells #[.func (.func 38) #[] #[.pointer (some ⟨w.heap.size, 0, none⟩)]] 69) (n := w.heap.size + 1) (by simp)
  have HB0 : Hid (Below w.heap.size w ((w.alloc (.cells #[.int .i64 S, .int .i64 R, .slice A l.length ca] 24)).alloc (.cells #[.func (.func 38) #[] #[.pointer (some ⟨w.heap.size, 0, none⟩)]] 69))) := Lib.hid (below_alloc' (below_alloc' (Below.refl _ _) _) _)
  generalize (w.alloc (.cells #[.int .i64 S, .int .i64 R, .slice A l.length ca] 24)).alloc (.cells #[.func (.func 38) #[] #[.pointer (some ⟨w.heap.size, 0, none⟩)]] 69) = w0 at hX hF HB0 ⊢
  have y0 : w0.cell? ⟨w.heap.size, 0, none⟩ = some (.int .i64 S) := (blk_cell hX).trans rfl
  have y1 : w0.cell? ⟨w.heap.size, 1, none⟩ = some (.int .i64 R) := (blk_cell hX).trans rfl
  have y2 : w0.cell? ⟨w.heap.size, 2, none⟩ = some (.slice A l.length ca) := (blk_cell hX).trans rfl
  have f0 : w0.cell? ⟨w.heap.size + 1, 0, none⟩ = some (.func (.func 38) #[] #[.pointer (some ⟨w.heap.size, 0, none⟩)]) := (blk_cell hF).trans rfl
  clear hX hF
  by_cases c1 : S < 1
  · have HF := Lib.hid (book_many (R := R) (l := l) (.inl c1))
    go_wp2
    go_ret
    exact Ret.mk' (congrArg (Value.int .i64) HF.out.symm) ⟨rfl, HB0.out⟩
  by_cases c2 : 16 < S
  · have HF := Lib.hid (book_many (R := R) (l := l) (.inr (.inl c2)))
    have d2 : decide (S > 16) = true := by simpa using c2
    go_wp2
    go_ret
    exact Ret.mk' (congrArg (Value.int .i64) HF.out.symm) ⟨rfl, HB0.out⟩
  have d2 : decide (S > 16) = false := by simpa using c2
  by_cases c3 : 200 < l.length
  · have HF := Lib.hid (book_many (S := S) (R := R) (.inr (.inr c3)))
    have d3 : decide ((l.length : Int) > 200) = true := by simp; omega
    go_wp2
    go_ret
    exact Ret.mk' (congrArg (Value.int .i64) HF.out.symm) ⟨rfl, HB0.out⟩
  have d3 : decide ((l.length : Int) > 200) = false := by simp; omega
  have HE := Lib.hid (book_in (R := R) (by omega : ¬ (S < 1 ∨ 16 < S ∨ 200 < l.length)))
  have Hc := Lib.hid (cb1_any S R w.heap.size w0 y0)
  go_wp2_with fail
  refine Hc.out.mono ?_
  rintro e w1 ⟨v, rfl, rfl, hB1⟩
  have HB1 := Lib.hid (below_trans' HB0.out hB1)
  replace y0 := cell_below hB1 y0
  replace y2 := cell_below hB1 y2
  replace f0 := cell_below hB1 f0
  clear hB1 Hc y1
  cases hs : songC S R
  · have HF : Hid (bookErr S R l = 2) := Lib.hid (by rw [HE.out, if_pos (.inl hs)])
    clear hs
    go_wp2
    go_ret
    exact Ret.mk' (congrArg (Value.int .i64) HF.out.symm) ⟨rfl, HB1.out⟩
  · have ha : Asks w1 39 #[] #[.pointer (some ⟨w.heap.size + 1, 0, none⟩)] vT (fun _ => True) (badC S) := fun V x hV _ => cb2_any S x _ _ V (cell_below hV y0) (cell_below hV f0)
    have Hc := Lib.hid (containsStep_any A ca l 39 #[] #[.pointer (some ⟨w.heap.size + 1, 0, none⟩)] (fun _ => True) (badC S) w1 (Hl.out.below HB1.out) hn (fun _ _ => trivial) enterscb2 ha)
    have HS := Lib.hid hs
    clear ha hs f0 y0 HB0 Hl hmf eg
    go_wp2_with fail
    refine Hc.out.mono ?_
    rintro e w2 ⟨v, rfl, rfl, hB2⟩
    have HB2 := Lib.hid (below_trans' HB1.out hB2)
    clear hB2 Hc y2
    cases ho : l.any (badC S)
    · have HF : Hid (bookErr S R l = 0) := Lib.hid (by rw [HE.out, HS.out, ho]; rfl)
      clear ho
      go_wp2
      go_ret
      exact Ret.mk' (congrArg (Value.int .i64) HF.out.symm) ⟨rfl, HB2.out⟩
    · have HF : Hid (bookErr S R l = 2) := Lib.hid (by rw [HE.out, if_pos (.inr ho)])
      clear ho
      go_wp2
      go_ret
      exact Ret.mk' (congrArg (Value.int .i64) HF.out.symm) ⟨rfl, HB2.out⟩
end Go.Proofs.YtggcooplhodocaaDoor

namespace Go.Proofs.YtggcooplhodocaaDoor
open Go.RowKit Fam

theorem badC_songs {S x1 x2 x3 : Int} (h1 : songC S x1 = true) (h2 : songC S x2 = true) : badC S (x1, x2, x3) = (decide (x1 = x2) || decide (x3 < 0) || decide (1000000 < x3)) := by
  unfold badC; dsimp only; rw [h1, h2]; rfl
theorem book_hit {S R : Int} {l : List St} (h : ¬ (S < 1 ∨ 16 < S ∨ 200 < l.length)) {k : Nat} (hk : k < l.length) (hb : badC S l[k] = true) : bookErr S R l = 2 := by
  rw [book_in h, if_pos (.inr (List.any_eq_true.2 ⟨_, List.getElem_mem hk, hb⟩))]
theorem book_fine {S R : Int} {l : List St} (h : ¬ (S < 1 ∨ 16 < S ∨ 200 < l.length)) (hs : songC S R = true) {k : Nat} (hk : ¬ k < l.length) (hb : (l.take k).any (badC S) = false) : bookErr S R l = 0 := by
  rw [List.take_of_length_le (by omega)] at hb
  rw [book_in h, hs, hb]; rfl

set_option maxRecDepth 100000 in
set_option maxHeartbeats 2000000 in
theorem rCheckBook_any (S R : Int) (A : Option Addr) (ca : Nat) (l : List St) (w : World) (hl : StepsAt w A l) (hn : l.length ≤ 100000) :
    Calls Tryd.prog 19 #[vBook S R A l.length ca] w (Ret fun v w' => v = .int .i64 (bookErr S R l) ∧ Below w.heap.size w w') := by
  have Hl := Lib.hid hl; clear hl
  have hrs := rsong_any S R A l.length ca
  unfold vBook at hrs ⊢
  have Hrs := Lib.hid hrs; clear hrs
  go_enter Tryd.func19, Tryd.ntmps19
  go_upto_region 1 with fail
  have hX := heap_alloc_new w (.cells #[.int .i64 S, .int .i64 R, .slice A l.length ca] 24)
  have HB0 : Hid (Below w.heap.size w (w.alloc (.cells #[.int .i64 S, .int .i64 R, .slice A l.length ca] 24))) := Lib.hid (below_alloc' (Below.refl _ _) _)
  generalize w.alloc (.cells #[.int .i64 S, .int .i64 R, .slice A l.length ca] 24) = w0 at hX HB0 ⊢
  have y0 : w0.cell? ⟨w.heap.size, 0, none⟩ = some (.int .i64 S) := (blk_cell hX).trans rfl
  have y1 : w0.cell? ⟨w.heap.size, 1, none⟩ = some (.int .i64 R) := (blk_cell hX).trans rfl
  have y2 : w0.cell? ⟨w.heap.size, 2, none⟩ = some (.slice A l.length ca) := (blk_cell hX).trans rfl
  clear hX
  by_cases c1 : S < 1
  · have HF := Lib.hid (book_many (R := R) (l := l) (.inl c1))
    go_wp2
    go_ret
    exact Ret.mk' (congrArg (Value.int .i64) HF.out.symm) ⟨rfl, HB0.out⟩
  by_cases c2 : 16 < S
  · have HF := Lib.hid (book_many (R := R) (l := l) (.inr (.inl c2)))
    have d2 : decide (S > 16) = true := by simpa using c2
    go_wp2
    go_ret
    exact Ret.mk' (congrArg (Value.int .i64) HF.out.symm) ⟨rfl, HB0.out⟩
  have d2 : decide (S > 16) = false := by simpa using c2
  by_cases c3 : 200 < l.length
  · have HF := Lib.hid (book_many (S := S) (R := R) (.inr (.inr c3)))
    have d3 : decide ((l.length : Int) > 200) = true := by simp; omega
    go_wp2
    go_ret
    exact Ret.mk' (congrArg (Value.int .i64) HF.out.symm) ⟨rfl, HB0.out⟩
  have d3 : decide ((l.length : Int) > 200) = false := by simp; omega
  have HE := Lib.hid (by omega : ¬ (S < 1 ∨ 16 < S ∨ 200 < l.length))
  go_wp2_with fail
  refine (Hrs.out R w0).mono ?_
  rintro e w1 ⟨v, rfl, rfl, hB1⟩
  have HB1 := Lib.hid (below_trans' HB0.out hB1)
  replace y0 := cell_below hB1 y0
  replace y1 := cell_below hB1 y1
  replace y2 := cell_below hB1 y2
  replace Hl := Lib.hid ((Hl.out.below HB1.out))
  clear hB1 HB0
  cases hs : songC S R
  · have HF : Hid (bookErr S R l = 2) := Lib.hid (by rw [book_in HE.out, if_pos (.inl hs)])
    clear hs
    go_wp2
    go_ret
    exact Ret.mk' (congrArg (Value.int .i64) HF.out.symm) ⟨rfl, HB1.out⟩
  have HS := Lib.hid hs
  clear hs c1 c2 c3 d2 d3
  go_wp2
  go_loopw [3] (fun i wr => ∃ k : Nat, k ≤ l.length ∧ i = .int .i64 k ∧ Hid (Below w1.heap.size w1 wr) ∧ Hid ((l.take k).any (badC S) = false)) (fun i _ => l.length - (intOf i).toNat)
  case atStart => exact ⟨0, by omega, rfl, Lib.hid (Below.refl _ _), Lib.hid (by simp)⟩
  case round =>
    obtain ⟨k, hk, rfl, HB, HP⟩ := hrel
    replace y0 := cell_below HB.out y0
    replace y1 := cell_below HB.out y1
    replace y2 := cell_below HB.out y2
    obtain ⟨w2, hw2⟩ : ∃ w2, w2 = wr := ⟨_, rfl⟩
    subst hw2
    by_cases hkn : k < l.length
    · obtain ⟨b, off, rfl, g1, g2, g3⟩ := StepsAt.at_ (Hl.out.below HB.out) hkn
      have ij0 : (0 : Int) ≤ (k : Int) := by omega
      have ij1 : (k : Int) < (l.length : Int) := by omega
      have HHit := Lib.hid (fun hb => book_hit (R := R) HE.out hkn hb)
      have HNx := Lib.hid (fun hb => any_next (p := badC S) hkn HP.out hb)
      generalize l[k] = x at g1 g2 g3 HHit HNx
      obtain ⟨x1, x2, x3⟩ := x
      dsimp only at g1 g2 g3
      have hX := heap_alloc_new w2 (.cells #[.int .i64 x1, .int .i64 x2, .int .i64 x3] 50)
      have hba := below_alloc' (Below.refl w2.heap.size w2) (.cells #[.int .i64 x1, .int .i64 x2, .int .i64 x3] 50)
      go_upto_region 9 with fail
      have HB3 := Lib.hid (below_trans' HB.out hba)
      replace y0 := cell_below hba y0
      replace y1 := cell_below hba y1
      replace y2 := cell_below hba y2
      clear hba
      generalize w2.alloc (.cells #[.int .i64 x1, .int .i64 x2, .int .i64 x3] 50) = w3 at *
      have n0 : w3.cell? ⟨w2.heap.size, 0, none⟩ = some (.int .i64 x1) := (blk_cell hX).trans rfl
      have n1 : w3.cell? ⟨w2.heap.size, 1, none⟩ = some (.int .i64 x2) := (blk_cell hX).trans rfl
      have n2 : w3.cell? ⟨w2.heap.size, 2, none⟩ = some (.int .i64 x3) := (blk_cell hX).trans rfl
      clear hX HB HP
      go_wp2_with fail
      refine (Hrs.out x1 w3).mono ?_
      rintro e w4 ⟨v, rfl, rfl, hB4⟩
      have HB4 := Lib.hid (below_trans' HB3.out hB4)
      replace y0 := cell_below hB4 y0
      replace y1 := cell_below hB4 y1
      replace y2 := cell_below hB4 y2
      replace n0 := cell_below hB4 n0
      replace n1 := cell_below hB4 n1
      replace n2 := cell_below hB4 n2
      clear hB4 HB3
      cases h1 : songC S x1
      · have HF := Lib.hid (HHit.out (by unfold badC; dsimp only; rw [h1]; rfl))
        clear h1
        go_wp2
        go_ret
        exact Ret.mk' (congrArg (Value.int .i64) HF.out.symm) ⟨rfl, below_trans' HB1.out HB4.out⟩
      have H1 := Lib.hid h1; clear h1
      go_wp2_with fail
      refine (Hrs.out x2 w4).mono ?_
      rintro e w5 ⟨v, rfl, rfl, hB5⟩
      have HB5 := Lib.hid (below_trans' HB4.out hB5)
      replace n0 := cell_below hB5 n0
      replace n1 := cell_below hB5 n1
      replace n2 := cell_below hB5 n2
      clear hB5 HB4 y0 y1 y2
      cases h2 : songC S x2
      · have HF := Lib.hid (HHit.out (by unfold badC; dsimp only; rw [H1.out, h2]; rfl))
        clear h2
        go_wp2
        go_ret
        exact Ret.mk' (congrArg (Value.int .i64) HF.out.symm) ⟨rfl, below_trans' HB1.out HB5.out⟩
      have HBd := Lib.hid (badC_songs (x3 := x3) H1.out h2)
      clear h2 H1
      by_cases h3 : x1 = x2
      · have HF := Lib.hid (HHit.out (by rw [HBd.out]; simp [h3]))
        have d3 : (x1 == x2) = true := by simpa using h3
        go_wp2
        go_ret
        exact Ret.mk' (congrArg (Value.int .i64) HF.out.symm) ⟨rfl, below_trans' HB1.out HB5.out⟩
      have d3 : (x1 == x2) = false := by simpa using h3
      by_cases h4 : x3 < 0
      · have HF := Lib.hid (HHit.out (by rw [HBd.out]; simp [h4]))
        go_wp2
        go_ret
        exact Ret.mk' (congrArg (Value.int .i64) HF.out.symm) ⟨rfl, below_trans' HB1.out HB5.out⟩
      by_cases h5 : 1000000 < x3
      · have HF := Lib.hid (HHit.out (by rw [HBd.out]; simp [h5]))
        have d5 : decide (x3 > 1000000) = true := by simpa using h5
        go_wp2
        go_ret
        exact Ret.mk' (congrArg (Value.int .i64) HF.out.symm) ⟨rfl, below_trans' HB1.out HB5.out⟩
      have d5 : decide (x3 > 1000000) = false := by simpa using h5
      have HF := Lib.hid (HNx.out (by rw [HBd.out]; simp [h3, h4]; omega))
      go_wp2
      go_roundw
      case rel => exact ⟨k + 1, by omega, by go_num, HB5, HF⟩
      case measure => simp [intOf]; omega
    · have HF := Lib.hid (book_fine HE.out HS.out hkn HP.out)
      go_wp2
      go_ret
      exact Ret.mk' (congrArg (Value.int .i64) HF.out.symm) ⟨rfl, below_trans' HB1.out HB.out⟩
end Go.Proofs.YtggcooplhodocaaDoor

namespace Go.Proofs.YtggcooplhodocaaDoor
open Go.RowKit Fam

/-- a pair of numbers, as it is returned -/
def vP (p : Int × Int) : Value := .tuple #[.int .i64 p.1, .int .i64 p.2]
theorem vP_of {p : Int × Int} {a b : Int} (h : p = (a, b)) : Value.tuple #[.int .i64 a, .int .i64 b] = vP p := by rw [h]; rfl
theorem num_root {R : Int} {l : List St} {n : Nat} {x : Int} (e : (n : Int) = R) : numC R l n x = decide (x = -1) := by unfold numC; rw [if_pos e]
theorem num_other {R : Int} {l : List St} {n : Nat} {x : Int} (e : (n : Int) ≠ R) : numC R l n x = (decide (0 ≤ x) && decide (x < l.length) && decide ((stAt l x.toNat).2.1 = n)) := by unfold numC; rw [if_neg e]
theorem upto_next {R : Int} {l : List St} {t : List Int} {k : Nat} (h : ∀ n (hn : n < t.length), n < k → numC R l n t[n] = true) (hk : k < t.length) (hx : numC R l k t[k] = true) : ∀ n (hn : n < t.length), n < k + 1 → numC R l n t[n] = true := fun n hn hl => by
  by_cases e : n = k
  · subst e; exact hx
  · exact h n hn (by omega)

set_option maxRecDepth 100000 in
set_option maxHeartbeats 4000000 in
theorem checkTree_any (S R : Int) (A B : Option Addr) (ca cb : Nat) (l : List St) (t : List Int) (w : World) (hl : StepsAt w A l) (ht : IntsAt w B t) (hn : l.length ≤ 100000) (hm : t.length ≤ 100000) :
    Calls Tryd.prog 14 #[vBook S R A l.length ca, .slice B t.length cb] w (Ret fun v w' => v = vP (treeV S R l t) ∧ Below w.heap.size w w') := by
  have Hl := Lib.hid hl; clear hl
  have Ht := Lib.hid ht; clear ht
  have hcb := checkBook_any S R A ca l
  unfold vBook at hcb ⊢
  have Hcb := Lib.hid hcb; clear hcb
  go_enter Tryd.func14, Tryd.ntmps14
  go_upto_region 1 with fail
  have hX := heap_alloc_new w (.cells #[.int .i64 S, .int .i64 R, .slice A l.length ca] 24)
  have HB0 : Hid (Below w.heap.size w (w.alloc (.cells #[.int .i64 S, .int .i64 R, .slice A l.length ca] 24))) := Lib.hid (below_alloc' (Below.refl _ _) _)
  generalize w.alloc (.cells #[.int .i64 S, .int .i64 R, .slice A l.length ca] 24) = w0 at hX HB0 ⊢
  have y0 : w0.cell? ⟨w.heap.size, 0, none⟩ = some (.int .i64 S) := (blk_cell hX).trans rfl
  have y1 : w0.cell? ⟨w.heap.size, 1, none⟩ = some (.int .i64 R) := (blk_cell hX).trans rfl
  have y2 : w0.cell? ⟨w.heap.size, 2, none⟩ = some (.slice A l.length ca) := (blk_cell hX).trans rfl
  clear hX
  replace Hl := Lib.hid (Hl.out.below HB0.out)
  replace Ht := Lib.hid (Ht.out.below HB0.out)
  go_wp2_with fail
  refine (Hcb.out w0 Hl.out hn).mono ?_
  rintro e w1 ⟨v, rfl, rfl, hB1⟩
  have HB1 := Lib.hid (below_trans' HB0.out hB1)
  replace y0 := cell_below hB1 y0
  replace y1 := cell_below hB1 y1
  replace y2 := cell_below hB1 y2
  replace Hl := Lib.hid ((Hl.out.below hB1))
  replace Ht := Lib.hid ((Ht.out.below hB1))
  clear hB1 HB0 Hcb
  by_cases he : bookErr S R l = 0
  rotate_left 1
  · have HF := Lib.hid (treeV_err (t := t) he)
    have d1 : (bookErr S R l != 0) = true := by simpa using he
    generalize bookErr S R l = er at d1 HF
    go_wp2
    go_ret2
    exact Ret.mk' (vP_of HF.out) ⟨rfl, HB1.out⟩
  have HK := Lib.hid (bookErr_iff.1 he)
  rw [he]
  clear he
  have hr := HK.out.root
  have hdim := HK.out.dim
  by_cases hlen : (t.length : Int) = S
  rotate_left 1
  · have HF := Lib.hid (treeV_len HK.out hlen)
    have d1 : ((t.length : Int) != S) = true := by simpa using hlen
    clear hlen
    go_wp2
    go_ret2
    exact Ret.mk' (vP_of HF.out) ⟨rfl, HB1.out⟩
  have d1 : ((t.length : Int) != S) = false := by simpa using hlen
  have HL : Hid (t.length = S.toNat) := Lib.hid (by omega)
  clear hlen
  go_wp2
  clear d1
  go_loopw [26] (fun i wr => ∃ k q : Nat, k ≤ t.length ∧ i = .int .i64 k ∧ wr = w1.drewN q ∧ Hid (∀ n (hn : n < t.length), n < k → numC R l n t[n] = true)) (fun i _ => t.length - (intOf i).toNat)
  case atStart => exact ⟨0, 0, by omega, rfl, rfl, Lib.hid fun n _ h => absurd h (by omega)⟩
  case round =>
    obtain ⟨k, q, hk, rfl, rfl, HN⟩ := hrel
    have y0 : (w1.drewN q).cell? ⟨w.heap.size, 0, none⟩ = some (.int .i64 S) := y0
    have y1 : (w1.drewN q).cell? ⟨w.heap.size, 1, none⟩ = some (.int .i64 R) := y1
    have y2 : (w1.drewN q).cell? ⟨w.heap.size, 2, none⟩ = some (.slice A l.length ca) := y2
    by_cases hkn : k < t.length
    · obtain ⟨b1, o1, rfl, g1⟩ := Ht.out.at_ hkn
      have g1 : (w1.drewN q).cell? ⟨b1, o1 + k, none⟩ = some (.int .i64 t[k]) := g1
      have ij0 : (0 : Int) ≤ (k : Int) := by omega
      have ij1 : (k : Int) < (t.length : Int) := by omega
      have HNx := Lib.hid (fun hx => upto_next HN.out hkn hx)
      have HBad := Lib.hid (fun hx => treeV_num HK.out HL.out hkn hx)
      generalize t[k] = x at g1 HNx HBad
      by_cases e : (k : Int) = R
      · rw [num_root e] at HNx HBad
        have e0 : ((k : Int) == R) = true := by simpa using e
        have e1 : ((k : Int) != R) = false := by simpa using e
        clear e
        by_cases ex : x = -1
        · have d2 : (x != -1) = false := by simpa using ex
          have HNy := Lib.hid (HNx.out (by simpa using ex))
          clear HNx HBad
          go_wp2
          go_roundw
          case rel => exact ⟨k + 1, q, by omega, by go_num, rfl, HNy⟩
          case measure => simp [intOf]; omega
        · have d2 : (x != -1) = true := by simpa using ex
          have HF := Lib.hid (HBad.out (by simpa using ex))
          clear HNx HBad
          go_wp2
          go_ret2
          exact Ret.mk' (vP_of HF.out) ⟨rfl, below_drewN HB1.out _⟩
      · rw [num_other e] at HNx HBad
        have e0 : ((k : Int) == R) = false := by simpa using e
        have e1 : ((k : Int) != R) = true := by simpa using e
        by_cases c1 : x < 0
        · have HF := Lib.hid (HBad.out (by rw [show decide (0 ≤ x) = false by simp; omega]; rfl))
          clear HNx HBad
          go_wp2
          go_ret2
          exact Ret.mk' (vP_of HF.out) ⟨rfl, below_drewN HB1.out _⟩
        by_cases c2 : (l.length : Int) ≤ x
        · have HF := Lib.hid (HBad.out (by rw [show decide (x < (l.length : Int)) = false by simp; omega, Bool.and_false]; rfl))
          have d2 : decide (x ≥ (l.length : Int)) = true := by simpa using c2
          clear HNx HBad
          go_wp2
          go_ret2
          exact Ret.mk' (vP_of HF.out) ⟨rfl, below_drewN HB1.out _⟩
        have d2 : decide (x ≥ (l.length : Int)) = false := by simpa using c2
        obtain ⟨i, rfl⟩ := Int.eq_ofNat_of_zero_le (by omega : 0 ≤ x)
        have hil : i < l.length := by omega
        obtain ⟨b2, o2, rfl, p1, p2, p3⟩ := StepsAt.at_ Hl.out hil
        have p2 : (w1.drewN q).cell? ⟨b2, o2 + i * 3 + 1, none⟩ = some (.int .i64 l[i].2.1) := p2
        rw [Int.toNat_natCast, stAt_eq hil] at HNx HBad
        generalize l[i] = s at p2 HNx HBad
        obtain ⟨s1, s2, s3⟩ := s
        dsimp only at p2 HNx HBad
        clear p1 p3
        have x0 : (0 : Int) ≤ (i : Int) := by omega
        have x1 : (i : Int) < (l.length : Int) := by omega
        by_cases c3 : s2 = (k : Int)
        · have HNy := Lib.hid (HNx.out (by simp [c3, hil]))
          have d3 : (s2 != (k : Int)) = false := by simpa using c3
          clear HNx HBad c3
          go_wp2
          go_roundw
          case rel => exact ⟨k + 1, q, by omega, by go_num, rfl, HNy⟩
          case measure => simp [intOf]; omega
        · have HF := Lib.hid (HBad.out (by simp [c3]))
          have d3 : (s2 != (k : Int)) = true := by simpa using c3
          clear HNx HBad
          go_wp2
          go_ret2
          exact Ret.mk' (vP_of HF.out) ⟨rfl, below_drewN HB1.out _⟩
    · have HA : Hid (∀ n (hn : n < t.length), numC R l n t[n] = true) := Lib.hid fun n hn => HN.out n hn (by omega)
      clear HN
      obtain ⟨w2, hw2⟩ : ∃ w2, w2 = w1.drewN q := ⟨_, rfl⟩
      have Hl2 : Hid (StepsAt w2 A l) := Lib.hid (by rw [hw2]; exact Hl.out)
      have Ht2 : Hid (IntsAt w2 B t) := Lib.hid (by rw [hw2]; exact Ht.out)
      have HB2 : Hid (Below w.heap.size w w2) := Lib.hid (by rw [hw2]; exact below_drewN HB1.out _)
      clear Hl Ht HB1
      rw [← hw2] at y0 y1 y2
      go_wp2
      rw [← hw2]
      clear hw2
      go_loopw [9, 69] (fun s9 i wr => ∃ k q : Nat, k ≤ t.length ∧ i = .int .i64 k ∧ s9 = .int .i64 (csum S R l t k) ∧ wr = w2.drewN q ∧ Hid (∀ v, v < k → (back (netB S R l) (treeF t) (S.toNat + 1) v : Int) = R)) (fun _ i _ => t.length - (intOf i).toNat)
      case atStart => exact ⟨0, 0, by omega, rfl, rfl, rfl, Lib.hid fun v h => absurd h (by omega)⟩
      case round =>
        obtain ⟨k, q, hk, rfl, rfl, rfl, HBk⟩ := hrel
        have y0 : (w2.drewN q).cell? ⟨w.heap.size, 0, none⟩ = some (.int .i64 S) := y0
        have y1 : (w2.drewN q).cell? ⟨w.heap.size, 1, none⟩ = some (.int .i64 R) := y1
        have y2 : (w2.drewN q).cell? ⟨w.heap.size, 2, none⟩ = some (.slice A l.length ca) := y2
        have hcs := csum_bound HK.out HA.out k hk
        by_cases hkn : k < t.length
        · obtain ⟨b1, o1, rfl, g1⟩ := Ht2.out.at_ hkn
          have g1 : (w2.drewN q).cell? ⟨b1, o1 + k, none⟩ = some (.int .i64 t[k]) := g1
          have ij0 : (0 : Int) ≤ (k : Int) := by omega
          have ij1 : (k : Int) < (t.length : Int) := by omega
          by_cases e : (k : Int) = R
          · have e0 : ((k : Int) == R) = true := by simpa using e
            have HS := Lib.hid (csum_root (S := S) (l := l) (t := t) hr.1 e)
            have HBn : Hid (∀ v, v < k + 1 → (back (netB S R l) (treeF t) (S.toNat + 1) v : Int) = R) := Lib.hid fun v hv => by
              by_cases ev : v = k
              · subst ev
                exact back_stay (c := 0) hr.1 (by rw [back_zero]; exact e) (by omega)
              · exact HBk.out v (by omega)
            clear e HBk
            generalize t[k] = x at g1
            go_wp2
            go_step3
            go_wp2
            rw [Exit.noGoto_exit]
            go_wp2
            go_roundw
            case rel => exact ⟨k + 1, q, by omega, by go_num, congrArg (Value.int .i64) HS.out.symm, rfl, HBn⟩
            case measure => simp [intOf]; omega
          · have hnum := HA.out k hkn
            rw [num_other e] at hnum
            simp only [Bool.and_eq_true, decide_eq_true_eq] at hnum
            have HS := Lib.hid (csum_step (S := S) (l := l) e hr.1 hkn)
            have e0 : ((k : Int) == R) = false := by simpa using e
            have HE := Lib.hid e
            clear e
            generalize t[k] = x at g1 hnum HS
            obtain ⟨⟨n1, n2⟩, _⟩ := hnum
            obtain ⟨i, rfl⟩ := Int.eq_ofNat_of_zero_le n1
            have hil : i < l.length := by omega
            obtain ⟨b2, o2, rfl, p1, p2, p3⟩ := StepsAt.at_ Hl2.out hil
            have p3 : (w2.drewN q).cell? ⟨b2, o2 + i * 3 + 2, none⟩ = some (.int .i64 l[i].2.2) := p3
            rw [Int.toNat_natCast, stAt_eq hil] at HS
            have hb3 := (HK.out.stp _ (List.getElem_mem hil)).2.2.2
            generalize l[i] = s at p3 HS hb3
            obtain ⟨s1, s2, s3⟩ := s
            dsimp only at p3 HS hb3
            clear p1 p2
            have hcs2 := csum_bound HK.out HA.out (k + 1) (by omega)
            rw [HS.out] at hcs2
            generalize csum S R l t k = cs at HS hcs hcs2 ⊢
            have hwr : IntKind.i64.wrap (cs + s3) = cs + s3 := IntWalk.i64_in _ (by omega)
            go_wp2
            go_step3
            go_wp2
            go_step3
            go_wp2
            obtain ⟨wo, hwo⟩ : ∃ wo, wo = w2.drewN q := ⟨_, rfl⟩
            have y0' : wo.cell? ⟨w.heap.size, 0, none⟩ = some (.int .i64 S) := by rw [hwo]; exact y0
            have y1' : wo.cell? ⟨w.heap.size, 1, none⟩ = some (.int .i64 R) := by rw [hwo]; exact y1
            have y2' : wo.cell? ⟨w.heap.size, 2, none⟩ = some (.slice (some ⟨b2, o2, none⟩) l.length ca) := by rw [hwo]; exact y2
            have HT3 : Hid (IntsAt wo (some ⟨b1, o1, none⟩) t) := Lib.hid (by rw [hwo]; exact Ht2.out)
            have HL3 : Hid (StepsAt wo (some ⟨b2, o2, none⟩) l) := Lib.hid (by rw [hwo]; exact Hl2.out)
            have HWO := Lib.hid hwo
            rw [← hwo]
            clear hwo y0 y1 y2 g1 p3 hcs hcs2
            go_loopw [12, 13] (fun s12 s13 wr => ∃ c q : Nat, c ≤ S.toNat + 1 ∧ s13 = .int .i64 c ∧ s12 = .int .i64 (back (netB S R l) (treeF t) c k : Nat) ∧ wr = wo.drewN q) (fun _ s13 _ => S.toNat + 2 - (intOf s13).toNat)
            case atStart => exact ⟨0, 0, by omega, rfl, rfl, rfl⟩
            case round =>
              obtain ⟨c, q2, hc, rfl, rfl, rfl⟩ := hrel
              have y0 : (wo.drewN q2).cell? ⟨w.heap.size, 0, none⟩ = some (.int .i64 S) := y0'
              have y1 : (wo.drewN q2).cell? ⟨w.heap.size, 1, none⟩ = some (.int .i64 R) := y1'
              have y2 : (wo.drewN q2).cell? ⟨w.heap.size, 2, none⟩ = some (.slice (some ⟨b2, o2, none⟩) l.length ca) := y2'
              obtain ⟨ba, hnx⟩ := back_next (c := c) (v := k) HK.out HL.out HA.out hkn
              have HNX := Lib.hid hnx
              clear hnx
              by_cases ea : (back (netB S R l) (treeF t) c k : Int) = R
              · have HBn : Hid (∀ v, v < k + 1 → (back (netB S R l) (treeF t) (S.toNat + 1) v : Int) = R) := Lib.hid fun v hv => by
                  by_cases ev : v = k
                  · subst ev
                    exact back_stay hr.1 ea hc
                  · exact HBk.out v (by omega)
                have e2 : ((back (netB S R l) (treeF t) c k : Int) != R) = false := by simpa using ea
                clear ea HNX HBk
                generalize back (netB S R l) (treeF t) c k = a at ba e2 ⊢
                go_wp2
                try rw [Exit.noGoto_normal]
                go_wp2
                go_roundw
                case rel => exact ⟨k + 1, q + q2, by omega, by go_num, congrArg (Value.int .i64) HS.out.symm, by rw [HWO.out]; exact World.drewN_drewN _ _ _, HBn⟩
                case measure => simp [intOf]; omega
              · have e2 : ((back (netB S R l) (treeF t) c k : Int) != R) = true := by simpa using ea
                by_cases hcS : c = S.toNat + 1
                · have HF := Lib.hid (treeV_rule HK.out HL.out HA.out (c := c) (by omega) hkn ea)
                  have d4 : decide ((c : Int) > S) = true := by simp; omega
                  clear ea HNX HBk
                  generalize back (netB S R l) (treeF t) c k = a at ba e2 ⊢
                  go_wp2
                  try rw [Exit.noGoto_ret]
                  go_ret2
                  exact Ret.mk' (vP_of HF.out) ⟨rfl, below_drewN (by rw [HWO.out]; exact below_drewN HB2.out _) _⟩
                · have d4 : decide ((c : Int) > S) = false := by simp; omega
                  generalize hA : back (netB S R l) (treeF t) c k = a at ba e2 HNX ea ⊢
                  obtain ⟨_, m1, m2, m3, m4⟩ := HNX.out a rfl ea
                  obtain ⟨b3, o3, hb3, g1⟩ := HT3.out.at_ ba
                  injection hb3 with hb3
                  injection hb3 with e4 e5
                  subst e4 e5
                  generalize t[a] = x at g1 m1 m2 m3 m4
                  obtain ⟨j, rfl⟩ := Int.eq_ofNat_of_zero_le m1
                  have hjl : j < l.length := by omega
                  obtain ⟨b4, o4, hb4, p1, p2, p3⟩ := StepsAt.at_ HL3.out hjl
                  injection hb4 with hb4
                  injection hb4 with e4 e5
                  subst e4 e5
                  rw [Int.toNat_natCast, stAt_eq hjl] at m3 m4
                  generalize l[j] = z at p1 m3 m4
                  obtain ⟨z1, z2, z3⟩ := z
                  dsimp only at p1 m3 m4
                  have HM := Lib.hid m4
                  clear p2 p3 m4 ea HNX hA
                  have ia0 : (0 : Int) ≤ (a : Int) := by omega
                  have ia1 : (a : Int) < (t.length : Int) := by omega
                  have j0 : (0 : Int) ≤ (j : Int) := by omega
                  have j1 : (j : Int) < (l.length : Int) := by omega
                  have hwc : IntKind.i64.wrap ((c : Int) + 1) = (c : Int) + 1 := IntWalk.i64_in _ (by omega)
                  go_wp2
                  go_quiet (fail)
                  go_wp2
                  go_roundw
                  case rel => exact ⟨c + 1, _, by omega, by go_num, congrArg (Value.int .i64) HM.out.symm, rfl⟩
                  case measure => simp [intOf]; omega
        · have hkl : k = t.length := by omega
          subst hkl
          have HF := Lib.hid (treeV_good HK.out HL.out HA.out (c := S.toNat + 1) (by omega) HBk.out)
          generalize csum S R l t t.length = cs at HF hcs ⊢
          go_wp2
          go_ret2
          exact Ret.mk' (vP_of HF.out) ⟨rfl, below_drewN HB2.out _⟩
end Go.Proofs.YtggcooplhodocaaDoor
