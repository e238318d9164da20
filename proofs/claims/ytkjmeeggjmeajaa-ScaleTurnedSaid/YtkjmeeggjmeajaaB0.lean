/- Words for memory and for posts, shared by the walks of this seat. -/
import Derived.Test.YtkjmeeggjmeajaaRows
import Derived.Maps.AppendAt
import Derived.Deep.AppendLies
import Derived.WalkKit
import Derived.WalkSpells
import Derived.WalkLawsBesides
import Derived.BigQuiet
import Derived.Deep.QuietTactic
import Derived.Lib.Hide
namespace Go.Proofs.Ytkjmeeggjmeajaa
open Go.RowKit

def Ret (Q : Value → World → Prop) (e : Ending) (w' : World) : Prop := ∃ v, e = .returned v ∧ Q v w'
theorem Ret.mk {Q : Value → World → Prop} {v : Value} {w' : World} (h : Q v w') : Ret Q (.returned v) w' := ⟨v, rfl, h⟩
theorem Ret.mk' {Q : Value → World → Prop} {u v : Value} {w' : World} (e : u = v) (h : Q v w') : Ret Q (.returned u) w' := ⟨v, by rw [e], h⟩

theorem block_lt_of_cell {w : World} {a : Addr} {v : Value} (h : w.cell? a = some v) : a.block < w.heap.size := by
  rcases Nat.lt_or_ge a.block w.heap.size with h1 | h1
  · exact h1
  · simp [World.cell?, Array.getElem?_eq_none h1] at h
theorem cell_below {w w' : World} (hb : Below w.heap.size w w') {a : Addr} {v : Value} (h : w.cell? a = some v) : w'.cell? a = some v :=
  (hb.cell (block_lt_of_cell h)).trans h
theorem cell_alloc {w : World} {a : Addr} {v : Value} (h : w.cell? a = some v) (o : Obj) : (w.alloc o).cell? a = some v := cell_below ((Below.refl _ w).alloc (Nat.le_refl _) o) h
theorem cell_far {w : World} {p q : Addr} {u v : Value} (h : w.cell? q = some v) (hne : q ≠ p) : (w.setCell p u).cell? q = some v := (World.cell?_setCell_other w p q u hne.symm).trans h
theorem addr_ne {b b' o o' : Nat} (h : b < b') : (⟨b, o, none⟩ : Addr) ≠ ⟨b', o', none⟩ := fun e => by injection e with e1; omega
theorem new2_0 (w : World) (x y : Value) (t : TypeId) : (w.alloc (.cells #[x, y] t)).cell? ⟨w.heap.size, 0, none⟩ = some x := by simp only [World.cell?, heap_alloc_new]; rfl
theorem new2_1 (w : World) (x y : Value) (t : TypeId) : (w.alloc (.cells #[x, y] t)).cell? ⟨w.heap.size, 1, none⟩ = some y := by simp only [World.cell?, heap_alloc_new]; rfl
theorem new1_0 (w : World) (x : Value) (t : TypeId) : (w.alloc (.cells #[x] t)).cell? ⟨w.heap.size, 0, none⟩ = some x := by simp only [World.cell?, heap_alloc_new]; rfl
theorem new_frozen (w : World) (cs : Array Value) (t : TypeId) (i : Nat) : (w.alloc (.cells cs t)).frozen? ⟨w.heap.size, i, none⟩ = false := by simp only [World.frozen?, heap_alloc_new]; simp
theorem frozen_later {w w' : World} (hb : Below w.heap.size w w') {a : Addr} {f : Bool} (hlt : a.block < w.heap.size) (hf : w.frozen? a = f) : w'.frozen? a = f := (hb.frozen hlt).trans hf
theorem blk_cell {w : World} {b i : Nat} {cs : Array Value} {t : TypeId} {fr : Nat × Nat} (h : w.heap[b]? = some (.cells cs t fr)) : w.cell? ⟨b, i, none⟩ = cs[i]? := by simp [World.cell?, h]
theorem blk_frozen {w : World} {b i : Nat} {cs : Array Value} {t : TypeId} (h : w.heap[b]? = some (.cells cs t (0, 0))) : w.frozen? ⟨b, i, none⟩ = false := by simp [World.frozen?, h]
theorem blk_lt {w : World} {b : Nat} {o : Obj} (h : w.heap[b]? = some o) : b < w.heap.size := (Array.getElem?_eq_some_iff.1 h).1
theorem blk_alloc {w : World} {b : Nat} {o : Obj} (h : w.heap[b]? = some o) (o' : Obj) : (w.alloc o').heap[b]? = some o := (Below.heap_alloc w o' b (blk_lt h)).trans h
theorem blk_below {w w' : World} {b : Nat} {o : Obj} (hb : Below w.heap.size w w') (h : w.heap[b]? = some o) : w'.heap[b]? = some o := (hb.block b (blk_lt h)).trans h
theorem blk_grown {w w' : World} {row : Option Nat} {b : Nat} {o : Obj} (hg : w.grownBy w' row) (h : w.heap[b]? = some o) (hne : some b ≠ row) : w'.heap[b]? = some o := (hg.block b (blk_lt h) hne).trans h
theorem blk_set {w : World} {b i : Nat} {cs : Array Value} {t : TypeId} {fr : Nat × Nat} (h : w.heap[b]? = some (.cells cs t fr)) (u : Value) : (w.setCell ⟨b, i, none⟩ u).heap[b]? = some (.cells (cs.setIfInBounds i u) t fr) := by
  simp [World.setCell, Array.getElem?_modify, h]
theorem blk_far {w : World} {b : Nat} {o : Obj} (h : w.heap[b]? = some o) {p : Addr} (hne : b ≠ p.block) (u : Value) : (w.setCell p u).heap[b]? = some o := (Below.heap_setCell w p u b hne).trans h
theorem own_ne {w : World} {base : Nat} {e : TypeId} {size : Nat} {v : Value} {n : Nat} {xs : List Value} (h : w.ownsRow base e size v n xs) {b : Nat} (hb : b < base ∨ w.heap.size ≤ b) : some b ≠ v.ownBlock := fun e => by
  obtain ⟨h1, h2⟩ := h.lt b e.symm; omega
theorem own_base {w : World} {base : Nat} {e : TypeId} {size : Nat} {v : Value} {n : Nat} {xs : List Value} (h : w.ownsRow base e size v n xs) : ∀ k, v.ownBlock = some k → base ≤ k := fun k e => (h.lt k e).1
theorem frozen_below {w w' : World} (hb : Below w.heap.size w w') {a : Addr} {v : Value} {f : Bool} (h : w.cell? a = some v) (hf : w.frozen? a = f) : w'.frozen? a = f :=
  (hb.frozen (block_lt_of_cell h)).trans hf
theorem below_drewN {B : Nat} {a w : World} (h : Below B a w) (n : Nat) : Below B a (w.drewN n) := ⟨h.os, h.tape, h.output, h.size, h.block⟩
theorem below_trans' {a b c : World} (h : Below a.heap.size a b) (k : Below b.heap.size b c) : Below a.heap.size a c := h.trans (k.mono h.size)
theorem below_alloc' {a b : World} (h : Below a.heap.size a b) (o : Obj) : Below a.heap.size a (b.alloc o) := h.alloc h.size o

theorem below_alloc_of {a b c : World} {o : Obj} (h : Below a.heap.size a b) (k : Below (b.alloc o).heap.size (b.alloc o) c) : Below a.heap.size a c := below_trans' (below_alloc' h o) k
theorem below_drew_of {a b c : World} (h : Below a.heap.size a b) (k : Below b.drew.heap.size b.drew c) : Below a.heap.size a c := below_trans' h.drew k
theorem drewN_two (w : World) (a b : Nat) : ∃ q, (w.drewN a).drewN b = w.drewN q := ⟨a + b, World.drewN_drewN w a b⟩

section
variable {α : Type} {enc : α → List Value} {k : Nat} {w w' : World} {A : Option Addr} {l : List α}

def RowsAt (enc : α → List Value) (k : Nat) (w : World) (A : Option Addr) (l : List α) : Prop :=
  ∀ i (h : i < l.length), ∃ b off, A = some ⟨b, off, none⟩ ∧ ∀ j v, (enc l[i])[j]? = some v → w.cell? ⟨b, off + i * k + j, none⟩ = some v

theorem RowsAt.nil (A : Option Addr) : RowsAt enc k w A [] := fun i h => absurd h (by simp)
theorem RowsAt.below (h : RowsAt enc k w A l) (hb : Below w.heap.size w w') : RowsAt enc k w' A l := fun i hi => by
  obtain ⟨b, off, hA, hc⟩ := h i hi
  exact ⟨b, off, hA, fun j v hv => cell_below hb (hc j v hv)⟩
theorem RowsAt.drewN (h : RowsAt enc k w A l) (n : Nat) : RowsAt enc k (w.drewN n) A l := h
theorem RowsAt.drew (h : RowsAt enc k w A l) : RowsAt enc k w.drew A l := h
theorem RowsAt.alloc (h : RowsAt enc k w A l) (o : Obj) : RowsAt enc k (w.alloc o) A l := h.below ((Below.refl _ w).alloc (Nat.le_refl _) o)
theorem RowsAt.take (h : RowsAt enc k w A l) (n : Nat) : RowsAt enc k w A (l.take n) := fun i hi => by
  have hi' : i < l.length := by simp at hi; omega
  obtain ⟨b, off, hA, hc⟩ := h i hi'
  exact ⟨b, off, hA, fun j v hv => hc j v (by simpa using hv)⟩

theorem flatMap_at {l : List α} (hk : ∀ x, (enc x).length = k) : ∀ (i j : Nat) (hi : i < l.length) (v : Value), (enc l[i])[j]? = some v → (l.flatMap enc)[i * k + j]? = some v := by
  induction l with
  | nil => intro i j hi; simp at hi
  | cons x l ih =>
    intro i j hi v hv
    rw [List.flatMap_cons]
    cases i with
    | zero =>
      simp only [List.getElem_cons_zero] at hv
      have : j < (enc x).length := (List.getElem?_eq_some_iff.1 hv).1
      rw [Nat.zero_mul, Nat.zero_add, List.getElem?_append_left this]; exact hv
    | succ i =>
      have hi' : i < l.length := by simpa using hi
      simp only [List.getElem_cons_succ] at hv
      rw [List.getElem?_append_right (by rw [hk, Nat.succ_mul]; omega), hk, show (i + 1) * k + j - k = i * k + j from by rw [Nat.succ_mul]; omega]
      exact ih i j hi' v hv

theorem RowsAt.of_own {base : Nat} {e : TypeId} {c : Nat} (hk : ∀ x, (enc x).length = k) (h : w.ownsRow base e k (.slice A l.length c) l.length (l.flatMap enc)) : RowsAt enc k w A l := fun i hi => by
  obtain ⟨g, cap, hv, hg, hlt⟩ := h.form (by omega)
  injection hv with hA hn hc
  subst hA
  refine ⟨g, 0, rfl, fun j v hv => ?_⟩
  have h1 := h.cells (g := g) rfl (i * k + j) v (flatMap_at hk i j hi v hv)
  have hlt2 : i * k + j < (l.flatMap enc).length := (List.getElem?_eq_some_iff.1 (flatMap_at hk i j hi v hv)).1
  rw [Nat.zero_add]
  by_cases h0 : i * k + j = 0
  · rw [h0] at h1 ⊢; exact h1
  · unfold Addr.add at h1; rw [if_neg h0, Nat.zero_add] at h1; exact h1

theorem own_form {base : Nat} {e : TypeId} {v : Value} {n : Nat} {xs : List Value} (h : w.ownsRow base e k v n xs) : ∃ A c, v = .slice A n c ∧ n ≤ c := by
  rcases h.2 with ⟨rfl, rfl⟩ | ⟨g, cap, cur, rfl, _, _, hc, _⟩
  · exact ⟨none, 0, rfl, by omega⟩
  · exact ⟨_, _, rfl, hc⟩
end

def encI (x : Int) : List Value := [.int .i64 x]
def encR (x : Int × Int) : List Value := [.int .i64 x.1, .int .i64 x.2]
def IntsAt (w : World) (A : Option Addr) (l : List Int) : Prop := RowsAt encI 1 w A l
def RangesAt (w : World) (A : Option Addr) (l : List (Int × Int)) : Prop := RowsAt encR 2 w A l
theorem encI_len (x : Int) : (encI x).length = 1 := rfl
theorem encR_len (x : Int × Int) : (encR x).length = 2 := rfl

section
variable {w w' : World} {A : Option Addr}
theorem IntsAt.at_ {l : List Int} (h : IntsAt w A l) {i : Nat} (hi : i < l.length) : ∃ b off, A = some ⟨b, off, none⟩ ∧ w.cell? ⟨b, off + i, none⟩ = some (.int .i64 l[i]) := by
  obtain ⟨b, off, hA, hc⟩ := h i hi
  exact ⟨b, off, hA, by have := hc 0 _ rfl; simpa using this⟩
theorem RangesAt.at_ {l : List (Int × Int)} (h : RangesAt w A l) {i : Nat} (hi : i < l.length) : ∃ b off, A = some ⟨b, off, none⟩ ∧
    w.cell? ⟨b, off + i * 2, none⟩ = some (.int .i64 l[i].1) ∧ w.cell? ⟨b, off + i * 2 + 1, none⟩ = some (.int .i64 l[i].2) := by
  obtain ⟨b, off, hA, hc⟩ := h i hi
  exact ⟨b, off, hA, hc 0 _ rfl, hc 1 _ rfl⟩
theorem IntsAt.below {l : List Int} (h : IntsAt w A l) (hb : Below w.heap.size w w') : IntsAt w' A l := RowsAt.below h hb
theorem RangesAt.below {l : List (Int × Int)} (h : RangesAt w A l) (hb : Below w.heap.size w w') : RangesAt w' A l := RowsAt.below h hb
theorem IntsAt.drewN {l : List Int} (h : IntsAt w A l) (n : Nat) : IntsAt (w.drewN n) A l := h
theorem RangesAt.drewN {l : List (Int × Int)} (h : RangesAt w A l) (n : Nat) : RangesAt (w.drewN n) A l := h
theorem IntsAt.alloc {l : List Int} (h : IntsAt w A l) (o : Obj) : IntsAt (w.alloc o) A l := RowsAt.alloc h o
theorem RangesAt.alloc {l : List (Int × Int)} (h : RangesAt w A l) (o : Obj) : RangesAt (w.alloc o) A l := RowsAt.alloc h o
theorem IntsAt.nil : IntsAt w A [] := RowsAt.nil A
theorem RangesAt.nil : RangesAt w A [] := RowsAt.nil A
end

/-- A function value that answers a question of each x, in whatever world behind w0. -/
def Asks {α : Type} (w0 : World) (g : Nat) (first captured : Array Value) (encV : α → Value) (dom : α → Prop) (p : α → Bool) : Prop :=
  ∀ (W : World) (x : α), Below w0.heap.size w0 W → dom x → Calls Try.prog g (first ++ #[encV x] ++ captured) W (Ret fun v W' => v = .bool (p x) ∧ Below W.heap.size W W')
theorem Asks.below {α : Type} {w0 w1 : World} {g : Nat} {first captured : Array Value} {encV : α → Value} {dom : α → Prop} {p : α → Bool} (h : Asks w0 g first captured encV dom p) (hb : Below w0.heap.size w0 w1) :
    Asks w1 g first captured encV dom p := fun W x hW hd => h W x (below_trans' hb hW) hd

end Go.Proofs.Ytkjmeeggjmeajaa
