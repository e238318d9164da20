/- Words for memory and for posts, shared by the walks of this seat. Small functions of the law and of the reference: In, Rising, meet, has, ints, great, Link. ref: Rising. The library's IndexFunc and ContainsFunc at this seat's two types. within, rising. A sheet as an argument; ref: single, taken. ref: taken. Small functions: has, great, Link, Sheet, open (of the law). ref: CheckSheet. slices: Index, Contains, at ints and at links. single: with two rows of marks. CheckSheet. CheckJoining, of the program and of the reference. -/
import Derived.Test.YtoogfdicmpkkgaaRows
import Derived.Maps.AppendAt
import Derived.Deep.AppendLies
import Derived.WalkKit
import Derived.WalkSpells
import Derived.WalkLawsBesides
import Derived.BigQuiet
import Derived.Deep.QuietTactic
import Derived.Lib.Hide
import Derived.Deep.RegionHeld3
import Derived.Deep.DeepCutAuto
namespace Go.Proofs.Ytoogfdicmpkkgaa
open Go.RowKit

def Ret (Q : Value → World → Prop) (e : Ending) (w' : World) : Prop := ∃ v, e = .returned v ∧ Q v w'
theorem Ret.mk {Q : Value → World → Prop} {v : Value} {w' : World} (h : Q v w') : Ret Q (.returned v) w' := ⟨v, rfl, h⟩
theorem Ret.mk' {Q : Value → World → Prop} {u v : Value} {w' : World} (e : u = v) (h : Q v w') : Ret Q (.returned u) w' := ⟨v, by rw [e], h⟩

theorem block_lt_of_cell {w : World} {a : Addr} {v : Value} (h : w.cell? a = some v) : a.block < w.heap.size := by
  rcases Nat.lt_or_ge a.block w.heap.size with h1 | h1
  · exact h1
  · simp [World.cell?, Array.getElem?_eq_none h1] at h
theorem cell_below {w w' : World} (hb : Below w.heap.size w w') {a : Addr} {v : Value} (h : w.cell? a = some v) : w'.cell? a = some v :=
  (hb.cell (block_lt_of_cell h)).trans h
theorem cell_alloc {w : World} {a : Addr} {v : Value} (h : w.cell? a = some v) (o : Obj) : (w.alloc o).cell? a = some v := cell_below ((Below.refl _ w).alloc (Nat.le_refl _) o) h
theorem cell_far {w : World} {p q : Addr} {u v : Value} (h : w.cell? q = some v) (hne : q ≠ p) : (w.setCell p u).cell? q = some v := (World.cell?_setCell_other w p q u hne.symm).trans h
theorem addr_ne {b b' o o' : Nat} (h : b < b') : (⟨b, o, none⟩ : Addr) ≠ ⟨b', o', none⟩ := fun e => by injection e with e1; omega
theorem new2_0 (w : World) (x y : Value) (t : TypeId) : (w.alloc (.cells #[x, y] t)).cell? ⟨w.heap.size, 0, none⟩ = some x := by simp only [World.cell?, heap_alloc_new]; rfl
theorem new2_1 (w : World) (x y : Value) (t : TypeId) : (w.alloc (.cells #[x, y] t)).cell? ⟨w.heap.size, 1, none⟩ = some y := by simp only [World.cell?, heap_alloc_new]; rfl
theorem new1_0 (w : World) (x : Value) (t : TypeId) : (w.alloc (.cells #[x] t)).cell? ⟨w.heap.size, 0, none⟩ = some x := by simp only [World.cell?, heap_alloc_new]; rfl
theorem new_frozen (w : World) (cs : Array Value) (t : TypeId) (i : Nat) : (w.alloc (.cells cs t)).frozen? ⟨w.heap.size, i, none⟩ = false := by simp only [World.frozen?, heap_alloc_new]; simp
theorem frozen_later {w w' : World} (hb : Below w.heap.size w w') {a : Addr} {f : Bool} (hlt : a.block < w.heap.size) (hf : w.frozen? a = f) : w'.frozen? a = f := (hb.frozen hlt).trans hf
theorem blk_cell {w : World} {b i : Nat} {cs : Array Value} {t : TypeId} {fr : Nat × Nat} (h : w.heap[b]? = some (.cells cs t fr)) : w.cell? ⟨b, i, none⟩ = cs[i]? := by simp [World.cell?, h]
theorem blk_frozen {w : World} {b i : Nat} {cs : Array Value} {t : TypeId} (h : w.heap[b]? = some (.cells cs t (0, 0))) : w.frozen? ⟨b, i, none⟩ = false := by simp [World.frozen?, h]
theorem blk_lt {w : World} {b : Nat} {o : Obj} (h : w.heap[b]? = some o) : b < w.heap.size := (Array.getElem?_eq_some_iff.1 h).1
theorem blk_alloc {w : World} {b : Nat} {o : Obj} (h : w.heap[b]? = some o) (o' : Obj) : (w.alloc o').heap[b]? = some o := (Below.heap_alloc w o' b (blk_lt h)).trans h
theorem blk_below {w w' : World} {b : Nat} {o : Obj} (hb : Below w.heap.size w w') (h : w.heap[b]? = some o) : w'.heap[b]? = some o := (hb.block b (blk_lt h)).trans h
theorem blk_grown {w w' : World} {row : Option Nat} {b : Nat} {o : Obj} (hg : w.grownBy w' row) (h : w.heap[b]? = some o) (hne : some b ≠ row) : w'.heap[b]? = some o := (hg.block b (blk_lt h) hne).trans h
theorem blk_set {w : World} {b i : Nat} {cs : Array Value} {t : TypeId} {fr : Nat × Nat} (h : w.heap[b]? = some (.cells cs t fr)) (u : Value) : (w.setCell ⟨b, i, none⟩ u).heap[b]? = some (.cells (cs.setIfInBounds i u) t fr) := by
  simp [World.setCell, Array.getElem?_modify, h]
theorem blk_far {w : World} {b : Nat} {o : Obj} (h : w.heap[b]? = some o) {p : Addr} (hne : b ≠ p.block) (u : Value) : (w.setCell p u).heap[b]? = some o := (Below.heap_setCell w p u b hne).trans h
theorem own_ne {w : World} {base : Nat} {e : TypeId} {size : Nat} {v : Value} {n : Nat} {xs : List Value} (h : w.ownsRow base e size v n xs) {b : Nat} (hb : b < base ∨ w.heap.size ≤ b) : some b ≠ v.ownBlock := fun e => by
  obtain ⟨h1, h2⟩ := h.lt b e.symm; omega
theorem own_base {w : World} {base : Nat} {e : TypeId} {size : Nat} {v : Value} {n : Nat} {xs : List Value} (h : w.ownsRow base e size v n xs) : ∀ k, v.ownBlock = some k → base ≤ k := fun k e => (h.lt k e).1
theorem frozen_below {w w' : World} (hb : Below w.heap.size w w') {a : Addr} {v : Value} {f : Bool} (h : w.cell? a = some v) (hf : w.frozen? a = f) : w'.frozen? a = f :=
  (hb.frozen (block_lt_of_cell h)).trans hf
theorem below_drewN {B : Nat} {a w : World} (h : Below B a w) (n : Nat) : Below B a (w.drewN n) := ⟨h.os, h.tape, h.output, h.size, h.block⟩
theorem below_trans' {a b c : World} (h : Below a.heap.size a b) (k : Below b.heap.size b c) : Below a.heap.size a c := h.trans (k.mono h.size)
theorem below_alloc' {a b : World} (h : Below a.heap.size a b) (o : Obj) : Below a.heap.size a (b.alloc o) := h.alloc h.size o

theorem below_alloc_of {a b c : World} {o : Obj} (h : Below a.heap.size a b) (k : Below (b.alloc o).heap.size (b.alloc o) c) : Below a.heap.size a c := below_trans' (below_alloc' h o) k
theorem below_drew_of {a b c : World} (h : Below a.heap.size a b) (k : Below b.drew.heap.size b.drew c) : Below a.heap.size a c := below_trans' h.drew k
theorem drewN_two (w : World) (a b : Nat) : ∃ q, (w.drewN a).drewN b = w.drewN q := ⟨a + b, World.drewN_drewN w a b⟩

section
variable {α : Type} {enc : α → List Value} {k : Nat} {w w' : World} {A : Option Addr} {l : List α}

def RowsAt (enc : α → List Value) (k : Nat) (w : World) (A : Option Addr) (l : List α) : Prop :=
  ∀ i (h : i < l.length), ∃ b off, A = some ⟨b, off, none⟩ ∧ ∀ j v, (enc l[i])[j]? = some v → w.cell? ⟨b, off + i * k + j, none⟩ = some v

theorem RowsAt.nil (A : Option Addr) : RowsAt enc k w A [] := fun i h => absurd h (by simp)
theorem RowsAt.below (h : RowsAt enc k w A l) (hb : Below w.heap.size w w') : RowsAt enc k w' A l := fun i hi => by
  obtain ⟨b, off, hA, hc⟩ := h i hi
  exact ⟨b, off, hA, fun j v hv => cell_below hb (hc j v hv)⟩
theorem RowsAt.drewN (h : RowsAt enc k w A l) (n : Nat) : RowsAt enc k (w.drewN n) A l := h
theorem RowsAt.drew (h : RowsAt enc k w A l) : RowsAt enc k w.drew A l := h
theorem RowsAt.alloc (h : RowsAt enc k w A l) (o : Obj) : RowsAt enc k (w.alloc o) A l := h.below ((Below.refl _ w).alloc (Nat.le_refl _) o)
theorem RowsAt.take (h : RowsAt enc k w A l) (n : Nat) : RowsAt enc k w A (l.take n) := fun i hi => by
  have hi' : i < l.length := by simp at hi; omega
  obtain ⟨b, off, hA, hc⟩ := h i hi'
  exact ⟨b, off, hA, fun j v hv => hc j v (by simpa using hv)⟩

theorem flatMap_at {l : List α} (hk : ∀ x, (enc x).length = k) : ∀ (i j : Nat) (hi : i < l.length) (v : Value), (enc l[i])[j]? = some v → (l.flatMap enc)[i * k + j]? = some v := by
  induction l with
  | nil => intro i j hi; simp at hi
  | cons x l ih =>
    intro i j hi v hv
    rw [List.flatMap_cons]
    cases i with
    | zero =>
      simp only [List.getElem_cons_zero] at hv
      have : j < (enc x).length := (List.getElem?_eq_some_iff.1 hv).1
      rw [Nat.zero_mul, Nat.zero_add, List.getElem?_append_left this]; exact hv
    | succ i =>
      have hi' : i < l.length := by simpa using hi
      simp only [List.getElem_cons_succ] at hv
      rw [List.getElem?_append_right (by rw [hk, Nat.succ_mul]; omega), hk, show (i + 1) * k + j - k = i * k + j from by rw [Nat.succ_mul]; omega]
      exact ih i j hi' v hv

theorem RowsAt.of_own {base : Nat} {e : TypeId} {c : Nat} (hk : ∀ x, (enc x).length = k) (h : w.ownsRow base e k (.slice A l.length c) l.length (l.flatMap enc)) : RowsAt enc k w A l := fun i hi => by
  obtain ⟨g, cap, hv, hg, hlt⟩ := h.form (by omega)
  injection hv with hA hn hc
  subst hA
  refine ⟨g, 0, rfl, fun j v hv => ?_⟩
  have h1 := h.cells (g := g) rfl (i * k + j) v (flatMap_at hk i j hi v hv)
  have hlt2 : i * k + j < (l.flatMap enc).length := (List.getElem?_eq_some_iff.1 (flatMap_at hk i j hi v hv)).1
  rw [Nat.zero_add]
  by_cases h0 : i * k + j = 0
  · rw [h0] at h1 ⊢; exact h1
  · unfold Addr.add at h1; rw [if_neg h0, Nat.zero_add] at h1; exact h1

theorem own_form {base : Nat} {e : TypeId} {v : Value} {n : Nat} {xs : List Value} (h : w.ownsRow base e k v n xs) : ∃ A c, v = .slice A n c ∧ n ≤ c := by
  rcases h.2 with ⟨rfl, rfl⟩ | ⟨g, cap, cur, rfl, _, _, hc, _⟩
  · exact ⟨none, 0, rfl, by omega⟩
  · exact ⟨_, _, rfl, hc⟩
end

def encI (x : Int) : List Value := [.int .i64 x]
def encR (x : Int × Int) : List Value := [.int .i64 x.1, .int .i64 x.2]
def IntsAt (w : World) (A : Option Addr) (l : List Int) : Prop := RowsAt encI 1 w A l
def RangesAt (w : World) (A : Option Addr) (l : List (Int × Int)) : Prop := RowsAt encR 2 w A l
theorem encI_len (x : Int) : (encI x).length = 1 := rfl
theorem encR_len (x : Int × Int) : (encR x).length = 2 := rfl

section
variable {w w' : World} {A : Option Addr}
theorem IntsAt.at_ {l : List Int} (h : IntsAt w A l) {i : Nat} (hi : i < l.length) : ∃ b off, A = some ⟨b, off, none⟩ ∧ w.cell? ⟨b, off + i, none⟩ = some (.int .i64 l[i]) := by
  obtain ⟨b, off, hA, hc⟩ := h i hi
  exact ⟨b, off, hA, by have := hc 0 _ rfl; simpa using this⟩
theorem RangesAt.at_ {l : List (Int × Int)} (h : RangesAt w A l) {i : Nat} (hi : i < l.length) : ∃ b off, A = some ⟨b, off, none⟩ ∧
    w.cell? ⟨b, off + i * 2, none⟩ = some (.int .i64 l[i].1) ∧ w.cell? ⟨b, off + i * 2 + 1, none⟩ = some (.int .i64 l[i].2) := by
  obtain ⟨b, off, hA, hc⟩ := h i hi
  exact ⟨b, off, hA, hc 0 _ rfl, hc 1 _ rfl⟩
theorem IntsAt.below {l : List Int} (h : IntsAt w A l) (hb : Below w.heap.size w w') : IntsAt w' A l := RowsAt.below h hb
theorem RangesAt.below {l : List (Int × Int)} (h : RangesAt w A l) (hb : Below w.heap.size w w') : RangesAt w' A l := RowsAt.below h hb
theorem IntsAt.drewN {l : List Int} (h : IntsAt w A l) (n : Nat) : IntsAt (w.drewN n) A l := h
theorem RangesAt.drewN {l : List (Int × Int)} (h : RangesAt w A l) (n : Nat) : RangesAt (w.drewN n) A l := h
theorem IntsAt.alloc {l : List Int} (h : IntsAt w A l) (o : Obj) : IntsAt (w.alloc o) A l := RowsAt.alloc h o
theorem RangesAt.alloc {l : List (Int × Int)} (h : RangesAt w A l) (o : Obj) : RangesAt (w.alloc o) A l := RowsAt.alloc h o
theorem IntsAt.nil : IntsAt w A [] := RowsAt.nil A
theorem RangesAt.nil : RangesAt w A [] := RowsAt.nil A
end

/-- A function value that answers a question of each x, in whatever world behind w0. -/
def Asks {α : Type} (w0 : World) (g : Nat) (first captured : Array Value) (encV : α → Value) (dom : α → Prop) (p : α → Bool) : Prop :=
  ∀ (W : World) (x : α), Below w0.heap.size w0 W → dom x → Calls Try.prog g (first ++ #[encV x] ++ captured) W (Ret fun v W' => v = .bool (p x) ∧ Below W.heap.size W W')
theorem Asks.below {α : Type} {w0 w1 : World} {g : Nat} {first captured : Array Value} {encV : α → Value} {dom : α → Prop} {p : α → Bool} (h : Asks w0 g first captured encV dom p) (hb : Below w0.heap.size w0 w1) :
    Asks w1 g first captured encV dom p := fun W x hW hd => h W x (below_trans' hb hW) hd

end Go.Proofs.Ytoogfdicmpkkgaa

namespace Go.Proofs.Ytoogfdicmpkkgaa
open Go.RowKit

theorem take_snoc {α : Type} {l : List α} {k : Nat} (hk : k < l.length) {x : α} (hx : l[k] = x) : l.take (k+1) = l.take k ++ [x] := by
  rw [List.take_succ_eq_append_getElem hk, hx]
def vR (x : Int × Int) : Value := .agg #[.int .i64 x.1, .int .i64 x.2]
theorem in_next {l : List Int} {n : Int} {k : Nat} (hk : k < l.length) {x : Int} (hx : l[k] = x) (h : (l.take k).contains n = false) (hn : (x == n) = false) : (l.take (k + 1)).contains n = false := by
  rw [take_snoc hk hx]
  simp only [List.contains_eq_any_beq, List.any_append, List.any_cons, List.any_nil, Bool.or_false] at h ⊢
  rw [h]
  rw [Bool.false_or]
  rw [beq_eq_false_iff_ne] at hn ⊢
  exact fun e => hn e.symm

set_option maxHeartbeats 400000 in
theorem in_any (A : Option Addr) (ca : Nat) (l : List Int) (n : Int) (w : World) (hl : IntsAt w A l) (hn : l.length ≤ 100000) :
    Calls Try.prog 34 #[.slice A l.length ca, .int .i64 n] w (Ret fun v w' => v = .bool (l.contains n) ∧ ∃ q, w' = w.drewN q) := by
  have Hl := Lib.hid hl; clear hl
  go_enter Try.func34, Try.ntmps34
  go_wp2
  go_loopw [5] (fun i wr => ∃ k q : Nat, k ≤ l.length ∧ i = .int .i64 k ∧ wr = w.drewN q ∧ Hid ((l.take k).contains n = false)) (fun i _ => l.length - (intOf i).toNat)
  case atStart => exact ⟨0, 0, by omega, rfl, rfl, by simp [Hid]⟩
  case round =>
    obtain ⟨k, q, hk, rfl, rfl, Hb⟩ := hrel
    by_cases hkn : k < l.length
    · obtain ⟨b, off, rfl, g1⟩ := Hl.out.at_ hkn
      generalize hx : l[k] = x at g1
      have Hx := Lib.hid hx
      clear hx
      have g1 : (w.drewN q).cell? ⟨b, off + k, none⟩ = some (.int .i64 x) := g1
      cases hq : (x == n)
      · have HN := Lib.hid (in_next hkn Hx.out Hb.out hq)
        go_wp2
        go_roundw
        case rel => exact ⟨k + 1, _, by omega, by go_num, rfl, HN⟩
        case measure => simp [intOf]; omega
      · have hc : l.contains n = true := by
          rw [List.contains_eq_any_beq, List.any_eq_true]
          exact ⟨x, by rw [← Hx.out]; exact List.getElem_mem hkn, by rw [beq_iff_eq] at hq ⊢; exact hq.symm⟩
        have HC := Lib.hid hc
        clear hc
        go_wp2
        go_ret
        exact Ret.mk' (by rw [HC.out]; rfl) ⟨rfl, q, rfl⟩
    · have hkl : k = l.length := by omega
      subst hkl
      have hb := Hb.out
      rw [List.take_length] at hb
      have HB := Lib.hid hb
      clear hb
      go_wp2
      go_ret
      exact Ret.mk' (by rw [HB.out]; rfl) ⟨rfl, q, rfl⟩

theorem meet_any (a b : Int × Int) (w : World) :
    Calls Try.prog 71 #[vR a, vR b] w (Ret fun v w' => v = .bool ((a.1 == b.1) || (a.2 == b.2)) ∧ Below w.heap.size w w') := by
  obtain ⟨a1, a2⟩ := a
  obtain ⟨b1, b2⟩ := b
  unfold vR
  dsimp only
  have p0 : ((w.alloc (.cells #[.int .i64 a1, .int .i64 a2] 55)).alloc (.cells #[.int .i64 b1, .int .i64 b2] 55)).cell? ⟨w.heap.size, 0, none⟩ = some (.int .i64 a1) := cell_alloc (new2_0 _ _ _ _) _
  have p1 : ((w.alloc (.cells #[.int .i64 a1, .int .i64 a2] 55)).alloc (.cells #[.int .i64 b1, .int .i64 b2] 55)).cell? ⟨w.heap.size, 1, none⟩ = some (.int .i64 a2) := cell_alloc (new2_1 _ _ _ _) _
  have p2 : ((w.alloc (.cells #[.int .i64 a1, .int .i64 a2] 55)).alloc (.cells #[.int .i64 b1, .int .i64 b2] 55)).cell? ⟨w.heap.size + 1, 0, none⟩ = some (.int .i64 b1) := by have := new2_0 (w.alloc (.cells #[.int .i64 a1, .int .i64 a2] 55)) (.int .i64 b1) (.int .i64 b2) 55; rwa [World.size_alloc] at this
  have p3 : ((w.alloc (.cells #[.int .i64 a1, .int .i64 a2] 55)).alloc (.cells #[.int .i64 b1, .int .i64 b2] 55)).cell? ⟨w.heap.size + 1, 1, none⟩ = some (.int .i64 b2) := by have := new2_1 (w.alloc (.cells #[.int .i64 a1, .int .i64 a2] 55)) (.int .i64 b1) (.int .i64 b2) 55; rwa [World.size_alloc] at this
  go_enter Try.func71, Try.ntmps71
  cases h1 : (a1 == b1)
  all_goals
    go_wp2
    go_ret
    exact Ret.mk' rfl ⟨by simp, below_alloc' (below_alloc' (Below.refl _ _) _) _⟩

def risingFrom (last n : Int) : List Int → Bool
  | [] => true
  | x :: r => decide (last < x) && decide (x < n) && risingFrom x n r
def lastOf (a : Int) : List Int → Int
  | [] => a
  | x :: r => lastOf x r
theorem rising_snoc (n : Int) (p : List Int) : ∀ (a x : Int), risingFrom a n (p ++ [x]) = (risingFrom a n p && (decide (lastOf a p < x) && decide (x < n))) := by
  induction p with
  | nil => intro a x; simp only [List.nil_append, risingFrom, lastOf, Bool.and_true, Bool.true_and]; rfl
  | cons y p ih => intro a x; simp only [List.cons_append, risingFrom, lastOf, ih, Bool.and_assoc]; rfl
theorem lastOf_snoc (p : List Int) : ∀ (a x : Int), lastOf a (p ++ [x]) = x := by
  induction p with
  | nil => intro a x; rfl
  | cons y p ih => intro a x; exact ih y x
theorem rising_append (n : Int) (p q : List Int) : ∀ a : Int, risingFrom a n (p ++ q) = (risingFrom a n p && risingFrom (lastOf a p) n q) := by
  induction p with
  | nil => intro a; simp [risingFrom, lastOf]
  | cons y p ih => intro a; simp [risingFrom, lastOf, ih, Bool.and_assoc]
theorem rising_mem (n : Int) (t : List Int) : ∀ a : Int, risingFrom a n t = true → ∀ x ∈ t, a < x ∧ x < n := by
  induction t with
  | nil => intro a _ x hx; cases hx
  | cons y t ih =>
    intro a h x hx
    simp only [risingFrom, Bool.and_eq_true, decide_eq_true_eq] at h
    cases hx with
    | head => exact h.1
    | tail _ hx => have := ih y h.2 x hx; omega


theorem rising_next {n : Int} {t : List Int} {k : Nat} (hk : k < t.length) {x : Int} (hx : t[k] = x) (h : risingFrom (-1) n (t.take k) = true) (h1 : lastOf (-1) (t.take k) < x) (h2 : x < n) :
    risingFrom (-1) n (t.take (k+1)) = true := by
  rw [take_snoc hk hx, rising_snoc, h]; simp [h1, h2]
theorem rising_bad {n : Int} {t : List Int} {k : Nat} (hk : k < t.length) {x : Int} (hx : t[k] = x) (h1 : x ≤ lastOf (-1) (t.take k) ∨ n ≤ x) : risingFrom (-1) n t = false := by
  conv => lhs; rw [← List.take_append_drop (k+1) t]
  rw [rising_append, take_snoc hk hx, rising_snoc]
  rcases h1 with h1 | h1
  · rw [show decide (lastOf (-1) (t.take k) < x) = false from by simpa using h1]; simp
  · rw [show decide (x < n) = false from by simpa using h1]; simp
theorem lastOf_next {t : List Int} {k : Nat} (hk : k < t.length) {x : Int} (hx : t[k] = x) : lastOf (-1) (t.take (k+1)) = x := by
  rw [take_snoc hk hx, lastOf_snoc]
theorem rising_all {n : Int} {t : List Int} {k : Nat} (hk : ¬ k < t.length) (h : risingFrom (-1) n (t.take k) = true) : risingFrom (-1) n t = true := by
  rwa [List.take_of_length_le (by omega)] at h

/-- some pair j < k of the places below n answers yes -/
def pairAny (f : Nat → Nat → Bool) (n : Nat) : Bool := (List.range n).any fun k => (List.range k).any fun j => f k j
theorem range_any_next {f : Nat → Bool} {k : Nat} (h : (List.range k).any f = false) (h2 : f k = false) : (List.range (k+1)).any f = false := by
  rw [List.range_succ, List.any_append, h]; simpa using h2
theorem range_any_hit {f : Nat → Bool} {k n : Nat} (hk : k < n) (h : f k = true) : (List.range n).any f = true :=
  List.any_eq_true.2 ⟨k, by simpa using hk, h⟩

theorem rows_next {α : Type} [DecidableEq α] {a b : List α} (hab : a.length = b.length) {k : Nat} (hk : k < a.length) (h : a.take k = b.take k) (h2 : a[k] = b[k]) : a.take (k+1) = b.take (k+1) := by
  rw [List.take_succ_eq_append_getElem hk, List.take_succ_eq_append_getElem (by omega), h, h2]
theorem rows_end {α : Type} [DecidableEq α] {a b : List α} (hab : a.length = b.length) {k : Nat} (hk : ¬ k < a.length) (h : a.take k = b.take k) : decide (a = b) = true := by
  rw [List.take_of_length_le (by omega), List.take_of_length_le (by omega)] at h; simp [h]
theorem rows_part {α : Type} [DecidableEq α] {a b : List α} {k : Nat} (hk : k < a.length) (hk' : k < b.length) (h2 : a[k] ≠ b[k]) : decide (a = b) = false := by
  simp only [decide_eq_false_iff_not]; rintro rfl; exact h2 rfl

set_option maxHeartbeats 400000 in
theorem ints_any (A B : Option Addr) (ca cb : Nat) (a b : List Int) (w : World) (ha : IntsAt w A a) (hb : IntsAt w B b) (hn : a.length ≤ 100000) (_hm : b.length ≤ 100000) :
    Calls Try.prog 29 #[.slice A a.length ca, .slice B b.length cb] w (Ret fun v w' => v = .bool (decide (a = b)) ∧ ∃ q, w' = w.drewN q) := by
  have Ha := Lib.hid ha; clear ha
  have Hb := Lib.hid hb; clear hb
  by_cases h1 : a.length = b.length
  · have d1 : ((a.length : Int) != (b.length : Int)) = false := by simp [h1]
    have Hab := Lib.hid h1; clear h1
    go_enter Try.func29, Try.ntmps29
    go_wp2
    go_loopw [5] (fun i wr => ∃ k q : Nat, k ≤ a.length ∧ i = .int .i64 k ∧ wr = w.drewN q ∧ Hid (a.take k = b.take k)) (fun i _ => a.length - (intOf i).toNat)
    case atStart => exact ⟨0, 0, by omega, rfl, rfl, rfl⟩
    case round =>
      obtain ⟨k, q, hk, rfl, rfl, HT⟩ := hrel
      by_cases hkn : k < a.length
      · have hkm : k < b.length := by have := Hab.out; omega
        obtain ⟨b1, o1, rfl, g1⟩ := Ha.out.at_ hkn
        obtain ⟨b2, o2, rfl, g2⟩ := Hb.out.at_ hkm
        generalize hx : a[k] = x at g1
        generalize hy : b[k] = y at g2
        have Hx := Lib.hid hx; clear hx
        have Hy := Lib.hid hy; clear hy
        go_wp2
        go_quiet (fail)
        by_cases hxy : x = y
        · obtain rfl := hxy
          go_wp2
          go_roundw
          case rel => exact ⟨k + 1, _, by omega, by go_num, rfl, rows_next Hab.out hkn HT.out (by rw [Hx.out, Hy.out])⟩
          case measure => simp [intOf]; omega
        · have d2 : (x != y) = true := by simpa using hxy
          go_wp2
          go_ret
          exact Ret.mk' (by simp [rows_part hkn hkm (by rw [Hx.out, Hy.out]; exact hxy)]) ⟨rfl, (by first | exact ⟨_, rfl⟩ | exact drewN_two _ _ _)⟩
      · go_wp2
        go_ret
        exact Ret.mk' (by simp [rows_end Hab.out hkn HT.out]) ⟨rfl, (by first | exact ⟨_, rfl⟩ | exact drewN_two _ _ _)⟩
  · have d1 : ((a.length : Int) != (b.length : Int)) = true := by simp; omega
    go_enter Try.func29, Try.ntmps29
    go_wp2
    go_ret
    exact Ret.mk' (by simp; intro e; rw [e] at h1; exact h1 rfl) ⟨rfl, 0, rfl⟩


end Go.Proofs.Ytoogfdicmpkkgaa

namespace Go.Proofs.Ytoogfdicmpkkgaa
open Go.RowKit

set_option maxRecDepth 100000 in
set_option maxHeartbeats 1000000 in
theorem refRising_any (A : Option Addr) (ca : Nat) (s : List Int) (n : Int) (w : World) (hs : IntsAt w A s) (hm : s.length ≤ 100000) :
    Calls Try.prog 44 #[.slice A s.length ca, .int .i64 n] w (Ret fun v w' => v = .bool (risingFrom (-1) n s) ∧ ∃ q, w' = w.drewN q) := by
  have Hs := Lib.hid hs; clear hs
  go_enter Try.func44, Try.ntmps44
  go_wp2
  go_loopw [5] (fun i wr => ∃ k : Nat, k ≤ s.length ∧ i = .int .i64 k ∧ Hid (risingFrom (-1) n (s.take k) = true) ∧ ∃ q, wr = w.drewN q) (fun i _ => s.length - (intOf i).toNat)
  case atStart => exact ⟨0, by omega, rfl, rfl, 0, rfl⟩
  case round =>
    obtain ⟨k, hk, rfl, HR, q, rfl⟩ := hrel
    by_cases hkn : k < s.length
    · obtain ⟨b1, o1, rfl, g1⟩ := Hs.out.at_ hkn
      generalize hx : s[k] = x at g1
      have Hx := Lib.hid hx; clear hx
      have g1 : (w.drewN q).cell? ⟨b1, o1 + k, none⟩ = some (.int .i64 x) := g1
      by_cases hk0 : 0 < k
      · obtain ⟨k', hkk⟩ : ∃ k', k = k' + 1 := ⟨k - 1, by omega⟩
        have hk'n : k' < s.length := by omega
        have fk : decide (0 < k) = true := by simp; omega
        obtain ⟨b2, o2, e2, g2⟩ := Hs.out.at_ hk'n
        injection e2 with e2
        injection e2 with e2 e3
        subst e2 e3
        have hy : lastOf (-1) (s.take k) = s[k'] := by rw [hkk]; exact lastOf_next hk'n rfl
        have hw : IntKind.i64.wrap ((k : Int) - 1) = (k' : Int) := by rw [show (k : Int) - 1 = k' by omega]; exact IntWalk.i64_in _ (by omega)
        generalize hyy : s[k'] = y at g2 hy
        have g2 : (w.drewN q).cell? ⟨b1, o1 + k', none⟩ = some (.int .i64 y) := g2
        have Hy := Lib.hid hy
        have Hkk := Lib.hid hkk
        have hyb : -1 < y := by
          have := rising_mem _ _ _ HR.out y (by rw [← hyy]; exact List.mem_take_iff_getElem.2 ⟨k', by omega, rfl⟩)
          exact this.1
        clear hy hyy hkk
        by_cases hx0 : x < 0
        · have fhx0 : decide (x < 0) = true := by simp; omega
          have HF := Lib.hid (rising_bad (n := n) hkn Hx.out (by rw [Hy.out]; omega))
          go_wp2
          refine wp_region_quiet_lit (by kernel_rfl) (by kernel_rfl) ?_
          repeat (any_goals (first | go_big_quiet_step (fail) | quiet_step (fail) | (refine wpQuiet_step (fun K hK => ?_); go_simp; split <;> (refine hK _ ?_; clear hK K))))
          all_goals (refine wpQuiet_nil ?_; intro _ hw'; obtain ⟨nq, hw''⟩ := hw'; subst hw'')
          go_wp2
          go_ret
          exact Ret.mk' (by rw [HF.out]; rfl) ⟨rfl, by first | exact ⟨_, rfl⟩ | exact drewN_two _ _ _⟩
        · by_cases hxn : n ≤ x
          · have fhxn : decide (n ≤ x) = true := by simp; omega
            have HF := Lib.hid (rising_bad (n := n) hkn Hx.out (.inr hxn))
            go_wp2
            refine wp_region_quiet_lit (by kernel_rfl) (by kernel_rfl) ?_
            repeat (any_goals (first | go_big_quiet_step (fail) | quiet_step (fail) | (refine wpQuiet_step (fun K hK => ?_); go_simp; split <;> (refine hK _ ?_; clear hK K))))
            all_goals (refine wpQuiet_nil ?_; intro _ hw'; obtain ⟨nq, hw''⟩ := hw'; subst hw'')
            go_wp2
            go_ret
            exact Ret.mk' (by rw [HF.out]; rfl) ⟨rfl, by first | exact ⟨_, rfl⟩ | exact drewN_two _ _ _⟩
          · have fhxn : decide (n ≤ x) = false := by simp; omega
            by_cases hxy : x ≤ y
            · have fhxy : decide (x ≤ y) = true := by simp; omega
              have HF := Lib.hid (rising_bad (n := n) hkn Hx.out (by rw [Hy.out]; omega))
              go_wp2
              refine wp_region_quiet_lit (by kernel_rfl) (by kernel_rfl) ?_
              repeat (any_goals (first | go_big_quiet_step (fail) | quiet_step (fail) | (refine wpQuiet_step (fun K hK => ?_); go_simp; split <;> (refine hK _ ?_; clear hK K))))
              all_goals (refine wpQuiet_nil ?_; intro _ hw'; obtain ⟨nq, hw''⟩ := hw'; subst hw'')
              go_wp2
              go_ret
              exact Ret.mk' (by rw [HF.out]; rfl) ⟨rfl, by first | exact ⟨_, rfl⟩ | exact drewN_two _ _ _⟩
            · have fhxy : decide (x ≤ y) = false := by simp; omega
              have HN := Lib.hid (rising_next hkn Hx.out HR.out (by rw [Hy.out]; omega) (show x < n by omega))
              go_wp2
              refine wp_region_quiet_lit (by kernel_rfl) (by kernel_rfl) ?_
              repeat (any_goals (first | go_big_quiet_step (fail) | quiet_step (fail) | (refine wpQuiet_step (fun K hK => ?_); go_simp; split <;> (refine hK _ ?_; clear hK K))))
              all_goals (refine wpQuiet_nil ?_; intro _ hw'; obtain ⟨nq, hw''⟩ := hw'; subst hw'')
              go_wp2
              go_roundw
              case rel => exact ⟨k + 1, by omega, by go_num, HN, (by first | exact ⟨_, rfl⟩ | exact drewN_two _ _ _)⟩
              case measure => simp [intOf]; omega
      · have hk00 : k = 0 := by omega
        have Hy : Hid (lastOf (-1) (s.take k) = -1) := Lib.hid (by rw [hk00]; rfl)
        have Hk00 := Lib.hid hk00
        have fk : decide (0 < k) = false := by simp; omega
        clear hk00
        by_cases hx0 : x < 0
        · have fhx0 : decide (x < 0) = true := by simp; omega
          have HF := Lib.hid (rising_bad (n := n) hkn Hx.out (by rw [Hy.out]; omega))
          go_wp2
          refine wp_region_quiet_lit (by kernel_rfl) (by kernel_rfl) ?_
          repeat (any_goals (first | go_big_quiet_step (fail) | quiet_step (fail) | (refine wpQuiet_step (fun K hK => ?_); go_simp; split <;> (refine hK _ ?_; clear hK K))))
          all_goals (refine wpQuiet_nil ?_; intro _ hw'; obtain ⟨nq, hw''⟩ := hw'; subst hw'')
          go_wp2
          go_ret
          exact Ret.mk' (by rw [HF.out]; rfl) ⟨rfl, by first | exact ⟨_, rfl⟩ | exact drewN_two _ _ _⟩
        · by_cases hxn : n ≤ x
          · have fhxn : decide (n ≤ x) = true := by simp; omega
            have HF := Lib.hid (rising_bad (n := n) hkn Hx.out (.inr hxn))
            go_wp2
            refine wp_region_quiet_lit (by kernel_rfl) (by kernel_rfl) ?_
            repeat (any_goals (first | go_big_quiet_step (fail) | quiet_step (fail) | (refine wpQuiet_step (fun K hK => ?_); go_simp; split <;> (refine hK _ ?_; clear hK K))))
            all_goals (refine wpQuiet_nil ?_; intro _ hw'; obtain ⟨nq, hw''⟩ := hw'; subst hw'')
            go_wp2
            go_ret
            exact Ret.mk' (by rw [HF.out]; rfl) ⟨rfl, by first | exact ⟨_, rfl⟩ | exact drewN_two _ _ _⟩
          · have fhxn : decide (n ≤ x) = false := by simp; omega
            have HN := Lib.hid (rising_next hkn Hx.out HR.out (by rw [Hy.out]; omega) (show x < n by omega))
            go_wp2
            refine wp_region_quiet_lit (by kernel_rfl) (by kernel_rfl) ?_
            repeat (any_goals (first | go_big_quiet_step (fail) | quiet_step (fail) | (refine wpQuiet_step (fun K hK => ?_); go_simp; split <;> (refine hK _ ?_; clear hK K))))
            all_goals (refine wpQuiet_nil ?_; intro _ hw'; obtain ⟨nq, hw''⟩ := hw'; subst hw'')
            go_wp2
            go_roundw
            case rel => exact ⟨k + 1, by omega, by go_num, HN, (by first | exact ⟨_, rfl⟩ | exact drewN_two _ _ _)⟩
            case measure => simp [intOf]; omega
    · have HA := Lib.hid (rising_all hkn HR.out)
      clear HR
      go_wp2
      go_ret
      exact Ret.mk' (by rw [HA.out]; rfl) ⟨rfl, q, rfl⟩
end Go.Proofs.Ytoogfdicmpkkgaa

namespace Go.Proofs.Ytoogfdicmpkkgaa
open Go.RowKit

def IdxQ {α : Type} (w : World) (p : α → Bool) (l : List α) (v : Value) (w' : World) : Prop := (∃ r : Int, v = .int .i64 r ∧ (decide (0 ≤ r) = l.any p)) ∧ Below w.heap.size w w'

theorem any_hit {α : Type} {p : α → Bool} {l : List α} {k : Nat} (hk : k < l.length) (h : p l[k] = true) : decide ((0 : Int) ≤ (k : Int)) = l.any p := by
  rw [show l.any p = true from List.any_eq_true.2 ⟨_, List.getElem_mem hk, h⟩]; simp
theorem any_miss {α : Type} {p : α → Bool} {l : List α} {k : Nat} (hk : ¬ k < l.length) (h : (l.take k).any p = false) : decide ((0 : Int) ≤ -1) = l.any p := by
  rw [List.take_of_length_le (by omega)] at h; rw [h]; simp
theorem any_next {α : Type} {p : α → Bool} {l : List α} {k : Nat} (hk : k < l.length) (h : (l.take k).any p = false) (h2 : p l[k] = false) : (l.take (k+1)).any p = false := by
  rw [List.take_succ_eq_append_getElem hk, List.any_append, h]; simpa using h2

def vI (x : Int) : Value := .int .i64 x

set_option maxHeartbeats 400000 in
theorem indexFuncR_any (A : Option Addr) (cap : Nat) (l : List (Int × Int)) (g : Nat) (fst cpt : Array Value) (dom : Int × Int → Prop) (p : Int × Int → Bool) (w : World) (hl : RangesAt w A l) (hn : l.length ≤ 100000)
    (hd : ∀ x ∈ l, dom x) (eg : ∀ args W, (callFunc g args).run Try.prog W = .ok (.enter g args) W) (hp : Asks w g fst cpt vR dom p) :
    Calls Try.prog 73 #[.slice A l.length cap, .func (.func g) fst cpt] w (Ret (IdxQ w p l)) := by

  go_enter Try.func73, Try.ntmps73
  go_wp2
  go_loopw [5, 8] (fun _ i wr => ∃ k : Nat, k ≤ l.length ∧ i = .int .i64 k ∧ Below w.heap.size w wr ∧ (l.take k).any p = false) (fun _ i _ => l.length - (intOf i).toNat)
  case atStart => exact ⟨0, by omega, rfl, Below.refl _ _, by simp⟩
  case round =>
    obtain ⟨k, hk, rfl, hB, hb⟩ := hrel
    by_cases hkn : k < l.length
    · obtain ⟨b, off, rfl, g1, g2⟩ := (hl.below hB).at_ hkn
      have hc := hp wr l[k] hB (hd _ (List.getElem_mem hkn))
      generalize hx : l[k] = x at g1 g2 hc
      obtain ⟨lo, hi⟩ := x
      dsimp only [vR] at g1 g2 hc
      have HB := Lib.hid hB
      have Hb := Lib.hid hb
      have Hc := Lib.hid hc
      have Hx := Lib.hid hx
      have Hp := Lib.hid hp
      clear hB hb hp hl hd hc hx
      cases hq : p (lo, hi) with
      | true =>
        rw [hq] at Hc
        have Hq := Lib.hid hq
        clear hq
        go_wp2_with fail
        refine Hc.out.mono ?_
        rintro e w1 ⟨v, rfl, rfl, hB1⟩
        have HB1 := Lib.hid hB1; clear hB1
        go_wp2
        go_ret
        exact Ret.mk ⟨⟨_, rfl, any_hit hkn (by rw [Hx.out]; exact Hq.out)⟩, below_trans' HB.out HB1.out⟩
      | false =>
        rw [hq] at Hc
        have Hq := Lib.hid hq
        clear hq
        go_wp2_with fail
        refine Hc.out.mono ?_
        rintro e w1 ⟨v, rfl, rfl, hB1⟩
        have HB1 := Lib.hid hB1; clear hB1
        go_wp2
        go_roundw
        case rel => exact ⟨k + 1, by omega, by go_num, below_trans' HB.out HB1.out, any_next hkn Hb.out (by rw [Hx.out]; exact Hq.out)⟩
        case measure => simp [intOf]; omega
    · have HB := Lib.hid hB
      have Hb := Lib.hid hb
      clear hB hb hp hl hd
      go_wp2
      go_ret
      exact Ret.mk ⟨⟨_, rfl, any_miss hkn Hb.out⟩, HB.out⟩

set_option maxHeartbeats 400000 in
theorem containsFuncR_any (A : Option Addr) (cap : Nat) (l : List (Int × Int)) (g : Nat) (fst cpt : Array Value) (dom : Int × Int → Prop) (p : Int × Int → Bool) (w : World) (hl : RangesAt w A l) (hn : l.length ≤ 100000)
    (hd : ∀ x ∈ l, dom x) (eg : ∀ args W, (callFunc g args).run Try.prog W = .ok (.enter g args) W) (hp : Asks w g fst cpt vR dom p) :
    Calls Try.prog 47 #[.slice A l.length cap, .func (.func g) fst cpt] w (Ret fun v w' => v = .bool (l.any p) ∧ Below w.heap.size w w') := by
  go_enter Try.func47, Try.ntmps47
  have Hl := Lib.hid hl
  have Hd := Lib.hid hd
  have Hp := Lib.hid hp
  clear hl hd hp
  go_wp2_with fail
  refine (indexFuncR_any _ _ l g fst cpt dom p _ Hl.out hn Hd.out eg Hp.out).mono ?_
  rintro e w1 ⟨v, rfl, ⟨r, rfl, hr⟩, hB1⟩
  have Hr := Lib.hid hr; clear hr
  have HB1 := Lib.hid hB1; clear hB1
  go_wp2
  go_ret
  exact Ret.mk ⟨by rw [Hr.out]; rfl, HB1.out⟩
set_option maxHeartbeats 400000 in
theorem indexFuncI_any (A : Option Addr) (cap : Nat) (l : List (Int)) (g : Nat) (fst cpt : Array Value) (dom : Int → Prop) (p : Int → Bool) (w : World) (hl : IntsAt w A l) (hn : l.length ≤ 100000)
    (hd : ∀ x ∈ l, dom x) (eg : ∀ args W, (callFunc g args).run Try.prog W = .ok (.enter g args) W) (hp : Asks w g fst cpt vI dom p) :
    Calls Try.prog 75 #[.slice A l.length cap, .func (.func g) fst cpt] w (Ret (IdxQ w p l)) := by

  go_enter Try.func75, Try.ntmps75
  go_wp2
  go_loopw [5, 8] (fun _ i wr => ∃ k : Nat, k ≤ l.length ∧ i = .int .i64 k ∧ Below w.heap.size w wr ∧ (l.take k).any p = false) (fun _ i _ => l.length - (intOf i).toNat)
  case atStart => exact ⟨0, by omega, rfl, Below.refl _ _, by simp⟩
  case round =>
    obtain ⟨k, hk, rfl, hB, hb⟩ := hrel
    by_cases hkn : k < l.length
    · obtain ⟨b, off, rfl, g1⟩ := (hl.below hB).at_ hkn
      have hc := hp wr l[k] hB (hd _ (List.getElem_mem hkn))
      generalize hx : l[k] = x at g1 hc
      dsimp only [vI] at hc
      have HB := Lib.hid hB
      have Hb := Lib.hid hb
      have Hc := Lib.hid hc
      have Hx := Lib.hid hx
      have Hp := Lib.hid hp
      clear hB hb hp hl hd hc hx
      cases hq : p x with
      | true =>
        rw [hq] at Hc
        have Hq := Lib.hid hq
        clear hq
        go_wp2_with fail
        refine Hc.out.mono ?_
        rintro e w1 ⟨v, rfl, rfl, hB1⟩
        have HB1 := Lib.hid hB1; clear hB1
        go_wp2
        go_ret
        exact Ret.mk ⟨⟨_, rfl, any_hit hkn (by rw [Hx.out]; exact Hq.out)⟩, below_trans' HB.out HB1.out⟩
      | false =>
        rw [hq] at Hc
        have Hq := Lib.hid hq
        clear hq
        go_wp2_with fail
        refine Hc.out.mono ?_
        rintro e w1 ⟨v, rfl, rfl, hB1⟩
        have HB1 := Lib.hid hB1; clear hB1
        go_wp2
        go_roundw
        case rel => exact ⟨k + 1, by omega, by go_num, below_trans' HB.out HB1.out, any_next hkn Hb.out (by rw [Hx.out]; exact Hq.out)⟩
        case measure => simp [intOf]; omega
    · have HB := Lib.hid hB
      have Hb := Lib.hid hb
      clear hB hb hp hl hd
      go_wp2
      go_ret
      exact Ret.mk ⟨⟨_, rfl, any_miss hkn Hb.out⟩, HB.out⟩

set_option maxHeartbeats 400000 in
theorem containsFuncI_any (A : Option Addr) (cap : Nat) (l : List (Int)) (g : Nat) (fst cpt : Array Value) (dom : Int → Prop) (p : Int → Bool) (w : World) (hl : IntsAt w A l) (hn : l.length ≤ 100000)
    (hd : ∀ x ∈ l, dom x) (eg : ∀ args W, (callFunc g args).run Try.prog W = .ok (.enter g args) W) (hp : Asks w g fst cpt vI dom p) :
    Calls Try.prog 52 #[.slice A l.length cap, .func (.func g) fst cpt] w (Ret fun v w' => v = .bool (l.any p) ∧ Below w.heap.size w w') := by
  go_enter Try.func52, Try.ntmps52
  have Hl := Lib.hid hl
  have Hd := Lib.hid hd
  have Hp := Lib.hid hp
  clear hl hd hp
  go_wp2_with fail
  refine (indexFuncI_any _ _ l g fst cpt dom p _ Hl.out hn Hd.out eg Hp.out).mono ?_
  rintro e w1 ⟨v, rfl, ⟨r, rfl, hr⟩, hB1⟩
  have Hr := Lib.hid hr; clear hr
  have HB1 := Lib.hid hB1; clear hB1
  go_wp2
  go_ret
  exact Ret.mk ⟨by rw [Hr.out]; rfl, HB1.out⟩
end Go.Proofs.Ytoogfdicmpkkgaa

namespace Go.Proofs.Ytoogfdicmpkkgaa
open Go.RowKit

def offB (lo hi n : Int) : Bool := decide (n < lo) || decide (hi < n)
theorem enters72 : ∀ args W, (callFunc 72 args).run Try.prog W = .ok (.enter 72 args) W := fun args W => by simp [go_sem]
theorem within1_any (n lo hi : Int) (b1 b2 : Nat) (w : World) (h1 : w.cell? ⟨b1, 0, none⟩ = some (.int .i64 lo)) (h2 : w.cell? ⟨b2, 0, none⟩ = some (.int .i64 hi)) :
    Calls Try.prog 72 #[.int .i64 n, .pointer (some ⟨b1, 0, none⟩), .pointer (some ⟨b2, 0, none⟩)] w (Ret fun v w' => v = .bool (offB lo hi n) ∧ Below w.heap.size w w') := by
  go_enter Try.func72, Try.ntmps72
  by_cases c : n < lo
  · have d : decide (n < lo) = true := by simpa using c
    go_wp2
    go_ret
    exact Ret.mk' (by unfold offB; rw [d]; rfl) ⟨rfl, Below.refl _ _⟩
  · have d : decide (n < lo) = false := by simpa using c
    go_wp2
    go_ret
    exact Ret.mk' (by unfold offB; rw [d]; rfl) ⟨rfl, Below.refl _ _⟩

set_option maxHeartbeats 400000 in
theorem within_any (A : Option Addr) (cap : Nat) (lo hi : Int) (l : List Int) (w : World) (hl : IntsAt w A l) (hn : l.length ≤ 100000) :
    Calls Try.prog 46 #[.int .i64 lo, .int .i64 hi, .slice A l.length cap] w (Ret fun v w' => v = .bool (!l.any (offB lo hi)) ∧ Below w.heap.size w w') := by
  have Hl := Lib.hid hl; clear hl
  have hmf : ∀ (fn : Fn) (first cap : Array Value) (w : World), (Instr.makeFunc fn first cap).run Try.prog w = .ok (.func fn first cap) w := fun _ _ _ _ => rfl
  obtain ⟨W, hW⟩ : ∃ W, W = (w.alloc (.cells #[.int .i64 lo] 3)).alloc (.cells #[.int .i64 hi] 3) := ⟨_, rfl⟩
  have p0 : W.cell? ⟨w.heap.size, 0, none⟩ = some (.int .i64 lo) := by rw [hW]; exact cell_alloc (new1_0 _ _ _) _
  have p1 : W.cell? ⟨w.heap.size + 1, 0, none⟩ = some (.int .i64 hi) := by rw [hW]; have := new1_0 (w.alloc (.cells #[.int .i64 lo] 3)) (.int .i64 hi) 3; rwa [World.size_alloc] at this
  have ha : Asks W 72 #[] #[.pointer (some ⟨w.heap.size, 0, none⟩), .pointer (some ⟨w.heap.size + 1, 0, none⟩)] vI (fun _ => True) (offB lo hi) := fun V x hV _ => within1_any x lo hi _ _ V (cell_below hV p0) (cell_below hV p1)
  have hc := containsFuncI_any A cap l 72 #[] #[.pointer (some ⟨w.heap.size, 0, none⟩), .pointer (some ⟨w.heap.size + 1, 0, none⟩)] (fun _ => True) (offB lo hi) W (by rw [hW]; exact (Hl.out.alloc _).alloc _) hn (fun _ _ => trivial) enters72 ha
  have Hc := Lib.hid hc
  have HB : Hid (Below w.heap.size w W) := Lib.hid (by rw [hW]; exact below_alloc' (below_alloc' (Below.refl _ _) _) _)
  clear hc ha p0 p1
  go_enter Try.func46, Try.ntmps46
  rw [hW] at Hc
  have HW := Lib.hid hW
  clear hW
  go_wp2_with fail
  refine Hc.out.mono ?_
  rintro e w1 ⟨v, rfl, rfl, hB1⟩
  have HB1 : Hid (Below w.heap.size w w1) := Lib.hid (below_trans' HB.out (by rw [HW.out]; exact hB1))
  clear hB1
  go_wp2
  go_ret
  exact Ret.mk' rfl ⟨rfl, HB1.out⟩

theorem ints_new1 (w : World) (x : Int) (t : TypeId) : IntsAt (w.alloc (.cells #[.int .i64 x] t)) (some ⟨w.heap.size, 0, none⟩) [x] := fun i hi => by
  obtain rfl : i = 0 := by simp at hi; omega
  refine ⟨w.heap.size, 0, rfl, fun j v hv => ?_⟩
  obtain rfl : j = 0 := by
    have := (List.getElem?_eq_some_iff.1 hv).1
    simp [encI] at this; omega
  have hv' : Value.int .i64 x = v := by simpa [encI] using hv
  rw [← hv']
  exact new1_0 _ _ _

set_option maxRecDepth 100000 in
set_option maxHeartbeats 1000000 in
theorem rising_any (A : Option Addr) (ca : Nat) (s : List Int) (n : Int) (w : World) (hs : IntsAt w A s) (hm : s.length ≤ 100000) (hn : 0 ≤ n ∧ n ≤ 1000000) :
    Calls Try.prog 40 #[.slice A s.length ca, .int .i64 n] w (Ret fun v w' => v = .bool (risingFrom (-1) n s) ∧ Below w.heap.size w w') := by
  have Hs := Lib.hid hs; clear hs
  have hw1 : IntKind.i64.wrap (n - 1) = n - 1 := IntWalk.i64_in _ (by omega)
  go_enter Try.func40, Try.ntmps40
  go_wp2
  go_loopw [9] (fun i wr => ∃ k : Nat, k ≤ s.length ∧ i = .int .i64 k ∧ Hid (risingFrom (-1) n (s.take k) = true) ∧ Below w.heap.size w wr) (fun i _ => s.length - (intOf i).toNat)
  case atStart => exact ⟨0, by omega, rfl, rfl, Below.refl _ _⟩
  case round =>
    obtain ⟨k, hk, rfl, HR, hB⟩ := hrel
    have HB := Lib.hid hB
    clear hB
    by_cases hkn : k < s.length
    · obtain ⟨b1, o1, rfl, g1⟩ := IntsAt.at_ (Hs.out.below HB.out) hkn
      generalize hx : s[k] = x at g1
      have Hx := Lib.hid hx; clear hx
      have hc := within_any (some ⟨wr.heap.size, 0, none⟩) 1 0 (n - 1) [x] (wr.alloc (.cells #[.int .i64 x] 3)) (ints_new1 _ _ _) (by simp)
      rw [show ([x] : List Int).length = 1 from rfl, show ([x] : List Int).any (offB 0 (n - 1)) = offB 0 (n - 1) x by simp] at hc
      have Hc := Lib.hid hc
      clear hc
      go_wp2_with fail
      refine Hc.out.mono ?_
      rintro e w2 ⟨v, rfl, rfl, hB2⟩
      have HB2 := Lib.hid (below_alloc_of HB.out hB2)
      clear hB2 Hc
      cases ho : offB 0 (n - 1) x
      · have hx0 : 0 ≤ x ∧ x < n := by unfold offB at ho; simp at ho; omega
        by_cases hk0 : 0 < k
        · obtain ⟨k', hkk⟩ : ∃ k', k = k' + 1 := ⟨k - 1, by omega⟩
          have hk'n : k' < s.length := by omega
          have fk : decide (0 < k) = true := by simp; omega
          obtain ⟨b2, o2, e2, g2⟩ := IntsAt.at_ (Hs.out.below HB2.out) hk'n
          injection e2 with e2
          injection e2 with e2 e3
          subst e2 e3
          have hy : lastOf (-1) (s.take k) = s[k'] := by rw [hkk]; exact lastOf_next hk'n rfl
          have hw : IntKind.i64.wrap ((k : Int) - 1) = (k' : Int) := by rw [show (k : Int) - 1 = k' by omega]; exact IntWalk.i64_in _ (by omega)
          generalize hyy : s[k'] = y at g2 hy
          have Hy := Lib.hid hy
          have Hkk := Lib.hid hkk
          clear hy hyy hkk ho
          by_cases hxy : x ≤ y
          · have fhxy : decide (x ≤ y) = true := by simp; omega
            have HF := Lib.hid (rising_bad (n := n) hkn Hx.out (by rw [Hy.out]; omega))
            go_wp2
            go_ret
            exact Ret.mk' (by rw [HF.out]; rfl) ⟨rfl, HB2.out⟩
          · have fhxy : decide (x ≤ y) = false := by simp; omega
            have HN := Lib.hid (rising_next hkn Hx.out HR.out (by rw [Hy.out]; omega) (show x < n by omega))
            go_wp2
            go_roundw
            case rel => exact ⟨k + 1, by omega, by go_num, HN, HB2.out⟩
            case measure => simp [intOf]; omega
        · have hk00 : k = 0 := by omega
          have Hy : Hid (lastOf (-1) (s.take k) = -1) := Lib.hid (by rw [hk00]; rfl)
          have Hk00 := Lib.hid hk00
          have fk : decide (0 < k) = false := by simp; omega
          have HN := Lib.hid (rising_next hkn Hx.out HR.out (by rw [Hy.out]; omega) (show x < n by omega))
          clear hk00 ho
          go_wp2
          go_roundw
          case rel => exact ⟨k + 1, by omega, by go_num, HN, HB2.out⟩
          case measure => simp [intOf]; omega
      · have HF := Lib.hid (rising_bad (n := n) hkn Hx.out (by
          unfold offB at ho
          simp at ho
          by_cases hn2 : n ≤ x
          · exact .inr hn2
          · left
            have hl : -1 ≤ lastOf (-1) (s.take k) := by
              by_cases hk0 : k = 0
              · subst hk0; exact Int.le_refl _
              · obtain ⟨k', rfl⟩ : ∃ k', k = k' + 1 := ⟨k - 1, by omega⟩
                have hk'n : k' < s.length := by omega
                rw [lastOf_next hk'n rfl]
                have := rising_mem _ _ _ HR.out s[k'] (List.mem_take_iff_getElem.2 ⟨k', by omega, rfl⟩)
                omega
            omega))
        clear ho
        go_wp2
        go_ret
        exact Ret.mk' (by rw [HF.out]; rfl) ⟨rfl, HB2.out⟩
    · have HA := Lib.hid (rising_all hkn HR.out)
      clear HR
      go_wp2
      go_ret
      exact Ret.mk' (by rw [HA.out]; rfl) ⟨rfl, HB.out⟩
end Go.Proofs.Ytoogfdicmpkkgaa

namespace Go.Proofs.Ytoogfdicmpkkgaa
open Go.RowKit

/-- a sheet, as it is handed over -/
def vSheet (L R : Int) (A : Option Addr) (n ca : Nat) (B : Option Addr) (m cb : Nat) : Value := .agg #[.int .i64 L, .int .i64 R, .slice A n ca, .slice B m cb]
def cSheet (L R : Int) (A : Option Addr) (n ca : Nat) (B : Option Addr) (m cb : Nat) : Obj := .cells #[.int .i64 L, .int .i64 R, .slice A n ca, .slice B m cb] 25
def meetB (a b : Int × Int) : Bool := (a.1 == b.1) || (a.2 == b.2)
def atL (l : List (Int × Int)) (i : Int) : Int × Int := l.getD i.toNat (0, 0)
/-- two of the names, at places k and j, have an item in common -/
def touchAt (l : List (Int × Int)) (t : List Int) (k j : Nat) : Bool := meetB (atL l (t.getD k 0)) (atL l (t.getD j 0))
def singleB (l : List (Int × Int)) (t : List Int) : Bool := !pairAny (touchAt l t) t.length
theorem touchAt_eq {l : List (Int × Int)} {t : List Int} {k j x z : Nat} (hk : k < t.length) (hj : j < t.length) (hx : t[k] = (x : Int)) (hz : t[j] = (z : Int)) (hxl : x < l.length) (hzl : z < l.length) : touchAt l t k j = meetB l[x] l[z] := by
  simp [touchAt, atL, List.getD_eq_getElem?_getD, hk, hj, hx, hz, hxl, hzl]

set_option maxRecDepth 100000 in
set_option maxHeartbeats 1000000 in
theorem refSingle_any (L R : Int) (A B C : Option Addr) (ca cb cc mm : Nat) (l : List (Int × Int)) (t : List Int) (w : World) (hl : RangesAt w A l) (ht : IntsAt w C t) (hn : l.length ≤ 100000) (hm : t.length ≤ 100000) (hin : ∀ x ∈ t, 0 ≤ x ∧ x < l.length) :
    Calls Try.prog 51 #[vSheet L R A l.length ca B mm cb, .slice C t.length cc] w (Ret fun v w' => v = .bool (singleB l t) ∧ Below w.heap.size w w') := by
  have Hl := Lib.hid hl; clear hl
  have Ht := Lib.hid ht; clear ht
  have Hin := Lib.hid hin; clear hin
  unfold vSheet
  have HX := Lib.hid (heap_alloc_new w (.cells #[.int .i64 L, .int .i64 R, .slice A l.length ca, .slice B mm cb] 25))
  have hme := meet_any
  unfold vR at hme
  have Hme := Lib.hid hme
  clear hme
  go_enter Try.func51, Try.ntmps51
  go_wp2
  obtain ⟨w0, hw0⟩ : ∃ w0, w0 = w.alloc (.cells #[.int .i64 L, .int .i64 R, .slice A l.length ca, .slice B mm cb] 25) := ⟨_, rfl⟩
  have HB0 : Hid (Below w.heap.size w w0) := Lib.hid (by rw [hw0]; exact below_alloc' (Below.refl _ _) _)
  have HY : Hid (w0.heap[w.heap.size]? = some (.cells #[.int .i64 L, .int .i64 R, .slice A l.length ca, .slice B mm cb] 25 (0, 0))) := Lib.hid (by rw [hw0]; exact HX.out)
  rw [← hw0]
  clear hw0 HX
  go_loopw [5] (fun i wr => ∃ k : Nat, k ≤ t.length ∧ i = .int .i64 k ∧ Below w0.heap.size w0 wr ∧ Hid ((List.range k).any (fun k => (List.range k).any (touchAt l t k)) = false)) (fun i _ => t.length - (intOf i).toNat)
  case atStart => exact ⟨0, by omega, rfl, Below.refl _ _, rfl⟩
  case round =>
    obtain ⟨k, hk, rfl, hB, HP⟩ := hrel
    have HB := Lib.hid hB
    clear hB
    by_cases hkn : k < t.length
    · obtain ⟨w1, hw1⟩ : ∃ w1, w1 = wr := ⟨_, rfl⟩
      subst hw1
      go_wp2
      go_loopw [6] (fun i wq => ∃ j : Nat, j ≤ k ∧ i = .int .i64 j ∧ Below w1.heap.size w1 wq ∧ Hid ((List.range j).any (touchAt l t k) = false)) (fun i _ => k - (intOf i).toNat)
      case atStart => exact ⟨0, by omega, rfl, Below.refl _ _, rfl⟩
      case round =>
        obtain ⟨j, hj, rfl, hB, HQ⟩ := hrel
        have HB1 := Lib.hid hB
        clear hB
        by_cases hjk : j < k
        · have hjn : j < t.length := by omega
          have HBa := Lib.hid (below_trans' HB.out HB1.out)
          have g0 : wr.cell? ⟨w.heap.size, 2, none⟩ = some (.slice A l.length ca) := cell_below HBa.out ((blk_cell HY.out).trans rfl)
          obtain ⟨b1, o1, hb1, g1⟩ := IntsAt.at_ ((Ht.out.below HB0.out).below HBa.out) hkn
          obtain ⟨b2, o2, hb2, g2⟩ := IntsAt.at_ ((Ht.out.below HB0.out).below HBa.out) hjn
          rw [hb1] at hb2
          injection hb2 with hb2
          injection hb2 with e1 e2
          subst e1 e2
          obtain ⟨hx1, hx2⟩ := Hin.out t[k] (List.getElem_mem hkn)
          obtain ⟨hz1, hz2⟩ := Hin.out t[j] (List.getElem_mem hjn)
          generalize hx : t[k] = x at g1 hx1 hx2
          generalize hz : t[j] = z at g2 hz1 hz2
          obtain ⟨x, rfl⟩ := Int.eq_ofNat_of_zero_le hx1
          obtain ⟨z, rfl⟩ := Int.eq_ofNat_of_zero_le hz1
          have hxl : x < l.length := by omega
          have hzl : z < l.length := by omega
          obtain ⟨b3, o3, hb3, p1, p2⟩ := RangesAt.at_ ((Hl.out.below HB0.out).below HBa.out) hxl
          obtain ⟨b4, o4, hb4, p3, p4⟩ := RangesAt.at_ ((Hl.out.below HB0.out).below HBa.out) hzl
          rw [hb3] at hb4
          injection hb4 with hb4
          injection hb4 with e3 e4
          subst e3 e4
          have HTA := Lib.hid (touchAt_eq (l := l) hkn hjn hx hz hxl hzl)
          generalize l[x] = lx at p1 p2 HTA
          generalize l[z] = lz at p3 p4 HTA
          obtain ⟨lx1, lx2⟩ := lx
          obtain ⟨lz1, lz2⟩ := lz
          dsimp only at p1 p2 p3 p4
          subst hb1
          subst hb3
          have hme := fun W => Hme.out (lx1, lx2) (lz1, lz2) W
          clear hx hz
          obtain ⟨w2, hw2⟩ : ∃ w2, w2 = wr := ⟨_, rfl⟩
          subst hw2
          have hnt : l.length ≤ 100000 := hn
          go_wp2
          go_region_held3 (fun W => W.cell? ⟨w.heap.size, 2, none⟩ = some (.slice (some ⟨b3, o3, none⟩) l.length ca) ∧ W.cell? ⟨b1, o1 + k, none⟩ = some (.int .i64 x) ∧ W.cell? ⟨b1, o1 + j, none⟩ = some (.int .i64 z) ∧ W.cell? ⟨b3, o3 + x * 2, none⟩ = some (.int .i64 lx1) ∧ W.cell? ⟨b3, o3 + x * 2 + 1, none⟩ = some (.int .i64 lx2) ∧ W.cell? ⟨b3, o3 + z * 2, none⟩ = some (.int .i64 lz1) ∧ W.cell? ⟨b3, o3 + z * 2 + 1, none⟩ = some (.int .i64 lz2))
            (first | exact ⟨g0, g1, g2, p1, p2, p3, p4⟩ | exact ⟨cell_below hBc g0, cell_below hBc g1, cell_below hBc g2, cell_below hBc p1, cell_below hBc p2, cell_below hBc p3, cell_below hBc p4⟩)
            (first | (go_at_call 71; refine (hme _).mono ?_; rintro e wc ⟨v, rfl, rfl, hBc⟩; replace hBc : Below w2.heap.size w2 wc := (by first | exact below_drew_of (Below.refl _ _) hBc | exact hBc)))
          all_goals
            have HBc := Lib.hid (below_trans' HB1.out hBc)
            clear hBc g0 g1 g2 p1 p2 p3 p4 hme
            have hta := HTA.out
            unfold meetB at hta
            dsimp only at hta
            generalize ((lx1 == lz1) || (lx2 == lz2)) = c at hta
            have HTC := Lib.hid hta
            clear hta HTA
            cases c
          all_goals first
            | (go_wp2
               go_roundw
               case rel => exact ⟨j + 1, by omega, by go_num, HBc.out, range_any_next HQ.out HTC.out⟩
               case measure => simp [intOf]; omega
               )
            | (have HF : Hid (singleB l t = false) := Lib.hid (by unfold singleB pairAny; rw [range_any_hit hkn (range_any_hit hjk HTC.out)]; rfl)
               go_wp2
               go_ret
               exact Ret.mk' (by rw [HF.out]; rfl) ⟨rfl, below_trans' HB0.out (below_trans' HB.out HBc.out)⟩)
        · have HN := Lib.hid (range_any_next HP.out (by rw [show j = k by omega] at HQ; exact HQ.out))
          go_wp2
          go_roundw
          case rel => exact ⟨k + 1, by omega, by go_num, below_trans' HB.out HB1.out, HN⟩
          case measure => simp [intOf]; omega
    · have HP2 := HP.out
      rw [show k = t.length by omega] at HP2
      have HF : Hid (singleB l t = true) := Lib.hid (by unfold singleB pairAny; rw [HP2]; rfl)
      clear HP2
      go_wp2
      go_ret
      exact Ret.mk' (by rw [HF.out]; rfl) ⟨rfl, below_trans' HB0.out HB.out⟩
end Go.Proofs.Ytoogfdicmpkkgaa

namespace Go.Proofs.Ytoogfdicmpkkgaa
open Go.RowKit

/-- link x has an item in common with a link of Known -/
def takenB (l : List (Int × Int)) (t : List Int) (x : Int) : Bool := t.any fun k => meetB (atL l x) (atL l k)

set_option maxRecDepth 100000 in
set_option maxHeartbeats 1000000 in
theorem taken_any (L R : Int) (A B : Option Addr) (ca cb : Nat) (l : List (Int × Int)) (t : List Int) (x : Nat) (w : World) (hl : RangesAt w A l) (ht : IntsAt w B t) (hm : t.length ≤ 100000) (hin : ∀ x ∈ t, 0 ≤ x ∧ x < l.length) (hxl : x < l.length) :
    Calls Try.prog 45 #[vSheet L R A l.length ca B t.length cb, .int .i64 x] w (Ret fun v w' => v = .bool (takenB l t x) ∧ Below w.heap.size w w') := by
  have Hl := Lib.hid hl; clear hl
  have Ht := Lib.hid ht; clear ht
  have Hin := Lib.hid hin; clear hin
  unfold vSheet
  have HX := Lib.hid (heap_alloc_new w (.cells #[.int .i64 L, .int .i64 R, .slice A l.length ca, .slice B t.length cb] 25))
  have hme := meet_any
  unfold vR at hme
  have Hme := Lib.hid hme
  clear hme
  go_enter Try.func45, Try.ntmps45
  go_wp2
  obtain ⟨w0, hw0⟩ : ∃ w0, w0 = w.alloc (.cells #[.int .i64 L, .int .i64 R, .slice A l.length ca, .slice B t.length cb] 25) := ⟨_, rfl⟩
  have HB0 : Hid (Below w.heap.size w w0) := Lib.hid (by rw [hw0]; exact below_alloc' (Below.refl _ _) _)
  have HY : Hid (w0.heap[w.heap.size]? = some (.cells #[.int .i64 L, .int .i64 R, .slice A l.length ca, .slice B t.length cb] 25 (0, 0))) := Lib.hid (by rw [hw0]; exact HX.out)
  rw [← hw0]
  clear hw0 HX
  go_loopw [5] (fun i wr => ∃ k : Nat, k ≤ t.length ∧ i = .int .i64 k ∧ Below w0.heap.size w0 wr ∧ Hid ((t.take k).any (fun k => meetB (atL l (x : Int)) (atL l k)) = false)) (fun i _ => t.length - (intOf i).toNat)
  case atStart => exact ⟨0, by omega, rfl, Below.refl _ _, by show _ = _; simp⟩
  case round =>
    obtain ⟨k, hk, rfl, hB, HP⟩ := hrel
    have HB := Lib.hid hB
    clear hB
    have g3 : wr.cell? ⟨w.heap.size, 3, none⟩ = some (.slice B t.length cb) := cell_below HB.out ((blk_cell HY.out).trans rfl)
    by_cases hkn : k < t.length
    · have g0 : wr.cell? ⟨w.heap.size, 2, none⟩ = some (.slice A l.length ca) := cell_below HB.out ((blk_cell HY.out).trans rfl)
      obtain ⟨b1, o1, hb1, g1⟩ := IntsAt.at_ ((Ht.out.below HB0.out).below HB.out) hkn
      obtain ⟨hz1, hz2⟩ := Hin.out t[k] (List.getElem_mem hkn)
      have htk := take_snoc hkn rfl
      generalize hz : t[k] = z at g1 hz1 hz2 htk
      obtain ⟨z, rfl⟩ := Int.eq_ofNat_of_zero_le hz1
      have hzl : z < l.length := by omega
      obtain ⟨b3, o3, hb3, p1, p2⟩ := RangesAt.at_ ((Hl.out.below HB0.out).below HB.out) hxl
      obtain ⟨b4, o4, hb4, p3, p4⟩ := RangesAt.at_ ((Hl.out.below HB0.out).below HB.out) hzl
      rw [hb3] at hb4
      injection hb4 with hb4
      injection hb4 with e3 e4
      subst e3 e4
      have hax : atL l (x : Int) = l[x] := by simp [atL, List.getD_eq_getElem?_getD, hxl]
      have haz : atL l (z : Int) = l[z] := by simp [atL, List.getD_eq_getElem?_getD, hzl]
      have hmemz : (z : Int) ∈ t := by rw [← hz]; exact List.getElem_mem hkn
      generalize l[x] = lx at p1 p2 hax
      generalize l[z] = lz at p3 p4 haz
      obtain ⟨lx1, lx2⟩ := lx
      obtain ⟨lz1, lz2⟩ := lz
      dsimp only at p1 p2 p3 p4
      have Hax := Lib.hid hax
      have Haz := Lib.hid haz
      have Htk := Lib.hid htk
      have Hmz := Lib.hid hmemz
      subst hb1
      subst hb3
      have hme := fun W => Hme.out (lx1, lx2) (lz1, lz2) W
      clear hz hax haz htk hmemz
      obtain ⟨w2, hw2⟩ : ∃ w2, w2 = wr := ⟨_, rfl⟩
      subst hw2
      go_wp2
      go_region_held3 (fun W => W.cell? ⟨w.heap.size, 2, none⟩ = some (.slice (some ⟨b3, o3, none⟩) l.length ca) ∧ W.cell? ⟨w.heap.size, 3, none⟩ = some (.slice (some ⟨b1, o1, none⟩) t.length cb) ∧ W.cell? ⟨b1, o1 + k, none⟩ = some (.int .i64 z) ∧ W.cell? ⟨b3, o3 + x * 2, none⟩ = some (.int .i64 lx1) ∧ W.cell? ⟨b3, o3 + x * 2 + 1, none⟩ = some (.int .i64 lx2) ∧ W.cell? ⟨b3, o3 + z * 2, none⟩ = some (.int .i64 lz1) ∧ W.cell? ⟨b3, o3 + z * 2 + 1, none⟩ = some (.int .i64 lz2))
        (first | exact ⟨g0, g3, g1, p1, p2, p3, p4⟩ | exact ⟨cell_below hBc g0, cell_below hBc g3, cell_below hBc g1, cell_below hBc p1, cell_below hBc p2, cell_below hBc p3, cell_below hBc p4⟩)
        (first | (go_at_call 71; refine (hme _).mono ?_; rintro e wc ⟨v, rfl, rfl, hBc⟩; replace hBc : Below w2.heap.size w2 wc := (by first | exact below_drew_of (Below.refl _ _) hBc | exact hBc)))
      all_goals
        have HBc := Lib.hid (below_trans' HB.out hBc)
        clear hBc g0 g1 g3 p1 p2 p3 p4 hme
        have hta : meetB (lx1, lx2) (lz1, lz2) = ((lx1 == lz1) || (lx2 == lz2)) := rfl
        generalize ((lx1 == lz1) || (lx2 == lz2)) = c at hta
        have HTC := Lib.hid hta
        clear hta
        cases c
      all_goals first
        | (go_wp2
           go_roundw
           case rel => exact ⟨k + 1, by omega, by go_num, HBc.out, Lib.hid (by rw [Htk.out, List.any_append, HP.out]; simp only [List.any_cons, List.any_nil, Bool.or_false, Bool.false_or]; rw [Hax.out, Haz.out]; exact HTC.out)⟩
           case measure => simp [intOf]; omega
           )
        | (have HF : Hid (takenB l t x = true) := Lib.hid (by unfold takenB; rw [List.any_eq_true]; exact ⟨_, Hmz.out, by rw [Hax.out, Haz.out]; exact HTC.out⟩)
           go_wp2
           go_ret
           exact Ret.mk' (by rw [HF.out]; rfl) ⟨rfl, below_trans' HB0.out HBc.out⟩)
    · have HP2 := HP.out
      rw [List.take_of_length_le (by omega)] at HP2
      have HF : Hid (takenB l t x = false) := Lib.hid HP2
      clear HP2
      go_wp2
      go_ret
      exact Ret.mk' (by rw [HF.out]; rfl) ⟨rfl, below_trans' HB0.out HB.out⟩
end Go.Proofs.Ytoogfdicmpkkgaa

namespace Go.Proofs.Ytoogfdicmpkkgaa
open Go.RowKit

def hasB (x : Int × Int) (right : Bool) (item : Int) : Bool := (right && (x.2 == item)) || (!right && (x.1 == item))

set_option maxHeartbeats 400000 in
theorem has_any (x : Int × Int) (right : Bool) (item : Int) (w : World) :
    Calls Try.prog 62 #[vR x, .bool right, .int .i64 item] w (Ret fun v w' => v = .bool (hasB x right item) ∧ Below w.heap.size w w') := by
  obtain ⟨a, b⟩ := x
  unfold vR
  dsimp only
  cases right
  · go_enter Try.func62, Try.ntmps62
    go_wp2
    go_ret
    exact Ret.mk' (by unfold hasB; simp) ⟨rfl, below_alloc' (Below.refl _ _) _⟩
  · go_enter Try.func62, Try.ntmps62
    cases h : (b == item)
    all_goals
      go_wp2
      go_ret
      exact Ret.mk' (by unfold hasB; simp [h]) ⟨rfl, below_alloc' (Below.refl _ _) _⟩

theorem great_any (L R : Int) (A B : Option Addr) (n ca m cb : Nat) (w : World) (hn : n ≤ 9223372036854775807) (_hm : m ≤ 9223372036854775807) :
    Calls Try.prog 14 #[vSheet L R A n ca B m cb] w (Ret fun v w' => v = .bool (decide (50 < n) || decide (50 < m)) ∧ Below w.heap.size w w') := by
  unfold vSheet
  go_enter Try.func14, Try.ntmps14
  by_cases h : 50 < n
  all_goals
    go_wp2
    go_ret
    exact Ret.mk' (by simp only [show ∀ a : Nat, (50 < (a : Int)) = (50 < a) from fun a => propext (by omega), h, decide_false]; rfl) ⟨rfl, below_alloc' (Below.refl _ _) _⟩

set_option maxHeartbeats 400000 in
theorem link_any (a b : Int) (w : World) : Calls Try.prog 37 #[.int .i64 a, .int .i64 b] w (Ret fun v w' => v = vR (a, b) ∧ Below w.heap.size w w') := by
  go_enter Try.func37, Try.ntmps37
  go_wp2
  exact bodyPost_ret (v := vR (a, b)) (by simp [vR, results, Try.results37, go_sem]) rfl (Ret.mk ⟨rfl, by first | exact (below_alloc' (Below.refl _ _) _) | exact ((Below.refl _ _).alloc (Nat.le_refl _) _).setCell (by simp) _⟩)

theorem rows_new {α : Type} {enc : α → List Value} {k : Nat} (hk : ∀ x, (enc x).length = k) (w : World) (l : List α) (cs : Array Value) (t : TypeId) (h : cs.toList = l.flatMap enc) : RowsAt enc k (w.alloc (.cells cs t)) (some ⟨w.heap.size, 0, none⟩) l := fun i hi => by
  refine ⟨w.heap.size, 0, rfl, fun j v hv => ?_⟩
  rw [blk_cell (heap_alloc_new w _), Nat.zero_add, ← Array.getElem?_toList, h]
  exact flatMap_at hk i j hi v hv
theorem RowsAt.far {α : Type} {enc : α → List Value} {k : Nat} {w : World} {b off : Nat} {l : List α} (h : RowsAt enc k w (some ⟨b, off, none⟩) l) {p : Addr} (hne : b ≠ p.block) (u : Value) : RowsAt enc k (w.setCell p u) (some ⟨b, off, none⟩) l := fun i hi => by
  obtain ⟨b', off', hA, hc⟩ := h i hi
  refine ⟨b', off', hA, fun j v hv => cell_far (hc j v hv) fun e => ?_⟩
  injection hA with hA
  injection hA with e1
  rw [← e] at hne
  exact hne e1
def sheetL : List (Int × Int) := [(0, 0), (0, 1), (1, 0), (2, 1), (2, 2)]
def openL : List (Int × Int) := [(0, 0), (0, 1), (2, 1), (2, 2)]

set_option maxHeartbeats 1000000 in
theorem sheet_any (w : World) : Calls Try.prog 38 #[] w (Ret fun v w' => (∃ b, v = vSheet 3 3 (some ⟨b, 0, none⟩) 5 5 none 0 0 ∧ w.heap.size ≤ b ∧ RangesAt w' (some ⟨b, 0, none⟩) sheetL) ∧ Below w.heap.size w w') := by
  have hli := link_any
  unfold vR at hli
  have Hli := Lib.hid hli; clear hli
  go_enter Try.func38, Try.ntmps38
  go_wp2_with fail
  refine (Hli.out _ _ _).mono ?_
  rintro e w1 ⟨v, rfl, rfl, hB1⟩
  have HB1 := Lib.hid (below_alloc_of (Below.refl _ _) hB1)
  have HY := Lib.hid (blk_below hB1 (heap_alloc_new w _)); clear hB1
  go_wp2_with fail
  refine (Hli.out _ _ _).mono ?_
  rintro e w2 ⟨v, rfl, rfl, hB2⟩
  have HB2 := Lib.hid (below_trans' HB1.out hB2); replace HY := Lib.hid (blk_below hB2 HY.out); clear hB2
  go_wp2_with fail
  refine (Hli.out _ _ _).mono ?_
  rintro e w3 ⟨v, rfl, rfl, hB3⟩
  have HB3 := Lib.hid (below_trans' HB2.out hB3); replace HY := Lib.hid (blk_below hB3 HY.out); clear hB3
  go_wp2_with fail
  refine (Hli.out _ _ _).mono ?_
  rintro e w4 ⟨v, rfl, rfl, hB4⟩
  have HB4 := Lib.hid (below_trans' HB3.out hB4); replace HY := Lib.hid (blk_below hB4 HY.out); clear hB4
  go_wp2_with fail
  refine (Hli.out _ _ _).mono ?_
  rintro e w5 ⟨v, rfl, rfl, hB5⟩
  have HB5 := Lib.hid (below_trans' HB4.out hB5); replace HY := Lib.hid (blk_below hB5 HY.out); clear hB5
  have hlt := HB5.out.size
  obtain ⟨W, hW⟩ : ∃ W, W = w5.alloc (.cells #[.int .i64 0, .int .i64 0, .int .i64 0, .int .i64 1, .int .i64 1, .int .i64 0, .int .i64 2, .int .i64 1, .int .i64 2, .int .i64 2] 55) := ⟨_, rfl⟩
  have HR := Lib.hid (rows_new encR_len w5 sheetL #[.int .i64 0, .int .i64 0, .int .i64 0, .int .i64 1, .int .i64 1, .int .i64 0, .int .i64 2, .int .i64 1, .int .i64 2, .int .i64 2] 55 rfl)
  have hy := blk_alloc HY.out (.cells #[.int .i64 0, .int .i64 0, .int .i64 0, .int .i64 1, .int .i64 1, .int .i64 0, .int .i64 2, .int .i64 1, .int .i64 2, .int .i64 2] 55)
  have c0 := (blk_cell (i := 0) hy).trans rfl
  have c1 := (blk_cell (i := 1) hy).trans rfl
  have c2 := (blk_cell (i := 2) hy).trans rfl
  have c3 := (blk_cell (i := 3) hy).trans rfl
  have f0 := blk_frozen (i := 0) hy
  have f1 := blk_frozen (i := 1) hy
  have f2 := blk_frozen (i := 2) hy
  have f3 := blk_frozen (i := 3) hy
  clear hy hW
  go_wp2
  have hF := Lib.hid (blk_set (i := 3) (blk_set (i := 2) (blk_set (i := 1) (blk_set (i := 0) (blk_alloc HY.out (.cells #[.int .i64 0, .int .i64 0, .int .i64 0, .int .i64 1, .int .i64 1, .int .i64 0, .int .i64 2, .int .i64 1, .int .i64 2, .int .i64 2] 55)) (.int .i64 3)) (.int .i64 3)) (.slice (some ⟨w5.heap.size, 0, none⟩) 5 5)) (.slice none 0 0))
  have hBF := Lib.hid (((((below_alloc' HB5.out (.cells #[.int .i64 0, .int .i64 0, .int .i64 0, .int .i64 1, .int .i64 1, .int .i64 0, .int .i64 2, .int .i64 1, .int .i64 2, .int .i64 2] 55)).setCell (p := ⟨w.heap.size, 0, none⟩) (Nat.le_refl _) (.int .i64 3)).setCell (p := ⟨w.heap.size, 1, none⟩) (Nat.le_refl _) (.int .i64 3)).setCell (p := ⟨w.heap.size, 2, none⟩) (Nat.le_refl _) (.slice (some ⟨w5.heap.size, 0, none⟩) 5 5)).setCell (p := ⟨w.heap.size, 3, none⟩) (Nat.le_refl _) (.slice none 0 0))
  have hne : w5.heap.size ≠ w.heap.size := fun e => by have := blk_lt HY.out; omega
  have hRF := Lib.hid ((((HR.out.far (p := ⟨w.heap.size, 0, none⟩) hne (.int .i64 3)).far (p := ⟨w.heap.size, 1, none⟩) hne (.int .i64 3)).far (p := ⟨w.heap.size, 2, none⟩) hne (.slice (some ⟨w5.heap.size, 0, none⟩) 5 5)).far (p := ⟨w.heap.size, 3, none⟩) hne (.slice none 0 0))
  clear c0 c1 c2 c3 f0 f1 f2 f3 HR
  generalize (World.setCell _ _ _) = V at hF hBF hRF ⊢
  have e0 := (blk_cell (i := 0) hF.out).trans rfl
  have e1 := (blk_cell (i := 1) hF.out).trans rfl
  have e2 := (blk_cell (i := 2) hF.out).trans rfl
  have e3 := (blk_cell (i := 3) hF.out).trans rfl
  exact bodyPost_ret (v := vSheet 3 3 (some ⟨w5.heap.size, 0, none⟩) 5 5 none 0 0) (by simp [vSheet, results, Try.results38, go_sem, e0, e1, e2, e3]) rfl (Ret.mk ⟨⟨_, rfl, hlt, hRF.out⟩, hBF.out⟩)
end Go.Proofs.Ytoogfdicmpkkgaa

namespace Go.Proofs.Ytoogfdicmpkkgaa
open Go.RowKit

def linkOff (L R : Int) (x : Int × Int) : Bool := offB 0 (L - 1) x.1 || offB 0 (R - 1) x.2
def sameAt (l : List (Int × Int)) (k j : Nat) : Bool := decide (atL l k = atL l j)
def sheetErr (L R : Int) (l : List (Int × Int)) (t : List Int) : Int :=
  if (offB 1 12 L || offB 1 12 R) = true then 2 else if 40 < l.length then 6 else if l.any (linkOff L R) = true then 3 else if pairAny (sameAt l) l.length = true then 11 else if (risingFrom (-1) l.length t && singleB l t) = true then 0 else 16
theorem offB_t {lo hi n : Int} (h : n < lo ∨ hi < n) : offB lo hi n = true := by unfold offB; simp; omega
theorem offB_f {lo hi n : Int} (h : lo ≤ n ∧ n ≤ hi) : offB lo hi n = false := by unfold offB; simp; omega
theorem off2_t {L R : Int} (h : L < 1 ∨ 12 < L ∨ R < 1 ∨ 12 < R) : (offB 1 12 L || offB 1 12 R) = true := by unfold offB; simp; omega
theorem off2_f {L R : Int} (h : 1 ≤ L ∧ L ≤ 12 ∧ 1 ≤ R ∧ R ≤ 12) : (offB 1 12 L || offB 1 12 R) = false := by unfold offB; simp; omega
theorem linkOff_t {L R a b : Int} (h : a < 0 ∨ L ≤ a ∨ b < 0 ∨ R ≤ b) : linkOff L R (a, b) = true := by unfold linkOff offB; simp; omega
theorem linkOff_f {L R a b : Int} (h : 0 ≤ a ∧ a < L ∧ 0 ≤ b ∧ b < R) : linkOff L R (a, b) = false := by unfold linkOff offB; simp; omega
theorem linkOff_in {L R : Int} {x : Int × Int} (h : linkOff L R x = false) : 0 ≤ x.1 ∧ x.1 < L ∧ 0 ≤ x.2 ∧ x.2 < R := by unfold linkOff offB at h; simp at h; omega
theorem sheet2 {L R : Int} {l : List (Int × Int)} {t : List Int} (h : L < 1 ∨ 12 < L ∨ R < 1 ∨ 12 < R) : sheetErr L R l t = 2 := by
  unfold sheetErr; rw [if_pos (off2_t h)]
theorem sheet6 {L R : Int} {l : List (Int × Int)} {t : List Int} (h : 1 ≤ L ∧ L ≤ 12 ∧ 1 ≤ R ∧ R ≤ 12) (h2 : 40 < l.length) : sheetErr L R l t = 6 := by
  unfold sheetErr; rw [if_neg (by rw [off2_f h]; simp), if_pos h2]
theorem sheet3 {L R : Int} {l : List (Int × Int)} {t : List Int} (h : 1 ≤ L ∧ L ≤ 12 ∧ 1 ≤ R ∧ R ≤ 12) (h2 : l.length ≤ 40) (h3 : l.any (linkOff L R) = true) : sheetErr L R l t = 3 := by
  unfold sheetErr; rw [if_neg (by rw [off2_f h]; simp), if_neg (by omega), if_pos h3]
theorem sheet11 {L R : Int} {l : List (Int × Int)} {t : List Int} (h : 1 ≤ L ∧ L ≤ 12 ∧ 1 ≤ R ∧ R ≤ 12) (h2 : l.length ≤ 40) (h3 : l.any (linkOff L R) = false) (h4 : pairAny (sameAt l) l.length = true) : sheetErr L R l t = 11 := by
  unfold sheetErr; rw [if_neg (by rw [off2_f h]; simp), if_neg (by omega), if_neg (by rw [h3]; simp), if_pos h4]
theorem sheetEnd {L R : Int} {l : List (Int × Int)} {t : List Int} (h : 1 ≤ L ∧ L ≤ 12 ∧ 1 ≤ R ∧ R ≤ 12) (h2 : l.length ≤ 40) (h3 : l.any (linkOff L R) = false) (h4 : pairAny (sameAt l) l.length = false) : sheetErr L R l t = if (risingFrom (-1) l.length t && singleB l t) = true then 0 else 16 := by
  unfold sheetErr; rw [if_neg (by rw [off2_f h]; simp), if_neg (by omega), if_neg (by rw [h3]; simp), if_neg (by rw [h4]; simp)]
theorem any_hit' {α : Type} {p : α → Bool} {l : List α} {k : Nat} (hk : k < l.length) (h : p l[k] = true) : l.any p = true := List.any_eq_true.2 ⟨_, List.getElem_mem hk, h⟩
theorem any_miss' {α : Type} {p : α → Bool} {l : List α} {k : Nat} (hk : ¬ k < l.length) (h : (l.take k).any p = false) : l.any p = false := by rwa [List.take_of_length_le (by omega)] at h
theorem atL_eq {l : List (Int × Int)} {k : Nat} (hk : k < l.length) : atL l (k : Int) = l[k] := by simp [atL, List.getD_eq_getElem?_getD, hk]
theorem rising_in {n : Nat} {t : List Int} (h : risingFrom (-1) n t = true) : ∀ x ∈ t, 0 ≤ x ∧ x < n := fun x hx => by have := rising_mem _ _ _ h x hx; omega

theorem guardL : Try.prog.eqGuardType Try.prog.depth 55 = false := by kernel_rfl
def eqLB (a b c d : Int) : Bool := (a == c && b == d)
theorem run_eqL (a b c d : Int) (w : World) : (binOp .eql 55 (.agg #[.int .i64 a, .int .i64 b]) (.agg #[.int .i64 c, .int .i64 d])).run Try.prog w = .ok (.bool (eqLB a b c d)) w := by
  have u2 := Try.underlying3
  have a2 := Try.isAgg3
  have z2 := Try.sizeOf3
  have hS : Try.prog.underlying 55 = some (.struct (Try.prog.fieldsOf 55)) := by kernel_rfl
  have hp : Try.prog.stoodInHeld 55 = false := by kernel_rfl
  rw [run_eql_struct, show (10000 : Nat) = 9999 + 1 from rfl, run_equalIn_agg w 9999 55 _ _ hS hp]
  simp only [Program.fieldsOf, Try.underlying55]
  go_simp
  by_cases h1 : a = c <;> by_cases h2 : b = d <;> simp [h1, h2, eqLB]
theorem sameAt_eq {l : List (Int × Int)} {k j : Nat} (hk : k < l.length) (hj : j < l.length) {a b c d : Int} (h1 : l[k] = (a, b)) (h2 : l[j] = (c, d)) : sameAt l k j = eqLB a b c d := by
  unfold sameAt eqLB; rw [atL_eq hk, atL_eq hj, h1, h2]
  by_cases e1 : a = c <;> by_cases e2 : b = d <;> simp [e1, e2]

set_option maxRecDepth 100000 in
set_option maxHeartbeats 1000000 in
theorem refCheckSheet_any (L R : Int) (A B : Option Addr) (ca cb : Nat) (l : List (Int × Int)) (t : List Int) (w : World) (hl : RangesAt w A l) (ht : IntsAt w B t) (hn : l.length ≤ 100000) (hm : t.length ≤ 100000) :
    Calls Try.prog 19 #[vSheet L R A l.length ca B t.length cb] w (Ret fun v w' => v = .int .i64 (sheetErr L R l t) ∧ Below w.heap.size w w') := by
  have Hl := Lib.hid hl; clear hl
  have Ht := Lib.hid ht; clear ht
  have Hm := Lib.hid hm; clear hm
  unfold vSheet
  have HX := Lib.hid (heap_alloc_new w (.cells #[.int .i64 L, .int .i64 R, .slice A l.length ca, .slice B t.length cb] 25))
  have hsi := refSingle_any L R
  unfold vSheet at hsi
  have Hsi := Lib.hid hsi
  clear hsi
  by_cases h0 : 1 ≤ L ∧ L ≤ 12 ∧ 1 ≤ R ∧ R ≤ 12
  · go_enter Try.func19, Try.ntmps19
    by_cases h40 : 40 < l.length
    · have HF := Lib.hid (sheet6 (t := t) h0 h40)
      clear HX Hsi
      go_wp2
      all_goals first
        | (exfalso; omega)
        | (go_ret; exact Ret.mk' (congrArg (Value.int .i64) HF.out.symm) ⟨rfl, below_alloc' (Below.refl _ _) _⟩)
    go_wp2
    all_goals try (exfalso; omega)
    obtain ⟨w0, hw0⟩ : ∃ w0, w0 = w.alloc (.cells #[.int .i64 L, .int .i64 R, .slice A l.length ca, .slice B t.length cb] 25) := ⟨_, rfl⟩
    have HB0 : Hid (Below w.heap.size w w0) := Lib.hid (by rw [hw0]; exact below_alloc' (Below.refl _ _) _)
    have HY : Hid (w0.heap[w.heap.size]? = some (.cells #[.int .i64 L, .int .i64 R, .slice A l.length ca, .slice B t.length cb] 25 (0, 0))) := Lib.hid (by rw [hw0]; exact HX.out)
    rw [← hw0]
    clear hw0 HX
    go_loopw [3] (fun i wr => ∃ k : Nat, k ≤ l.length ∧ i = .int .i64 k ∧ Below w0.heap.size w0 wr ∧ Hid ((l.take k).any (linkOff L R) = false)) (fun i _ => l.length - (intOf i).toNat)
    case atStart => exact ⟨0, by omega, rfl, Below.refl _ _, rfl⟩
    case round =>
      obtain ⟨k, hk, rfl, hB, HP⟩ := hrel
      have HB := Lib.hid hB
      clear hB
      have y0 : wr.cell? ⟨w.heap.size, 0, none⟩ = some (.int .i64 L) := cell_below HB.out ((blk_cell HY.out).trans rfl)
      have y1 : wr.cell? ⟨w.heap.size, 1, none⟩ = some (.int .i64 R) := cell_below HB.out ((blk_cell HY.out).trans rfl)
      have y2 : wr.cell? ⟨w.heap.size, 2, none⟩ = some (.slice A l.length ca) := cell_below HB.out ((blk_cell HY.out).trans rfl)
      by_cases hkn : k < l.length
      · obtain ⟨b3, o3, hb3, p1, p2⟩ := RangesAt.at_ ((Hl.out.below HB0.out).below HB.out) hkn
        generalize hx : l[k] = x at p1 p2
        obtain ⟨x1, x2⟩ := x
        have Hx := Lib.hid hx
        clear hx
        dsimp only at p1 p2
        subst hb3
        have z0 := cell_alloc y0 (.cells #[.int .i64 x1, .int .i64 x2] 55)
        have z1 := cell_alloc y1 (.cells #[.int .i64 x1, .int .i64 x2] 55)
        have z2 := cell_alloc y2 (.cells #[.int .i64 x1, .int .i64 x2] 55)
        have z3 := new2_0 wr (.int .i64 x1) (.int .i64 x2) 55
        have z4 := new2_1 wr (.int .i64 x1) (.int .i64 x2) 55
        by_cases hx : 0 ≤ x1 ∧ x1 < L ∧ 0 ≤ x2 ∧ x2 < R
        · have HN := Lib.hid (any_next hkn HP.out (show linkOff L R l[k] = false by rw [Hx.out]; exact linkOff_f hx))
          go_wp2
          all_goals try (exfalso; omega)
          go_roundw
          case rel => exact ⟨k + 1, by omega, by go_num, below_alloc' HB.out _, HN⟩
          case measure => simp [intOf]; omega
        · have HF := Lib.hid (sheet3 (t := t) h0 (by omega) (any_hit' (p := linkOff L R) hkn (by rw [Hx.out]; exact linkOff_t (by omega))))
          go_wp2
          all_goals first
            | (exfalso; omega)
            | (go_ret; exact Ret.mk' (congrArg (Value.int .i64) HF.out.symm) ⟨rfl, below_trans' HB0.out (below_alloc' HB.out _)⟩)
      · have HA := Lib.hid (any_miss' hkn HP.out)
        obtain ⟨w1, hw1⟩ : ∃ w1, w1 = wr := ⟨_, rfl⟩
        have HB1 : Hid (Below w.heap.size w w1) := Lib.hid (by rw [hw1]; exact below_trans' HB0.out HB.out)
        replace HY : Hid (w1.heap[w.heap.size]? = some (.cells #[.int .i64 L, .int .i64 R, .slice A l.length ca, .slice B t.length cb] 25 (0, 0))) := Lib.hid (by rw [hw1]; exact blk_below HB.out HY.out)
        go_wp2
        rw [← hw1]
        clear hw1 HB0 HB HP y0 y1 y2
        go_loopw [5] (fun i wr => ∃ k : Nat, k ≤ l.length ∧ i = .int .i64 k ∧ Below w1.heap.size w1 wr ∧ Hid ((List.range k).any (fun k => (List.range k).any (sameAt l k)) = false)) (fun i _ => l.length - (intOf i).toNat)
        case atStart => exact ⟨0, by omega, rfl, Below.refl _ _, rfl⟩
        case round =>
          obtain ⟨k, hk, rfl, hB, HP⟩ := hrel
          have HB := Lib.hid hB
          clear hB
          have y2 : wr.cell? ⟨w.heap.size, 2, none⟩ = some (.slice A l.length ca) := cell_below HB.out ((blk_cell HY.out).trans rfl)
          by_cases hkn : k < l.length
          · obtain ⟨w2, hw2⟩ : ∃ w2, w2 = wr := ⟨_, rfl⟩
            subst hw2
            go_wp2
            go_loopw [6] (fun i wq => ∃ j : Nat, j ≤ k ∧ i = .int .i64 j ∧ Below w2.heap.size w2 wq ∧ Hid ((List.range j).any (sameAt l k) = false)) (fun i _ => k - (intOf i).toNat)
            case atStart => exact ⟨0, by omega, rfl, Below.refl _ _, rfl⟩
            case round =>
              obtain ⟨j, hj, rfl, hB, HQ⟩ := hrel
              have HBq := Lib.hid hB
              clear hB
              by_cases hjk : j < k
              · have hjn : j < l.length := by omega
                have HBa := Lib.hid (below_trans' HB.out HBq.out)
                obtain ⟨b3, o3, hb3, p1, p2⟩ := RangesAt.at_ ((Hl.out.below HB1.out).below HBa.out) hkn
                obtain ⟨b4, o4, hb4, p3, p4⟩ := RangesAt.at_ ((Hl.out.below HB1.out).below HBa.out) hjn
                rw [hb3] at hb4
                injection hb4 with hb4
                injection hb4 with e3 e4
                subst e3 e4
                generalize hx : l[k] = x at p1 p2
                generalize hz : l[j] = z at p3 p4
                obtain ⟨x1, x2⟩ := x
                obtain ⟨z1, z2⟩ := z
                have HS := Lib.hid (sameAt_eq hkn hjn hx hz)
                clear hx hz
                dsimp only at p1 p2 p3 p4
                subst hb3
                have q2 := cell_below HBq.out y2
                have hG := guardL
                have hN := run_eqL
                go_wp2
                go_quiet (fail)
                clear hN hG
                obtain ⟨c, hc⟩ : ∃ c, c = eqLB x1 x2 z1 z2 := ⟨_, rfl⟩
                rw [← hc] at HS ⊢
                clear hc
                cases c
                · go_wp2
                  go_roundw
                  case rel => exact ⟨j + 1, by omega, by go_num, below_drewN HBq.out _, range_any_next HQ.out HS.out⟩
                  case measure => simp [intOf]; omega
                · have HF := Lib.hid (sheet11 (t := t) h0 (by omega) HA.out (range_any_hit hkn (range_any_hit hjk HS.out)))
                  go_wp2
                  go_ret
                  exact Ret.mk' (congrArg (Value.int .i64) HF.out.symm) ⟨rfl, below_trans' HB1.out (below_drewN HBa.out _)⟩
              · have HN := Lib.hid (range_any_next HP.out (by rw [show j = k by omega] at HQ; exact HQ.out))
                go_wp2
                go_roundw
                case rel => exact ⟨k + 1, by omega, by go_num, below_trans' HB.out HBq.out, HN⟩
                case measure => simp [intOf]; omega
          · have HP2 := HP.out
            rw [show k = l.length by omega] at HP2
            have HE := Lib.hid (sheetEnd (t := t) h0 (by omega) HA.out HP2)
            clear HP2
            have y3 : wr.cell? ⟨w.heap.size, 3, none⟩ = some (.slice B t.length cb) := cell_below HB.out ((blk_cell HY.out).trans rfl)
            have y0 : wr.cell? ⟨w.heap.size, 0, none⟩ = some (.int .i64 L) := cell_below HB.out ((blk_cell HY.out).trans rfl)
            have y1 : wr.cell? ⟨w.heap.size, 1, none⟩ = some (.int .i64 R) := cell_below HB.out ((blk_cell HY.out).trans rfl)
            have Hc := Lib.hid (refRising_any B cb t l.length wr ((Ht.out.below HB1.out).below HB.out) Hm.out)
            go_wp2_with fail
            refine Hc.out.mono ?_
            rintro e w3 ⟨v, rfl, rfl, q, hq⟩
            have hB3 : Below wr.heap.size wr w3 := by rw [hq]; exact below_drewN (Below.refl _ _) _
            clear hq Hc
            have HB3 := Lib.hid (below_trans' HB.out hB3)
            have z0 := cell_below hB3 y0
            have z1 := cell_below hB3 y1
            have z2 := cell_below hB3 y2
            have z3 := cell_below hB3 y3
            clear hB3 y0 y1 y2 y3
            cases hri : risingFrom (-1) l.length t
            · have HF : Hid (sheetErr L R l t = 16) := Lib.hid (by rw [HE.out, hri]; rfl)
              go_wp2
              go_ret
              exact Ret.mk' (congrArg (Value.int .i64) HF.out.symm) ⟨rfl, below_trans' HB1.out HB3.out⟩
            · have Hri := Lib.hid hri
              have Hc := Lib.hid (Hsi.out A B B ca cb cb t.length l t w3 ((Hl.out.below HB1.out).below HB3.out) ((Ht.out.below HB1.out).below HB3.out) hn Hm.out (rising_in hri))
              clear hri
              go_wp2_with fail
              refine Hc.out.mono ?_
              rintro e w4 ⟨v, rfl, rfl, hB4⟩
              have HB4 := Lib.hid (below_trans' HB3.out hB4)
              clear hB4 Hc
              cases hs : singleB l t
              · have HF : Hid (sheetErr L R l t = 16) := Lib.hid (by rw [HE.out, Hri.out, hs]; rfl)
                go_wp2
                go_ret
                exact Ret.mk' (congrArg (Value.int .i64) HF.out.symm) ⟨rfl, below_trans' HB1.out HB4.out⟩
              · have HF : Hid (sheetErr L R l t = 0) := Lib.hid (by rw [HE.out, Hri.out, hs]; rfl)
                go_wp2
                go_ret
                exact Ret.mk' (congrArg (Value.int .i64) HF.out.symm) ⟨rfl, below_trans' HB1.out HB4.out⟩
  · have HF := Lib.hid (sheet2 (l := l) (t := t) (show L < 1 ∨ 12 < L ∨ R < 1 ∨ 12 < R by omega))
    clear HX Hsi
    go_enter Try.func19, Try.ntmps19
    go_wp2
    all_goals first
      | (exfalso; omega)
      | (go_ret; exact Ret.mk' (congrArg (Value.int .i64) HF.out.symm) ⟨rfl, below_alloc' (Below.refl _ _) _⟩)
end Go.Proofs.Ytoogfdicmpkkgaa

namespace Go.Proofs.Ytoogfdicmpkkgaa
open Go.RowKit

set_option maxHeartbeats 400000 in
theorem indexI_any (A : Option Addr) (ca : Nat) (l : List Int) (n : Int) (w : World) (hl : IntsAt w A l) (hn : l.length ≤ 100000) :
    Calls Try.prog 70 #[.slice A l.length ca, .int .i64 n] w (Ret (IdxQ w (fun x => n == x) l)) := by
  have Hl := Lib.hid hl; clear hl
  go_enter Try.func70, Try.ntmps70
  go_wp2
  go_loopw [8] (fun i wr => ∃ k : Nat, k ≤ l.length ∧ i = .int .i64 k ∧ Below w.heap.size w wr ∧ Hid ((l.take k).any (fun x => n == x) = false)) (fun i _ => l.length - (intOf i).toNat)
  case atStart => exact ⟨0, by omega, rfl, Below.refl _ _, rfl⟩
  case round =>
    obtain ⟨k, hk, rfl, hB, Hb⟩ := hrel
    have HB := Lib.hid hB; clear hB
    by_cases hkn : k < l.length
    · obtain ⟨b, off, rfl, g1⟩ := (Hl.out.below HB.out).at_ hkn
      generalize hx : l[k] = x at g1
      have Hx := Lib.hid hx
      clear hx
      cases hq : (n == x)
      · have HN := Lib.hid (any_next (p := fun x => n == x) hkn Hb.out (by rw [Hx.out]; exact hq))
        go_wp2
        go_roundw
        case rel => exact ⟨k + 1, by omega, by go_num, HB.out, HN⟩
        case measure => simp [intOf]; omega
      · have HF := Lib.hid (any_hit (p := fun x => n == x) hkn (by rw [Hx.out]; exact hq))
        go_wp2
        go_ret
        exact Ret.mk' rfl ⟨⟨(k : Int), rfl, HF.out⟩, HB.out⟩
    · have HF := Lib.hid (any_miss (p := fun x => n == x) hkn Hb.out)
      go_wp2
      go_ret
      exact Ret.mk' rfl ⟨⟨-1, rfl, HF.out⟩, HB.out⟩

theorem containsI_any (A : Option Addr) (ca : Nat) (l : List Int) (n : Int) (w : World) (hl : IntsAt w A l) (hn : l.length ≤ 100000) :
    Calls Try.prog 43 #[.slice A l.length ca, .int .i64 n] w (Ret fun v w' => v = .bool (l.any (fun x => n == x)) ∧ Below w.heap.size w w') := by
  have Hc := Lib.hid (indexI_any A ca l n w hl hn)
  clear hl
  go_enter Try.func43, Try.ntmps43
  go_wp2_with fail
  refine Hc.out.mono ?_
  rintro e w1 ⟨v, rfl, ⟨r, rfl, hr⟩, hB1⟩
  have Hr := Lib.hid hr; clear hr
  have HB := Lib.hid hB1; clear hB1 Hc
  go_wp2
  go_ret
  exact Ret.mk' (congrArg Value.bool Hr.out) ⟨rfl, HB.out⟩

theorem eqLB_eq (a b c d : Int) : eqLB a b c d = (((a, b) : Int × Int) == (c, d)) := rfl

set_option maxHeartbeats 1000000 in
theorem indexL_any (A : Option Addr) (ca : Nat) (l : List (Int × Int)) (n : Int × Int) (w : World) (hl : RangesAt w A l) (hn : l.length ≤ 100000) :
    Calls Try.prog 74 #[.slice A l.length ca, vR n] w (Ret (IdxQ w (fun x => n == x) l)) := by
  have Hl := Lib.hid hl; clear hl
  obtain ⟨n1, n2⟩ := n
  unfold vR
  dsimp only
  have HX := Lib.hid (heap_alloc_new w (.cells #[.int .i64 n1, .int .i64 n2] 55))
  go_enter Try.func74, Try.ntmps74
  go_wp2
  obtain ⟨w0, hw0⟩ : ∃ w0, w0 = w.alloc (.cells #[.int .i64 n1, .int .i64 n2] 55) := ⟨_, rfl⟩
  have HB0 : Hid (Below w.heap.size w w0) := Lib.hid (by rw [hw0]; exact below_alloc' (Below.refl _ _) _)
  have HY : Hid (w0.heap[w.heap.size]? = some (.cells #[.int .i64 n1, .int .i64 n2] 55 (0, 0))) := Lib.hid (by rw [hw0]; exact HX.out)
  rw [← hw0]
  clear hw0 HX
  go_loopw [8] (fun i wr => ∃ k : Nat, k ≤ l.length ∧ i = .int .i64 k ∧ Below w0.heap.size w0 wr ∧ Hid ((l.take k).any (fun x => (n1, n2) == x) = false)) (fun i _ => l.length - (intOf i).toNat)
  case atStart => exact ⟨0, by omega, rfl, Below.refl _ _, rfl⟩
  case round =>
    obtain ⟨k, hk, rfl, hB, Hb⟩ := hrel
    have HB := Lib.hid hB; clear hB
    by_cases hkn : k < l.length
    · obtain ⟨b, off, rfl, p1, p2⟩ := ((Hl.out.below HB0.out).below HB.out).at_ hkn
      generalize hx : l[k] = x at p1 p2
      have Hx := Lib.hid hx
      clear hx
      obtain ⟨x1, x2⟩ := x
      dsimp only at p1 p2
      have y0 : wr.cell? ⟨w.heap.size, 0, none⟩ = some (.int .i64 n1) := cell_below HB.out ((blk_cell HY.out).trans rfl)
      have y1 : wr.cell? ⟨w.heap.size, 1, none⟩ = some (.int .i64 n2) := cell_below HB.out ((blk_cell HY.out).trans rfl)
      have hG := guardL
      have hN := run_eqL
      go_wp2
      go_quiet (fail)
      clear hN hG
      obtain ⟨c, hc⟩ : ∃ c, c = eqLB n1 n2 x1 x2 := ⟨_, rfl⟩
      rw [← hc]
      rw [eqLB_eq] at hc
      have HC := Lib.hid hc
      clear hc
      cases c
      · have HN := Lib.hid (any_next (p := fun x => (n1, n2) == x) hkn Hb.out (by rw [Hx.out]; exact HC.out.symm))
        go_wp2
        go_roundw
        case rel => exact ⟨k + 1, by omega, by go_num, below_drewN HB.out _, HN⟩
        case measure => simp [intOf]; omega
      · have HF := Lib.hid (any_hit (p := fun x => (n1, n2) == x) hkn (by rw [Hx.out]; exact HC.out.symm))
        go_wp2
        go_ret
        exact Ret.mk' rfl ⟨⟨(k : Int), rfl, HF.out⟩, below_trans' HB0.out (below_drewN HB.out _)⟩
    · have HF := Lib.hid (any_miss (p := fun x => (n1, n2) == x) hkn Hb.out)
      go_wp2
      go_ret
      exact Ret.mk' rfl ⟨⟨-1, rfl, HF.out⟩, below_trans' HB0.out HB.out⟩

theorem containsL_any (A : Option Addr) (ca : Nat) (l : List (Int × Int)) (n : Int × Int) (w : World) (hl : RangesAt w A l) (hn : l.length ≤ 100000) :
    Calls Try.prog 49 #[.slice A l.length ca, vR n] w (Ret fun v w' => v = .bool (l.any (fun x => n == x)) ∧ Below w.heap.size w w') := by
  obtain ⟨n1, n2⟩ := n
  have hc := indexL_any A ca l (n1, n2) (w.alloc (.cells #[.int .i64 n1, .int .i64 n2] 55)) (hl.alloc _) hn
  unfold vR at hc ⊢
  dsimp only at hc ⊢
  have Hc := Lib.hid hc
  clear hl hc
  go_enter Try.func49, Try.ntmps49
  go_wp2_with fail
  refine Hc.out.mono ?_
  rintro e w1 ⟨v, rfl, ⟨r, rfl, hr⟩, hB1⟩
  have Hr := Lib.hid hr; clear hr
  have HB := Lib.hid (below_alloc_of (Below.refl _ _) hB1); clear hB1 Hc
  go_wp2
  go_ret
  exact Ret.mk' (congrArg Value.bool Hr.out) ⟨rfl, HB.out⟩
end Go.Proofs.Ytoogfdicmpkkgaa

namespace Go.Proofs.Ytoogfdicmpkkgaa
open Go.RowKit

/-- n numbers that lie in a block from o on, and may be written -/
def Arr (w : World) (b o n : Nat) (f : Nat → Int) : Prop := ∀ i, i < n → w.cell? ⟨b, o + i, none⟩ = some (.int .i64 (f i)) ∧ w.frozen? ⟨b, o + i, none⟩ = false
theorem frozen_set (w : World) (p q : Addr) (u : Value) : (w.setCell p u).frozen? q = w.frozen? q := World.frozen?_setCell w p q u
theorem Arr.below {w w' : World} {b o n : Nat} {f : Nat → Int} (h : Arr w b o n f) (hb : Below w.heap.size w w') : Arr w' b o n f := fun i hi => ⟨cell_below hb (h i hi).1, frozen_below hb (h i hi).1 (h i hi).2⟩
theorem Arr.far {w : World} {b o n : Nat} {f : Nat → Int} (h : Arr w b o n f) {p : Addr} (hne : ∀ i, i < n → (⟨b, o + i, none⟩ : Addr) ≠ p) (u : Value) : Arr (w.setCell p u) b o n f := fun i hi => ⟨cell_far (h i hi).1 (hne i hi), by rw [frozen_set]; exact (h i hi).2⟩
theorem Arr.far_block {w : World} {b o n : Nat} {f : Nat → Int} (h : Arr w b o n f) {p : Addr} (hne : b ≠ p.block) (u : Value) : Arr (w.setCell p u) b o n f := h.far (fun i _ e => hne (by rw [← e])) u
theorem Arr.set {w : World} {b o n : Nat} {f : Nat → Int} (h : Arr w b o n f) {k : Nat} (hk : k < n) (v : Int) : Arr (w.setCell ⟨b, o + k, none⟩ (.int .i64 v)) b o n (fun i => if i = k then v else f i) := fun i hi => by
  refine ⟨?_, by rw [frozen_set]; exact (h i hi).2⟩
  by_cases e : i = k
  · subst e; show _ = some (Value.int .i64 (if i = i then v else f i)); rw [if_pos rfl]; exact World.cell?_setCell_same _ _ _ (h i hi).1
  · show _ = some (Value.int .i64 (if i = k then v else f i)); rw [if_neg e]; exact cell_far (h i hi).1 (fun e' => e (by injection e' with _ e2; omega))
theorem Arr.congr {w : World} {b o n : Nat} {f g : Nat → Int} (h : Arr w b o n f) (e : ∀ i, i < n → f i = g i) : Arr w b o n g := fun i hi => by rw [← e i hi]; exact h i hi

def usedM (g : Int × Int → Int) (l : List (Int × Int)) (t : List Int) (k i : Nat) : Int := if (List.range k).any (fun j => g (atL l (t.getD j 0)) == (i : Int)) = true then 1 else 0
theorem usedM_next (g : Int × Int → Int) (l : List (Int × Int)) (t : List Int) (k i : Nat) {a : Nat} (h : g (atL l (t.getD k 0)) = (a : Int)) : usedM g l t (k + 1) i = if i = a then 1 else usedM g l t k i := by
  unfold usedM
  rw [List.range_succ, List.any_append]
  simp only [List.any_cons, List.any_nil, Bool.or_false, h]
  by_cases e : i = a
  · subst e; simp
  · rw [if_neg e, show (((a : Nat) : Int) == (i : Int)) = false by rw [beq_eq_false_iff_ne]; omega, Bool.or_false]
theorem used_sum (l : List (Int × Int)) (t : List Int) (k : Nat) {a b : Nat} (h1 : (atL l (t.getD k 0)).1 = (a : Int)) (h2 : (atL l (t.getD k 0)).2 = (b : Int)) :
    decide (0 < usedM (·.1) l t k a + usedM (·.2) l t k b) = (List.range k).any (touchAt l t k) := by
  have e : ∀ j, touchAt l t k j = (((atL l (t.getD j 0)).1 == (a : Int)) || ((atL l (t.getD j 0)).2 == (b : Int))) := fun j => by
    unfold touchAt meetB; rw [h1, h2, Bool.beq_comm (a := (a : Int)), Bool.beq_comm (a := (b : Int))]
  rw [show touchAt l t k = fun j => (((atL l (t.getD j 0)).1 == (a : Int)) || ((atL l (t.getD j 0)).2 == (b : Int))) from funext e]
  unfold usedM
  have hor : ∀ (m : List Nat) (p q : Nat → Bool), m.any (fun j => p j || q j) = (m.any p || m.any q) := fun m p q => by
    induction m with
    | nil => rfl
    | cons x m ih => simp only [List.any_cons, ih]; cases p x <;> cases q x <;> simp
  rw [hor]
  cases (List.range k).any (fun j => (atL l (t.getD j 0)).1 == (a : Int)) <;> cases (List.range k).any (fun j => (atL l (t.getD j 0)).2 == (b : Int)) <;> simp
theorem used_le (g : Int × Int → Int) (l : List (Int × Int)) (t : List Int) (k i : Nat) : 0 ≤ usedM g l t k i ∧ usedM g l t k i ≤ 1 := by unfold usedM; split <;> omega

set_option maxRecDepth 100000 in
set_option maxHeartbeats 1000000 in
theorem single_any (L R : Int) (A B C : Option Addr) (ca cb cc mm : Nat) (l : List (Int × Int)) (t : List Int) (w : World) (hl : RangesAt w A l) (ht : IntsAt w C t) (hm : t.length ≤ 100000) (hin : ∀ x ∈ t, 0 ≤ x ∧ x < l.length) (hli : ∀ x ∈ l, (0 ≤ x.1 ∧ x.1 < 12) ∧ 0 ≤ x.2 ∧ x.2 < 12) :
    Calls Try.prog 50 #[vSheet L R A l.length ca B mm cb, .slice C t.length cc] w (Ret fun v w' => v = .bool (singleB l t) ∧ Below w.heap.size w w') := by
  have Hl := Lib.hid hl; clear hl
  have Ht := Lib.hid ht; clear ht
  have Hin := Lib.hid hin; clear hin
  have Hli := Lib.hid hli; clear hli
  unfold vSheet
  have HX := Lib.hid (heap_alloc_new w (.cells #[.int .i64 L, .int .i64 R, .slice A l.length ca, .slice B mm cb] 25))
  go_enter Try.func50, Try.ntmps50
  go_wp2
  obtain ⟨Z, hZ⟩ : ∃ Z, Z = #[Value.int .i64 0, .int .i64 0, .int .i64 0, .int .i64 0, .int .i64 0, .int .i64 0, .int .i64 0, .int .i64 0, .int .i64 0, .int .i64 0, .int .i64 0, .int .i64 0] := ⟨_, rfl⟩
  rw [← hZ]
  have hz : ∀ i, i < 12 → Z[i]? = some (.int .i64 0) := fun i hi => by
    rw [hZ]
    rcases i with _|_|_|_|_|_|_|_|_|_|_|_|i <;> first | rfl | omega
  clear hZ
  obtain ⟨w0, hw0⟩ : ∃ w0, w0 = w.alloc (.cells #[.int .i64 L, .int .i64 R, .slice A l.length ca, .slice B mm cb] 25) := ⟨_, rfl⟩
  have hsz0 : w0.heap.size = w.heap.size + 1 := by rw [hw0]; exact World.size_alloc _ _
  have hY : w0.heap[w.heap.size]? = some (.cells #[.int .i64 L, .int .i64 R, .slice A l.length ca, .slice B mm cb] 25 (0, 0)) := by rw [hw0]; exact HX.out
  have hB0 : Below w.heap.size w w0 := by rw [hw0]; exact below_alloc' (Below.refl _ _) _
  rw [← hw0]
  clear hw0 HX
  have hA1 : Arr ((w0.alloc (.cells Z 73)).alloc (.cells Z 73)) (w.heap.size + 1) 0 12 (usedM (·.1) l t 0) := fun i hi => by
    rw [Nat.zero_add]
    have e1 : (w0.alloc (.cells Z 73)).heap[w.heap.size + 1]? = some (.cells Z 73 (0, 0)) := by rw [← hsz0]; exact heap_alloc_new w0 _
    exact ⟨(blk_cell (blk_alloc e1 _)).trans (hz i hi), blk_frozen (blk_alloc e1 _)⟩
  have hA2 : Arr ((w0.alloc (.cells Z 73)).alloc (.cells Z 73)) (w.heap.size + 1 + 1) 0 12 (usedM (·.2) l t 0) := fun i hi => by
    rw [Nat.zero_add]
    have e1 : ((w0.alloc (.cells Z 73)).alloc (.cells Z 73)).heap[w.heap.size + 1 + 1]? = some (.cells Z 73 (0, 0)) := by
      have h := heap_alloc_new (w0.alloc (.cells Z 73)) (.cells Z 73)
      rw [World.size_alloc, hsz0] at h
      exact h
    exact ⟨(blk_cell e1).trans (hz i hi), blk_frozen e1⟩
  have hY2 := blk_alloc (blk_alloc hY (.cells Z 73)) (.cells Z 73)
  have hB2 := below_alloc' (below_alloc' hB0 (.cells Z 73)) (.cells Z 73)
  have hs2 : ((w0.alloc (.cells Z 73)).alloc (.cells Z 73)).heap.size = w.heap.size + 3 := by rw [World.size_alloc, World.size_alloc, hsz0]
  generalize (w0.alloc (.cells Z 73)).alloc (.cells Z 73) = w2 at hA1 hA2 hY2 hB2 hs2 ⊢
  clear hY hB0 hsz0 hz
  clear w0 Z
  go_loopw [12] (fun i wr => ∃ k : Nat, k ≤ t.length ∧ i = .int .i64 k ∧ Below w.heap.size w wr ∧ w.heap.size + 3 ≤ wr.heap.size ∧ wr.heap[w.heap.size]? = some (.cells #[.int .i64 L, .int .i64 R, .slice A l.length ca, .slice B mm cb] 25 (0, 0)) ∧ Arr wr (w.heap.size + 1) 0 12 (usedM (·.1) l t k) ∧ Arr wr (w.heap.size + 1 + 1) 0 12 (usedM (·.2) l t k) ∧ Hid ((List.range k).any (fun k => (List.range k).any (touchAt l t k)) = false)) (fun i _ => t.length - (intOf i).toNat)
  case atStart => exact ⟨0, by omega, rfl, hB2, by omega, hY2, hA1, hA2, rfl⟩
  case round =>
    clear hA1 hA2 hY2 hB2 hs2
    obtain ⟨k, hk, rfl, hB, hs, hY, hA1, hA2, HP⟩ := hrel
    have HB := Lib.hid hB
    have HY := Lib.hid hY
    have HA1 := Lib.hid hA1
    have HA2 := Lib.hid hA2
    clear hB hY hA1 hA2
    by_cases hkn : k < t.length
    · obtain ⟨b1, o1, hb1, g1⟩ := IntsAt.at_ (Ht.out.below HB.out) hkn
      have htd : t.getD k 0 = t[k] := by simp [List.getD_eq_getElem?_getD, hkn]
      obtain ⟨hx1, hx2⟩ := Hin.out t[k] (List.getElem_mem hkn)
      generalize hx : t[k] = x at g1 hx1 hx2 htd
      clear hx
      obtain ⟨x, rfl⟩ := Int.eq_ofNat_of_zero_le hx1
      have hxl : x < l.length := by omega
      obtain ⟨b3, o3, hb3, p1, p2⟩ := RangesAt.at_ (Hl.out.below HB.out) hxl
      have hat : atL l (t.getD k 0) = l[x] := by rw [htd]; exact atL_eq hxl
      have hrg := Hli.out l[x] (List.getElem_mem hxl)
      generalize l[x] = lx at p1 p2 hat hrg
      obtain ⟨c1, c2⟩ := lx
      dsimp only at p1 p2 hrg
      obtain ⟨a, rfl⟩ := Int.eq_ofNat_of_zero_le hrg.1.1
      obtain ⟨b, rfl⟩ := Int.eq_ofNat_of_zero_le hrg.2.1
      have ha : a < 12 := by omega
      have hb : b < 12 := by omega
      have HS := Lib.hid (used_sum l t k (a := a) (b := b) (by rw [hat]) (by rw [hat]))
      have HU1 := Lib.hid (fun i => usedM_next (·.1) l t k i (a := a) (by rw [hat]))
      have HU2 := Lib.hid (fun i => usedM_next (·.2) l t k i (a := b) (by rw [hat]))
      clear htd hat hrg hx1 hx2
      subst hb1 hb3
      have g0 : wr.cell? ⟨w.heap.size, 2, none⟩ = some (.slice (some ⟨b3, o3, none⟩) l.length ca) := (blk_cell HY.out).trans rfl
      have r0 := cell_alloc g0 (.cells #[.int .i64 a, .int .i64 b] 55)
      obtain ⟨m1, f1⟩ := HA1.out a ha
      obtain ⟨m2, f2⟩ := HA2.out b hb
      rw [Nat.zero_add] at m1 f1 m2 f2
      have hu1 := used_le (·.1) l t k a
      have hu2 := used_le (·.2) l t k b
      generalize hU1 : usedM (·.1) l t k a = u1 at m1 HS hu1
      generalize hU2 : usedM (·.2) l t k b = u2 at m2 HS hu2
      clear hU1 hU2
      have n0 := new2_0 wr (.int .i64 a) (.int .i64 b) 55
      have n1 := new2_1 wr (.int .i64 a) (.int .i64 b) 55
      have HB3 := Lib.hid (below_alloc' HB.out (.cells #[.int .i64 a, .int .i64 b] 55))
      have HY3 := Lib.hid (blk_alloc HY.out (.cells #[.int .i64 a, .int .i64 b] 55))
      have HA3 := Lib.hid (HA1.out.below (below_alloc' (Below.refl _ _) (.cells #[.int .i64 a, .int .i64 b] 55)))
      have HA4 := Lib.hid (HA2.out.below (below_alloc' (Below.refl _ _) (.cells #[.int .i64 a, .int .i64 b] 55)))
      have hs3 : w.heap.size + 3 ≤ (wr.alloc (.cells #[.int .i64 a, .int .i64 b] 55)).heap.size := by rw [World.size_alloc]; omega
      have m3 := cell_alloc m1 (.cells #[.int .i64 a, .int .i64 b] 55)
      have m4 := cell_alloc m2 (.cells #[.int .i64 a, .int .i64 b] 55)
      have f3 := frozen_below (below_alloc' (Below.refl _ _) (.cells #[.int .i64 a, .int .i64 b] 55)) m1 f1
      have f4 := frozen_below (below_alloc' (Below.refl _ _) (.cells #[.int .i64 a, .int .i64 b] 55)) m2 f2
      go_upto_region 6 with fail
      generalize (wr.alloc (.cells #[.int .i64 a, .int .i64 b] 55)) = w3 at n0 n1 r0 HB3 HY3 HA3 HA4 hs3 m3 m4 f3 f4 ⊢
      clear m1 m2 f1 f2 g0
      have hne1 : wr.heap.size ≠ w.heap.size + 1 := by omega
      have hne2 : wr.heap.size ≠ w.heap.size + 1 + 1 := by omega
      generalize wr.heap.size = b9 at n0 n1 hne1 hne2 ⊢
      go_quiet (fail)
      replace HB3 := Lib.hid (below_drewN HB3.out)
      by_cases hu : 0 < u1 + u2
      · have HF : Hid (singleB l t = false) := Lib.hid (by unfold singleB pairAny; rw [range_any_hit hkn (by rw [← HS.out]; simpa using hu)]; rfl)
        go_wp2
        all_goals first
          | (exfalso; omega)
          | (go_ret; exact Ret.mk' (congrArg Value.bool HF.out.symm) ⟨rfl, HB3.out _⟩)
      · have HN := Lib.hid (range_any_next HP.out (by rw [← HS.out]; simpa using hu))
        go_upto_region 8 with fail
        replace HB3 := HB3.out nq
        replace HY3 : (w3.drewN nq).heap[w.heap.size]? = _ := HY3.out
        replace HA3 : Arr (w3.drewN nq) _ _ _ _ := HA3.out
        replace HA4 : Arr (w3.drewN nq) _ _ _ _ := HA4.out
        replace hs3 : w.heap.size + 3 ≤ (w3.drewN nq).heap.size := hs3
        replace n0 : (w3.drewN nq).cell? _ = _ := n0
        replace n1 : (w3.drewN nq).cell? _ = _ := n1
        replace m3 : (w3.drewN nq).cell? _ = _ := m3
        replace m4 : (w3.drewN nq).cell? _ = _ := m4
        replace f3 : (w3.drewN nq).frozen? _ = _ := f3
        replace f4 : (w3.drewN nq).frozen? _ = _ := f4
        clear r0
        generalize w3.drewN nq = w4 at HB3 HY3 HA3 HA4 hs3 n0 n1 m3 m4 f3 f4 ⊢
        clear HS hu hu1 hu2
        have HB4 := Lib.hid HB3
        have HY4 := Lib.hid HY3
        have HA5 := Lib.hid HA3
        have HA6 := Lib.hid HA4
        clear HB3 HY3 HA3 HA4 w3
        have ia0 : (0 : Int) ≤ (a : Int) := by omega
        have ia1 : (a : Int) < 12 := by omega
        have ib0 : (0 : Int) ≤ (b : Int) := by omega
        have ib1 : (b : Int) < 12 := by omega
        have ne1 : ∀ i : Nat, (⟨b9, i, none⟩ : Addr) ≠ ⟨w.heap.size + 1, a, none⟩ := fun i e => hne1 (by injection e)
        have ne2 : ∀ i : Nat, (⟨b9, i, none⟩ : Addr) ≠ ⟨w.heap.size + 1 + 1, b, none⟩ := fun i e => hne2 (by injection e)
        go_region_held3 (fun W => W.cell? ⟨b9, 0, none⟩ = some (.int .i64 a) ∧ W.cell? ⟨b9, 1, none⟩ = some (.int .i64 b)) (first | exact ⟨n0, n1⟩ | exact ⟨cell_far n0 (ne1 0), cell_far n1 (ne1 1)⟩ | exact ⟨cell_far (cell_far n0 (ne1 0)) (ne2 0), cell_far (cell_far n1 (ne1 1)) (ne2 1)⟩) (fail)
        have hB5 : Below w.heap.size w ((w4.setCell ⟨w.heap.size + 1, a, none⟩ (.int .i64 1)).setCell ⟨w.heap.size + 1 + 1, b, none⟩ (.int .i64 1)).drew := ((HB4.out.setCell (by simp) _).setCell (by simp; omega) _).drew
        have hY5 : ((w4.setCell ⟨w.heap.size + 1, a, none⟩ (.int .i64 1)).setCell ⟨w.heap.size + 1 + 1, b, none⟩ (.int .i64 1)).drew.heap[w.heap.size]? = _ := blk_far (blk_far HY4.out (by simp) _) (by simp; omega) _
        have hA7 : Arr ((w4.setCell ⟨w.heap.size + 1, 0 + a, none⟩ (.int .i64 1)).setCell ⟨w.heap.size + 1 + 1, b, none⟩ (.int .i64 1)).drew (w.heap.size + 1) 0 12 (usedM (·.1) l t (k + 1)) := ((HA5.out.set ha 1).far_block (by simp) _).congr fun i _ => (HU1.out i).symm
        have hA8 : Arr ((w4.setCell ⟨w.heap.size + 1, a, none⟩ (.int .i64 1)).setCell ⟨w.heap.size + 1 + 1, 0 + b, none⟩ (.int .i64 1)).drew (w.heap.size + 1 + 1) 0 12 (usedM (·.2) l t (k + 1)) := ((HA6.out.far_block (by simp) _).set hb 1).congr fun i _ => (HU2.out i).symm
        rw [Nat.zero_add] at hA7 hA8
        have hs5 : w.heap.size + 3 ≤ ((w4.setCell ⟨w.heap.size + 1, a, none⟩ (.int .i64 1)).setCell ⟨w.heap.size + 1 + 1, b, none⟩ (.int .i64 1)).drew.heap.size := by simp; omega
        clear n0 n1 m3 m4 f3 f4 ne1 ne2
        generalize ((w4.setCell ⟨w.heap.size + 1, a, none⟩ (.int .i64 1)).setCell ⟨w.heap.size + 1 + 1, b, none⟩ (.int .i64 1)).drew = w5 at hB5 hY5 hA7 hA8 hs5 ⊢
        have HB5 := Lib.hid hB5
        have HY5 := Lib.hid hY5
        have HA7 := Lib.hid hA7
        have HA8 := Lib.hid hA8
        clear hB5 hY5 hA7 hA8
        go_wp2
        go_roundw
        case rel => exact ⟨k + 1, by omega, by go_num, HB5.out, hs5, HY5.out, HA7.out, HA8.out, HN⟩
        case measure => simp [intOf]; omega
    · have HP2 := HP.out
      rw [show k = t.length by omega] at HP2
      have HF : Hid (singleB l t = true) := Lib.hid (by unfold singleB pairAny; rw [HP2]; rfl)
      clear HP2
      go_wp2
      go_ret
      exact Ret.mk' (congrArg Value.bool HF.out.symm) ⟨rfl, HB.out⟩
end Go.Proofs.Ytoogfdicmpkkgaa

namespace Go.Proofs.Ytoogfdicmpkkgaa
open Go.RowKit

theorem enters48 : ∀ args W, (callFunc 48 args).run Try.prog W = .ok (.enter 48 args) W := fun args W => by simp [go_sem]
theorem any_one (p : Int → Bool) (x : Int) : ([x] : List Int).any p = p x := by simp
set_option maxHeartbeats 1000000 in
theorem sheet1_any (L R : Int) (hr : 1 ≤ L ∧ L ≤ 12 ∧ 1 ≤ R ∧ R ≤ 12) (sb : Nat) (x : Int × Int) (w : World) (h0 : w.cell? ⟨sb, 0, none⟩ = some (.int .i64 L)) (h1 : w.cell? ⟨sb, 1, none⟩ = some (.int .i64 R)) :
    Calls Try.prog 48 #[vR x, .pointer (some ⟨sb, 0, none⟩)] w (Ret fun v w' => v = .bool (linkOff L R x) ∧ Below w.heap.size w w') := by
  obtain ⟨x1, x2⟩ := x
  unfold vR
  dsimp only
  have hw1 : IntKind.i64.wrap (L - 1) = L - 1 := IntWalk.i64_in _ (by omega)
  have hw2 : IntKind.i64.wrap (R - 1) = R - 1 := IntWalk.i64_in _ (by omega)
  obtain ⟨w0, hw0⟩ : ∃ w0, w0 = w.alloc (.cells #[.int .i64 x1, .int .i64 x2] 55) := ⟨_, rfl⟩
  have HB0 : Hid (Below w.heap.size w w0) := Lib.hid (by rw [hw0]; exact below_alloc' (Below.refl _ _) _)
  have r0 : w0.cell? ⟨sb, 0, none⟩ = some (.int .i64 L) := by rw [hw0]; exact cell_alloc h0 _
  have r1 : w0.cell? ⟨sb, 1, none⟩ = some (.int .i64 R) := by rw [hw0]; exact cell_alloc h1 _
  have n0 : w0.cell? ⟨w.heap.size, 0, none⟩ = some (.int .i64 x1) := by rw [hw0]; exact new2_0 _ _ _ _
  have n1 : w0.cell? ⟨w.heap.size, 1, none⟩ = some (.int .i64 x2) := by rw [hw0]; exact new2_1 _ _ _ _
  clear h0 h1
  have hc := within_any (some ⟨w0.heap.size, 0, none⟩) 1 0 (L - 1) [x1] (w0.alloc (.cells #[.int .i64 x1] 3)) (ints_new1 _ _ _) (by simp)
  rw [show ([x1] : List Int).length = 1 from rfl, any_one, show w0.heap.size = w.heap.size + 1 by rw [hw0]; exact World.size_alloc _ _] at hc
  have Hc := Lib.hid hc
  clear hc
  go_enter Try.func48, Try.ntmps48
  rw [hw0] at r0 r1 n0 n1 Hc
  have HW0 := Lib.hid hw0
  clear hw0
  go_wp2_with fail
  refine Hc.out.mono ?_
  rintro e w1 ⟨v, rfl, rfl, hB1⟩
  rw [← HW0.out] at hB1 r0 r1 n0 n1
  have hB1' : Below w0.heap.size w0 w1 := below_alloc_of (Below.refl _ _) hB1
  have HB1 := Lib.hid (below_trans' HB0.out hB1')
  have s1 := cell_below hB1' r1
  have s0 := cell_below hB1' n1
  clear hB1 hB1' r0 r1 n0 n1 Hc HW0
  cases ho : offB 0 (L - 1) x1
  · have hc := within_any (some ⟨w1.heap.size, 0, none⟩) 1 0 (R - 1) [x2] (w1.alloc (.cells #[.int .i64 x2] 3)) (ints_new1 _ _ _) (by simp)
    rw [show ([x2] : List Int).length = 1 from rfl, any_one] at hc
    have Hc := Lib.hid hc
    clear hc
    go_wp2_with fail
    refine Hc.out.mono ?_
    rintro e w2 ⟨v, rfl, rfl, hB2⟩
    have HB2 := Lib.hid (below_trans' HB1.out (below_alloc_of (Below.refl _ _) hB2))
    clear hB2 Hc
    have HF : Hid (linkOff L R (x1, x2) = offB 0 (R - 1) x2) := Lib.hid (by unfold linkOff; dsimp only; rw [ho]; rfl)
    clear ho
    cases ho2 : offB 0 (R - 1) x2
    all_goals
      rw [ho2] at HF
      clear ho2
      go_wp2
      go_ret
      exact Ret.mk' (congrArg Value.bool HF.out.symm) ⟨rfl, HB2.out⟩
  · have HF : Hid (linkOff L R (x1, x2) = true) := Lib.hid (by unfold linkOff; dsimp only; rw [ho]; rfl)
    go_wp2
    go_ret
    exact Ret.mk' (congrArg Value.bool HF.out.symm) ⟨rfl, HB1.out⟩

theorem firsts_any {l : List (Int × Int)} {k : Nat} (hk : k < l.length) : (l.take k).any (fun x => l[k] == x) = (List.range k).any (sameAt l k) := by
  rw [Bool.eq_iff_iff, List.any_eq_true, List.any_eq_true]
  constructor
  · rintro ⟨x, hx, he⟩
    obtain ⟨j, hj, rfl⟩ := List.mem_take_iff_getElem.1 hx
    rw [beq_iff_eq] at he
    refine ⟨j, List.mem_range.2 (by omega), ?_⟩
    unfold sameAt; rw [atL_eq hk, atL_eq (by omega), he]; simp
  · rintro ⟨j, hj, he⟩
    have hj' := List.mem_range.1 hj
    refine ⟨l[j], List.mem_take_iff_getElem.2 ⟨j, by omega, rfl⟩, ?_⟩
    unfold sameAt at he; rw [atL_eq hk, atL_eq (show j < l.length by omega)] at he; simpa using he

set_option maxRecDepth 100000 in
set_option maxHeartbeats 1000000 in
theorem checkSheet_any (L R : Int) (A B : Option Addr) (ca cb : Nat) (l : List (Int × Int)) (t : List Int) (w : World) (hl : RangesAt w A l) (ht : IntsAt w B t) (hn : l.length ≤ 100000) (hm : t.length ≤ 100000) (hca : l.length ≤ ca) (hcm : ca ≤ 9223372036854775807) :
    Calls Try.prog 18 #[vSheet L R A l.length ca B t.length cb] w (Ret fun v w' => v = .int .i64 (sheetErr L R l t) ∧ Below w.heap.size w w') := by
  have Hl := Lib.hid hl; clear hl
  have Ht := Lib.hid ht; clear ht
  have Hm := Lib.hid hm; clear hm
  unfold vSheet
  have hmf : ∀ (fn : Fn) (first cap : Array Value) (w : World), (Instr.makeFunc fn first cap).run Try.prog w = .ok (.func fn first cap) w := fun _ _ _ _ => rfl
  have hX := heap_alloc_new w (.cells #[.int .i64 L, .int .i64 R, .slice A l.length ca, .slice B t.length cb] 25)
  have hsi := single_any L R
  unfold vSheet at hsi
  have Hsi := Lib.hid hsi
  clear hsi
  obtain ⟨w0, hw0⟩ : ∃ w0, w0 = w.alloc (.cells #[.int .i64 L, .int .i64 R, .slice A l.length ca, .slice B t.length cb] 25) := ⟨_, rfl⟩
  have HB0 : Hid (Below w.heap.size w w0) := Lib.hid (by rw [hw0]; exact below_alloc' (Below.refl _ _) _)
  rw [← hw0] at hX
  have HY := Lib.hid hX
  clear hX
  have hc := within_any (some ⟨w0.heap.size, 0, none⟩) 2 1 12 [L, R] (w0.alloc (.cells #[.int .i64 L, .int .i64 R] 3)) (rows_new encI_len _ _ _ _ rfl) (by simp)
  rw [show ([L, R] : List Int).length = 2 from rfl, show ([L, R] : List Int).any (offB 1 12) = (offB 1 12 L || offB 1 12 R) by simp, show w0.heap.size = w.heap.size + 1 by rw [hw0]; exact World.size_alloc _ _] at hc
  rw [hw0] at hc
  have HW0 := Lib.hid hw0
  have Hc := Lib.hid hc
  clear hc hw0
  go_enter Try.func18, Try.ntmps18
  go_wp2_with fail
  refine Hc.out.mono ?_
  rintro e w1 ⟨v, rfl, rfl, hB1⟩
  rw [← HW0.out] at hB1
  have hB1' : Below w0.heap.size w0 w1 := below_alloc_of (Below.refl _ _) hB1
  have HB1 := Lib.hid (below_trans' HB0.out hB1')
  replace HY := Lib.hid (blk_below hB1' HY.out)
  have y0 : w1.cell? ⟨w.heap.size, 0, none⟩ = some (.int .i64 L) := (blk_cell HY.out).trans rfl
  have y1 : w1.cell? ⟨w.heap.size, 1, none⟩ = some (.int .i64 R) := (blk_cell HY.out).trans rfl
  have y2 : w1.cell? ⟨w.heap.size, 2, none⟩ = some (.slice A l.length ca) := (blk_cell HY.out).trans rfl
  clear hB1 hB1' Hc HW0 HB0
  by_cases h0 : 1 ≤ L ∧ L ≤ 12 ∧ 1 ≤ R ∧ R ≤ 12
  · rw [off2_f h0]
    by_cases h40 : 40 < l.length
    · have HF := Lib.hid (sheet6 (t := t) h0 h40)
      go_wp2
      all_goals first
        | (exfalso; omega)
        | (go_ret; exact Ret.mk' (congrArg (Value.int .i64) HF.out.symm) ⟨rfl, HB1.out⟩)
    have ha : Asks w1 48 #[] #[.pointer (some ⟨w.heap.size, 0, none⟩)] vR (fun _ => True) (linkOff L R) := fun V x hV _ => sheet1_any L R h0 _ x V (cell_below hV y0) (cell_below hV y1)
    have hc := containsFuncR_any A ca l 48 #[] #[.pointer (some ⟨w.heap.size, 0, none⟩)] (fun _ => True) (linkOff L R) w1 (Hl.out.below HB1.out) hn (fun _ _ => trivial) enters48 ha
    have Hc := Lib.hid hc
    clear ha hc y0 y1
    go_wp2_with fail
    all_goals try (exfalso; omega)
    refine Hc.out.mono ?_
    rintro e w2 ⟨v, rfl, rfl, hB2⟩
    have HB2 := Lib.hid (below_trans' HB1.out hB2)
    replace HY := Lib.hid (blk_below hB2 HY.out)
    have z2 := cell_below hB2 y2
    clear hB2 Hc y2
    cases hq : l.any (linkOff L R)
    · have HA := Lib.hid hq
      clear hq
      go_wp2
      go_loopw [26] (fun i wr => ∃ k : Nat, k ≤ l.length ∧ i = .int .i64 k ∧ Below w2.heap.size w2 wr ∧ Hid ((List.range k).any (fun k => (List.range k).any (sameAt l k)) = false)) (fun i _ => l.length - (intOf i).toNat)
      case atStart => exact ⟨0, by omega, rfl, Below.refl _ _, rfl⟩
      case round =>
        obtain ⟨k, hk, rfl, hB, HP⟩ := hrel
        have HB := Lib.hid (below_trans' HB2.out hB)
        have HYr := Lib.hid (blk_below hB HY.out)
        have y2 := cell_below hB z2
        have HBr := Lib.hid hB
        clear hB z2
        by_cases hkn : k < l.length
        · obtain ⟨b3, o3, hb3, p1, p2⟩ := RangesAt.at_ (Hl.out.below HB.out) hkn
          have hfa := firsts_any hkn
          generalize hx : l[k] = x at p1 p2 hfa
          clear hx
          have Hfa := Lib.hid hfa
          clear hfa
          obtain ⟨x1, x2⟩ := x
          dsimp only at p1 p2
          subst hb3
          have q2 := cell_alloc y2 (.cells #[.int .i64 x1, .int .i64 x2] 55)
          have n0 := new2_0 wr (.int .i64 x1) (.int .i64 x2) 55
          have n1 := new2_1 wr (.int .i64 x1) (.int .i64 x2) 55
          go_upto_region 10 with fail
          have hR := (Hl.out.below (below_alloc' HB.out (.cells #[.int .i64 x1, .int .i64 x2] 55))).take k
          have HB3 := Lib.hid (below_alloc' HB.out (.cells #[.int .i64 x1, .int .i64 x2] 55))
          have HB3r := Lib.hid (below_alloc' HBr.out (.cells #[.int .i64 x1, .int .i64 x2] 55))
          generalize (wr.alloc (.cells #[.int .i64 x1, .int .i64 x2] 55)) = w3 at q2 n0 n1 hR HB3 HB3r ⊢
          have HR := Lib.hid hR
          clear hR p1 p2 y2
          have hme := fun (W : World) (h : RangesAt W (some ⟨b3, o3, none⟩) (l.take k)) => containsL_any (some ⟨b3, o3, none⟩) ca (l.take k) (x1, x2) W h (by simp; omega)
          rw [List.length_take, Nat.min_eq_left (by omega), Hfa.out] at hme
          unfold vR at hme
          have ik0 : (0 : Int) ≤ (k : Int) := by omega
          have ik1 : (k : Int) ≤ (l.length : Int) := by omega
          have ik2 : (k : Int) ≤ (ca : Int) := by omega
          generalize wr.heap.size = b9 at n0 n1 ⊢
          go_region_held3 (fun W => W.cell? ⟨w.heap.size, 2, none⟩ = some (.slice (some ⟨b3, o3, none⟩) l.length ca) ∧ W.cell? ⟨b9, 0, none⟩ = some (.int .i64 x1) ∧ W.cell? ⟨b9, 1, none⟩ = some (.int .i64 x2))
            (first | exact ⟨q2, n0, n1⟩ | exact ⟨cell_below hBc q2, cell_below hBc n0, cell_below hBc n1⟩)
            (first | (go_at_call 49; refine (hme _ (by first | exact HR.out | exact HR.out.drew)).mono ?_; rintro e wc ⟨v, rfl, rfl, hBc⟩; replace hBc : Below w3.heap.size w3 wc := (by first | exact below_drew_of (Below.refl _ _) hBc | exact hBc)))
          all_goals
            have HBc := Lib.hid (below_trans' HB3.out hBc)
            have HBq := Lib.hid (below_trans' HB3r.out hBc)
            clear hBc q2 n0 n1 hme
            cases hc : (List.range k).any (sameAt l k)
          all_goals first
            | (have HN := Lib.hid (range_any_next HP.out hc)
               go_wp2
               go_roundw
               case rel => exact ⟨k + 1, by omega, by go_num, HBq.out, HN⟩
               case measure => simp [intOf]; omega
               )
            | (have HF := Lib.hid (sheet11 (t := t) h0 (by omega) HA.out (range_any_hit hkn hc))
               go_wp2
               go_ret
               exact Ret.mk' (congrArg (Value.int .i64) HF.out.symm) ⟨rfl, HBc.out⟩)
        · have HP2 := HP.out
          rw [show k = l.length by omega] at HP2
          have HE := Lib.hid (sheetEnd (t := t) h0 (by omega) HA.out HP2)
          clear HP2
          have y3 : wr.cell? ⟨w.heap.size, 3, none⟩ = some (.slice B t.length cb) := (blk_cell HYr.out).trans rfl
          have y0 : wr.cell? ⟨w.heap.size, 0, none⟩ = some (.int .i64 L) := (blk_cell HYr.out).trans rfl
          have y1 : wr.cell? ⟨w.heap.size, 1, none⟩ = some (.int .i64 R) := (blk_cell HYr.out).trans rfl
          have Hc := Lib.hid (rising_any B cb t l.length wr (Ht.out.below HB.out) Hm.out (by omega))
          go_wp2_with fail
          refine Hc.out.mono ?_
          rintro e w3 ⟨v, rfl, rfl, hB3⟩
          have HB3 := Lib.hid (below_trans' HB.out hB3)
          have z0 := cell_below hB3 y0
          have z1 := cell_below hB3 y1
          have z2 := cell_below hB3 y2
          have z3 := cell_below hB3 y3
          clear hB3 y0 y1 y2 y3 Hc
          cases hri : risingFrom (-1) l.length t
          · have HF : Hid (sheetErr L R l t = 16) := Lib.hid (by rw [HE.out, hri]; rfl)
            go_wp2
            go_ret
            exact Ret.mk' (congrArg (Value.int .i64) HF.out.symm) ⟨rfl, HB3.out⟩
          · have Hri := Lib.hid hri
            have Hc := Lib.hid (Hsi.out A B B ca cb cb t.length l t w3 (Hl.out.below HB3.out) (Ht.out.below HB3.out) Hm.out (rising_in hri) (fun x hx => by
              have := linkOff_in (List.any_eq_false.1 HA.out x hx |> Bool.eq_false_iff.2)
              omega))
            clear hri
            go_wp2_with fail
            refine Hc.out.mono ?_
            rintro e w4 ⟨v, rfl, rfl, hB4⟩
            have HB4 := Lib.hid (below_trans' HB3.out hB4)
            clear hB4 Hc
            cases hs : singleB l t
            · have HF : Hid (sheetErr L R l t = 16) := Lib.hid (by rw [HE.out, Hri.out, hs]; rfl)
              go_wp2
              go_ret
              exact Ret.mk' (congrArg (Value.int .i64) HF.out.symm) ⟨rfl, HB4.out⟩
            · have HF : Hid (sheetErr L R l t = 0) := Lib.hid (by rw [HE.out, Hri.out, hs]; rfl)
              go_wp2
              go_ret
              exact Ret.mk' (congrArg (Value.int .i64) HF.out.symm) ⟨rfl, HB4.out⟩
    · have HF := Lib.hid (sheet3 (t := t) h0 (by omega) hq)
      go_wp2
      go_ret
      exact Ret.mk' (congrArg (Value.int .i64) HF.out.symm) ⟨rfl, HB2.out⟩
  · have HF := Lib.hid (sheet2 (l := l) (t := t) (show L < 1 ∨ 12 < L ∨ R < 1 ∨ 12 < R by omega))
    rw [off2_t (by omega)]
    go_wp2
    go_ret
    exact Ret.mk' (congrArg (Value.int .i64) HF.out.symm) ⟨rfl, HB1.out⟩
end Go.Proofs.Ytoogfdicmpkkgaa

namespace Go.Proofs.Ytoogfdicmpkkgaa
open Go.RowKit

def joinErr (L R : Int) (l : List (Int × Int)) (t j : List Int) : Int :=
  if sheetErr L R l t ≠ 0 then sheetErr L R l t else if risingFrom (-1) l.length j = false then 3 else if singleB l j = false then 16 else if t.any (fun k => !j.contains k) = true then 16 else 0
structure Sheet (L R : Int) (l : List (Int × Int)) (t : List Int) : Prop where
  dim : 1 ≤ L ∧ L ≤ 12 ∧ 1 ≤ R ∧ R ≤ 12
  many : l.length ≤ 40
  links : ∀ x ∈ l, (0 ≤ x.1 ∧ x.1 < L) ∧ 0 ≤ x.2 ∧ x.2 < R
  apart : pairAny (sameAt l) l.length = false
  rise : risingFrom (-1) l.length t = true
  single : singleB l t = true
theorem sheet_ok {L R : Int} {l : List (Int × Int)} {t : List Int} (h : sheetErr L R l t = 0) : Sheet L R l t := by
  by_cases h0 : 1 ≤ L ∧ L ≤ 12 ∧ 1 ≤ R ∧ R ≤ 12
  · by_cases h40 : 40 < l.length
    · rw [sheet6 h0 h40] at h; omega
    · cases h3 : l.any (linkOff L R)
      · cases h4 : pairAny (sameAt l) l.length
        · rw [sheetEnd h0 (by omega) h3 h4] at h
          cases h5 : risingFrom (-1) l.length t
          · rw [h5] at h; simp at h
          · cases h6 : singleB l t
            · rw [h5, h6] at h; simp at h
            · exact ⟨h0, by omega, fun x hx => by
                have := linkOff_in (List.any_eq_false.1 h3 x hx |> Bool.eq_false_iff.2)
                omega, h4, h5, h6⟩
        · rw [sheet11 h0 (by omega) h3 h4] at h; omega
      · rw [sheet3 h0 (by omega) h3] at h; omega
  · rw [sheet2 (by omega)] at h; omega
theorem Sheet.in12 {L R : Int} {l : List (Int × Int)} {t : List Int} (h : Sheet L R l t) : ∀ x ∈ l, (0 ≤ x.1 ∧ x.1 < 12) ∧ 0 ≤ x.2 ∧ x.2 < 12 := fun x hx => by
  have := h.links x hx
  have := h.dim
  omega
theorem Sheet.known {L R : Int} {l : List (Int × Int)} {t : List Int} (h : Sheet L R l t) : ∀ x ∈ t, 0 ≤ x ∧ x < l.length := rising_in h.rise
theorem join_sheet {L R : Int} {l : List (Int × Int)} {t j : List Int} (h : sheetErr L R l t ≠ 0) : joinErr L R l t j = sheetErr L R l t := by unfold joinErr; rw [if_pos h]
theorem join_rise {L R : Int} {l : List (Int × Int)} {t j : List Int} (h : sheetErr L R l t = 0) (h2 : risingFrom (-1) l.length j = false) : joinErr L R l t j = 3 := by unfold joinErr; rw [if_neg (by omega), if_pos h2]
theorem join_single {L R : Int} {l : List (Int × Int)} {t j : List Int} (h : sheetErr L R l t = 0) (h2 : risingFrom (-1) l.length j = true) (h3 : singleB l j = false) : joinErr L R l t j = 16 := by unfold joinErr; rw [if_neg (by omega), if_neg (by simp [h2]), if_pos h3]
theorem join_end {L R : Int} {l : List (Int × Int)} {t j : List Int} (h : sheetErr L R l t = 0) (h2 : risingFrom (-1) l.length j = true) (h3 : singleB l j = true) : joinErr L R l t j = if t.any (fun k => !j.contains k) = true then 16 else 0 := by unfold joinErr; rw [if_neg (by omega), if_neg (by simp [h2]), if_neg (by simp [h3])]

set_option maxRecDepth 100000 in
set_option maxHeartbeats 1000000 in
theorem refCheckJoining_any (L R : Int) (A B C : Option Addr) (ca cb cc : Nat) (l : List (Int × Int)) (t j : List Int) (w : World) (hl : RangesAt w A l) (ht : IntsAt w B t) (hj : IntsAt w C j) (hn : l.length ≤ 100000) (hm : t.length ≤ 100000) (hnj : j.length ≤ 100000) :
    Calls Try.prog 21 #[vSheet L R A l.length ca B t.length cb, .slice C j.length cc] w (Ret fun v w' => v = .int .i64 (joinErr L R l t j) ∧ Below w.heap.size w w') := by
  have Hl := Lib.hid hl; clear hl
  have Ht := Lib.hid ht; clear ht
  have Hj := Lib.hid hj; clear hj
  have Hnj := Lib.hid hnj; clear hnj
  have hX := heap_alloc_new w (.cells #[.int .i64 L, .int .i64 R, .slice A l.length ca, .slice B t.length cb] 25)
  obtain ⟨w0, hw0⟩ : ∃ w0, w0 = w.alloc (.cells #[.int .i64 L, .int .i64 R, .slice A l.length ca, .slice B t.length cb] 25) := ⟨_, rfl⟩
  have HB0 : Hid (Below w.heap.size w w0) := Lib.hid (by rw [hw0]; exact below_alloc' (Below.refl _ _) _)
  rw [← hw0] at hX
  have HY := Lib.hid hX
  clear hX
  have hs := fun W (h : Below w.heap.size w W) => refCheckSheet_any L R A B ca cb l t W (Hl.out.below h) (Ht.out.below h) hn hm
  have hsi := refSingle_any L R
  unfold vSheet at hs hsi ⊢
  have Hs := Lib.hid hs
  have Hsi := Lib.hid hsi
  clear hs hsi
  have y0 : w0.cell? ⟨w.heap.size, 0, none⟩ = some (.int .i64 L) := (blk_cell HY.out).trans rfl
  have y1 : w0.cell? ⟨w.heap.size, 1, none⟩ = some (.int .i64 R) := (blk_cell HY.out).trans rfl
  have y2 : w0.cell? ⟨w.heap.size, 2, none⟩ = some (.slice A l.length ca) := (blk_cell HY.out).trans rfl
  have y3 : w0.cell? ⟨w.heap.size, 3, none⟩ = some (.slice B t.length cb) := (blk_cell HY.out).trans rfl
  have Hc := Lib.hid (Hs.out w0 HB0.out)
  rw [hw0] at y0 y1 y2 y3 Hc
  have HW0 := Lib.hid hw0
  clear hw0
  go_enter Try.func21, Try.ntmps21
  go_wp2_with fail
  refine Hc.out.mono ?_
  rintro e w1 ⟨v, rfl, rfl, hB1⟩
  rw [← HW0.out] at hB1 y0 y1 y2 y3
  have HB1 := Lib.hid (below_trans' HB0.out hB1)
  replace HY := Lib.hid (blk_below hB1 HY.out)
  replace y0 := cell_below hB1 y0
  replace y1 := cell_below hB1 y1
  replace y2 := cell_below hB1 y2
  replace y3 := cell_below hB1 y3
  clear hB1 Hc HB0 HW0
  by_cases h0 : sheetErr L R l t = 0
  · have d0 : (sheetErr L R l t != 0) = false := by simp [h0]
    have HS := Lib.hid (sheet_ok h0)
    have H0 := Lib.hid h0; clear h0
    have Hc := Lib.hid (refRising_any C cc j l.length w1 (Hj.out.below HB1.out) Hnj.out)
    go_wp2_with fail
    refine Hc.out.mono ?_
    rintro e w2 ⟨v, rfl, rfl, q, hq⟩
    have hB2 : Below w1.heap.size w1 w2 := by rw [hq]; exact below_drewN (Below.refl _ _) _
    have HB2 := Lib.hid (below_trans' HB1.out hB2)
    replace HY := Lib.hid (blk_below hB2 HY.out)
    replace y0 := cell_below hB2 y0
    replace y1 := cell_below hB2 y1
    replace y2 := cell_below hB2 y2
    replace y3 := cell_below hB2 y3
    clear hB2 hq Hc
    cases hri : risingFrom (-1) l.length j
    · have HF := Lib.hid (join_rise H0.out hri)
      go_wp2
      go_ret
      exact Ret.mk' (congrArg (Value.int .i64) HF.out.symm) ⟨rfl, HB2.out⟩
    · have Hri := Lib.hid hri
      have Hc := Lib.hid (Hsi.out A B C ca cb cc t.length l j w2 (Hl.out.below HB2.out) (Hj.out.below HB2.out) hn Hnj.out (rising_in hri))
      clear hri
      go_wp2_with fail
      refine Hc.out.mono ?_
      rintro e w3 ⟨v, rfl, rfl, hB3⟩
      have HB3 := Lib.hid (below_trans' HB2.out hB3)
      replace HY := Lib.hid (blk_below hB3 HY.out)
      clear hB3 Hc y0 y1 y2 y3
      cases hsi : singleB l j
      · have HF := Lib.hid (join_single H0.out Hri.out hsi)
        go_wp2
        go_ret
        exact Ret.mk' (congrArg (Value.int .i64) HF.out.symm) ⟨rfl, HB3.out⟩
      · have HE := Lib.hid (join_end H0.out Hri.out hsi)
        clear hsi
        go_wp2
        go_loopw [5] (fun i wr => ∃ k : Nat, k ≤ t.length ∧ i = .int .i64 k ∧ Below w3.heap.size w3 wr ∧ Hid ((t.take k).any (fun k => !j.contains k) = false)) (fun i _ => t.length - (intOf i).toNat)
        case atStart => exact ⟨0, by omega, rfl, Below.refl _ _, rfl⟩
        case round =>
          obtain ⟨k, hk, rfl, hB, HP⟩ := hrel
          have HB := Lib.hid hB
          have y3 : wr.cell? ⟨w.heap.size, 3, none⟩ = some (.slice B t.length cb) := cell_below hB ((blk_cell HY.out).trans rfl)
          clear hB
          by_cases hkn : k < t.length
          · obtain ⟨b1, o1, rfl, g1⟩ := IntsAt.at_ (Ht.out.below (below_trans' HB3.out HB.out)) hkn
            generalize hx : t[k] = x at g1
            have Hx := Lib.hid hx
            clear hx
            have Hc := Lib.hid (in_any C cc j x wr (Hj.out.below (below_trans' HB3.out HB.out)) Hnj.out)
            go_wp2_with fail
            refine Hc.out.mono ?_
            rintro e w4 ⟨v, rfl, rfl, q, hq⟩
            have hB4 : Below wr.heap.size wr w4 := by rw [hq]; exact below_drewN (Below.refl _ _) _
            have HB4 := Lib.hid (below_trans' HB.out hB4)
            clear hB4 hq Hc
            cases hc : j.contains x
            · have HF : Hid (joinErr L R l t j = 16) := Lib.hid (by rw [HE.out, if_pos (any_hit' hkn (by rw [Hx.out, hc]; rfl))])
              go_wp2
              go_ret
              exact Ret.mk' (congrArg (Value.int .i64) HF.out.symm) ⟨rfl, below_trans' HB3.out HB4.out⟩
            · have HN := Lib.hid (any_next hkn HP.out (by rw [Hx.out, hc]; rfl))
              go_wp2
              go_roundw
              case rel => exact ⟨k + 1, by omega, by go_num, HB4.out, HN⟩
              case measure => simp [intOf]; omega
          · have HF : Hid (joinErr L R l t j = 0) := Lib.hid (by rw [HE.out, if_neg (by rw [any_miss' hkn HP.out]; simp)])
            go_wp2
            go_ret
            exact Ret.mk' (congrArg (Value.int .i64) HF.out.symm) ⟨rfl, below_trans' HB3.out HB.out⟩
  · have d0 : (sheetErr L R l t != 0) = true := by simpa using h0
    have HF := Lib.hid (join_sheet (j := j) h0)
    clear h0
    have Hc := Lib.hid (Hs.out w1 HB1.out)
    go_wp2_with fail
    refine Hc.out.mono ?_
    rintro e w2 ⟨v, rfl, rfl, hB2⟩
    have HB2 := Lib.hid (below_trans' HB1.out hB2)
    clear hB2 Hc y0 y1 y2 y3
    go_wp2
    go_ret
    exact Ret.mk' (congrArg (Value.int .i64) HF.out.symm) ⟨rfl, HB2.out⟩

theorem contains_any (j : List Int) (x : Int) : j.any (fun y => x == y) = j.contains x := by rw [List.contains_eq_any_beq]
theorem enters53 : ∀ args W, (callFunc 53 args).run Try.prog W = .ok (.enter 53 args) W := fun args W => by simp [go_sem]
theorem joining1_any (C : Option Addr) (cc : Nat) (j : List Int) (b : Nat) (x : Int) (w : World) (h0 : w.cell? ⟨b, 0, none⟩ = some (.slice C j.length cc)) (hj : IntsAt w C j) (hnj : j.length ≤ 100000) :
    Calls Try.prog 53 #[.int .i64 x, .pointer (some ⟨b, 0, none⟩)] w (Ret fun v w' => v = .bool (!j.contains x) ∧ Below w.heap.size w w') := by
  have Hc := Lib.hid (containsI_any C cc j x w hj hnj)
  rw [contains_any] at Hc
  clear hj hnj
  go_enter Try.func53, Try.ntmps53
  go_wp2_with fail
  refine Hc.out.mono ?_
  rintro e w1 ⟨v, rfl, rfl, hB1⟩
  have HB := Lib.hid hB1; clear hB1 Hc
  cases hc : j.contains x
  all_goals
    have HC := Lib.hid hc
    go_wp2
    go_ret
    exact Ret.mk' (v := .bool (!j.contains x)) (by rw [HC.out]; rfl) ⟨rfl, HB.out⟩

set_option maxRecDepth 100000 in
set_option maxHeartbeats 1000000 in
theorem checkJoining_any (L R : Int) (A B C : Option Addr) (ca cb cc : Nat) (l : List (Int × Int)) (t j : List Int) (w : World) (hl : RangesAt w A l) (ht : IntsAt w B t) (hj : IntsAt w C j) (hn : l.length ≤ 100000) (hm : t.length ≤ 100000) (hnj : j.length ≤ 100000) (hca : l.length ≤ ca) (hcm : ca ≤ 9223372036854775807) :
    Calls Try.prog 20 #[vSheet L R A l.length ca B t.length cb, .slice C j.length cc] w (Ret fun v w' => v = .int .i64 (joinErr L R l t j) ∧ Below w.heap.size w w') := by
  have Hl := Lib.hid hl; clear hl
  have Ht := Lib.hid ht; clear ht
  have Hj := Lib.hid hj; clear hj
  have Hnj := Lib.hid hnj; clear hnj
  have hmf : ∀ (fn : Fn) (first cap : Array Value) (w : World), (Instr.makeFunc fn first cap).run Try.prog w = .ok (.func fn first cap) w := fun _ _ _ _ => rfl
  obtain ⟨w0, hw0⟩ : ∃ w0, w0 = (w.alloc (.cells #[.int .i64 L, .int .i64 R, .slice A l.length ca, .slice B t.length cb] 25)).alloc (.cells #[.slice C j.length cc] 23) := ⟨_, rfl⟩
  have HB0 : Hid (Below w.heap.size w w0) := Lib.hid (by rw [hw0]; exact below_alloc' (below_alloc' (Below.refl _ _) _) _)
  have hX : w0.heap[w.heap.size]? = some (.cells #[.int .i64 L, .int .i64 R, .slice A l.length ca, .slice B t.length cb] 25 (0, 0)) := by rw [hw0]; exact blk_alloc (heap_alloc_new _ _) _
  have hX2 : w0.heap[w.heap.size + 1]? = some (.cells #[.slice C j.length cc] 23 (0, 0)) := by rw [hw0]; have := heap_alloc_new (w.alloc (.cells #[.int .i64 L, .int .i64 R, .slice A l.length ca, .slice B t.length cb] 25)) (.cells #[.slice C j.length cc] 23); rwa [World.size_alloc] at this
  have hs := fun W (h : Below w.heap.size w W) => checkSheet_any L R A B ca cb l t W (Hl.out.below h) (Ht.out.below h) hn hm hca hcm
  have hsi := single_any L R
  unfold vSheet at hs hsi ⊢
  have Hs := Lib.hid hs
  have Hsi := Lib.hid hsi
  clear hs hsi
  have y0 : w0.cell? ⟨w.heap.size, 0, none⟩ = some (.int .i64 L) := (blk_cell hX).trans rfl
  have y1 : w0.cell? ⟨w.heap.size, 1, none⟩ = some (.int .i64 R) := (blk_cell hX).trans rfl
  have y2 : w0.cell? ⟨w.heap.size, 2, none⟩ = some (.slice A l.length ca) := (blk_cell hX).trans rfl
  have y3 : w0.cell? ⟨w.heap.size, 3, none⟩ = some (.slice B t.length cb) := (blk_cell hX).trans rfl
  have y4 : w0.cell? ⟨w.heap.size + 1, 0, none⟩ = some (.slice C j.length cc) := (blk_cell hX2).trans rfl
  clear hX hX2
  have Hc := Lib.hid (Hs.out w0 HB0.out)
  rw [hw0] at y0 y1 y2 y3 y4 Hc
  have HW0 := Lib.hid hw0
  clear hw0
  go_enter Try.func20, Try.ntmps20
  go_wp2_with fail
  refine Hc.out.mono ?_
  rintro e w1 ⟨v, rfl, rfl, hB1⟩
  rw [← HW0.out] at hB1 y0 y1 y2 y3 y4
  have HB1 := Lib.hid (below_trans' HB0.out hB1)
  replace y0 := cell_below hB1 y0
  replace y1 := cell_below hB1 y1
  replace y2 := cell_below hB1 y2
  replace y3 := cell_below hB1 y3
  replace y4 := cell_below hB1 y4
  clear hB1 Hc HB0 HW0
  by_cases h0 : sheetErr L R l t = 0
  · have d0 : (sheetErr L R l t != 0) = false := by simp [h0]
    have HS := Lib.hid (sheet_ok h0)
    have H0 := Lib.hid h0; clear h0
    have Hc := Lib.hid (rising_any C cc j l.length w1 (Hj.out.below HB1.out) Hnj.out (by omega))
    go_wp2_with fail
    refine Hc.out.mono ?_
    rintro e w2 ⟨v, rfl, rfl, hB2⟩
    have HB2 := Lib.hid (below_trans' HB1.out hB2)
    replace y0 := cell_below hB2 y0
    replace y1 := cell_below hB2 y1
    replace y2 := cell_below hB2 y2
    replace y3 := cell_below hB2 y3
    replace y4 := cell_below hB2 y4
    clear hB2 Hc
    cases hri : risingFrom (-1) l.length j
    · have HF := Lib.hid (join_rise H0.out hri)
      go_wp2
      go_ret
      exact Ret.mk' (congrArg (Value.int .i64) HF.out.symm) ⟨rfl, HB2.out⟩
    · have Hri := Lib.hid hri
      have Hc := Lib.hid (Hsi.out A B C ca cb cc t.length l j w2 (Hl.out.below HB2.out) (Hj.out.below HB2.out) Hnj.out (rising_in hri) HS.out.in12)
      clear hri
      go_wp2_with fail
      refine Hc.out.mono ?_
      rintro e w3 ⟨v, rfl, rfl, hB3⟩
      have HB3 := Lib.hid (below_trans' HB2.out hB3)
      replace y3 := cell_below hB3 y3
      replace y4 := cell_below hB3 y4
      clear hB3 Hc y0 y1 y2
      cases hsi : singleB l j
      · have HF := Lib.hid (join_single H0.out Hri.out hsi)
        go_wp2
        go_ret
        exact Ret.mk' (congrArg (Value.int .i64) HF.out.symm) ⟨rfl, HB3.out⟩
      · have HE := Lib.hid (join_end H0.out Hri.out hsi)
        clear hsi
        have HJ3 := Lib.hid (Hj.out.below HB3.out)
        have ha : Asks w3 53 #[] #[.pointer (some ⟨w.heap.size + 1, 0, none⟩)] vI (fun _ => True) (fun k => !j.contains k) := fun V x hV _ => joining1_any C cc j _ x V (cell_below hV y4) (HJ3.out.below hV) Hnj.out
        have Hc := Lib.hid (containsFuncI_any B cb t 53 #[] #[.pointer (some ⟨w.heap.size + 1, 0, none⟩)] (fun _ => True) (fun k => !j.contains k) w3 (Ht.out.below HB3.out) hm (fun _ _ => trivial) enters53 ha)
        clear ha
        go_wp2_with fail
        refine Hc.out.mono ?_
        rintro e w4 ⟨v, rfl, rfl, hB4⟩
        have HB4 := Lib.hid (below_trans' HB3.out hB4)
        clear hB4 Hc
        generalize t.any (fun k => !j.contains k) = c at HE ⊢
        cases c
        · have HF : Hid (joinErr L R l t j = 0) := Lib.hid (by rw [HE.out]; rfl)
          go_wp2
          go_ret
          exact Ret.mk' (congrArg (Value.int .i64) HF.out.symm) ⟨rfl, HB4.out⟩
        · have HF : Hid (joinErr L R l t j = 16) := Lib.hid (by rw [HE.out]; rfl)
          go_wp2
          go_ret
          exact Ret.mk' (congrArg (Value.int .i64) HF.out.symm) ⟨rfl, HB4.out⟩
  · have d0 : (sheetErr L R l t != 0) = true := by simpa using h0
    have HF := Lib.hid (join_sheet (j := j) h0)
    clear h0
    go_wp2
    go_ret
    exact Ret.mk' (congrArg (Value.int .i64) HF.out.symm) ⟨rfl, HB1.out⟩
end Go.Proofs.Ytoogfdicmpkkgaa
