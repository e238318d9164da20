/- What the laws of the chapter rest on, part 04. -/
import Derived.Test.YtkpmmgeffbhngaaGreatDoorC01
import Derived.Test.YtkpmmgeffbhngaaGreatDoorC03
import Derived.Maps.AppendAt
import Derived.Deep.AppendLies
import Derived.Deep.RegionHeld3
import Derived.Laws.EntriesVeiled
import Derived.WalkMore
import Derived.Laws.Rows
import Derived.RangeFuncNested
import Derived.RangeFuncBound
import Derived.RangeFuncCalls
import Derived.RangeFuncLeaves
import Derived.Shelf.Abstract
import Derived.Shelf.RegionOpen
import Derived.OwnWalkIn
import Derived.TacticsInMore
import Derived.LoopNIn
import Derived.LoopIn
import Derived.Maps.OwnOps
import Derived.Maps.OwnSet
import Derived.Maps.Views
import Derived.DeepKeys4
import Derived.Maps.RangeWalk
import Derived.ChangeKeysEq
import Derived.Carry
import Derived.Deep.MidRow
import Derived.ArgAppend
import Derived.Deep.RegionLawGrows
import Derived.Laws.AppendOwnNone
import Derived.Shelf.SlGeneric
import Derived.Shelf.Strings.OnBuilder
import Derived.Shelf.Strings.BuilderK
import Derived.Shelf.Strings.SplitShaped
import Derived.Shelf.Strings.Prefix
import Derived.Shelf.Strings.Cut
import Derived.Shelf.Strings.Count
import Derived.Shelf.Strings.SlTrimAscii
import Derived.Shelf.Strconv.Itoa4
import Derived.Shelf.Strconv.ErrVarParseInt
import Derived.Shelf.Slices.Turned
import Derived.Shelf.SlicesE.Clone
import Derived.Shelf.SlicesE.IndexFunc
import Derived.Shelf.SlicesE.Reverse
import Derived.Shelf.SlicesQ.IndexFunc
import Derived.Shelf.SlIterI.Sorted
import Derived.Shelf.SlIterI.Nil
import Derived.Shelf.SortM.Plain
import Derived.Shelf.SortM.SortNone
import Derived.Shelf.SlSortCmp.NoneTotal
import Derived.Ground.SlgfProg
import Derived.Ground.SlsfProg
import Derived.Ground.SlgnProg
import Derived.Ground.SlgmProg
import Derived.Ground.GgzProg
import Derived.WalkSmall
import Derived.Laws.IdiomStrings
import Derived.Sort.QuietIn
set_option linter.unusedSimpArgs false
set_option linter.unusedVariables false
set_option linter.unnecessarySimpa false
namespace Prot
end Prot
namespace Go.Shelf
end Go.Shelf
namespace Go.Maps
end Go.Maps
namespace Go.Proofs.YtkpmmgeffbhngaaGreatDoor
open Go.RowKit
theorem block_lt_of_cell {w : World} {a : Addr} {v : Value} (h : w.cell? a = some v) : a.block < w.heap.size := by
  rcases Nat.lt_or_ge a.block w.heap.size with h1 | h1
  · exact h1
  · simp [World.cell?, Array.getElem?_eq_none h1] at h
theorem cell_below {w w' : World} (hb : Below w.heap.size w w') {a : Addr} {v : Value} (h : w.cell? a = some v) : w'.cell? a = some v :=
  (hb.cell (block_lt_of_cell h)).trans h
theorem cell_alloc {w : World} {a : Addr} {v : Value} (h : w.cell? a = some v) (o : Obj) : (w.alloc o).cell? a = some v := cell_below ((Below.refl _ w).alloc (Nat.le_refl _) o) h
theorem cell_far {w : World} {p q : Addr} {u v : Value} (h : w.cell? q = some v) (hne : q ≠ p) : (w.setCell p u).cell? q = some v := (World.cell?_setCell_other w p q u hne.symm).trans h
theorem blk_cell {w : World} {b i : Nat} {cs : Array Value} {t : TypeId} {fr : Nat × Nat} (h : w.heap[b]? = some (.cells cs t fr)) : w.cell? ⟨b, i, none⟩ = cs[i]? := by simp [World.cell?, h]
theorem blk_frozen {w : World} {b i : Nat} {cs : Array Value} {t : TypeId} (h : w.heap[b]? = some (.cells cs t (0, 0))) : w.frozen? ⟨b, i, none⟩ = false := by simp [World.frozen?, h]
theorem blk_lt {w : World} {b : Nat} {o : Obj} (h : w.heap[b]? = some o) : b < w.heap.size := (Array.getElem?_eq_some_iff.1 h).1
theorem blk_alloc {w : World} {b : Nat} {o : Obj} (h : w.heap[b]? = some o) (o' : Obj) : (w.alloc o').heap[b]? = some o := (Below.heap_alloc w o' b (blk_lt h)).trans h
theorem blk_below {w w' : World} {b : Nat} {o : Obj} (hb : Below w.heap.size w w') (h : w.heap[b]? = some o) : w'.heap[b]? = some o := (hb.block b (blk_lt h)).trans h
theorem blk_grown {w w' : World} {row : Option Nat} {b : Nat} {o : Obj} (hg : w.grownBy w' row) (h : w.heap[b]? = some o) (hne : some b ≠ row) : w'.heap[b]? = some o := (hg.block b (blk_lt h) hne).trans h
theorem blk_set {w : World} {b i : Nat} {cs : Array Value} {t : TypeId} {fr : Nat × Nat} (h : w.heap[b]? = some (.cells cs t fr)) (u : Value) : (w.setCell ⟨b, i, none⟩ u).heap[b]? = some (.cells (cs.setIfInBounds i u) t fr) := by
  simp [World.setCell, Array.getElem?_modify, h]
theorem blk_far {w : World} {b : Nat} {o : Obj} (h : w.heap[b]? = some o) {p : Addr} (hne : b ≠ p.block) (u : Value) : (w.setCell p u).heap[b]? = some o := (Below.heap_setCell w p u b hne).trans h
theorem own_base {w : World} {base : Nat} {e : TypeId} {size : Nat} {v : Value} {n : Nat} {xs : List Value} (h : w.ownsRow base e size v n xs) : ∀ k, v.ownBlock = some k → base ≤ k := fun k e => (h.lt k e).1
theorem below_drewN {B : Nat} {a w : World} (h : Below B a w) (n : Nat) : Below B a (w.drewN n) := ⟨h.os, h.tape, h.output, h.size, h.block⟩
theorem below_trans' {a b c : World} (h : Below a.heap.size a b) (k : Below b.heap.size b c) : Below a.heap.size a c := h.trans (k.mono h.size)
theorem below_alloc' {a b : World} (h : Below a.heap.size a b) (o : Obj) : Below a.heap.size a (b.alloc o) := h.alloc h.size o
theorem below_alloc_of {a b c : World} {o : Obj} (h : Below a.heap.size a b) (k : Below (b.alloc o).heap.size (b.alloc o) c) : Below a.heap.size a c := below_trans' (below_alloc' h o) k
section
variable {α : Type} {enc : α → List Value} {k : Nat} {w w' : World} {A : Option Addr} {l : List α}
def RowsAt (enc : α → List Value) (k : Nat) (w : World) (A : Option Addr) (l : List α) : Prop :=
  ∀ i (h : i < l.length), ∃ b off, A = some ⟨b, off, none⟩ ∧ ∀ j v, (enc l[i])[j]? = some v → w.cell? ⟨b, off + i * k + j, none⟩ = some v
theorem RowsAt.nil (A : Option Addr) : RowsAt enc k w A [] := fun i h => absurd h (by simp)
theorem RowsAt.below (h : RowsAt enc k w A l) (hb : Below w.heap.size w w') : RowsAt enc k w' A l := fun i hi => by
  obtain ⟨b, off, hA, hc⟩ := h i hi
  exact ⟨b, off, hA, fun j v hv => cell_below hb (hc j v hv)⟩
theorem RowsAt.drewN (h : RowsAt enc k w A l) (n : Nat) : RowsAt enc k (w.drewN n) A l := h
theorem RowsAt.drew (h : RowsAt enc k w A l) : RowsAt enc k w.drew A l := h
theorem RowsAt.alloc (h : RowsAt enc k w A l) (o : Obj) : RowsAt enc k (w.alloc o) A l := h.below ((Below.refl _ w).alloc (Nat.le_refl _) o)
theorem RowsAt.take (h : RowsAt enc k w A l) (n : Nat) : RowsAt enc k w A (l.take n) := fun i hi => by
  have hi' : i < l.length := by simp at hi; omega
  obtain ⟨b, off, hA, hc⟩ := h i hi'
  exact ⟨b, off, hA, fun j v hv => hc j v (by simpa using hv)⟩
theorem flatMap_at {l : List α} (hk : ∀ x, (enc x).length = k) : ∀ (i j : Nat) (hi : i < l.length) (v : Value), (enc l[i])[j]? = some v → (l.flatMap enc)[i * k + j]? = some v := by
  induction l with
  | nil => intro i j hi; simp at hi
  | cons x l ih =>
    intro i j hi v hv
    rw [List.flatMap_cons]
    cases i with
    | zero =>
      simp only [List.getElem_cons_zero] at hv
      have : j < (enc x).length := (List.getElem?_eq_some_iff.1 hv).1
      rw [Nat.zero_mul, Nat.zero_add, List.getElem?_append_left this]; exact hv
    | succ i =>
      have hi' : i < l.length := by simpa using hi
      simp only [List.getElem_cons_succ] at hv
      rw [List.getElem?_append_right (by rw [hk, Nat.succ_mul]; omega), hk, show (i + 1) * k + j - k = i * k + j from by rw [Nat.succ_mul]; omega]
      exact ih i j hi' v hv
theorem RowsAt.of_own {base : Nat} {e : TypeId} {c : Nat} (hk : ∀ x, (enc x).length = k) (h : w.ownsRow base e k (.slice A l.length c) l.length (l.flatMap enc)) : RowsAt enc k w A l := fun i hi => by
  obtain ⟨g, cap, hv, hg, hlt⟩ := h.form (by omega)
  injection hv with hA hn hc
  subst hA
  refine ⟨g, 0, rfl, fun j v hv => ?_⟩
  have h1 := h.cells (g := g) rfl (i * k + j) v (flatMap_at hk i j hi v hv)
  have hlt2 : i * k + j < (l.flatMap enc).length := (List.getElem?_eq_some_iff.1 (flatMap_at hk i j hi v hv)).1
  rw [Nat.zero_add]
  by_cases h0 : i * k + j = 0
  · rw [h0] at h1 ⊢; exact h1
  · unfold Addr.add at h1; rw [if_neg h0, Nat.zero_add] at h1; exact h1
theorem own_form {base : Nat} {e : TypeId} {v : Value} {n : Nat} {xs : List Value} (h : w.ownsRow base e k v n xs) : ∃ A c, v = .slice A n c ∧ n ≤ c := by
  rcases h.2 with ⟨rfl, rfl⟩ | ⟨g, cap, cur, rfl, _, _, hc, _⟩
  · exact ⟨none, 0, rfl, by omega⟩
  · exact ⟨_, _, rfl, hc⟩
end
def encI (x : Int) : List Value := [.int .i64 x]
def encR (x : Int × Int) : List Value := [.int .i64 x.1, .int .i64 x.2]
def IntsAt (w : World) (A : Option Addr) (l : List Int) : Prop := RowsAt encI 1 w A l
def RangesAt (w : World) (A : Option Addr) (l : List (Int × Int)) : Prop := RowsAt encR 2 w A l
theorem encI_len (x : Int) : (encI x).length = 1 := rfl
section
variable {w w' : World} {A : Option Addr}
theorem IntsAt.at_ {l : List Int} (h : IntsAt w A l) {i : Nat} (hi : i < l.length) : ∃ b off, A = some ⟨b, off, none⟩ ∧ w.cell? ⟨b, off + i, none⟩ = some (.int .i64 l[i]) := by
  obtain ⟨b, off, hA, hc⟩ := h i hi
  exact ⟨b, off, hA, by have := hc 0 _ rfl; simpa using this⟩
theorem RangesAt.at_ {l : List (Int × Int)} (h : RangesAt w A l) {i : Nat} (hi : i < l.length) : ∃ b off, A = some ⟨b, off, none⟩ ∧
    w.cell? ⟨b, off + i * 2, none⟩ = some (.int .i64 l[i].1) ∧ w.cell? ⟨b, off + i * 2 + 1, none⟩ = some (.int .i64 l[i].2) := by
  obtain ⟨b, off, hA, hc⟩ := h i hi
  exact ⟨b, off, hA, hc 0 _ rfl, hc 1 _ rfl⟩
theorem IntsAt.below {l : List Int} (h : IntsAt w A l) (hb : Below w.heap.size w w') : IntsAt w' A l := RowsAt.below h hb
theorem RangesAt.below {l : List (Int × Int)} (h : RangesAt w A l) (hb : Below w.heap.size w w') : RangesAt w' A l := RowsAt.below h hb
theorem IntsAt.drewN {l : List Int} (h : IntsAt w A l) (n : Nat) : IntsAt (w.drewN n) A l := h
theorem RangesAt.drewN {l : List (Int × Int)} (h : RangesAt w A l) (n : Nat) : RangesAt (w.drewN n) A l := h
theorem IntsAt.alloc {l : List Int} (h : IntsAt w A l) (o : Obj) : IntsAt (w.alloc o) A l := RowsAt.alloc h o
theorem RangesAt.alloc {l : List (Int × Int)} (h : RangesAt w A l) (o : Obj) : RangesAt (w.alloc o) A l := RowsAt.alloc h o
theorem IntsAt.nil : IntsAt w A [] := RowsAt.nil A
theorem RangesAt.nil : RangesAt w A [] := RowsAt.nil A
end
/-- A function value that answers a question of each x, in whatever world behind w0. -/
def Asks {α : Type} (w0 : World) (g : Nat) (first captured : Array Value) (encV : α → Value) (dom : α → Prop) (p : α → Bool) : Prop :=
  ∀ (W : World) (x : α), Below w0.heap.size w0 W → dom x → Calls Tryz.prog g (first ++ #[encV x] ++ captured) W (Ret fun v W' => v = .bool (p x) ∧ Below W.heap.size W W')
theorem Asks.below {α : Type} {w0 w1 : World} {g : Nat} {first captured : Array Value} {encV : α → Value} {dom : α → Prop} {p : α → Bool} (h : Asks w0 g first captured encV dom p) (hb : Below w0.heap.size w0 w1) :
    Asks w1 g first captured encV dom p := fun W x hW hd => h W x (below_trans' hb hW) hd
theorem rows_new {α : Type} {enc : α → List Value} {k : Nat} (hk : ∀ x, (enc x).length = k) (w : World) (l : List α) (cs : Array Value) (t : TypeId) (h : cs.toList = l.flatMap enc) : RowsAt enc k (w.alloc (.cells cs t)) (some ⟨w.heap.size, 0, none⟩) l := fun i hi => by
  refine ⟨w.heap.size, 0, rfl, fun j v hv => ?_⟩
  rw [blk_cell (heap_alloc_new w _), Nat.zero_add, ← Array.getElem?_toList, h]
  exact flatMap_at hk i j hi v hv
theorem RowsAt.far {α : Type} {enc : α → List Value} {k : Nat} {w : World} {b off : Nat} {l : List α} (h : RowsAt enc k w (some ⟨b, off, none⟩) l) {p : Addr} (hne : b ≠ p.block) (u : Value) : RowsAt enc k (w.setCell p u) (some ⟨b, off, none⟩) l := fun i hi => by
  obtain ⟨b', off', hA, hc⟩ := h i hi
  refine ⟨b', off', hA, fun j v hv => cell_far (hc j v hv) fun e => ?_⟩
  injection hA with hA
  injection hA with e1
  rw [← e] at hne
  exact hne e1
theorem heap_alloc_at {n : Nat} (w : World) (o : Obj) (h : w.heap.size = n) : (w.alloc o).heap[n]? = some o := by subst h; exact heap_alloc_new w o
end Go.Proofs.YtkpmmgeffbhngaaGreatDoor
namespace Go.Proofs.YtkpmmgeffbhngaaGreatDoor
open Go.RowKit Prot Go.Lib
def encT (ds : List Int) : Value := .tuple #[.string (bs (encV ds).1), .int .i64 (encV ds).2]
theorem encT_of {ds : List Int} {l : List UInt8} {e : Int} (h : encV ds = (l, e)) : encT ds = .tuple #[.string (bs l), .int .i64 e] := by unfold encT; rw [h]
theorem encV_bad {ds : List Int} {e : Int} (h : encErr ds = e) (h0 : e ≠ 0) : encV ds = ([], e) := by unfold encV; rw [h, if_neg h0]
end Go.Proofs.YtkpmmgeffbhngaaGreatDoor
namespace Go.Proofs.YtkpmmgeffbhngaaGreatDoor
open Go.RowKit Prot Go.Lib
def encIt (x : It) : List Value := [.int .i64 x.num, .int .i64 x.box, .int .i64 x.day, .int .i64 x.voice, .int .i64 x.turns, .int .i64 x.src, .bool x.cracked]
theorem encIt_len (x : It) : (encIt x).length = 7 := rfl
def ItemsAt (w : World) (A : Option Addr) (l : List It) : Prop := RowsAt encIt 7 w A l
section
variable {w w' : World} {A : Option Addr}
theorem ItemsAt.at_ {l : List It} (h : ItemsAt w A l) {i : Nat} (hi : i < l.length) : ∃ b off, A = some ⟨b, off, none⟩ ∧
    w.cell? ⟨b, off + i * 7, none⟩ = some (.int .i64 l[i].num) ∧ w.cell? ⟨b, off + i * 7 + 1, none⟩ = some (.int .i64 l[i].box) ∧ w.cell? ⟨b, off + i * 7 + 2, none⟩ = some (.int .i64 l[i].day) ∧
    w.cell? ⟨b, off + i * 7 + 3, none⟩ = some (.int .i64 l[i].voice) ∧ w.cell? ⟨b, off + i * 7 + 4, none⟩ = some (.int .i64 l[i].turns) ∧ w.cell? ⟨b, off + i * 7 + 5, none⟩ = some (.int .i64 l[i].src) ∧
    w.cell? ⟨b, off + i * 7 + 6, none⟩ = some (.bool l[i].cracked) := by
  obtain ⟨b, off, hA, hc⟩ := h i hi
  exact ⟨b, off, hA, hc 0 _ rfl, hc 1 _ rfl, hc 2 _ rfl, hc 3 _ rfl, hc 4 _ rfl, hc 5 _ rfl, hc 6 _ rfl⟩
theorem ItemsAt.below {l : List It} (h : ItemsAt w A l) (hb : Below w.heap.size w w') : ItemsAt w' A l := RowsAt.below h hb
theorem ItemsAt.drewN {l : List It} (h : ItemsAt w A l) (n : Nat) : ItemsAt (w.drewN n) A l := h
theorem ItemsAt.alloc {l : List It} (h : ItemsAt w A l) (o : Obj) : ItemsAt (w.alloc o) A l := RowsAt.alloc h o
theorem ItemsAt.nil : ItemsAt w A [] := RowsAt.nil A
end
theorem room_next {l : List It} {k : Nat} (hk : k < l.length) (b : Int) : room (l.take (k + 1)) b = room (l.take k) b + if l[k].box = b then 1 else 0 := by
  rw [List.take_succ_eq_append_getElem hk, room_snoc]
theorem room_le (l : List It) (b : Int) : room l b ≤ l.length := by unfold room; exact List.length_filter_le _ _
set_option maxRecDepth 100000 in
set_option maxHeartbeats 400000 in
theorem rroom_any (A : Option Addr) (ca : Nat) (l : List It) (b : Int) (w : World) (hl : ItemsAt w A l) (hn : l.length ≤ 100000) :
    Calls Tryz.prog 85 #[.slice A l.length ca, .int .i64 b] w (Ret fun v w' => v = .int .i64 (room l b) ∧ ∃ q, w' = w.drewN q) := by
  have Hl := Lib.hid hl; clear hl
  go_enter Tryz.func85, Tryz.ntmps85
  go_wp2
  go_loopw [5, 6] (fun c i wr => ∃ k q : Nat, k ≤ l.length ∧ i = .int .i64 k ∧ c = .int .i64 (room (l.take k) b) ∧ wr = w.drewN q) (fun _ i _ => l.length - (intOf i).toNat)
  case atStart => exact ⟨0, 0, by omega, rfl, rfl, rfl⟩
  case round =>
    obtain ⟨k, q, hk, rfl, rfl, rfl⟩ := hrel
    by_cases hkn : k < l.length
    · obtain ⟨bb, off, rfl, -, g1, -⟩ := Hl.out.at_ hkn
      have HN := Lib.hid (room_next hkn b)
      have hcl : room (l.take k) b ≤ k := Nat.le_trans (room_le _ _) (by rw [List.length_take]; omega)
      generalize l[k].box = y at g1 HN
      generalize room (l.take k) b = c at *
      have g1 : (w.drewN q).cell? ⟨bb, off + k * 7 + 1, none⟩ = some (.int .i64 y) := g1
      by_cases e : y = b
      · have e1 : (y == b) = true := by simpa using e
        rw [if_pos e] at HN
        clear e
        go_wp2
        go_roundw
        case rel => exact ⟨k + 1, _, by omega, by go_num, by rw [HN.out]; go_num, rfl⟩
        case measure => simp [intOf]; omega
      · have e1 : (y == b) = false := by simpa using e
        rw [if_neg e] at HN
        clear e
        go_wp2
        go_roundw
        case rel => exact ⟨k + 1, _, by omega, by go_num, by rw [HN.out]; go_num, rfl⟩
        case measure => simp [intOf]; omega
    · have hkl : k = l.length := by omega
      subst hkl
      rw [List.take_length]
      go_wp2
      go_ret
      exact Ret.mk' rfl ⟨rfl, q, rfl⟩
theorem findI_none {l : List It} {n : Int} (h : ∀ x ∈ l, x.num ≠ n) : findI l n = none := by
  unfold findI
  rw [List.find?_eq_none]
  intro x hx
  simpa using h x hx
theorem none_next {l : List It} {n : Int} {k : Nat} (hk : k < l.length) (h : ∀ x ∈ l.take k, x.num ≠ n) (e : l[k].num ≠ n) : ∀ x ∈ l.take (k + 1), x.num ≠ n := fun x hx => by
  rw [List.take_succ_eq_append_getElem hk] at hx
  rcases List.mem_append.1 hx with hx | hx
  · exact h x hx
  · rw [List.mem_singleton] at hx; subst hx; exact e
end Go.Proofs.YtkpmmgeffbhngaaGreatDoor
namespace Go.Proofs.YtkpmmgeffbhngaaGreatDoor
open Go.RowKit Go.Shelf Go.Maps
theorem own_drewN {w : World} {base : Nat} {e : TypeId} {size : Nat} {v : Value} {n : Nat} {xs : List Value} (h : w.ownsRow base e size v n xs) (q : Nat) : (w.drewN q).ownsRow base e size v n xs := h
theorem own_cells {w : World} {base : Nat} {e : TypeId} {size : Nat} {v : Value} {n : Nat} {xs : List Value} (h : w.ownsRow base e size v n xs) : ∀ r, v.ownBlock = some r → ∃ cs t fr, w.heap[r]? = some (.cells cs t fr) := fun r e => by
  rcases h.2 with ⟨rfl, _⟩ | ⟨g, cap, cur, rfl, _, hh, _⟩
  · simp [Value.ownBlock] at e
  · simp only [Value.ownBlock, Option.some.injEq] at e; subst e; exact ⟨_, _, _, hh⟩
/-- an element type of the seat: its size in cells and its zero -/
structure ElemT (e : TypeId) (size bytes : Nat) (z : Value) : Prop where
  info : (Tryz.prog.info? e).map (fun i => (i.zero, i.size, i.bytes)) = some (some z, size, bytes)
  zsz : z.cells.size = size
  pos : 0 < size
  small : bytes ≤ 100
theorem elemI : ElemT 3 1 8 (.int .i64 0) := ⟨by kernel_rfl, rfl, by omega, by omega⟩
theorem elemL : ElemT 2 1 8 (.int .i64 0) := ⟨by kernel_rfl, rfl, by omega, by omega⟩
theorem push_flat {α : Type} {enc : α → List Value} (l : List α) (x : α) : l.flatMap enc ++ enc x = (l ++ [x]).flatMap enc := by simp
theorem news_new {α : Type} {enc : α → List Value} {w : World} {x : α} {B : Nat} {cs : Array Value} {t : TypeId} {fr : Nat × Nat} (hB : w.heap[B]? = some (.cells cs t fr)) (hcs : cs.toList = enc x) :
    ∀ j u, (enc x)[j]? = some u → w.cell? ((⟨B, 0, none⟩ : Addr).add j) = some u := by rw [← hcs]; exact World.news_of_block hB
section
variable {α : Type} {enc : α → List Value} {e : TypeId} {size bytes : Nat} {z : Value}
theorem wpListIn_push {F : Fence} {n : Nat} (w : World) {ops : Array Oper} {rest : List Oper} {o : Oper} {a : Act} {Q : Exit → Act → World → Prop}
    (hg : o.guard = none) (s x : Operand) (t : TypeId) (hop : o.op = Op.call { callee := Callee.builtin Builtin.append, args := #[s, x], argTypes := #[t, t] })
    (E : ElemT e size bytes z) (hk : ∀ x, (enc x).length = size) (h1 : ∀ x, ∀ u ∈ enc x, u.oneCell' = true) (ht : Tryz.prog.underlying t = some (.slice e)) (base : Nat)
    (v : Value) (l : List α) (hs : a.eval s = v) (hown : w.ownsRow base e size v l.length (l.flatMap enc)) (hlen : l.length ≤ 100000) (y : α) (B : Nat) (hx : a.eval x = .slice (some ⟨B, 0, none⟩) 1 1)
    (cs : Array Value) (hcs : cs.toList = enc y) (tt : TypeId) (fr : Nat × Nat) (hB : w.heap[B]? = some (.cells cs tt fr)) (b3 : base ≤ w.heap.size)
    (hK : ∀ g cap w', w'.ownsRow base e size (.slice (some ⟨g, 0, none⟩) (l.length + 1) cap) (l.length + 1) ((l ++ [y]).flatMap enc) → w.grownBy w' v.ownBlock → wpListIn F n Tryz.prog ops Q rest (a.put o.dst (.slice (some ⟨g, 0, none⟩) (l.length + 1) cap)) w') :
    wpListIn F n Tryz.prog ops Q (o :: rest) a w := by
  obtain ⟨i0, hi, hz0, hz1, hz2⟩ := info_parts E.info
  have hb : (l.length + 1) * bytes ≤ 100001 * 100 := Nat.mul_le_mul (by omega) E.small
  refine wpListIn_append_own w hg s x t hop base e i0 z size bytes ht hi hz0 hz1 hz2 E.zsz E.pos v l.length _ hs hown ⟨B, 0, none⟩ 1 1 (enc y) hx (by rw [hk]; omega) (news_new hB hcs) (h1 y) (by simp only [maxLen]; omega) (by omega) b3 ?_
  intro v' w' hown' hgrow _
  obtain ⟨g, cap, rfl⟩ := ownsRow_succ hown'
  exact hK g cap w' (by rw [← push_flat]; exact hown') hgrow
theorem wpList_push (w : World) {ops : Array Oper} {rest : List Oper} {o : Oper} {a : Act} {Q : Exit → Act → World → Prop}
    (hg : o.guard = none) (s x : Operand) (t : TypeId) (hop : o.op = Op.call { callee := Callee.builtin Builtin.append, args := #[s, x], argTypes := #[t, t] })
    (E : ElemT e size bytes z) (hk : ∀ x, (enc x).length = size) (h1 : ∀ x, ∀ u ∈ enc x, u.oneCell' = true) (ht : Tryz.prog.underlying t = some (.slice e)) (base : Nat)
    (v : Value) (l : List α) (hs : a.eval s = v) (hown : w.ownsRow base e size v l.length (l.flatMap enc)) (hlen : l.length ≤ 100000) (y : α) (B : Nat) (hx : a.eval x = .slice (some ⟨B, 0, none⟩) 1 1)
    (cs : Array Value) (hcs : cs.toList = enc y) (tt : TypeId) (fr : Nat × Nat) (hB : w.heap[B]? = some (.cells cs tt fr)) (b3 : base ≤ w.heap.size)
    (hK : ∀ g cap w', w'.ownsRow base e size (.slice (some ⟨g, 0, none⟩) (l.length + 1) cap) (l.length + 1) ((l ++ [y]).flatMap enc) → w.grownBy w' v.ownBlock → wpList Tryz.prog ops Q rest (a.put o.dst (.slice (some ⟨g, 0, none⟩) (l.length + 1) cap)) w') :
    wpList Tryz.prog ops Q (o :: rest) a w := by
  obtain ⟨i0, hi, hz0, hz1, hz2⟩ := info_parts E.info
  have hb : (l.length + 1) * bytes ≤ 100001 * 100 := Nat.mul_le_mul (by omega) E.small
  refine wpList_append_own w hg s x t hop base e i0 z size bytes ht hi hz0 hz1 hz2 E.zsz E.pos v l.length _ hs hown ⟨B, 0, none⟩ 1 1 (enc y) hx (by rw [hk]; omega) (news_new hB hcs) (h1 y) (by simp only [maxLen]; omega) (by omega) b3 ?_
  intro v' w' hown' hgrow _
  obtain ⟨g, cap, rfl⟩ := ownsRow_succ hown'
  exact hK g cap w' (by rw [← push_flat]; exact hown') hgrow
end
theorem oneI (x : Int) : ∀ u ∈ encI x, u.oneCell' = true := by simp [encI, Value.oneCell']
theorem own_apart {w : World} {base base' : Nat} {e e' : TypeId} {size size' : Nat} {v v' : Value} {n n' : Nat} {xs xs' : List Value} (h : w.ownsRow base e size v n xs) (h' : w.ownsRow base' e' size' v' n' xs') (hne : e ≠ e') :
    v.ownBlock = none ∨ v.ownBlock ≠ v'.ownBlock := by
  rcases h.2 with ⟨rfl, _⟩ | ⟨g, cap, cur, rfl, _, hh, _⟩
  · exact .inl rfl
  · right
    rcases h'.2 with ⟨rfl, _⟩ | ⟨g', cap', cur', rfl, _, hh', _⟩
    · simp [Value.ownBlock]
    · simp only [Value.ownBlock]
      intro e1
      injection e1 with e1
      subst e1
      rw [hh] at hh'; injection hh' with hh'; injection hh' with _ h2; exact hne h2
theorem own_ne_blk {w : World} {base : Nat} {e : TypeId} {size : Nat} {v : Value} {n : Nat} {xs : List Value} (h : w.ownsRow base e size v n xs) {b : Nat} {cs : Array Value} {t : TypeId} {fr : Nat × Nat} (hb : w.heap[b]? = some (.cells cs t fr)) (hne : t ≠ e) : some b ≠ v.ownBlock := by
  rcases h.2 with ⟨rfl, _⟩ | ⟨g, cap, cur, rfl, _, hh, _⟩
  · simp [Value.ownBlock]
  · simp only [Value.ownBlock]
    intro e1
    injection e1 with e1
    subst e1
    rw [hh] at hb; injection hb with hb; injection hb with _ h2; exact hne h2.symm
theorem len_snoc {α : Type} (l : List α) (x : α) : (l ++ [x]).length = l.length + 1 := by simp
theorem below_put {m D : Nat} {w0 W : World} {o : Obj} (h : Below m w0 W) (hD : m ≤ D) (o' : Obj) (_hK : W.heap[D]? = some o) : Below m w0 (W.putObj D o') :=
  h.trans ⟨rfl, rfl, rfl, by simp, fun k hk => World.putObj_heap_other (by omega)⟩
section
variable {α : Type} {enc : α → List Value} {e : TypeId} {size bytes : Nat} {z : Value}
/-- an append of one element at a step of a region that draws -/
theorem step_push {ops : Array Oper} {o : Oper} {a : Act} {w : World} {K : Act → World → Prop} {Q : Exit → Act → World → Prop} {X : Prop}
    (hg : o.guard = none) (s x : Operand) (t : TypeId) (hop : o.op = Op.call { callee := Callee.builtin Builtin.append, args := #[s, x], argTypes := #[t, t] })
    (E : ElemT e size bytes z) (hk : ∀ x, (enc x).length = size) (h1 : ∀ x, ∀ u ∈ enc x, u.oneCell' = true) (ht : Tryz.prog.underlying t = some (.slice e)) (base : Nat)
    (v : Value) (l : List α) (hs : a.eval s = v) (hown : w.ownsRow base e size v l.length (l.flatMap enc)) (hlen : l.length ≤ 100000) (y : α) (B : Nat) (hx : a.eval x = .slice (some ⟨B, 0, none⟩) 1 1)
    (cs : Array Value) (hcs : cs.toList = enc y) (tt : TypeId) (fr : Nat × Nat) (hB : w.heap[B]? = some (.cells cs tt fr)) (b3 : base ≤ w.heap.size)
    (hK : ∀ g cap w', w'.ownsRow base e size (.slice (some ⟨g, 0, none⟩) (l.length + 1) cap) (l.length + 1) ((l ++ [y]).flatMap enc) → w.grownBy w' v.ownBlock → K (a.put o.dst (.slice (some ⟨g, 0, none⟩) (l.length + 1) cap)) w') :
    if Region.wanted o (yielded ops a.tmps) = true then Oper.wp Tryz.prog o a w K Q else X := by
  obtain ⟨i0, hi, hz0, hz1, hz2⟩ := info_parts E.info
  have hb : (l.length + 1) * bytes ≤ 100001 * 100 := Nat.mul_le_mul (by omega) E.small
  refine step_append_lies (w := w) hg s x t hop base e i0 z size bytes ht hi hz0 hz1 hz2 E.zsz E.pos v l.length (l.flatMap enc) hs hown ⟨B, 0, none⟩ 1 1 (enc y) hx (by rw [hk]; omega) (news_new hB hcs) (h1 y) (by omega) (by simp only [maxLen]; omega) (by omega) b3 w.heap.size rfl ?_
  intro g cap w' hown' hgrow _ _
  exact hK g cap w' (by rw [← push_flat]; exact hown') hgrow
end
theorem grownBy_set' {w w' : World} {b : Nat} (h : w.grownBy w' (some b)) (a : Addr) (ha : a.block = b) (v : Value) : w.grownBy (w'.setCell a v) (some b) :=
  h.trans ⟨rfl, rfl, rfl, by simp, fun k _ hk => heap_setCell_other w' a k v (fun e => hk (by rw [show k = b from by rw [← ha]; exact e]))⟩
theorem own_below' {w w' : World} {base : Nat} {e : TypeId} {size : Nat} {v : Value} {n : Nat} {xs : List Value} (h : w.ownsRow base e size v n xs) (hB : Below w.heap.size w w') : w'.ownsRow base e size v n xs :=
  ⟨h.1, h.2.imp id fun ⟨g, cap, cur, a, b, c, d⟩ => ⟨g, cap, cur, a, b, (hB.block g (blk_lt c)).trans c, d⟩⟩
theorem elemIt : ElemT 67 7 56 (.agg #[.int .i64 0, .int .i64 0, .int .i64 0, .int .i64 0, .int .i64 0, .int .i64 0, .bool false]) := ⟨by kernel_rfl, rfl, by omega, by omega⟩
theorem oneIt (x : Prot.It) : ∀ u ∈ encIt x, u.oneCell' = true := by simp [encIt, Value.oneCell']
end Go.Proofs.YtkpmmgeffbhngaaGreatDoor
namespace Go.Proofs.YtkpmmgeffbhngaaGreatDoor
open Go.RowKit Prot Go.Lib Go.Maps
def encS (x : List UInt8) : List Value := [.string (bs x)]
theorem encS_len (x : List UInt8) : (encS x).length = 1 := rfl
theorem oneS (x : List UInt8) : ∀ u ∈ encS x, u.oneCell' = true := by simp [encS, Value.oneCell']
theorem elemS : ElemT 9 1 16 (.string (bs [])) := ⟨by kernel_rfl, rfl, by omega, by omega⟩
def StrsAt (w : World) (A : Option Addr) (l : List (List UInt8)) : Prop := RowsAt encS 1 w A l
section
variable {w w' : World} {A : Option Addr} {l : List (List UInt8)}
theorem StrsAt.at_ (h : StrsAt w A l) {i : Nat} (hi : i < l.length) : ∃ b off, A = some ⟨b, off, none⟩ ∧ w.cell? ⟨b, off + i, none⟩ = some (.string (bs l[i])) := by
  obtain ⟨b, off, hA, hc⟩ := h i hi
  exact ⟨b, off, hA, by have := hc 0 _ rfl; simpa using this⟩
theorem StrsAt.below (h : StrsAt w A l) (hb : Below w.heap.size w w') : StrsAt w' A l := RowsAt.below h hb
theorem StrsAt.drewN (h : StrsAt w A l) (n : Nat) : StrsAt (w.drewN n) A l := h
theorem StrsAt.alloc (h : StrsAt w A l) (o : Obj) : StrsAt (w.alloc o) A l := RowsAt.alloc h o
theorem StrsAt.nil : StrsAt w A [] := RowsAt.nil A
end
theorem flatS_get (l : List (List UInt8)) (k : Nat) (h : k < l.length) : (l.flatMap encS)[k]? = some (.string (bs l[k])) := by
  have := flatMap_at encS_len k 0 h (.string (bs l[k])) rfl
  simpa using this
theorem flatS_set (l : List (List UInt8)) (k : Nat) (x : List UInt8) : (l.flatMap encS).set k (.string (bs x)) = (l.set k x).flatMap encS := by
  have e : ∀ l : List (List UInt8), l.flatMap encS = l.map fun x => Value.string (bs x) := fun l => by
    induction l with
    | nil => rfl
    | cons y l ih => rw [List.flatMap_cons, ih]; rfl
  rw [e, e, ← List.map_set]
theorem extract_one (s : ByteArray) (k : Nat) (h : k < s.size) : s.extract k (k + 1) = bs [s[k]] := by
  rw [bs_of (s.extract k (k + 1))]
  rw [bs_inj, extract_data]
  have h1 := at_list s k h
  rw [show k + 1 - k = 1 by omega]
  apply List.ext_getElem?
  intro i
  rw [List.getElem?_take, List.getElem?_drop]
  cases i with
  | zero => simpa using h1
  | succ i => simp
theorem join_last (init : List (List UInt8)) (x : List UInt8) : x.length ≤ (joinSp (init ++ [x])).length := by
  induction init with
  | nil => exact Nat.le_refl _
  | cons y r ih =>
    rw [List.cons_append, joinSp_cons (by simp), List.length_append, List.length_cons]; omega
/-- what the definition's words answer -/
def WordsQ (ws : List (List UInt8)) (w : World) (v : Value) (w' : World) : Prop := ∃ A ca, v = .slice A ws.length ca ∧ ws.length ≤ ca ∧ StrsAt w' A ws ∧ Below w.heap.size w w'
set_option maxRecDepth 100000 in
set_option maxHeartbeats 1000000 in
theorem rwords_any (s : ByteArray) (w : World) (hs : s.size ≤ 90000) : Calls Tryz.prog 70 #[.string s] w (Ret (WordsQ (splitSp s.data.toList) w)) := by
  have hsz : s.data.toList.length = s.size := (Lib.size_eq s).symm
  obtain ⟨l, hl⟩ : ∃ l, l = s.data.toList := ⟨_, rfl⟩
  rw [← hl] at hsz ⊢
  have HAt : Hid (∀ k (h : k < s.size), l.take (k + 1) = l.take k ++ [s[k]]) := Lib.hid fun k h => by
    have h1 := at_list s k h
    rw [← hl] at h1
    rw [List.take_add_one, h1]; rfl
  have HL := Lib.hid hsz
  clear hl hsz
  go_enter Tryz.func70, Tryz.ntmps70
  go_wp2
  go_loopw [3, 4] (fun u i wr => ∃ (k : Nat) (ws : List (List UInt8)), k ≤ s.size ∧ i = .int .i64 k ∧ ws.length ≤ k + 1 ∧ Hid (splitSp (l.take k) = ws) ∧ Hid (wr.ownsRow w.heap.size 9 1 u ws.length (ws.flatMap encS)) ∧ Hid (Below w.heap.size w wr)) (fun _ i _ => s.size - (intOf i).toNat)
  case atStart => exact ⟨0, [[]], by omega, rfl, by simp, Lib.hid rfl, Lib.hid (World.ownsRow_lit w #[.string (bs [])] 1 (by omega) (by simp [maxLen]) rfl), Lib.hid (below_alloc' (Below.refl _ _) _)⟩
  case round =>
    obtain ⟨k, ws, hk, rfl, hwl, HS, HO, HB⟩ := hrel
    by_cases hkn : k < s.size
    · by_cases hc : s[k] = 32
      · have HN : Hid (splitSp (l.take (k + 1)) = ws ++ [[]]) := Lib.hid (by rw [HAt.out k hkn, hc, split_space, HS.out])
        have t1 : ((s[k].toNat : Int) == 32) = true := by rw [hc]; rfl
        have hbk := heap_alloc_new wr (.cells #[.string (bs [])] 9)
        have HOA := Lib.hid (HO.out.alloc (.cells #[.string (bs [])] 9))
        have hr6 := own_base HO.out
        have hsw := HB.out.size
        clear HAt hc HS
        go_wp2_with (at_builtin; refine wpList_push _ rfl (.tmp 16) (.tmp 17) 55 rfl elemS encS_len oneS Tryz.underlying55 w.heap.size _ ws rfl HOA.out (by omega) [] wr.heap.size (by rfl) _ rfl _ _ hbk (by rw [World.size_alloc]; omega) ?_; intro g2 cap w6 hO6 hg6)
        have HB6 := Lib.hid ((below_alloc' HB.out (.cells #[.string (bs [])] 9)).grown hg6 (by rw [World.size_alloc]; omega) (fun r e => by have := hr6 r e; omega))
        have HO6 := Lib.hid hO6
        clear hO6 hg6 hr6 HO HOA hbk HB
        go_roundw
        case rel => exact ⟨k + 1, ws ++ [[]], by omega, by go_num, by rw [len_snoc]; omega, HN, by rw [len_snoc]; exact HO6, HB6⟩
        case measure => simp [intOf]; omega
      · obtain ⟨init, x, h1, h2⟩ := split_letter hc (l.take k)
        rw [← HAt.out k hkn] at h2
        rw [HS.out] at h1
        subst h1
        have t1 : ((s[k].toNat : Int) == 32) = false := by
          rw [beq_eq_false_iff_ne]
          intro e
          exact hc (UInt8.toNat_inj.1 (by show s[k].toNat = 32; omega))
        obtain ⟨A, c, rfl, hcap⟩ := own_form HO.out
        obtain ⟨g, cap, hv, hg, hlt⟩ := HO.out.form (by simp)
        injection hv with hA _ hcc
        subst hA
        rw [len_snoc] at HO hcap hwl ⊢
        have c1 := HO.out.cellAt init.length (by omega)
        rw [flatS_get _ _ (by simp)] at c1
        have f1 := HO.out.frozenAt init.length
        have hst := HO.out.stored init.length (.string (bs (x ++ [s[k]])))
        rw [flatS_set] at hst
        have eset : (init ++ [x]).set init.length (x ++ [s[k]]) = init ++ [x ++ [s[k]]] := by rw [List.set_append_right _ _ (Nat.le_refl _)]; simp
        rw [eset] at hst
        have eget : (init ++ [x])[init.length]'(by simp) = x := by simp
        rw [eget] at c1
        obtain ⟨n, hn⟩ : ∃ n, n = init.length := ⟨_, rfl⟩
        have HOn := Lib.hid hst.1
        have HBn := Lib.hid (HB.out.setCell (p := ⟨g, init.length, none⟩) hg (.string (bs (x ++ [s[k]]))))
        have HLn : Hid ((init ++ [x ++ [s[k]]]).length = n + 1) := Lib.hid (by rw [len_snoc, hn])
        have HSn := Lib.hid h2
        rw [← hn] at c1 f1 hcap hwl HOn HBn ⊢
        have hx1 : (x ++ [s[k]]).length ≤ 100000 := by
          have e1 := congrArg List.length (join_split (l.take k))
          rw [HS.out] at e1
          have e2 := join_last init x
          rw [List.length_take] at e1
          simp; omega
        have hadd : ∀ W : World, (Op.stringOp .add (bs x) (s.extract k (k + 1))).run Tryz.prog W = .ok (.string (bs (x ++ [s[k]]))) W := fun W => by
          rw [extract_one s k hkn, ← bs_append]
          exact run_string_add_sum W _ _ (by rw [bs_size, bs_size]; rw [List.length_append] at hx1; simp at hx1 ⊢; omega)
        have e1 : IntKind.i64.wrap (((n + 1 : Nat) : Int) - 1) = (n : Int) := by rw [show (((n + 1 : Nat) : Int) - 1) = (n : Int) by omega]; exact IntWalk.i64_in _ (by omega)
        have e2 : IntKind.i64.wrap ((n : Int) + 1 - 1) = (n : Int) := by rw [show ((n : Int) + 1 - 1) = (n : Int) by omega]; exact IntWalk.i64_in _ (by omega)
        have i0 : (0 : Int) ≤ (n : Int) := by omega
        have i1 : (n : Int) < ((n + 1 : Nat) : Int) := by omega
        clear hst eset eget hn h2 hc HS HB HO hx1 HAt
        generalize hy : bs (x ++ [s[k]]) = y at hadd HOn HBn
        generalize hbx : bs x = z at hadd c1
        clear hy hbx
        go_upto_region 7 with fail
        go_big_region
        go_wp2
        go_roundw
        case rel => exact ⟨k + 1, init ++ [x ++ [s[k]]], by omega, by go_num, by rw [HLn.out]; omega, HSn, by rw [HLn.out]; exact HOn, Lib.hid HBn.out.drew⟩
        case measure => simp [intOf]; omega
    · have ek : k = s.size := by omega
      have et : l.take k = l := by rw [ek, ← HL.out]; exact List.take_length
      rw [et] at HS
      obtain ⟨A, c, rfl, hc⟩ := own_form HO.out
      have HI := Lib.hid (RowsAt.of_own encS_len HO.out)
      clear et ek HO HAt
      go_wp2
      go_ret
      exact Ret.mk (by rw [HS.out]; exact ⟨A, c, rfl, hc, HI.out, HB.out⟩)
end Go.Proofs.YtkpmmgeffbhngaaGreatDoor
namespace Go.Proofs.YtkpmmgeffbhngaaGreatDoor
open Go.RowKit Prot Go.Lib
/-- a state of the definition, as it is handed over -/
def vState (j : Jn) (A : Option Addr) (ca : Nat) : Value := .agg #[.int .i64 j.day, .int .i64 j.opn, .slice A j.items.length ca]
end Go.Proofs.YtkpmmgeffbhngaaGreatDoor
namespace Go.Proofs.YtkpmmgeffbhngaaGreatDoor
open Go.RowKit Prot Go.Lib Go.Maps
theorem readGo_snoc (ls : List (List UInt8)) (l : List UInt8) (s : RSt) : readGo waysR (ls ++ [l]) s = (readGo waysR ls s).bind fun k => readLine waysR k l := by
  rw [readGo_append]
  congr 1
  funext k
  show (match readLine waysR k l with | none => none | some s' => some s') = _
  cases readLine waysR k l <;> rfl
end Go.Proofs.YtkpmmgeffbhngaaGreatDoor
namespace Go.Proofs.YtkpmmgeffbhngaaGreatDoor
open Go.RowKit Go.Shelf Prot Go.Lib Go.Maps
attribute [local go_sem] Oper.semAt_some
/-- a yield at a loop whose body goes on: what the iterator asks -/
def AsksY {α : Type} (l : Nat) (encs : α → Array Value) (Kp : World → World → Prop) (m : Nat) (J : List α → World → Prop) : Prop :=
  ∀ pre x W1, J pre W1 → pre.length < m → YieldAt Fence.wide 8 Tryz.prog l (encs x) W1 fun e W' => e = .returned (.bool true) ∧ J (pre ++ [x]) W' ∧ Kp W1 W'
end Go.Proofs.YtkpmmgeffbhngaaGreatDoor
namespace Prot
open Go.Lib
theorem room_next {l : List It} {b : Int} {k : Nat} (hk : k < l.length) : room (l.take (k + 1)) b = room (l.take k) b + if l[k].box = b then 1 else 0 := by
  rw [List.take_succ_eq_append_getElem hk, room_snoc]
end Prot
