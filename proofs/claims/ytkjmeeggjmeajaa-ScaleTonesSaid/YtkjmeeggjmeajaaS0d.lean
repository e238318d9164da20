/- Tones and small facts for the sort. -/
import Derived.Test.YtkjmeeggjmeajaaB6
namespace Go.Proofs.Ytkjmeeggjmeajaa
open Go.RowKit

abbrev Tone := Int × Int × Int
def encT (t : Tone) : List Value := [.int .i64 t.1, .int .i64 t.2.1, .int .i64 t.2.2]
def vT (t : Tone) : Value := .agg #[.int .i64 t.1, .int .i64 t.2.1, .int .i64 t.2.2]
def ByHi (ts : List Tone) : Prop := ts.Pairwise fun a b => a.2.1 ≤ b.2.1
theorem encT_len (t : Tone) : (encT t).length = 3 := rfl
theorem grownBy_set' {w w' : World} {b : Nat} (h : w.grownBy w' (some b)) (a : Addr) (ha : a.block = b) (v : Value) : w.grownBy (w'.setCell a v) (some b) :=
  h.trans ⟨rfl, rfl, rfl, by simp, fun k _ hk => heap_setCell_other w' a k v (fun e => hk (by rw [show k = b from by rw [← ha]; exact e]))⟩
theorem own_below' {w w' : World} {base : Nat} {e : TypeId} {size : Nat} {v : Value} {n : Nat} {xs : List Value} (h : w.ownsRow base e size v n xs) (hB : Below w.heap.size w w') : w'.ownsRow base e size v n xs :=
  ⟨h.1, h.2.imp id fun ⟨g, cap, cur, a, b, c, d⟩ => ⟨g, cap, cur, a, b, (hB.block g (blk_lt c)).trans c, d⟩⟩
end Go.Proofs.Ytkjmeeggjmeajaa
