/- What the laws of the chapter rest on, part 14. -/
import Derived.Test.YtkpmmgeffbhngaaGreatDoorC06
import Derived.Test.YtkpmmgeffbhngaaGreatDoorC12
import Derived.Test.YtkpmmgeffbhngaaGreatDoorC13
set_option linter.unusedSimpArgs false
set_option linter.unusedVariables false
set_option linter.unnecessarySimpa false
namespace Prot
end Prot
namespace Go.Shelf
end Go.Shelf
namespace Go.Maps
end Go.Maps
namespace Go.Proofs.YtkpmmgeffbhngaaGreatDoor
open Go.RowKit Prot Go.Lib Go.Maps
/-- the value of a kind -/
def vKind (k : Int) (w : List UInt8) (mb n : Nat) : Value := .agg #[.int .i64 k, .string (bs w), .slice (some ⟨mb, 0, none⟩) n n]
/-- the program's kinds, in block g -/
structure KindAt (W : World) (g i : Nat) (w : List UInt8) (ms : List Nat) (mb : Nat) : Prop where
  shape : shapeL ((i : Int) + 1) = some (w, ms)
  c0 : W.cell? ⟨g, i * 3, none⟩ = some (.int .i64 ((i : Int) + 1))
  c1 : W.cell? ⟨g, i * 3 + 1, none⟩ = some (.string (bs w))
  c2 : W.cell? ⟨g, i * 3 + 2, none⟩ = some (.slice (some ⟨mb, 0, none⟩) ms.length ms.length)
  ms : ∀ j, j < ms.length → W.cell? ⟨mb, j, none⟩ = some (.int .i64 (mAt ms j))
def KindsAt (W : World) (g : Nat) : Prop := ∀ i, i < 7 → ∃ w ms mb, KindAt W g i w ms mb
theorem KindAt.below {W W' : World} {g i : Nat} {w : List UInt8} {ms : List Nat} {mb : Nat} (h : KindAt W g i w ms mb) (hb : Below W.heap.size W W') : KindAt W' g i w ms mb :=
  ⟨h.shape, cell_below hb h.c0, cell_below hb h.c1, cell_below hb h.c2, fun j hj => cell_below hb (h.ms j hj)⟩
theorem KindsAt.below {W W' : World} {g : Nat} (h : KindsAt W g) (hb : Below W.heap.size W W') : KindsAt W' g := fun i hi => by
  obtain ⟨w, ms, mb, k⟩ := h i hi
  exact ⟨w, ms, mb, k.below hb⟩
theorem kindAt_of {W : World} {g i : Nat} {w : List UInt8} {ms : List Nat} {mb : Nat} {cs : Array Value} {fr : Nat × Nat} {t : TypeId} {ns : Array Value} {fr2 : Nat × Nat} {t2 : TypeId} (hg : W.heap[g]? = some (.cells cs t fr)) (hm : W.heap[mb]? = some (.cells ns t2 fr2))
    (hs : shapeL ((i : Int) + 1) = some (w, ms)) (h0 : cs[i * 3]? = some (.int .i64 ((i : Int) + 1))) (h1 : cs[i * 3 + 1]? = some (.string (bs w))) (h2 : cs[i * 3 + 2]? = some (.slice (some ⟨mb, 0, none⟩) ms.length ms.length))
    (h3 : ns = (ms.map fun m : Nat => Value.int .i64 (m : Int)).toArray) : KindAt W g i w ms mb :=
  ⟨hs, (blk_cell hg).trans h0, (blk_cell hg).trans h1, (blk_cell hg).trans h2, fun j hj => (blk_cell hm).trans (by
    rw [h3]; unfold mAt; simp [hj])⟩
set_option maxRecDepth 100000 in
set_option maxHeartbeats 1000000 in
theorem kinds_any (w : World) : Calls Tryz.prog 63 #[] w (Ret fun v w' => (∃ g, v = .slice (some ⟨g, 0, none⟩) 7 7 ∧ w.heap.size ≤ g ∧ KindsAt w' g) ∧ Below w.heap.size w w') := by
  go_enter Tryz.func63, Tryz.ntmps63
  go_wp2
  -- memory
  have m0 : (w.alloc (.cells #[.int .i64 100000] 2)).heap[w.heap.size]? = some (.cells #[.int .i64 100000] 2 (0, 0)) := heap_alloc_at _ _ (by simp)
  have m0 := blk_alloc m0 (.cells #[.int .i64 999] 2)
  have m0 := blk_alloc m0 (.cells #[.int .i64 1099511627776, .int .i64 99, .int .i64 400] 2)
  have m0 := blk_alloc m0 (.cells #[.int .i64 1099511627776, .int .i64 1099511627776] 2)
  have m0 := blk_alloc m0 (.cells #[.int .i64 1099511627776] 2)
  have m0 := blk_alloc m0 (.cells #[.int .i64 1099511627776] 2)
  have m0 := blk_alloc m0 (.cells #[.int .i64 60] 2)
  have m1 : ((w.alloc (.cells #[.int .i64 100000] 2)).alloc (.cells #[.int .i64 999] 2)).heap[w.heap.size + 1]? = some (.cells #[.int .i64 999] 2 (0, 0)) := heap_alloc_at _ _ (by simp)
  have m1 := blk_alloc m1 (.cells #[.int .i64 1099511627776, .int .i64 99, .int .i64 400] 2)
  have m1 := blk_alloc m1 (.cells #[.int .i64 1099511627776, .int .i64 1099511627776] 2)
  have m1 := blk_alloc m1 (.cells #[.int .i64 1099511627776] 2)
  have m1 := blk_alloc m1 (.cells #[.int .i64 1099511627776] 2)
  have m1 := blk_alloc m1 (.cells #[.int .i64 60] 2)
  have m2 : (((w.alloc (.cells #[.int .i64 100000] 2)).alloc (.cells #[.int .i64 999] 2)).alloc (.cells #[.int .i64 1099511627776, .int .i64 99, .int .i64 400] 2)).heap[w.heap.size + 1 + 1]? = some (.cells #[.int .i64 1099511627776, .int .i64 99, .int .i64 400] 2 (0, 0)) := heap_alloc_at _ _ (by simp)
  have m2 := blk_alloc m2 (.cells #[.int .i64 1099511627776, .int .i64 1099511627776] 2)
  have m2 := blk_alloc m2 (.cells #[.int .i64 1099511627776] 2)
  have m2 := blk_alloc m2 (.cells #[.int .i64 1099511627776] 2)
  have m2 := blk_alloc m2 (.cells #[.int .i64 60] 2)
  have m3 : ((((w.alloc (.cells #[.int .i64 100000] 2)).alloc (.cells #[.int .i64 999] 2)).alloc (.cells #[.int .i64 1099511627776, .int .i64 99, .int .i64 400] 2)).alloc (.cells #[.int .i64 1099511627776, .int .i64 1099511627776] 2)).heap[w.heap.size + 1 + 1 + 1]? = some (.cells #[.int .i64 1099511627776, .int .i64 1099511627776] 2 (0, 0)) := heap_alloc_at _ _ (by simp)
  have m3 := blk_alloc m3 (.cells #[.int .i64 1099511627776] 2)
  have m3 := blk_alloc m3 (.cells #[.int .i64 1099511627776] 2)
  have m3 := blk_alloc m3 (.cells #[.int .i64 60] 2)
  have m4 : (((((w.alloc (.cells #[.int .i64 100000] 2)).alloc (.cells #[.int .i64 999] 2)).alloc (.cells #[.int .i64 1099511627776, .int .i64 99, .int .i64 400] 2)).alloc (.cells #[.int .i64 1099511627776, .int .i64 1099511627776] 2)).alloc (.cells #[.int .i64 1099511627776] 2)).heap[w.heap.size + 1 + 1 + 1 + 1]? = some (.cells #[.int .i64 1099511627776] 2 (0, 0)) := heap_alloc_at _ _ (by simp)
  have m4 := blk_alloc m4 (.cells #[.int .i64 1099511627776] 2)
  have m4 := blk_alloc m4 (.cells #[.int .i64 60] 2)
  have m5 : ((((((w.alloc (.cells #[.int .i64 100000] 2)).alloc (.cells #[.int .i64 999] 2)).alloc (.cells #[.int .i64 1099511627776, .int .i64 99, .int .i64 400] 2)).alloc (.cells #[.int .i64 1099511627776, .int .i64 1099511627776] 2)).alloc (.cells #[.int .i64 1099511627776] 2)).alloc (.cells #[.int .i64 1099511627776] 2)).heap[w.heap.size + 1 + 1 + 1 + 1 + 1]? = some (.cells #[.int .i64 1099511627776] 2 (0, 0)) := heap_alloc_at _ _ (by simp)
  have m5 := blk_alloc m5 (.cells #[.int .i64 60] 2)
  have m6 : (((((((w.alloc (.cells #[.int .i64 100000] 2)).alloc (.cells #[.int .i64 999] 2)).alloc (.cells #[.int .i64 1099511627776, .int .i64 99, .int .i64 400] 2)).alloc (.cells #[.int .i64 1099511627776, .int .i64 1099511627776] 2)).alloc (.cells #[.int .i64 1099511627776] 2)).alloc (.cells #[.int .i64 1099511627776] 2)).alloc (.cells #[.int .i64 60] 2)).heap[w.heap.size + 1 + 1 + 1 + 1 + 1 + 1]? = some (.cells #[.int .i64 60] 2 (0, 0)) := heap_alloc_at _ _ (by simp)
  have hB : Below w.heap.size w (((((((w.alloc (.cells #[.int .i64 100000] 2)).alloc (.cells #[.int .i64 999] 2)).alloc (.cells #[.int .i64 1099511627776, .int .i64 99, .int .i64 400] 2)).alloc (.cells #[.int .i64 1099511627776, .int .i64 1099511627776] 2)).alloc (.cells #[.int .i64 1099511627776] 2)).alloc (.cells #[.int .i64 1099511627776] 2)).alloc (.cells #[.int .i64 60] 2)) := below_alloc' (below_alloc' (below_alloc' (below_alloc' (below_alloc' (below_alloc' (below_alloc' (Below.refl _ _) _) _) _) _) _) _) _
  have hs : (((((((w.alloc (.cells #[.int .i64 100000] 2)).alloc (.cells #[.int .i64 999] 2)).alloc (.cells #[.int .i64 1099511627776, .int .i64 99, .int .i64 400] 2)).alloc (.cells #[.int .i64 1099511627776, .int .i64 1099511627776] 2)).alloc (.cells #[.int .i64 1099511627776] 2)).alloc (.cells #[.int .i64 1099511627776] 2)).alloc (.cells #[.int .i64 60] 2)).heap.size = w.heap.size + 1 + 1 + 1 + 1 + 1 + 1 + 1 := by simp
  generalize (((((((w.alloc (.cells #[.int .i64 100000] 2)).alloc (.cells #[.int .i64 999] 2)).alloc (.cells #[.int .i64 1099511627776, .int .i64 99, .int .i64 400] 2)).alloc (.cells #[.int .i64 1099511627776, .int .i64 1099511627776] 2)).alloc (.cells #[.int .i64 1099511627776] 2)).alloc (.cells #[.int .i64 1099511627776] 2)).alloc (.cells #[.int .i64 60] 2)) = W at *
  have hG : (W.alloc (.cells #[.int .i64 1, .string ⟨#[100, 97, 121]⟩, .slice (some ⟨w.heap.size, 0, none⟩) 1 1, .int .i64 2, .string ⟨#[98, 111, 120]⟩, .slice (some ⟨w.heap.size + 1, 0, none⟩) 1 1, .int .i64 3, .string ⟨#[115, 105, 110, 103]⟩, .slice (some ⟨w.heap.size + 1 + 1, 0, none⟩) 3 3, .int .i64 4, .string ⟨#[99, 111, 112, 121]⟩, .slice (some ⟨w.heap.size + 1 + 1 + 1, 0, none⟩) 2 2, .int .i64 5, .string ⟨#[99, 114, 97, 99, 107]⟩, .slice (some ⟨w.heap.size + 1 + 1 + 1 + 1, 0, none⟩) 1 1, .int .i64 6, .string ⟨#[109, 111, 118, 101]⟩, .slice (some ⟨w.heap.size + 1 + 1 + 1 + 1 + 1, 0, none⟩) 1 1, .int .i64 7, .string ⟨#[115, 116, 114, 105, 107, 101]⟩, .slice (some ⟨w.heap.size + 1 + 1 + 1 + 1 + 1 + 1, 0, none⟩) 1 1] 93)).heap[w.heap.size + 1 + 1 + 1 + 1 + 1 + 1 + 1]? = some (.cells #[.int .i64 1, .string ⟨#[100, 97, 121]⟩, .slice (some ⟨w.heap.size, 0, none⟩) 1 1, .int .i64 2, .string ⟨#[98, 111, 120]⟩, .slice (some ⟨w.heap.size + 1, 0, none⟩) 1 1, .int .i64 3, .string ⟨#[115, 105, 110, 103]⟩, .slice (some ⟨w.heap.size + 1 + 1, 0, none⟩) 3 3, .int .i64 4, .string ⟨#[99, 111, 112, 121]⟩, .slice (some ⟨w.heap.size + 1 + 1 + 1, 0, none⟩) 2 2, .int .i64 5, .string ⟨#[99, 114, 97, 99, 107]⟩, .slice (some ⟨w.heap.size + 1 + 1 + 1 + 1, 0, none⟩) 1 1, .int .i64 6, .string ⟨#[109, 111, 118, 101]⟩, .slice (some ⟨w.heap.size + 1 + 1 + 1 + 1 + 1, 0, none⟩) 1 1, .int .i64 7, .string ⟨#[115, 116, 114, 105, 107, 101]⟩, .slice (some ⟨w.heap.size + 1 + 1 + 1 + 1 + 1 + 1, 0, none⟩) 1 1] 93 (0, 0)) := heap_alloc_at _ _ (by omega)
  have m0 := blk_alloc m0 (.cells #[.int .i64 1, .string ⟨#[100, 97, 121]⟩, .slice (some ⟨w.heap.size, 0, none⟩) 1 1, .int .i64 2, .string ⟨#[98, 111, 120]⟩, .slice (some ⟨w.heap.size + 1, 0, none⟩) 1 1, .int .i64 3, .string ⟨#[115, 105, 110, 103]⟩, .slice (some ⟨w.heap.size + 1 + 1, 0, none⟩) 3 3, .int .i64 4, .string ⟨#[99, 111, 112, 121]⟩, .slice (some ⟨w.heap.size + 1 + 1 + 1, 0, none⟩) 2 2, .int .i64 5, .string ⟨#[99, 114, 97, 99, 107]⟩, .slice (some ⟨w.heap.size + 1 + 1 + 1 + 1, 0, none⟩) 1 1, .int .i64 6, .string ⟨#[109, 111, 118, 101]⟩, .slice (some ⟨w.heap.size + 1 + 1 + 1 + 1 + 1, 0, none⟩) 1 1, .int .i64 7, .string ⟨#[115, 116, 114, 105, 107, 101]⟩, .slice (some ⟨w.heap.size + 1 + 1 + 1 + 1 + 1 + 1, 0, none⟩) 1 1] 93)
  have m1 := blk_alloc m1 (.cells #[.int .i64 1, .string ⟨#[100, 97, 121]⟩, .slice (some ⟨w.heap.size, 0, none⟩) 1 1, .int .i64 2, .string ⟨#[98, 111, 120]⟩, .slice (some ⟨w.heap.size + 1, 0, none⟩) 1 1, .int .i64 3, .string ⟨#[115, 105, 110, 103]⟩, .slice (some ⟨w.heap.size + 1 + 1, 0, none⟩) 3 3, .int .i64 4, .string ⟨#[99, 111, 112, 121]⟩, .slice (some ⟨w.heap.size + 1 + 1 + 1, 0, none⟩) 2 2, .int .i64 5, .string ⟨#[99, 114, 97, 99, 107]⟩, .slice (some ⟨w.heap.size + 1 + 1 + 1 + 1, 0, none⟩) 1 1, .int .i64 6, .string ⟨#[109, 111, 118, 101]⟩, .slice (some ⟨w.heap.size + 1 + 1 + 1 + 1 + 1, 0, none⟩) 1 1, .int .i64 7, .string ⟨#[115, 116, 114, 105, 107, 101]⟩, .slice (some ⟨w.heap.size + 1 + 1 + 1 + 1 + 1 + 1, 0, none⟩) 1 1] 93)
  have m2 := blk_alloc m2 (.cells #[.int .i64 1, .string ⟨#[100, 97, 121]⟩, .slice (some ⟨w.heap.size, 0, none⟩) 1 1, .int .i64 2, .string ⟨#[98, 111, 120]⟩, .slice (some ⟨w.heap.size + 1, 0, none⟩) 1 1, .int .i64 3, .string ⟨#[115, 105, 110, 103]⟩, .slice (some ⟨w.heap.size + 1 + 1, 0, none⟩) 3 3, .int .i64 4, .string ⟨#[99, 111, 112, 121]⟩, .slice (some ⟨w.heap.size + 1 + 1 + 1, 0, none⟩) 2 2, .int .i64 5, .string ⟨#[99, 114, 97, 99, 107]⟩, .slice (some ⟨w.heap.size + 1 + 1 + 1 + 1, 0, none⟩) 1 1, .int .i64 6, .string ⟨#[109, 111, 118, 101]⟩, .slice (some ⟨w.heap.size + 1 + 1 + 1 + 1 + 1, 0, none⟩) 1 1, .int .i64 7, .string ⟨#[115, 116, 114, 105, 107, 101]⟩, .slice (some ⟨w.heap.size + 1 + 1 + 1 + 1 + 1 + 1, 0, none⟩) 1 1] 93)
  have m3 := blk_alloc m3 (.cells #[.int .i64 1, .string ⟨#[100, 97, 121]⟩, .slice (some ⟨w.heap.size, 0, none⟩) 1 1, .int .i64 2, .string ⟨#[98, 111, 120]⟩, .slice (some ⟨w.heap.size + 1, 0, none⟩) 1 1, .int .i64 3, .string ⟨#[115, 105, 110, 103]⟩, .slice (some ⟨w.heap.size + 1 + 1, 0, none⟩) 3 3, .int .i64 4, .string ⟨#[99, 111, 112, 121]⟩, .slice (some ⟨w.heap.size + 1 + 1 + 1, 0, none⟩) 2 2, .int .i64 5, .string ⟨#[99, 114, 97, 99, 107]⟩, .slice (some ⟨w.heap.size + 1 + 1 + 1 + 1, 0, none⟩) 1 1, .int .i64 6, .string ⟨#[109, 111, 118, 101]⟩, .slice (some ⟨w.heap.size + 1 + 1 + 1 + 1 + 1, 0, none⟩) 1 1, .int .i64 7, .string ⟨#[115, 116, 114, 105, 107, 101]⟩, .slice (some ⟨w.heap.size + 1 + 1 + 1 + 1 + 1 + 1, 0, none⟩) 1 1] 93)
  have m4 := blk_alloc m4 (.cells #[.int .i64 1, .string ⟨#[100, 97, 121]⟩, .slice (some ⟨w.heap.size, 0, none⟩) 1 1, .int .i64 2, .string ⟨#[98, 111, 120]⟩, .slice (some ⟨w.heap.size + 1, 0, none⟩) 1 1, .int .i64 3, .string ⟨#[115, 105, 110, 103]⟩, .slice (some ⟨w.heap.size + 1 + 1, 0, none⟩) 3 3, .int .i64 4, .string ⟨#[99, 111, 112, 121]⟩, .slice (some ⟨w.heap.size + 1 + 1 + 1, 0, none⟩) 2 2, .int .i64 5, .string ⟨#[99, 114, 97, 99, 107]⟩, .slice (some ⟨w.heap.size + 1 + 1 + 1 + 1, 0, none⟩) 1 1, .int .i64 6, .string ⟨#[109, 111, 118, 101]⟩, .slice (some ⟨w.heap.size + 1 + 1 + 1 + 1 + 1, 0, none⟩) 1 1, .int .i64 7, .string ⟨#[115, 116, 114, 105, 107, 101]⟩, .slice (some ⟨w.heap.size + 1 + 1 + 1 + 1 + 1 + 1, 0, none⟩) 1 1] 93)
  have m5 := blk_alloc m5 (.cells #[.int .i64 1, .string ⟨#[100, 97, 121]⟩, .slice (some ⟨w.heap.size, 0, none⟩) 1 1, .int .i64 2, .string ⟨#[98, 111, 120]⟩, .slice (some ⟨w.heap.size + 1, 0, none⟩) 1 1, .int .i64 3, .string ⟨#[115, 105, 110, 103]⟩, .slice (some ⟨w.heap.size + 1 + 1, 0, none⟩) 3 3, .int .i64 4, .string ⟨#[99, 111, 112, 121]⟩, .slice (some ⟨w.heap.size + 1 + 1 + 1, 0, none⟩) 2 2, .int .i64 5, .string ⟨#[99, 114, 97, 99, 107]⟩, .slice (some ⟨w.heap.size + 1 + 1 + 1 + 1, 0, none⟩) 1 1, .int .i64 6, .string ⟨#[109, 111, 118, 101]⟩, .slice (some ⟨w.heap.size + 1 + 1 + 1 + 1 + 1, 0, none⟩) 1 1, .int .i64 7, .string ⟨#[115, 116, 114, 105, 107, 101]⟩, .slice (some ⟨w.heap.size + 1 + 1 + 1 + 1 + 1 + 1, 0, none⟩) 1 1] 93)
  have m6 := blk_alloc m6 (.cells #[.int .i64 1, .string ⟨#[100, 97, 121]⟩, .slice (some ⟨w.heap.size, 0, none⟩) 1 1, .int .i64 2, .string ⟨#[98, 111, 120]⟩, .slice (some ⟨w.heap.size + 1, 0, none⟩) 1 1, .int .i64 3, .string ⟨#[115, 105, 110, 103]⟩, .slice (some ⟨w.heap.size + 1 + 1, 0, none⟩) 3 3, .int .i64 4, .string ⟨#[99, 111, 112, 121]⟩, .slice (some ⟨w.heap.size + 1 + 1 + 1, 0, none⟩) 2 2, .int .i64 5, .string ⟨#[99, 114, 97, 99, 107]⟩, .slice (some ⟨w.heap.size + 1 + 1 + 1 + 1, 0, none⟩) 1 1, .int .i64 6, .string ⟨#[109, 111, 118, 101]⟩, .slice (some ⟨w.heap.size + 1 + 1 + 1 + 1 + 1, 0, none⟩) 1 1, .int .i64 7, .string ⟨#[115, 116, 114, 105, 107, 101]⟩, .slice (some ⟨w.heap.size + 1 + 1 + 1 + 1 + 1 + 1, 0, none⟩) 1 1] 93)
  have hB := below_alloc' hB (.cells #[.int .i64 1, .string ⟨#[100, 97, 121]⟩, .slice (some ⟨w.heap.size, 0, none⟩) 1 1, .int .i64 2, .string ⟨#[98, 111, 120]⟩, .slice (some ⟨w.heap.size + 1, 0, none⟩) 1 1, .int .i64 3, .string ⟨#[115, 105, 110, 103]⟩, .slice (some ⟨w.heap.size + 1 + 1, 0, none⟩) 3 3, .int .i64 4, .string ⟨#[99, 111, 112, 121]⟩, .slice (some ⟨w.heap.size + 1 + 1 + 1, 0, none⟩) 2 2, .int .i64 5, .string ⟨#[99, 114, 97, 99, 107]⟩, .slice (some ⟨w.heap.size + 1 + 1 + 1 + 1, 0, none⟩) 1 1, .int .i64 6, .string ⟨#[109, 111, 118, 101]⟩, .slice (some ⟨w.heap.size + 1 + 1 + 1 + 1 + 1, 0, none⟩) 1 1, .int .i64 7, .string ⟨#[115, 116, 114, 105, 107, 101]⟩, .slice (some ⟨w.heap.size + 1 + 1 + 1 + 1 + 1 + 1, 0, none⟩) 1 1] 93)
  generalize W.alloc (.cells #[.int .i64 1, .string ⟨#[100, 97, 121]⟩, .slice (some ⟨w.heap.size, 0, none⟩) 1 1, .int .i64 2, .string ⟨#[98, 111, 120]⟩, .slice (some ⟨w.heap.size + 1, 0, none⟩) 1 1, .int .i64 3, .string ⟨#[115, 105, 110, 103]⟩, .slice (some ⟨w.heap.size + 1 + 1, 0, none⟩) 3 3, .int .i64 4, .string ⟨#[99, 111, 112, 121]⟩, .slice (some ⟨w.heap.size + 1 + 1 + 1, 0, none⟩) 2 2, .int .i64 5, .string ⟨#[99, 114, 97, 99, 107]⟩, .slice (some ⟨w.heap.size + 1 + 1 + 1 + 1, 0, none⟩) 1 1, .int .i64 6, .string ⟨#[109, 111, 118, 101]⟩, .slice (some ⟨w.heap.size + 1 + 1 + 1 + 1 + 1, 0, none⟩) 1 1, .int .i64 7, .string ⟨#[115, 116, 114, 105, 107, 101]⟩, .slice (some ⟨w.heap.size + 1 + 1 + 1 + 1 + 1 + 1, 0, none⟩) 1 1] 93) = V at *
  go_ret
  refine Ret.mk ⟨⟨w.heap.size + 1 + 1 + 1 + 1 + 1 + 1 + 1, rfl, by omega, fun i hi => ?_⟩, hB⟩
  have hc : i = 0 ∨ i = 1 ∨ i = 2 ∨ i = 3 ∨ i = 4 ∨ i = 5 ∨ i = 6 := by omega
  rcases hc with rfl | rfl | rfl | rfl | rfl | rfl | rfl
  · exact ⟨_, _, _, kindAt_of hG m0 rfl rfl rfl rfl rfl⟩
  · exact ⟨_, _, _, kindAt_of hG m1 rfl rfl rfl rfl rfl⟩
  · exact ⟨_, _, _, kindAt_of hG m2 rfl rfl rfl rfl rfl⟩
  · exact ⟨_, _, _, kindAt_of hG m3 rfl rfl rfl rfl rfl⟩
  · exact ⟨_, _, _, kindAt_of hG m4 rfl rfl rfl rfl rfl⟩
  · exact ⟨_, _, _, kindAt_of hG m5 rfl rfl rfl rfl rfl⟩
  · exact ⟨_, _, _, kindAt_of hG m6 rfl rfl rfl rfl rfl⟩
theorem KindsAt.at_ {W : World} {g : Nat} (h : KindsAt W g) {i : Nat} (hi : i < 7) : ∃ w ms mb, shapeL ((i : Int) + 1) = some (w, ms) ∧ W.cell? ⟨g, i * 3, none⟩ = some (.int .i64 ((i : Int) + 1)) ∧ W.cell? ⟨g, i * 3 + 1, none⟩ = some (.string (bs w)) ∧ W.cell? ⟨g, i * 3 + 2, none⟩ = some (.slice (some ⟨mb, 0, none⟩) ms.length ms.length) := by
  obtain ⟨w, ms, mb, k⟩ := h i hi
  exact ⟨w, ms, mb, k.shape, k.c0, k.c1, k.c2⟩
/-- the first kind of which a question says yes -/
def FirstQ (p : Nat → Bool) (v : Value) : Prop := (∃ i : Nat, i < 7 ∧ v = .int .i64 i ∧ p i = true ∧ ∀ j, j < i → p j = false) ∨ (v = .int .i64 (-1) ∧ ∀ j, j < 7 → p j = false)
/-- a question to a kind -/
def AsksK (gf : Nat) (lb : Array Value) (p : Nat → Bool) (w : World) : Prop := ∀ (W : World) (i : Nat) (wd : List UInt8) (ms : List Nat) (mb : Nat), Below w.heap.size w W → i < 7 → shapeL ((i : Int) + 1) = some (wd, ms) →
  Calls Tryz.prog gf (#[vKind ((i : Int) + 1) wd mb ms.length] ++ lb) W (Ret fun v w' => v = .bool (p i) ∧ Below W.heap.size W w')
set_option maxRecDepth 100000 in
set_option maxHeartbeats 1000000 in
theorem first_any (g gf : Nat) (lb : Array Value) (eg : ∀ args w, (callFunc gf args).run Tryz.prog w = .ok (.enter gf args) w) (p : Nat → Bool) (w : World) (hk : KindsAt w g) (ha : AsksK gf lb p w) :
    Calls Tryz.prog 64 #[.slice (some ⟨g, 0, none⟩) 7 7, .func (.func gf) #[] lb] w (Ret fun v w' => FirstQ p v ∧ Below w.heap.size w w') := by
  have HK := Lib.hid hk; clear hk
  have HA := Lib.hid ha; clear ha
  go_enter Tryz.func64, Tryz.ntmps64
  go_wp2
  go_loopw [9] (fun i wr => ∃ k : Nat, k ≤ 7 ∧ i = .int .i64 k ∧ Hid (∀ j, j < k → p j = false) ∧ Hid (Below w.heap.size w wr)) (fun i _ => 7 - (intOf i).toNat)
  case atStart => exact ⟨0, by omega, rfl, Lib.hid (fun j hj => absurd hj (by omega)), Lib.hid (Below.refl _ _)⟩
  case round =>
    obtain ⟨k, hk, rfl, HP, HB⟩ := hrel
    by_cases hlt : k < 7
    · obtain ⟨wd, ms, mb, hs, c0, c1, c2⟩ := (HK.out.below HB.out).at_ hlt
      have hA := HA.out (wr.alloc (.cells #[.int .i64 ((k : Int) + 1), .string (bs wd), .slice (some ⟨mb, 0, none⟩) ms.length ms.length] 93)) k wd ms mb (below_alloc' HB.out _) hlt hs
      unfold vKind at hA
      have hX := heap_alloc_new wr (.cells #[.int .i64 ((k : Int) + 1), .string (bs wd), .slice (some ⟨mb, 0, none⟩) ms.length ms.length] 93)
      have n0 := (blk_cell (i := 0) hX).trans rfl
      have n1 := (blk_cell (i := 1) hX).trans rfl
      have n2 := (blk_cell (i := 2) hX).trans rfl
      have t1 : decide ((k : Int) < 7) = true := by simp; omega
      have HAc := Lib.hid hA
      clear hs hX hA
      go_wp2_with fail
      refine HAc.out.mono ?_
      rintro _ w2 ⟨v, rfl, rfl, hB2⟩
      have HB2 := Lib.hid (below_alloc_of HB.out hB2)
      clear hB2
      cases hp : p k with
      | true =>
        have HQ : Hid (FirstQ p (.int .i64 (k : Nat))) := Lib.hid (.inl ⟨k, hlt, rfl, hp, HP.out⟩)
        clear hp
        go_wp2
        go_ret
        exact Ret.mk ⟨HQ.out, HB2.out⟩
      | false =>
        have HN : Hid (∀ j, j < k + 1 → p j = false) := Lib.hid fun j hj => by
          by_cases e : j = k
          · rw [e]; exact hp
          · exact HP.out j (by omega)
        clear hp
        go_wp2
        go_roundw
        case rel => exact ⟨k + 1, by omega, by go_num, HN, HB2⟩
        case measure => simp [intOf]; omega
    · obtain rfl : k = 7 := by omega
      go_wp2
      go_ret
      exact Ret.mk ⟨.inr ⟨rfl, HP.out⟩, HB.out⟩
end Go.Proofs.YtkpmmgeffbhngaaGreatDoor
