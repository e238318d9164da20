/- What the laws of the chapter rest on, part 15. -/
import Derived.Test.YtkpmmgeffbhngaaGreatDoorC14
set_option linter.unusedSimpArgs false
set_option linter.unusedVariables false
set_option linter.unnecessarySimpa false
namespace Prot
end Prot
namespace Go.Shelf
end Go.Shelf
namespace Go.Maps
end Go.Maps
namespace Go.Proofs.YtkpmmgeffbhngaaGreatDoor
open Go.RowKit Go.Shelf Prot Go.Lib Go.Maps
theorem zero161 : Tryz.zeroCells161 = #[.int .i64 0, .int .i64 0, .map none] ++ Array.replicate 1000 (.int .i64 0) := by kernel_rfl
/-- a journey's block: the day, the open box, the map, and how many cylinders each box has -/
structure JBox (W : World) (jb mb : Nat) (day opn : Int) (sh : Nat → Int) : Prop where
  blk : ∃ cs, W.heap[jb]? = some (.cells cs 161 (0, 0)) ∧ cs.size = 1003
  day : W.cell? ⟨jb, 0, none⟩ = some (.int .i64 day)
  opn : W.cell? ⟨jb, 1, none⟩ = some (.int .i64 opn)
  map : W.cell? ⟨jb, 2, none⟩ = some (.map (some mb))
  sh : ∀ b, b < 1000 → W.cell? ⟨jb, 3 + b, none⟩ = some (.int .i64 (sh b))
section
variable {W W' : World} {jb mb : Nat} {day opn : Int} {sh : Nat → Int}
theorem JBox.lt (h : JBox W jb mb day opn sh) : jb < W.heap.size := by obtain ⟨cs, h, _⟩ := h.blk; exact blk_lt h
theorem JBox.frozen (h : JBox W jb mb day opn sh) (i : Nat) : W.frozen? ⟨jb, i, none⟩ = false := by obtain ⟨cs, h, _⟩ := h.blk; exact blk_frozen h
theorem JBox.same (h : JBox W jb mb day opn sh) (e : W'.heap[jb]? = W.heap[jb]?) : JBox W' jb mb day opn sh := by
  have ec : ∀ i, W'.cell? ⟨jb, i, none⟩ = W.cell? ⟨jb, i, none⟩ := fun i => World.cell?_of_block (a := ⟨jb, i, none⟩) e
  obtain ⟨⟨cs, h1, h2⟩, h3, h4, h5, h6⟩ := h
  exact ⟨⟨cs, e.trans h1, h2⟩, (ec 0).trans h3, (ec 1).trans h4, (ec 2).trans h5, fun b hb => (ec _).trans (h6 b hb)⟩
theorem JBox.below (h : JBox W jb mb day opn sh) (hb : Below W.heap.size W W') : JBox W' jb mb day opn sh := h.same (hb.block _ h.lt)
theorem JBox.drewN (h : JBox W jb mb day opn sh) (q : Nat) : JBox (W.drewN q) jb mb day opn sh := h.same rfl
theorem JBox.alloc (h : JBox W jb mb day opn sh) (o : Obj) : JBox (W.alloc o) jb mb day opn sh := h.below (below_alloc' (Below.refl _ _) o)
theorem jblk_set (h : ∃ cs, W.heap[jb]? = some (.cells cs 161 (0, 0)) ∧ cs.size = 1003) (i : Nat) (v : Value) : ∃ cs, (W.setCell ⟨jb, i, none⟩ v).heap[jb]? = some (.cells cs 161 (0, 0)) ∧ cs.size = 1003 := by
  obtain ⟨cs, h1, h2⟩ := h
  exact ⟨_, blk_set h1 (i := i) v, by simp [h2]⟩
theorem jcell_set (h : ∃ cs, W.heap[jb]? = some (.cells cs 161 (0, 0)) ∧ cs.size = 1003) (i : Nat) (hi : i < 1003) (v : Value) : (W.setCell ⟨jb, i, none⟩ v).cell? ⟨jb, i, none⟩ = some v := by
  obtain ⟨cs, h1, h2⟩ := h
  rw [blk_cell (blk_set h1 (i := i) v), Array.getElem?_setIfInBounds, if_pos rfl, if_pos (by omega)]
theorem jcell_ne {i k : Nat} (h : i ≠ k) : (⟨jb, i, none⟩ : Addr) ≠ ⟨jb, k, none⟩ := fun e => h (by injection e)
theorem JBox.setDay (h : JBox W jb mb day opn sh) (d : Int) : JBox (W.setCell ⟨jb, 0, none⟩ (.int .i64 d)) jb mb d opn sh :=
  ⟨jblk_set h.blk 0 _, jcell_set h.blk 0 (by omega) _, cell_far h.opn (jcell_ne (by omega)), cell_far h.map (jcell_ne (by omega)), fun b hb => cell_far (h.sh b hb) (jcell_ne (by omega))⟩
theorem JBox.setOpn (h : JBox W jb mb day opn sh) (d : Int) : JBox (W.setCell ⟨jb, 1, none⟩ (.int .i64 d)) jb mb day d sh :=
  ⟨jblk_set h.blk 1 _, cell_far h.day (jcell_ne (by omega)), jcell_set h.blk 1 (by omega) _, cell_far h.map (jcell_ne (by omega)), fun b hb => cell_far (h.sh b hb) (jcell_ne (by omega))⟩
theorem JBox.setSh (h : JBox W jb mb day opn sh) {b : Nat} (hb : b < 1000) (d : Int) : JBox (W.setCell ⟨jb, 3 + b, none⟩ (.int .i64 d)) jb mb day opn (fun k => if k = b then d else sh k) :=
  ⟨jblk_set h.blk _ _, cell_far h.day (jcell_ne (by omega)), cell_far h.opn (jcell_ne (by omega)), cell_far h.map (jcell_ne (by omega)), fun k hk => by
    by_cases e : k = b
    · subst e; rw [if_pos rfl]; exact jcell_set h.blk _ (by omega) _
    · rw [if_neg e]; exact cell_far (h.sh k hk) (jcell_ne (by omega))⟩
end
theorem jbox_of (W : World) (jb mb : Nat) (A : Array Value) (hs : A.size = 1000) (hz : ∀ b, b < 1000 → A[b]? = some (Value.int .i64 0)) (h : W.heap[jb]? = some (.cells ((#[Value.int .i64 0, .int .i64 0, .map none] ++ A).setIfInBounds 2 (.map (some mb))) 161 (0, 0))) : JBox W jb mb 0 0 (fun _ => 0) := by
  have e : ∀ i, W.cell? ⟨jb, i, none⟩ = ((#[Value.int .i64 0, .int .i64 0, .map none] ++ A).setIfInBounds 2 (.map (some mb)))[i]? := fun i => blk_cell h
  refine ⟨⟨_, h, by simp [hs]⟩, ?_, ?_, ?_, fun b hb => ?_⟩
  · rw [e, Array.getElem?_setIfInBounds, if_neg (by omega), Array.getElem?_append_left (by show 0 < 3; omega)]; rfl
  · rw [e, Array.getElem?_setIfInBounds, if_neg (by omega), Array.getElem?_append_left (by show 1 < 3; omega)]; rfl
  · rw [e, Array.getElem?_setIfInBounds, if_pos rfl, if_pos (by rw [Array.size_append, hs]; show 2 < 3 + 1000; omega)]
  · rw [e, Array.getElem?_setIfInBounds, if_neg (by omega), Array.getElem?_append_right (by show 3 ≤ _; omega)]
    rw [← hz b hb]
    congr 1
    show 3 + b - 3 = b
    omega
theorem jbox_new (W : World) (jb mb : Nat) (h : W.heap[jb]? = some (.cells (Tryz.zeroCells161.setIfInBounds 2 (.map (some mb))) 161 (0, 0))) : JBox W jb mb 0 0 (fun _ => 0) := by
  rw [zero161] at h
  exact jbox_of W jb mb (Array.replicate 1000 (Value.int .i64 0)) Array.size_replicate (fun b hb => by rw [Array.getElem?_replicate, if_pos hb]) h
set_option maxRecDepth 1000000 in
set_option maxHeartbeats 4000000 in
theorem begin_any (w : World) : Calls Tryz.prog 105 #[] w (Ret fun v w' => v = .pointer (some ⟨w.heap.size + 1, 0, none⟩) ∧ w' = (w.alloc (.map #[] 0)).alloc (.cells (Tryz.zeroCells161.setIfInBounds 2 (.map (some w.heap.size))) 161)) := by
  have hmk := run_makeMap (P := Tryz.prog) 157 w
  go_enter Tryz.func105, Tryz.ntmps105
  go_wp2
  go_ret
  exact Ret.mk ⟨rfl, rfl⟩
end Go.Proofs.YtkpmmgeffbhngaaGreatDoor
