/- What the laws of the chapter rest on, part 29. -/
import Derived.Test.YtkpmmgeffbhngaaGreatDoorC18
set_option linter.unusedSimpArgs false
set_option linter.unusedVariables false
set_option linter.unnecessarySimpa false
namespace Prot
end Prot
namespace Go.Shelf
end Go.Shelf
namespace Go.Maps
end Go.Maps
namespace Go.Proofs.YtkpmmgeffbhngaaGreatDoor
open Go.RowKit Go.Shelf Prot Go.Lib Go.Maps
set_option maxRecDepth 100000 in
set_option maxHeartbeats 2000000 in
theorem doBox_any (jb mb n : Nat) (j : Jn) (x y z : Int) (w : World) (hj : JAt w jb mb n j) (hbo : j.opn ≠ 0 → j.day ≠ 0) (h1 : -9223372036854775808 ≤ x) (h2 : x ≤ 9223372036854775807) :
    Calls Tryz.prog 107 #[.pointer (some ⟨jb, 0, none⟩), .agg #[.int .i64 2, .int .i64 x, .int .i64 y, .int .i64 z]] w (Ret fun v w' => v = .int .i64 (doV j (2, x, y, z)).2 ∧ JAt w' jb mb n (doV j (2, x, y, z)).1 ∧ KeepC w.heap.size jb mb w w') := by
  have hB := below_alloc' (Below.refl w.heap.size w) (.cells #[.int .i64 2, .int .i64 x, .int .i64 y, .int .i64 z] 36)
  have hX := heap_alloc_new w (.cells #[.int .i64 2, .int .i64 x, .int .i64 y, .int .i64 z] 36)
  have HX := Lib.hid hX
  have HB := Lib.hid hB
  have HJ1 := Lib.hid (hj.below hB)
  clear hX hB hj
  go_enter Tryz.func107, Tryz.ntmps107
  go_upto_region 1 with fail
  generalize w.alloc (.cells #[.int .i64 2, .int .i64 x, .int .i64 y, .int .i64 z] 36) = w1 at *
  have hlk := HJ1.out.map.lookA h1 h2 w1.drew rfl
  have hml := HJ1.out.map.lt
  have hlk2 := fun o => HJ1.out.map.lookA h1 h2 ((w1.alloc o).drew) (Below.heap_alloc w1 o mb hml)
  obtain ⟨xi, hxi⟩ : ∃ xi, (findI j.items x).getD noIt = xi := ⟨_, rfl⟩
  rw [hxi] at hlk hlk2
  obtain ⟨a1, a2, a3, a4, a5, a6, a7⟩ := xi
  unfold vItem at hlk hlk2
  generalize (findI j.items x).isSome = ok at *
  dsimp only at hlk hlk2
  have y2 := HJ1.out.box.map
  have n1 := (blk_cell (i := 1) HX.out).trans rfl
  clear hxi
  go_region_held3 (fun W => W.cell? ⟨jb, 2, none⟩ = some (.map (some mb)) ∧ W.cell? ⟨w.heap.size, 1, none⟩ = some (.int .i64 x)) (first | exact ⟨y2, n1⟩ | exact ⟨cell_alloc y2 _, cell_alloc n1 _⟩) (fail)
  all_goals
    have hb2 := below_alloc' (Below.refl w1.heap.size w1) (.cells #[.int .i64 a1, .int .i64 a2, .int .i64 a3, .int .i64 a4, .int .i64 a5, .int .i64 a6, .bool a7] 67)
    have HJ2 : Hid (JAt ((w1.alloc (.cells #[.int .i64 a1, .int .i64 a2, .int .i64 a3, .int .i64 a4, .int .i64 a5, .int .i64 a6, .bool a7] 67)).drew) jb mb n j) := Lib.hid (HJ1.out.below hb2.drew)
    have HX2 : Hid (((w1.alloc (.cells #[.int .i64 a1, .int .i64 a2, .int .i64 a3, .int .i64 a4, .int .i64 a5, .int .i64 a6, .bool a7] 67)).drew).heap[w.heap.size]? = some (.cells #[.int .i64 2, .int .i64 x, .int .i64 y, .int .i64 z] 36 (0, 0))) := Lib.hid (blk_alloc HX.out _)
    have HB2 : Hid (Below w.heap.size w ((w1.alloc (.cells #[.int .i64 a1, .int .i64 a2, .int .i64 a3, .int .i64 a4, .int .i64 a5, .int .i64 a6, .bool a7] 67)).drew)) := Lib.hid (below_alloc' HB.out _).drew
    clear hb2 hlk hlk2 y2 n1
    generalize (w1.alloc (.cells #[.int .i64 a1, .int .i64 a2, .int .i64 a3, .int .i64 a4, .int .i64 a5, .int .i64 a6, .bool a7] 67)).drew = w2 at *
    have l0 := (blk_cell (i := 0) HX2.out).trans rfl
    have l1 := (blk_cell (i := 1) HX2.out).trans rfl
    have d0 := HJ2.out.box.day
    have d1 := HJ2.out.box.opn
    have f1 := HJ2.out.box.frozen 1
    have hkc := KeepC.of_below (x := jb) (y := mb) HB2.out (Nat.le_refl _)
    have HK := Lib.hid hkc
    clear hkc
    by_cases hd : j.day = 0
    · have hop : j.opn = 0 := by
        by_cases e : j.opn = 0
        · exact e
        · exact absurd hd (hbo e)
      have HV : Hid (doV j (2, x, y, z) = (j, 9)) := Lib.hid (by unfold doV; rw [if_neg (by dsimp only; omega), if_pos rfl, if_pos hd])
      rw [hd] at d0
      rw [hop] at d1
      clear hd hop hbo
      go_wp2
      go_ret
      exact Ret.mk ⟨by rw [HV.out]; rfl, by rw [HV.out]; exact HJ2.out, HK.out⟩
    · have HV : Hid (doV j (2, x, y, z) = (⟨j.day, x, j.items⟩, 0)) := Lib.hid (by unfold doV; rw [if_neg (by dsimp only; omega), if_pos rfl, if_neg hd])
      have t1 : (j.day == 0) = false := by rw [beq_eq_false_iff_ne]; exact hd
      have HN : Hid (JAt (w2.setCell ⟨jb, 1, none⟩ (.int .i64 x)) jb mb n ⟨j.day, x, j.items⟩) := Lib.hid ⟨HJ2.out.box.setOpn x, HJ2.out.map.kept (Below.heap_setCell _ ⟨jb, 1, none⟩ _ mb HJ2.out.ne), HJ2.out.ne⟩
      have HKn := Lib.hid (HK.out.set (p := ⟨jb, 1, none⟩) (.inl rfl) (.int .i64 x))
      clear hd hbo
      go_wp2
      go_ret
      exact Ret.mk ⟨by rw [HV.out]; rfl, by rw [HV.out]; exact HN.out, HKn.out⟩
end Go.Proofs.YtkpmmgeffbhngaaGreatDoor
