/- What the laws of the chapter rest on, part 30. -/
import Derived.Test.YtkpmmgeffbhngaaGreatDoorC27
set_option linter.unusedSimpArgs false
set_option linter.unusedVariables false
set_option linter.unnecessarySimpa false
namespace Prot
end Prot
namespace Go.Shelf
end Go.Shelf
namespace Go.Maps
end Go.Maps
namespace Go.Proofs.YtkpmmgeffbhngaaGreatDoor
open Go.RowKit Go.Shelf Prot Go.Lib Go.Maps
set_option maxRecDepth 100000 in
set_option maxHeartbeats 2000000 in
theorem doSing_any (jb mb n : Nat) (j : Jn) (x y z : Int) (w : World) (hj : JAt w jb mb n j) (ho0 : 0 ≤ j.opn) (ho1 : j.opn < 1000) (hr : ∀ b, room j.items b ≤ 12) (hn : n ≤ 1000000) (h1 : -9223372036854775808 ≤ x) (h2 : x ≤ 9223372036854775807) :
    Calls Tryz.prog 107 #[.pointer (some ⟨jb, 0, none⟩), .agg #[.int .i64 3, .int .i64 x, .int .i64 y, .int .i64 z]] w (Ret fun v w' => v = .int .i64 (doV j (3, x, y, z)).2 ∧ (∃ n', n' ≤ n + 1 ∧ JAt w' jb mb n' (doV j (3, x, y, z)).1) ∧ KeepC w.heap.size jb mb w w') := by
  have hB := below_alloc' (Below.refl w.heap.size w) (.cells #[.int .i64 3, .int .i64 x, .int .i64 y, .int .i64 z] 36)
  have hX := heap_alloc_new w (.cells #[.int .i64 3, .int .i64 x, .int .i64 y, .int .i64 z] 36)
  have HX := Lib.hid hX
  have HB := Lib.hid hB
  have HJ1 := Lib.hid (hj.below hB)
  have hjl := hj.box.lt
  have hmlw := hj.map.lt
  clear hX hB hj
  go_enter Tryz.func107, Tryz.ntmps107
  go_upto_region 1 with fail
  generalize w.alloc (.cells #[.int .i64 3, .int .i64 x, .int .i64 y, .int .i64 z] 36) = w1 at *
  have hlk := HJ1.out.map.lookA h1 h2 w1.drew rfl
  have hml := HJ1.out.map.lt
  have hlk2 := fun o => HJ1.out.map.lookA h1 h2 ((w1.alloc o).drew) (Below.heap_alloc w1 o mb hml)
  obtain ⟨xi, hxi⟩ : ∃ xi, (findI j.items x).getD noIt = xi := ⟨_, rfl⟩
  rw [hxi] at hlk hlk2
  obtain ⟨a1, a2, a3, a4, a5, a6, a7⟩ := xi
  unfold vItem at hlk hlk2
  generalize (findI j.items x).isSome = ok at *
  dsimp only at hlk hlk2
  have y2 := HJ1.out.box.map
  have n1 := (blk_cell (i := 1) HX.out).trans rfl
  clear hxi
  go_region_held3 (fun W => W.cell? ⟨jb, 2, none⟩ = some (.map (some mb)) ∧ W.cell? ⟨w.heap.size, 1, none⟩ = some (.int .i64 x)) (first | exact ⟨y2, n1⟩ | exact ⟨cell_alloc y2 _, cell_alloc n1 _⟩) (fail)
  all_goals
    have hb2 := below_alloc' (Below.refl w1.heap.size w1) (.cells #[.int .i64 a1, .int .i64 a2, .int .i64 a3, .int .i64 a4, .int .i64 a5, .int .i64 a6, .bool a7] 67)
    have HJ2 : Hid (JAt ((w1.alloc (.cells #[.int .i64 a1, .int .i64 a2, .int .i64 a3, .int .i64 a4, .int .i64 a5, .int .i64 a6, .bool a7] 67)).drew) jb mb n j) := Lib.hid (HJ1.out.below hb2.drew)
    have HX2 : Hid (((w1.alloc (.cells #[.int .i64 a1, .int .i64 a2, .int .i64 a3, .int .i64 a4, .int .i64 a5, .int .i64 a6, .bool a7] 67)).drew).heap[w.heap.size]? = some (.cells #[.int .i64 3, .int .i64 x, .int .i64 y, .int .i64 z] 36 (0, 0))) := Lib.hid (blk_alloc HX.out _)
    have HB2 : Hid (Below w.heap.size w ((w1.alloc (.cells #[.int .i64 a1, .int .i64 a2, .int .i64 a3, .int .i64 a4, .int .i64 a5, .int .i64 a6, .bool a7] 67)).drew)) := Lib.hid (below_alloc' HB.out _).drew
    clear hb2 hlk hlk2 y2 n1
    generalize (w1.alloc (.cells #[.int .i64 a1, .int .i64 a2, .int .i64 a3, .int .i64 a4, .int .i64 a5, .int .i64 a6, .bool a7] 67)).drew = w2 at *
    have l0 := (blk_cell (i := 0) HX2.out).trans rfl
    have l1 := (blk_cell (i := 1) HX2.out).trans rfl
    have d0 := HJ2.out.box.day
    have d1 := HJ2.out.box.opn
    have hkc := KeepC.of_below (x := jb) (y := mb) HB2.out (Nat.le_refl _)
    have HK := Lib.hid hkc
    clear hkc
    have HF := Lib.hid (fresh_any jb mb n j x w2 HJ2.out h1 h2 ho0 ho1 (hr _))
    go_wp2_with fail
    refine HF.out.mono ?_
    rintro _ w3 ⟨v, rfl, rfl, hB3⟩
    have HJ3 := Lib.hid (HJ2.out.below hB3)
    have HX3 := Lib.hid (blk_below hB3 HX2.out)
    have HK3 := Lib.hid (HK.out.trans (KeepC.of_below hB3 HK.out.size))
    clear hB3
    by_cases he : freshE j x = 0
    · obtain ⟨hne0, hno, hr12⟩ := freshE_ok he
      have HV : Hid (doV j (3, x, y, z) = (⟨j.day, j.opn, j.items ++ [⟨x, j.opn, j.day, y, z, 0, false⟩]⟩, 0)) := Lib.hid (by unfold doV; rw [if_neg (by dsimp only; omega), if_neg (by dsimp only; omega), if_pos rfl, if_neg (by rw [he]; simp)])
      have HL := Lib.hid (lay_any jb mb n j ⟨x, j.opn, j.day, y, z, 0, false⟩ w3.drew (show JAt w3.drew jb mb n j from ⟨HJ3.out.box.drewN 1, HJ3.out.map.kept rfl, HJ3.out.ne⟩) h1 h2 ho0 ho1 hno hn (by have := hr j.opn; dsimp only; omega))
      unfold vItem at HL
      rw [he]
      have l1 := (blk_cell (i := 1) HX3.out).trans rfl
      have l2 := (blk_cell (i := 2) HX3.out).trans rfl
      have l3 := (blk_cell (i := 3) HX3.out).trans rfl
      have d0 := HJ3.out.box.day
      have d1 := HJ3.out.box.opn
      clear he hne0 hno hr12
      have hltB : w.heap.size < w3.drew.heap.size := blk_lt HX3.out
      have hneB1 : w.heap.size ≠ jb := by omega
      have hneB2 : w.heap.size ≠ mb := by omega
      go_upto_region 15 with fail
      go_region_held3 (fun W => W.cell? ⟨w.heap.size, 1, none⟩ = some (.int .i64 x) ∧ W.cell? ⟨w.heap.size, 2, none⟩ = some (.int .i64 y) ∧ W.cell? ⟨w.heap.size, 3, none⟩ = some (.int .i64 z) ∧ W.cell? ⟨jb, 0, none⟩ = some (.int .i64 j.day) ∧ W.cell? ⟨jb, 1, none⟩ = some (.int .i64 j.opn)) (first | exact ⟨l1, l2, l3, d0, d1⟩ | exact ⟨m1, m2, m3, hJ4.box.day, hJ4.box.opn⟩) (first | (go_at_call 134; refine HL.out.mono ?_; rintro _ w4 ⟨v4, rfl, hJ4, hK4⟩; have eb := hK4.block w.heap.size hltB hneB1 hneB2; have m1 := (World.cell?_of_block (a := ⟨w.heap.size, 1, none⟩) eb).trans l1; have m2 := (World.cell?_of_block (a := ⟨w.heap.size, 2, none⟩) eb).trans l2; have m3 := (World.cell?_of_block (a := ⟨w.heap.size, 3, none⟩) eb).trans l3))
      all_goals
        have HK4 := Lib.hid (HK3.out.drew.trans (show KeepC w.heap.size jb mb w3.drew w4 from ⟨hK4.os, hK4.tape, hK4.output, hK4.size, fun b h => hK4.block b (Nat.lt_trans h hltB)⟩))
        have HJ4 := Lib.hid hJ4
        clear hJ4 hK4 eb m1 m2 m3 l1 l2 l3 d0 d1
        go_wp2
        go_ret
        exact Ret.mk ⟨by rw [HV.out]; rfl, ⟨n + 1, Nat.le_refl _, by rw [HV.out]; exact HJ4.out⟩, HK4.out⟩
    · have HV : Hid (doV j (3, x, y, z) = (j, freshE j x)) := Lib.hid (by unfold doV; rw [if_neg (by dsimp only; omega), if_neg (by dsimp only; omega), if_pos rfl, if_pos he])
      generalize freshE j x = e at *
      have t1 : (e != 0) = true := by simpa using he
      have t2 : (e == 0) = false := by simpa using he
      clear he
      go_wp2
      go_ret
      exact Ret.mk ⟨by rw [HV.out]; rfl, ⟨n, by omega, by rw [HV.out]; exact HJ3.out⟩, HK3.out⟩
end Go.Proofs.YtkpmmgeffbhngaaGreatDoor
