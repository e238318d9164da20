/- What the laws of the chapter rest on, part 33. -/
import Derived.Test.YtkpmmgeffbhngaaGreatDoorC27
set_option linter.unusedSimpArgs false
set_option linter.unusedVariables false
set_option linter.unnecessarySimpa false
namespace Prot
end Prot
namespace Go.Shelf
end Go.Shelf
namespace Go.Maps
end Go.Maps
namespace Go.Proofs.YtkpmmgeffbhngaaGreatDoor
open Go.RowKit Go.Shelf Prot Go.Lib Go.Maps
set_option maxRecDepth 100000 in
set_option maxHeartbeats 2000000 in
theorem doCopy_any (jb mb n : Nat) (j : Jn) (x y z : Int) (w : World) (hj : JAt w jb mb n j) (ho0 : 0 ≤ j.opn) (ho1 : j.opn < 1000) (hr : ∀ b, room j.items b ≤ 12) (hn : n ≤ 1000000) (h1 : -9223372036854775808 ≤ x) (h2 : x ≤ 9223372036854775807) (h3 : -9223372036854775808 ≤ y) (h4 : y ≤ 9223372036854775807) :
    Calls Tryz.prog 107 #[.pointer (some ⟨jb, 0, none⟩), .agg #[.int .i64 4, .int .i64 x, .int .i64 y, .int .i64 z]] w (Ret fun v w' => v = .int .i64 (doV j (4, x, y, z)).2 ∧ (∃ n', n' ≤ n + 1 ∧ JAt w' jb mb n' (doV j (4, x, y, z)).1) ∧ KeepC w.heap.size jb mb w w') := by
  have hB := below_alloc' (Below.refl w.heap.size w) (.cells #[.int .i64 4, .int .i64 x, .int .i64 y, .int .i64 z] 36)
  have hX := heap_alloc_new w (.cells #[.int .i64 4, .int .i64 x, .int .i64 y, .int .i64 z] 36)
  have HX := Lib.hid hX
  have HB := Lib.hid hB
  have HJ1 := Lib.hid (hj.below hB)
  have hjl := hj.box.lt
  have hmlw := hj.map.lt
  clear hX hB hj
  go_enter Tryz.func107, Tryz.ntmps107
  go_upto_region 1 with fail
  generalize w.alloc (.cells #[.int .i64 4, .int .i64 x, .int .i64 y, .int .i64 z] 36) = w1 at *
  have hlk := HJ1.out.map.lookA h1 h2 w1.drew rfl
  have hml := HJ1.out.map.lt
  have hlk2 := fun o => HJ1.out.map.lookA h1 h2 ((w1.alloc o).drew) (Below.heap_alloc w1 o mb hml)
  obtain ⟨xi, hxi⟩ : ∃ xi, (findI j.items x).getD noIt = xi := ⟨_, rfl⟩
  rw [hxi] at hlk hlk2
  obtain ⟨a1, a2, a3, a4, a5, a6, a7⟩ := xi
  unfold vItem at hlk hlk2
  generalize (findI j.items x).isSome = ok at *
  dsimp only at hlk hlk2
  have y2 := HJ1.out.box.map
  have n1 := (blk_cell (i := 1) HX.out).trans rfl
  clear hxi
  go_region_held3 (fun W => W.cell? ⟨jb, 2, none⟩ = some (.map (some mb)) ∧ W.cell? ⟨w.heap.size, 1, none⟩ = some (.int .i64 x)) (first | exact ⟨y2, n1⟩ | exact ⟨cell_alloc y2 _, cell_alloc n1 _⟩) (fail)
  all_goals
    have hb2 := below_alloc' (Below.refl w1.heap.size w1) (.cells #[.int .i64 a1, .int .i64 a2, .int .i64 a3, .int .i64 a4, .int .i64 a5, .int .i64 a6, .bool a7] 67)
    have HJ2 : Hid (JAt ((w1.alloc (.cells #[.int .i64 a1, .int .i64 a2, .int .i64 a3, .int .i64 a4, .int .i64 a5, .int .i64 a6, .bool a7] 67)).drew) jb mb n j) := Lib.hid (HJ1.out.below hb2.drew)
    have HX2 : Hid (((w1.alloc (.cells #[.int .i64 a1, .int .i64 a2, .int .i64 a3, .int .i64 a4, .int .i64 a5, .int .i64 a6, .bool a7] 67)).drew).heap[w.heap.size]? = some (.cells #[.int .i64 4, .int .i64 x, .int .i64 y, .int .i64 z] 36 (0, 0))) := Lib.hid (blk_alloc HX.out _)
    have HB2 : Hid (Below w.heap.size w ((w1.alloc (.cells #[.int .i64 a1, .int .i64 a2, .int .i64 a3, .int .i64 a4, .int .i64 a5, .int .i64 a6, .bool a7] 67)).drew)) := Lib.hid (below_alloc' HB.out _).drew
    clear hb2 hlk hlk2 y2 n1
    generalize (w1.alloc (.cells #[.int .i64 a1, .int .i64 a2, .int .i64 a3, .int .i64 a4, .int .i64 a5, .int .i64 a6, .bool a7] 67)).drew = w2 at *
    have l0 := (blk_cell (i := 0) HX2.out).trans rfl
    have l1 := (blk_cell (i := 1) HX2.out).trans rfl
    have d0 := HJ2.out.box.day
    have d1 := HJ2.out.box.opn
    have hkc := KeepC.of_below (x := jb) (y := mb) HB2.out (Nat.le_refl _)
    have HK := Lib.hid hkc
    clear hkc
    have HF := Lib.hid (fresh_any jb mb n j x w2 HJ2.out h1 h2 ho0 ho1 (hr _))
    go_wp2_with fail
    refine HF.out.mono ?_
    rintro _ w3 ⟨v, rfl, rfl, hB3⟩
    have HJ3 := Lib.hid (HJ2.out.below hB3)
    have HX3 := Lib.hid (blk_below hB3 HX2.out)
    have HK3 := Lib.hid (HK.out.trans (KeepC.of_below hB3 HK.out.size))
    clear hB3
    by_cases he : freshE j x = 0
    · obtain ⟨hne0, hno, hr12⟩ := freshE_ok he
      have HD : Hid (doV j (4, x, y, z) = match findI j.items y with
        | none => (j, 5)
        | some u => if u.cracked = true then (j, 22) else (⟨j.day, j.opn, j.items ++ [⟨x, j.opn, j.day, u.voice, u.turns, y, false⟩]⟩, 0)) := Lib.hid (by unfold doV; rw [if_neg (by dsimp only; omega), if_neg (by dsimp only; omega), if_neg (by dsimp only; omega), if_pos rfl, if_neg (by rw [he]; simp)]; dsimp only; cases findI j.items y <;> rfl)
      have HLy : Hid (∀ (u : It) (W : World), JAt W jb mb n j → Calls Tryz.prog 134 #[.pointer (some ⟨jb, 0, none⟩), vItem ⟨x, j.opn, j.day, u.voice, u.turns, y, false⟩] W (Ret fun _ w' => JAt w' jb mb (n + 1) ⟨j.day, j.opn, j.items ++ [⟨x, j.opn, j.day, u.voice, u.turns, y, false⟩]⟩ ∧ KeepC W.heap.size jb mb W w')) := Lib.hid fun u W hW => lay_any jb mb n j ⟨x, j.opn, j.day, u.voice, u.turns, y, false⟩ W hW h1 h2 ho0 ho1 hno hn (by have := hr j.opn; dsimp only; omega)
      rw [he]
      have hlk := HJ3.out.map.lookA h3 h4 w3.drew rfl
      have hml := HJ3.out.map.lt
      have hlk2 := fun o => HJ3.out.map.lookA h3 h4 ((w3.alloc o).drew) (Below.heap_alloc w3 o mb hml)
      obtain ⟨xi, hxi⟩ : ∃ xi, (findI j.items y).getD noIt = xi := ⟨_, rfl⟩
      rw [hxi] at hlk hlk2
      obtain ⟨a1, a2, a3, a4, a5, a6, a7⟩ := xi
      unfold vItem at hlk hlk2
      have HFi : Hid ((findI j.items y).isSome = true → findI j.items y = some ⟨a1, a2, a3, a4, a5, a6, a7⟩) := Lib.hid fun h => by
        cases e : findI j.items y with
        | none => rw [e] at h; cases h
        | some u => rw [e] at hxi; exact congrArg some hxi
      have HFn : Hid ((findI j.items y).isSome = false → findI j.items y = none) := Lib.hid fun h => by
        cases e : findI j.items y with
        | none => rfl
        | some u => rw [e] at h; cases h
      clear hxi
      generalize (findI j.items y).isSome = ok at *
      dsimp only at hlk hlk2
      have y2 := HJ3.out.box.map
      have n2 := (blk_cell (i := 2) HX3.out).trans rfl
      clear he hne0 hno hr12
      clear h1 h2 h3 h4
      go_upto_region 20 with fail
      go_region_held3 (fun W => W.cell? ⟨jb, 2, none⟩ = some (.map (some mb)) ∧ W.cell? ⟨w.heap.size, 2, none⟩ = some (.int .i64 y)) (first | exact ⟨y2, n2⟩ | exact ⟨cell_alloc y2 _, cell_alloc n2 _⟩) (fail)
      all_goals
        have hb2 := below_alloc' (Below.refl w3.heap.size w3) (.cells #[.int .i64 a1, .int .i64 a2, .int .i64 a3, .int .i64 a4, .int .i64 a5, .int .i64 a6, .bool a7] 67)
        have HJ4 : Hid (JAt ((w3.alloc (.cells #[.int .i64 a1, .int .i64 a2, .int .i64 a3, .int .i64 a4, .int .i64 a5, .int .i64 a6, .bool a7] 67)).drew) jb mb n j) := Lib.hid (HJ3.out.below hb2.drew)
        have HX4 : Hid (((w3.alloc (.cells #[.int .i64 a1, .int .i64 a2, .int .i64 a3, .int .i64 a4, .int .i64 a5, .int .i64 a6, .bool a7] 67)).drew).heap[w.heap.size]? = some (.cells #[.int .i64 4, .int .i64 x, .int .i64 y, .int .i64 z] 36 (0, 0))) := Lib.hid (blk_alloc HX3.out _)
        have HF4 : Hid (((w3.alloc (.cells #[.int .i64 a1, .int .i64 a2, .int .i64 a3, .int .i64 a4, .int .i64 a5, .int .i64 a6, .bool a7] 67)).drew).heap[w3.heap.size]? = some (.cells #[.int .i64 a1, .int .i64 a2, .int .i64 a3, .int .i64 a4, .int .i64 a5, .int .i64 a6, .bool a7] 67 (0, 0))) := Lib.hid (heap_alloc_new w3 _)
        have HK4 : Hid (KeepC w.heap.size jb mb w ((w3.alloc (.cells #[.int .i64 a1, .int .i64 a2, .int .i64 a3, .int .i64 a4, .int .i64 a5, .int .i64 a6, .bool a7] 67)).drew)) := Lib.hid (HK3.out.trans (KeepC.of_below hb2.drew HK3.out.size))
        clear hb2 hlk hlk2 y2 n2
        have HS4 : Hid (w.heap.size < w3.heap.size) := Lib.hid (blk_lt HX3.out)
        generalize (w3.alloc (.cells #[.int .i64 a1, .int .i64 a2, .int .i64 a3, .int .i64 a4, .int .i64 a5, .int .i64 a6, .bool a7] 67)).drew = w4 at *
        generalize w3.heap.size = fb at *
        have f0 := (blk_cell (i := 0) HF4.out).trans rfl
        have f1 := (blk_cell (i := 1) HF4.out).trans rfl
        have f2 := (blk_cell (i := 2) HF4.out).trans rfl
        have f3 := (blk_cell (i := 3) HF4.out).trans rfl
        have f4 := (blk_cell (i := 4) HF4.out).trans rfl
        have f5 := (blk_cell (i := 5) HF4.out).trans rfl
        have f6 := (blk_cell (i := 6) HF4.out).trans rfl
        have HWh := Lib.hid (whole_any ⟨a1, a2, a3, a4, a5, a6, a7⟩ ok w4)
        unfold vItem at HWh
        clear HX3 HJ3 HK3
        go_wp2_with fail
        refine HWh.out.mono ?_
        rintro _ w5 ⟨v, rfl, rfl, hB5⟩
        clear HWh f0 f1 f2 f3 f4 f5 f6
        have HJ5 := Lib.hid (HJ4.out.below hB5)
        have HX5 := Lib.hid (blk_below hB5 HX4.out)
        have HF5 := Lib.hid (blk_below hB5 HF4.out)
        have HK5 := Lib.hid (HK4.out.trans (KeepC.of_below hB5 HK4.out.size))
        clear hB5 HX4 HF4 HJ4 HK4
        by_cases hw : wholeV ⟨a1, a2, a3, a4, a5, a6, a7⟩ ok = 0
        · have hok : ok = true := by
            cases ok with
            | false => simp [wholeV] at hw
            | true => rfl
          have hcr : a7 = false := by
            rw [hok] at hw
            cases a7 with
            | true => simp [wholeV] at hw
            | false => rfl
          have HV : Hid (doV j (4, x, y, z) = (⟨j.day, j.opn, j.items ++ [⟨x, j.opn, j.day, a4, a5, y, false⟩]⟩, 0)) := Lib.hid (by rw [HD.out, HFi.out hok]; dsimp only; rw [hcr]; rfl)
          have HL := Lib.hid (HLy.out ⟨a1, a2, a3, a4, a5, a6, a7⟩ w5.drew (show JAt w5.drew jb mb n j from ⟨HJ5.out.box.drewN 1, HJ5.out.map.kept rfl, HJ5.out.ne⟩))
          unfold vItem at HL
          dsimp only at HL
          rw [hw]
          have l1 := (blk_cell (i := 1) HX5.out).trans rfl
          have l2 := (blk_cell (i := 2) HX5.out).trans rfl
          have g3 := (blk_cell (i := 3) HF5.out).trans rfl
          have g4 := (blk_cell (i := 4) HF5.out).trans rfl
          have d0 := HJ5.out.box.day
          have d1 := HJ5.out.box.opn
          have hltB : w.heap.size < w5.drew.heap.size := blk_lt HX5.out
          have hltF : fb < w5.drew.heap.size := blk_lt HF5.out
          have hs4 := HS4.out
          have hneB1 : w.heap.size ≠ jb := by omega
          have hneB2 : w.heap.size ≠ mb := by omega
          have hneF1 : fb ≠ jb := by omega
          have hneF2 : fb ≠ mb := by omega
          clear hw hok hcr HD HLy HFi HFn hs4
          go_upto_region 24 with fail
          go_region_held3 (fun W => W.cell? ⟨w.heap.size, 1, none⟩ = some (.int .i64 x) ∧ W.cell? ⟨w.heap.size, 2, none⟩ = some (.int .i64 y) ∧ W.cell? ⟨fb, 3, none⟩ = some (.int .i64 a4) ∧ W.cell? ⟨fb, 4, none⟩ = some (.int .i64 a5) ∧ W.cell? ⟨jb, 0, none⟩ = some (.int .i64 j.day) ∧ W.cell? ⟨jb, 1, none⟩ = some (.int .i64 j.opn)) (first | exact ⟨l1, l2, g3, g4, d0, d1⟩ | exact ⟨m1, m2, m3, m4, hJ6.box.day, hJ6.box.opn⟩) (first | (go_at_call 134; refine HL.out.mono ?_; rintro _ w6 ⟨v6, rfl, hJ6, hK6⟩; have eb := hK6.block w.heap.size hltB hneB1 hneB2; have ef := hK6.block fb hltF hneF1 hneF2; have m1 := (World.cell?_of_block (a := ⟨w.heap.size, 1, none⟩) eb).trans l1; have m2 := (World.cell?_of_block (a := ⟨w.heap.size, 2, none⟩) eb).trans l2; have m3 := (World.cell?_of_block (a := ⟨fb, 3, none⟩) ef).trans g3; have m4 := (World.cell?_of_block (a := ⟨fb, 4, none⟩) ef).trans g4))
          all_goals
            have HK6 := Lib.hid (HK5.out.drew.trans (show KeepC w.heap.size jb mb w5.drew w6 from ⟨hK6.os, hK6.tape, hK6.output, hK6.size, fun b h => hK6.block b (Nat.lt_trans h hltB)⟩))
            have HJ6 := Lib.hid hJ6
            clear hJ6 hK6 eb ef m1 m2 m3 m4 l1 l2 g3 g4 d0 d1
            go_wp2
            go_ret
            exact Ret.mk ⟨by rw [HV.out]; rfl, ⟨n + 1, Nat.le_refl _, by rw [HV.out]; exact HJ6.out⟩, HK6.out⟩
        · have HV : Hid (doV j (4, x, y, z) = (j, wholeV ⟨a1, a2, a3, a4, a5, a6, a7⟩ ok)) := Lib.hid (by
            rw [HD.out]
            cases ok with
            | false => rw [HFn.out rfl]; rfl
            | true =>
              rw [HFi.out rfl]
              cases a7 with
              | false => exact absurd rfl hw
              | true => rfl)
          generalize wholeV ⟨a1, a2, a3, a4, a5, a6, a7⟩ ok = e at *
          have t1 : (e != 0) = true := by simpa using hw
          have t2 : (e == 0) = false := by simpa using hw
          clear hw HD HLy HFi HFn
          go_wp2
          go_ret
          exact Ret.mk ⟨by rw [HV.out]; rfl, ⟨n, by omega, by rw [HV.out]; exact HJ5.out⟩, HK5.out⟩
    · have HV : Hid (doV j (4, x, y, z) = (j, freshE j x)) := Lib.hid (by unfold doV; rw [if_neg (by dsimp only; omega), if_neg (by dsimp only; omega), if_neg (by dsimp only; omega), if_pos rfl, if_pos he])
      generalize freshE j x = e at *
      have t1 : (e != 0) = true := by simpa using he
      have t2 : (e == 0) = false := by simpa using he
      clear he
      go_wp2
      go_ret
      exact Ret.mk ⟨by rw [HV.out]; rfl, ⟨n, by omega, by rw [HV.out]; exact HJ3.out⟩, HK3.out⟩
end Go.Proofs.YtkpmmgeffbhngaaGreatDoor
