/- ProtocolLines is true for every input: lines of cards are what the definitions say. The package variables of the library are tied to the program's text by the given tie. -/
import Derived.Test.YtkpmmgeffbhngaaGreatDoorC11
import Derived.Test.YtkpmmgeffbhngaaGreatDoorC43
import Derived.Test.YtkpmmgeffbhngaaGreatDoorC44
import Derived.Test.YtkpmmgeffbhngaaGreatDoorC45
import Derived.Test.YtkpmmgeffbhngaaGreatDoorCards
import Derived.Test.YtkpmmgeffbhngaaGreatDoorTie
set_option linter.unusedSimpArgs false
set_option linter.unusedVariables false
set_option linter.unnecessarySimpa false
namespace Prot
end Prot
namespace Go.Shelf
end Go.Shelf
namespace Go.Maps
end Go.Maps
namespace Go.Proofs.YtkpmmgeffbhngaaGreatDoor
open Go.RowKit Go.Shelf Prot Go.Lib Go.Maps
set_option maxRecDepth 100000 in
set_option maxHeartbeats 4000000 in
theorem protocolLines_any (k a b c : Int) (l : List UInt8) (w : World) (hT : Tab w) : Calls Tryz.prog 5 #[vCard (k, a, b, c), .string (bs l)] w (Ret fun v w' => v = .bool true ∧ Below w.heap.size w w') := by
  have HB0 := Lib.hid (Below.refl w.heap.size w)
  have HT := Lib.hid hT
  clear hT
  unfold vCard
  dsimp only
  by_cases h1 : 200 < l.length
  · have d1 : decide (((bs l).size : Int) > 200) = true := decide_eq_true (by rw [bs_size]; omega)
    have d2 : decide ((200 : Int) < ((bs l).size : Int)) = true := decide_eq_true (by rw [bs_size]; omega)
    clear h1
    go_enter Tryz.func5, Tryz.ntmps5
    have hX := heap_alloc_new w (.cells #[.int .i64 k, .int .i64 a, .int .i64 b, .int .i64 c] 36)
    have hb := below_alloc' (Below.refl w.heap.size w) (.cells #[.int .i64 k, .int .i64 a, .int .i64 b, .int .i64 c] 36)
    go_upto_region 1 with fail
    have HB1 := Lib.hid (below_trans' HB0.out hb)
    replace HT := Lib.hid (HT.out.below hb)
    clear hb HB0
    generalize w.alloc (.cells #[.int .i64 k, .int .i64 a, .int .i64 b, .int .i64 c] 36) = w1 at *
    have y0 : w1.cell? ⟨w.heap.size, 0, none⟩ = some (.int .i64 k) := (blk_cell hX).trans rfl
    have y1 : w1.cell? ⟨w.heap.size, 1, none⟩ = some (.int .i64 a) := (blk_cell hX).trans rfl
    have y2 : w1.cell? ⟨w.heap.size, 2, none⟩ = some (.int .i64 b) := (blk_cell hX).trans rfl
    have y3 : w1.cell? ⟨w.heap.size, 3, none⟩ = some (.int .i64 c) := (blk_cell hX).trans rfl
    clear hX
    go_wp2_with fail
    refine (works_any _ HT.out).mono ?_
    rintro e wz ⟨v, rfl, rfl, hBz⟩
    go_wp2
    go_ret
    exact Ret.mk ⟨rfl, below_trans' HB1.out hBz⟩
  have d1 : decide (((bs l).size : Int) > 200) = false := decide_eq_false (by rw [bs_size]; omega)
  have d2 : decide ((200 : Int) < ((bs l).size : Int)) = false := decide_eq_false (by rw [bs_size]; omega)
  have hll : (bs l).size ≤ 90000 := by rw [bs_size]; omega
  obtain ⟨p1, p2, p3, p4, pe, hpv⟩ : ∃ p1 p2 p3 p4 pe, parseV l = ((p1, p2, p3, p4), pe) := ⟨_, _, _, _, _, rfl⟩
  have HP : Hid (∀ W, Tab W → Calls Tryz.prog 27 #[.string (bs l)] W (Ret fun v w' => v = .tuple #[.agg #[.int .i64 p1, .int .i64 p2, .int .i64 p3, .int .i64 p4], .int .i64 pe] ∧ Below W.heap.size W w')) := Lib.hid fun W hW => by
    have := Parse_any (bs l) W hW hll
    rw [bs_list, parseT_of hpv] at this
    exact this
  have HPr : Hid (∀ W, Calls Tryz.prog 28 #[.string (bs l)] W (Ret fun v w' => v = .tuple #[.agg #[.int .i64 p1, .int .i64 p2, .int .i64 p3, .int .i64 p4], .int .i64 pe] ∧ Below W.heap.size W w')) := Lib.hid fun W => by
    have := rParse_any (bs l) W (by omega)
    rw [bs_list, parseT_of hpv] at this
    exact this
  clear h1 hll hpv
  go_enter Tryz.func5, Tryz.ntmps5
  have hX := heap_alloc_new w (.cells #[.int .i64 k, .int .i64 a, .int .i64 b, .int .i64 c] 36)
  have hb := below_alloc' (Below.refl w.heap.size w) (.cells #[.int .i64 k, .int .i64 a, .int .i64 b, .int .i64 c] 36)
  go_upto_region 1 with fail
  have HB1 := Lib.hid (below_trans' HB0.out hb)
  replace HT := Lib.hid (HT.out.below hb)
  clear hb HB0
  generalize w.alloc (.cells #[.int .i64 k, .int .i64 a, .int .i64 b, .int .i64 c] 36) = w1 at *
  have y0 : w1.cell? ⟨w.heap.size, 0, none⟩ = some (.int .i64 k) := (blk_cell hX).trans rfl
  have y1 : w1.cell? ⟨w.heap.size, 1, none⟩ = some (.int .i64 a) := (blk_cell hX).trans rfl
  have y2 : w1.cell? ⟨w.heap.size, 2, none⟩ = some (.int .i64 b) := (blk_cell hX).trans rfl
  have y3 : w1.cell? ⟨w.heap.size, 3, none⟩ = some (.int .i64 c) := (blk_cell hX).trans rfl
  clear hX
  have Hc := Lib.hid (show Calls Tryz.prog 25 #[.agg #[.int .i64 k, .int .i64 a, .int .i64 b, .int .i64 c]] w1 _ from Line_any (k, a, b, c) w1 HT.out)
  go_wp2_with fail
  refine Hc.out.mono ?_
  rintro e w2 ⟨v, rfl, rfl, hb⟩
  have HB2 := Lib.hid (below_trans' HB1.out hb)
  replace HT := Lib.hid (HT.out.below hb)
  replace y0 := cell_below hb y0
  replace y1 := cell_below hb y1
  replace y2 := cell_below hb y2
  replace y3 := cell_below hb y3
  clear hb Hc HB1
  unfold lineT
  have Hc := Lib.hid (show Calls Tryz.prog 26 #[.agg #[.int .i64 k, .int .i64 a, .int .i64 b, .int .i64 c]] w2 _ from rLine_any (k, a, b, c) w2)
  go_wp2_with fail
  refine Hc.out.mono ?_
  rintro e w3 ⟨v, rfl, rfl, hb⟩
  have HB3 := Lib.hid (below_trans' HB2.out hb)
  replace HT := Lib.hid (HT.out.below hb)
  replace y0 := cell_below hb y0
  replace y1 := cell_below hb y1
  replace y2 := cell_below hb y2
  replace y3 := cell_below hb y3
  clear hb Hc HB2
  unfold lineT
  generalize bs (lineV (k, a, b, c)).1 = ls at *
  generalize (lineV (k, a, b, c)).2 = le at *
  clear y0 y1 y2 y3
  have Hc := Lib.hid (HP.out w3 HT.out)
  go_wp2_with fail
  refine Hc.out.mono ?_
  rintro e w4 ⟨v, rfl, rfl, hb⟩
  have HB4 := Lib.hid (below_trans' HB3.out hb)
  replace HT := Lib.hid (HT.out.below hb)
  clear hb Hc HB3
  have hX := heap_alloc_new w4 (.cells #[.int .i64 p1, .int .i64 p2, .int .i64 p3, .int .i64 p4] 36)
  have hb := below_alloc' (Below.refl w4.heap.size w4) (.cells #[.int .i64 p1, .int .i64 p2, .int .i64 p3, .int .i64 p4] 36)
  go_upto_region 6 with fail
  have HB5 := Lib.hid (below_trans' HB4.out hb)
  replace HT := Lib.hid (HT.out.below hb)
  clear hb HB4
  generalize w4.alloc (.cells #[.int .i64 p1, .int .i64 p2, .int .i64 p3, .int .i64 p4] 36) = w5 at *
  generalize w4.heap.size = X5 at *
  have x0 : w5.cell? ⟨X5, 0, none⟩ = some (.int .i64 p1) := (blk_cell hX).trans rfl
  have x1 : w5.cell? ⟨X5, 1, none⟩ = some (.int .i64 p2) := (blk_cell hX).trans rfl
  have x2 : w5.cell? ⟨X5, 2, none⟩ = some (.int .i64 p3) := (blk_cell hX).trans rfl
  have x3 : w5.cell? ⟨X5, 3, none⟩ = some (.int .i64 p4) := (blk_cell hX).trans rfl
  clear hX
  have Hc := Lib.hid (HPr.out w5)
  go_wp2_with fail
  refine Hc.out.mono ?_
  rintro e w6 ⟨v, rfl, rfl, hb⟩
  have HB6 := Lib.hid (below_trans' HB5.out hb)
  replace HT := Lib.hid (HT.out.below hb)
  replace x0 := cell_below hb x0
  replace x1 := cell_below hb x1
  replace x2 := cell_below hb x2
  replace x3 := cell_below hb x3
  clear hb Hc HB5
  have hX := heap_alloc_new w6 (.cells #[.int .i64 p1, .int .i64 p2, .int .i64 p3, .int .i64 p4] 36)
  have hb := below_alloc' (Below.refl w6.heap.size w6) (.cells #[.int .i64 p1, .int .i64 p2, .int .i64 p3, .int .i64 p4] 36)
  go_upto_region 7 with fail
  have HB7 := Lib.hid (below_trans' HB6.out hb)
  replace HT := Lib.hid (HT.out.below hb)
  replace x0 := cell_below hb x0
  replace x1 := cell_below hb x1
  replace x2 := cell_below hb x2
  replace x3 := cell_below hb x3
  clear hb HB6
  generalize w6.alloc (.cells #[.int .i64 p1, .int .i64 p2, .int .i64 p3, .int .i64 p4] 36) = w7 at *
  generalize w6.heap.size = X7 at *
  have z0 : w7.cell? ⟨X7, 0, none⟩ = some (.int .i64 p1) := (blk_cell hX).trans rfl
  have z1 : w7.cell? ⟨X7, 1, none⟩ = some (.int .i64 p2) := (blk_cell hX).trans rfl
  have z2 : w7.cell? ⟨X7, 2, none⟩ = some (.int .i64 p3) := (blk_cell hX).trans rfl
  have z3 : w7.cell? ⟨X7, 3, none⟩ = some (.int .i64 p4) := (blk_cell hX).trans rfl
  clear hX
  go_wp2_with fail
  refine (works_any _ HT.out).mono ?_
  rintro e wz ⟨v, rfl, rfl, hBz⟩
  go_wp2
  go_ret
  exact Ret.mk ⟨rfl, below_trans' HB7.out hBz⟩
end Go.Proofs.YtkpmmgeffbhngaaGreatDoor
namespace Go.Proofs.YtkpmmgeffbhngaaGreatDoor
open Go.ChangeShapes Go.WideShapes Go.ChangeAt Go.RowKit
set_option maxRecDepth 100000 in
theorem protocolLines_lifted (os : Os) (started : os.Started) (H : Type) (enc : TypeId × Value → H) :
    ReturnsInHanded {} Tryz.checked os 5 .any (fun w args => (Rows.protocolLinesSpec.pre enc Tryz.prog Tryz.f5 [] false w args ∧ laidMetH Tryz.prog laidT w) ∧ sizedMet enc Tryz.prog Tryz.f5 (OpenSpec.ofChange Rows.protocolLinesSpec) false w args)
      (Rows.protocolLinesSpec.post enc Tryz.prog Tryz.f5 false true false false) := by
  refine returnsInHanded_and_shaped (C := Tryz.checked) (X := fun w _ => laidMetH Tryz.prog laidT w) (fun _ _ _ hh h => h.of_heap hh) Tryz.own started (by kernel_rfl) Tryz.func5
    (ChangeSpec.witness_shaped (enc := enc) (C := Tryz.checked) (os := os) (X := fun w _ => laidMetH Tryz.prog laidT w) false (World.laidAll Tryz.prog os laidT) #[.agg #[.int .i64 0, .int .i64 0, .int .i64 0, .int .i64 0], .string ⟨#[]⟩] 8 (World.laidAll_os _ _ _) (laid_shaped os _) (by kernel_rfl) (by kernel_rfl) (by kernel_rfl) (laid_met os _)) ?_
  intro W base args ds gs before hval0 hW hL hsh
  have hval : ∀ (j : Nat) t v, Tryz.f5.params[j]? = some t → args[j]? = some v → Value.okWide Tryz.prog W .any base t v := hval0
  have hW' := hW
  have hlt : ∀ p ∈ before, p.block < W.heap.size := fun p hp => hW.lt p hp
  obtain ⟨p, q, hA0, hV, rfl, hfz, hnd⟩ := hW
  have hA : DataW.TrodAll enc Tryz.prog W 0 (fun _ => true) true Tryz.f5.params.toList args.toList ds p := hA0
  rw [Tryz.params5] at hA hval
  have hA1 := hA
  have hT := of_laid hL hsh
  obtain ⟨v0, v1, d0, d1, p0, p1, rfl, rfl, rfl, h0, h1⟩ := trodAll_two hA
  obtain ⟨rfl, rfl⟩ := trodVars_none hV
  obtain ⟨k, a, b, c, rfl, wk, wa, wb, wc⟩ := openCard (hval 0 36 v0 rfl rfl) h0
  obtain ⟨s1, rfl, rfl, rfl, ws1⟩ := Go.ChangeMaps.open_string Tryz.underlying9 (hval 1 9 v1 rfl rfl) h1
  obtain ⟨l, rfl⟩ : ∃ l, s1 = bs l := ⟨_, bs_of s1⟩
  refine (protocolLines_any k a b c l W hT).mono fun e W' he => ?_
  obtain ⟨v, rfl, rfl, hB⟩ := he
  exact ⟨_, rfl, post_of_below (pa := _) (pv := []) hW' (fun b sp hd => trodAll_mk1 (resTrue b sp hd W')) (fun sp hsp => all_again' hB (by kernel_rfl) hA1 (fun x hx => hlt x (by simpa using hx)) (fun x hx => hsp x (by simpa using hx))) (fun _ _ => rfl) rfl hB (ok_one (by kernel_rfl) rfl (okWide_bool_mk Tryz.underlying4 true))⟩
theorem protocolLines_p : (Rows.protocolLinesRow.inPlace == Tryz.prog.inPlace 5) = true := by kernel_rfl
theorem protocolLines_u : (Rows.protocolLinesRow.unfollowed == Tryz.prog.unfollowed 5) = true := by kernel_rfl
theorem protocolLines_r : (Rows.protocolLinesRow.recurses == Tryz.prog.recurses 5) = true := by kernel_rfl
theorem protocolLines_n : (Rows.protocolLinesRow.named == Tryz.prog.varsNamed 5) = true := by kernel_rfl
theorem protocolLines_row : Rows.ProtocolLinesSaid :=
  OpenClaim.holds_of_wide 5 Tryz.f5 rfl rfl rfl rfl rfl rfl rfl ⟨rfl, rfl, rfl, rfl, rfl⟩ rfl rfl rfl rfl rfl (by kernel_rfl) Tryz.func5
    (joined_of (by kernel_rfl) (by kernel_rfl) (by kernel_rfl) rfl rfl protocolLines_p protocolLines_u protocolLines_r protocolLines_n (by kernel_rfl) (by kernel_rfl) (by kernel_rfl) (by kernel_rfl) (by kernel_rfl) (by kernel_rfl) (by kernel_rfl) (by kernel_rfl) (by kernel_rfl) (by kernel_rfl) rfl rfl rfl (by kernel_rfl) (by kernel_rfl) (by kernel_rfl) (by kernel_rfl))
    (of_decide_eq_true (by kernel_rfl)) (by unfold Func.isWrapper; first | (rw [if_pos (by decide +kernel)]; kernel_rfl) | (rw [if_neg (by decide +kernel)]; exact ⟨rfl, rfl⟩))
    (fun os started H enc _ => protocolLines_lifted os started H enc)
theorem protocolLines_holds : Rows.ProtocolLinesCardSaid :=
  Claim7.holds_tied_plain_at .later [] [.data, .data, .data, .data, .sentinel, .sentinel, .pinned] true (true, "056ceee57fb0345663cf018f0cf66ba5b95e362946dcabdfc5afb17e57de19a5") true
    protocolLines_row (fun _ h => by cases h) (by kernel_rfl) (fun _ h => by cases h) protocolLines_row_tie rfl ⟨rfl, rfl⟩ (by kernel_rfl) rfl
    (no_stand (show Tryz.prog.funcNamed "mandrel/mandrellaw12.ProtocolLines" = some 5 by kernel_rfl) Tryz.func5 Tryz.jlooks (by kernel_rfl))
    (by kernel_rfl)
end Go.Proofs.YtkpmmgeffbhngaaGreatDoor
