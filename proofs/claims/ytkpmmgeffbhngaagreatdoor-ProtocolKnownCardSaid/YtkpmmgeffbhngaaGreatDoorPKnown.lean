/- ProtocolKnown is true for every input: the examples of the chapter. The package variables of the library are tied to the program's text by the given tie. -/
import Derived.Test.YtkpmmgeffbhngaaGreatDoorC11
import Derived.Test.YtkpmmgeffbhngaaGreatDoorC43
import Derived.Test.YtkpmmgeffbhngaaGreatDoorC44
import Derived.Test.YtkpmmgeffbhngaaGreatDoorC45
import Derived.Test.YtkpmmgeffbhngaaGreatDoorCards
import Derived.Test.YtkpmmgeffbhngaaGreatDoorTie
set_option linter.unusedSimpArgs false
set_option linter.unusedVariables false
set_option linter.unnecessarySimpa false
namespace Prot
end Prot
namespace Go.Shelf
end Go.Shelf
namespace Go.Maps
end Go.Maps
namespace Prot
open Go.Lib
theorem ex_mark1 : markL 1 = [49, 57, 53] := by rw [mark_F (by decide)]; decide +kernel
theorem ex_sum2 : cmV [49, 50, 51, 50, 49] = (0, 14) := cm_sum (n := 123) (e := [50, 48]) (by decide) (by decide +kernel) (by decide) (by decide) (by decide +kernel) (by rw [chk_F]; decide +kernel) (by decide)
theorem ex_parse3 : parseV [100, 97, 121, 32, 48, 51] = ((0, 0, 0, 0), 8) := by rw [parse_I]; decide +kernel
/-- box 1, day 1, sing 1 1 1, 'day 1 ' -/
def ex2L : List UInt8 := [98, 111, 120, 32, 49, 10, 100, 97, 121, 32, 49, 10, 115, 105, 110, 103, 32, 49, 32, 49, 32, 49, 10, 100, 97, 121, 32, 49, 32, 10]
theorem ex2_run : runA ex2L = ([9, 0, 9, 8], 0) := by
  unfold runA
  rw [if_neg (by decide +kernel), run_I]
  decide +kernel
end Prot
namespace Go.Proofs.YtkpmmgeffbhngaaGreatDoor
open Go.RowKit Go.Shelf Prot Go.Lib Go.Maps
theorem exM (l : List UInt8) (n : Nat) (h : markL n = l) (h1 : 1 ≤ n) (h2 : n ≤ 1099511627776) (w : World) (hT : Tab w) : Calls Tryz.prog 16 #[.int .i64 (n : Int)] w (Ret fun v w' => v = .tuple #[.string (bs l), .int .i64 0] ∧ Below w.heap.size w w') := by
  refine (Mark_any (n : Int) w hT).mono ?_
  rintro _ w' ⟨v, rfl, rfl, hb⟩
  refine Ret.mk ⟨?_, hb⟩
  unfold markT
  rw [if_pos (by omega), Int.toNat_natCast, h]
theorem exC (l : List UInt8) (n e : Int) (h : cmV l = (n, e)) (hl : l.length ≤ 100) (w : World) (hT : Tab w) : Calls Tryz.prog 18 #[.string (bs l)] w (Ret fun v w' => v = .tuple #[.int .i64 n, .int .i64 e] ∧ Below w.heap.size w w') := by
  refine (CheckMark_any l w hT (by omega)).mono ?_
  rintro _ w' ⟨v, rfl, rfl, hb⟩
  refine Ret.mk ⟨?_, hb⟩
  unfold cmT
  rw [h]
theorem exP3 (w : World) (hT : Tab w) : Calls Tryz.prog 27 #[.string ⟨#[100, 97, 121, 32, 48, 51]⟩] w (Ret fun v w' => v = .tuple #[.agg #[.int .i64 0, .int .i64 0, .int .i64 0, .int .i64 0], .int .i64 8] ∧ Below w.heap.size w w') := by
  refine (Parse_any (bs [100, 97, 121, 32, 48, 51]) w hT (by decide)).mono ?_
  rintro _ w' ⟨v, rfl, rfl, hb⟩
  refine Ret.mk ⟨?_, hb⟩
  unfold parseT
  rw [bs_list, ex_parse3]; rfl
theorem exRun2 (w : World) (hT : Tab w) : Calls Tryz.prog 29 #[.string (bs ex2L)] w (Ret fun v w' => (∃ A ca, v = .tuple #[.slice A 4 ca, .int .i64 0] ∧ IntsAt w' A [9, 0, 9, 8]) ∧ Below w.heap.size w w') := by
  refine (Run_any ex2L w hT (by decide)).mono ?_
  rintro _ w' ⟨v, rfl, A, ca, rfl, h1, h2, hb⟩
  rw [ex2_run] at h2 ⊢
  exact Ret.mk ⟨⟨A, ca, rfl, h2⟩, hb⟩
theorem exErrs2 (A : Option Addr) (ca : Nat) (w : World) (hl : IntsAt w A [9, 0, 9, 8]) : Calls Tryz.prog 35 #[.slice A 4 ca, .slice (some ⟨w.heap.size, 0, none⟩) 4 4] (w.alloc (.cells #[.int .i64 9, .int .i64 0, .int .i64 9, .int .i64 8] 23)) (Ret fun v w' => v = .bool true ∧ Below w.heap.size w w') := by
  have hal := below_alloc' (Below.refl w.heap.size w) (.cells #[.int .i64 9, .int .i64 0, .int .i64 9, .int .i64 8] 23)
  refine (errs_any A (some ⟨w.heap.size, 0, none⟩) ca 4 [9, 0, 9, 8] [9, 0, 9, 8] _ (IntsAt.below hl hal) (rows_new encI_len _ _ _ _ rfl) (by decide)).mono ?_
  rintro _ w' ⟨v, rfl, rfl, q, rfl⟩
  exact Ret.mk ⟨by simp, below_drewN hal q⟩
set_option maxRecDepth 100000 in
set_option maxHeartbeats 4000000 in
theorem protocolKnown_any (w : World) (hT : Tab w) : Calls Tryz.prog 14 #[] w (Ret fun v w' => v = .bool true ∧ Below w.heap.size w w') := by
  have HB0 := Lib.hid (Below.refl w.heap.size w)
  have HT := Lib.hid hT
  clear hT
  obtain ⟨ml, hml⟩ : ∃ ml, markL 1099511627776 = ml := ⟨_, rfl⟩
  have hmc : cmV ml = ((1099511627776 : Int), 0) := by rw [← hml]; exact cmV_mark (by omega) (Nat.le_refl _)
  have hmn : ml.length ≤ 100 := by
    rw [← hml]
    unfold markL
    rw [List.length_append, chkL_len]
    have := dec_len13 (n := 1099511627776) (Nat.le_refl _)
    omega
  have Hml := Lib.hid hml
  have Hmc := Lib.hid hmc
  clear hml hmc
  go_enter Tryz.func14, Tryz.ntmps14
  have Hc := Lib.hid (show Calls Tryz.prog 16 #[.int .i64 1] w (Ret fun v w' => v = .tuple #[.string ⟨#[49, 57, 53]⟩, .int .i64 0] ∧ Below (w).heap.size w w') from exM _ 1 ex_mark1 (by decide) (by decide) w HT.out)
  go_wp2_with fail
  refine Hc.out.mono ?_
  rintro e w1 ⟨v, rfl, rfl, hb⟩
  have HB1 := Lib.hid (below_trans' HB0.out hb)
  replace HT := Lib.hid (HT.out.below hb)
  clear hb Hc HB0
  have Hc := Lib.hid (show Calls Tryz.prog 16 #[.int .i64 1099511627776] w1 (Ret fun v w' => v = .tuple #[.string (bs ml), .int .i64 0] ∧ Below (w1).heap.size w1 w') from exM ml 1099511627776 Hml.out (by omega) (Nat.le_refl _) w1 HT.out)
  go_wp2_with fail
  refine Hc.out.mono ?_
  rintro e w2 ⟨v, rfl, rfl, hb⟩
  have HB2 := Lib.hid (below_trans' HB1.out hb)
  replace HT := Lib.hid (HT.out.below hb)
  clear hb Hc HB1
  have Hc := Lib.hid (show Calls Tryz.prog 18 #[.string ⟨#[49, 50, 51, 50, 49]⟩] w2 (Ret fun v w' => v = .tuple #[.int .i64 0, .int .i64 14] ∧ Below (w2).heap.size w2 w') from exC [49, 50, 51, 50, 49] _ _ ex_sum2 (by decide) w2 HT.out)
  go_wp2_with fail
  refine Hc.out.mono ?_
  rintro e w3 ⟨v, rfl, rfl, hb⟩
  have HB3 := Lib.hid (below_trans' HB2.out hb)
  replace HT := Lib.hid (HT.out.below hb)
  clear hb Hc HB2
  have Hc := Lib.hid (exC ml _ _ Hmc.out hmn w3 HT.out)
  go_wp2_with fail
  refine Hc.out.mono ?_
  rintro e w4 ⟨v, rfl, rfl, hb⟩
  have HB4 := Lib.hid (below_trans' HB3.out hb)
  replace HT := Lib.hid (HT.out.below hb)
  clear hb Hc HB3
  generalize bs ml = mb at *
  have Hc := Lib.hid (exP3 w4 HT.out)
  go_wp2_with fail
  refine Hc.out.mono ?_
  rintro e w5 ⟨v, rfl, rfl, hb⟩
  have HB5 := Lib.hid (below_trans' HB4.out hb)
  replace HT := Lib.hid (HT.out.below hb)
  clear hb Hc HB4
  have hX := heap_alloc_new w5 (.cells #[.int .i64 0, .int .i64 0, .int .i64 0, .int .i64 0] 36)
  have hb := below_alloc' (Below.refl w5.heap.size w5) (.cells #[.int .i64 0, .int .i64 0, .int .i64 0, .int .i64 0] 36)
  go_upto_region 6 with fail
  have HB6 := Lib.hid (below_trans' HB5.out hb)
  replace HT := Lib.hid (HT.out.below hb)
  clear hb HB5
  generalize w5.alloc (.cells #[.int .i64 0, .int .i64 0, .int .i64 0, .int .i64 0] 36) = w6 at *
  generalize w5.heap.size = X6 at *
  clear hX
  have Hc := Lib.hid (show Calls Tryz.prog 29 #[.string ⟨#[98, 111, 120, 32, 49, 10, 100, 97, 121, 32, 49, 10, 115, 105, 110, 103, 32, 49, 32, 49, 32, 49, 10, 100, 97, 121, 32, 49, 32, 10]⟩] w6 _ from exRun2 w6 HT.out)
  go_wp2_with fail
  refine Hc.out.mono ?_
  rintro e w7 ⟨v, rfl, ⟨A6, c6, rfl, h6⟩, hb⟩
  have HB7 := Lib.hid (below_trans' HB6.out hb)
  replace HT := Lib.hid (HT.out.below hb)
  clear hb Hc HB6
  have HR := Lib.hid h6
  clear h6
  have Hc := Lib.hid (exErrs2 A6 c6 w7 HR.out)
  go_wp2_with fail
  refine Hc.out.mono ?_
  rintro e w8 ⟨v, rfl, rfl, hb⟩
  have HB8 := Lib.hid (below_trans' HB7.out hb)
  replace HT := Lib.hid (HT.out.below hb)
  replace HR := Lib.hid (HR.out.below hb)
  clear hb Hc HB7
  go_wp2_with fail
  refine (works_any _ HT.out).mono ?_
  rintro e wz ⟨v, rfl, rfl, hBz⟩
  go_wp2
  go_ret
  exact Ret.mk ⟨rfl, below_trans' HB8.out hBz⟩
end Go.Proofs.YtkpmmgeffbhngaaGreatDoor
namespace Go.Proofs.YtkpmmgeffbhngaaGreatDoor
open Go.ChangeShapes Go.WideShapes Go.ChangeAt Go.RowKit
set_option maxRecDepth 100000 in
theorem protocolKnown_lifted (os : Os) (started : os.Started) (H : Type) (enc : TypeId × Value → H) :
    ReturnsInHanded {} Tryz.checked os 14 .any (fun w args => (Rows.protocolKnownSpec.pre enc Tryz.prog Tryz.f14 [] false w args ∧ laidMetH Tryz.prog laidT w) ∧ sizedMet enc Tryz.prog Tryz.f14 (OpenSpec.ofChange Rows.protocolKnownSpec) false w args)
      (Rows.protocolKnownSpec.post enc Tryz.prog Tryz.f14 false true false false) := by
  refine returnsInHanded_and_shaped (C := Tryz.checked) (X := fun w _ => laidMetH Tryz.prog laidT w) (fun _ _ _ hh h => h.of_heap hh) Tryz.own started (by kernel_rfl) Tryz.func14
    (ChangeSpec.witness_shaped (enc := enc) (C := Tryz.checked) (os := os) (X := fun w _ => laidMetH Tryz.prog laidT w) false (World.laidAll Tryz.prog os laidT) #[] 8 (World.laidAll_os _ _ _) (laid_shaped os _) (by kernel_rfl) (by kernel_rfl) (by kernel_rfl) (laid_met os _)) ?_
  intro W base args ds gs before hval0 hW hL hsh
  have hval : ∀ (j : Nat) t v, Tryz.f14.params[j]? = some t → args[j]? = some v → Value.okWide Tryz.prog W .any base t v := hval0
  have hW' := hW
  have hlt : ∀ p ∈ before, p.block < W.heap.size := fun p hp => hW.lt p hp
  obtain ⟨p, q, hA0, hV, rfl, hfz, hnd⟩ := hW
  have hA : DataW.TrodAll enc Tryz.prog W 0 (fun _ => true) true Tryz.f14.params.toList args.toList ds p := hA0
  rw [Tryz.params14] at hA hval
  have hA1 := hA
  have hT := of_laid hL hsh
  obtain ⟨hA2, rfl, rfl⟩ := trodAll_nil hA
  obtain rfl : args = #[] := Array.toList_eq_nil_iff.1 hA2
  obtain ⟨rfl, rfl⟩ := trodVars_none hV

  refine (protocolKnown_any W hT).mono fun e W' he => ?_
  obtain ⟨v, rfl, rfl, hB⟩ := he
  exact ⟨_, rfl, post_of_below (pa := _) (pv := []) hW' (fun b sp hd => trodAll_mk1 (resTrue b sp hd W')) (fun sp hsp => all_again' hB (by kernel_rfl) hA1 (fun x hx => hlt x (by simp at hx)) (fun x hx => hsp x (by simp at hx))) (fun _ _ => rfl) rfl hB (ok_one (by kernel_rfl) rfl (okWide_bool_mk Tryz.underlying4 true))⟩
theorem protocolKnown_p : (Rows.protocolKnownRow.inPlace == Tryz.prog.inPlace 14) = true := by kernel_rfl
theorem protocolKnown_u : (Rows.protocolKnownRow.unfollowed == Tryz.prog.unfollowed 14) = true := by kernel_rfl
theorem protocolKnown_r : (Rows.protocolKnownRow.recurses == Tryz.prog.recurses 14) = true := by kernel_rfl
theorem protocolKnown_n : (Rows.protocolKnownRow.named == Tryz.prog.varsNamed 14) = true := by kernel_rfl
theorem protocolKnown_row : Rows.ProtocolKnownSaid :=
  OpenClaim.holds_of_wide 14 Tryz.f14 rfl rfl rfl rfl rfl rfl rfl ⟨rfl, rfl, rfl, rfl, rfl⟩ rfl rfl rfl rfl rfl (by kernel_rfl) Tryz.func14
    (joined_of (by kernel_rfl) (by kernel_rfl) (by kernel_rfl) rfl rfl protocolKnown_p protocolKnown_u protocolKnown_r protocolKnown_n (by kernel_rfl) (by kernel_rfl) (by kernel_rfl) (by kernel_rfl) (by kernel_rfl) (by kernel_rfl) (by kernel_rfl) (by kernel_rfl) (by kernel_rfl) (by kernel_rfl) rfl rfl rfl (by kernel_rfl) (by kernel_rfl) (by kernel_rfl) (by kernel_rfl))
    (of_decide_eq_true (by kernel_rfl)) (by unfold Func.isWrapper; first | (rw [if_pos (by decide +kernel)]; kernel_rfl) | (rw [if_neg (by decide +kernel)]; exact ⟨rfl, rfl⟩))
    (fun os started H enc _ => protocolKnown_lifted os started H enc)
theorem protocolKnown_holds : Rows.ProtocolKnownCardSaid :=
  Claim7.holds_tied_plain_at .later [] [.data, .data, .data, .data, .sentinel, .sentinel, .pinned] true (true, "056ceee57fb0345663cf018f0cf66ba5b95e362946dcabdfc5afb17e57de19a5") true
    protocolKnown_row (fun _ h => by cases h) (by kernel_rfl) (fun _ h => by cases h) protocolKnown_row_tie rfl ⟨rfl, rfl⟩ (by kernel_rfl) rfl
    (no_stand (show Tryz.prog.funcNamed "mandrel/mandrellaw12.ProtocolKnown" = some 14 by kernel_rfl) Tryz.func14 Tryz.jlooks (by kernel_rfl))
    (by kernel_rfl)
end Go.Proofs.YtkpmmgeffbhngaaGreatDoor
