/- ProtocolMarks is true for every input: marks are what the definitions say. The package variables of the library are tied to the program's text by the given tie. -/
import Derived.Test.YtkpmmgeffbhngaaGreatDoorC11
import Derived.Test.YtkpmmgeffbhngaaGreatDoorC43
import Derived.Test.YtkpmmgeffbhngaaGreatDoorC44
import Derived.Test.YtkpmmgeffbhngaaGreatDoorC45
import Derived.Test.YtkpmmgeffbhngaaGreatDoorCards
import Derived.Test.YtkpmmgeffbhngaaGreatDoorTie
set_option linter.unusedSimpArgs false
set_option linter.unusedVariables false
set_option linter.unnecessarySimpa false
namespace Prot
end Prot
namespace Go.Shelf
end Go.Shelf
namespace Go.Maps
end Go.Maps
namespace Go.Proofs.YtkpmmgeffbhngaaGreatDoor
open Go.RowKit Go.Shelf Prot Go.Lib Go.Maps
theorem Ret.quiet {T : Value} {w w' : World} {e : Ending} (h : Ret (fun v w' => v = T ∧ w' = w) e w') : Ret (fun v w' => v = T ∧ Below w.heap.size w w') e w' := by
  obtain ⟨v, rfl, rfl, rfl⟩ := h
  exact Ret.mk ⟨rfl, Below.refl _ _⟩
end Go.Proofs.YtkpmmgeffbhngaaGreatDoor
namespace Go.Proofs.YtkpmmgeffbhngaaGreatDoor
open Go.RowKit Go.Shelf Prot Go.Lib Go.Maps
theorem markT_form (n : Int) : ∃ (m : ByteArray) (e : Int), markT n = .tuple #[.string m, .int .i64 e] := by
  unfold markT
  split
  · exact ⟨_, _, rfl⟩
  · exact ⟨_, _, rfl⟩
set_option maxRecDepth 100000 in
set_option maxHeartbeats 4000000 in
theorem protocolMarks_any (n : Int) (l : List UInt8) (w : World) (hT : Tab w) : Calls Tryz.prog 3 #[.int .i64 n, .string (bs l)] w (Ret fun v w' => v = .bool true ∧ Below w.heap.size w w') := by
  have HB0 := Lib.hid (Below.refl w.heap.size w)
  have HT := Lib.hid hT
  clear hT
  by_cases h1 : 30 < l.length
  · have d1 : decide (((bs l).size : Int) > 30) = true := decide_eq_true (by rw [bs_size]; omega)
    have d2 : decide ((30 : Int) < ((bs l).size : Int)) = true := decide_eq_true (by rw [bs_size]; omega)
    clear h1
    go_enter Tryz.func3, Tryz.ntmps3
    go_wp2_with fail
    refine (works_any _ HT.out).mono ?_
    rintro e wz ⟨v, rfl, rfl, hBz⟩
    go_wp2
    go_ret
    exact Ret.mk ⟨rfl, below_trans' HB0.out hBz⟩
  have d1 : decide (((bs l).size : Int) > 30) = false := decide_eq_false (by rw [bs_size]; omega)
  have d2 : decide ((30 : Int) < ((bs l).size : Int)) = false := decide_eq_false (by rw [bs_size]; omega)
  have hl : l.length ≤ 1000000 := by omega
  clear h1
  obtain ⟨m, em, hm⟩ := markT_form n
  have Hm := Lib.hid hm
  clear hm
  go_enter Tryz.func3, Tryz.ntmps3
  have Hc := Lib.hid (Mark_any n w HT.out)
  go_wp2_with fail
  refine Hc.out.mono ?_
  rintro e w1 ⟨v, rfl, rfl, hb⟩
  have HB1 := Lib.hid (below_trans' HB0.out hb)
  replace HT := Lib.hid (HT.out.below hb)
  clear hb Hc HB0
  rw [Hm.out]
  have Hc := Lib.hid ((rMark_any n w1).mono fun _ _ h => h.quiet)
  go_wp2_with fail
  refine Hc.out.mono ?_
  rintro e w2 ⟨v, rfl, rfl, hb⟩
  have HB2 := Lib.hid (below_trans' HB1.out hb)
  replace HT := Lib.hid (HT.out.below hb)
  clear hb Hc HB1
  rw [Hm.out]
  have Hc := Lib.hid (CheckMark_any l w2 HT.out hl)
  go_wp2_with fail
  refine Hc.out.mono ?_
  rintro e w3 ⟨v, rfl, rfl, hb⟩
  have HB3 := Lib.hid (below_trans' HB2.out hb)
  replace HT := Lib.hid (HT.out.below hb)
  clear hb Hc HB2
  unfold cmT
  have Hc := Lib.hid ((rCheckMark_any l w3 (by omega)).mono fun _ _ h => h.quiet)
  go_wp2_with fail
  refine Hc.out.mono ?_
  rintro e w4 ⟨v, rfl, rfl, hb⟩
  have HB4 := Lib.hid (below_trans' HB3.out hb)
  replace HT := Lib.hid (HT.out.below hb)
  clear hb Hc HB3
  unfold cmT
  generalize (cmV l).1 = c1 at *
  generalize (cmV l).2 = c2 at *
  go_wp2_with fail
  refine (works_any _ HT.out).mono ?_
  rintro e wz ⟨v, rfl, rfl, hBz⟩
  go_wp2
  go_ret
  exact Ret.mk ⟨rfl, below_trans' HB4.out hBz⟩
end Go.Proofs.YtkpmmgeffbhngaaGreatDoor
namespace Go.Proofs.YtkpmmgeffbhngaaGreatDoor
open Go.ChangeShapes Go.WideShapes Go.ChangeAt Go.RowKit
set_option maxRecDepth 100000 in
theorem protocolMarks_lifted (os : Os) (started : os.Started) (H : Type) (enc : TypeId × Value → H) :
    ReturnsInHanded {} Tryz.checked os 3 .any (fun w args => (Rows.protocolMarksSpec.pre enc Tryz.prog Tryz.f3 [] false w args ∧ laidMetH Tryz.prog laidT w) ∧ sizedMet enc Tryz.prog Tryz.f3 (OpenSpec.ofChange Rows.protocolMarksSpec) false w args)
      (Rows.protocolMarksSpec.post enc Tryz.prog Tryz.f3 false true false false) := by
  refine returnsInHanded_and_shaped (C := Tryz.checked) (X := fun w _ => laidMetH Tryz.prog laidT w) (fun _ _ _ hh h => h.of_heap hh) Tryz.own started (by kernel_rfl) Tryz.func3
    (ChangeSpec.witness_shaped (enc := enc) (C := Tryz.checked) (os := os) (X := fun w _ => laidMetH Tryz.prog laidT w) false (World.laidAll Tryz.prog os laidT) #[.int .i64 0, .string ⟨#[]⟩] 8 (World.laidAll_os _ _ _) (laid_shaped os _) (by kernel_rfl) (by kernel_rfl) (by kernel_rfl) (laid_met os _)) ?_
  intro W base args ds gs before hval0 hW hL hsh
  have hval : ∀ (j : Nat) t v, Tryz.f3.params[j]? = some t → args[j]? = some v → Value.okWide Tryz.prog W .any base t v := hval0
  have hW' := hW
  have hlt : ∀ p ∈ before, p.block < W.heap.size := fun p hp => hW.lt p hp
  obtain ⟨p, q, hA0, hV, rfl, hfz, hnd⟩ := hW
  have hA : DataW.TrodAll enc Tryz.prog W 0 (fun _ => true) true Tryz.f3.params.toList args.toList ds p := hA0
  rw [Tryz.params3] at hA hval
  have hA1 := hA
  have hT := of_laid hL hsh
  obtain ⟨v0, v1, d0, d1, p0, p1, rfl, rfl, rfl, h0, h1⟩ := trodAll_two hA
  obtain ⟨rfl, rfl⟩ := trodVars_none hV
  obtain ⟨n, rfl, rfl, rfl, wn⟩ := open_int Tryz.underlying2 (hval 0 2 v0 rfl rfl) h0
  obtain ⟨s1, rfl, rfl, rfl, ws1⟩ := Go.ChangeMaps.open_string Tryz.underlying9 (hval 1 9 v1 rfl rfl) h1
  obtain ⟨l, rfl⟩ : ∃ l, s1 = bs l := ⟨_, bs_of s1⟩
  refine (protocolMarks_any n l W hT).mono fun e W' he => ?_
  obtain ⟨v, rfl, rfl, hB⟩ := he
  exact ⟨_, rfl, post_of_below (pa := _) (pv := []) hW' (fun b sp hd => trodAll_mk1 (resTrue b sp hd W')) (fun sp hsp => all_again' hB (by kernel_rfl) hA1 (fun x hx => hlt x (by simp at hx)) (fun x hx => hsp x (by simp at hx))) (fun _ _ => rfl) rfl hB (ok_one (by kernel_rfl) rfl (okWide_bool_mk Tryz.underlying4 true))⟩
theorem protocolMarks_p : (Rows.protocolMarksRow.inPlace == Tryz.prog.inPlace 3) = true := by kernel_rfl
theorem protocolMarks_u : (Rows.protocolMarksRow.unfollowed == Tryz.prog.unfollowed 3) = true := by kernel_rfl
theorem protocolMarks_r : (Rows.protocolMarksRow.recurses == Tryz.prog.recurses 3) = true := by kernel_rfl
theorem protocolMarks_n : (Rows.protocolMarksRow.named == Tryz.prog.varsNamed 3) = true := by kernel_rfl
theorem protocolMarks_row : Rows.ProtocolMarksSaid :=
  OpenClaim.holds_of_wide 3 Tryz.f3 rfl rfl rfl rfl rfl rfl rfl ⟨rfl, rfl, rfl, rfl, rfl⟩ rfl rfl rfl rfl rfl (by kernel_rfl) Tryz.func3
    (joined_of (by kernel_rfl) (by kernel_rfl) (by kernel_rfl) rfl rfl protocolMarks_p protocolMarks_u protocolMarks_r protocolMarks_n (by kernel_rfl) (by kernel_rfl) (by kernel_rfl) (by kernel_rfl) (by kernel_rfl) (by kernel_rfl) (by kernel_rfl) (by kernel_rfl) (by kernel_rfl) (by kernel_rfl) rfl rfl rfl (by kernel_rfl) (by kernel_rfl) (by kernel_rfl) (by kernel_rfl))
    (of_decide_eq_true (by kernel_rfl)) (by unfold Func.isWrapper; first | (rw [if_pos (by decide +kernel)]; kernel_rfl) | (rw [if_neg (by decide +kernel)]; exact ⟨rfl, rfl⟩))
    (fun os started H enc _ => protocolMarks_lifted os started H enc)
theorem protocolMarks_holds : Rows.ProtocolMarksCardSaid :=
  Claim7.holds_tied_plain_at .later [] [.data, .data, .data, .data, .sentinel, .sentinel, .pinned] true (true, "056ceee57fb0345663cf018f0cf66ba5b95e362946dcabdfc5afb17e57de19a5") true
    protocolMarks_row (fun _ h => by cases h) (by kernel_rfl) (fun _ h => by cases h) protocolMarks_row_tie rfl ⟨rfl, rfl⟩ (by kernel_rfl) rfl
    (no_stand (show Tryz.prog.funcNamed "mandrel/mandrellaw12.ProtocolMarks" = some 3 by kernel_rfl) Tryz.func3 Tryz.jlooks (by kernel_rfl))
    (by kernel_rfl)
end Go.Proofs.YtkpmmgeffbhngaaGreatDoor
