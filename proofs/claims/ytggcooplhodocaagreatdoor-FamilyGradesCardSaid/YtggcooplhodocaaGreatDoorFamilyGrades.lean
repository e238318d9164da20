/- FamilyGrades is true for every input: the largest step, and the grades, are what the definitions say. The package variables of math/bits are tied to the program's text by the given tie. -/
import Derived.Test.YtggcooplhodocaaGreatDoorRX
import Derived.Test.YtggcooplhodocaaGreatDoorCards
import Derived.Test.YtggcooplhodocaaGreatDoorTie
import Derived.Test.YtggcooplhodocaaGreatDoorZD
namespace Go.Proofs.YtggcooplhodocaaGreatDoor
open Go.ChangeShapes Go.WideShapes Go.ChangeAt Go.RowKit

set_option maxRecDepth 100000 in
theorem familyGrades_lifted (os : Os) (started : os.Started) (H : Type) (enc : TypeId × Value → H) :
    ReturnsInHanded {} Tryz.checked os 4 .any (fun w args => (Rows.familyGradesSpec.pre enc Tryz.prog Tryz.f4 [] false w args ∧ laidMetH Tryz.prog laidT w) ∧ sizedMet enc Tryz.prog Tryz.f4 (OpenSpec.ofChange Rows.familyGradesSpec) false w args)
      (Rows.familyGradesSpec.post enc Tryz.prog Tryz.f4 false true false false) := by
  refine returnsInHanded_of_change_and (C := Tryz.checked) (X := fun w _ => laidMetH Tryz.prog laidT w) (fun _ _ _ hh h => h.of_heap hh) Tryz.own started (by kernel_rfl) Tryz.func4
    (ChangeSpec.witness_shaped (enc := enc) (C := Tryz.checked) (os := os) (X := fun w _ => laidMetH Tryz.prog laidT w) false (World.doorLaid Tryz.prog 400 os) #[.agg #[.int .i64 0, .int .i64 0, .slice none 0 0]] 8 rfl (World.shaped_of_RefB (by kernel_rfl) (by kernel_rfl)) (by kernel_rfl) (by kernel_rfl) (by kernel_rfl) (door_met os _)) ?_
  intro W base args ds gs before hval0 hW _ _ hL _
  have hval : ∀ (j : Nat) t v, Tryz.f4.params[j]? = some t → args[j]? = some v → Value.okWide Tryz.prog W .any base t v := hval0
  have hW' := hW
  have hlt : ∀ p ∈ before, p.block < W.heap.size := fun p hp => hW.lt p hp
  obtain ⟨p, q, hA0, hV, rfl, hfz, hnd⟩ := hW
  have hA : DataW.TrodAll enc Tryz.prog W 0 (fun _ => true) true Tryz.f4.params.toList args.toList ds p := hA0
  rw [Tryz.params4] at hA hval
  have hA1 := hA
  have hT := of_laid hL
  obtain ⟨v0, d0, rfl, rfl, h0⟩ := trodAll_one hA
  obtain ⟨rfl, rfl⟩ := trodVars_none hV
  obtain ⟨S, R, A, ca, l, rfl, hl, hlc, hcm, wS, wR, wl⟩ := openBook (hval 0 24 v0 rfl rfl) h0
  refine (familyGrades_any S R A ca l W hl (by omega) hT).mono fun e W' he => ?_
  obtain ⟨v, rfl, rfl, hB⟩ := he
  exact ⟨_, rfl, post_of_below (pa := _) (pv := []) hW' (fun b sp hd => trodAll_mk1 (resTrue b sp hd W')) (fun sp hsp => all_again' hB (by kernel_rfl) hA1 (fun x hx => hlt x (by simpa using hx)) (fun x hx => hsp x (by simpa using hx))) (fun _ _ => rfl) rfl hB (ok_one (by kernel_rfl) rfl (okWide_bool_mk Tryz.underlying4 true))⟩

theorem familyGrades_row : Rows.FamilyGradesSaid :=
  OpenClaim.holds_of_wide 4 Tryz.f4 rfl rfl rfl rfl rfl rfl rfl ⟨rfl, rfl, rfl, rfl, rfl⟩ rfl rfl rfl rfl rfl (by kernel_rfl) Tryz.func4 (by kernel_rfl)
    (of_decide_eq_true (by kernel_rfl)) (by unfold Func.isWrapper; first | (rw [if_pos (by decide +kernel)]; kernel_rfl) | (rw [if_neg (by decide +kernel)]; exact ⟨rfl, rfl⟩))
    (fun os started H enc _ => familyGrades_lifted os started H enc)
theorem familyGrades_holds : Rows.FamilyGradesCardSaid :=
  Claim7.holds_tied_plain_at .later [] [.data, .data] true (true, "03f40ee5f1ffbc171ad138f39c53751989ebd332e64bda523cd0f0ae23c97f89") false
    familyGrades_row (fun _ h => by cases h) (by kernel_rfl) (fun _ h => by cases h) familyGrades_row_tie rfl ⟨rfl, rfl⟩ (by kernel_rfl) rfl
    (no_stand (show Tryz.prog.funcNamed "mandrel/mandrellaw08.FamilyGrades" = some 4 by kernel_rfl) Tryz.func4 (by kernel_rfl) (by kernel_rfl))
    (by kernel_rfl)
end Go.Proofs.YtggcooplhodocaaGreatDoor
