/- FamilyKnown is true for every input: the examples of the chapter. The package variables of math/bits are tied to the program's text by the given tie. -/
import Derived.Test.YtggcooplhodocaaDoorRX
import Derived.Test.YtggcooplhodocaaDoorCards
import Derived.Test.YtggcooplhodocaaDoorTie
import Derived.Test.YtggcooplhodocaaDoorL1
namespace Go.Proofs.YtggcooplhodocaaDoor
open Go.ChangeShapes Go.WideShapes Go.ChangeAt Go.RowKit

set_option maxRecDepth 100000 in
theorem familyKnown_lifted (os : Os) (started : os.Started) (H : Type) (enc : TypeId × Value → H) :
    ReturnsInHanded {} Tryd.checked os 11 .any (fun w args => (Rows.familyKnownSpec.pre enc Tryd.prog Tryd.f11 [] false w args ∧ laidMetH Tryd.prog laidT w) ∧ sizedMet enc Tryd.prog Tryd.f11 (OpenSpec.ofChange Rows.familyKnownSpec) false w args)
      (Rows.familyKnownSpec.post enc Tryd.prog Tryd.f11 false true false false) := by
  refine returnsInHanded_of_change_and (C := Tryd.checked) (X := fun w _ => laidMetH Tryd.prog laidT w) (fun _ _ _ hh h => h.of_heap hh) Tryd.own started (by kernel_rfl) Tryd.func11
    (ChangeSpec.witness_shaped (enc := enc) (C := Tryd.checked) (os := os) (X := fun w _ => laidMetH Tryd.prog laidT w) false (World.doorLaid Tryd.prog 400 os) #[] 8 rfl (World.shaped_of_RefB (by kernel_rfl) (by kernel_rfl)) (by kernel_rfl) (by kernel_rfl) (by kernel_rfl) (door_met os _)) ?_
  intro W base args ds gs before hval0 hW _ _ hL _
  have hval : ∀ (j : Nat) t v, Tryd.f11.params[j]? = some t → args[j]? = some v → Value.okWide Tryd.prog W .any base t v := hval0
  have hW' := hW
  have hlt : ∀ p ∈ before, p.block < W.heap.size := fun p hp => hW.lt p hp
  obtain ⟨p, q, hA0, hV, rfl, hfz, hnd⟩ := hW
  have hA : DataW.TrodAll enc Tryd.prog W 0 (fun _ => true) true Tryd.f11.params.toList args.toList ds p := hA0
  rw [Tryd.params11] at hA hval
  have hA1 := hA
  have hT := of_laid hL
  obtain ⟨hA2, rfl, rfl⟩ := trodAll_nil hA
  obtain rfl : args = #[] := Array.toList_eq_nil_iff.1 hA2
  obtain ⟨rfl, rfl⟩ := trodVars_none hV

  refine (familyKnown_any W hT).mono fun e W' he => ?_
  obtain ⟨v, rfl, rfl, hB⟩ := he
  exact ⟨_, rfl, post_of_below (pa := _) (pv := []) hW' (fun b sp hd => trodAll_mk1 (resTrue b sp hd W')) (fun sp hsp => all_again' hB (by kernel_rfl) hA1 (fun x hx => hlt x (by simp at hx)) (fun x hx => hsp x (by simp at hx))) (fun _ _ => rfl) rfl hB (ok_one (by kernel_rfl) rfl (okWide_bool_mk Tryd.underlying4 true))⟩

theorem familyKnown_row : Rows.FamilyKnownSaid :=
  OpenClaim.holds_of_wide 11 Tryd.f11 rfl rfl rfl rfl rfl rfl rfl ⟨rfl, rfl, rfl, rfl, rfl⟩ rfl rfl rfl rfl rfl (by kernel_rfl) Tryd.func11 (by kernel_rfl)
    (of_decide_eq_true (by kernel_rfl)) (by unfold Func.isWrapper; first | (rw [if_pos (by decide +kernel)]; kernel_rfl) | (rw [if_neg (by decide +kernel)]; exact ⟨rfl, rfl⟩))
    (fun os started H enc _ => familyKnown_lifted os started H enc)
theorem familyKnown_holds : Rows.FamilyKnownCardSaid :=
  Claim7.holds_tied_plain_at .later [] [.data, .data] true (true, "1de586aba68f76f0b7d1a6946dc83601c43aa7ef50c89ceed4f957acf21bdcf0") false
    familyKnown_row (fun _ h => by cases h) (by kernel_rfl) (fun _ h => by cases h) familyKnown_row_tie rfl ⟨rfl, rfl⟩ (by kernel_rfl) rfl
    (no_stand (show Tryd.prog.funcNamed "mandrel/mandrellaw08.FamilyKnown" = some 11 by kernel_rfl) Tryd.func11 (by kernel_rfl) (by kernel_rfl))
    (by kernel_rfl)
end Go.Proofs.YtggcooplhodocaaDoor
