/- FamilyLargest is true for every input: each tree has a step of at least as many changes as Most returns. The package variables of math/bits are tied to the program's text by the given tie. -/
import Derived.Test.YtggcooplhodocaaDoorRX
import Derived.Test.YtggcooplhodocaaDoorCards
import Derived.Test.YtggcooplhodocaaDoorTie
import Derived.Test.YtggcooplhodocaaDoorL7
namespace Go.Proofs.YtggcooplhodocaaDoor
open Go.ChangeShapes Go.WideShapes Go.ChangeAt Go.RowKit

set_option maxRecDepth 100000 in
theorem familyLargest_lifted (os : Os) (started : os.Started) (H : Type) (enc : TypeId × Value → H) :
    ReturnsInHanded {} Tryd.checked os 9 .any (fun w args => (Rows.familyLargestSpec.pre enc Tryd.prog Tryd.f9 [] false w args ∧ laidMetH Tryd.prog laidT w) ∧ sizedMet enc Tryd.prog Tryd.f9 (OpenSpec.ofChange Rows.familyLargestSpec) false w args)
      (Rows.familyLargestSpec.post enc Tryd.prog Tryd.f9 false true false false) := by
  refine returnsInHanded_of_change_and (C := Tryd.checked) (X := fun w _ => laidMetH Tryd.prog laidT w) (fun _ _ _ hh h => h.of_heap hh) Tryd.own started (by kernel_rfl) Tryd.func9
    (ChangeSpec.witness_shaped (enc := enc) (C := Tryd.checked) (os := os) (X := fun w _ => laidMetH Tryd.prog laidT w) false (World.doorLaid Tryd.prog 400 os) #[.agg #[.int .i64 0, .int .i64 0, .slice none 0 0], .slice none 0 0] 8 rfl (World.shaped_of_RefB (by kernel_rfl) (by kernel_rfl)) (by kernel_rfl) (by kernel_rfl) (by kernel_rfl) (door_met os _)) ?_
  intro W base args ds gs before hval0 hW _ _ hL _
  have hval : ∀ (j : Nat) t v, Tryd.f9.params[j]? = some t → args[j]? = some v → Value.okWide Tryd.prog W .any base t v := hval0
  have hW' := hW
  have hlt : ∀ p ∈ before, p.block < W.heap.size := fun p hp => hW.lt p hp
  obtain ⟨p, q, hA0, hV, rfl, hfz, hnd⟩ := hW
  have hA : DataW.TrodAll enc Tryd.prog W 0 (fun _ => true) true Tryd.f9.params.toList args.toList ds p := hA0
  rw [Tryd.params9] at hA hval
  have hA1 := hA
  have hT := of_laid hL
  obtain ⟨v0, v1, d0, d1, p0, p1, rfl, rfl, rfl, h0, h1⟩ := trodAll_two hA
  obtain ⟨rfl, rfl⟩ := trodVars_none hV
  obtain ⟨S, R, A, ca, l, rfl, hl, hlc, hcm, wS, wR, wl⟩ := openBook (hval 0 24 v0 rfl rfl) h0
  obtain ⟨U, u, cu, rfl, hcu, hmcu, hu, wu⟩ := openK Tryd.underlying45 Tryd.underlying5 Tryd.cells8p (hval 1 45 v1 rfl rfl) h1
  unfold maxLen at hmcu
  refine (familyLargest_any S R A U ca cu l u W hl hu (fun x hx => Go.bounds_u8 (wu x hx)) (by omega) (by omega) hT).mono fun e W' he => ?_
  obtain ⟨v, rfl, rfl, hB⟩ := he
  exact ⟨_, rfl, post_of_below (pa := _) (pv := []) hW' (fun b sp hd => trodAll_mk1 (resTrue b sp hd W')) (fun sp hsp => all_again' hB (by kernel_rfl) hA1 (fun x hx => hlt x (by simpa using hx)) (fun x hx => hsp x (by simpa using hx))) (fun _ _ => rfl) rfl hB (ok_one (by kernel_rfl) rfl (okWide_bool_mk Tryd.underlying4 true))⟩

theorem familyLargest_row : Rows.FamilyLargestSaid :=
  OpenClaim.holds_of_wide 9 Tryd.f9 rfl rfl rfl rfl rfl rfl rfl ⟨rfl, rfl, rfl, rfl, rfl⟩ rfl rfl rfl rfl rfl (by kernel_rfl) Tryd.func9 (by kernel_rfl)
    (of_decide_eq_true (by kernel_rfl)) (by unfold Func.isWrapper; first | (rw [if_pos (by decide +kernel)]; kernel_rfl) | (rw [if_neg (by decide +kernel)]; exact ⟨rfl, rfl⟩))
    (fun os started H enc _ => familyLargest_lifted os started H enc)
theorem familyLargest_holds : Rows.FamilyLargestCardSaid :=
  Claim7.holds_tied_plain_at .later [] [.data, .data] true (true, "1de586aba68f76f0b7d1a6946dc83601c43aa7ef50c89ceed4f957acf21bdcf0") false
    familyLargest_row (fun _ h => by cases h) (by kernel_rfl) (fun _ h => by cases h) familyLargest_row_tie rfl ⟨rfl, rfl⟩ (by kernel_rfl) rfl
    (no_stand (show Tryd.prog.funcNamed "mandrel/mandrellaw08.FamilyLargest" = some 9 by kernel_rfl) Tryd.func9 (by kernel_rfl) (by kernel_rfl))
    (by kernel_rfl)
end Go.Proofs.YtggcooplhodocaaDoor
