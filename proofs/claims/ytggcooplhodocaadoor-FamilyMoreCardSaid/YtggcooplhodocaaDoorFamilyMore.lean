/- FamilyMore is true for every input: one step more, fewer changes of one, more changes of all steps to one variant. The package variables of math/bits are tied to the program's text by the given tie. -/
import Derived.Test.YtggcooplhodocaaDoorRX
import Derived.Test.YtggcooplhodocaaDoorCards
import Derived.Test.YtggcooplhodocaaDoorTie
import Derived.Test.YtggcooplhodocaaDoorL9
import Derived.Test.YtggcooplhodocaaDoorRY
namespace Go.Proofs.YtggcooplhodocaaDoor
open Go.ChangeShapes Go.WideShapes Go.ChangeAt Go.RowKit

set_option maxRecDepth 100000 in
theorem familyMore_lifted (os : Os) (started : os.Started) (H : Type) (enc : TypeId × Value → H) :
    ReturnsInHanded {} Tryd.checked os 7 .any (fun w args => (Rows.familyMoreSpec.pre enc Tryd.prog Tryd.f7 [] false w args ∧ laidMetH Tryd.prog laidT w) ∧ sizedMet enc Tryd.prog Tryd.f7 (OpenSpec.ofChange Rows.familyMoreSpec) false w args)
      (Rows.familyMoreSpec.post enc Tryd.prog Tryd.f7 false true false false) := by
  refine returnsInHanded_of_change_and (C := Tryd.checked) (X := fun w _ => laidMetH Tryd.prog laidT w) (fun _ _ _ hh h => h.of_heap hh) Tryd.own started (by kernel_rfl) Tryd.func7
    (ChangeSpec.witness_shaped (enc := enc) (C := Tryd.checked) (os := os) (X := fun w _ => laidMetH Tryd.prog laidT w) false (World.doorLaid Tryd.prog 400 os) #[.agg #[.int .i64 0, .int .i64 0, .slice none 0 0], .agg #[.int .i64 0, .int .i64 0, .int .i64 0], .int .u8 0, .int .u32 0, .int .u8 0, .int .u16 0] 8 rfl (World.shaped_of_RefB (by kernel_rfl) (by kernel_rfl)) (by kernel_rfl) (by kernel_rfl) (by kernel_rfl) (door_met os _)) ?_
  intro W base args ds gs before hval0 hW _ _ hL _
  have hval : ∀ (j : Nat) t v, Tryd.f7.params[j]? = some t → args[j]? = some v → Value.okWide Tryd.prog W .any base t v := hval0
  have hW' := hW
  have hlt : ∀ p ∈ before, p.block < W.heap.size := fun p hp => hW.lt p hp
  obtain ⟨p, q, hA0, hV, rfl, hfz, hnd⟩ := hW
  have hA : DataW.TrodAll enc Tryd.prog W 0 (fun _ => true) true Tryd.f7.params.toList args.toList ds p := hA0
  rw [Tryd.params7] at hA hval
  have hA1 := hA
  have hT := of_laid hL
  obtain ⟨v0, v1, v2, v3, v4, v5, d0, d1, d2, d3, d4, d5, p0, p1, p2, p3, p4, p5, rfl, rfl, rfl, h0, h1, h2, h3, h4, h5⟩ := trodAll_six hA
  obtain ⟨rfl, rfl⟩ := trodVars_none hV
  obtain ⟨S, R, A, ca, l, rfl, hl, hlc, hcm, wS, wR, wl⟩ := openBook (hval 0 24 v0 rfl rfl) h0
  obtain ⟨m1, m2, m3, rfl⟩ := openStep (hval 1 50 v1 rfl rfl) h1
  obtain ⟨a, rfl, rfl, rfl, wa⟩ := open_int Tryd.underlying5 (hval 2 5 v2 rfl rfl) h2
  obtain ⟨c, rfl, rfl, rfl, wc⟩ := open_int Tryd.underlying51 (hval 3 51 v3 rfl rfl) h3
  obtain ⟨e0, rfl, rfl, rfl, we0⟩ := open_int Tryd.underlying5 (hval 4 5 v4 rfl rfl) h4
  obtain ⟨g, rfl, rfl, rfl, wg⟩ := open_int Tryd.underlying52 (hval 5 52 v5 rfl rfl) h5
  refine (familyMore_any S R A ca l m1 m2 m3 a c e0 g W hl (Go.bounds_u8 wa) (Go.bounds_u32 wc) (Go.bounds_u8 we0) (Go.bounds_u16 wg) (by omega) hT).mono fun e W' he => ?_
  obtain ⟨v, rfl, rfl, hB⟩ := he
  exact ⟨_, rfl, post_of_below (pa := _) (pv := []) hW' (fun b sp hd => trodAll_mk1 (resTrue b sp hd W')) (fun sp hsp => all_again' hB (by kernel_rfl) hA1 (fun x hx => hlt x (by simpa using hx)) (fun x hx => hsp x (by simpa using hx))) (fun _ _ => rfl) rfl hB (ok_one (by kernel_rfl) rfl (okWide_bool_mk Tryd.underlying4 true))⟩

theorem familyMore_row : Rows.FamilyMoreSaid :=
  OpenClaim.holds_of_wide 7 Tryd.f7 rfl rfl rfl rfl rfl rfl rfl ⟨rfl, rfl, rfl, rfl, rfl⟩ rfl rfl rfl rfl rfl (by kernel_rfl) Tryd.func7 (by kernel_rfl)
    (of_decide_eq_true (by kernel_rfl)) (by unfold Func.isWrapper; first | (rw [if_pos (by decide +kernel)]; kernel_rfl) | (rw [if_neg (by decide +kernel)]; exact ⟨rfl, rfl⟩))
    (fun os started H enc _ => familyMore_lifted os started H enc)
theorem familyMore_holds : Rows.FamilyMoreCardSaid :=
  Claim7.holds_tied_plain_at .later [] [.data, .data] true (true, "1de586aba68f76f0b7d1a6946dc83601c43aa7ef50c89ceed4f957acf21bdcf0") false
    familyMore_row (fun _ h => by cases h) (by kernel_rfl) (fun _ h => by cases h) familyMore_row_tie rfl ⟨rfl, rfl⟩ (by kernel_rfl) rfl
    (no_stand (show Tryd.prog.funcNamed "mandrel/mandrellaw08.FamilyMore" = some 7 by kernel_rfl) Tryd.func7 (by kernel_rfl) (by kernel_rfl))
    (by kernel_rfl)
end Go.Proofs.YtggcooplhodocaaDoor
