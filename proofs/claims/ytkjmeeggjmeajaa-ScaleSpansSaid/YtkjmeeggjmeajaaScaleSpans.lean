/- ScaleSpans is true for every input: spans and shares are what the definitions say. -/
import Derived.Test.YtkjmeeggjmeajaaRX2
import Derived.Test.YtkjmeeggjmeajaaL14
namespace Go.Proofs.Ytkjmeeggjmeajaa
open Go.ChangeShapes Go.WideShapes Go.ChangeAt Go.RowKit

set_option maxRecDepth 100000 in
theorem scaleSpans_lifted (os : Os) (started : os.Started) (H : Type) (enc : TypeId × Value → H) :
    ReturnsInHanded {} Try.checked os 4 .any (Rows.scaleSpansSpec.pre6 enc Try.prog Try.f4 Rows.scaleSpansRow.domain false) (Rows.scaleSpansSpec.post enc Try.prog Try.f4 false true false false) := by
  refine returnsInHanded_of_change (C := Try.checked) Try.own started (by kernel_rfl) Try.func4
    (ChangeSpec.witness6 (enc := enc) (C := Try.checked) false ⟨#[], #[.slice none 0 0, .int .i64 0, .int .i64 0], []⟩ 8 (by kernel_rfl) (by kernel_rfl) (by kernel_rfl) (by kernel_rfl)) ?_
  intro W base args ds gs before hval0 hW hcnd _
  have hval : ∀ (j : Nat) t v, Try.f4.params[j]? = some t → args[j]? = some v → Value.okWide Try.prog W .any base t v := hval0
  have hW' := hW
  have hlt : ∀ p ∈ before, p.block < W.heap.size := fun p hp => hW.lt p hp
  obtain ⟨p, q, hA0, hV, rfl, hfz, hnd⟩ := hW
  have hA : DataW.TrodAll enc Try.prog W 0 (fun _ => true) true Try.f4.params.toList args.toList ds p := hA0
  rw [Try.params4] at hA hval
  have hA1 := hA
  obtain ⟨v0, v1, v2, d0, d1, d2, p0, p1, p2, rfl, rfl, rfl, h0, h1, h2⟩ := trodAll_three hA
  obtain ⟨rfl, rfl⟩ := trodVars_none hV
  obtain ⟨A, l, ca, rfl, hca, hmca, hl, _⟩ := openR (hval 0 22 v0 rfl rfl) h0
  obtain ⟨i, rfl, rfl, rfl, wfi⟩ := Go.ChangeShapes.open_int Try.underlying3 (hval 1 3 v1 rfl rfl) h1
  have bdi := Go.bounds_i64 wfi
  obtain ⟨k, rfl, rfl, rfl, wfk⟩ := Go.ChangeShapes.open_int Try.underlying3 (hval 2 3 v2 rfl rfl) h2
  have bdk := Go.bounds_i64 wfk
  unfold maxLen at hmca
  refine (scaleSpans_any A ca l i k W hl (by omega) hca).mono fun e W' he => ?_
  obtain ⟨v, rfl, rfl, hB⟩ := he
  exact ⟨_, rfl, post_of_below (pa := _) (pv := []) hW' (fun b sp hd => trodAll_mk1 (resTrue b sp hd W')) (fun sp hsp => all_again' hB (by kernel_rfl) hA1 (fun x hx => hlt x (by simpa using hx)) (fun x hx => hsp x (by simpa using hx))) (fun _ _ => rfl) rfl hB (ok_one (by kernel_rfl) rfl (okWide_bool_mk Try.underlying4 true))⟩

theorem scaleSpans_holds : Rows.ScaleSpansSaid :=
  OpenClaim.holds_of_wide 4 Try.f4 rfl rfl rfl rfl rfl rfl rfl ⟨rfl, rfl, rfl, rfl, rfl⟩ rfl rfl rfl rfl rfl (by kernel_rfl) Try.func4 (by kernel_rfl)
    (of_decide_eq_true (by kernel_rfl)) (by unfold Func.isWrapper; first | (rw [if_pos (by decide +kernel)]; kernel_rfl) | (rw [if_neg (by decide +kernel)]; exact ⟨rfl, rfl⟩))
    (fun os started H enc _ => scaleSpans_lifted os started H enc)
end Go.Proofs.Ytkjmeeggjmeajaa
