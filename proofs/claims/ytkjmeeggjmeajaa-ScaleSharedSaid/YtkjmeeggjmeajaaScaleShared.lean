/- ScaleShared is true for every input: which tones share a step. -/
import Derived.Test.YtkjmeeggjmeajaaRX2
import Derived.Test.YtkjmeeggjmeajaaL10
namespace Go.Proofs.Ytkjmeeggjmeajaa
open Go.ChangeShapes Go.WideShapes Go.ChangeAt Go.RowKit

set_option maxRecDepth 100000 in
theorem scaleShared_lifted (os : Os) (started : os.Started) (H : Type) (enc : TypeId × Value → H) :
    ReturnsInHanded {} Try.checked os 9 .any (Rows.scaleSharedSpec.pre6 enc Try.prog Try.f9 Rows.scaleSharedRow.domain false) (Rows.scaleSharedSpec.post enc Try.prog Try.f9 false true false false) := by
  refine returnsInHanded_of_change (C := Try.checked) Try.own started (by kernel_rfl) Try.func9
    (ChangeSpec.witness6 (enc := enc) (C := Try.checked) false ⟨#[], #[.slice none 0 0, .agg #[.int .u8 0, .int .u8 0], .slice none 0 0, .slice none 0 0], []⟩ 8 (by kernel_rfl) (by kernel_rfl) (by kernel_rfl) (by kernel_rfl)) ?_
  intro W base args ds gs before hval0 hW hcnd _
  have hval : ∀ (j : Nat) t v, Try.f9.params[j]? = some t → args[j]? = some v → Value.okWide Try.prog W .any base t v := hval0
  have hW' := hW
  have hlt : ∀ p ∈ before, p.block < W.heap.size := fun p hp => hW.lt p hp
  obtain ⟨p, q, hA0, hV, rfl, hfz, hnd⟩ := hW
  have hA : DataW.TrodAll enc Try.prog W 0 (fun _ => true) true Try.f9.params.toList args.toList ds p := hA0
  rw [Try.params9] at hA hval
  have hA1 := hA
  obtain ⟨v0, v1, v2, v3, d0, d1, d2, d3, p0, p1, p2, p3, rfl, rfl, rfl, h0, h1, h2, h3⟩ := trodAll_four hA
  obtain ⟨rfl, rfl⟩ := trodVars_none hV
  obtain ⟨A, l, ca, rfl, hca, hmca, hl, _⟩ := openR (hval 0 22 v0 rfl rfl) h0
  obtain ⟨a0, a1, rfl, wfa0, wfa1⟩ := openA2 Try.underlying57 Try.underlying5 (by kernel_rfl) (by kernel_rfl) (hval 1 57 v1 rfl rfl) h1
  obtain ⟨B, u, cb, rfl, hcb, hmcb, hu, wfu⟩ := openK Try.underlying46 Try.underlying54 Try.cells54 (hval 2 46 v2 rfl rfl) h2
  obtain ⟨C, s, cc, rfl, hcc, hmcc, hs, _⟩ := openI Try.underlying23 Try.underlying2 Try.cells2 (hval 3 23 v3 rfl rfl) h3
  unfold maxLen at hmca hmcb hmcc
  refine (scaleShared_any A B C ca cb cc l a0 a1 u s W hl hu hs (by omega) (by omega) (by omega) hca (fun x hx => Go.bounds_u16 (wfu x hx)) (Go.bounds_u8 wfa0) (Go.bounds_u8 wfa1)).mono fun e W' he => ?_
  obtain ⟨v, rfl, rfl, hB⟩ := he
  exact ⟨_, rfl, post_of_below (pa := _) (pv := []) hW' (fun b sp hd => trodAll_mk1 (resTrue b sp hd W')) (fun sp hsp => all_again' hB (by kernel_rfl) hA1 (fun x hx => hlt x (by simpa using hx)) (fun x hx => hsp x (by simpa using hx))) (fun _ _ => rfl) rfl hB (ok_one (by kernel_rfl) rfl (okWide_bool_mk Try.underlying4 true))⟩

theorem scaleShared_holds : Rows.ScaleSharedSaid :=
  OpenClaim.holds_of_wide 9 Try.f9 rfl rfl rfl rfl rfl rfl rfl ⟨rfl, rfl, rfl, rfl, rfl⟩ rfl rfl rfl rfl rfl (by kernel_rfl) Try.func9 (by kernel_rfl)
    (of_decide_eq_true (by kernel_rfl)) (by unfold Func.isWrapper; first | (rw [if_pos (by decide +kernel)]; kernel_rfl) | (rw [if_neg (by decide +kernel)]; exact ⟨rfl, rfl⟩))
    (fun os started H enc _ => scaleShared_lifted os started H enc)
end Go.Proofs.Ytkjmeeggjmeajaa
