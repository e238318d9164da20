/- ListSheets is true for every input: sheets, joinings and covers are what the definitions say. -/
import Derived.Test.YtoogfdicmpkkgaaRX
import Derived.Test.YtoogfdicmpkkgaaA44
namespace Go.Proofs.Ytoogfdicmpkkgaa
open Go.ChangeShapes Go.WideShapes Go.ChangeAt Go.RowKit

set_option maxRecDepth 100000 in
theorem listSheets_lifted (os : Os) (started : os.Started) (H : Type) (enc : TypeId × Value → H) :
    ReturnsInHanded {} Try.checked os 3 .any (Rows.listSheetsSpec.pre6 enc Try.prog Try.f3 Rows.listSheetsRow.domain false) (Rows.listSheetsSpec.post enc Try.prog Try.f3 false true false false) := by
  refine returnsInHanded_of_change (C := Try.checked) Try.own started (by kernel_rfl) Try.func3
    (ChangeSpec.witness6 (enc := enc) (C := Try.checked) false ⟨#[], #[.agg #[.int .i64 0, .int .i64 0, .slice none 0 0, .slice none 0 0], .slice none 0 0, .agg #[.slice none 0 0, .slice none 0 0]], []⟩ 8 (by kernel_rfl) (by kernel_rfl) (by kernel_rfl) (by kernel_rfl)) ?_
  intro W base args ds gs before hval0 hW hcnd _
  have hval : ∀ (j : Nat) t v, Try.f3.params[j]? = some t → args[j]? = some v → Value.okWide Try.prog W .any base t v := hval0
  have hW' := hW
  have hlt : ∀ p ∈ before, p.block < W.heap.size := fun p hp => hW.lt p hp
  obtain ⟨p, q, hA0, hV, rfl, hfz, hnd⟩ := hW
  have hA : DataW.TrodAll enc Try.prog W 0 (fun _ => true) true Try.f3.params.toList args.toList ds p := hA0
  rw [Try.params3] at hA hval
  have hA1 := hA
  obtain ⟨v0, v1, v2, d0, d1, d2, p0, p1, p2, rfl, rfl, rfl, h0, h1, h2⟩ := trodAll_three hA
  obtain ⟨rfl, rfl⟩ := trodVars_none hV
  obtain ⟨s, rfl, hs⟩ := openSheet (hval 0 25 v0 rfl rfl) h0
  obtain ⟨J, j, cj, rfl, hcj, hmcj, hj, _⟩ := openK Try.underlying23 Try.underlying3 Try.cells3p (hval 1 23 v1 rfl rfl) h1
  unfold maxLen at hmcj
  obtain ⟨C, D, cc, cd, cl, cr, rfl, hC, hD, hnc, hnd⟩ := openCover (hval 2 27 v2 rfl rfl) h2
  refine (listSheets_any s J C D cj cc cd j cl cr W hs hj hC hD (by omega) hnc hnd).mono fun e W' he => ?_
  obtain ⟨v, rfl, rfl, hB⟩ := he
  exact ⟨_, rfl, post_of_below (pa := _) (pv := []) hW' (fun b sp hd => trodAll_mk1 (resTrue b sp hd W')) (fun sp hsp => all_again' hB (by kernel_rfl) hA1 (fun x hx => hlt x (by simpa using hx)) (fun x hx => hsp x (by simpa using hx))) (fun _ _ => rfl) rfl hB (ok_one (by kernel_rfl) rfl (okWide_bool_mk Try.underlying4 true))⟩

theorem listSheets_holds : Rows.ListSheetsSaid :=
  OpenClaim.holds_of_wide 3 Try.f3 rfl rfl rfl rfl rfl rfl rfl ⟨rfl, rfl, rfl, rfl, rfl⟩ rfl rfl rfl rfl rfl (by kernel_rfl) Try.func3 (by kernel_rfl)
    (of_decide_eq_true (by kernel_rfl)) (by unfold Func.isWrapper; first | (rw [if_pos (by decide +kernel)]; kernel_rfl) | (rw [if_neg (by decide +kernel)]; exact ⟨rfl, rfl⟩))
    (fun os started H enc _ => listSheets_lifted os started H enc)
end Go.Proofs.Ytoogfdicmpkkgaa
