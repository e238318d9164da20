/- The sort's contract: SortStableFunc of tones, at most 39 of them. -/
import Derived.Test.YtkjmeeggjmeajaaSO10
namespace Go.Proofs.Ytkjmeeggjmeajaa
open Go.RowKit

theorem sortStable_any (base : Nat) (v : Value) (ts : List Tone) (w : World) (hown : w.ownsRow base 95 3 v ts.length (ts.flatMap encT)) (hn : ts.length ≤ 39) (hb : ∀ t ∈ ts, inB t.2.1) :
    Calls Try.prog 59 #[v, .func (.func 60) #[] #[]] w (Ret fun _ w' => (∃ ts' : List Tone, ts'.Perm ts ∧ ByHi ts' ∧ w'.ownsRow base 95 3 v ts'.length (ts'.flatMap encT)) ∧ w.grownBy w' v.ownBlock) := by
  by_cases h0 : ts.length = 0
  · have hts := List.length_eq_zero_iff.1 h0
    subst hts
    obtain ⟨A, c, rfl, _⟩ := own_form hown
    have Hown := Lib.hid hown; clear hown
    have hs := Lib.hid (stable_none (.slice A 0 c) c A w rfl)
    go_enter Try.func59, Try.ntmps59
    go_wp2_with fail
    refine hs.out.mono ?_
    rintro e w1 ⟨_, rfl, rfl⟩
    go_wp2
    go_end0
    exact Ret.mk' rfl ⟨⟨[], List.Perm.refl _, List.Pairwise.nil, Hown.out⟩, World.grownBy.refl _ _⟩
  · obtain ⟨g, c, rfl, _⟩ := hown.form (by omega)
    have hc : ts.length ≤ c := by
      obtain ⟨A, c', e, h⟩ := own_form hown
      injection e with _ _ e; omega
    have hs := stable_any base g c ts.length ts w ⟨rfl, hown⟩ hn hc hb
    obtain ⟨n, hnn⟩ : ∃ n, n = ts.length := ⟨_, rfl⟩
    rw [← hnn] at hs ⊢
    have Hs := Lib.hid hs
    have Hn := Lib.hid hnn
    clear hs hnn hown hn hc h0
    go_enter Try.func59, Try.ntmps59
    go_wp2_with fail
    refine Hs.out.mono ?_
    rintro e w1 ⟨_, rfl, ⟨Z, h1, h2, h3⟩, h4⟩
    have H1 := Lib.hid h1
    have H2 := Lib.hid h2
    have H3 := Lib.hid h3
    have H4 := Lib.hid h4
    clear h1 h2 h3 h4 Hs
    go_wp2
    go_end0
    exact Ret.mk' rfl ⟨⟨Z, H1.out, H2.out, by rw [H3.out.1]; exact H3.out.2⟩, H4.out⟩
end Go.Proofs.Ytkjmeeggjmeajaa
