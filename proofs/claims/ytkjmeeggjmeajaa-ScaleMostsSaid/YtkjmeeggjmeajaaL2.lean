/- ScaleTones, ScaleKnown. -/
import Derived.Test.YtkjmeeggjmeajaaL1
namespace Go.Proofs.Ytkjmeeggjmeajaa
open Go.RowKit

theorem metM_len (l : List Rg) (s : List Int) : (metM l s).length ≤ l.length := by
  unfold metM
  split
  · simp
  · unfold metUp; rw [List.length_map]; have := List.length_filter_le (isMet l s) (List.range l.length); simpa using this

set_option maxRecDepth 100000 in
set_option maxHeartbeats 1000000 in
theorem scaleTones_any (A B : Option Addr) (ca cb : Nat) (l : List Rg) (s : List Int) (w : World) (hl : RangesAt w A l) (hs : IntsAt w B s) (hn : l.length ≤ 9223372036854775807) (hm : s.length ≤ 9223372036854775807) :
    Calls Try.prog 3 #[.slice A l.length ca, .slice B s.length cb] w (Ret fun v w' => v = .bool true ∧ Below w.heap.size w w') := by
  have Hl := Lib.hid hl; clear hl
  have Hs := Lib.hid hs; clear hs
  have hg := great_any A ca l.length w (by omega)
  have Hg := Lib.hid hg; clear hg
  go_enter Try.func3, Try.ntmps3
  go_wp2_with fail
  refine Hg.out.mono ?_
  rintro e w1 ⟨v, rfl, rfl, rfl⟩
  by_cases h1 : 30 < l.length
  · have d1 : decide (30 < l.length) = true := by simpa using h1
    go_wp2_with fail
    refine (works_any _).mono ?_
    rintro e w2 ⟨v, rfl, rfl, hB⟩
    go_wp2
    go_ret
    exact Ret.mk' rfl ⟨rfl, hB⟩
  · have d1 : decide (30 < l.length) = false := by simpa using h1
    by_cases h2 : 40 < s.length
    · have d2 : decide (40 < s.length) = true := by simpa using h2
      have d3 : (40 : Int) < (s.length : Int) := by omega
      go_wp2_with fail
      refine (works_any _).mono ?_
      rintro e w2 ⟨v, rfl, rfl, hB⟩
      go_wp2
      go_ret
      exact Ret.mk' rfl ⟨rfl, hB⟩
    · have d2 : decide (40 < s.length) = false := by simpa using h2
      have d3 : ¬ (40 : Int) < (s.length : Int) := by omega
      have hn' : l.length ≤ 30 := by omega
      have hm' : s.length ≤ 40 := by omega
      clear hn hm
      go_wp2_with fail
      refine (met2_any A B ca cb l s _ Hl.out Hs.out (by omega) (by omega)).mono ?_
      rintro e w2 ⟨v, rfl, ⟨C, c, rfl, hc, hI2⟩, hB2⟩
      have HB2 := Lib.hid hB2
      have HI2 := Lib.hid hI2
      clear hB2 hI2
      go_wp2_with fail
      refine (refMet_any A B ca cb l s _ (Hl.out.below HB2.out) (Hs.out.below HB2.out) (by omega) (by omega)).mono ?_
      rintro e w3 ⟨v, rfl, ⟨C3, c3, rfl, hc3, hI3⟩, hB3⟩
      have HB3 := Lib.hid (below_trans' HB2.out hB3)
      replace HI2 := Lib.hid (HI2.out.below hB3)
      have HI3 := Lib.hid hI3
      clear hB3 hI3
      go_wp2_with fail
      refine (checkSong_any A ca l w3 (Hl.out.below HB3.out) (by omega)).mono ?_
      rintro e w4 ⟨v, rfl, rfl, hB4⟩
      have HB4 := Lib.hid (below_trans' HB3.out hB4)
      replace HI2 := Lib.hid (HI2.out.below hB4)
      replace HI3 := Lib.hid (HI3.out.below hB4)
      clear hB4
      go_wp2_with fail
      refine (refCheckSong_any A ca l w4 (Hl.out.below HB4.out) (by omega)).mono ?_
      rintro e w5 ⟨v, rfl, rfl, q5, rfl⟩
      generalize songErr l = x1
      go_wp2_with fail
      refine (checkScale_any A B ca cb l s _ ((Hl.out.below HB4.out).drewN q5) ((Hs.out.below HB4.out).drewN q5) (by omega) (by omega)).mono ?_
      rintro e w6 ⟨v, rfl, rfl, hB6⟩
      have HB6 := Lib.hid (below_trans' (below_drewN HB4.out q5) hB6)
      replace HI2 := Lib.hid ((HI2.out.drewN q5).below hB6)
      replace HI3 := Lib.hid ((HI3.out.drewN q5).below hB6)
      clear hB6
      go_wp2_with fail
      refine (refCheckScale_any A B ca cb l s _ (Hl.out.below HB6.out) (Hs.out.below HB6.out) (by omega) (by omega)).mono ?_
      rintro e w7 ⟨v, rfl, rfl, hB7⟩
      have HB7 := Lib.hid (below_trans' HB6.out hB7)
      replace HI2 := Lib.hid (HI2.out.below hB7)
      replace HI3 := Lib.hid (HI3.out.below hB7)
      clear hB7
      generalize scaleErr l s = x2
      have hmm : (metM l s).length ≤ 30 := by
        have := metM_len l s; omega
      have hii := ints_any C C3 c c3 (metM l s) (metM l s) w7 HI2.out HI3.out (by omega) (by omega)
      rw [decide_eq_true rfl] at hii
      have Hii := Lib.hid hii
      clear hii hmm
      go_wp2_with fail
      refine Hii.out.mono ?_
      rintro e w8 ⟨v, rfl, rfl, q8, rfl⟩
      clear Hii
      go_wp2_with fail
      refine (works_any _).mono ?_
      rintro e w9 ⟨v, rfl, rfl, hB9⟩
      have HB9 := Lib.hid (below_trans' (below_drewN HB7.out q8) hB9)
      clear hB9
      go_wp2
      go_ret
      exact Ret.mk' rfl ⟨rfl, HB9.out⟩
end Go.Proofs.Ytkjmeeggjmeajaa
