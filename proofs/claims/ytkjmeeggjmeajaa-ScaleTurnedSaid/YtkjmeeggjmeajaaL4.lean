/- ScaleProofs. -/
import Derived.Test.YtkjmeeggjmeajaaL1
import Derived.Test.YtkjmeeggjmeajaaPA
namespace Go.Proofs.Ytkjmeeggjmeajaa
open Go.RowKit

set_option maxRecDepth 100000 in
set_option maxHeartbeats 2000000 in
theorem scaleProofs_any (A B : Option Addr) (ca cb : Nat) (l : List Rg) (s : List Int) (w : World) (hl : RangesAt w A l) (hs : IntsAt w B s) (hn : l.length ≤ 9223372036854775807) (hm : s.length ≤ 9223372036854775807) (hcb : s.length ≤ cb) :
    Calls Try.prog 11 #[.slice A l.length ca, .slice B s.length cb] w (Ret fun v w' => v = .bool true ∧ Below w.heap.size w w') := by
  have Hl := Lib.hid hl; clear hl
  have Hs := Lib.hid hs; clear hs
  have Hg := Lib.hid (fun w => great_any A ca l.length w (by omega))
  go_enter Try.func11, Try.ntmps11
  go_wp2_with fail
  refine (Hg.out _).mono ?_
  rintro e w1 ⟨v, rfl, rfl, rfl⟩
  by_cases h1 : 30 < l.length
  · have d1 : decide (30 < l.length) = true := by simpa using h1
    go_wp2_with fail
    refine (Hg.out _).mono ?_
    rintro e w1 ⟨v, rfl, rfl, rfl⟩
    go_wp2_with fail
    refine (works_any _).mono ?_
    rintro e w2 ⟨v, rfl, rfl, hB⟩
    go_wp2
    go_ret
    exact Ret.mk' rfl ⟨rfl, hB⟩
  · have d1 : decide (30 < l.length) = false := by simpa using h1
    by_cases h2 : 40 < s.length
    · have d2 : decide (40 < s.length) = true := by simpa using h2
      have d3 : (40 : Int) < (s.length : Int) := by omega
      go_wp2_with fail
      refine (Hg.out _).mono ?_
      rintro e w1 ⟨v, rfl, rfl, rfl⟩
      go_wp2_with fail
      refine (works_any _).mono ?_
      rintro e w2 ⟨v, rfl, rfl, hB⟩
      go_wp2
      go_ret
      exact Ret.mk' rfl ⟨rfl, hB⟩
    · have d2 : decide (40 < s.length) = false := by simpa using h2
      have d3 : ¬ (40 : Int) < (s.length : Int) := by omega
      have hn' : l.length ≤ 30 := by omega
      have hm' : s.length ≤ 40 := by omega
      clear hn hm
      have Hcb := Lib.hid hcb
      clear hcb
      go_wp2_with fail
      refine (checkApart_any A B ca cb l s _ Hl.out Hs.out (by omega) (by omega) Hcb.out).mono ?_
      rintro e w2 ⟨v, rfl, rfl, hB2⟩
      have HB2 := Lib.hid hB2
      clear hB2
      go_wp2_with fail
      refine (refCheckApart_any A B ca cb l s _ (Hl.out.below HB2.out) (Hs.out.below HB2.out) (by omega) (by omega)).mono ?_
      rintro e w3 ⟨v, rfl, rfl, hB3⟩
      have HB3 := Lib.hid (below_trans' HB2.out hB3)
      clear hB3
      generalize apartErr l s = x1
      have hx1 : (x1 != x1) = false := by simp
      go_wp2_with fail
      refine (fewest_any A ca l w3 (Hl.out.below HB3.out) (by omega)).mono ?_
      rintro e w4 ⟨v, rfl, h4, hB4⟩
      have HB4 := Lib.hid (below_trans' HB3.out hB4)
      clear hB4
      by_cases h0 : songErr l = 0
      · rcases h4 with h4 | ⟨_, ts, B4, c4, s4, n4, hts, rfl, hn4, ho4⟩
        · exact absurd h0 h4.1
        have hs4 := (highGo_hi hts (song_GoodR h0) hn4).1
        have HI4 : Hid (IntsAt w4 B4 s4) := Lib.hid (RowsAt.of_own encI_len ho4)
        have H0 := Lib.hid h0
        have Hts := Lib.hid hts
        have Hs4 := Lib.hid hs4
        clear ho4 hts hs4 hn4
        go_wp2_with fail
        refine (apart_any A ca l w4 (Hl.out.below HB4.out) (by omega)).mono ?_
        rintro e w5 ⟨v, rfl, h5, hB5⟩
        have HB5 := Lib.hid (below_trans' HB4.out hB5)
        replace HI4 := Lib.hid (HI4.out.below hB5)
        clear hB5
        rcases h5 with h5 | ⟨_, ts5, g5, c5, n5, hts5, rfl, hn5, hnc5, hI5⟩
        · exact absurd H0.out h5.1
        have hn5' : n5 = sortI (namesAt ts5) := by rw [hn5, highGo_open _ _ _ _ (sorted_good hts5 (song_GoodR H0.out))]; rfl
        have HI5 := Lib.hid hI5
        have Hts5 := Lib.hid hts5
        have Hn5 := Lib.hid hn5'
        clear hI5 hts5 hn5' hn5 hnc5
        have d0 : (songErr l != 0) = false := by simp [h0]
        clear h0
        go_wp2_with fail
        refine (refCheckSong_any A ca l w5 (Hl.out.below HB5.out) (by omega)).mono ?_
        rintro e w6 ⟨v, rfl, rfl, q6, rfl⟩
        go_wp2_with fail
        refine (short_any A ca l _ ((Hl.out.below HB5.out).drewN q6) (by omega) (song_GoodR H0.out)).mono ?_
        rintro e w7 ⟨v, rfl, ⟨n, rfl, hn7, hnl⟩, hB7⟩
        have hnh : s4.length = n := by rw [Hs4.out]; exact (short_hi H0.out Hts.out hn7).symm
        have hnn : n5.length = n := by rw [Hn5.out, names_len]; exact (short_hi H0.out Hts5.out hn7).symm
        have HB7 := Lib.hid (below_trans' (below_drewN HB5.out q6) hB7)
        replace HI4 := Lib.hid ((HI4.out.drewN q6).below hB7)
        replace HI5 := Lib.hid ((HI5.out.drewN q6).below hB7)
        have HN4 := Lib.hid hnh
        have HN5 := Lib.hid hnn
        have hn30 : n ≤ 30 := by omega
        have hs1 := refCheckScale_any A B4 ca c4 l s4 w7 (Hl.out.below HB7.out) HI4.out (by omega) (by rw [HN4.out]; omega)
        rw [show scaleErr l s4 = 0 by rw [Hs4.out]; exact hiAt_scale H0.out Hts.out, HN4.out] at hs1
        have HS1 := Lib.hid hs1
        rw [hnh, hnn]
        clear hB7 hnh hnn hs1 hn7
        go_wp2_with fail
        refine HS1.out.mono ?_
        rintro e w8 ⟨v, rfl, rfl, hB8⟩
        have HB8 := Lib.hid (below_trans' HB7.out hB8)
        replace HI5 := Lib.hid (HI5.out.below hB8)
        clear hB8 HS1
        have hs2 := refCheckApart_any A (some ⟨g5, 0, none⟩) ca c5 l n5 w8 (Hl.out.below HB8.out) HI5.out (by omega) (by rw [HN5.out]; omega)
        rw [show apartErr l n5 = 0 by rw [Hn5.out]; exact names_apart H0.out Hts5.out, HN5.out] at hs2
        have HS2 := Lib.hid hs2
        clear hs2
        go_wp2_with fail
        refine HS2.out.mono ?_
        rintro e w9 ⟨v, rfl, rfl, hB9⟩
        have HB9 := Lib.hid (below_trans' HB8.out hB9)
        clear hB9 HS2
        go_wp2_with fail
        refine (works_any _).mono ?_
        rintro e wa ⟨v, rfl, rfl, hBa⟩
        have HBa := Lib.hid (below_trans' HB9.out hBa)
        clear hBa
        go_wp2
        go_ret
        exact Ret.mk' rfl ⟨rfl, HBa.out⟩
      · rcases h4 with ⟨_, rfl⟩ | h4
        rotate_left
        · exact absurd h4.1 h0
        have d0 : (songErr l != 0) = true := by simpa using h0
        have H0 := Lib.hid h0
        clear h0
        go_wp2_with fail
        refine (apart_any A ca l w4 (Hl.out.below HB4.out) (by omega)).mono ?_
        rintro e w5 ⟨v, rfl, h5, hB5⟩
        have HB5 := Lib.hid (below_trans' HB4.out hB5)
        clear hB5
        rcases h5 with ⟨_, rfl⟩ | h5
        rotate_left
        · exact absurd h5.1 H0.out
        go_wp2_with fail
        refine (refCheckSong_any A ca l w5 (Hl.out.below HB5.out) (by omega)).mono ?_
        rintro e w6 ⟨v, rfl, rfl, q6, rfl⟩
        go_wp2_with fail
        refine (refCheckSong_any A ca l _ ((Hl.out.below HB5.out).drewN q6) (by omega)).mono ?_
        rintro e w7 ⟨v, rfl, rfl, q7, rfl⟩
        go_wp2_with fail
        refine (works_any _).mono ?_
        rintro e wa ⟨v, rfl, rfl, hBa⟩
        have HBa := Lib.hid (below_trans' (below_drewN (below_drewN HB5.out q6) q7) (by first | exact hBa | (rw [World.drewN_drewN]; exact hBa)))
        clear hBa
        go_wp2
        go_ret
        exact Ret.mk' rfl ⟨rfl, HBa.out⟩
end Go.Proofs.Ytkjmeeggjmeajaa
