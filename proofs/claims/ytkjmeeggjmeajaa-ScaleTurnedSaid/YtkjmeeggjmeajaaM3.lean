/- Most. -/
import Derived.Test.YtkjmeeggjmeajaaM2
namespace Go.Proofs.Ytkjmeeggjmeajaa
open Go.RowKit Go.Shelf

theorem results28 {tmps : Array Value} {W : World} : (results Try.f28 tmps).run Try.prog W = .ok (.tuple #[tmps.getD 4 undef, tmps.getD 5 undef, tmps.getD 6 undef]) W := results_tmp3 (fn := Try.f28) rfl _ _ _

set_option maxRecDepth 100000 in
set_option maxHeartbeats 1000000 in
theorem mostX_any (A : Option Addr) (ca : Nat) (l : List Rg) (steps : Int) (w : World) (hl : RangesAt w A l) (hn : l.length ≤ 100000) :
    Calls Try.prog 28 #[.slice A l.length ca, .int .i64 steps] w (Ret fun v w' => (songErr l ≠ 0 ∧ v = .tuple #[.slice none 0 0, .int .i64 0, .int .i64 (songErr l)] ∨
      songErr l = 0 ∧ (steps < 0 ∨ 24 < steps) ∧ v = .tuple #[.slice none 0 0, .int .i64 0, .int .i64 3] ∨
      songErr l = 0 ∧ ∃ k : Nat, steps = k ∧ k ≤ 24 ∧ ∃ ts B c, Sorted l ts ∧ v = .tuple #[.slice B (outT ts k (-1)).length c, .int .i64 (bestT ts k (-1)).1, .int .i64 0] ∧ IntsAt w' B (outT ts k (-1))) ∧ Below w.heap.size w w') := by
  have Hl := Lib.hid hl; clear hl
  go_enter Try.func28, Try.ntmps28
  go_wp2_with fail
  refine (checkSong_any _ _ l _ Hl.out hn).mono ?_
  rintro e w1 ⟨v, rfl, rfl, hB1⟩
  have HB1 := Lib.hid hB1; clear hB1
  by_cases h0 : songErr l = 0
  · have hlen := song_len h0
    have hin := song_in h0
    have HG := Lib.hid (song_GoodR h0)
    have d0 : (songErr l != 0) = false := by simp [h0]
    have H0 := Lib.hid h0; clear h0
    have Hin := Lib.hid hin; clear hin
    by_cases hs0 : steps < 0
    · go_wp2
      go_ret3
      exact Ret.mk' rfl ⟨.inr (.inl ⟨H0.out, .inl hs0, rfl⟩), HB1.out⟩
    · by_cases hs1 : 24 < steps
      · have d1 : decide (steps < 0) = false := by simp; omega
        have d2 : decide (24 < steps) = true := by simp; omega
        go_wp2
        go_ret3
        exact Ret.mk' rfl ⟨.inr (.inl ⟨H0.out, .inr hs1, rfl⟩), HB1.out⟩
      · obtain ⟨k, rfl⟩ := Int.eq_ofNat_of_zero_le (show 0 ≤ steps by omega)
        have d1 : decide ((k : Int) < 0) = false := by simp
        have d2 : decide (24 < (k : Int)) = false := by simp; omega
        go_wp2_with fail
        refine (newSong_any _ _ l _ (Hl.out.below HB1.out) (by omega) Hin.out).mono ?_
        rintro e w2 ⟨v, rfl, rfl, ⟨ts, hp, ho, hsa⟩, hB2⟩
        have HB2 := Lib.hid hB2; clear hB2
        have HS : Hid (Sorted l ts) := ⟨hp, ho⟩
        clear hp ho
        have Hsa := Lib.hid (SongAt.of hsa); clear hsa
        have hts : ts.length ≤ 24 := by rw [perm_len HS.out.1]; omega
        have hsi : ∀ t ∈ ts, 0 ≤ t.2.1 ∧ t.2.1 ≤ 10000 := fun t ht => by
          have := HG.out (rT t) ((sorted_rT HS.out _).2 ⟨t, ht, rfl⟩)
          unfold rT at this; dsimp only at this; omega
        have hm := most_any w1.heap.size ts k w2 Hsa.out hts (by omega) HS.out.2 hsi
        have HM := Lib.hid hm; clear hm
        go_wp2_with fail
        refine HM.out.mono ?_
        rintro e w3 ⟨v, rfl, ⟨B, c, rfl, hI⟩, hB3⟩
        have HI := Lib.hid hI
        have HB3 := Lib.hid hB3
        clear HM hI hB3
        go_wp2
        go_ret3
        exact Ret.mk' rfl ⟨.inr (.inr ⟨H0.out, k, rfl, by omega, ts, B, c, HS.out, rfl, HI.out⟩), below_trans' (below_trans' HB1.out HB2.out) HB3.out⟩
  · have d0 : (songErr l != 0) = true := by simpa using h0
    go_wp2
    go_ret3
    exact Ret.mk' rfl ⟨.inl ⟨h0, rfl⟩, HB1.out⟩
end Go.Proofs.Ytkjmeeggjmeajaa
