/- Fewest. -/
import Derived.Test.YtkjmeeggjmeajaaB12
import Derived.Test.YtkjmeeggjmeajaaB9
namespace Go.Proofs.Ytkjmeeggjmeajaa
open Go.RowKit Go.Shelf

/-- a song's tones in an order of their upper ends -/
def Sorted (l : List (Int × Int)) (ts : List Tone) : Prop := ts.Perm (tonesUp l l.length) ∧ ByHi ts
theorem inB1 : inB (1 : Int) := by unfold inB; omega
theorem inB0 : inB (0 : Int) := by unfold inB; omega

set_option maxHeartbeats 1000000 in
theorem fewest_any (A : Option Addr) (ca : Nat) (l : List (Int × Int)) (w : World) (hl : RangesAt w A l) (hn : l.length ≤ 100000) :
    Calls Try.prog 31 #[.slice A l.length ca] w (Ret fun v w' => (songErr l ≠ 0 ∧ v = .tuple #[.slice none 0 0, .int .i64 (songErr l)] ∨ songErr l = 0 ∧ ∃ ts B c s n, Sorted l ts ∧ v = .tuple #[.slice B s.length c, .int .i64 0] ∧ (s, n) = highGo (1, 0) ts [] [] (-1) ∧
      w'.ownsRow w.heap.size 2 1 (.slice B s.length c) s.length (s.flatMap encI)) ∧ Below w.heap.size w w') := by
  have Hl := Lib.hid hl; clear hl
  go_enter Try.func31, Try.ntmps31
  go_wp2_with fail
  refine (checkSong_any _ _ l _ Hl.out hn).mono ?_
  rintro e w1 ⟨v, rfl, rfl, hB1⟩
  have HB1 := Lib.hid hB1; clear hB1
  by_cases h0 : songErr l = 0
  · have hlen := song_len h0
    have hin := song_in h0
    have d0 : (songErr l != 0) = false := by simp [h0]
    have H0 := Lib.hid h0; clear h0
    have Hin := Lib.hid hin; clear hin
    go_wp2_with fail
    refine (newSong_any _ _ l _ (Hl.out.below HB1.out) (by omega) Hin.out).mono ?_
    rintro e w2 ⟨v, rfl, rfl, ⟨ts, hp, ho, hsa⟩, hB2⟩
    have HB2 := Lib.hid hB2; clear hB2
    have Hp := Lib.hid hp; clear hp
    have Hsa := Lib.hid (SongAt.of hsa); clear hsa
    have Ho := Lib.hid ho; clear ho
    have hh := high_any (1, 0) w1.heap.size ts w2 Hsa.out (by rw [perm_len Hp.out]; omega) ⟨inB1, inB0⟩
    unfold vR at hh
    have HH := Lib.hid hh; clear hh
    go_wp2_with fail
    refine HH.out.mono ?_
    rintro e w3 ⟨v, rfl, ⟨A1, B1, c1, d1, s, n, rfl, hg, ho1, ho2⟩, hB3⟩
    have HB3 := Lib.hid (below_trans' (below_trans' HB1.out HB2.out) hB3); have HB3' := Lib.hid hB3; clear hB3
    have Hg := Lib.hid hg
    have HO1 := Lib.hid ho1
    clear hg ho1 ho2
    go_wp2
    go_ret2
    refine Ret.mk' rfl ⟨.inr ⟨H0.out, ts, A1, c1, s, n, ⟨Hp.out, Ho.out⟩, rfl, Hg.out, own_mono HO1.out ?_⟩, HB3.out⟩
    have := HB1.out.size; have := HB2.out.size; omega
  · have d0 : (songErr l != 0) = true := by simpa using h0
    go_wp2
    go_ret2
    exact Ret.mk' rfl ⟨.inl ⟨h0, rfl⟩, HB1.out⟩
end Go.Proofs.Ytkjmeeggjmeajaa
