/- ScaleSpans. -/
import Derived.Test.YtkjmeeggjmeajaaT4
import Derived.Test.YtkjmeeggjmeajaaL1
namespace Go.Proofs.Ytkjmeeggjmeajaa
open Go.RowKit

set_option maxRecDepth 100000 in
set_option maxHeartbeats 2000000 in
theorem scaleSpans_any (A : Option Addr) (ca : Nat) (l : List Rg) (i k : Int) (w : World) (hl : RangesAt w A l) (hn : l.length ≤ 9223372036854775807) (hca : l.length ≤ ca) :
    Calls Try.prog 4 #[.slice A l.length ca, .int .i64 i, .int .i64 k] w (Ret fun v w' => v = .bool true ∧ Below w.heap.size w w') := by
  have Hl := Lib.hid hl; clear hl
  have hg := great_any A ca l.length w hn
  have heq := run_eql37
  go_enter Try.func4, Try.ntmps4
  by_cases h1 : 30 < l.length
  · rw [decide_eq_true h1] at hg
    have Hg := Lib.hid hg
    clear hg
    go_wp2_with fail
    refine Hg.out.mono ?_
    rintro e w1 ⟨v, rfl, rfl, rfl⟩
    have HB1 := Lib.hid (Below.refl w.heap.size w)
    go_wp2_with fail
    refine (works_any _).mono ?_
    rintro e wz ⟨v, rfl, rfl, hBz⟩
    go_wp2
    go_ret
    exact Ret.mk' rfl ⟨rfl, below_trans' HB1.out hBz⟩
  · rw [decide_eq_false h1] at hg
    have Hg := Lib.hid hg
    have hs := spans_any A ca l w Hl.out (by omega)
    have Hsp := Lib.hid hs
    clear hg hs
    go_wp2_with fail
    refine Hg.out.mono ?_
    rintro e w1 ⟨v, rfl, rfl, rfl⟩
    have Hc := Lib.hid (Hsp.out)
    go_wp2_with fail
    refine Hc.out.mono ?_
    rintro e w1 ⟨v, rfl, h1', hB1⟩
    have HB1 := Lib.hid (hB1)
    clear hB1 Hc
    clear Hsp Hg
    have hspan : ∃ B c sp e, v = .tuple #[.slice B sp.length c, .int .i64 e] ∧ RangesAt w1 B sp ∧ sp.length ≤ 100000 ∧ (e ≠ 0 ∧ e = songErr l ∧ sp = [] ∨ e = 0 ∧ songErr l = 0 ∧ IsSpans l sp) := by
      rcases h1' with ⟨h0, rfl⟩ | ⟨h0, ts, us, B, c, sp, hts, hus, hsp, rfl, _, hI⟩
      · exact ⟨none, 0, [], songErr l, rfl, RowsAt.nil _, by simp, .inl ⟨h0, rfl, rfl⟩⟩
      · have hIS : IsSpans l sp := ⟨ts, us, hts, hus, hsp⟩
        have hlen : sp.length ≤ 100000 := by
          obtain ⟨ts, us, ht, _, _, _, _, e⟩ := hIS.ends (song_GoodR h0)
          have h1 := (greedy_sub ts (-1)).length_le
          rw [ts_len ht] at h1
          rw [e]; unfold hiAt; rw [List.length_map]; omega
        exact ⟨B, c, sp, 0, rfl, hI, hlen, .inr ⟨rfl, h0, hIS⟩⟩
    obtain ⟨B1, c1, sp1, e1, rfl, hI1, hl1, hs1⟩ := hspan
    have HI1 : Hid (RangesAt w1 B1 sp1) := Lib.hid hI1
    have HS1 := Lib.hid hs1
    clear h1' hI1 hs1
    have Hc := Lib.hid (refSpans_any A ca l w1 (Hl.out.below HB1.out) (by omega))
    go_wp2_with fail
    refine Hc.out.mono ?_
    rintro e w2 ⟨v, rfl, h2', hB2⟩
    have HB2 := Lib.hid (below_trans' HB1.out hB2)
    replace HI1 := Lib.hid (HI1.out.below hB2)
    clear hB2 Hc
    have hspan : ∃ B c sp e, v = .tuple #[.slice B sp.length c, .int .i64 e] ∧ RangesAt w2 B sp ∧ (e ≠ 0 ∧ e = songErr l ∧ sp = [] ∨ e = 0 ∧ songErr l = 0 ∧ IsSpans l sp) := by
      rcases h2' with ⟨h0, rfl⟩ | ⟨h0, B, c, sp, rfl, _, hI, hIS⟩
      · exact ⟨none, 0, [], songErr l, rfl, RowsAt.nil _, .inl ⟨h0, rfl, rfl⟩⟩
      · exact ⟨B, c, sp, 0, rfl, hI, .inr ⟨rfl, h0, hIS⟩⟩
    obtain ⟨B2, c2, sp2, e2, rfl, hI2, hs2⟩ := hspan
    have hsame : sp2 = sp1 ∧ e2 = e1 := by
      rcases HS1.out with ⟨a1, a2, a3⟩ | ⟨a1, a2, a3⟩
      · rcases hs2 with ⟨b1, b2, b3⟩ | ⟨b1, b2, b3⟩
        · exact ⟨by rw [a3, b3], by rw [a2, b2]⟩
        · exact absurd b2 (by rw [← a2]; exact a1)
      · rcases hs2 with ⟨b1, b2, b3⟩ | ⟨b1, b2, b3⟩
        · exact absurd a2 (by rw [← b2]; exact b1)
        · exact ⟨IsSpans.congr (fun _ => Iff.rfl) (song_GoodR a2) a3 b3, by rw [a1, b1]⟩
    obtain ⟨rfl, rfl⟩ := hsame
    have HI2 : Hid (RangesAt w2 B2 sp2) := Lib.hid hI2
    clear h2' hI2 hs2 HS1
    have Hc := Lib.hid (share_any A ca l i k w2 (Hl.out.below HB2.out) (by omega) hca)
    go_wp2_with fail
    refine Hc.out.mono ?_
    rintro e w3 ⟨v, rfl, ⟨a, b, e3, rfl, hsh⟩, hB3⟩
    have HB3 := Lib.hid (below_trans' HB2.out hB3)
    replace HI1 := Lib.hid (HI1.out.below hB3)
    replace HI2 := Lib.hid (HI2.out.below hB3)
    clear hB3 Hc
    have HSH := Lib.hid hsh
    clear hsh
    have HB3' := Lib.hid (below_alloc' HB3.out (.cells #[.bool a, .bool b] 37))
    have x0 : (w3.alloc (.cells #[.bool a, .bool b] 37)).cell? ⟨w3.heap.size, 0, none⟩ = some (.bool a) := new2_0 _ _ _ _
    have x1 : (w3.alloc (.cells #[.bool a, .bool b] 37)).cell? ⟨w3.heap.size, 1, none⟩ = some (.bool b) := new2_1 _ _ _ _
    replace HI1 := Lib.hid (HI1.out.alloc (.cells #[.bool a, .bool b] 37))
    replace HI2 := Lib.hid (HI2.out.alloc (.cells #[.bool a, .bool b] 37))
    have Hc := Lib.hid (refShare_any A ca l i k (w3.alloc (.cells #[.bool a, .bool b] 37)) (Hl.out.below HB3'.out) (by omega))
    go_wp2_with fail
    refine Hc.out.mono ?_
    rintro e w4 ⟨v, rfl, ⟨a2, b2, e4, rfl, hsh2⟩, hB4⟩
    obtain ⟨rfl, rfl, rfl⟩ := shares_agree HSH.out hsh2
    have HB4 := Lib.hid (below_alloc' (below_trans' HB3'.out hB4) (.cells #[.bool a2, .bool b2] 37))
    replace x0 := cell_alloc (cell_below hB4 x0) (.cells #[.bool a2, .bool b2] 37)
    replace x1 := cell_alloc (cell_below hB4 x1) (.cells #[.bool a2, .bool b2] 37)
    have y0 : (w4.alloc (.cells #[.bool a2, .bool b2] 37)).cell? ⟨w4.heap.size, 0, none⟩ = some (.bool a2) := new2_0 _ _ _ _
    have y1 : (w4.alloc (.cells #[.bool a2, .bool b2] 37)).cell? ⟨w4.heap.size, 1, none⟩ = some (.bool b2) := new2_1 _ _ _ _
    replace HI1 := Lib.hid ((HI1.out.below hB4).alloc (.cells #[.bool a2, .bool b2] 37))
    replace HI2 := Lib.hid ((HI2.out.below hB4).alloc (.cells #[.bool a2, .bool b2] 37))
    have hr := ranges_any B1 B2 c1 c2 sp2 sp2 (w4.alloc (.cells #[.bool a2, .bool b2] 37)) HI1.out HI2.out hl1 hl1
    rw [decide_eq_true rfl] at hr
    have HR := Lib.hid hr
    clear hsh2 hB4 Hc HSH hr HB3'
    go_wp2_with fail
    refine HR.out.mono ?_
    rintro e w5 ⟨v, rfl, rfl, hq5⟩
    replace x0 : w5.cell? ⟨w3.heap.size, 0, none⟩ = some (.bool a2) := by obtain ⟨q, rfl⟩ := hq5; exact x0
    replace x1 : w5.cell? ⟨w3.heap.size, 1, none⟩ = some (.bool b2) := by obtain ⟨q, rfl⟩ := hq5; exact x1
    replace y0 : w5.cell? ⟨w4.heap.size, 0, none⟩ = some (.bool a2) := by obtain ⟨q, rfl⟩ := hq5; exact y0
    replace y1 : w5.cell? ⟨w4.heap.size, 1, none⟩ = some (.bool b2) := by obtain ⟨q, rfl⟩ := hq5; exact y1
    have HB5 : Hid (Below w.heap.size w w5) := Lib.hid (by obtain ⟨q, rfl⟩ := hq5; exact below_drewN HB4.out _)
    clear hq5 HR
    go_wp2_with fail
    refine (works_any _).mono ?_
    rintro e wz ⟨v, rfl, rfl, hBz⟩
    go_wp2
    go_ret
    exact Ret.mk' rfl ⟨rfl, below_trans' HB5.out hBz⟩
end Go.Proofs.Ytkjmeeggjmeajaa
