/- ScaleKnown. -/
import Derived.Test.YtkjmeeggjmeajaaL2
namespace Go.Proofs.Ytkjmeeggjmeajaa
open Go.RowKit

theorem best1_songT : (bestT songT 1 (-1)).1 = 2 := by decide
theorem best3_songT : (bestT songT 3 (-1)).1 = 5 := by decide
theorem apart01 : apartErr songL [0, 1] = 14 := by decide

set_option maxRecDepth 100000 in
set_option maxHeartbeats 1000000 in
theorem scaleKnown_any (w : World) : Calls Try.prog 13 #[] w (Ret fun v w' => v = .bool true ∧ Below w.heap.size w w') := by
  have heq := run_eql37
  go_enter Try.func13, Try.ntmps13
  go_wp2_with fail
  refine (song_any _).mono ?_
  rintro e w1 ⟨v, rfl, ⟨b, rfl, hL⟩, hB1⟩
  have HL := Lib.hid hL
  have HB1 := Lib.hid hB1
  clear hL hB1
  have Hc := Lib.hid (share_any (some ⟨b, 0, none⟩) 5 songL 0 3 w1 HL.out (by decide) (by decide))
  go_wp2_with fail
  refine Hc.out.mono ?_
  rintro e w2 ⟨v, rfl, ⟨sa, sb', se, rfl, h6⟩, hB2⟩
  clear Hc
  obtain ⟨rfl, rfl, rfl⟩ := share03 h6
  clear h6
  have c80 : (w2.alloc (.cells #[.bool false, .bool false] 37)).cell? ⟨w2.heap.size, 0, none⟩ = some (.bool false) := new2_0 _ _ _ _
  have c81 : (w2.alloc (.cells #[.bool false, .bool false] 37)).cell? ⟨w2.heap.size, 1, none⟩ = some (.bool false) := new2_1 _ _ _ _
  have HB2 := Lib.hid (below_alloc' hB2 (.cells #[.bool false, .bool false] 37))
  clear hB2
  have Hc := Lib.hid (mostX_any (some ⟨b, 0, none⟩) 5 songL 1 (w2.alloc (.cells #[.bool false, .bool false] 37)) (HL.out.below HB2.out) (by decide))
  go_wp2_with fail
  refine Hc.out.mono ?_
  rintro e w3 ⟨v, rfl, h9, hB3⟩
  have HB3 := Lib.hid (below_trans' HB2.out hB3)
  replace c80 := cell_below hB3 c80
  replace c81 := cell_below hB3 c81
  clear hB3 Hc
  rcases h9 with h9 | h9 | ⟨_, k9, hk9, _, ts, B9, c9, hts, rfl, hI9⟩
  · exact absurd songL_err h9.1
  · exact absurd h9.2.1 (by omega)
  obtain rfl : k9 = 1 := by omega
  rw [songT_is hts, best1_songT]
  generalize (outT songT 1 (-1)).length = n9
  clear hI9 hts hk9
  have Hc := Lib.hid (mostX_any (some ⟨b, 0, none⟩) 5 songL 3 w3 (HL.out.below HB3.out) (by decide))
  go_wp2_with fail
  refine Hc.out.mono ?_
  rintro e w4 ⟨v, rfl, h9, hB4⟩
  have HB4 := Lib.hid (below_trans' HB3.out hB4)
  replace c80 := cell_below hB4 c80
  replace c81 := cell_below hB4 c81
  clear hB4 Hc
  rcases h9 with h9 | h9 | ⟨_, k9, hk9, _, ts, B10, c10, hts, rfl, hI9⟩
  · exact absurd songL_err h9.1
  · exact absurd h9.2.1 (by omega)
  obtain rfl : k9 = 3 := by omega
  rw [songT_is hts, best3_songT]
  generalize (outT songT 3 (-1)).length = n10
  clear hI9 hts hk9
  have hc := checkApart_any (some ⟨b, 0, none⟩) (some ⟨w4.heap.size, 0, none⟩) 5 3 songL [0, 3, 4] (w4.alloc (.cells #[.int .i64 0, .int .i64 3, .int .i64 4] 3)) ((HL.out.below HB4.out).alloc _) (rows_new encI_len _ _ _ _ rfl) (by decide) (by decide) (by decide)
  rw [apart3] at hc
  have Hc := Lib.hid hc
  replace c80 := cell_alloc c80 (.cells #[.int .i64 0, .int .i64 3, .int .i64 4] 3)
  replace c81 := cell_alloc c81 (.cells #[.int .i64 0, .int .i64 3, .int .i64 4] 3)
  clear hc
  go_wp2_with fail
  refine Hc.out.mono ?_
  rintro e w5 ⟨v, rfl, rfl, hB5⟩
  have HB5 := Lib.hid (below_alloc_of HB4.out hB5)
  replace c80 := cell_below hB5 c80
  replace c81 := cell_below hB5 c81
  clear hB5 Hc
  have hc := checkApart_any (some ⟨b, 0, none⟩) (some ⟨w5.heap.size, 0, none⟩) 5 2 songL [0, 1] (w5.alloc (.cells #[.int .i64 0, .int .i64 1] 3)) ((HL.out.below HB5.out).alloc _) (rows_new encI_len _ _ _ _ rfl) (by decide) (by decide) (by decide)
  rw [apart01] at hc
  have Hc := Lib.hid hc
  replace c80 := cell_alloc c80 (.cells #[.int .i64 0, .int .i64 1] 3)
  replace c81 := cell_alloc c81 (.cells #[.int .i64 0, .int .i64 1] 3)
  clear hc
  go_wp2_with fail
  refine Hc.out.mono ?_
  rintro e w6 ⟨v, rfl, rfl, hB6⟩
  have HB6 := Lib.hid (below_alloc_of HB5.out hB6)
  replace c80 := cell_below hB6 c80
  replace c81 := cell_below hB6 c81
  clear hB6 Hc
  go_wp2_with fail
  refine (works_any _).mono ?_
  rintro e w7 ⟨v, rfl, rfl, hB7⟩
  have HB7 := Lib.hid (below_trans' HB6.out hB7)
  clear hB7
  go_wp2
  go_ret
  exact Ret.mk' rfl ⟨rfl, below_trans' HB1.out HB7.out⟩
end Go.Proofs.Ytkjmeeggjmeajaa
