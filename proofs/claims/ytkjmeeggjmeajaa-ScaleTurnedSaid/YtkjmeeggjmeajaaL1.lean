/- Works. -/
import Derived.Test.YtkjmeeggjmeajaaPW
namespace Go.Proofs.Ytkjmeeggjmeajaa
open Go.RowKit

theorem run_equal37 (a b c d : Bool) (w : World) : (Op.equalIn 10000 37 (.agg #[.bool a, .bool b]) (.agg #[.bool c, .bool d])).run Try.prog w = .ok (a == c && b == d) w := by
  have u4 := Try.underlying4
  have a4 := Try.isAgg4
  have z4 := Try.sizeOf4
  have hS : Try.prog.underlying 37 = some (.struct (Try.prog.fieldsOf 37)) := by kernel_rfl
  have hp : Try.prog.stoodInHeld 37 = false := by kernel_rfl
  rw [show (10000 : Nat) = 9999 + 1 from rfl, run_equalIn_agg w 9999 37 _ _ hS hp]
  simp only [Program.fieldsOf, Try.underlying37]
  go_simp
  cases a <;> cases b <;> cases c <;> cases d <;> simp
theorem run_eql37 (a b c d : Bool) (w : World) : (binOp .eql 37 (.agg #[.bool a, .bool b]) (.agg #[.bool c, .bool d])).run Try.prog w = .ok (.bool (a == c && b == d)) w := by
  rw [run_eql_struct, run_equal37]; rfl

set_option maxRecDepth 100000 in
set_option maxHeartbeats 2000000 in
theorem works_any (w : World) : Calls Try.prog 15 #[] w (Ret fun v w' => v = .bool true ∧ Below w.heap.size w w') := by
  have heq := run_eql37
  go_enter Try.func15, Try.ntmps15
  go_wp2_with fail
  refine (song_any _).mono ?_
  rintro e w1 ⟨v, rfl, ⟨b, rfl, hL⟩, hB1⟩
  have HL := Lib.hid hL
  have HB1 := Lib.hid hB1
  clear hL hB1
  have hc := checkScale_any (some ⟨b, 0, none⟩) (some ⟨w1.heap.size, 0, none⟩) 5 3 songL [130, 200, 320] (w1.alloc (.cells #[.int .i64 130, .int .i64 200, .int .i64 320] 2)) (HL.out.alloc _) (rows_new encI_len _ _ _ _ rfl) (by decide) (by decide)
  rw [scale1] at hc
  have Hc := Lib.hid hc
  clear hc
  go_wp2_with fail
  refine Hc.out.mono ?_
  rintro e w2 ⟨v, rfl, rfl, hB2⟩
  have HB2 := Lib.hid (below_alloc_of (Below.refl _ w1) hB2)
  clear hB2 Hc
  have hc := checkScale_any (some ⟨b, 0, none⟩) (some ⟨w2.heap.size, 0, none⟩) 5 2 songL [130, 320] (w2.alloc (.cells #[.int .i64 130, .int .i64 320] 2)) ((HL.out.below HB2.out).alloc _) (rows_new encI_len _ _ _ _ rfl) (by decide) (by decide)
  rw [scale2] at hc
  have Hc := Lib.hid hc
  clear hc
  go_wp2_with fail
  refine Hc.out.mono ?_
  rintro e w3 ⟨v, rfl, rfl, hB3⟩
  have HB3 := Lib.hid (below_alloc_of HB2.out hB3)
  clear hB3 Hc
  have Hc := Lib.hid (apart_any (some ⟨b, 0, none⟩) 5 songL w3 (HL.out.below HB3.out) (by decide))
  go_wp2_with fail
  refine Hc.out.mono ?_
  rintro e w4 ⟨v, rfl, h4, hB4⟩
  have HB4 := Lib.hid (below_trans' HB3.out hB4)
  clear hB4 Hc
  rcases h4 with h4 | ⟨_, ts, g, c, n, hts, rfl, hn, hnc, hI4⟩
  · exact absurd songL_err h4.1
  rw [songT_is hts, names_songT, sortI_034] at hn
  subst hn
  have HI4 := Lib.hid hI4
  clear hI4 hts hnc
  rw [show ([0, 3, 4] : List Int).length = 3 from rfl]
  have Hc := Lib.hid (spans_any (some ⟨b, 0, none⟩) 5 songL w4 (HL.out.below HB4.out) (by decide))
  go_wp2_with fail
  refine Hc.out.mono ?_
  rintro e w5 ⟨v, rfl, h5, hB5⟩
  have HB5 := Lib.hid (below_trans' HB4.out hB5)
  replace HI4 := Lib.hid (HI4.out.below hB5)
  clear hB5 Hc
  rcases h5 with h5 | ⟨_, ts, us, B5, c5, sp, hts, hus, hsp, rfl, hsc, hI5⟩
  · exact absurd songL_err h5.1
  rw [spans_song hts hus] at hsp
  subst hsp
  have HI5 := Lib.hid hI5
  clear hI5 hts hus hsc
  rw [show ([(100, 140), (190, 310), (320, 400)] : List Rg).length = 3 from rfl]
  have Hc := Lib.hid (share_any (some ⟨b, 0, none⟩) 5 songL 0 1 w5 (HL.out.below HB5.out) (by decide) (by decide))
  go_wp2_with fail
  refine Hc.out.mono ?_
  rintro e w6 ⟨v, rfl, ⟨sa, sb', se, rfl, h6⟩, hB6⟩
  have HB6 := Lib.hid (below_trans' HB5.out hB6)
  replace HI4 := Lib.hid (HI4.out.below hB6)
  replace HI5 := Lib.hid (HI5.out.below hB6)
  clear hB6 Hc
  obtain ⟨rfl, rfl, rfl⟩ := share01 h6
  clear h6
  have c80 : (w6.alloc (.cells #[.bool true, .bool false] 37)).cell? ⟨w6.heap.size, 0, none⟩ = some (.bool true) := new2_0 _ _ _ _
  have c81 : (w6.alloc (.cells #[.bool true, .bool false] 37)).cell? ⟨w6.heap.size, 1, none⟩ = some (.bool false) := new2_1 _ _ _ _
  have hHB6 := below_alloc' HB6.out (.cells #[.bool true, .bool false] 37)
  replace HI4 := Lib.hid (HI4.out.alloc (.cells #[.bool true, .bool false] 37))
  replace HI5 := Lib.hid (HI5.out.alloc (.cells #[.bool true, .bool false] 37))
  have Hc := Lib.hid (share_any (some ⟨b, 0, none⟩) 5 (songL.take 2) 0 1 (w6.alloc (.cells #[.bool true, .bool false] 37)) ((HL.out.take 2).below hHB6) (by decide) (by decide))
  replace HB6 := Lib.hid hHB6
  clear hHB6
  go_wp2_with fail
  refine Hc.out.mono ?_
  rintro e w7 ⟨v, rfl, ⟨sa, sb', se, rfl, h6⟩, hB7⟩
  have HB7 := Lib.hid (below_trans' HB6.out hB7)
  replace HI4 := Lib.hid (HI4.out.below hB7)
  replace HI5 := Lib.hid (HI5.out.below hB7)
  replace c80 := cell_below hB7 c80
  replace c81 := cell_below hB7 c81
  clear hB7 Hc
  obtain ⟨rfl, rfl, rfl⟩ := share01two h6
  clear h6
  have c90 : (w7.alloc (.cells #[.bool true, .bool true] 37)).cell? ⟨w7.heap.size, 0, none⟩ = some (.bool true) := new2_0 _ _ _ _
  have c91 : (w7.alloc (.cells #[.bool true, .bool true] 37)).cell? ⟨w7.heap.size, 1, none⟩ = some (.bool true) := new2_1 _ _ _ _
  replace c80 := cell_alloc c80 (.cells #[.bool true, .bool true] 37)
  replace c81 := cell_alloc c81 (.cells #[.bool true, .bool true] 37)
  replace HB7 := Lib.hid (below_alloc' HB7.out (.cells #[.bool true, .bool true] 37))
  replace HI4 := Lib.hid (HI4.out.alloc (.cells #[.bool true, .bool true] 37))
  replace HI5 := Lib.hid (HI5.out.alloc (.cells #[.bool true, .bool true] 37))
  have Hc := Lib.hid (fewest_any (some ⟨b, 0, none⟩) 5 songL (w7.alloc (.cells #[.bool true, .bool true] 37)) (HL.out.below HB7.out) (by decide))
  go_wp2_with fail
  refine Hc.out.mono ?_
  rintro e w8 ⟨v, rfl, h8, hB8⟩
  have HB8 := Lib.hid (below_trans' HB7.out hB8)
  replace HI4 := Lib.hid (HI4.out.below hB8)
  replace HI5 := Lib.hid (HI5.out.below hB8)
  replace c80 := cell_below hB8 c80
  replace c81 := cell_below hB8 c81
  replace c90 := cell_below hB8 c90
  replace c91 := cell_below hB8 c91
  clear hB8 Hc
  rcases h8 with h8 | ⟨_, ts, B8, c8, s8, n8, hts, rfl, hn8, ho8⟩
  · exact absurd songL_err h8.1
  rw [songT_is hts, names_songT] at hn8
  injection hn8 with hs8 hn8
  subst hs8 hn8
  have HI8 : Hid (IntsAt w8 B8 [140, 310, 400]) := Lib.hid (RowsAt.of_own encI_len ho8)
  clear ho8 hts
  rw [show ([140, 310, 400] : List Int).length = 3 from rfl]
  have Hc := Lib.hid (mostX_any (some ⟨b, 0, none⟩) 5 songL 2 w8 (HL.out.below HB8.out) (by decide))
  go_wp2_with fail
  refine Hc.out.mono ?_
  rintro e w9 ⟨v, rfl, h9, hB9⟩
  have HB9 := Lib.hid (below_trans' HB8.out hB9)
  replace HI4 := Lib.hid (HI4.out.below hB9)
  replace HI5 := Lib.hid (HI5.out.below hB9)
  replace HI8 := Lib.hid (HI8.out.below hB9)
  replace c80 := cell_below hB9 c80
  replace c81 := cell_below hB9 c81
  replace c90 := cell_below hB9 c90
  replace c91 := cell_below hB9 c91
  clear hB9 Hc
  rcases h9 with h9 | h9 | ⟨_, k9, hk9, _, ts, B9, c9, hts, rfl, hI9⟩
  · exact absurd songL_err h9.1
  · exact absurd h9.2.1 (by omega)
  obtain rfl : k9 = 2 := by omega
  rw [songT_is hts, best_songT]
  generalize (outT songT 2 (-1)).length = n9
  clear hI9 hts hk9
  have hc := met2_any (some ⟨b, 0, none⟩) (some ⟨w9.heap.size, 0, none⟩) 5 2 songL [130, 320] (w9.alloc (.cells #[.int .i64 130, .int .i64 320] 2)) ((HL.out.below HB9.out).alloc _) (rows_new encI_len _ _ _ _ rfl) (by decide) (by decide)
  rw [met_song, check3] at hc
  replace HB9 := Lib.hid (below_alloc' HB9.out (.cells #[.int .i64 130, .int .i64 320] 2))
  replace HI4 := Lib.hid (HI4.out.alloc (.cells #[.int .i64 130, .int .i64 320] 2))
  replace HI5 := Lib.hid (HI5.out.alloc (.cells #[.int .i64 130, .int .i64 320] 2))
  replace HI8 := Lib.hid (HI8.out.alloc (.cells #[.int .i64 130, .int .i64 320] 2))
  replace c80 := cell_alloc c80 (.cells #[.int .i64 130, .int .i64 320] 2)
  replace c81 := cell_alloc c81 (.cells #[.int .i64 130, .int .i64 320] 2)
  replace c90 := cell_alloc c90 (.cells #[.int .i64 130, .int .i64 320] 2)
  replace c91 := cell_alloc c91 (.cells #[.int .i64 130, .int .i64 320] 2)
  have Hc := Lib.hid hc
  clear hc
  go_wp2_with fail
  refine Hc.out.mono ?_
  rintro e wa ⟨v, rfl, ⟨Ba, ca, rfl, hca, hIa⟩, hBa⟩
  have HBa := Lib.hid (below_trans' HB9.out hBa)
  replace HI4 := Lib.hid (HI4.out.below hBa)
  replace HI5 := Lib.hid (HI5.out.below hBa)
  replace HI8 := Lib.hid (HI8.out.below hBa)
  have HIa := Lib.hid hIa
  replace c80 := cell_below hBa c80
  replace c81 := cell_below hBa c81
  replace c90 := cell_below hBa c90
  replace c91 := cell_below hBa c91
  clear hBa hIa hca Hc
  rw [show ([0, 1, 2, 4] : List Int).length = 4 from rfl]
  have hc := refCheckApart_any (some ⟨b, 0, none⟩) (some ⟨g, 0, none⟩) 5 c songL [0, 3, 4] wa (HL.out.below HBa.out) HI4.out (by decide) (by decide)
  rw [apart3] at hc
  have Hc := Lib.hid hc
  clear hc
  go_wp2_with fail
  refine Hc.out.mono ?_
  rintro e wb ⟨v, rfl, rfl, hBb⟩
  have HBb := Lib.hid (below_trans' HBa.out hBb)
  replace HI5 := Lib.hid (HI5.out.below hBb)
  replace HI8 := Lib.hid (HI8.out.below hBb)
  replace HIa := Lib.hid (HIa.out.below hBb)
  replace c80 := cell_below hBb c80
  replace c81 := cell_below hBb c81
  replace c90 := cell_below hBb c90
  replace c91 := cell_below hBb c91
  clear hBb Hc
  have hrg := rg_any
  unfold vR at hrg
  have Hrg := Lib.hid hrg
  clear hrg
  go_wp2_with fail
  refine (Hrg.out _ _ _).mono ?_
  rintro e wc0 ⟨v, rfl, rfl, hBx⟩
  have HBc0 := Lib.hid (below_trans' HBb.out hBx)
  replace HI5 := Lib.hid (HI5.out.below hBx)
  replace HI8 := Lib.hid (HI8.out.below hBx)
  replace HIa := Lib.hid (HIa.out.below hBx)
  replace c80 := cell_below hBx c80
  replace c81 := cell_below hBx c81
  replace c90 := cell_below hBx c90
  replace c91 := cell_below hBx c91
  clear hBx
  go_wp2_with fail
  refine (Hrg.out _ _ _).mono ?_
  rintro e wc1 ⟨v, rfl, rfl, hBx⟩
  have HBc1 := Lib.hid (below_trans' HBc0.out hBx)
  replace HI5 := Lib.hid (HI5.out.below hBx)
  replace HI8 := Lib.hid (HI8.out.below hBx)
  replace HIa := Lib.hid (HIa.out.below hBx)
  replace c80 := cell_below hBx c80
  replace c81 := cell_below hBx c81
  replace c90 := cell_below hBx c90
  replace c91 := cell_below hBx c91
  clear hBx
  go_wp2_with fail
  refine (Hrg.out _ _ _).mono ?_
  rintro e wc2 ⟨v, rfl, rfl, hBx⟩
  have HBc2 := Lib.hid (below_trans' HBc1.out hBx)
  replace HI5 := Lib.hid (HI5.out.below hBx)
  replace HI8 := Lib.hid (HI8.out.below hBx)
  replace HIa := Lib.hid (HIa.out.below hBx)
  replace c80 := cell_below hBx c80
  replace c81 := cell_below hBx c81
  replace c90 := cell_below hBx c90
  replace c91 := cell_below hBx c91
  clear hBx
  have hc := ranges_any B5 (some ⟨wc2.heap.size, 0, none⟩) c5 3 [(100, 140), (190, 310), (320, 400)] [(100, 140), (190, 310), (320, 400)] (wc2.alloc (.cells #[.int .i64 100, .int .i64 140, .int .i64 190, .int .i64 310, .int .i64 320, .int .i64 400] 50)) (HI5.out.alloc _) (rows_new encR_len _ _ _ _ rfl) (by decide) (by decide)
  rw [decide_eq_true rfl] at hc
  have Hc := Lib.hid hc
  clear hc HI5
  replace HBc2 := Lib.hid (below_alloc' HBc2.out (.cells #[.int .i64 100, .int .i64 140, .int .i64 190, .int .i64 310, .int .i64 320, .int .i64 400] 50))
  replace HI8 := Lib.hid (HI8.out.alloc (.cells #[.int .i64 100, .int .i64 140, .int .i64 190, .int .i64 310, .int .i64 320, .int .i64 400] 50))
  replace HIa := Lib.hid (HIa.out.alloc (.cells #[.int .i64 100, .int .i64 140, .int .i64 190, .int .i64 310, .int .i64 320, .int .i64 400] 50))
  replace c80 := cell_alloc c80 (.cells #[.int .i64 100, .int .i64 140, .int .i64 190, .int .i64 310, .int .i64 320, .int .i64 400] 50)
  replace c81 := cell_alloc c81 (.cells #[.int .i64 100, .int .i64 140, .int .i64 190, .int .i64 310, .int .i64 320, .int .i64 400] 50)
  replace c90 := cell_alloc c90 (.cells #[.int .i64 100, .int .i64 140, .int .i64 190, .int .i64 310, .int .i64 320, .int .i64 400] 50)
  replace c91 := cell_alloc c91 (.cells #[.int .i64 100, .int .i64 140, .int .i64 190, .int .i64 310, .int .i64 320, .int .i64 400] 50)
  go_wp2_with fail
  refine Hc.out.mono ?_
  rintro e wd ⟨v, rfl, rfl, qd, rfl⟩
  clear Hc
  obtain ⟨wd, hwd⟩ : ∃ wd, wd = (wc2.alloc (.cells #[.int .i64 100, .int .i64 140, .int .i64 190, .int .i64 310, .int .i64 320, .int .i64 400] 50)).drewN qd := ⟨_, rfl⟩
  have HBd : Hid (Below w1.heap.size w1 wd) := Lib.hid (by rw [hwd]; exact below_drewN HBc2.out _)
  replace HI8 : Hid (IntsAt wd B8 [140, 310, 400]) := Lib.hid (by rw [hwd]; exact HI8.out.drewN _)
  replace HIa : Hid (IntsAt wd Ba [0, 1, 2, 4]) := Lib.hid (by rw [hwd]; exact HIa.out.drewN _)
  replace c80 : wd.cell? ⟨w6.heap.size, 0, none⟩ = some (.bool true) := by rw [hwd]; exact c80
  replace c81 : wd.cell? ⟨w6.heap.size, 1, none⟩ = some (.bool false) := by rw [hwd]; exact c81
  replace c90 : wd.cell? ⟨w7.heap.size, 0, none⟩ = some (.bool true) := by rw [hwd]; exact c90
  replace c91 : wd.cell? ⟨w7.heap.size, 1, none⟩ = some (.bool true) := by rw [hwd]; exact c91
  rw [← hwd]
  clear hwd
  have hc := refCheckScale_any (some ⟨b, 0, none⟩) B8 5 c8 songL [140, 310, 400] wd (HL.out.below HBd.out) HI8.out (by decide) (by decide)
  rw [scale3] at hc
  have Hc := Lib.hid hc
  clear hc HI8
  go_wp2_with fail
  refine Hc.out.mono ?_
  rintro e we ⟨v, rfl, rfl, hBe⟩
  have HBe := Lib.hid (below_trans' HBd.out hBe)
  replace HIa := Lib.hid (HIa.out.below hBe)
  clear hBe Hc c80 c81 c90 c91
  have hc := ints_any Ba (some ⟨we.heap.size, 0, none⟩) ca 4 [0, 1, 2, 4] [0, 1, 2, 4] (we.alloc (.cells #[.int .i64 0, .int .i64 1, .int .i64 2, .int .i64 4] 3)) (HIa.out.alloc _) (rows_new encI_len _ _ _ _ rfl) (by decide) (by decide)
  rw [decide_eq_true rfl] at hc
  have Hc := Lib.hid hc
  clear hc HIa
  go_wp2_with fail
  refine Hc.out.mono ?_
  rintro e wf ⟨v, rfl, rfl, qf, rfl⟩
  clear Hc
  go_wp2
  go_ret
  exact Ret.mk' rfl ⟨rfl, below_trans' HB1.out (below_drewN (below_alloc' HBe.out _) _)⟩
end Go.Proofs.Ytkjmeeggjmeajaa
