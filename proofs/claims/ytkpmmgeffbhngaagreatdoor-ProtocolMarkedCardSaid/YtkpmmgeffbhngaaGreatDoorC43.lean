/- What the laws of the chapter rest on, part 43. -/
import Derived.Test.YtkpmmgeffbhngaaGreatDoorC24
import Derived.Test.YtkpmmgeffbhngaaGreatDoorC40
import Derived.Test.YtkpmmgeffbhngaaGreatDoorC42
set_option linter.unusedSimpArgs false
set_option linter.unusedVariables false
set_option linter.unnecessarySimpa false
namespace Prot
end Prot
namespace Go.Shelf
end Go.Shelf
namespace Go.Maps
end Go.Maps
namespace Go.Proofs.YtkpmmgeffbhngaaGreatDoor
open Go.RowKit Go.Shelf Prot Go.Lib Go.Maps
theorem exMark (w : World) (hT : Tab w) : Calls Tryz.prog 16 #[.int .i64 123] w (Ret fun v w' => v = .tuple #[.string ⟨#[49, 50, 51, 50, 48]⟩, .int .i64 0] ∧ Below w.heap.size w w') := by
  refine (Mark_any 123 w hT).mono ?_
  rintro _ w' ⟨v, rfl, rfl, hb⟩
  refine Ret.mk ⟨?_, hb⟩
  unfold markT
  rw [if_pos (by decide), show (123 : Int).toNat = 123 from rfl, ex_mark]; rfl
theorem exCheck (w : World) (hT : Tab w) : Calls Tryz.prog 18 #[.string ⟨#[49, 50, 51, 50, 48]⟩] w (Ret fun v w' => v = .tuple #[.int .i64 123, .int .i64 0] ∧ Below w.heap.size w w') := by
  refine (CheckMark_any [49, 50, 51, 50, 48] w hT (by decide)).mono ?_
  rintro _ w' ⟨v, rfl, rfl, hb⟩
  refine Ret.mk ⟨?_, hb⟩
  unfold cmT
  rw [ex_check]
theorem exSum (w : World) (hT : Tab w) : Calls Tryz.prog 18 #[.string ⟨#[49, 51, 50, 50, 48]⟩] w (Ret fun v w' => v = .tuple #[.int .i64 0, .int .i64 14] ∧ Below w.heap.size w w') := by
  refine (CheckMark_any [49, 51, 50, 50, 48] w hT (by decide)).mono ?_
  rintro _ w' ⟨v, rfl, rfl, hb⟩
  refine Ret.mk ⟨?_, hb⟩
  unfold cmT
  rw [ex_sum]
theorem exEncode (w : World) (hT : Tab w) : Calls Tryz.prog 20 #[.slice (some ⟨w.heap.size, 0, none⟩) 4 4] (w.alloc (.cells #[.int .i64 5, .int .i64 5, .int .i64 3, .int .i64 100] 2)) (Ret fun v w' => v = .tuple #[.string ⟨#[107, 97, 100, 77, 99, 10]⟩, .int .i64 0] ∧ Below w.heap.size w w') := by
  have hal := below_alloc' (Below.refl w.heap.size w) (.cells #[.int .i64 5, .int .i64 5, .int .i64 3, .int .i64 100] 2)
  refine (Encode_any (some ⟨w.heap.size, 0, none⟩) 4 [5, 5, 3, 100] _ (rows_new encI_len _ _ _ _ rfl) (by decide) (by decide)).mono ?_
  rintro _ w' ⟨v, rfl, rfl, hb⟩
  refine Ret.mk ⟨?_, below_trans' hal hb⟩
  unfold encT
  rw [ex_encV]; rfl
theorem exDecode (w : World) (hT : Tab w) : Calls Tryz.prog 22 #[.string ⟨#[107, 97, 100, 77, 99, 10]⟩] w (Ret fun v w' => (∃ A ca, v = .tuple #[.slice A 4 ca, .int .i64 0] ∧ IntsAt w' A [5, 5, 3, 100]) ∧ Below w.heap.size w w') := by
  refine (Decode_any (bs fileL) w (by decide)).mono ?_
  rintro _ w' ⟨v, rfl, A, ca, rfl, h1, h2, hb⟩
  rw [bs_list, ex_dec] at h2 ⊢
  exact Ret.mk ⟨⟨A, ca, rfl, h2⟩, hb⟩
theorem exLine (w : World) (hT : Tab w) : Calls Tryz.prog 25 #[.agg #[.int .i64 3, .int .i64 11, .int .i64 5, .int .i64 90]] w (Ret fun v w' => v = .tuple #[.string ⟨#[115, 105, 110, 103, 32, 49, 49, 32, 53, 32, 57, 48]⟩, .int .i64 0] ∧ Below w.heap.size w w') := by
  refine (Line_any (3, 11, 5, 90) w hT).mono ?_
  rintro _ w' ⟨v, rfl, rfl, hb⟩
  refine Ret.mk ⟨?_, hb⟩
  unfold lineT
  rw [ex_line]; rfl
theorem exParse (w : World) (hT : Tab w) : Calls Tryz.prog 27 #[.string ⟨#[99, 111, 112, 121, 32, 49, 50, 32, 49, 49]⟩] w (Ret fun v w' => v = .tuple #[.agg #[.int .i64 4, .int .i64 12, .int .i64 11, .int .i64 0], .int .i64 0] ∧ Below w.heap.size w w') := by
  refine (Parse_any (bs copyL) w hT (by decide)).mono ?_
  rintro _ w' ⟨v, rfl, rfl, hb⟩
  refine Ret.mk ⟨?_, hb⟩
  unfold parseT
  rw [bs_list, ex_parse]; rfl
theorem exCard (k a b c : Int) (w : World) : Calls Tryz.prog 46 #[.int .i64 k, .int .i64 a, .int .i64 b, .int .i64 c] w (Ret fun v w' => v = .agg #[.int .i64 k, .int .i64 a, .int .i64 b, .int .i64 c] ∧ Below w.heap.size w w') := Card_any k a b c w
theorem exJourney (w : World) : Calls Tryz.prog 47 #[] w (Ret fun v w' => v = .string (bs exL) ∧ Below w.heap.size w w') := by
  refine (Journey_any w).mono ?_
  rintro _ w' ⟨v, rfl, rfl, rfl⟩
  exact Ret.mk ⟨rfl, Below.refl _ _⟩
theorem exRun (w : World) (hT : Tab w) : Calls Tryz.prog 29 #[.string (bs exL)] w (Ret fun v w' => (∃ A ca, v = .tuple #[.slice A 9 ca, .int .i64 0] ∧ IntsAt w' A [0, 0, 0, 0, 12, 0, 22, 0, 24]) ∧ Below w.heap.size w w') := by
  refine (Run_any exL w hT (by decide)).mono ?_
  rintro _ w' ⟨v, rfl, A, ca, rfl, h1, h2, hb⟩
  rw [ex_run] at h2 ⊢
  exact Ret.mk ⟨⟨A, ca, rfl, h2⟩, hb⟩
theorem exState (w : World) (hT : Tab w) : Calls Tryz.prog 31 #[.string (bs exL)] w (Ret fun v w' => (∃ A ca, v = .tuple #[.slice A 1 ca, .int .i64 0] ∧ ItemsAt w' A [exIt]) ∧ Below w.heap.size w w') := by
  refine (State_any exL w hT (by decide)).mono ?_
  rintro _ w' ⟨v, rfl, A, ca, rfl, h1, h2, hb⟩
  rw [ex_state] at h2 ⊢
  exact Ret.mk ⟨⟨A, ca, rfl, h2⟩, hb⟩
theorem exFairC (w : World) (hT : Tab w) : Calls Tryz.prog 33 #[.string (bs exL)] w (Ret fun v w' => v = .tuple #[.string ⟨#[100, 97, 121, 32, 51, 10, 98, 111, 120, 32, 55, 10, 115, 105, 110, 103, 32, 49, 49, 32, 53, 32, 57, 48, 10, 99, 114, 97, 99, 107, 32, 49, 49, 10]⟩, .int .i64 0] ∧ Below w.heap.size w w') := by
  refine (Fair_any exL w hT (by decide)).mono ?_
  rintro _ w' ⟨v, rfl, rfl, hb⟩
  refine Ret.mk ⟨?_, hb⟩
  rw [ex_fair]; rfl
theorem exList (A : Option Addr) (w : World) (hT : Tab w) (hl : ItemsAt w A [exIt]) : Calls Tryz.prog 37 #[.slice A 1 1] w (Ret fun v w' => v = .tuple #[.string ⟨#[98, 111, 120, 32, 55, 10, 49, 49, 54, 53, 32, 51, 32, 53, 32, 57, 48, 32, 48, 32, 49, 10]⟩, .int .i64 0] ∧ Below w.heap.size w w') := by
  refine (List_any A 1 [exIt] w hT hl (by decide) (by decide)).mono ?_
  rintro _ w' ⟨v, rfl, rfl, hb⟩
  refine Ret.mk ⟨?_, hb⟩
  rw [ex_list]; rfl
theorem exRead (w : World) (hT : Tab w) : Calls Tryz.prog 39 #[.string ⟨#[98, 111, 120, 32, 55, 10, 49, 49, 54, 53, 32, 51, 32, 53, 32, 57, 48, 32, 48, 32, 49, 10]⟩] w (Ret fun v w' => (∃ A ca, v = .tuple #[.slice A 1 ca, .int .i64 0] ∧ ItemsAt w' A [exIt]) ∧ Below w.heap.size w w') := by
  refine (ReadList_any exShelf w hT (by decide)).mono ?_
  rintro _ w' ⟨v, rfl, A, ca, rfl, h1, h2, hb⟩
  rw [ex_read] at h2 ⊢
  exact Ret.mk ⟨⟨A, ca, rfl, h2⟩, hb⟩
theorem exLongs (A : Option Addr) (ca : Nat) (w : World) (hl : IntsAt w A [5, 5, 3, 100]) : Calls Tryz.prog 24 #[.slice A 4 ca, .slice (some ⟨w.heap.size, 0, none⟩) 4 4] (w.alloc (.cells #[.int .i64 5, .int .i64 5, .int .i64 3, .int .i64 100] 2)) (Ret fun v w' => v = .bool true ∧ Below w.heap.size w w') := by
  have hal := below_alloc' (Below.refl w.heap.size w) (.cells #[.int .i64 5, .int .i64 5, .int .i64 3, .int .i64 100] 2)
  refine (longs_any A (some ⟨w.heap.size, 0, none⟩) ca 4 [5, 5, 3, 100] [5, 5, 3, 100] _ (IntsAt.below hl hal) (rows_new encI_len _ _ _ _ rfl) (by decide)).mono ?_
  rintro _ w' ⟨v, rfl, rfl, q, rfl⟩
  exact Ret.mk ⟨by simp, below_drewN hal q⟩
theorem exErrs (A : Option Addr) (ca : Nat) (w : World) (hl : IntsAt w A [0, 0, 0, 0, 12, 0, 22, 0, 24]) : Calls Tryz.prog 35 #[.slice A 9 ca, .slice (some ⟨w.heap.size, 0, none⟩) 9 9] (w.alloc (.cells #[.int .i64 0, .int .i64 0, .int .i64 0, .int .i64 0, .int .i64 12, .int .i64 0, .int .i64 22, .int .i64 0, .int .i64 24] 23)) (Ret fun v w' => v = .bool true ∧ Below w.heap.size w w') := by
  have hal := below_alloc' (Below.refl w.heap.size w) (.cells #[.int .i64 0, .int .i64 0, .int .i64 0, .int .i64 0, .int .i64 12, .int .i64 0, .int .i64 22, .int .i64 0, .int .i64 24] 23)
  refine (errs_any A (some ⟨w.heap.size, 0, none⟩) ca 9 [0, 0, 0, 0, 12, 0, 22, 0, 24] [0, 0, 0, 0, 12, 0, 22, 0, 24] _ (IntsAt.below hl hal) (rows_new encI_len _ _ _ _ rfl) (by decide)).mono ?_
  rintro _ w' ⟨v, rfl, rfl, q, rfl⟩
  exact Ret.mk ⟨by simp, below_drewN hal q⟩
theorem exItems (A B : Option Addr) (ca cb : Nat) (w : World) (hl : ItemsAt w A [exIt]) (hm : ItemsAt w B [exIt]) : Calls Tryz.prog 36 #[.slice A 1 ca, .slice B 1 cb] w (Ret fun v w' => v = .bool true ∧ Below w.heap.size w w') := by
  refine (items_any A B ca cb [exIt] [exIt] w hl hm (by decide)).mono ?_
  rintro _ w' ⟨v, rfl, rfl, q, rfl⟩
  exact Ret.mk ⟨by simp, below_drewN (Below.refl _ _) q⟩
theorem card_same (w : World) : (binOp .eql 36 (.agg #[.int .i64 4, .int .i64 12, .int .i64 11, .int .i64 0]) (.agg #[.int .i64 4, .int .i64 12, .int .i64 11, .int .i64 0])).run Tryz.prog w = .ok (.bool true) w := by kernel_rfl
set_option maxRecDepth 100000 in
set_option maxHeartbeats 4000000 in
theorem works_any (w : World) (hT : Tab w) : Calls Tryz.prog 15 #[] w (Ret fun v w' => v = .bool true ∧ Below w.heap.size w w') := by
  have HB0 := Lib.hid (Below.refl w.heap.size w)
  have HT := Lib.hid hT
  clear hT
  go_enter Tryz.func15, Tryz.ntmps15
  have Hc := Lib.hid (exMark w HT.out)
  go_wp2_with fail
  refine Hc.out.mono ?_
  rintro e w1 ⟨v, rfl, rfl, hb⟩
  have HB1 := Lib.hid (below_trans' HB0.out hb)
  replace HT := Lib.hid (HT.out.below hb)
  clear hb Hc HB0
  have Hc := Lib.hid (exCheck w1 HT.out)
  go_wp2_with fail
  refine Hc.out.mono ?_
  rintro e w2 ⟨v, rfl, rfl, hb⟩
  have HB2 := Lib.hid (below_trans' HB1.out hb)
  replace HT := Lib.hid (HT.out.below hb)
  clear hb Hc HB1
  have Hc := Lib.hid (exSum w2 HT.out)
  go_wp2_with fail
  refine Hc.out.mono ?_
  rintro e w3 ⟨v, rfl, rfl, hb⟩
  have HB3 := Lib.hid (below_trans' HB2.out hb)
  replace HT := Lib.hid (HT.out.below hb)
  clear hb Hc HB2
  have Hc := Lib.hid (exEncode w3 HT.out)
  go_wp2_with fail
  refine Hc.out.mono ?_
  rintro e w4 ⟨v, rfl, rfl, hb⟩
  have HB4 := Lib.hid (below_trans' HB3.out hb)
  replace HT := Lib.hid (HT.out.below hb)
  clear hb Hc HB3
  have Hc := Lib.hid (exDecode w4 HT.out)
  go_wp2_with fail
  refine Hc.out.mono ?_
  rintro e w5 ⟨v, rfl, ⟨A5, c5, rfl, h5⟩, hb⟩
  have HB5 := Lib.hid (below_trans' HB4.out hb)
  replace HT := Lib.hid (HT.out.below hb)
  clear hb Hc HB4
  have HD := Lib.hid h5
  clear h5
  have Hc := Lib.hid (exCard 3 11 5 90 w5)
  go_wp2_with fail
  refine Hc.out.mono ?_
  rintro e w6 ⟨v, rfl, rfl, hb⟩
  have HB6 := Lib.hid (below_trans' HB5.out hb)
  replace HT := Lib.hid (HT.out.below hb)
  replace HD := Lib.hid (HD.out.below hb)
  clear hb Hc HB5
  have Hc := Lib.hid (exLine w6 HT.out)
  go_wp2_with fail
  refine Hc.out.mono ?_
  rintro e w7 ⟨v, rfl, rfl, hb⟩
  have HB7 := Lib.hid (below_trans' HB6.out hb)
  replace HT := Lib.hid (HT.out.below hb)
  replace HD := Lib.hid (HD.out.below hb)
  clear hb Hc HB6
  have Hc := Lib.hid (exParse w7 HT.out)
  go_wp2_with fail
  refine Hc.out.mono ?_
  rintro e w8 ⟨v, rfl, rfl, hb⟩
  have HB8 := Lib.hid (below_trans' HB7.out hb)
  replace HT := Lib.hid (HT.out.below hb)
  replace HD := Lib.hid (HD.out.below hb)
  clear hb Hc HB7
  have hX := heap_alloc_new w8 (.cells #[.int .i64 4, .int .i64 12, .int .i64 11, .int .i64 0] 36)
  have hb := below_alloc' (Below.refl w8.heap.size w8) (.cells #[.int .i64 4, .int .i64 12, .int .i64 11, .int .i64 0] 36)
  go_upto_region 8 with fail
  have HB9 := Lib.hid (below_trans' HB8.out hb)
  replace HT := Lib.hid (HT.out.below hb)
  replace HD := Lib.hid (HD.out.below hb)
  clear hb HB8
  generalize w8.alloc (.cells #[.int .i64 4, .int .i64 12, .int .i64 11, .int .i64 0] 36) = w9 at *
  generalize w8.heap.size = X9 at *
  have y0 : w9.cell? ⟨X9, 0, none⟩ = some (.int .i64 4) := (blk_cell hX).trans rfl
  have y1 : w9.cell? ⟨X9, 1, none⟩ = some (.int .i64 12) := (blk_cell hX).trans rfl
  have y2 : w9.cell? ⟨X9, 2, none⟩ = some (.int .i64 11) := (blk_cell hX).trans rfl
  have y3 : w9.cell? ⟨X9, 3, none⟩ = some (.int .i64 0) := (blk_cell hX).trans rfl
  clear hX
  have Hc := Lib.hid (exJourney w9)
  go_wp2_with fail
  refine Hc.out.mono ?_
  rintro e w10 ⟨v, rfl, rfl, hb⟩
  have HB10 := Lib.hid (below_trans' HB9.out hb)
  replace HT := Lib.hid (HT.out.below hb)
  replace HD := Lib.hid (HD.out.below hb)
  replace y0 := cell_below hb y0
  replace y1 := cell_below hb y1
  replace y2 := cell_below hb y2
  replace y3 := cell_below hb y3
  clear hb Hc HB9
  have Hc := Lib.hid (exRun w10 HT.out)
  go_wp2_with fail
  refine Hc.out.mono ?_
  rintro e w11 ⟨v, rfl, ⟨A6, c6, rfl, h6⟩, hb⟩
  have HB11 := Lib.hid (below_trans' HB10.out hb)
  replace HT := Lib.hid (HT.out.below hb)
  replace HD := Lib.hid (HD.out.below hb)
  replace y0 := cell_below hb y0
  replace y1 := cell_below hb y1
  replace y2 := cell_below hb y2
  replace y3 := cell_below hb y3
  clear hb Hc HB10
  have HRn := Lib.hid h6
  clear h6
  have Hc := Lib.hid (exJourney w11)
  go_wp2_with fail
  refine Hc.out.mono ?_
  rintro e w12 ⟨v, rfl, rfl, hb⟩
  have HB12 := Lib.hid (below_trans' HB11.out hb)
  replace HT := Lib.hid (HT.out.below hb)
  replace HD := Lib.hid (HD.out.below hb)
  replace HRn := Lib.hid (HRn.out.below hb)
  replace y0 := cell_below hb y0
  replace y1 := cell_below hb y1
  replace y2 := cell_below hb y2
  replace y3 := cell_below hb y3
  clear hb Hc HB11
  have Hc := Lib.hid (exState w12 HT.out)
  go_wp2_with fail
  refine Hc.out.mono ?_
  rintro e w13 ⟨v, rfl, ⟨A7, c7, rfl, h7⟩, hb⟩
  have HB13 := Lib.hid (below_trans' HB12.out hb)
  replace HT := Lib.hid (HT.out.below hb)
  replace HD := Lib.hid (HD.out.below hb)
  replace HRn := Lib.hid (HRn.out.below hb)
  replace y0 := cell_below hb y0
  replace y1 := cell_below hb y1
  replace y2 := cell_below hb y2
  replace y3 := cell_below hb y3
  clear hb Hc HB12
  have HSt := Lib.hid h7
  clear h7
  have Hc := Lib.hid (exJourney w13)
  go_wp2_with fail
  refine Hc.out.mono ?_
  rintro e w14 ⟨v, rfl, rfl, hb⟩
  have HB14 := Lib.hid (below_trans' HB13.out hb)
  replace HT := Lib.hid (HT.out.below hb)
  replace HD := Lib.hid (HD.out.below hb)
  replace HRn := Lib.hid (HRn.out.below hb)
  replace HSt := Lib.hid (HSt.out.below hb)
  replace y0 := cell_below hb y0
  replace y1 := cell_below hb y1
  replace y2 := cell_below hb y2
  replace y3 := cell_below hb y3
  clear hb Hc HB13
  have Hc := Lib.hid (exFairC w14 HT.out)
  go_wp2_with fail
  refine Hc.out.mono ?_
  rintro e w15 ⟨v, rfl, rfl, hb⟩
  have HB15 := Lib.hid (below_trans' HB14.out hb)
  replace HT := Lib.hid (HT.out.below hb)
  replace HD := Lib.hid (HD.out.below hb)
  replace HRn := Lib.hid (HRn.out.below hb)
  replace HSt := Lib.hid (HSt.out.below hb)
  replace y0 := cell_below hb y0
  replace y1 := cell_below hb y1
  replace y2 := cell_below hb y2
  replace y3 := cell_below hb y3
  clear hb Hc HB14
  have hX : ItemsAt (w15.alloc (.cells #[.int .i64 11, .int .i64 7, .int .i64 3, .int .i64 5, .int .i64 90, .int .i64 0, .bool true] 67)) (some ⟨w15.heap.size, 0, none⟩) [exIt] := rows_new encIt_len _ _ _ _ rfl
  have HX := Lib.hid hX
  clear hX
  have hb := below_alloc' (Below.refl w15.heap.size w15) (.cells #[.int .i64 11, .int .i64 7, .int .i64 3, .int .i64 5, .int .i64 90, .int .i64 0, .bool true] 67)
  go_upto_region 14 with fail
  have HB16 := Lib.hid (below_trans' HB15.out hb)
  replace HT := Lib.hid (HT.out.below hb)
  replace HD := Lib.hid (HD.out.below hb)
  replace HRn := Lib.hid (HRn.out.below hb)
  replace HSt := Lib.hid (HSt.out.below hb)
  replace y0 := cell_below hb y0
  replace y1 := cell_below hb y1
  replace y2 := cell_below hb y2
  replace y3 := cell_below hb y3
  clear hb HB15
  generalize w15.alloc (.cells #[.int .i64 11, .int .i64 7, .int .i64 3, .int .i64 5, .int .i64 90, .int .i64 0, .bool true] 67) = w16 at *
  generalize w15.heap.size = X16 at *
  have Hc := Lib.hid (exList (some ⟨X16, 0, none⟩) w16 HT.out HX.out)
  go_wp2_with fail
  refine Hc.out.mono ?_
  rintro e w17 ⟨v, rfl, rfl, hb⟩
  have HB17 := Lib.hid (below_trans' HB16.out hb)
  replace HT := Lib.hid (HT.out.below hb)
  replace HD := Lib.hid (HD.out.below hb)
  replace HRn := Lib.hid (HRn.out.below hb)
  replace HSt := Lib.hid (HSt.out.below hb)
  replace HX := Lib.hid (HX.out.below hb)
  replace y0 := cell_below hb y0
  replace y1 := cell_below hb y1
  replace y2 := cell_below hb y2
  replace y3 := cell_below hb y3
  clear hb Hc HB16
  have Hc := Lib.hid (exRead w17 HT.out)
  go_wp2_with fail
  refine Hc.out.mono ?_
  rintro e w18 ⟨v, rfl, ⟨A8, c8, rfl, h8⟩, hb⟩
  have HB18 := Lib.hid (below_trans' HB17.out hb)
  replace HT := Lib.hid (HT.out.below hb)
  replace HD := Lib.hid (HD.out.below hb)
  replace HRn := Lib.hid (HRn.out.below hb)
  replace HSt := Lib.hid (HSt.out.below hb)
  replace HX := Lib.hid (HX.out.below hb)
  replace y0 := cell_below hb y0
  replace y1 := cell_below hb y1
  replace y2 := cell_below hb y2
  replace y3 := cell_below hb y3
  clear hb Hc HB17
  have HRd := Lib.hid h8
  clear h8
  go_upto_region 16 with fail
  refine wp_region_held_drew (S := fun V => V.cell? ⟨X9, 0, none⟩ = some (.int .i64 4) ∧ V.cell? ⟨X9, 1, none⟩ = some (.int .i64 12) ∧ V.cell? ⟨X9, 2, none⟩ = some (.int .i64 11) ∧ V.cell? ⟨X9, 3, none⟩ = some (.int .i64 0)) (by kernel_rfl) ⟨y0, y1, y2, y3⟩ (fun hS9 => ?_)
  have HBv : Hid (Below w.heap.size w w18.drew) := Lib.hid HB18.out.drew
  replace HD : Hid (IntsAt w18.drew A5 [5, 5, 3, 100]) := HD
  replace HRn : Hid (IntsAt w18.drew A6 [0, 0, 0, 0, 12, 0, 22, 0, 24]) := HRn
  replace HSt : Hid (ItemsAt w18.drew A7 [exIt]) := HSt
  replace HX : Hid (ItemsAt w18.drew (some ⟨X16, 0, none⟩) [exIt]) := HX
  replace HRd : Hid (ItemsAt w18.drew A8 [exIt]) := HRd
  clear y0 y1 y2 y3 HT HB18
  generalize w18.drew = v0 at *
  obtain ⟨y0, y1, y2, y3⟩ := hS9
  refine takeD (i := 0) (d := 118) (v := ?_) rfl rfl (by kernel_rfl) (by kernel_rfl) (by kernel_rfl) (fun _ _ _ h => h) (Or.inl ⟨by rfl, ?_⟩) ⟨y0, y1, y2, y3⟩ ?_
  rotate_left 1
  · intro W hW; obtain ⟨z0, z1, z2, z3⟩ := hW; go_simp <;> with_reducible rfl
  simp only [List.setIfInBounds_toArray, List.set_cons_succ, List.set_cons_zero]
  refine takeD (i := 1) (d := 119) (v := ?_) rfl rfl (by kernel_rfl) (by kernel_rfl) (by kernel_rfl) (fun _ _ _ h => h) (Or.inl ⟨by rfl, ?_⟩) ⟨y0, y1, y2, y3⟩ ?_
  rotate_left 1
  · intro W hW; obtain ⟨z0, z1, z2, z3⟩ := hW; go_simp <;> with_reducible rfl
  simp only [List.setIfInBounds_toArray, List.set_cons_succ, List.set_cons_zero]
  refine takeD (i := 2) (d := 120) (v := ?_) rfl rfl (by kernel_rfl) (by kernel_rfl) (by kernel_rfl) (fun _ _ _ h => h) (Or.inl ⟨by rfl, ?_⟩) ⟨y0, y1, y2, y3⟩ ?_
  rotate_left 1
  · intro W hW; obtain ⟨z0, z1, z2, z3⟩ := hW; go_simp <;> with_reducible rfl
  simp only [List.setIfInBounds_toArray, List.set_cons_succ, List.set_cons_zero]
  refine takeD (i := 3) (d := 121) (v := ?_) rfl rfl (by kernel_rfl) (by kernel_rfl) (by kernel_rfl) (fun _ _ _ h => h) (Or.inl ⟨by rfl, ?_⟩) ⟨y0, y1, y2, y3⟩ ?_
  rotate_left 1
  · intro W hW; obtain ⟨z0, z1, z2, z3⟩ := hW; go_simp <;> with_reducible rfl
  simp only [List.setIfInBounds_toArray, List.set_cons_succ, List.set_cons_zero]
  refine takeD (i := 4) (d := 122) (v := ?_) rfl rfl (by kernel_rfl) (by kernel_rfl) (by kernel_rfl) (fun _ _ _ h => h) (Or.inl ⟨by rfl, ?_⟩) ⟨y0, y1, y2, y3⟩ ?_
  rotate_left 1
  · intro W hW; obtain ⟨z0, z1, z2, z3⟩ := hW; go_simp <;> with_reducible rfl
  simp only [List.setIfInBounds_toArray, List.set_cons_succ, List.set_cons_zero]
  refine takeD (i := 5) (d := 123) (v := ?_) rfl rfl (by kernel_rfl) (by kernel_rfl) (by kernel_rfl) (fun _ _ _ h => h) (Or.inl ⟨by rfl, ?_⟩) ⟨y0, y1, y2, y3⟩ ?_
  rotate_left 1
  · intro W hW; obtain ⟨z0, z1, z2, z3⟩ := hW; go_simp <;> with_reducible rfl
  simp only [List.setIfInBounds_toArray, List.set_cons_succ, List.set_cons_zero]
  refine takeD (i := 6) (d := 124) (v := ?_) rfl rfl (by kernel_rfl) (by kernel_rfl) (by kernel_rfl) (fun _ _ _ h => h) (Or.inl ⟨by rfl, ?_⟩) ⟨y0, y1, y2, y3⟩ ?_
  rotate_left 1
  · intro W hW; obtain ⟨z0, z1, z2, z3⟩ := hW; go_simp <;> with_reducible rfl
  simp only [List.setIfInBounds_toArray, List.set_cons_succ, List.set_cons_zero]
  refine takeD (i := 7) (d := 125) (v := ?_) rfl rfl (by kernel_rfl) (by kernel_rfl) (by kernel_rfl) (fun _ _ _ h => h) (Or.inl ⟨by rfl, ?_⟩) ⟨y0, y1, y2, y3⟩ ?_
  rotate_left 1
  · intro W hW; obtain ⟨z0, z1, z2, z3⟩ := hW; go_simp <;> with_reducible rfl
  simp only [List.setIfInBounds_toArray, List.set_cons_succ, List.set_cons_zero]
  refine takeD (i := 8) (d := 126) (v := ?_) rfl rfl (by kernel_rfl) (by kernel_rfl) (by kernel_rfl) (fun _ _ _ h => h) (Or.inl ⟨by rfl, ?_⟩) ⟨y0, y1, y2, y3⟩ ?_
  rotate_left 1
  · intro W hW; obtain ⟨z0, z1, z2, z3⟩ := hW; go_simp <;> with_reducible rfl
  simp only [List.setIfInBounds_toArray, List.set_cons_succ, List.set_cons_zero]
  refine takeD (i := 9) (d := 127) (v := ?_) rfl rfl (by kernel_rfl) (by kernel_rfl) (by kernel_rfl) (fun _ _ _ h => h) (Or.inl ⟨by rfl, ?_⟩) ⟨y0, y1, y2, y3⟩ ?_
  rotate_left 1
  · intro W hW; obtain ⟨z0, z1, z2, z3⟩ := hW; go_simp <;> with_reducible rfl
  simp only [List.setIfInBounds_toArray, List.set_cons_succ, List.set_cons_zero]
  refine takeD (i := 10) (d := 128) (v := ?_) rfl rfl (by kernel_rfl) (by kernel_rfl) (by kernel_rfl) (fun _ _ _ h => h) (Or.inl ⟨by rfl, ?_⟩) ⟨y0, y1, y2, y3⟩ ?_
  rotate_left 1
  · intro W hW; obtain ⟨z0, z1, z2, z3⟩ := hW; go_simp <;> with_reducible rfl
  simp only [List.setIfInBounds_toArray, List.set_cons_succ, List.set_cons_zero]
  refine takeD (i := 11) (d := 129) (v := ?_) rfl rfl (by kernel_rfl) (by kernel_rfl) (by kernel_rfl) (fun _ _ _ h => h) (Or.inl ⟨by rfl, ?_⟩) ⟨y0, y1, y2, y3⟩ ?_
  rotate_left 1
  · intro W hW; obtain ⟨z0, z1, z2, z3⟩ := hW; go_simp <;> with_reducible rfl
  simp only [List.setIfInBounds_toArray, List.set_cons_succ, List.set_cons_zero]
  refine takeD (i := 12) (d := 130) (v := ?_) rfl rfl (by kernel_rfl) (by kernel_rfl) (by kernel_rfl) (fun _ _ _ h => h) (Or.inl ⟨by rfl, ?_⟩) ⟨y0, y1, y2, y3⟩ ?_
  rotate_left 1
  · intro W hW; obtain ⟨z0, z1, z2, z3⟩ := hW; go_simp <;> with_reducible rfl
  simp only [List.setIfInBounds_toArray, List.set_cons_succ, List.set_cons_zero]
  refine takeD (i := 13) (d := 131) (v := ?_) rfl rfl (by kernel_rfl) (by kernel_rfl) (by kernel_rfl) (fun _ _ _ h => h) (Or.inl ⟨by rfl, ?_⟩) ⟨y0, y1, y2, y3⟩ ?_
  rotate_left 1
  · intro W hW; obtain ⟨z0, z1, z2, z3⟩ := hW; go_simp <;> with_reducible rfl
  simp only [List.setIfInBounds_toArray, List.set_cons_succ, List.set_cons_zero]
  refine takeD (i := 14) (d := 132) (v := ?_) rfl rfl (by kernel_rfl) (by kernel_rfl) (by kernel_rfl) (fun _ _ _ h => h) (Or.inl ⟨by rfl, ?_⟩) ⟨y0, y1, y2, y3⟩ ?_
  rotate_left 1
  · intro W hW; obtain ⟨z0, z1, z2, z3⟩ := hW; go_simp <;> with_reducible rfl
  simp only [List.setIfInBounds_toArray, List.set_cons_succ, List.set_cons_zero]
  refine takeD (i := 15) (d := 133) (v := ?_) rfl rfl (by kernel_rfl) (by kernel_rfl) (by kernel_rfl) (fun _ _ _ h => h) (Or.inl ⟨by rfl, ?_⟩) ⟨y0, y1, y2, y3⟩ ?_
  rotate_left 1
  · intro W hW; obtain ⟨z0, z1, z2, z3⟩ := hW; go_simp <;> with_reducible rfl
  simp only [List.setIfInBounds_toArray, List.set_cons_succ, List.set_cons_zero]
  refine takeD (i := 16) (d := 134) (v := ?_) rfl rfl (by kernel_rfl) (by kernel_rfl) (by kernel_rfl) (fun _ _ _ h => h) (Or.inl ⟨by rfl, ?_⟩) ⟨y0, y1, y2, y3⟩ ?_
  rotate_left 1
  · intro W hW; obtain ⟨z0, z1, z2, z3⟩ := hW; go_simp <;> with_reducible rfl
  simp only [List.setIfInBounds_toArray, List.set_cons_succ, List.set_cons_zero]
  refine takeD (i := 17) (d := 135) (v := ?_) rfl rfl (by kernel_rfl) (by kernel_rfl) (by kernel_rfl) (fun _ _ _ h => h) (Or.inl ⟨by rfl, ?_⟩) ⟨y0, y1, y2, y3⟩ ?_
  rotate_left 1
  · intro W hW; obtain ⟨z0, z1, z2, z3⟩ := hW; go_simp <;> with_reducible rfl
  simp only [List.setIfInBounds_toArray, List.set_cons_succ, List.set_cons_zero]
  refine takeD (i := 18) (d := 136) (v := ?_) rfl rfl (by kernel_rfl) (by kernel_rfl) (by kernel_rfl) (fun _ _ _ h => h) (Or.inl ⟨by rfl, ?_⟩) ⟨y0, y1, y2, y3⟩ ?_
  rotate_left 1
  · intro W hW; obtain ⟨z0, z1, z2, z3⟩ := hW; go_simp <;> with_reducible rfl
  simp only [List.setIfInBounds_toArray, List.set_cons_succ, List.set_cons_zero]
  refine takeD (i := 19) (d := 137) (v := ?_) rfl rfl (by kernel_rfl) (by kernel_rfl) (by kernel_rfl) (fun _ _ _ h => h) (Or.inl ⟨by rfl, ?_⟩) ⟨y0, y1, y2, y3⟩ ?_
  rotate_left 1
  · intro W hW; obtain ⟨z0, z1, z2, z3⟩ := hW; go_simp <;> with_reducible rfl
  simp only [List.setIfInBounds_toArray, List.set_cons_succ, List.set_cons_zero]
  have HCx := Lib.hid (exLongs A5 c5 v0 HD.out)
  refine wpAnyH_ready (rs := [20]) (by kernel_rfl) (by simp) ?_
  refine AllReadyH.cons rfl (fun K hK => ?_) AllReadyH.nil
  go_simp
  refine hK.out _ _ ⟨cell_alloc y0 _, cell_alloc y1 _, cell_alloc y2 _, cell_alloc y3 _⟩ (fun _ => ?_)
  clear hK K
  refine wpAnyH_ready (rs := [21]) (by kernel_rfl) (by simp) ?_
  refine AllReadyH.cons rfl (fun K hK => ?_) AllReadyH.nil
  go_simp
  refine HCx.out.mono ?_
  rintro _ v1 ⟨v, rfl, rfl, hb⟩
  clear HCx
  replace HD := Lib.hid (RowsAt.below HD.out hb)
  replace HRn := Lib.hid (RowsAt.below HRn.out hb)
  replace HSt := Lib.hid (RowsAt.below HSt.out hb)
  replace HX := Lib.hid (RowsAt.below HX.out hb)
  replace HRd := Lib.hid (RowsAt.below HRd.out hb)
  replace y0 := cell_below hb y0
  replace y1 := cell_below hb y1
  replace y2 := cell_below hb y2
  replace y3 := cell_below hb y3
  replace HBv := Lib.hid (below_trans' HBv.out hb)
  clear hb
  refine hK.out _ _ ⟨y0, y1, y2, y3⟩ (fun _ => ?_)
  clear hK K
  refine takeD (i := 22) (d := 140) (v := ?_) rfl rfl (by kernel_rfl) (by kernel_rfl) (by kernel_rfl) (fun _ _ _ h => h) (Or.inl ⟨by rfl, ?_⟩) ⟨y0, y1, y2, y3⟩ ?_
  rotate_left 1
  · intro W hW; obtain ⟨z0, z1, z2, z3⟩ := hW; go_simp <;> with_reducible rfl
  simp only [List.setIfInBounds_toArray, List.set_cons_succ, List.set_cons_zero]
  refine takeD (i := 23) (d := 141) (v := ?_) rfl rfl (by kernel_rfl) (by kernel_rfl) (by kernel_rfl) (fun _ _ _ h => h) (Or.inl ⟨by rfl, ?_⟩) ⟨y0, y1, y2, y3⟩ ?_
  rotate_left 1
  · intro W hW; obtain ⟨z0, z1, z2, z3⟩ := hW; go_simp <;> with_reducible rfl
  simp only [List.setIfInBounds_toArray, List.set_cons_succ, List.set_cons_zero]
  refine takeD (i := 24) (d := 142) (v := ?_) rfl rfl (by kernel_rfl) (by kernel_rfl) (by kernel_rfl) (fun _ _ _ h => h) (Or.inl ⟨by rfl, ?_⟩) ⟨y0, y1, y2, y3⟩ ?_
  rotate_left 1
  · intro W hW; obtain ⟨z0, z1, z2, z3⟩ := hW; go_simp <;> with_reducible rfl
  simp only [List.setIfInBounds_toArray, List.set_cons_succ, List.set_cons_zero]
  refine takeD (i := 25) (d := 143) (v := ?_) rfl rfl (by kernel_rfl) (by kernel_rfl) (by kernel_rfl) (fun _ _ _ h => h) (Or.inl ⟨by rfl, ?_⟩) ⟨y0, y1, y2, y3⟩ ?_
  rotate_left 1
  · intro W hW; obtain ⟨z0, z1, z2, z3⟩ := hW; go_simp <;> with_reducible rfl
  simp only [List.setIfInBounds_toArray, List.set_cons_succ, List.set_cons_zero]
  refine takeD (i := 26) (d := 144) (v := ?_) rfl rfl (by kernel_rfl) (by kernel_rfl) (by kernel_rfl) (fun _ _ _ h => h) (Or.inl ⟨by rfl, ?_⟩) ⟨y0, y1, y2, y3⟩ ?_
  rotate_left 1
  · intro W hW; obtain ⟨z0, z1, z2, z3⟩ := hW; go_simp <;> with_reducible rfl
  simp only [List.setIfInBounds_toArray, List.set_cons_succ, List.set_cons_zero]
  refine takeD (i := 27) (d := 145) (v := ?_) rfl rfl (by kernel_rfl) (by kernel_rfl) (by kernel_rfl) (fun _ _ _ h => h) (Or.inl ⟨by rfl, ?_⟩) ⟨y0, y1, y2, y3⟩ ?_
  rotate_left 1
  · intro W hW; obtain ⟨z0, z1, z2, z3⟩ := hW; go_simp <;> with_reducible rfl
  simp only [List.setIfInBounds_toArray, List.set_cons_succ, List.set_cons_zero]
  refine takeD (i := 28) (d := 146) (v := ?_) rfl rfl (by kernel_rfl) (by kernel_rfl) (by kernel_rfl) (fun _ _ _ h => h) (Or.inl ⟨by rfl, ?_⟩) ⟨y0, y1, y2, y3⟩ ?_
  rotate_left 1
  · intro W hW; obtain ⟨z0, z1, z2, z3⟩ := hW; go_simp <;> with_reducible rfl
  simp only [List.setIfInBounds_toArray, List.set_cons_succ, List.set_cons_zero]
  refine wpAnyH_ready (rs := [29]) (by kernel_rfl) (by simp) ?_
  refine AllReadyH.cons rfl (fun K hK => ?_) AllReadyH.nil
  go_simp
  refine (exCard 4 12 11 0 v1).mono ?_
  rintro _ v2 ⟨v, rfl, rfl, hb⟩
  replace HD := Lib.hid (RowsAt.below HD.out hb)
  replace HRn := Lib.hid (RowsAt.below HRn.out hb)
  replace HSt := Lib.hid (RowsAt.below HSt.out hb)
  replace HX := Lib.hid (RowsAt.below HX.out hb)
  replace HRd := Lib.hid (RowsAt.below HRd.out hb)
  replace y0 := cell_below hb y0
  replace y1 := cell_below hb y1
  replace y2 := cell_below hb y2
  replace y3 := cell_below hb y3
  replace HBv := Lib.hid (below_trans' HBv.out hb)
  clear hb
  refine hK.out _ _ ⟨y0, y1, y2, y3⟩ (fun _ => ?_)
  clear hK K
  have hCS := card_same
  refine takeD (i := 30) (d := 148) (v := ?_) rfl rfl (by kernel_rfl) (by kernel_rfl) (by kernel_rfl) (fun _ _ _ h => h) (Or.inl ⟨by rfl, ?_⟩) ⟨y0, y1, y2, y3⟩ ?_
  rotate_left 1
  · intro W hW; obtain ⟨z0, z1, z2, z3⟩ := hW; go_simp <;> with_reducible rfl
  simp only [List.setIfInBounds_toArray, List.set_cons_succ, List.set_cons_zero]
  refine takeD (i := 31) (d := 149) (v := ?_) rfl rfl (by kernel_rfl) (by kernel_rfl) (by kernel_rfl) (fun _ _ _ h => h) (Or.inl ⟨by rfl, ?_⟩) ⟨y0, y1, y2, y3⟩ ?_
  rotate_left 1
  · intro W hW; obtain ⟨z0, z1, z2, z3⟩ := hW; go_simp <;> with_reducible rfl
  simp only [List.setIfInBounds_toArray, List.set_cons_succ, List.set_cons_zero]
  refine takeD (i := 32) (d := 150) (v := ?_) rfl rfl (by kernel_rfl) (by kernel_rfl) (by kernel_rfl) (fun _ _ _ h => h) (Or.inl ⟨by rfl, ?_⟩) ⟨y0, y1, y2, y3⟩ ?_
  rotate_left 1
  · intro W hW; obtain ⟨z0, z1, z2, z3⟩ := hW; go_simp <;> with_reducible rfl
  simp only [List.setIfInBounds_toArray, List.set_cons_succ, List.set_cons_zero]
  refine takeD (i := 33) (d := 151) (v := ?_) rfl rfl (by kernel_rfl) (by kernel_rfl) (by kernel_rfl) (fun _ _ _ h => h) (Or.inl ⟨by rfl, ?_⟩) ⟨y0, y1, y2, y3⟩ ?_
  rotate_left 1
  · intro W hW; obtain ⟨z0, z1, z2, z3⟩ := hW; go_simp <;> with_reducible rfl
  simp only [List.setIfInBounds_toArray, List.set_cons_succ, List.set_cons_zero]
  have HCx := Lib.hid (exErrs A6 c6 v2 HRn.out)
  refine wpAnyH_ready (rs := [34]) (by kernel_rfl) (by simp) ?_
  refine AllReadyH.cons rfl (fun K hK => ?_) AllReadyH.nil
  go_simp
  refine hK.out _ _ ⟨cell_alloc y0 _, cell_alloc y1 _, cell_alloc y2 _, cell_alloc y3 _⟩ (fun _ => ?_)
  clear hK K
  refine wpAnyH_ready (rs := [35]) (by kernel_rfl) (by simp) ?_
  refine AllReadyH.cons rfl (fun K hK => ?_) AllReadyH.nil
  go_simp
  refine HCx.out.mono ?_
  rintro _ v3 ⟨v, rfl, rfl, hb⟩
  clear HCx
  replace HD := Lib.hid (RowsAt.below HD.out hb)
  replace HRn := Lib.hid (RowsAt.below HRn.out hb)
  replace HSt := Lib.hid (RowsAt.below HSt.out hb)
  replace HX := Lib.hid (RowsAt.below HX.out hb)
  replace HRd := Lib.hid (RowsAt.below HRd.out hb)
  replace y0 := cell_below hb y0
  replace y1 := cell_below hb y1
  replace y2 := cell_below hb y2
  replace y3 := cell_below hb y3
  replace HBv := Lib.hid (below_trans' HBv.out hb)
  clear hb
  refine hK.out _ _ ⟨y0, y1, y2, y3⟩ (fun _ => ?_)
  clear hK K
  refine takeD (i := 36) (d := 154) (v := ?_) rfl rfl (by kernel_rfl) (by kernel_rfl) (by kernel_rfl) (fun _ _ _ h => h) (Or.inl ⟨by rfl, ?_⟩) ⟨y0, y1, y2, y3⟩ ?_
  rotate_left 1
  · intro W hW; obtain ⟨z0, z1, z2, z3⟩ := hW; go_simp <;> with_reducible rfl
  simp only [List.setIfInBounds_toArray, List.set_cons_succ, List.set_cons_zero]
  refine takeD (i := 37) (d := 155) (v := ?_) rfl rfl (by kernel_rfl) (by kernel_rfl) (by kernel_rfl) (fun _ _ _ h => h) (Or.inl ⟨by rfl, ?_⟩) ⟨y0, y1, y2, y3⟩ ?_
  rotate_left 1
  · intro W hW; obtain ⟨z0, z1, z2, z3⟩ := hW; go_simp <;> with_reducible rfl
  simp only [List.setIfInBounds_toArray, List.set_cons_succ, List.set_cons_zero]
  refine takeD (i := 38) (d := 156) (v := ?_) rfl rfl (by kernel_rfl) (by kernel_rfl) (by kernel_rfl) (fun _ _ _ h => h) (Or.inl ⟨by rfl, ?_⟩) ⟨y0, y1, y2, y3⟩ ?_
  rotate_left 1
  · intro W hW; obtain ⟨z0, z1, z2, z3⟩ := hW; go_simp <;> with_reducible rfl
  simp only [List.setIfInBounds_toArray, List.set_cons_succ, List.set_cons_zero]
  refine takeD (i := 39) (d := 157) (v := ?_) rfl rfl (by kernel_rfl) (by kernel_rfl) (by kernel_rfl) (fun _ _ _ h => h) (Or.inl ⟨by rfl, ?_⟩) ⟨y0, y1, y2, y3⟩ ?_
  rotate_left 1
  · intro W hW; obtain ⟨z0, z1, z2, z3⟩ := hW; go_simp <;> with_reducible rfl
  simp only [List.setIfInBounds_toArray, List.set_cons_succ, List.set_cons_zero]
  refine wpAnyH_ready (rs := [40]) (by kernel_rfl) (by simp) ?_
  refine AllReadyH.cons rfl (fun K hK => ?_) AllReadyH.nil
  go_simp
  refine (exItems A7 (some ⟨X16, 0, none⟩) c7 1 v3 HSt.out HX.out).mono ?_
  rintro _ v4 ⟨v, rfl, rfl, hb⟩
  replace HD := Lib.hid (RowsAt.below HD.out hb)
  replace HRn := Lib.hid (RowsAt.below HRn.out hb)
  replace HSt := Lib.hid (RowsAt.below HSt.out hb)
  replace HX := Lib.hid (RowsAt.below HX.out hb)
  replace HRd := Lib.hid (RowsAt.below HRd.out hb)
  replace y0 := cell_below hb y0
  replace y1 := cell_below hb y1
  replace y2 := cell_below hb y2
  replace y3 := cell_below hb y3
  replace HBv := Lib.hid (below_trans' HBv.out hb)
  clear hb
  refine hK.out _ _ ⟨y0, y1, y2, y3⟩ (fun _ => ?_)
  clear hK K
  refine takeD (i := 41) (d := 159) (v := ?_) rfl rfl (by kernel_rfl) (by kernel_rfl) (by kernel_rfl) (fun _ _ _ h => h) (Or.inl ⟨by rfl, ?_⟩) ⟨y0, y1, y2, y3⟩ ?_
  rotate_left 1
  · intro W hW; obtain ⟨z0, z1, z2, z3⟩ := hW; go_simp <;> with_reducible rfl
  simp only [List.setIfInBounds_toArray, List.set_cons_succ, List.set_cons_zero]
  refine takeD (i := 42) (d := 160) (v := ?_) rfl rfl (by kernel_rfl) (by kernel_rfl) (by kernel_rfl) (fun _ _ _ h => h) (Or.inl ⟨by rfl, ?_⟩) ⟨y0, y1, y2, y3⟩ ?_
  rotate_left 1
  · intro W hW; obtain ⟨z0, z1, z2, z3⟩ := hW; go_simp <;> with_reducible rfl
  simp only [List.setIfInBounds_toArray, List.set_cons_succ, List.set_cons_zero]
  refine takeD (i := 43) (d := 161) (v := ?_) rfl rfl (by kernel_rfl) (by kernel_rfl) (by kernel_rfl) (fun _ _ _ h => h) (Or.inl ⟨by rfl, ?_⟩) ⟨y0, y1, y2, y3⟩ ?_
  rotate_left 1
  · intro W hW; obtain ⟨z0, z1, z2, z3⟩ := hW; go_simp <;> with_reducible rfl
  simp only [List.setIfInBounds_toArray, List.set_cons_succ, List.set_cons_zero]
  refine takeD (i := 44) (d := 162) (v := ?_) rfl rfl (by kernel_rfl) (by kernel_rfl) (by kernel_rfl) (fun _ _ _ h => h) (Or.inl ⟨by rfl, ?_⟩) ⟨y0, y1, y2, y3⟩ ?_
  rotate_left 1
  · intro W hW; obtain ⟨z0, z1, z2, z3⟩ := hW; go_simp <;> with_reducible rfl
  simp only [List.setIfInBounds_toArray, List.set_cons_succ, List.set_cons_zero]
  refine takeD (i := 45) (d := 163) (v := ?_) rfl rfl (by kernel_rfl) (by kernel_rfl) (by kernel_rfl) (fun _ _ _ h => h) (Or.inl ⟨by rfl, ?_⟩) ⟨y0, y1, y2, y3⟩ ?_
  rotate_left 1
  · intro W hW; obtain ⟨z0, z1, z2, z3⟩ := hW; go_simp <;> with_reducible rfl
  simp only [List.setIfInBounds_toArray, List.set_cons_succ, List.set_cons_zero]
  refine takeD (i := 46) (d := 164) (v := ?_) rfl rfl (by kernel_rfl) (by kernel_rfl) (by kernel_rfl) (fun _ _ _ h => h) (Or.inl ⟨by rfl, ?_⟩) ⟨y0, y1, y2, y3⟩ ?_
  rotate_left 1
  · intro W hW; obtain ⟨z0, z1, z2, z3⟩ := hW; go_simp <;> with_reducible rfl
  simp only [List.setIfInBounds_toArray, List.set_cons_succ, List.set_cons_zero]
  refine takeD (i := 47) (d := 165) (v := ?_) rfl rfl (by kernel_rfl) (by kernel_rfl) (by kernel_rfl) (fun _ _ _ h => h) (Or.inl ⟨by rfl, ?_⟩) ⟨y0, y1, y2, y3⟩ ?_
  rotate_left 1
  · intro W hW; obtain ⟨z0, z1, z2, z3⟩ := hW; go_simp <;> with_reducible rfl
  simp only [List.setIfInBounds_toArray, List.set_cons_succ, List.set_cons_zero]
  refine takeD (i := 48) (d := 166) (v := ?_) rfl rfl (by kernel_rfl) (by kernel_rfl) (by kernel_rfl) (fun _ _ _ h => h) (Or.inl ⟨by rfl, ?_⟩) ⟨y0, y1, y2, y3⟩ ?_
  rotate_left 1
  · intro W hW; obtain ⟨z0, z1, z2, z3⟩ := hW; go_simp <;> with_reducible rfl
  simp only [List.setIfInBounds_toArray, List.set_cons_succ, List.set_cons_zero]
  refine takeD (i := 49) (d := 167) (v := ?_) rfl rfl (by kernel_rfl) (by kernel_rfl) (by kernel_rfl) (fun _ _ _ h => h) (Or.inl ⟨by rfl, ?_⟩) ⟨y0, y1, y2, y3⟩ ?_
  rotate_left 1
  · intro W hW; obtain ⟨z0, z1, z2, z3⟩ := hW; go_simp <;> with_reducible rfl
  simp only [List.setIfInBounds_toArray, List.set_cons_succ, List.set_cons_zero]
  refine takeD (i := 50) (d := 168) (v := ?_) rfl rfl (by kernel_rfl) (by kernel_rfl) (by kernel_rfl) (fun _ _ _ h => h) (Or.inl ⟨by rfl, ?_⟩) ⟨y0, y1, y2, y3⟩ ?_
  rotate_left 1
  · intro W hW; obtain ⟨z0, z1, z2, z3⟩ := hW; go_simp <;> with_reducible rfl
  simp only [List.setIfInBounds_toArray, List.set_cons_succ, List.set_cons_zero]
  refine takeD (i := 51) (d := 169) (v := ?_) rfl rfl (by kernel_rfl) (by kernel_rfl) (by kernel_rfl) (fun _ _ _ h => h) (Or.inl ⟨by rfl, ?_⟩) ⟨y0, y1, y2, y3⟩ ?_
  rotate_left 1
  · intro W hW; obtain ⟨z0, z1, z2, z3⟩ := hW; go_simp <;> with_reducible rfl
  simp only [List.setIfInBounds_toArray, List.set_cons_succ, List.set_cons_zero]
  refine takeD (i := 52) (d := 170) (v := ?_) rfl rfl (by kernel_rfl) (by kernel_rfl) (by kernel_rfl) (fun _ _ _ h => h) (Or.inl ⟨by rfl, ?_⟩) ⟨y0, y1, y2, y3⟩ ?_
  rotate_left 1
  · intro W hW; obtain ⟨z0, z1, z2, z3⟩ := hW; go_simp <;> with_reducible rfl
  simp only [List.setIfInBounds_toArray, List.set_cons_succ, List.set_cons_zero]
  refine wpAnyH_ready (rs := [53]) (by kernel_rfl) (by simp) ?_
  refine AllReadyH.cons rfl (fun K hK => ?_) AllReadyH.nil
  go_simp
  refine (exItems A8 (some ⟨X16, 0, none⟩) c8 1 v4 HRd.out HX.out).mono ?_
  rintro _ v5 ⟨v, rfl, rfl, hb⟩
  replace HD := Lib.hid (RowsAt.below HD.out hb)
  replace HRn := Lib.hid (RowsAt.below HRn.out hb)
  replace HSt := Lib.hid (RowsAt.below HSt.out hb)
  replace HX := Lib.hid (RowsAt.below HX.out hb)
  replace HRd := Lib.hid (RowsAt.below HRd.out hb)
  replace y0 := cell_below hb y0
  replace y1 := cell_below hb y1
  replace y2 := cell_below hb y2
  replace y3 := cell_below hb y3
  replace HBv := Lib.hid (below_trans' HBv.out hb)
  clear hb
  refine hK.out _ _ ⟨y0, y1, y2, y3⟩ (fun _ => ?_)
  clear hK K
  refine takeD (i := 54) (d := 172) (v := ?_) rfl rfl (by kernel_rfl) (by kernel_rfl) (by kernel_rfl) (fun _ _ _ h => h) (Or.inl ⟨by rfl, ?_⟩) ⟨y0, y1, y2, y3⟩ ?_
  rotate_left 1
  · intro W hW; obtain ⟨z0, z1, z2, z3⟩ := hW; go_simp <;> with_reducible rfl
  simp only [List.setIfInBounds_toArray, List.set_cons_succ, List.set_cons_zero]
  refine takeD (i := 55) (d := 0) (v := ?_) rfl rfl (by kernel_rfl) (by kernel_rfl) (by kernel_rfl) (fun _ _ _ h => h) (Or.inl ⟨by rfl, ?_⟩) ⟨y0, y1, y2, y3⟩ ?_
  rotate_left 1
  · intro W hW; obtain ⟨z0, z1, z2, z3⟩ := hW; go_simp <;> with_reducible rfl
  simp only [List.setIfInBounds_toArray, List.set_cons_succ, List.set_cons_zero]
  refine wpAnyH_done (by kernel_rfl) ?_ _
  go_wp2
  go_ret
  exact Ret.mk ⟨rfl, HBv.out⟩
end Go.Proofs.YtkpmmgeffbhngaaGreatDoor
