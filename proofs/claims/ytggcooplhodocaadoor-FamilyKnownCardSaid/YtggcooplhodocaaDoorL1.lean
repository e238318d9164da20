/- FamilyKnown: the walk. -/
import Derived.Test.YtggcooplhodocaaDoorKA
namespace Go.Proofs.YtggcooplhodocaaDoor
open Go.RowKit Go.Shelf Go.Maps Fam

theorem errOne : bookErr 1 0 [] = 0 := by decide
theorem fullOne : Full (netB 1 0 []) (allS (netB 1 0 [])) := fun v hv => by
  have hv' : v < 1 := hv
  obtain rfl : v = 0 := by omega
  exact .refl
theorem bestOne {c : Int} (h : Best (netB 1 0 []) c) : c = 0 := by
  obtain ⟨⟨T, _, e⟩, _⟩ := h
  rw [← e]; rfl
theorem mostOne : MostQ 1 0 [] 0 0 := .inr (.inr ⟨errOne, ⟨Int.le_refl _, fun v hv => by
  have hv' : v < 1 := hv
  obtain rfl : v = 0 := by omega
  exact .refl, fun j hj _ => hj⟩, rfl⟩)
theorem exOneCheap (W : World) : Calls Tryd.prog 24 #[.agg #[.int .i64 1, .int .i64 0, .slice none 0 0]] W (Ret fun v w' => (∃ G c, v = .tuple #[.slice G 1 c, .int .i64 0, .int .i64 0] ∧ IntsAt w' G [-1]) ∧ Below W.heap.size W w') := by
  refine Calls.mono (cheapest_any 1 0 none 0 [] W (RowsAt.nil _) (by decide)) ?_
  rintro e w' ⟨v, rfl, hv, hb⟩
  rcases hv with ⟨h1, _⟩ | ⟨_, h2, _⟩ | ⟨_, t, G, c, rfl, h3, h4, h5, h6, h7, h8⟩
  · exact absurd errOne h1
  · exact absurd fullOne h2
  · have h5' : t.length = 1 := h5
    match t, h5' with
    | [x], _ =>
      have hx : ([x] : List Int).getD 0 0 = -1 := h7.2.1
      have hx' : x = -1 := hx
      subst hx'
      exact Ret.mk ⟨⟨G, c, by rw [bestOne h8]; rfl, h6⟩, hb⟩
theorem exOneMost (W : World) : Calls Tryd.prog 28 #[.agg #[.int .i64 1, .int .i64 0, .slice none 0 0]] W (Ret fun v w' => v = .tuple #[.int .i64 0, .int .i64 0] ∧ Below W.heap.size W w') := by
  refine Calls.mono (most_any 1 0 none 0 [] W (RowsAt.nil _) (by decide)) ?_
  rintro e w' ⟨v, rfl, ⟨m, e, rfl, hm⟩, hb⟩
  obtain ⟨rfl, rfl⟩ := hm.uniq mostOne
  exact Ret.mk ⟨rfl, hb⟩
set_option maxRecDepth 100000 in
set_option maxHeartbeats 8000000 in
theorem familyKnown_any (w : World) (hT : Tab w) : Calls Tryd.prog 11 #[] w (Ret fun v w' => v = .bool true ∧ Below w.heap.size w w') := by
  have HB0 := Lib.hid (Below.refl w.heap.size w)
  have HT := Lib.hid hT
  clear hT
  go_enter Tryd.func11, Tryd.ntmps11
  go_wp2_with fail
  refine (book_any w).mono ?_
  rintro e w1 ⟨v, rfl, ⟨b, rfl, hS⟩, hb⟩
  have HS := Lib.hid hS
  replace HT := Lib.hid (HT.out.below hb)
  have HB1 := Lib.hid hb
  clear hb hS HB0
  unfold vBook
  have hX := heap_alloc_new w1 (.cells #[.int .i64 4, .int .i64 0, .slice (some ⟨b, 0, none⟩) 6 6] 24)
  have hb := below_alloc' (Below.refl w1.heap.size w1) (.cells #[.int .i64 4, .int .i64 0, .slice (some ⟨b, 0, none⟩) 6 6] 24)
  go_upto_region 2 with fail
  have HB2 := Lib.hid (below_trans' HB1.out hb)
  replace HS := Lib.hid (HS.out.below hb)
  replace HT := Lib.hid (HT.out.below hb)
  clear hb HB1
  generalize w1.alloc (.cells #[.int .i64 4, .int .i64 0, .slice (some ⟨b, 0, none⟩) 6 6] 24) = w2 at *
  generalize w1.heap.size = X2 at *
  have y0 : w2.cell? ⟨X2, 0, none⟩ = some (.int .i64 4) := (blk_cell hX).trans rfl
  have y1 : w2.cell? ⟨X2, 1, none⟩ = some (.int .i64 0) := (blk_cell hX).trans rfl
  have y2 : w2.cell? ⟨X2, 2, none⟩ = some (.slice (some ⟨b, 0, none⟩) 6 6) := (blk_cell hX).trans rfl
  clear hX
  have Hc := Lib.hid (exTree b [-1, 3, 1, 5] #[.int .i64 (-1), .int .i64 3, .int .i64 1, .int .i64 5] rfl rfl w2 HS.out)
  go_wp2_with fail
  refine Hc.out.mono ?_
  rintro e w3 ⟨v, rfl, rfl, hb⟩
  have HB3 := Lib.hid (below_trans' HB2.out hb)
  replace HS := Lib.hid (HS.out.below hb)
  replace HT := Lib.hid (HT.out.below hb)
  replace y0 := cell_below hb y0
  replace y1 := cell_below hb y1
  replace y2 := cell_below hb y2
  clear hb Hc HB2
  rw [tree4F]
  unfold vP
  dsimp only
  have Hc := Lib.hid (exTree b [-1, 3, 1, 4] #[.int .i64 (-1), .int .i64 3, .int .i64 1, .int .i64 4] rfl rfl w3 HS.out)
  go_wp2_with fail
  refine Hc.out.mono ?_
  rintro e w4 ⟨v, rfl, rfl, hb⟩
  have HB4 := Lib.hid (below_trans' HB3.out hb)
  replace HS := Lib.hid (HS.out.below hb)
  replace HT := Lib.hid (HT.out.below hb)
  replace y0 := cell_below hb y0
  replace y1 := cell_below hb y1
  replace y2 := cell_below hb y2
  clear hb Hc HB3
  rw [tree3F]
  unfold vP
  dsimp only
  go_upto_region 4 with fail
  refine wp_region_held (S := fun W => W.cell? ⟨X2, 0, none⟩ = some (.int .i64 4) ∧ W.cell? ⟨X2, 1, none⟩ = some (.int .i64 0) ∧ W.cell? ⟨X2, 2, none⟩ = some (.slice (some ⟨b, 0, none⟩) 6 6)) (by kernel_rfl) ?_
  refine wpAnyH_take (i := 0) (v := ?_) rfl (by kernel_rfl) (by kernel_rfl) (by kernel_rfl) (fun _ _ _ h => h) (Or.inl ⟨by rfl, ?_⟩) ⟨y0, y1, y2⟩ ?_
  rotate_left 1
  · intro W hW; obtain ⟨s0, s1, s2⟩ := hW; go_simp <;> with_reducible rfl
  simp only [Act.put, List.setIfInBounds_toArray]
  refine wpAnyH_ready (rs := [1]) (by kernel_rfl) (by simp) ?_
  refine AllReadyH.cons rfl (fun K hK => ?_) AllReadyH.nil
  go_simp
  refine (lprices_any 2 w4.drew).mono ?_
  rintro e V1 ⟨v, rfl, ⟨b6, rfl, hP6⟩, hb⟩
  have hb1 : Below w4.heap.size w4 V1 := (show Below w4.heap.size w4 w4.drew from (Below.refl _ _).drew).trans hb
  refine hK.out _ _ ⟨cell_below hb1 y0, cell_below hb1 y1, cell_below hb1 y2⟩ (fun _ => ?_)
  clear hK K
  have Hc := Lib.hid (exCheckP b b6 2 V1 (HS.out.below hb1) hP6)
  refine wpAnyH_ready (rs := [2]) (by kernel_rfl) (by simp) ?_
  refine AllReadyH.cons rfl (fun K hK => ?_) AllReadyH.nil
  go_simp
  refine Hc.out.mono ?_
  rintro e w5 ⟨v, rfl, rfl, hb2⟩
  rw [prices2F]
  unfold vP
  have hb3 := below_trans' hb1 hb2
  have HB5 := Lib.hid (below_trans' HB4.out hb3)
  replace HS := Lib.hid (HS.out.below hb3)
  replace HT := Lib.hid (HT.out.below hb3)
  replace y0 := cell_below hb3 y0
  replace y1 := cell_below hb3 y1
  replace y2 := cell_below hb3 y2
  refine hK.out _ _ ⟨y0, y1, y2⟩ (fun _ => ?_)
  clear hK K Hc hP6 hb hb1 hb2 hb3 HB4
  refine wpAnyH_take (i := 3) (v := ?_) rfl (by kernel_rfl) (by kernel_rfl) (by kernel_rfl) (fun _ _ _ h => h) (Or.inl ⟨by rfl, ?_⟩) ⟨y0, y1, y2⟩ ?_
  rotate_left 1
  · intro W hW; obtain ⟨s0, s1, s2⟩ := hW; go_simp <;> with_reducible rfl
  refine wpAnyH_take (i := 4) (v := ?_) rfl (by kernel_rfl) (by kernel_rfl) (by kernel_rfl) (fun _ _ _ h => h) (Or.inl ⟨by rfl, ?_⟩) ⟨y0, y1, y2⟩ ?_
  rotate_left 1
  · intro W hW; obtain ⟨s0, s1, s2⟩ := hW; go_simp <;> with_reducible rfl
  refine wpAnyH_take (i := 5) (v := ?_) rfl (by kernel_rfl) (by kernel_rfl) (by kernel_rfl) (fun _ _ _ h => h) (Or.inl ⟨by rfl, ?_⟩) ⟨y0, y1, y2⟩ ?_
  rotate_left 1
  · intro W hW; obtain ⟨s0, s1, s2⟩ := hW; go_simp <;> with_reducible rfl
  refine wpAnyH_take (i := 6) (v := ?_) rfl (by kernel_rfl) (by kernel_rfl) (by kernel_rfl) (fun _ _ _ h => h) (Or.inl ⟨by rfl, ?_⟩) ⟨y0, y1, y2⟩ ?_
  rotate_left 1
  · intro W hW; obtain ⟨s0, s1, s2⟩ := hW; go_simp <;> with_reducible rfl
  refine wpAnyH_take (i := 7) (v := ?_) rfl (by kernel_rfl) (by kernel_rfl) (by kernel_rfl) (fun _ _ _ h => h) (Or.inl ⟨by rfl, ?_⟩) ⟨y0, y1, y2⟩ ?_
  rotate_left 1
  · intro W hW; obtain ⟨s0, s1, s2⟩ := hW; go_simp <;> with_reducible rfl
  simp only [Act.put, List.setIfInBounds_toArray]
  refine wpAnyH_done (by kernel_rfl) ?_ _
  go_simp
  have Hc := Lib.hid (exOneCheap w5)
  go_wp2_with fail
  refine Hc.out.mono ?_
  rintro e w6 ⟨v, rfl, ⟨G1, c1, rfl, hG1⟩, hb⟩
  have HB6 := Lib.hid (below_trans' HB5.out hb)
  replace HS := Lib.hid (HS.out.below hb)
  replace HT := Lib.hid (HT.out.below hb)
  replace y0 := cell_below hb y0
  replace y1 := cell_below hb y1
  replace y2 := cell_below hb y2
  clear hb Hc HB5
  have HG1 := Lib.hid hG1
  clear hG1
  have Hc := Lib.hid (exOneMost w6)
  go_wp2_with fail
  refine Hc.out.mono ?_
  rintro e w7 ⟨v, rfl, rfl, hb⟩
  have HB7 := Lib.hid (below_trans' HB6.out hb)
  replace HS := Lib.hid (HS.out.below hb)
  replace HT := Lib.hid (HT.out.below hb)
  replace HG1 := Lib.hid (HG1.out.below hb)
  replace y0 := cell_below hb y0
  replace y1 := cell_below hb y1
  replace y2 := cell_below hb y2
  clear hb Hc HB6
  have Hc := Lib.hid (exInts G1 c1 [-1] [-1] 1 1 rfl rfl #[.int .i64 (-1)] rfl w7 HG1.out (by omega) (by omega))
  go_wp2_with fail
  refine Hc.out.mono ?_
  rintro e w8 ⟨v, rfl, rfl, hb⟩
  have HB8 := Lib.hid (below_trans' HB7.out hb)
  replace HS := Lib.hid (HS.out.below hb)
  replace HT := Lib.hid (HT.out.below hb)
  replace HG1 := Lib.hid (HG1.out.below hb)
  replace y0 := cell_below hb y0
  replace y1 := cell_below hb y1
  replace y2 := cell_below hb y2
  clear hb Hc HB7
  have Hc := Lib.hid (works_any w8 HT.out)
  go_wp2_with fail
  refine Hc.out.mono ?_
  rintro e w9 ⟨v, rfl, rfl, hb⟩
  have HB9 := Lib.hid (below_trans' HB8.out hb)
  replace HS := Lib.hid (HS.out.below hb)
  replace HT := Lib.hid (HT.out.below hb)
  replace HG1 := Lib.hid (HG1.out.below hb)
  replace y0 := cell_below hb y0
  replace y1 := cell_below hb y1
  replace y2 := cell_below hb y2
  clear hb Hc HB8
  go_wp2
  go_ret
  exact Ret.mk' rfl ⟨rfl, HB9.out⟩
end Go.Proofs.YtggcooplhodocaaDoor
