/- FamilyLost: the walk. -/
import Derived.Test.YtggcooplhodocaaDoorKA
namespace Go.Proofs.YtggcooplhodocaaDoor
open Go.RowKit Go.Shelf Go.Maps Fam

section
variable {S R : Int} {l : List St}
theorem lostL_mem {x : Int} : x ∈ lostL S R l ↔ ∃ v : Nat, v < S.toNat ∧ ¬ Rch (netB S R l) (allS (netB S R l)) R.toNat v ∧ x = v := by
  unfold lostL
  simp only [List.mem_map, List.mem_filter, List.mem_range, decide_eq_true_eq]
  constructor
  · rintro ⟨v, ⟨h1, h2⟩, rfl⟩; exact ⟨v, h1, h2, rfl⟩
  · rintro ⟨v, h1, h2, rfl⟩; exact ⟨v, ⟨h1, h2⟩, rfl⟩
theorem lostL_rise : (lostL S R l).Pairwise (· < ·) := by
  unfold lostL
  refine List.pairwise_map.2 ((List.pairwise_lt_range.filter _).imp fun h => ?_)
  omega
/-- no step goes from a variant that is not lost to one that is -/
theorem lost_shut (h : BookOk S R l) {i : Nat} (hi : i < l.length) (h1 : l[i].1 ∉ lostL S R l) : l[i].2.1 ∉ lostL S R l := fun h2 => by
  have ha := h.at_ hi
  rw [stAt_eq hi] at ha
  obtain ⟨v, hv, hn, e⟩ := lostL_mem.1 h2
  refine h1 (lostL_mem.2 ⟨l[i].1.toNat, by omega, fun hr => hn ?_, by omega⟩)
  have e1 : (netB S R l).fr i = l[i].1.toNat := by show (stAt l i).1.toNat = _; rw [stAt_eq hi]
  have e2 : (netB S R l).to i = v := by show (stAt l i).2.1.toNat = _; rw [stAt_eq hi]; omega
  rw [← e2]
  exact .step (by rw [e1]; exact hr) hi
end
/-! what the functions answer where there is a tree, and where there is none -/
section
variable {S R : Int} {A : Option Addr} {ca : Nat} {l : List St} {w : World}
theorem cheapY (hok : BookOk S R l) (hf : Full (netB S R l) (allS (netB S R l))) (hl : StepsAt w A l) (hn : l.length ≤ 100000) : Calls Tryd.prog 24 #[vBook S R A l.length ca] w (Ret fun v w' => (∃ t G c b, v = .tuple #[.slice G t.length c, .int .i64 b, .int .i64 0] ∧ t.length = S.toNat ∧ IntsAt w' G t ∧ TreeL (netB S R l) t ∧ costL (netB S R l) t = b ∧ Best (netB S R l) b) ∧ Below w.heap.size w w') := by
  refine Calls.mono (cheapest_any S R A ca l w hl hn) ?_
  rintro e w' ⟨v, rfl, hv, hb⟩
  rcases hv with ⟨h1, _⟩ | ⟨_, h2, _⟩ | ⟨_, t, G, c, rfl, h3, h4, h5, h6, h7, h8⟩
  · exact absurd (bookErr_iff.2 hok) h1
  · exact absurd hf h2
  · exact Ret.mk ⟨⟨t, G, c, _, rfl, h5, h6, h7, rfl, h8⟩, hb⟩
theorem cheapN (hok : BookOk S R l) (hf : ¬ Full (netB S R l) (allS (netB S R l))) (hl : StepsAt w A l) (hn : l.length ≤ 100000) : Calls Tryd.prog 24 #[vBook S R A l.length ca] w (Ret fun v w' => v = .tuple #[.slice none 0 0, .int .i64 0, .int .i64 13] ∧ Below w.heap.size w w') := by
  refine Calls.mono (cheapest_any S R A ca l w hl hn) ?_
  rintro e w' ⟨v, rfl, hv, hb⟩
  rcases hv with ⟨h1, _⟩ | ⟨_, h2, rfl⟩ | ⟨_, t, G, c, rfl, h3, h4, h5, h6, h7, h8⟩
  · exact absurd (bookErr_iff.2 hok) h1
  · exact Ret.mk ⟨rfl, hb⟩
  · exact absurd h7.2.2.2.all hf
theorem pricesY (hok : BookOk S R l) (hf : Full (netB S R l) (allS (netB S R l))) (hl : StepsAt w A l) (hn : l.length ≤ 100000) (hT : Tab w) : Calls Tryd.prog 23 #[vBook S R A l.length ca] w (Ret fun v w' => (∃ P B c b, v = .tuple #[.slice B P.length c, .int .i64 0] ∧ PsAt w' B P ∧ (∀ x ∈ P, x.1.length ≤ 100000) ∧ Best (netB S R l) b ∧ pricesV S R l P = (b, 0)) ∧ Below w.heap.size w w') := by
  refine Calls.mono (prices_any S R A ca l w hl hn hT) ?_
  rintro e w' ⟨v, rfl, hv, hb⟩
  rcases hv with ⟨h1, _⟩ | ⟨_, h2, _⟩ | ⟨_, P, B, c, b, rfl, h3, h4, h5, h6⟩
  · exact absurd (bookErr_iff.2 hok) h1
  · exact absurd hf h2
  · exact Ret.mk ⟨⟨P, B, c, b, rfl, h3, fun x hx => by have := prices_small hok (by rw [h6]) x hx; omega, h5, h6⟩, hb⟩
theorem pricesN (hok : BookOk S R l) (hf : ¬ Full (netB S R l) (allS (netB S R l))) (hl : StepsAt w A l) (hn : l.length ≤ 100000) (hT : Tab w) : Calls Tryd.prog 23 #[vBook S R A l.length ca] w (Ret fun v w' => v = .tuple #[.slice none 0 0, .int .i64 13] ∧ Below w.heap.size w w') := by
  refine Calls.mono (prices_any S R A ca l w hl hn hT) ?_
  rintro e w' ⟨v, rfl, hv, hb⟩
  rcases hv with ⟨h1, _⟩ | ⟨_, h2, rfl⟩ | ⟨_, P, B, c, b, rfl, h3, h4, ⟨⟨T, hT', _⟩, _⟩, h6⟩
  · exact absurd (bookErr_iff.2 hok) h1
  · exact Ret.mk ⟨rfl, hb⟩
  · exact absurd hT'.all hf
theorem mostY (hok : BookOk S R l) (hf : Full (netB S R l) (allS (netB S R l))) (hl : StepsAt w A l) (hn : l.length ≤ 100000) : Calls Tryd.prog 28 #[vBook S R A l.length ca] w (Ret fun v w' => (∃ m, v = .tuple #[.int .i64 m, .int .i64 0] ∧ MostIs (netB S R l) m) ∧ Below w.heap.size w w') := by
  refine Calls.mono (most_any S R A ca l w hl hn) ?_
  rintro e w' ⟨v, rfl, ⟨m, e, rfl, hm⟩, hb⟩
  rcases hm with ⟨h1, _⟩ | ⟨_, h2, _⟩ | ⟨_, h3, rfl⟩
  · exact absurd (bookErr_iff.2 hok) h1
  · exact absurd hf h2
  · exact Ret.mk ⟨⟨m, rfl, h3⟩, hb⟩
theorem mostN (hok : BookOk S R l) (hf : ¬ Full (netB S R l) (allS (netB S R l))) (hl : StepsAt w A l) (hn : l.length ≤ 100000) : Calls Tryd.prog 28 #[vBook S R A l.length ca] w (Ret fun v w' => v = .tuple #[.int .i64 0, .int .i64 13] ∧ Below w.heap.size w w') := by
  refine Calls.mono (most_any S R A ca l w hl hn) ?_
  rintro e w' ⟨v, rfl, ⟨m, e, rfl, hm⟩, hb⟩
  rcases hm with ⟨h1, _⟩ | ⟨_, h2, rfl, rfl⟩ | ⟨_, h3, rfl⟩
  · exact absurd (bookErr_iff.2 hok) h1
  · exact Ret.mk ⟨rfl, hb⟩
  · exact absurd (most_all h3) hf
theorem gradesY (hok : BookOk S R l) (hf : Full (netB S R l) (allS (netB S R l))) (hl : StepsAt w A l) (hn : l.length ≤ 100000) : Calls Tryd.prog 29 #[vBook S R A l.length ca] w (Ret fun v w' => (∃ g G c, v = .tuple #[.slice G g.length c, .int .i64 0] ∧ g.length = l.length ∧ IntsAt w' G g ∧ ∀ i (h : i < g.length), GradeIs (netB S R l) i g[i]) ∧ Below w.heap.size w w') := by
  refine Calls.mono (grades_any S R A ca l w hl hn) ?_
  rintro e w' ⟨v, rfl, hv, hb⟩
  rcases hv with ⟨h1, _⟩ | ⟨_, h2, _⟩ | ⟨_, _, g, G, c, rfl, h3, h4, h5⟩
  · exact absurd (bookErr_iff.2 hok) h1
  · exact absurd hf h2
  · exact Ret.mk ⟨⟨g, G, c, rfl, h3, h4, h5⟩, hb⟩
theorem gradesN (hok : BookOk S R l) (hf : ¬ Full (netB S R l) (allS (netB S R l))) (hl : StepsAt w A l) (hn : l.length ≤ 100000) : Calls Tryd.prog 29 #[vBook S R A l.length ca] w (Ret fun v w' => v = .tuple #[.slice none 0 0, .int .i64 13] ∧ Below w.heap.size w w') := by
  refine Calls.mono (grades_any S R A ca l w hl hn) ?_
  rintro e w' ⟨v, rfl, hv, hb⟩
  rcases hv with ⟨h1, _⟩ | ⟨_, h2, rfl⟩ | ⟨_, h2, g, G, c, rfl, h3, h4, h5⟩
  · exact absurd (bookErr_iff.2 hok) h1
  · exact Ret.mk ⟨rfl, hb⟩
  · exact absurd h2 hf
theorem lostY (hok : BookOk S R l) (hf : Full (netB S R l) (allS (netB S R l))) (hl : StepsAt w A l) (hn : l.length ≤ 100000) : Calls Tryd.prog 16 #[vBook S R A l.length ca] w (Ret fun v w' => (∃ G c, v = .tuple #[.slice G 0 c, .int .i64 5]) ∧ Below w.heap.size w w') := by
  refine Calls.mono (lost_any S R A ca l w hl hn) ?_
  rintro e w' ⟨v, rfl, hv, hb⟩
  rw [lostV_none (bookErr_iff.2 hok) ((lostL_nil S R l).2 hf)] at hv
  obtain ⟨G, c, rfl, _⟩ := hv
  exact Ret.mk ⟨⟨G, c, rfl⟩, hb⟩
theorem lostN (hok : BookOk S R l) (hf : ¬ Full (netB S R l) (allS (netB S R l))) (hl : StepsAt w A l) (hn : l.length ≤ 100000) : Calls Tryd.prog 16 #[vBook S R A l.length ca] w (Ret fun v w' => (∃ G c, v = .tuple #[.slice G (lostL S R l).length c, .int .i64 0] ∧ IntsAt w' G (lostL S R l)) ∧ Below w.heap.size w w') := by
  refine Calls.mono (lost_any S R A ca l w hl hn) ?_
  rintro e w' ⟨v, rfl, hv, hb⟩
  rw [lostV_some (bookErr_iff.2 hok) (fun h => hf ((lostL_nil S R l).1 h))] at hv
  obtain ⟨G, c, rfl, h1, _⟩ := hv
  exact Ret.mk ⟨⟨G, c, rfl, h1⟩, hb⟩
end
set_option maxRecDepth 100000 in
set_option maxHeartbeats 8000000 in
theorem familyLost_any (S R : Int) (A : Option Addr) (ca : Nat) (l : List St) (w : World) (hl : StepsAt w A l) (hn : l.length ≤ 9223372036854775807) (hT : Tab w) :
    Calls Tryd.prog 6 #[vBook S R A l.length ca] w (Ret fun v w' => v = .bool true ∧ Below w.heap.size w w') := by
  have HL := Lib.hid hl
  have HT := Lib.hid hT
  clear hl hT
  unfold vBook
  have hX := heap_alloc_new w (.cells #[.int .i64 S, .int .i64 R, .slice A l.length ca] 24)
  have hb := below_alloc' (Below.refl w.heap.size w) (.cells #[.int .i64 S, .int .i64 R, .slice A l.length ca] 24)
  have y0 := (blk_cell (i := 0) hX).trans rfl
  have y1 := (blk_cell (i := 1) hX).trans rfl
  have y2 := (blk_cell (i := 2) hX).trans rfl
  go_enter Tryd.func6, Tryd.ntmps6
  go_upto_region 1 with fail
  have HB1 := Lib.hid hb
  replace HL := Lib.hid (HL.out.below hb)
  replace HT := Lib.hid (HT.out.below hb)
  clear hb hX
  generalize w.alloc (.cells #[.int .i64 S, .int .i64 R, .slice A l.length ca] 24) = w1 at *
  have Hc := Lib.hid (great_any S R A l.length ca w1 hn)
  go_wp2_with fail
  refine Hc.out.mono ?_
  rintro e w2 ⟨v, rfl, rfl, hb⟩
  have HB2 := Lib.hid (below_trans' HB1.out hb)
  replace HL := Lib.hid (HL.out.below hb)
  replace HT := Lib.hid (HT.out.below hb)
  replace y0 := cell_below hb y0
  replace y1 := cell_below hb y1
  replace y2 := cell_below hb y2
  clear hb Hc HB1
  by_cases hg : 210 < l.length
  · have d1 : decide (210 < l.length) = true := by simpa using hg
    go_wp2_with fail
    refine (works_any _ HT.out).mono ?_
    rintro e wz ⟨v, rfl, rfl, hBz⟩
    go_wp2
    go_ret
    exact Ret.mk' rfl ⟨rfl, below_trans' HB2.out hBz⟩
  have d1 : decide (210 < l.length) = false := by simpa using hg
  have hn1 : l.length ≤ 100000 := by omega
  clear hg hn
  have Hc := Lib.hid (rCheckBook_any S R A ca l w2 HL.out hn1)
  go_wp2_with fail
  refine Hc.out.mono ?_
  rintro e w3 ⟨v, rfl, rfl, hb⟩
  have HB3 := Lib.hid (below_trans' HB2.out hb)
  replace HL := Lib.hid (HL.out.below hb)
  replace HT := Lib.hid (HT.out.below hb)
  replace y0 := cell_below hb y0
  replace y1 := cell_below hb y1
  replace y2 := cell_below hb y2
  clear hb Hc HB2
  by_cases he : bookErr S R l = 0
  rotate_left 1
  · have d2 : (bookErr S R l != 0) = true := by simpa using he
    go_wp2_with fail
    refine (works_any _ HT.out).mono ?_
    rintro e wz ⟨v, rfl, rfl, hBz⟩
    go_wp2
    go_ret
    exact Ret.mk' rfl ⟨rfl, below_trans' HB3.out hBz⟩
  have hok := bookErr_iff.1 he
  have HK := Lib.hid hok
  have hdim := hok.dim
  have hroot := hok.root
  rw [he]
  clear he hok
  by_cases hf : Full (netB S R l) (allS (netB S R l))
  · have HF := Lib.hid hf
    clear hf
    have Hc := Lib.hid (lostY (ca := ca) HK.out HF.out (HL.out : StepsAt w3 A l) hn1)
    go_wp2_with fail
    refine Hc.out.mono ?_
    rintro e w4 ⟨v, rfl, ⟨G1, c1, rfl⟩, hb⟩
    have HB4 := Lib.hid (below_trans' HB3.out hb)
    replace HL := Lib.hid (HL.out.below hb)
    replace HT := Lib.hid (HT.out.below hb)
    replace y0 := cell_below hb y0
    replace y1 := cell_below hb y1
    replace y2 := cell_below hb y2
    clear hb Hc HB3
    have Hc := Lib.hid (cheapY (ca := ca) HK.out HF.out (HL.out : StepsAt w4 A l) hn1)
    go_wp2_with fail
    refine Hc.out.mono ?_
    rintro e w5 ⟨v, rfl, ⟨t, G2, c2, bc, rfl, _⟩, hb⟩
    have HB5 := Lib.hid (below_trans' HB4.out hb)
    replace HL := Lib.hid (HL.out.below hb)
    replace HT := Lib.hid (HT.out.below hb)
    replace y0 := cell_below hb y0
    replace y1 := cell_below hb y1
    replace y2 := cell_below hb y2
    clear hb Hc HB4
    have Hc := Lib.hid (pricesY (ca := ca) HK.out HF.out (HL.out : StepsAt w5 A l) hn1 HT.out)
    go_wp2_with fail
    refine Hc.out.mono ?_
    rintro e w6 ⟨v, rfl, ⟨P, G3, c3, bp, rfl, _⟩, hb⟩
    have HB6 := Lib.hid (below_trans' HB5.out hb)
    replace HL := Lib.hid (HL.out.below hb)
    replace HT := Lib.hid (HT.out.below hb)
    replace y0 := cell_below hb y0
    replace y1 := cell_below hb y1
    replace y2 := cell_below hb y2
    clear hb Hc HB5
    have Hc := Lib.hid (mostY (ca := ca) HK.out HF.out (HL.out : StepsAt w6 A l) hn1)
    go_wp2_with fail
    refine Hc.out.mono ?_
    rintro e w7 ⟨v, rfl, ⟨m, rfl, _⟩, hb⟩
    have HB7 := Lib.hid (below_trans' HB6.out hb)
    replace HL := Lib.hid (HL.out.below hb)
    replace HT := Lib.hid (HT.out.below hb)
    replace y0 := cell_below hb y0
    replace y1 := cell_below hb y1
    replace y2 := cell_below hb y2
    clear hb Hc HB6
    have Hc := Lib.hid (gradesY (ca := ca) HK.out HF.out (HL.out : StepsAt w7 A l) hn1)
    go_wp2_with fail
    refine Hc.out.mono ?_
    rintro e w8 ⟨v, rfl, ⟨g, G4, c4, rfl, _⟩, hb⟩
    have HB8 := Lib.hid (below_trans' HB7.out hb)
    replace HL := Lib.hid (HL.out.below hb)
    replace HT := Lib.hid (HT.out.below hb)
    replace y0 := cell_below hb y0
    replace y1 := cell_below hb y1
    replace y2 := cell_below hb y2
    clear hb Hc HB7
    go_wp2_with fail
    refine (works_any _ HT.out).mono ?_
    rintro e wz ⟨v, rfl, rfl, hBz⟩
    go_wp2
    go_ret
    exact Ret.mk' rfl ⟨rfl, below_trans' HB8.out hBz⟩
  have HF := Lib.hid hf
  clear hf
  have Hc := Lib.hid (lostN (ca := ca) HK.out HF.out (HL.out : StepsAt w3 A l) hn1)
  go_wp2_with fail
  refine Hc.out.mono ?_
  rintro e w4 ⟨v, rfl, ⟨G1, c1, rfl, hG1⟩, hb⟩
  have HB4 := Lib.hid (below_trans' HB3.out hb)
  replace HL := Lib.hid (HL.out.below hb)
  replace HT := Lib.hid (HT.out.below hb)
  replace y0 := cell_below hb y0
  replace y1 := cell_below hb y1
  replace y2 := cell_below hb y2
  clear hb Hc HB3
  have HG1 := Lib.hid hG1
  clear hG1
  have Hc := Lib.hid (cheapN (ca := ca) HK.out HF.out (HL.out : StepsAt w4 A l) hn1)
  go_wp2_with fail
  refine Hc.out.mono ?_
  rintro e w5 ⟨v, rfl, rfl, hb⟩
  have HB5 := Lib.hid (below_trans' HB4.out hb)
  replace HL := Lib.hid (HL.out.below hb)
  replace HT := Lib.hid (HT.out.below hb)
  replace HG1 := Lib.hid (HG1.out.below hb)
  replace y0 := cell_below hb y0
  replace y1 := cell_below hb y1
  replace y2 := cell_below hb y2
  clear hb Hc HB4
  have Hc := Lib.hid (pricesN (ca := ca) HK.out HF.out (HL.out : StepsAt w5 A l) hn1 HT.out)
  go_wp2_with fail
  refine Hc.out.mono ?_
  rintro e w6 ⟨v, rfl, rfl, hb⟩
  have HB6 := Lib.hid (below_trans' HB5.out hb)
  replace HL := Lib.hid (HL.out.below hb)
  replace HT := Lib.hid (HT.out.below hb)
  replace HG1 := Lib.hid (HG1.out.below hb)
  replace y0 := cell_below hb y0
  replace y1 := cell_below hb y1
  replace y2 := cell_below hb y2
  clear hb Hc HB5
  have Hc := Lib.hid (mostN (ca := ca) HK.out HF.out (HL.out : StepsAt w6 A l) hn1)
  go_wp2_with fail
  refine Hc.out.mono ?_
  rintro e w7 ⟨v, rfl, rfl, hb⟩
  have HB7 := Lib.hid (below_trans' HB6.out hb)
  replace HL := Lib.hid (HL.out.below hb)
  replace HT := Lib.hid (HT.out.below hb)
  replace HG1 := Lib.hid (HG1.out.below hb)
  replace y0 := cell_below hb y0
  replace y1 := cell_below hb y1
  replace y2 := cell_below hb y2
  clear hb Hc HB6
  have Hc := Lib.hid (gradesN (ca := ca) HK.out HF.out (HL.out : StepsAt w7 A l) hn1)
  go_wp2_with fail
  refine Hc.out.mono ?_
  rintro e w8 ⟨v, rfl, rfl, hb⟩
  have HB8 := Lib.hid (below_trans' HB7.out hb)
  replace HL := Lib.hid (HL.out.below hb)
  replace HT := Lib.hid (HT.out.below hb)
  replace HG1 := Lib.hid (HG1.out.below hb)
  replace y0 := cell_below hb y0
  replace y1 := cell_below hb y1
  replace y2 := cell_below hb y2
  clear hb Hc HB7
  have hk0 : lostL S R l ≠ [] := fun h => HF.out ((lostL_nil S R l).1 h)
  have hkl : (lostL S R l).length ≤ 16 := by
    have h1 := lostK_le S R l S.toNat
    rw [lostK_all] at h1
    omega
  have HMk : Hid (∀ x ∈ lostL S R l, ∃ v : Nat, x = v ∧ (v : Int) < S ∧ (v : Int) ≠ R) := Lib.hid fun x hx => by
    obtain ⟨v, hv, hr, rfl⟩ := lostL_mem.1 hx
    refine ⟨v, rfl, by omega, fun e => hr ?_⟩
    have : v = R.toNat := by omega
    rw [this]; exact .refl
  have HRi := Lib.hid (lostL_rise (S := S) (R := R) (l := l))
  have HSh := Lib.hid (fun i (hi : i < l.length) h => lost_shut HK.out hi h)
  generalize lostL S R l = ks at hk0 hkl HMk HRi HSh HG1 ⊢
  have hk1 := List.length_pos_iff.2 hk0
  have dk : ((ks.length : Int) == 0) = false := by rw [beq_eq_false_iff_ne]; omega
  obtain ⟨n, rfl⟩ := Int.eq_ofNat_of_zero_le (by omega : 0 ≤ S)
  obtain ⟨zs, hzs⟩ : ∃ zs : Array Value, zs = madeCells #[.int .i64 0] n := ⟨_, rfl⟩
  have hmk := fun V => run_make_row' (P := Tryd.prog) 25 3 (.int .i64 0) 8 Tryd.underlying25 infoI3 rfl .i64 .i64 n (by omega) (by omega) V
  have hA0 := made_arr w8 n 3
  rw [← hzs] at hmk hA0
  clear hzs hk0 hk1
  have hb := below_alloc' (Below.refl w8.heap.size w8) (.cells zs 3)
  have hgz := blk_lt (heap_alloc_new w8 (.cells zs 3))
  go_upto_region 13 with fail
  clear hmk
  have HA := Lib.hid hA0
  have HBa := Lib.hid hb
  clear hb hA0
  generalize w8.alloc (.cells zs 3) = wa at *
  go_wp2
  go_loopw [15] (fun i wr => ∃ j : Nat, j ≤ ks.length ∧ i = .int .i64 j ∧ Hid (Arr wr w8.heap.size 0 n fun v => if (v : Int) ∈ ks.take j then 1 else 0) ∧ Hid (Below w8.heap.size w8 wr) ∧ w8.heap.size < wr.heap.size) (fun i _ => ks.length - (intOf i).toNat)
  case atStart => exact ⟨0, by omega, rfl, Lib.hid (HA.out.congr fun x _ => by simp), HBa, hgz⟩
  case round =>
    clear HA HBa hgz
    obtain ⟨j, hj, rfl, HA, HBr, hgz⟩ := hrel
    have z0 := cell_below HBr.out y0
    have z1 := cell_below HBr.out y1
    have z2 := cell_below HBr.out y2
    obtain ⟨wv, hwv⟩ : ∃ x, x = wr := ⟨_, rfl⟩
    subst hwv
    by_cases hjk : j < ks.length
    · obtain ⟨b, off, rfl, g1⟩ := IntsAt.at_ (IntsAt.below HG1.out HBr.out) hjk
      have hq2 : ∀ hp : 0 < j, wv.cell? ⟨b, off + (j - 1), none⟩ = some (.int .i64 ks[j - 1]) ∧ ks[j - 1] < ks[j] := fun hp => by
        obtain ⟨b3, o3, e, h⟩ := IntsAt.at_ (IntsAt.below HG1.out HBr.out) (i := j - 1) (by omega)
        injection e with e
        injection e with e1 e2
        subst e1 e2
        exact ⟨h, List.pairwise_iff_getElem.1 HRi.out (j - 1) j (by omega) hjk (by omega)⟩
      have HTk := Lib.hid (take_snoc hjk rfl)
      obtain ⟨v, hv, hvn, hvr⟩ := HMk.out _ (List.getElem_mem hjk)
      rw [hv] at g1 hq2 HTk
      have j0 : (0 : Int) ≤ (j : Int) := by omega
      have j1 : (j : Int) < (ks.length : Int) := by omega
      have v0 : ¬ (v : Int) < 0 := by omega
      have v0' : (0 : Int) ≤ (v : Int) := by omega
      have v1 : ¬ (n : Int) ≤ (v : Int) := by omega
      have v2 : ((v : Int) == R) = false := by rw [beq_eq_false_iff_ne]; exact hvr
      have hvn' : v < n := by omega
      have dv : decide ((v : Int) ≥ (n : Int)) = false := by simp; omega
      clear hv
      have HNx : Hid (∀ V : World, Below w8.heap.size w8 V → Arr V w8.heap.size 0 n (fun v => if (v : Int) ∈ ks.take j then 1 else 0) → Arr (V.setCell ⟨w8.heap.size, v, none⟩ (.int .i64 1)) w8.heap.size 0 n (fun v => if (v : Int) ∈ ks.take (j + 1) then 1 else 0)) := Lib.hid fun V _ h => by
        have h9 := h.set hvn' 1
        rw [Nat.zero_add] at h9
        refine h9.congr fun x _ => ?_
        rw [HTk.out]
        by_cases e : x = v
        · subst e; rw [if_pos rfl, if_pos (by simp)]
        · rw [if_neg e]
          by_cases e2 : (x : Int) ∈ ks.take j
          · rw [if_pos e2, if_pos (by simp [e2])]
          · rw [if_neg e2, if_neg (by simp [e2]; omega)]
      by_cases hj0 : j = 0
      · subst hj0
        clear hq2
        rw [Nat.add_zero] at g1
        go_upto_region 16 with fail
        refine wp_region_class (C := fun W => Below wv.heap.size wv W) (by kernel_rfl) (by kernel_rfl) ((Below.refl _ _).drew) ?_
        repeat (first
          | go_big_quiet_skip
          | (go_big_quiet_want
             first
               | (go_big_quiet_op; go_big_quiet_on)
               | (apply Exists.intro
                  refine ⟨fun W hW => ?_, ?_⟩
                  · replace z0 := cell_below hW z0; replace z1 := cell_below hW z1; replace z2 := cell_below hW z2; replace g1 := cell_below hW g1; go_simp <;> exact rfl
                  simp only [Act.put, List.setIfInBounds_toArray, List.set_cons_zero, List.set_cons_succ]
                  go_big_quiet_on)))
        refine wpQuiet_nil ?_
        intro w5 hB5
        have HA5 := Lib.hid (HA.out.below hB5)
        have HB5 := Lib.hid (below_trans' HBr.out hB5)
        have hgz5 : w8.heap.size < w5.heap.size := by have := hB5.size; omega
        replace g1 := cell_below hB5 g1
        clear hB5 HA HBr z0 z1 z2
        obtain ⟨c1, f1⟩ := HA5.out v hvn'
        rw [Nat.zero_add] at c1 f1
        have HA6 := Lib.hid (HNx.out w5 HB5.out HA5.out)
        have HB6 := Lib.hid (HB5.out.setCell (p := ⟨w8.heap.size, v, none⟩) (Nat.le_refl _) (.int .i64 1))
        have hgz6 : w8.heap.size < (w5.setCell ⟨w8.heap.size, v, none⟩ (.int .i64 1)).heap.size := by simp; omega
        clear HNx HA5 HB5
        go_wp2
        go_roundw
        case rel => exact ⟨0 + 1, by omega, by go_num, HA6, HB6, hgz6⟩
        case measure => simp [intOf]; omega
      · obtain ⟨hq3, hlt⟩ := hq2 (by omega)
        generalize ks[j - 1] = y at hq3 hlt
        obtain ⟨i, hi⟩ : ∃ i, j - 1 = i := ⟨_, rfl⟩
        rw [hi] at hq3
        have i0 : (0 : Int) ≤ (i : Int) := by omega
        have i1 : (i : Int) < (ks.length : Int) := by omega
        have ej : (j : Int) - 1 = (i : Int) := by omega
        have dj : decide ((j : Int) > 0) = true := by simp; omega
        have jn : 0 < j := by omega
        have ei : IntKind.i64.wrap (i : Int) = (i : Int) := IntWalk.i64_in _ (by omega)
        have ei2 : IntKind.i64.wrap ((j : Int) - 1) = (i : Int) := by rw [ej]; exact ei
        have hle : ¬ (v : Int) ≤ y := by omega
        clear hq2 hi hlt
        go_upto_region 16 with fail
        refine wp_region_class (C := fun W => Below wv.heap.size wv W) (by kernel_rfl) (by kernel_rfl) ((Below.refl _ _).drew) ?_
        repeat (first
          | go_big_quiet_skip
          | (go_big_quiet_want
             first
               | (go_big_quiet_op; go_big_quiet_on)
               | (apply Exists.intro
                  refine ⟨fun W hW => ?_, ?_⟩
                  · replace z0 := cell_below hW z0; replace z1 := cell_below hW z1; replace z2 := cell_below hW z2; replace g1 := cell_below hW g1; replace hq3 := cell_below hW hq3; go_simp <;> exact rfl
                  simp only [Act.put, List.setIfInBounds_toArray, List.set_cons_zero, List.set_cons_succ]
                  go_big_quiet_on)))
        refine wpQuiet_nil ?_
        intro w5 hB5
        have HA5 := Lib.hid (HA.out.below hB5)
        have HB5 := Lib.hid (below_trans' HBr.out hB5)
        have hgz5 : w8.heap.size < w5.heap.size := by have := hB5.size; omega
        replace g1 := cell_below hB5 g1
        clear hB5 HA HBr z0 z1 z2 hq3
        obtain ⟨c1, f1⟩ := HA5.out v hvn'
        rw [Nat.zero_add] at c1 f1
        have HA6 := Lib.hid (HNx.out w5 HB5.out HA5.out)
        have HB6 := Lib.hid (HB5.out.setCell (p := ⟨w8.heap.size, v, none⟩) (Nat.le_refl _) (.int .i64 1))
        have hgz6 : w8.heap.size < (w5.setCell ⟨w8.heap.size, v, none⟩ (.int .i64 1)).heap.size := by simp; omega
        clear HNx HA5 HB5
        go_wp2
        go_roundw
        case rel => exact ⟨j + 1, by omega, by go_num, HA6, HB6, hgz6⟩
        case measure => simp [intOf]; omega
    · obtain rfl : j = ks.length := by omega
      rw [List.take_length] at HA
      have HBs := Lib.hid (Below.refl wv.heap.size wv)
      have HBw := Lib.hid (below_trans' HB8.out HBr.out)
      have HTv := Lib.hid (HT.out.below HBr.out)
      go_wp2
      go_loopw [16] (fun i wr => ∃ j q : Nat, j ≤ l.length ∧ i = .int .i64 j ∧ wr = wv.drewN q) (fun i _ => l.length - (intOf i).toNat)
      case atStart => exact ⟨0, 0, by omega, rfl, rfl⟩
      case round =>
        obtain ⟨j, q, hj, rfl, rfl⟩ := hrel
        by_cases hjn : j < l.length
        · obtain ⟨b, off, rfl, g1, g2, g3⟩ := StepsAt.at_ (HL.out.below HBr.out) hjn
          have hst := HK.out.stp _ (List.getElem_mem hjn)
          have HShj := Lib.hid (HSh.out j hjn)
          generalize l[j] = x at g1 g2 g3 hst HShj
          obtain ⟨x1, x2, x3⟩ := x
          dsimp only at g1 g2 g3 hst HShj
          obtain ⟨a1, rfl⟩ := Int.eq_ofNat_of_zero_le hst.1.1
          obtain ⟨a2, rfl⟩ := Int.eq_ofNat_of_zero_le hst.2.1.1
          have ha1 : a1 < n := by omega
          have ha2 : a2 < n := by omega
          clear hst
          obtain ⟨c1, _⟩ := HA.out a1 ha1
          obtain ⟨c2, _⟩ := HA.out a2 ha2
          rw [Nat.zero_add] at c1 c2
          dsimp only at c1 c2
          have j0 : (0 : Int) ≤ (j : Int) := by omega
          have j1 : (j : Int) < (l.length : Int) := by omega
          have p1 : (0 : Int) ≤ (a1 : Int) := by omega
          have p2 : (0 : Int) ≤ (a2 : Int) := by omega
          by_cases h1 : (a1 : Int) ∈ ks
          · rw [if_pos h1] at c1
            go_wp2
            go_roundw
            case rel => exact ⟨j + 1, _, by omega, by go_num, rfl⟩
            case measure => simp [intOf]; omega
          · rw [if_neg h1] at c1
            rw [if_neg (HShj.out h1)] at c2
            go_wp2
            go_roundw
            case rel => exact ⟨j + 1, _, by omega, by go_num, rfl⟩
            case measure => simp [intOf]; omega
        · obtain rfl : j = l.length := by omega
          have HTd : Tab (wv.drewN q) := HTv.out
          go_wp2_with fail
          refine (works_any _ HTd).mono ?_
          rintro e wz ⟨v, rfl, rfl, hBz⟩
          go_wp2
          go_ret
          exact Ret.mk' rfl ⟨rfl, below_trans' (below_drewN HBw.out q) hBz⟩
end Go.Proofs.YtggcooplhodocaaDoor
