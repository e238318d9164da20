/- (wrappers): the walk. -/
import Derived.Test.YtggcooplhodocaaGreatDoorKA
namespace Go.Proofs.YtggcooplhodocaaGreatDoor
open Go.RowKit Go.Shelf Go.Maps Fam

section
variable {S R : Int} {l : List St}
theorem lostL_mem {x : Int} : x ∈ lostL S R l ↔ ∃ v : Nat, v < S.toNat ∧ ¬ Rch (netB S R l) (allS (netB S R l)) R.toNat v ∧ x = v := by
  unfold lostL
  simp only [List.mem_map, List.mem_filter, List.mem_range, decide_eq_true_eq]
  constructor
  · rintro ⟨v, ⟨h1, h2⟩, rfl⟩; exact ⟨v, h1, h2, rfl⟩
  · rintro ⟨v, h1, h2, rfl⟩; exact ⟨v, ⟨h1, h2⟩, rfl⟩
theorem lostL_rise : (lostL S R l).Pairwise (· < ·) := by
  unfold lostL
  refine List.pairwise_map.2 ((List.pairwise_lt_range.filter _).imp fun h => ?_)
  omega
/-- no step goes from a variant that is not lost to one that is -/
theorem lost_shut (h : BookOk S R l) {i : Nat} (hi : i < l.length) (h1 : l[i].1 ∉ lostL S R l) : l[i].2.1 ∉ lostL S R l := fun h2 => by
  have ha := h.at_ hi
  rw [stAt_eq hi] at ha
  obtain ⟨v, hv, hn, e⟩ := lostL_mem.1 h2
  refine h1 (lostL_mem.2 ⟨l[i].1.toNat, by omega, fun hr => hn ?_, by omega⟩)
  have e1 : (netB S R l).fr i = l[i].1.toNat := by show (stAt l i).1.toNat = _; rw [stAt_eq hi]
  have e2 : (netB S R l).to i = v := by show (stAt l i).2.1.toNat = _; rw [stAt_eq hi]; omega
  rw [← e2]
  exact .step (by rw [e1]; exact hr) hi
end
/-! what the functions answer where there is a tree, and where there is none -/
section
variable {S R : Int} {A : Option Addr} {ca : Nat} {l : List St} {w : World}
theorem cheapY (hok : BookOk S R l) (hf : Full (netB S R l) (allS (netB S R l))) (hl : StepsAt w A l) (hn : l.length ≤ 100000) : Calls Tryz.prog 8 #[vBook S R A l.length ca] w (Ret fun v w' => (∃ t G c b, v = .tuple #[.slice G t.length c, .int .i64 b, .int .i64 0] ∧ t.length = S.toNat ∧ IntsAt w' G t ∧ TreeL (netB S R l) t ∧ costL (netB S R l) t = b ∧ Best (netB S R l) b) ∧ Below w.heap.size w w') := by
  refine Calls.mono (cheapest_any S R A ca l w hl hn) ?_
  rintro e w' ⟨v, rfl, hv, hb⟩
  rcases hv with ⟨h1, _⟩ | ⟨_, h2, _⟩ | ⟨_, t, G, c, rfl, h3, h4, h5, h6, h7, h8⟩
  · exact absurd (bookErr_iff.2 hok) h1
  · exact absurd hf h2
  · exact Ret.mk ⟨⟨t, G, c, _, rfl, h5, h6, h7, rfl, h8⟩, hb⟩
theorem cheapN (hok : BookOk S R l) (hf : ¬ Full (netB S R l) (allS (netB S R l))) (hl : StepsAt w A l) (hn : l.length ≤ 100000) : Calls Tryz.prog 8 #[vBook S R A l.length ca] w (Ret fun v w' => v = .tuple #[.slice none 0 0, .int .i64 0, .int .i64 13] ∧ Below w.heap.size w w') := by
  refine Calls.mono (cheapest_any S R A ca l w hl hn) ?_
  rintro e w' ⟨v, rfl, hv, hb⟩
  rcases hv with ⟨h1, _⟩ | ⟨_, h2, rfl⟩ | ⟨_, t, G, c, rfl, h3, h4, h5, h6, h7, h8⟩
  · exact absurd (bookErr_iff.2 hok) h1
  · exact Ret.mk ⟨rfl, hb⟩
  · exact absurd h7.2.2.2.all hf
theorem pricesY (hok : BookOk S R l) (hf : Full (netB S R l) (allS (netB S R l))) (hl : StepsAt w A l) (hn : l.length ≤ 100000) (hT : Tab w) : Calls Tryz.prog 21 #[vBook S R A l.length ca] w (Ret fun v w' => (∃ P B c b, v = .tuple #[.slice B P.length c, .int .i64 0] ∧ PsAt w' B P ∧ (∀ x ∈ P, x.1.length ≤ 100000) ∧ Best (netB S R l) b ∧ pricesV S R l P = (b, 0)) ∧ Below w.heap.size w w') := by
  refine Calls.mono (prices_any S R A ca l w hl hn hT) ?_
  rintro e w' ⟨v, rfl, hv, hb⟩
  rcases hv with ⟨h1, _⟩ | ⟨_, h2, _⟩ | ⟨_, P, B, c, b, rfl, h3, h4, h5, h6⟩
  · exact absurd (bookErr_iff.2 hok) h1
  · exact absurd hf h2
  · exact Ret.mk ⟨⟨P, B, c, b, rfl, h3, fun x hx => by have := prices_small hok (by rw [h6]) x hx; omega, h5, h6⟩, hb⟩
theorem pricesN (hok : BookOk S R l) (hf : ¬ Full (netB S R l) (allS (netB S R l))) (hl : StepsAt w A l) (hn : l.length ≤ 100000) (hT : Tab w) : Calls Tryz.prog 21 #[vBook S R A l.length ca] w (Ret fun v w' => v = .tuple #[.slice none 0 0, .int .i64 13] ∧ Below w.heap.size w w') := by
  refine Calls.mono (prices_any S R A ca l w hl hn hT) ?_
  rintro e w' ⟨v, rfl, hv, hb⟩
  rcases hv with ⟨h1, _⟩ | ⟨_, h2, rfl⟩ | ⟨_, P, B, c, b, rfl, h3, h4, ⟨⟨T, hT', _⟩, _⟩, h6⟩
  · exact absurd (bookErr_iff.2 hok) h1
  · exact Ret.mk ⟨rfl, hb⟩
  · exact absurd hT'.all hf
theorem mostY (hok : BookOk S R l) (hf : Full (netB S R l) (allS (netB S R l))) (hl : StepsAt w A l) (hn : l.length ≤ 100000) : Calls Tryz.prog 12 #[vBook S R A l.length ca] w (Ret fun v w' => (∃ m, v = .tuple #[.int .i64 m, .int .i64 0] ∧ MostIs (netB S R l) m) ∧ Below w.heap.size w w') := by
  refine Calls.mono (most_any S R A ca l w hl hn) ?_
  rintro e w' ⟨v, rfl, ⟨m, e, rfl, hm⟩, hb⟩
  rcases hm with ⟨h1, _⟩ | ⟨_, h2, _⟩ | ⟨_, h3, rfl⟩
  · exact absurd (bookErr_iff.2 hok) h1
  · exact absurd hf h2
  · exact Ret.mk ⟨⟨m, rfl, h3⟩, hb⟩
theorem mostN (hok : BookOk S R l) (hf : ¬ Full (netB S R l) (allS (netB S R l))) (hl : StepsAt w A l) (hn : l.length ≤ 100000) : Calls Tryz.prog 12 #[vBook S R A l.length ca] w (Ret fun v w' => v = .tuple #[.int .i64 0, .int .i64 13] ∧ Below w.heap.size w w') := by
  refine Calls.mono (most_any S R A ca l w hl hn) ?_
  rintro e w' ⟨v, rfl, ⟨m, e, rfl, hm⟩, hb⟩
  rcases hm with ⟨h1, _⟩ | ⟨_, h2, rfl, rfl⟩ | ⟨_, h3, rfl⟩
  · exact absurd (bookErr_iff.2 hok) h1
  · exact Ret.mk ⟨rfl, hb⟩
  · exact absurd (most_all h3) hf
theorem gradesY (hok : BookOk S R l) (hf : Full (netB S R l) (allS (netB S R l))) (hl : StepsAt w A l) (hn : l.length ≤ 100000) : Calls Tryz.prog 14 #[vBook S R A l.length ca] w (Ret fun v w' => (∃ g G c, v = .tuple #[.slice G g.length c, .int .i64 0] ∧ g.length = l.length ∧ IntsAt w' G g ∧ ∀ i (h : i < g.length), GradeIs (netB S R l) i g[i]) ∧ Below w.heap.size w w') := by
  refine Calls.mono (grades_any S R A ca l w hl hn) ?_
  rintro e w' ⟨v, rfl, hv, hb⟩
  rcases hv with ⟨h1, _⟩ | ⟨_, h2, _⟩ | ⟨_, _, g, G, c, rfl, h3, h4, h5⟩
  · exact absurd (bookErr_iff.2 hok) h1
  · exact absurd hf h2
  · exact Ret.mk ⟨⟨g, G, c, rfl, h3, h4, h5⟩, hb⟩
theorem gradesN (hok : BookOk S R l) (hf : ¬ Full (netB S R l) (allS (netB S R l))) (hl : StepsAt w A l) (hn : l.length ≤ 100000) : Calls Tryz.prog 14 #[vBook S R A l.length ca] w (Ret fun v w' => v = .tuple #[.slice none 0 0, .int .i64 13] ∧ Below w.heap.size w w') := by
  refine Calls.mono (grades_any S R A ca l w hl hn) ?_
  rintro e w' ⟨v, rfl, hv, hb⟩
  rcases hv with ⟨h1, _⟩ | ⟨_, h2, rfl⟩ | ⟨_, h2, g, G, c, rfl, h3, h4, h5⟩
  · exact absurd (bookErr_iff.2 hok) h1
  · exact Ret.mk ⟨rfl, hb⟩
  · exact absurd h2 hf
theorem lostY (hok : BookOk S R l) (hf : Full (netB S R l) (allS (netB S R l))) (hl : StepsAt w A l) (hn : l.length ≤ 100000) : Calls Tryz.prog 24 #[vBook S R A l.length ca] w (Ret fun v w' => (∃ G c, v = .tuple #[.slice G 0 c, .int .i64 5]) ∧ Below w.heap.size w w') := by
  refine Calls.mono (lost_any S R A ca l w hl hn) ?_
  rintro e w' ⟨v, rfl, hv, hb⟩
  rw [lostV_none (bookErr_iff.2 hok) ((lostL_nil S R l).2 hf)] at hv
  obtain ⟨G, c, rfl, _⟩ := hv
  exact Ret.mk ⟨⟨G, c, rfl⟩, hb⟩
theorem lostN (hok : BookOk S R l) (hf : ¬ Full (netB S R l) (allS (netB S R l))) (hl : StepsAt w A l) (hn : l.length ≤ 100000) : Calls Tryz.prog 24 #[vBook S R A l.length ca] w (Ret fun v w' => (∃ G c, v = .tuple #[.slice G (lostL S R l).length c, .int .i64 0] ∧ IntsAt w' G (lostL S R l)) ∧ Below w.heap.size w w') := by
  refine Calls.mono (lost_any S R A ca l w hl hn) ?_
  rintro e w' ⟨v, rfl, hv, hb⟩
  rw [lostV_some (bookErr_iff.2 hok) (fun h => hf ((lostL_nil S R l).1 h))] at hv
  obtain ⟨G, c, rfl, h1, _⟩ := hv
  exact Ret.mk ⟨⟨G, c, rfl, h1⟩, hb⟩
end
end Go.Proofs.YtggcooplhodocaaGreatDoor
