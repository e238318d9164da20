/- Plain: what the chapter's examples come to. Song and Works. -/
import Derived.Test.YtkjmeeggjmeajaaM3
import Derived.Test.YtkjmeeggjmeajaaD6
namespace Go.Proofs.Ytkjmeeggjmeajaa
open Go.RowKit

def songL : List Rg := [(100, 140), (120, 200), (300, 330), (190, 310), (320, 400)]
def songT : List Tone := [(100, 140, 0), (120, 200, 1), (190, 310, 3), (300, 330, 2), (320, 400, 4)]
theorem byHi_eq : ∀ (us ts : List Tone), us.Pairwise (fun a b => a.2.1 < b.2.1) → ts.Perm us → ByHi ts → ts = us
  | [], ts, _, hp, _ => hp.eq_nil
  | u :: us, [], _, hp, _ => absurd hp.symm.eq_nil (by simp)
  | u :: us, t :: ts, hu, hp, ho => by
    have h1 := List.pairwise_cons.1 hu
    have h2 := List.pairwise_cons.1 ho
    have htu : t = u := by
      rcases List.mem_cons.1 (hp.subset (List.mem_cons_self ..)) with e | e
      · exact e
      · rcases List.mem_cons.1 (hp.symm.subset (List.mem_cons_self ..)) with e2 | e2
        · exact e2.symm
        · have a := h1.1 t e
          have b := h2.1 u e2
          omega
    subst htu
    rw [byHi_eq us ts h1.2 (List.Perm.cons_inv hp) h2.2]
theorem sorted_is {l : List Rg} {us ts : List Tone} (h : Sorted l ts) (hu : us.Pairwise (fun a b => a.2.1 < b.2.1)) (hp : us.Perm (tonesUp l l.length)) : ts = us := byHi_eq us ts hu (h.1.trans hp.symm) h.2
theorem songL_err : songErr songL = 0 := by decide
theorem songT_is {ts : List Tone} (h : Sorted songL ts) : ts = songT := sorted_is h (by unfold songT; decide) (by decide)
def songU : List Tone := [(9600, 9680, 4), (9670, 9700, 2), (9690, 9810, 3), (9800, 9880, 1), (9860, 9900, 0)]
theorem songU_is {ts : List Tone} (h : Sorted (songL.map turnedR) ts) : ts = songU := sorted_is h (by unfold songU; decide) (by decide)
theorem short_len {l : List Rg} {ts us : List Tone} (h : Sorted l ts) (k : Sorted l us) (hg : GoodR l) : (hiAt ts).length = (hiAt us).length := by
  unfold hiAt; rw [List.length_map, List.length_map]; exact (greedy_short h hg).unique (greedy_short k hg)
theorem hi_songT : hiAt songT = [140, 310, 400] := by decide
theorem hi_songU : hiAt songU = [9680, 9810, 9900] := by decide
theorem names_songT : (highGo (1, 0) songT [] [] (-1)) = ([140, 310, 400], [0, 3, 4]) := by decide
theorem sortI_034 : sortI [0, 3, 4] = [0, 3, 4] := by simp [sortI, List.mergeSort_of_pairwise]
theorem best_songT : (bestT songT 2 (-1)).1 = 4 := by decide
theorem met_song : metM songL [130, 320] = [0, 1, 2, 4] := by decide
theorem scale1 : scaleErr songL [130, 200, 320] = 0 := by decide
theorem scale2 : scaleErr songL [130, 320] = 19 := by decide
theorem scale3 : scaleErr songL [140, 310, 400] = 0 := by decide
theorem check3 : checkErr songL [130, 320] = 0 := by decide
theorem apart3 : apartErr songL [0, 3, 4] = 0 := by decide
theorem songR_sorted : Sorted (songL ++ [(120, 140)]) [(100, 140, 0), (120, 140, 5), (120, 200, 1), (190, 310, 3), (300, 330, 2), (320, 400, 4)] := ⟨by decide, by unfold ByHi; decide⟩
theorem song2R_sorted : Sorted (songL.take 2 ++ [(120, 140)]) [(100, 140, 0), (120, 140, 2), (120, 200, 1)] := ⟨by decide, by unfold ByHi; decide⟩
theorem songR_good : GoodR (songL ++ [(120, 140)]) := song_GoodR (by decide)
theorem song2R_good : GoodR (songL.take 2 ++ [(120, 140)]) := song_GoodR (by decide)
theorem share01 {a b : Bool} {e : Int} (h : ShareIs songL 0 1 a b e) : a = true ∧ b = false ∧ e = 0 := by
  rcases h with h | h | h | ⟨_, _, _, _, he, ts, us, left, tones, h1, h2, h3, ha, hb⟩
  · exact absurd songL_err h.1
  · exact absurd (⟨⟨by decide, by decide⟩, ⟨by decide, by decide⟩⟩ : inL songL 0 ∧ inL songL 1) h.2.1
  · exact absurd h.2.2.2.1 (by decide)
  · obtain rfl := songT_is h1
    have e1 := short_len h2 songR_sorted songR_good
    have e2 : highGo (bothR (atL songL 0) (atL songL 1)) songT [] [] (-1) = ([119, 200, 330], [0, 1, 2]) := by decide
    rw [e2] at h3
    injection h3 with h3 h4
    subst h3 h4
    exact ⟨by rw [ha, e1]; decide, by rw [hb]; decide, he⟩
theorem share01two {a b : Bool} {e : Int} (h : ShareIs (songL.take 2) 0 1 a b e) : a = true ∧ b = true ∧ e = 0 := by
  rcases h with h | h | h | ⟨_, _, _, _, he, ts, us, left, tones, h1, h2, h3, ha, hb⟩
  · exact absurd (by decide : songErr (songL.take 2) = 0) h.1
  · exact absurd (⟨⟨by decide, by decide⟩, ⟨by decide, by decide⟩⟩ : inL (songL.take 2) 0 ∧ inL (songL.take 2) 1) h.2.1
  · exact absurd h.2.2.2.1 (by decide)
  · obtain rfl := sorted_is (us := [(100, 140, 0), (120, 200, 1)]) h1 (by decide) (by decide)
    have e1 := short_len h2 song2R_sorted song2R_good
    have e2 : highGo (bothR (atL (songL.take 2) 0) (atL (songL.take 2) 1)) [(100, 140, 0), (120, 200, 1)] [] [] (-1) = ([119, 200], [0, 1]) := by decide
    rw [e2] at h3
    injection h3 with h3 h4
    subst h3 h4
    exact ⟨by rw [ha, e1]; decide, by rw [hb]; decide, he⟩
theorem share03 {a b : Bool} {e : Int} (h : ShareIs songL 0 3 a b e) : a = false ∧ b = false ∧ e = 0 := by
  rcases h with h | h | h | h
  · exact absurd songL_err h.1
  · exact absurd (⟨⟨by decide, by decide⟩, ⟨by decide, by decide⟩⟩ : inL songL 0 ∧ inL songL 3) h.2.1
  · exact h.2.2.2.2
  · exact absurd h.2.2.2.1 (by decide)
theorem spans_song {ts us : List Tone} (h : Sorted songL ts) (k : Sorted (songL.map turnedR) us) : spansGo (hiAt ts) (hiAt us).reverse = [(100, 140), (190, 310), (320, 400)] := by
  rw [songT_is h, songU_is k]; decide
theorem rows_new {α : Type} {enc : α → List Value} {k : Nat} (hk : ∀ x, (enc x).length = k) (w : World) (l : List α) (cs : Array Value) (t : TypeId) (h : cs.toList = l.flatMap enc) : RowsAt enc k (w.alloc (.cells cs t)) (some ⟨w.heap.size, 0, none⟩) l := fun i hi => by
  refine ⟨w.heap.size, 0, rfl, fun j v hv => ?_⟩
  rw [blk_cell (heap_alloc_new w _), Nat.zero_add, ← Array.getElem?_toList, h]
  exact flatMap_at hk i j hi v hv
end Go.Proofs.Ytkjmeeggjmeajaa

namespace Go.Proofs.Ytkjmeeggjmeajaa
open Go.RowKit

theorem song_any (w : World) : Calls Try.prog 39 #[] w (Ret fun v w' => (∃ b, v = .slice (some ⟨b, 0, none⟩) 5 5 ∧ RangesAt w' (some ⟨b, 0, none⟩) songL) ∧ Below w.heap.size w w') := by
  have hrg := rg_any
  unfold vR at hrg
  have Hrg := Lib.hid hrg; clear hrg
  go_enter Try.func39, Try.ntmps39
  go_wp2_with fail
  refine (Hrg.out _ _ _).mono ?_
  rintro e w1 ⟨v, rfl, rfl, hB1⟩
  have HB1 := Lib.hid hB1; clear hB1
  go_wp2_with fail
  refine (Hrg.out _ _ _).mono ?_
  rintro e w2 ⟨v, rfl, rfl, hB2⟩
  have HB2 := Lib.hid (below_trans' HB1.out hB2); clear hB2
  go_wp2_with fail
  refine (Hrg.out _ _ _).mono ?_
  rintro e w3 ⟨v, rfl, rfl, hB3⟩
  have HB3 := Lib.hid (below_trans' HB2.out hB3); clear hB3
  go_wp2_with fail
  refine (Hrg.out _ _ _).mono ?_
  rintro e w4 ⟨v, rfl, rfl, hB4⟩
  have HB4 := Lib.hid (below_trans' HB3.out hB4); clear hB4
  go_wp2_with fail
  refine (Hrg.out _ _ _).mono ?_
  rintro e w5 ⟨v, rfl, rfl, hB5⟩
  have HB5 := Lib.hid (below_trans' HB4.out hB5); clear hB5
  go_wp2
  go_ret
  refine Ret.mk' rfl ⟨⟨_, rfl, rows_new encR_len _ _ _ _ rfl⟩, below_alloc' HB5.out _⟩
end Go.Proofs.Ytkjmeeggjmeajaa
