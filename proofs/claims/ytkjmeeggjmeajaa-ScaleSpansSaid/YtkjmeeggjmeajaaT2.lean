/- ref: without, the plain law: the fewest steps of a right scale that leaves a range out. -/
import Derived.Test.YtkjmeeggjmeajaaPC
import Derived.Test.YtkjmeeggjmeajaaD4
namespace Go.Proofs.Ytkjmeeggjmeajaa
open Go.RowKit

def goodP (l : List Rg) (r : Rg) (p : Int) : Bool := (p == r.1 - 1) || (p == r.2 + 1) || l.any fun t => p == t.2 || p == t.1
def outP (r : Rg) (p : Int) : Bool := decide (p < r.1) || decide (r.2 < p)
/-- the places below number k -/
def placesUp (l : List Rg) (r : Rg) (k : Nat) : List Int := ((List.range k).filter fun p : Nat => goodP l r (p : Int) && outP r (p : Int)).map fun p : Nat => (p : Int)
theorem places_yes {l : List Rg} {r : Rg} {k : Nat} (h : (goodP l r (k : Int) && outP r (k : Int)) = true) : placesUp l r (k + 1) = placesUp l r k ++ [(k : Int)] := by
  unfold placesUp; rw [List.range_succ, List.filter_append, List.map_append]; simp [h]
theorem places_no {l : List Rg} {r : Rg} {k : Nat} (h : (goodP l r (k : Int) && outP r (k : Int)) = false) : placesUp l r (k + 1) = placesUp l r k := by
  unfold placesUp; rw [List.range_succ, List.filter_append, List.map_append]; simp [h]
theorem places_len (l : List Rg) (r : Rg) (k : Nat) : (placesUp l r k).length ≤ k := by
  unfold placesUp; rw [List.length_map]
  have := List.length_filter_le (fun p : Nat => goodP l r (p : Int) && outP r (p : Int)) (List.range k)
  simpa using this
theorem places_rise (l : List Rg) (r : Rg) (k : Nat) : Rises (placesUp l r k) := by
  unfold Rises placesUp
  rw [List.pairwise_map]
  exact (List.pairwise_lt_range.sublist List.filter_sublist).imp fun {a b} h => by omega
theorem mem_places {l : List Rg} {r : Rg} {k : Nat} {z : Int} : z ∈ placesUp l r k ↔ 0 ≤ z ∧ z < k ∧ goodP l r z = true ∧ outP r z = true := by
  unfold placesUp
  rw [List.mem_map]
  constructor
  · rintro ⟨p, hp, rfl⟩
    obtain ⟨h1, h2⟩ := List.mem_filter.1 hp
    have := List.mem_range.1 h1
    rw [Bool.and_eq_true] at h2
    exact ⟨by omega, by omega, h2⟩
  · rintro ⟨h0, h1, h2, h3⟩
    obtain ⟨p, rfl⟩ := Int.eq_ofNat_of_zero_le h0
    exact ⟨p, List.mem_filter.2 ⟨List.mem_range.2 (by omega), by rw [h2, h3]; rfl⟩, rfl⟩

/-- x ends in place k, all tones wholly below it are met, and the place before it, if there is one, has a number below J -/
def PathTo (l : List Rg) (P : List Int) (k J : Nat) (x : List Int) : Prop :=
  ∃ y, x = y ++ [P.getD k 0] ∧ Rises x ∧ (∀ z ∈ x, z ∈ P) ∧ (∀ t ∈ l, t.2 < P.getD k 0 → Hit x t) ∧ (y = [] ∨ ∃ j y', j < J ∧ j < P.length ∧ y = y' ++ [P.getD j 0])
def MinPath (l : List Rg) (P : List Int) (k J : Nat) (m : Int) : Prop := (m = 1000 ∨ ∃ x, PathTo l P k J x ∧ (x.length : Int) = m) ∧ (0 ≤ m ∧ m ≤ 1000) ∧ ∀ x, PathTo l P k J x → m ≤ x.length
theorem rises_last {y : List Int} {a : Int} (h : Rises (y ++ [a])) : ∀ z ∈ y, z < a := fun z hz => by
  unfold Rises at h; exact (List.pairwise_append.1 h).2.2 z hz a (by simp)
theorem rises_idx {P : List Int} (hP : Rises P) {i j : Nat} (hi : i < P.length) (hj : j < P.length) (h : P.getD i 0 < P.getD j 0) : i < j := by
  refine Classical.byContradiction fun hn => ?_
  simp only [List.getD_eq_getElem?_getD, List.getElem?_eq_getElem hi, List.getElem?_eq_getElem hj, Option.getD_some] at h
  by_cases e : i = j
  · subst e; omega
  · have := List.pairwise_iff_getElem.1 hP j i hj hi (by omega); omega
theorem mem_getD {P : List Int} {z : Int} (h : z ∈ P) : ∃ i, i < P.length ∧ P.getD i 0 = z := by
  obtain ⟨i, hi, rfl⟩ := List.mem_iff_getElem.1 h
  exact ⟨i, hi, by simp [List.getD_eq_getElem?_getD, List.getElem?_eq_getElem hi]⟩
theorem getD_mem {P : List Int} {i : Nat} (h : i < P.length) : P.getD i 0 ∈ P := by
  simp only [List.getD_eq_getElem?_getD, List.getElem?_eq_getElem h, Option.getD_some]; exact List.getElem_mem h
theorem missB_iff {l : List Rg} {a b : Int} : missB l a b = true ↔ ∃ t ∈ l, a < t.1 ∧ t.2 < b := by
  unfold missB; rw [List.any_eq_true]; simp only [Bool.and_eq_true, decide_eq_true_eq]
theorem path_split {l : List Rg} {P : List Int} (hP : Rises P) {k J : Nat} {x : List Int} (h : PathTo l P k (J + 1) x) : PathTo l P k J x ∨ ∃ y, x = y ++ [P.getD k 0] ∧ PathTo l P J J y ∧ missB l (P.getD J 0) (P.getD k 0) = false := by
  obtain ⟨y, rfl, h1, h2, h3, h4⟩ := h
  rcases h4 with h4 | ⟨j, y', hj, hjl, rfl⟩
  · exact .inl ⟨y, rfl, h1, h2, h3, .inl h4⟩
  · by_cases e : j < J
    · exact .inl ⟨_, rfl, h1, h2, h3, .inr ⟨j, y', e, hjl, rfl⟩⟩
    · obtain rfl : j = J := by omega
      have hl := rises_last h1
      have hy : Rises (y' ++ [P.getD j 0]) := by unfold Rises at h1 ⊢; exact (List.pairwise_append.1 h1).1
      have hl' := rises_last hy
      have hlast : P.getD j 0 < P.getD k 0 := hl _ (by simp)
      refine .inr ⟨_, rfl, ⟨y', rfl, hy, fun z hz => h2 z (List.mem_append_left _ hz), fun t ht htl => ?_, ?_⟩, ?_⟩
      · obtain ⟨z, hz, z1, z2⟩ := h3 t ht (by omega)
        rcases List.mem_append.1 hz with hz | hz
        · exact ⟨z, hz, z1, z2⟩
        · rw [List.mem_singleton.1 hz] at z2; omega
      · cases hy' : y' with
        | nil => exact .inl rfl
        | cons a b =>
          refine .inr ?_
          have hne : a :: b ≠ [] := by simp
          have hm : (a :: b).getLast hne ∈ y' := by rw [hy']; exact List.getLast_mem hne
          obtain ⟨i, hi, e⟩ := mem_getD (h2 _ (List.mem_append_left _ (List.mem_append_left _ hm)))
          refine ⟨i, (a :: b).dropLast, rises_idx hP hi hjl ?_, hi, ?_⟩
          · rw [e]; exact hl' _ hm
          · rw [e]; exact (List.dropLast_concat_getLast hne).symm
      · cases hm : missB l (P.getD j 0) (P.getD k 0) with
        | false => rfl
        | true =>
          obtain ⟨t, ht, t1, t2⟩ := missB_iff.1 hm
          obtain ⟨z, hz, z1, z2⟩ := h3 t ht t2
          exfalso
          rcases List.mem_append.1 hz with hz | hz
          · rcases List.mem_append.1 hz with hz | hz
            · have := hl' z hz; omega
            · rw [List.mem_singleton.1 hz] at z1; omega
          · rw [List.mem_singleton.1 hz] at z2; omega
theorem path_join {l : List Rg} {P : List Int} (hP : Rises P) {k J : Nat} (hJ : J < k) (hk : k < P.length) {y : List Int} (h : PathTo l P J J y) (hm : missB l (P.getD J 0) (P.getD k 0) = false) : PathTo l P k (J + 1) (y ++ [P.getD k 0]) := by
  obtain ⟨y', rfl, h1, h2, h3, _⟩ := h
  have hlt : P.getD J 0 < P.getD k 0 := by
    simp only [List.getD_eq_getElem?_getD, List.getElem?_eq_getElem hk, List.getElem?_eq_getElem (show J < P.length by omega), Option.getD_some]
    exact List.pairwise_iff_getElem.1 hP J k (by omega) hk hJ
  have hl := rises_last h1
  refine ⟨_, rfl, ?_, fun z hz => ?_, fun t ht htl => ?_, .inr ⟨J, y', by omega, by omega, rfl⟩⟩
  · unfold Rises
    refine List.pairwise_append.2 ⟨h1, by simp, fun a ha b hb => ?_⟩
    rw [List.mem_singleton.1 hb]
    rcases List.mem_append.1 ha with ha | ha
    · have := hl a ha; omega
    · rw [List.mem_singleton.1 ha]; exact hlt
  · rcases List.mem_append.1 hz with hz | hz
    · exact h2 z hz
    · rw [List.mem_singleton.1 hz]; exact getD_mem hk
  · by_cases c1 : t.2 < P.getD J 0
    · obtain ⟨z, hz, k1⟩ := h3 t ht c1
      exact ⟨z, List.mem_append_left _ hz, k1⟩
    · by_cases c2 : t.1 ≤ P.getD J 0
      · exact ⟨P.getD J 0, by simp, c2, by omega⟩
      · have : missB l (P.getD J 0) (P.getD k 0) = true := missB_iff.2 ⟨t, ht, by omega, htl⟩
        rw [hm] at this; cases this
theorem MinPath.start {l : List Rg} {P : List Int} (hg : GoodR l) {k : Nat} (hk : k < P.length) : MinPath l P k 0 (if missB l (-1) (P.getD k 0) = true then 1000 else 1) := by
  cases hm : missB l (-1) (P.getD k 0) with
  | true =>
    simp only [if_true]
    refine ⟨.inl rfl, by omega, fun x hx => ?_⟩
    obtain ⟨y, rfl, h1, h2, h3, h4⟩ := hx
    obtain ⟨t, ht, t1, t2⟩ := missB_iff.1 hm
    obtain ⟨z, hz, z1, z2⟩ := h3 t ht t2
    rcases h4 with rfl | ⟨j, _, hj, _⟩
    · rw [List.nil_append, List.mem_singleton] at hz; omega
    · omega
  | false =>
    simp only [Bool.false_eq_true, if_false]
    refine ⟨.inr ⟨[P.getD k 0], ⟨[], rfl, by simp [Rises], fun z hz => by rw [List.mem_singleton.1 hz]; exact getD_mem hk, fun t ht htl => ?_, .inl rfl⟩, rfl⟩, by omega, fun x hx => ?_⟩
    · have := (hg t ht).1
      have : missB l (-1) (P.getD k 0) = true := missB_iff.2 ⟨t, ht, by omega, htl⟩
      rw [hm] at this; cases this
    · obtain ⟨y, rfl, _⟩ := hx; simp; omega
theorem MinPath.next {l : List Rg} {P : List Int} (hP : Rises P) {k J : Nat} (hJ : J < k) (hk : k < P.length) {m s : Int} (h : MinPath l P k J m) (hs : MinPath l P J J s) :
    MinPath l P k (J + 1) (if missB l (P.getD J 0) (P.getD k 0) = true then m else min m (s + 1)) := by
  obtain ⟨h1, h2, h3⟩ := h
  obtain ⟨s1, s2, s3⟩ := hs
  have mono : ∀ x, PathTo l P k J x → PathTo l P k (J + 1) x := fun x ⟨y, a, b, c, d, e⟩ => ⟨y, a, b, c, d, e.imp id fun ⟨j, y', p, q⟩ => ⟨j, y', by omega, q⟩⟩
  cases hm : missB l (P.getD J 0) (P.getD k 0) with
  | true =>
    simp only [if_true]
    refine ⟨h1.imp id fun ⟨x, a, b⟩ => ⟨x, mono x a, b⟩, h2, fun x hx => ?_⟩
    rcases path_split hP hx with hx | ⟨y, _, _, hf⟩
    · exact h3 x hx
    · rw [hm] at hf; cases hf
  | false =>
    simp only [Bool.false_eq_true, if_false]
    refine ⟨?_, by omega, fun x hx => ?_⟩
    · by_cases hc : m ≤ s + 1
      · rw [Int.min_eq_left hc]; exact h1.imp id fun ⟨x, a, b⟩ => ⟨x, mono x a, b⟩
      · rcases s1 with s1 | ⟨y, hy, e⟩
        · omega
        · exact .inr ⟨_, path_join hP hJ hk hy hm, by rw [List.length_append]; simp; omega⟩
    · rcases path_split hP hx with hx | ⟨y, rfl, hy, _⟩
      · have := h3 x hx; omega
      · have := s3 y hy
        rw [List.length_append]; simp; omega

/-- the least number of steps so far -/
def BestW (l : List Rg) (P : List Int) (k : Nat) (m : Int) : Prop :=
  (m = 1000 ∨ ∃ j x, j < k ∧ PathTo l P j j x ∧ missB l (P.getD j 0) 10001 = false ∧ (x.length : Int) = m) ∧ (0 ≤ m ∧ m ≤ 1000) ∧ ∀ j x, j < k → PathTo l P j j x → missB l (P.getD j 0) 10001 = false → m ≤ x.length
theorem BestW.start (l : List Rg) (P : List Int) : BestW l P 0 1000 := ⟨.inl rfl, by omega, fun j x h => by omega⟩
theorem BestW.next {l : List Rg} {P : List Int} {k : Nat} {m s : Int} (h : BestW l P k m) (hs : MinPath l P k k s) : BestW l P (k + 1) (if missB l (P.getD k 0) 10001 = true then m else min m s) := by
  obtain ⟨h1, h2, h3⟩ := h
  obtain ⟨s1, s2, s3⟩ := hs
  cases hm : missB l (P.getD k 0) 10001 with
  | true =>
    simp only [if_true]
    refine ⟨h1.imp id fun ⟨j, x, a, b⟩ => ⟨j, x, by omega, b⟩, h2, fun j x hj hx hf => ?_⟩
    by_cases e : j = k
    · subst e; rw [hm] at hf; cases hf
    · exact h3 j x (by omega) hx hf
  | false =>
    simp only [Bool.false_eq_true, if_false]
    refine ⟨?_, by omega, fun j x hj hx hf => ?_⟩
    · by_cases hc : m ≤ s
      · rw [Int.min_eq_left hc]; exact h1.imp id fun ⟨j, x, a, b⟩ => ⟨j, x, by omega, b⟩
      · rcases s1 with s1 | ⟨x, hx, e⟩
        · omega
        · exact .inr ⟨k, x, by omega, hx, hm, by omega⟩
    · by_cases e : j = k
      · subst e; have := s3 x hx; omega
      · have := h3 j x (by omega) hx hf; omega

theorem hgo_mem (cl : Rg) : ∀ (ts : List Tone) (last : Int) (g : List Int), hgo cl ts last = some g → ∀ y ∈ g, ∃ t ∈ ts, y = atOf cl t.2.1
  | [], last, g, h, y, hy => by simp only [hgo, Option.some.injEq] at h; subst h; cases hy
  | t :: ts, last, g, h, y, hy => by
    simp only [hgo] at h
    by_cases h1 : t.1 ≤ last
    · rw [if_pos h1] at h
      obtain ⟨u, hu, e⟩ := hgo_mem cl ts last g h y hy
      exact ⟨u, by simp [hu], e⟩
    · rw [if_neg h1] at h
      by_cases h2 : atOf cl t.2.1 < t.1
      · rw [if_pos h2] at h; cases h
      · rw [if_neg h2] at h
        obtain ⟨g', hg', rfl⟩ := Option.map_eq_some_iff.1 h
        rcases List.mem_cons.1 hy with rfl | hy
        · exact ⟨t, by simp, rfl⟩
        · obtain ⟨u, hu, e⟩ := hgo_mem cl ts _ g' hg' y hy
          exact ⟨u, by simp [hu], e⟩
/-- the definition's answer says which numbers of steps do without the range -/
theorem without_law {l : List Rg} {r : Rg} (hg : GoodR l) (hl : 1 ≤ l.length) {m : Int} (h : BestW l (placesUp l r 10001) (placesUp l r 10001).length m) {n : Nat} (hn : n < 1000) :
    (n : Int) < m ↔ ¬ ∃ x, Right l x ∧ ¬ Hit x r ∧ x.length ≤ n := by
  obtain ⟨h1, h2, h3⟩ := h
  have hP := places_rise l r 10001
  constructor
  · rintro hlt ⟨x, hx, hxr, hxn⟩
    obtain ⟨ts, hts⟩ := exists_tones l
    have hhit : ∀ t ∈ ts, -1 < t.1 → Hit x (rT t) := fun t ht _ => hx.2 _ ((sorted_rT hts _).2 ⟨t, ht, rfl⟩)
    cases hc : hgo r ts (-1) with
    | none =>
      obtain ⟨t, ht, _, k1, k2⟩ := hgo_none r ts (-1) (sorted_good hts hg) hc
      obtain ⟨y, hy, y1, y2⟩ := hhit t ht (tones_start hts hg t ht)
      unfold rT at y1 y2; dsimp only at y1 y2
      exact hxr ⟨y, hy, by omega, by omega⟩
    | some g =>
      have hlen := (hgo_ahead r ts (-1) g x hc hx.1 (fun y hy k => hxr ⟨y, hy, k⟩) hhit).len
      obtain ⟨g1, g2, g3⟩ := hgo_some r ts (-1) g hts.2 hc
      have hgm := hgo_mem r ts (-1) g hc
      have hgP : ∀ z ∈ g, z ∈ placesUp l r 10001 := fun z hz => by
        obtain ⟨t, ht, e⟩ := hgm z hz
        have hm : rT t ∈ l := (sorted_rT hts _).2 ⟨t, ht, rfl⟩
        have hgt := hg _ hm
        have hz1 := (g1 z hz).1
        have hz2 := (g1 z hz).2
        have hz3 := atOf_le r t.2.1
        unfold rT at hgt; dsimp only at hgt
        refine mem_places.2 ⟨by omega, by omega, ?_, ?_⟩
        · unfold goodP
          by_cases c : r.1 ≤ t.2.1 ∧ t.2.1 ≤ r.2
          · have : z = r.1 - 1 := by rw [e]; unfold atOf; rw [if_pos c]
            simp [this]
          · have hz4 : z = t.2.1 := by rw [e]; unfold atOf; rw [if_neg c]
            have : (l.any fun t => z == t.2 || z == t.1) = true := List.any_eq_true.2 ⟨rT t, hm, by simp [rT, hz4]⟩
            rw [this]; simp
        · unfold outP
          by_cases c : z < r.1
          · simp [c]
          · have : r.2 < z := by omega
            simp [this]
      have hne : g ≠ [] := fun e => by
        subst e
        obtain ⟨t, ht, _⟩ := (sorted_rT hts l[0]).1 (List.getElem_mem hl)
        obtain ⟨y, hy, _⟩ := g3 t ht (tones_start hts hg t ht)
        cases hy
      obtain ⟨k, hk, e⟩ := mem_getD (hgP _ (List.getLast_mem hne))
      have hgx : g = g.dropLast ++ [(placesUp l r 10001).getD k 0] := by rw [e]; exact (List.dropLast_concat_getLast hne).symm
      have hgr : Right l g := ⟨g2, fun q hq => by
        obtain ⟨t, ht, rfl⟩ := (sorted_rT hts q).1 hq
        exact g3 t ht (tones_start hts hg t ht)⟩
      have hlast := rises_last (hgx ▸ g2)
      have hpath : PathTo l (placesUp l r 10001) k k g := by
        refine ⟨g.dropLast, hgx, g2, hgP, fun t ht _ => hgr.2 t ht, ?_⟩
        cases hd : g.dropLast with
        | nil => exact .inl rfl
        | cons a b =>
          refine .inr ?_
          have hne' : a :: b ≠ [] := by simp
          have hm : (a :: b).getLast hne' ∈ g.dropLast := by rw [hd]; exact List.getLast_mem hne'
          obtain ⟨i, hi, e'⟩ := mem_getD (hgP _ (List.dropLast_subset g hm))
          exact ⟨i, (a :: b).dropLast, rises_idx hP hi hk (by rw [e']; exact hlast _ hm), hi, by rw [e']; exact (List.dropLast_concat_getLast hne').symm⟩
      have hmiss : missB l ((placesUp l r 10001).getD k 0) 10001 = false := by
        cases hm : missB l ((placesUp l r 10001).getD k 0) 10001 with
        | false => rfl
        | true =>
          obtain ⟨t, ht, t1, t2⟩ := missB_iff.1 hm
          obtain ⟨z, hz, z1, z2⟩ := hgr.2 t ht
          rw [hgx] at hz
          rcases List.mem_append.1 hz with hz | hz
          · have := hlast z hz; omega
          · rw [List.mem_singleton.1 hz] at z1; omega
      have := h3 k g hk hpath hmiss
      omega
  · intro hno
    refine Classical.byContradiction fun hlt => hno ?_
    rcases h1 with e | ⟨j, x, hj, ⟨y, hx, r1, r2, r3, _⟩, hf, e⟩
    · omega
    · refine ⟨x, ⟨r1, fun t ht => ?_⟩, ?_, by omega⟩
      · have hgt := hg t ht
        by_cases c1 : t.2 < (placesUp l r 10001).getD j 0
        · exact r3 t ht c1
        · by_cases c2 : t.1 ≤ (placesUp l r 10001).getD j 0
          · exact ⟨_, by rw [hx]; simp, c2, by omega⟩
          · have : missB l ((placesUp l r 10001).getD j 0) 10001 = true := missB_iff.2 ⟨t, ht, by omega, by omega⟩
            rw [hf] at this; cases this
      · rintro ⟨z, hz, z1, z2⟩
        have := (mem_places.1 (r2 z hz)).2.2.2
        unfold outP at this
        simp only [Bool.or_eq_true, decide_eq_true_eq] at this
        omega
end Go.Proofs.Ytkjmeeggjmeajaa
