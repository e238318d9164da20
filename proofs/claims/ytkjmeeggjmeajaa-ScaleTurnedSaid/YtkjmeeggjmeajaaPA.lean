/- Plain: right scales and tones that are apart, in words of lists. -/
import Derived.Test.YtkjmeeggjmeajaaD6
import Derived.Test.YtkjmeeggjmeajaaC5
namespace Go.Proofs.Ytkjmeeggjmeajaa
open Go.RowKit

theorem badRise_iff (s : List Int) : badRise s (s.length - 1) = false ↔ Rises s := by
  unfold badRise Rises
  rw [List.any_eq_false]
  constructor
  · intro h
    have key : ∀ (d i : Nat) (hd : i + d + 1 < s.length), s[i] < s[i + d + 1] := by
      intro d
      induction d with
      | zero =>
        intro i hd
        have := h i (List.mem_range.2 (by omega))
        simp only [List.getD_eq_getElem?_getD, List.getElem?_eq_getElem (show i + 1 < s.length by omega), List.getElem?_eq_getElem (show i < s.length by omega), Option.getD_some, decide_eq_true_eq] at this
        simpa using this
      | succ d ih =>
        intro i hd
        have h1 := ih i (by omega)
        have := h (i + d + 1) (List.mem_range.2 (by omega))
        simp only [List.getD_eq_getElem?_getD, List.getElem?_eq_getElem (show i + d + 1 + 1 < s.length by omega), List.getElem?_eq_getElem (show i + d + 1 < s.length by omega), Option.getD_some, decide_eq_true_eq] at this
        have e : s[i + (d + 1) + 1] = s[i + d + 1 + 1] := by congr 1
        rw [e]; omega
    rw [List.pairwise_iff_getElem]
    intro i j hi hj hij
    have := key (j - i - 1) i (by omega)
    have e : s[i + (j - i - 1) + 1] = s[j] := by congr 1; omega
    rw [← e]; exact this
  · intro h i hi
    have hi' := List.mem_range.1 hi
    rw [List.pairwise_iff_getElem] at h
    have := h i (i + 1) (by omega) (by omega) (by omega)
    simp only [List.getD_eq_getElem?_getD, List.getElem?_eq_getElem (show i + 1 < s.length by omega), List.getElem?_eq_getElem (show i < s.length by omega), Option.getD_some, decide_eq_true_eq]
    omega
def InCents (s : List Int) : Prop := ∀ x ∈ s, 0 ≤ x ∧ x ≤ 10000
theorem badR_iff (s : List Int) : s.any (fun n => badR (n, n)) = false ↔ InCents s := by
  unfold InCents
  rw [List.any_eq_false]
  constructor
  · intro h x hx
    have := h x hx
    simp [badR] at this; omega
  · intro h x hx
    have := h x hx
    simp [badR]; omega
theorem checkErr_iff {l : List Rg} {s : List Int} (h0 : songErr l = 0) : checkErr l s = 0 ↔ s.length ≤ 24 ∧ InCents s ∧ Rises s := by
  rw [← badR_iff, ← badRise_iff]
  unfold checkErr
  rw [if_neg (by rw [h0]; simp)]
  by_cases h1 : 24 < s.length
  · rw [if_pos h1]; exact ⟨fun h => by omega, fun h => by omega⟩
  · rw [if_neg h1]
    cases h2 : s.any (fun n => badR (n, n)) with
    | true => simp
    | false =>
      cases h3 : badRise s (s.length - 1) with
      | true => simp
      | false => simp; omega
theorem onR_iff (r : Rg) (x : Int) : onR r x = true ↔ r.1 ≤ x ∧ x ≤ r.2 := by simp [onR]
theorem hit_iff (s : List Int) (r : Rg) : s.any (onR r) = true ↔ Hit s r := by
  rw [List.any_eq_true]; unfold Hit
  exact ⟨fun ⟨x, h1, h2⟩ => ⟨x, h1, (onR_iff r x).1 h2⟩, fun ⟨x, h1, h2⟩ => ⟨x, h1, (onR_iff r x).2 h2⟩⟩
theorem isMet_all (l : List Rg) (s : List Int) : (List.range l.length).all (isMet l s) = true ↔ ∀ r ∈ l, Hit s r := by
  rw [List.all_eq_true]
  constructor
  · intro h r hr
    obtain ⟨i, hi, rfl⟩ := List.mem_iff_getElem.1 hr
    have := h i (List.mem_range.2 hi)
    rw [isMet_get hi rfl] at this
    exact (hit_iff s _).1 this
  · intro h i hi
    have hi' := List.mem_range.1 hi
    rw [isMet_get hi' rfl]
    exact (hit_iff s _).2 (h _ (List.getElem_mem hi'))
theorem scaleErr_iff {l : List Rg} {s : List Int} (h0 : songErr l = 0) : scaleErr l s = 0 ↔ (s.length ≤ 24 ∧ InCents s ∧ Rises s) ∧ ∀ r ∈ l, Hit s r := by
  rw [← checkErr_iff h0, ← isMet_all]
  unfold scaleErr
  by_cases h1 : checkErr l s = 0
  · rw [if_neg (by simpa using h1)]
    cases h2 : (List.range l.length).all (isMet l s) <;> simp [h1]
  · rw [if_pos h1]; exact ⟨fun h => absurd h h1, fun h => absurd h.1 h1⟩
/-- two ranges have no number in common -/
def ApartR (a b : Rg) : Prop := (bothR a b).2 < (bothR a b).1
theorem not_both {a b : Rg} (h : ApartR a b) {x : Int} (h1 : a.1 ≤ x ∧ x ≤ a.2) (h2 : b.1 ≤ x ∧ x ≤ b.2) : False := by
  unfold ApartR bothR at h; dsimp only at h; omega
theorem rangeAny_false {f : Nat → Bool} {n : Nat} : (List.range n).any f = false ↔ ∀ k, k < n → f k = false := by
  rw [List.any_eq_false]
  exact ⟨fun h k hk => by have := h k (List.mem_range.2 hk); simpa using this, fun h k hk => by rw [h k (List.mem_range.1 hk)]; simp⟩
theorem rising_iff (n : Int) : ∀ (t : List Int) (a : Int), risingFrom a n t = true ↔ Rises t ∧ ∀ x ∈ t, a < x ∧ x < n
  | [], a => by simp [risingFrom, Rises]
  | x :: t, a => by
    simp only [risingFrom, Bool.and_eq_true, decide_eq_true_eq, rising_iff n t x]
    unfold Rises
    rw [List.pairwise_cons]
    constructor
    · rintro ⟨⟨h1, h2⟩, h3, h4⟩
      refine ⟨⟨fun y hy => (h4 y hy).1, h3⟩, fun y hy => ?_⟩
      rcases List.mem_cons.1 hy with rfl | hy
      · exact ⟨h1, h2⟩
      · have := h4 y hy; omega
    · rintro ⟨⟨h1, h2⟩, h3⟩
      exact ⟨⟨(h3 x (by simp)).1, (h3 x (by simp)).2⟩, h2, fun y hy => ⟨h1 y hy, (h3 y (by simp [hy])).2⟩⟩
theorem apartErr_iff {l : List Rg} {t : List Int} (h0 : songErr l = 0) : apartErr l t = 0 ↔ Rises t ∧ (∀ x ∈ t, 0 ≤ x ∧ x < l.length) ∧ t.Pairwise fun a b => ApartR (atL l b) (atL l a) := by
  unfold apartErr
  rw [if_neg (by rw [h0]; simp)]
  have hr := rising_iff l.length t (-1)
  cases h1 : risingFrom (-1) l.length t with
  | false =>
    rw [h1] at hr
    simp only [if_true]
    constructor
    · intro h; omega
    · rintro ⟨a, b, _⟩
      have := hr.2 ⟨a, fun x hx => by have := b x hx; omega⟩
      cases this
  | true =>
    obtain ⟨ha, hb⟩ := hr.1 h1
    rw [if_neg (by simp)]
    have hp : pairAny (meetsAt l t) t.length = false ↔ t.Pairwise fun a b => ApartR (atL l b) (atL l a) := by
      unfold pairAny
      rw [rangeAny_false, List.pairwise_iff_getElem]
      have hm : ∀ i k (hi : i < t.length) (hk : k < t.length), meetsAt l t k i = false ↔ ApartR (atL l t[k]) (atL l t[i]) := by
        intro i k hi hk
        unfold meetsAt ApartR atL
        simp only [List.getD_eq_getElem?_getD, List.getElem?_eq_getElem hk, List.getElem?_eq_getElem hi, Option.getD_some, decide_eq_false_iff_not, Int.not_le]
      constructor
      · intro h i k hi hk hik
        exact (hm i k hi hk).1 (rangeAny_false.1 (h k hk) i hik)
      · intro h k hk
        exact rangeAny_false.2 fun i hi => (hm i k (by omega) hk).2 (h i k (by omega) hk hi)
    cases h2 : pairAny (meetsAt l t) t.length with
    | true => rw [h2] at hp; simp only [if_true]; exact ⟨fun h => by omega, fun h => by have := hp.2 h.2.2; cases this⟩
    | false => rw [h2] at hp; exact ⟨fun _ => ⟨ha, fun x hx => by have := hb x hx; omega, hp.1 rfl⟩, fun _ => rfl⟩
/-- ranges that are apart, in pairs: no more than the steps that meet them all -/
theorem apart_le : ∀ (c : List Rg) (s : List Int), c.Pairwise ApartR → (∀ r ∈ c, Hit s r) → c.length ≤ s.length
  | [], s, _, _ => by simp
  | a :: c, s, hc, hh => by
    obtain ⟨x, hx, h1⟩ := hh a (by simp)
    rw [List.pairwise_cons] at hc
    have := apart_le c (s.erase x) hc.2 (fun r hr => by
      obtain ⟨y, hy, k1⟩ := hh r (by simp [hr])
      have hne : y ≠ x := fun e => by subst e; exact not_both (hc.1 r hr) h1 k1
      exact ⟨y, (List.mem_erase_of_ne hne).2 hy, k1⟩)
    rw [List.length_erase_of_mem hx] at this
    have := List.length_pos_of_mem hx
    simp only [List.length_cons]; omega

theorem song_len24 {l : List Rg} (h : songErr l = 0) : 1 ≤ l.length ∧ l.length ≤ 24 := by
  unfold songErr at h
  by_cases h1 : l.length < 1 ∨ 24 < l.length
  · rw [if_pos h1] at h; omega
  · omega
theorem ts_len {l : List Rg} {ts : List Tone} (h : Sorted l ts) : ts.length = l.length := by
  rw [h.1.length_eq]; simp [tonesUp]
theorem hiAt_scale {l : List Rg} {ts : List Tone} (h0 : songErr l = 0) (h : Sorted l ts) : scaleErr l (hiAt ts) = 0 := by
  have hg := song_GoodR h0
  have hG := sorted_good h hg
  rw [scaleErr_iff h0]
  refine ⟨⟨?_, hiAt_good h hg, greedy_rises hG _⟩, fun r hr => ?_⟩
  · unfold hiAt; rw [List.length_map]
    have h1 := (greedy_sub ts (-1)).length_le
    rw [ts_len h] at h1
    have := song_len24 h0; omega
  · obtain ⟨t, ht, rfl⟩ := (sorted_rT h r).1 hr
    obtain ⟨g, hgm, k⟩ := greedy_hits ts (-1) hG h.2 t ht (by have := (hg (rT t) hr).1; unfold rT at this; dsimp only at this; omega)
    exact ⟨g.2.1, List.mem_map.2 ⟨g, hgm, rfl⟩, k⟩
def namesAt (ts : List Tone) : List Int := (greedy ts (-1)).map (·.2.2)
theorem tonesUp_names (l : List Rg) : ((tonesUp l l.length).map (·.2.2)).Pairwise (· ≠ ·) := by
  unfold tonesUp
  rw [List.map_map, List.pairwise_map]
  exact List.pairwise_lt_range.imp (fun {a b} h => by simp only [Function.comp]; omega)
theorem names_nodup {l : List Rg} {ts : List Tone} (h : Sorted l ts) : (namesAt ts).Pairwise (· ≠ ·) := by
  have h1 : (ts.map (·.2.2)).Pairwise (· ≠ ·) := ((h.1.map (·.2.2)).pairwise_iff (fun {a b} h => h.symm)).2 (tonesUp_names l)
  exact List.Pairwise.sublist ((greedy_sub ts (-1)).map _) h1
theorem apartR_symm {a b : Rg} (h : ApartR a b) : ApartR b a := by unfold ApartR bothR at *; dsimp only at *; omega
theorem sorted_atL {l : List Rg} {ts : List Tone} (h : Sorted l ts) {t : Tone} (ht : t ∈ ts) : atL l t.2.2 = rT t ∧ 0 ≤ t.2.2 ∧ t.2.2 < l.length := by
  obtain ⟨i, hi, rfl⟩ := (sorted_mem h t).1 ht
  exact ⟨by simp [atL, rT, List.getD_eq_getElem?_getD, hi], by simp, by simpa using hi⟩
theorem sortI_perm (l : List Int) : (sortI l).Perm l := List.mergeSort_perm _ _
theorem sortI_le (l : List Int) : (sortI l).Pairwise (· ≤ ·) := by
  have := List.pairwise_mergeSort (le := fun x y : Int => decide (x ≤ y)) (by intro a b c h1 h2; simp at *; omega) (by intro a b; simp; omega) l
  exact this.imp (fun {a b} h => by simpa using h)
theorem names_apart {l : List Rg} {ts : List Tone} (h0 : songErr l = 0) (h : Sorted l ts) : apartErr l (sortI (namesAt ts)) = 0 := by
  have hg := song_GoodR h0
  have hG := sorted_good h hg
  rw [apartErr_iff h0]
  refine ⟨?_, fun x hx => ?_, ?_⟩
  · have h1 := sortI_le (namesAt ts)
    have h2 : (sortI (namesAt ts)).Pairwise (· ≠ ·) := ((sortI_perm _).pairwise_iff (fun {a b} h => h.symm)).2 (names_nodup h)
    exact (h1.and h2).imp (fun {a b} h => by omega)
  · obtain ⟨t, ht, rfl⟩ := List.mem_map.1 ((sortI_perm _).subset hx)
    exact (sorted_atL h ((greedy_sub ts _).subset ht)).2
  · refine ((sortI_perm (namesAt ts)).pairwise_iff (fun {a b} h => apartR_symm h)).2 ?_
    unfold namesAt
    rw [List.pairwise_map]
    refine (List.Pairwise.and_mem.1 (greedy_chain ts (-1) hG)).imp ?_
    rintro a b ⟨ha, hb, hab⟩
    have ha' := (greedy_sub ts (-1)).subset ha
    have hb' := (greedy_sub ts (-1)).subset hb
    rw [(sorted_atL h ha').1, (sorted_atL h hb').1]
    have h1 := hG a ha'
    have h2 := hG b hb'
    unfold ApartR bothR rT; dsimp only; omega
theorem names_len (ts : List Tone) : (sortI (namesAt ts)).length = (hiAt ts).length := by
  rw [(sortI_perm _).length_eq]; simp [namesAt, hiAt]
theorem short_hi {l : List Rg} {ts : List Tone} {n : Nat} (h0 : songErr l = 0) (h : Sorted l ts) (hn : ShortIs l n) : n = (hiAt ts).length := by
  have := (greedy_short h (song_GoodR h0)).unique hn
  unfold hiAt; rw [List.length_map]; exact this.symm
end Go.Proofs.Ytkjmeeggjmeajaa
