/- Plain law: greedy from below; a short scale has as many steps as there are tones apart. -/
import Derived.Test.YtkjmeeggjmeajaaC2
namespace Go.Proofs.Ytkjmeeggjmeajaa

abbrev Rg := Int × Int
def rT (t : Tone) : Rg := (t.1, t.2.1)
def Hit (s : List Int) (r : Rg) : Prop := ∃ x ∈ s, r.1 ≤ x ∧ x ≤ r.2
def Chain (c : List Rg) : Prop := c.Pairwise fun a b => a.2 < b.1
def Rises (s : List Int) : Prop := s.Pairwise (· < ·)

theorem chain_le : ∀ (c : List Rg) (s : List Int), Chain c → Rises s → (∀ r ∈ c, Hit s r) → c.length ≤ s.length
  | [], s, _, _, _ => by simp
  | a :: c, s, hc, hs, hh => by
    obtain ⟨x, hx, h1, h2⟩ := hh a (by simp)
    obtain ⟨p, q, rfl⟩ := List.append_of_mem hx
    unfold Chain at hc
    rw [List.pairwise_cons] at hc
    unfold Rises at hs
    rw [List.pairwise_append, List.pairwise_cons] at hs
    have := chain_le c q hc.2 hs.2.1.2 (fun r hr => by
      obtain ⟨y, hy, k1, k2⟩ := hh r (by simp [hr])
      have h3 := hc.1 r hr
      refine ⟨y, ?_, k1, k2⟩
      simp only [List.mem_append, List.mem_cons] at hy
      rcases hy with hy | rfl | hy
      · have := hs.2.2 y hy x (by simp); omega
      · omega
      · exact hy)
    simp only [List.length_append, List.length_cons]; omega

/-- n is how many steps a short scale of these ranges has -/
def ShortIs (l : List Rg) (n : Nat) : Prop := (∃ c : List Rg, (∀ r ∈ c, r ∈ l) ∧ Chain c ∧ c.length = n) ∧ ∃ s : List Int, Rises s ∧ (∀ r ∈ l, Hit s r) ∧ s.length = n
theorem ShortIs.unique {l : List Rg} {n m : Nat} (h : ShortIs l n) (k : ShortIs l m) : n = m := by
  obtain ⟨⟨c, c1, c2, c3⟩, s, s1, s2, s3⟩ := h
  obtain ⟨⟨d, d1, d2, d3⟩, u, u1, u2, u3⟩ := k
  have := chain_le c u c2 u1 (fun r hr => u2 r (c1 r hr))
  have := chain_le d s d2 s1 (fun r hr => s2 r (d1 r hr))
  omega

def greedy : List Tone → Int → List Tone
  | [], _ => []
  | t :: ts, last => if t.1 ≤ last then greedy ts last else t :: greedy ts t.2.1
def Good (ts : List Tone) : Prop := ∀ t ∈ ts, t.1 ≤ t.2.1
theorem greedy_sub : ∀ (ts : List Tone) (last : Int), (greedy ts last).Sublist ts
  | [], _ => by simp [greedy]
  | t :: ts, last => by
    simp only [greedy]
    split
    · exact (greedy_sub ts last).cons _
    · exact (greedy_sub ts _).cons_cons _
theorem greedy_from : ∀ (ts : List Tone) (last : Int), Good ts → ∀ t ∈ greedy ts last, last < t.1
  | [], _, _, t, h => by simp [greedy] at h
  | u :: ts, last, hg, t, h => by
    have hg' : Good ts := fun x hx => hg x (by simp [hx])
    simp only [greedy] at h
    split at h
    · exact greedy_from ts last hg' t h
    · have h1 := hg u (by simp)
      rcases List.mem_cons.1 h with rfl | h
      · omega
      · have := greedy_from ts _ hg' t h; omega
theorem greedy_chain : ∀ (ts : List Tone) (last : Int), Good ts → (greedy ts last).Pairwise fun a b => a.2.1 < b.1
  | [], _, _ => by simp [greedy]
  | u :: ts, last, hg => by
    have hg' : Good ts := fun x hx => hg x (by simp [hx])
    simp only [greedy]
    split
    · exact greedy_chain ts last hg'
    · exact List.pairwise_cons.2 ⟨fun b hb => greedy_from ts _ hg' b hb, greedy_chain ts _ hg'⟩
theorem greedy_hits : ∀ (ts : List Tone) (last : Int), Good ts → ByHi ts → ∀ t ∈ ts, last < t.1 → ∃ g ∈ greedy ts last, t.1 ≤ g.2.1 ∧ g.2.1 ≤ t.2.1
  | [], _, _, _, t, h, _ => by simp at h
  | u :: ts, last, hg, hb, t, h, hl => by
    have hg' : Good ts := fun x hx => hg x (by simp [hx])
    unfold ByHi at hb
    rw [List.pairwise_cons] at hb
    simp only [greedy]
    split
    · rename_i hu
      rcases List.mem_cons.1 h with rfl | h
      · omega
      · exact greedy_hits ts last hg' hb.2 t h hl
    · rcases List.mem_cons.1 h with rfl | h
      · exact ⟨_, by simp, hg _ (by simp), Int.le_refl _⟩
      · by_cases h2 : u.2.1 < t.1
        · obtain ⟨g, hgm, k⟩ := greedy_hits ts u.2.1 hg' hb.2 t h h2
          exact ⟨g, by simp [hgm], k⟩
        · exact ⟨u, by simp, by omega, hb.1 t h⟩
theorem atOf_open (hi : Int) : atOf (1, 0) hi = hi := by unfold atOf; rw [if_neg (by dsimp only; omega)]
theorem highGo_open : ∀ (ts : List Tone) (s n : List Int) (last : Int), Good ts → highGo (1, 0) ts s n last = (s ++ (greedy ts last).map (·.2.1), n ++ (greedy ts last).map (·.2.2))
  | [], s, n, _, _ => by simp [highGo, greedy]
  | t :: ts, s, n, last, hg => by
    have hg' : Good ts := fun x hx => hg x (by simp [hx])
    have h1 := hg t (by simp)
    simp only [highGo, greedy, atOf_open]
    split
    · exact highGo_open ts s n last hg'
    · rw [if_neg (by omega), highGo_open ts _ _ _ hg']; simp

theorem sorted_mem {l : List Rg} {ts : List Tone} (h : Sorted l ts) (t : Tone) : t ∈ ts ↔ ∃ (i : Nat) (hi : i < l.length), t = (l[i].1, l[i].2, (i : Int)) := by
  rw [h.1.mem_iff]
  constructor
  · exact mem_tonesUp
  · rintro ⟨i, hi, rfl⟩
    simp only [tonesUp, List.mem_map, List.mem_range]; exact ⟨i, hi, by simp [List.getD_eq_getElem?_getD, hi]⟩
theorem sorted_rT {l : List Rg} {ts : List Tone} (h : Sorted l ts) (r : Rg) : r ∈ l ↔ ∃ t ∈ ts, rT t = r := by
  constructor
  · intro hr
    obtain ⟨i, hi, rfl⟩ := List.mem_iff_getElem.1 hr
    exact ⟨_, (sorted_mem h _).2 ⟨i, hi, rfl⟩, rfl⟩
  · rintro ⟨t, ht, rfl⟩
    obtain ⟨i, hi, rfl⟩ := (sorted_mem h t).1 ht
    exact List.getElem_mem hi
/-- all ranges are valid -/
def GoodR (l : List Rg) : Prop := ∀ r ∈ l, 0 ≤ r.1 ∧ r.1 ≤ r.2 ∧ r.2 ≤ 10000
theorem sorted_good {l : List Rg} {ts : List Tone} (h : Sorted l ts) (hg : GoodR l) : Good ts := fun t ht => (hg (rT t) ((sorted_rT h _).2 ⟨t, ht, rfl⟩)).2.1
theorem greedy_rises {ts : List Tone} (hg : Good ts) (last : Int) : Rises ((greedy ts last).map (·.2.1)) := by
  unfold Rises
  rw [List.pairwise_map]
  refine (List.Pairwise.and_mem.1 (greedy_chain ts last hg)).imp ?_
  rintro a b ⟨_, hb, h⟩
  have := hg b ((greedy_sub ts last).subset hb)
  omega
theorem greedy_short {l : List Rg} {ts : List Tone} (h : Sorted l ts) (hg : GoodR l) : ShortIs l (greedy ts (-1)).length := by
  have hG := sorted_good h hg
  refine ⟨⟨(greedy ts (-1)).map rT, ?_, ?_, by simp⟩, (greedy ts (-1)).map (·.2.1), greedy_rises hG _, ?_, by simp⟩
  · intro r hr
    obtain ⟨t, ht, rfl⟩ := List.mem_map.1 hr
    exact (sorted_rT h _).2 ⟨t, (greedy_sub ts _).subset ht, rfl⟩
  · unfold Chain; rw [List.pairwise_map]; exact greedy_chain ts _ hG
  · intro r hr
    obtain ⟨t, ht, rfl⟩ := (sorted_rT h r).1 hr
    obtain ⟨g, hgm, k⟩ := greedy_hits ts (-1) hG h.2 t ht (by have := (hg (rT t) hr).1; unfold rT at this; dsimp only at this; omega)
    exact ⟨g.2.1, List.mem_map.2 ⟨g, hgm, rfl⟩, k⟩

theorem turnedR_twice (r : Rg) : turnedR (turnedR r) = r := by obtain ⟨a, b⟩ := r; simp only [turnedR, Prod.mk.injEq]; omega
theorem ShortIs.turned {l : List Rg} {n : Nat} (h : ShortIs l n) : ShortIs (l.map turnedR) n := by
  obtain ⟨⟨c, c1, c2, c3⟩, s, s1, s2, s3⟩ := h
  refine ⟨⟨(c.map turnedR).reverse, ?_, ?_, by simp [c3]⟩, (s.map fun x => 10000 - x).reverse, ?_, ?_, by simp [s3]⟩
  · intro r hr
    obtain ⟨x, hx, rfl⟩ := List.mem_map.1 (List.mem_reverse.1 hr)
    exact List.mem_map.2 ⟨x, c1 x hx, rfl⟩
  · unfold Chain
    rw [List.pairwise_reverse, List.pairwise_map]
    exact c2.imp fun {a b} h => by simp only [turnedR]; omega
  · unfold Rises
    rw [List.pairwise_reverse, List.pairwise_map]
    exact s1.imp fun {a b} h => by omega
  · intro r hr
    obtain ⟨x, hx, rfl⟩ := List.mem_map.1 hr
    obtain ⟨y, hy, k1, k2⟩ := s2 x hx
    exact ⟨10000 - y, List.mem_reverse.2 (List.mem_map.2 ⟨y, hy, rfl⟩), by simp only [turnedR]; omega, by simp only [turnedR]; omega⟩
theorem GoodR.turned {l : List Rg} (h : GoodR l) : GoodR (l.map turnedR) := fun r hr => by
  obtain ⟨x, hx, rfl⟩ := List.mem_map.1 hr
  have := h x hx
  simp only [turnedR]; omega
end Go.Proofs.Ytkjmeeggjmeajaa
