/- Plain law: longest chains by rounds (ref Below, Short). -/
import Derived.Test.YtkjmeeggjmeajaaPL1
namespace Go.Proofs.Ytkjmeeggjmeajaa

/-- there are m ranges of l, each wholly above the one before, and r is the last one -/
def EndsAt (l : List Rg) (r : Rg) (m : Nat) : Prop := ∃ c : List Rg, (∀ x ∈ c, x ∈ l) ∧ Chain (c ++ [r]) ∧ c.length + 1 = m
theorem ends_one (l : List Rg) (r : Rg) : EndsAt l r 1 := ⟨[], by simp, by simp [Chain], rfl⟩
theorem ends_next {l : List Rg} {x r : Rg} {m : Nat} (hx : x ∈ l) (hv : x.1 ≤ x.2) (h : x.2 < r.1) (he : EndsAt l x m) : EndsAt l r (m + 1) := by
  obtain ⟨c, h1, h2, h3⟩ := he
  refine ⟨c ++ [x], ?_, ?_, by simp [h3]⟩
  · intro y hy
    rcases List.mem_append.1 hy with hy | hy
    · exact h1 y hy
    · rw [List.mem_singleton.1 hy]; exact hx
  · unfold Chain at h2 ⊢
    rw [List.pairwise_append]
    refine ⟨h2, by simp, fun a ha b hb => ?_⟩
    rw [List.mem_singleton.1 hb]
    rcases List.mem_append.1 ha with ha | ha
    · have := (List.pairwise_append.1 h2).2.2 a ha x (by simp); omega
    · rw [List.mem_singleton.1 ha]; exact h
theorem ends_prev {l : List Rg} {r : Rg} {m : Nat} (hm : 1 ≤ m) (he : EndsAt l r (m + 1)) : ∃ x ∈ l, x.2 < r.1 ∧ EndsAt l x m := by
  obtain ⟨c, h1, h2, h3⟩ := he
  obtain ⟨c', x, rfl⟩ : ∃ c' x, c = c' ++ [x] := ⟨c.dropLast, c.getLast (by intro e; subst e; simp at h3; omega), (List.dropLast_concat_getLast _).symm⟩
  unfold Chain at h2
  rw [List.pairwise_append] at h2
  refine ⟨x, h1 x (by simp), h2.2.2 x (by simp) r (by simp), c', fun y hy => h1 y (by simp [hy]), h2.1, by simp at h3; omega⟩
theorem ends_pos {l : List Rg} {r : Rg} {m : Nat} (he : EndsAt l r m) : 1 ≤ m := by obtain ⟨c, _, _, h⟩ := he; omega
theorem ends_chain {l : List Rg} {r : Rg} {m : Nat} (hr : r ∈ l) (he : EndsAt l r m) : ∃ c : List Rg, (∀ x ∈ c, x ∈ l) ∧ Chain c ∧ c.length = m := by
  obtain ⟨c, h1, h2, h3⟩ := he
  refine ⟨c ++ [r], ?_, h2, by simp [h3]⟩
  intro y hy
  rcases List.mem_append.1 hy with hy | hy
  · exact h1 y hy
  · rw [List.mem_singleton.1 hy]; exact hr
theorem chain_ends {l : List Rg} {c : List Rg} {m : Nat} (h1 : ∀ x ∈ c, x ∈ l) (h2 : Chain c) (h3 : c.length = m) (hm : 1 ≤ m) : ∃ r ∈ l, EndsAt l r m := by
  obtain ⟨c', x, rfl⟩ : ∃ c' x, c = c' ++ [x] := ⟨c.dropLast, c.getLast (by intro e; subst e; simp at h3; omega), (List.dropLast_concat_getLast _).symm⟩
  exact ⟨x, h1 x (by simp), c', fun y hy => h1 y (by simp [hy]), h2, by simpa using h3⟩

theorem exists_sorted (l : List Rg) : ∃ ts, Sorted l ts := by
  refine ⟨(tonesUp l l.length).mergeSort (fun a b => decide (a.2.1 ≤ b.2.1)), List.mergeSort_perm _ _, ?_⟩
  have := List.pairwise_mergeSort (le := fun a b : Tone => decide (a.2.1 ≤ b.2.1)) (by intro a b c h1 h2; simp at *; omega) (by intro a b; simp; omega) (tonesUp l l.length)
  unfold ByHi
  exact this.imp (by intro a b h; simpa using h)
theorem exists_short {l : List Rg} (hg : GoodR l) : ∃ n, ShortIs l n ∧ n ≤ l.length := by
  obtain ⟨ts, h⟩ := exists_sorted l
  refine ⟨_, greedy_short h hg, ?_⟩
  have := (greedy_sub ts (-1)).length_le
  have := perm_len h.1
  omega
theorem ends_le {l : List Rg} (hg : GoodR l) {r : Rg} (hr : r ∈ l) {m : Nat} (he : EndsAt l r m) : m ≤ l.length := by
  obtain ⟨n, ⟨_, s, s1, s2, s3⟩, hn⟩ := exists_short hg
  obtain ⟨c, h1, h2, h3⟩ := ends_chain hr he
  have := chain_le c s h2 s1 (fun r hr => s2 r (h1 r hr))
  omega

/-- what the list of numbers says in round r, the first i of which are done -/
structure BUp (l : List Rg) (r i : Nat) (o : List Int) : Prop where
  len : o.length = l.length
  some : ∀ (j : Nat) (hj : j < l.length), o.getD j 0 = 0 ∨ ∃ m : Nat, o.getD j 0 = m ∧ EndsAt l l[j] m
  all : ∀ (j : Nat) (hj : j < l.length) (m : Nat), EndsAt l l[j] m → ((min m (r + if j < i then 1 else 0) : Nat) : Int) ≤ o.getD j 0
theorem getD_set_same {o : List Int} {i : Nat} (h : i < o.length) (x : Int) : (o.set i x).getD i 0 = x := by simp [List.getD_eq_getElem?_getD, h]
theorem getD_set_other {o : List Int} {i j : Nat} (h : i ≠ j) (x : Int) : (o.set i x).getD j 0 = o.getD j 0 := by simp [List.getD_eq_getElem?_getD, h]
theorem BUp.start (l : List Rg) : BUp l 0 0 (List.replicate l.length 0) where
  len := by simp
  some j hj := .inl (by simp [List.getD_eq_getElem?_getD, hj])
  all j hj m _ := by simp [List.getD_eq_getElem?_getD, hj]
theorem BUp.round {l : List Rg} {r : Nat} {o : List Int} (h : BUp l r l.length o) : BUp l (r + 1) 0 o where
  len := h.len
  some := h.some
  all j hj m he := by have := h.all j hj m he; rw [if_pos hj] at this; simpa using this
theorem BUp.nonneg {l : List Rg} {r i : Nat} {o : List Int} (h : BUp l r i o) {j : Nat} (hj : j < l.length) : 0 ≤ o.getD j 0 := by
  rcases h.some j hj with e | ⟨m, e, _⟩ <;> omega
theorem BUp.le {l : List Rg} {r i : Nat} {o : List Int} (hg : GoodR l) (h : BUp l r i o) {j : Nat} (hj : j < l.length) : o.getD j 0 ≤ l.length := by
  rcases h.some j hj with e | ⟨m, e, he⟩
  · omega
  · have := ends_le hg (List.getElem_mem hj) he; omega

/-- within a tone's own turn: the first k others are seen -/
structure BIn (l : List Rg) (r i k : Nat) (o : List Int) : Prop where
  up : BUp l r i o
  one : 1 ≤ o.getD i 0
  seen : ∀ (j : Nat) (hj : j < l.length) (hi : i < l.length), j < k → (l[j]).2 < (l[i]).1 → o.getD j 0 + 1 ≤ o.getD i 0
theorem BUp.set {l : List Rg} {r i : Nat} {o : List Int} (h : BUp l r i o) (hi : i < l.length) {x : Int} (hx : o.getD i 0 ≤ x) (hs : ∃ m : Nat, x = m ∧ EndsAt l l[i] m) : BUp l r i (o.set i x) where
  len := by simp [h.len]
  some j hj := by
    by_cases e : i = j
    · subst e; rw [getD_set_same (by rw [h.len]; exact hi)]; exact .inr hs
    · rw [getD_set_other e]; exact h.some j hj
  all j hj m he := by
    by_cases e : i = j
    · subst e; rw [getD_set_same (by rw [h.len]; exact hi)]; have := h.all i hi m he; omega
    · rw [getD_set_other e]; exact h.all j hj m he
theorem BUp.into {l : List Rg} {r i : Nat} {o : List Int} (h : BUp l r i o) (hi : i < l.length) : BIn l r i 0 (o.set i (max (o.getD i 0) 1)) where
  up := h.set hi (by omega) (by
    rcases h.some i hi with e | ⟨m, e, he⟩
    · exact ⟨1, by omega, ends_one _ _⟩
    · have := ends_pos he; exact ⟨m, by omega, he⟩)
  one := by rw [getD_set_same (by rw [h.len]; exact hi)]; omega
  seen j hj hi' hk := by omega
theorem BIn.skip {l : List Rg} {r i k : Nat} {o : List Int} (h : BIn l r i k o) (hk : k < l.length) (hi : i < l.length) (hn : ¬ (l[k]).2 < (l[i]).1) : BIn l r i (k + 1) o where
  up := h.up
  one := h.one
  seen j hj hi' hjk hlt := by
    by_cases e : j = k
    · subst e; exact absurd hlt hn
    · exact h.seen j hj hi' (by omega) hlt
theorem BIn.take {l : List Rg} {r i k : Nat} {o : List Int} (hg : GoodR l) (h : BIn l r i k o) (hk : k < l.length) (hi : i < l.length) (hlt : (l[k]).2 < (l[i]).1) : BIn l r i (k + 1) (o.set i (max (o.getD i 0) (o.getD k 0 + 1))) := by
  have hvk := hg _ (List.getElem_mem hk)
  have hvi := hg _ (List.getElem_mem hi)
  have hne : i ≠ k := by intro e; subst e; omega
  have hio : i < o.length := by rw [h.up.len]; exact hi
  constructor
  · refine h.up.set hi (by omega) ?_
    by_cases hc : o.getD k 0 + 1 ≤ o.getD i 0
    · rcases h.up.some i hi with e | ⟨m, e, he⟩
      · have := h.one; omega
      · exact ⟨m, by omega, he⟩
    · rcases h.up.some k hk with e | ⟨m, e, he⟩
      · exact ⟨1, by have := h.one; omega, ends_one _ _⟩
      · exact ⟨m + 1, by omega, ends_next (List.getElem_mem hk) hvk.2.1 hlt he⟩
  · rw [getD_set_same hio]; have := h.one; omega
  · intro j hj hi' hjk hjlt
    rw [getD_set_same hio]
    have hvj := hg _ (List.getElem_mem hj)
    have hij : i ≠ j := by intro e; subst e; omega
    rw [getD_set_other hij]
    by_cases e : j = k
    · subst e; omega
    · have := h.seen j hj hi' (by omega) hjlt; omega
theorem BIn.done {l : List Rg} {r i : Nat} {o : List Int} (h : BIn l r i l.length o) (hi : i < l.length) : BUp l r (i + 1) o where
  len := h.up.len
  some := h.up.some
  all j hj m he := by
    by_cases e : j = i
    · subst e
      rw [if_pos (by omega)]
      match m, he with
      | 0, he => have := ends_pos he; omega
      | 1, _ => have := h.one; omega
      | m + 2, he =>
        obtain ⟨x, hx, hlt, hx2⟩ := ends_prev (m := m + 1) (by omega) he
        obtain ⟨p, hp, rfl⟩ := List.mem_iff_getElem.1 hx
        have h1 := h.seen p hp hj (by omega) hlt
        have h2 := h.up.all p hp (m + 1) hx2
        omega
    · have := h.up.all j hj m he
      by_cases hji : j < i
      · rw [if_pos hji] at this; rw [if_pos (by omega)]; exact this
      · rw [if_neg hji] at this; rw [if_neg (by omega)]; exact this

/-- what Below hands back: each number is that of the longest chain that ends there -/
def BelowIs (l : List Rg) (o : List Int) : Prop := o.length = l.length ∧ ∀ (j : Nat) (hj : j < l.length), ∃ m : Nat, o.getD j 0 = m ∧ EndsAt l l[j] m ∧ ∀ k, EndsAt l l[j] k → k ≤ m
theorem BUp.all_done {l : List Rg} {o : List Int} (hg : GoodR l) (h : BUp l l.length 0 o) : BelowIs l o := by
  refine ⟨h.len, fun j hj => ?_⟩
  have h1 := h.all j hj 1 (ends_one _ _)
  rcases h.some j hj with e | ⟨m, e, he⟩
  · rw [e, if_neg (by omega)] at h1; omega
  · refine ⟨m, e, he, fun k hk => ?_⟩
    have h2 := h.all j hj k hk
    have h3 := ends_le hg (List.getElem_mem hj) hk
    rw [if_neg (by omega)] at h2
    omega
end Go.Proofs.Ytkjmeeggjmeajaa
