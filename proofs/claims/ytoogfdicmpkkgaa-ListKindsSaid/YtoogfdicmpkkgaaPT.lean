/- Plain: a sheet from which the links of an item are struck, one after another. -/
import Derived.Test.YtoogfdicmpkkgaaPI
namespace Go.Proofs.Ytoogfdicmpkkgaa
open Match

/-- is there one from i on -/
def anyFrom (p : Nat → Bool) (n i : Nat) : Bool := (List.range n).any fun j => decide (i ≤ j) && p j
theorem anyFrom_iff {p : Nat → Bool} {n i : Nat} : anyFrom p n i = true ↔ ∃ j, i ≤ j ∧ j < n ∧ p j = true := by
  unfold anyFrom
  simp only [List.any_eq_true, List.mem_range, Bool.and_eq_true, decide_eq_true_eq]
  constructor
  · rintro ⟨j, h1, h2, h3⟩; exact ⟨j, h2, h1, h3⟩
  · rintro ⟨j, h1, h2, h3⟩; exact ⟨j, h2, h1, h3⟩
theorem anyFrom_step {p : Nat → Bool} {n i : Nat} (hi : i < n) : anyFrom p n i = (p i || anyFrom p n (i + 1)) := by
  rw [Bool.eq_iff_iff, Bool.or_eq_true, anyFrom_iff, anyFrom_iff]
  constructor
  · rintro ⟨j, h1, h2, h3⟩
    by_cases e : j = i
    · subst e; exact .inl h3
    · exact .inr ⟨j, by omega, h2, h3⟩
  · rintro (h | ⟨j, h1, h2, h3⟩)
    · exact ⟨i, Nat.le_refl _, hi, h⟩
    · exact ⟨j, by omega, h2, h3⟩
theorem anyFrom_end (p : Nat → Bool) (n : Nat) : anyFrom p n n = false := by
  rw [Bool.eq_false_iff]
  intro h
  obtain ⟨j, h1, h2, _⟩ := anyFrom_iff.1 h
  omega
/-- what is left of a sheet when the links of an item, from i on, are struck, but for the known ones -/
structure RestIs (s : Sh) (right : Bool) (it i : Nat) (s' : Sh) : Prop where
  valid : Sheet s'.L s'.R s'.l s'.t
  pre : s'.l.take i = s.l.take i
  le : i ≤ s.l.length
  pairs : pairsK s' = pairsK s
  len : s'.t.length = s.t.length
  mem : ∀ x, x ∈ s'.l ↔ x ∈ s.l ∧ ¬ ∃ j : Nat, i ≤ j ∧ j < s.l.length ∧ atL s.l j = x ∧ itemOf right x = (it : Int) ∧ (j : Int) ∉ s.t
theorem RestIs.start {s s' : Sh} (h : Sheet s.L s.R s.l s.t) (h1 : s'.L = s.L) (h2 : s'.R = s.R) (h3 : s'.l = s.l) (h4 : s'.t = s.t) (right : Bool) (it : Nat) : RestIs s right it s.l.length s' := by
  obtain ⟨L, R, A, ca, B, cb, l, t⟩ := s
  obtain ⟨L', R', A', ca', B', cb', l', t'⟩ := s'
  dsimp only at h1 h2 h3 h4
  subst h1; subst h2; subst h3; subst h4
  exact ⟨h, rfl, Nat.le_refl _, rfl, rfl, fun x => ⟨fun hx => ⟨hx, fun ⟨j, a, b, _⟩ => by dsimp only at a b; omega⟩, fun hx => hx.1⟩⟩
theorem RestIs.lt {s s' : Sh} {right : Bool} {it k : Nat} (h : RestIs s right it (k + 1) s') : k < s'.l.length ∧ k < s.l.length ∧ atL s'.l k = atL s.l k := by
  have h1 := h.le
  have h2 := congrArg List.length h.pre
  rw [List.length_take, List.length_take] at h2
  have hk : k < s'.l.length := by omega
  refine ⟨hk, by omega, ?_⟩
  rw [atL_eq hk, atL_eq (show k < s.l.length by omega)]
  have h3 := congrArg (fun l : List Pr => l[k]?) h.pre
  simp only [List.getElem?_take] at h3
  rw [if_pos (by omega), if_pos (by omega), List.getElem?_eq_getElem hk, List.getElem?_eq_getElem (show k < s.l.length by omega)] at h3
  exact Option.some.inj h3
theorem take_less {α : Type} {a b : List α} {k : Nat} (h : a.take (k + 1) = b.take (k + 1)) : a.take k = b.take k := by
  have := congrArg (List.take k) h
  rwa [List.take_take, List.take_take, Nat.min_eq_left (by omega)] at this
theorem RestIs.skip {s s' : Sh} {right : Bool} {it k : Nat} (h : RestIs s right it (k + 1) s') (hno : itemOf right (atL s.l k) ≠ (it : Int) ∨ (k : Int) ∈ s.t) : RestIs s right it k s' := by
  refine ⟨h.valid, take_less h.pre, by have := h.le; omega, h.pairs, h.len, fun x => ?_⟩
  rw [h.mem]
  constructor
  · rintro ⟨h1, h2⟩
    refine ⟨h1, fun ⟨j, a, b, c, d, e⟩ => ?_⟩
    by_cases hj : j = k
    · subst hj
      rcases hno with hno | hno
      · exact hno (by rw [c]; exact d)
      · exact e hno
    · exact h2 ⟨j, by omega, b, c, d, e⟩
  · rintro ⟨h1, h2⟩
    exact ⟨h1, fun ⟨j, a, b, c⟩ => h2 ⟨j, by omega, b, c⟩⟩
theorem RestIs.strike {s s' s'' : Sh} {right : Bool} {it k : Nat} (hs : Sheet s.L s.R s.l s.t) (h : RestIs s right it (k + 1) s') (hit : itemOf right (atL s.l k) = (it : Int)) (hk : (k : Int) ∉ s.t)
    (h1 : s''.L = s'.L) (h2 : s''.R = s'.R) (h3 : s''.l = s'.l.eraseIdx k) (h4 : s''.t = noT s'.t k) : RestIs s right it k s'' := by
  obtain ⟨l1, l2, l3⟩ := h.lt
  have hkn : (k : Int) ∉ s'.t := fun hm => by
    have := (Sheet.known_iff h.valid l1).2 hm
    rw [h.pairs, l3] at this
    exact hk ((hs.known_iff l2).1 this)
  have hp : pairsK s'' = pairsK s := by
    have := no_pairs h.valid hkn
    unfold pairsK
    rw [h3, h4, this]
    exact h.pairs
  refine ⟨by rw [h1, h2, h3, h4]; exact no_sheet h.valid l1 hkn, ?_, by have := h.le; omega, hp, by rw [h4]; unfold noT; rw [List.length_map]; exact h.len, fun x => ?_⟩
  · rw [h3, ← take_less h.pre]
    rw [List.eraseIdx_eq_take_drop_succ, List.take_append_of_le_length (by rw [List.length_take]; omega), List.take_take, Nat.min_self]
  · rw [h3, mem_erase h.valid.nodup l1, h.mem, l3]
    constructor
    · rintro ⟨⟨g1, g2⟩, g3⟩
      refine ⟨g1, fun ⟨j, a, b, c, d, e⟩ => ?_⟩
      by_cases hj : j = k
      · subst hj; exact g3 c.symm
      · exact g2 ⟨j, by omega, b, c, d, e⟩
    · rintro ⟨g1, g2⟩
      exact ⟨⟨g1, fun ⟨j, a, b, c⟩ => g2 ⟨j, by omega, b, c⟩⟩, fun e => g2 ⟨k, Nat.le_refl _, l2, e.symm, by rw [e]; exact hit, hk⟩⟩
def someP (s : Sh) (right : Bool) (it j : Nat) : Bool := decide (itemOf right (atL s.l j) = (it : Int)) && decide (0 < (kindsC s).getD j 0)
def knownP (s : Sh) (right : Bool) (it j : Nat) : Bool := decide (itemOf right (atL s.l j) = (it : Int)) && s.t.contains (j : Int)
/-- the kind of an item, as the definition says it -/
theorem RestIs.item {s s' : Sh} {right : Bool} {it : Nat} (hs : Sheet s.L s.R s.l s.t) (h : RestIs s right it 0 s') :
    (anyFrom (knownP s right it) s.l.length 0 = true → itemC s right it = 2) ∧
    (anyFrom (knownP s right it) s.l.length 0 = false → anyFrom (someP s right it) s.l.length 0 = false → itemC s right it = 0) ∧
    (anyFrom (knownP s right it) s.l.length 0 = false → anyFrom (someP s right it) s.l.length 0 = true → itemC s right it = if mostS s' < mostS s then 2 else 1) := by
  have hi := hs.item right it
  have hk2 : ∀ j : Nat, (j : Int) ∈ s.t → kindC s j = 2 := fun j hj => by
    unfold kindC
    rw [show s.t.contains (j : Int) = true by simpa using hj]; rfl
  have hz : anyFrom (someP s right it) s.l.length 0 = false → itemC s right it = 0 := fun hf => by
    refine (ItemG.zero_iff hi hs.gr_ex).2 fun G hG x hx hh => ?_
    obtain ⟨j, hj, rfl⟩ := atL_of_mem (hG.jn.links x hx)
    have h0 : kindC s j = 0 := by
      have h1 : ¬ 0 < (kindsC s).getD j 0 := fun hp => by
        have : anyFrom (someP s right it) s.l.length 0 = true := anyFrom_iff.2 ⟨j, Nat.zero_le _, hj, by unfold someP; rw [Bool.and_eq_true, decide_eq_true_eq, decide_eq_true_eq]; exact ⟨hh, hp⟩⟩
        rw [hf] at this; cases this
      rw [kindsC_at s hj] at h1
      rcases kindC_vals (s := s) (k := j) with e | e | e
      · exact e
      · omega
      · omega
    exact (hs.kind hj).zero h0 G hG hx
  refine ⟨fun hkn => ?_, fun _ => hz, fun hkn hsm => ?_⟩
  · obtain ⟨j, _, h1, h2⟩ := anyFrom_iff.1 hkn
    unfold knownP at h2
    rw [Bool.and_eq_true, decide_eq_true_eq] at h2
    have hj : (j : Int) ∈ s.t := by simpa using h2.2
    exact (ItemG.two_iff hi hs.gr_ex).2 fun G hG => ⟨_, (hs.kind h1).two (hk2 j hj) G hG, h2.1⟩
  · have hno : ∀ j : Nat, j < s.l.length → itemOf right (atL s.l j) = (it : Int) → (j : Int) ∉ s.t := fun j hj hh hm => by
      have : anyFrom (knownP s right it) s.l.length 0 = true := anyFrom_iff.2 ⟨j, Nat.zero_le _, hj, by unfold knownP; rw [Bool.and_eq_true, decide_eq_true_eq]; exact ⟨hh, by simpa using hm⟩⟩
      rw [hkn] at this; cases this
    have hl : mostS s' < mostS s ↔ itemC s right it = 2 := by
      rw [ItemG.two_iff hi hs.gr_ex]
      refine hs.ps.less hs.most_free (D := fun x => itemOf right x = (it : Int)) (fun y hy e => ?_) (h.valid.most_free.congr fun x => ?_)
      · obtain ⟨k, hk, rfl⟩ := List.mem_map.1 hy
        have hb := hs.bound k hk
        obtain ⟨n, rfl⟩ := Int.eq_ofNat_of_zero_le hb.1
        exact hno n (by omega) e hk
      · unfold FreeE
        rw [h.pairs, h.mem]
        constructor
        · rintro ⟨⟨g1, g2⟩, g3⟩
          refine ⟨⟨g1, g3⟩, fun e => ?_⟩
          obtain ⟨j, hj, rfl⟩ := atL_of_mem g1
          exact g2 ⟨j, Nat.zero_le _, hj, rfl, e, hno j hj e⟩
        · rintro ⟨⟨g1, g3⟩, g4⟩
          exact ⟨⟨g1, fun ⟨j, _, _, _, e, _⟩ => g4 e⟩, g3⟩
    have hn0 : itemC s right it ≠ 0 := fun e0 => by
      obtain ⟨j, _, h1, h2⟩ := anyFrom_iff.1 hsm
      unfold someP at h2
      rw [Bool.and_eq_true, decide_eq_true_eq, decide_eq_true_eq, kindsC_at s h1] at h2
      have hz := (ItemG.zero_iff hi hs.gr_ex).1 e0
      rcases hs.kind h1 with ⟨_, k⟩ | ⟨e, _⟩ | ⟨_, ⟨G, k1, k2⟩, _⟩
      · obtain ⟨G, hG⟩ := hs.gr_ex
        exact hz G hG _ (k G hG) h2.1
      · omega
      · exact hz G k1 _ k2 h2.1
    by_cases c : mostS s' < mostS s
    · rw [if_pos c]; exact hl.1 c
    · rw [if_neg c]
      have h3 : itemC s right it ≠ 2 := fun e => c (hl.2 e)
      rcases hi with ⟨e, _⟩ | ⟨e, _⟩ | ⟨e, _⟩
      · exact absurd e h3
      · exact absurd e hn0
      · exact e
end Go.Proofs.Ytoogfdicmpkkgaa
