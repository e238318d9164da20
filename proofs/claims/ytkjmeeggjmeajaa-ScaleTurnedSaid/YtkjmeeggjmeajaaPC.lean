/- Plain laws: right scales step by step, spans, shares, the best scales. -/
import Derived.Test.YtkjmeeggjmeajaaPA
import Derived.Test.YtkjmeeggjmeajaaM1
namespace Go.Proofs.Ytkjmeeggjmeajaa
open Go.RowKit

/-- a right scale of ranges -/
def Right (l : List Rg) (x : List Int) : Prop := Rises x ∧ ∀ r ∈ l, Hit x r
/-- step by step, at most as high -/
def Ahead : List Int → List Int → Prop
  | _, [] => True
  | [], _ :: _ => False
  | x :: xs, g :: gs => x ≤ g ∧ Ahead xs gs
theorem Ahead.nil (x : List Int) : Ahead x [] := by cases x <;> trivial
theorem Ahead.len : ∀ {x g : List Int}, Ahead x g → g.length ≤ x.length
  | _, [], _ => by simp
  | [], _ :: _, h => h.elim
  | _ :: xs, _ :: gs, h => by have := Ahead.len (x := xs) (g := gs) h.2; simp only [List.length_cons]; omega
theorem Ahead.get : ∀ {x g : List Int}, Ahead x g → ∀ k (h1 : k < x.length) (h2 : k < g.length), x[k] ≤ g[k]
  | _, [], _, _, _, h => by simp at h
  | [], _ :: _, h, _, _, _ => h.elim
  | x :: xs, g :: gs, h, 0, _, _ => h.1
  | x :: xs, g :: gs, h, k + 1, h1, h2 => Ahead.get (x := xs) (g := gs) h.2 k (by simpa using h1) (by simpa using h2)
theorem Ahead.eq : ∀ {x g : List Int}, Ahead x g → Ahead g x → x = g
  | [], [], _, _ => rfl
  | _ :: _, [], _, h => h.elim
  | [], _ :: _, h, _ => h.elim
  | x :: xs, g :: gs, h, k => by
    have h1 := h.1
    have h2 := k.1
    rw [Ahead.eq (x := xs) (g := gs) h.2 k.2, show x = g by omega]
theorem ahead_of_get : ∀ {x g : List Int}, g.length ≤ x.length → (∀ k (h1 : k < x.length) (h2 : k < g.length), x[k] ≤ g[k]) → Ahead x g
  | x, [], _, _ => Ahead.nil x
  | [], _ :: _, h, _ => by simp at h
  | x :: xs, g :: gs, h, k => And.intro (k 0 (by simp) (by simp)) (ahead_of_get (by simpa using h) (fun i h1 h2 => by have := k (i + 1) (by simpa using h1) (by simpa using h2); simpa using this))

/-- greedy from below, leaving a range out; nothing if there is no such scale -/
def hgo (cl : Rg) : List Tone → Int → Option (List Int)
  | [], _ => some []
  | t :: ts, last => if t.1 ≤ last then hgo cl ts last else if atOf cl t.2.1 < t.1 then none else (hgo cl ts (atOf cl t.2.1)).map (atOf cl t.2.1 :: ·)
theorem highGo_hgo (cl : Rg) : ∀ (ts : List Tone) (s n : List Int) (last : Int),
    (∀ g, hgo cl ts last = some g → (highGo cl ts s n last).1 = s ++ g ∧ (highGo cl ts s n last).2.length = n.length + g.length) ∧
    (hgo cl ts last = none → (highGo cl ts s n last).1.length + n.length = (highGo cl ts s n last).2.length + s.length + 1)
  | [], s, n, last => ⟨fun g h => by simp only [hgo, Option.some.injEq] at h; subst h; simp [highGo], fun h => by simp [hgo] at h⟩
  | t :: ts, s, n, last => by
    simp only [hgo, highGo]
    by_cases h1 : t.1 ≤ last
    · simp only [if_pos h1]; exact highGo_hgo cl ts s n last
    · simp only [if_neg h1]
      by_cases h2 : atOf cl t.2.1 < t.1
      · simp only [if_pos h2]
        exact ⟨fun g h => (by cases h), fun _ => by simp; omega⟩
      · simp only [if_neg h2]
        obtain ⟨i1, i2⟩ := highGo_hgo cl ts (s ++ [atOf cl t.2.1]) (n ++ [t.2.2]) (atOf cl t.2.1)
        constructor
        · intro g h
          obtain ⟨g', hg', rfl⟩ := Option.map_eq_some_iff.1 h
          obtain ⟨k1, k2⟩ := i1 g' hg'
          rw [k1, k2]; simp; omega
        · intro h
          have := i2 (by simpa using h)
          simp at this ⊢; omega
theorem atOf_le (cl : Rg) (h : Int) : atOf cl h ≤ h := by unfold atOf; split <;> omega
theorem atOf_out (cl : Rg) (h : Int) : ¬ (cl.1 ≤ atOf cl h ∧ atOf cl h ≤ cl.2) := by unfold atOf; split <;> omega
theorem le_atOf {cl : Rg} {h z : Int} (h1 : z ≤ h) (h2 : ¬ (cl.1 ≤ z ∧ z ≤ cl.2)) : z ≤ atOf cl h := by unfold atOf; split <;> omega
theorem hgo_some (cl : Rg) : ∀ (ts : List Tone) (last : Int) (g : List Int), ByHi ts → hgo cl ts last = some g →
    (∀ y ∈ g, last < y ∧ ¬ (cl.1 ≤ y ∧ y ≤ cl.2)) ∧ Rises g ∧ ∀ t ∈ ts, last < t.1 → Hit g (rT t)
  | [], last, g, _, h => by simp only [hgo, Option.some.injEq] at h; subst h; exact ⟨by simp, List.Pairwise.nil, by simp⟩
  | t :: ts, last, g, hb, h => by
    unfold ByHi at hb
    rw [List.pairwise_cons] at hb
    simp only [hgo] at h
    by_cases h1 : t.1 ≤ last
    · rw [if_pos h1] at h
      obtain ⟨a, b, c⟩ := hgo_some cl ts last g hb.2 h
      refine ⟨a, b, fun u hu hl => ?_⟩
      rcases List.mem_cons.1 hu with rfl | hu
      · omega
      · exact c u hu hl
    · rw [if_neg h1] at h
      by_cases h2 : atOf cl t.2.1 < t.1
      · rw [if_pos h2] at h; cases h
      · rw [if_neg h2] at h
        obtain ⟨g', hg', rfl⟩ := Option.map_eq_some_iff.1 h
        obtain ⟨a, b, c⟩ := hgo_some cl ts _ g' hb.2 hg'
        have hat := atOf_le cl t.2.1
        refine ⟨fun y hy => ?_, List.pairwise_cons.2 ⟨fun y hy => (a y hy).1, b⟩, fun u hu hl => ?_⟩
        · rcases List.mem_cons.1 hy with rfl | hy
          · exact ⟨by omega, atOf_out cl _⟩
          · exact ⟨by have := (a y hy).1; omega, (a y hy).2⟩
        · rcases List.mem_cons.1 hu with rfl | hu
          · exact ⟨_, List.mem_cons_self .., by unfold rT; dsimp only; omega, by unfold rT; dsimp only; omega⟩
          · by_cases h3 : u.1 ≤ atOf cl t.2.1
            · have := hb.1 u hu
              exact ⟨_, List.mem_cons_self .., by unfold rT; dsimp only; omega, by unfold rT; dsimp only; omega⟩
            · obtain ⟨y, hy, k⟩ := c u hu (by omega)
              exact ⟨y, by simp [hy], k⟩
theorem hgo_ahead (cl : Rg) : ∀ (ts : List Tone) (last : Int) (g x : List Int), hgo cl ts last = some g → Rises x → (∀ y ∈ x, ¬ (cl.1 ≤ y ∧ y ≤ cl.2)) → (∀ t ∈ ts, last < t.1 → Hit x (rT t)) → Ahead x g
  | [], last, g, x, h, _, _, _ => by simp only [hgo, Option.some.injEq] at h; subst h; exact Ahead.nil x
  | t :: ts, last, g, x, h, hr, hx, hh => by
    simp only [hgo] at h
    by_cases h1 : t.1 ≤ last
    · rw [if_pos h1] at h
      exact hgo_ahead cl ts last g x h hr hx (fun u hu => hh u (by simp [hu]))
    · rw [if_neg h1] at h
      by_cases h2 : atOf cl t.2.1 < t.1
      · rw [if_pos h2] at h; cases h
      · rw [if_neg h2] at h
        obtain ⟨g', hg', rfl⟩ := Option.map_eq_some_iff.1 h
        obtain ⟨z, hz, z1, z2⟩ := hh t (by simp) (by omega)
        unfold rT at z1 z2
        dsimp only at z1 z2
        have hza := le_atOf z2 (hx z hz)
        cases x with
        | nil => cases hz
        | cons x0 xs =>
          unfold Rises at hr
          rw [List.pairwise_cons] at hr
          have h0 : x0 ≤ z := by
            rcases List.mem_cons.1 hz with rfl | hz
            · omega
            · have := hr.1 z hz; omega
          refine ⟨by omega, hgo_ahead cl ts _ g' xs hg' hr.2 (fun y hy => hx y (by simp [hy])) (fun u hu hl => ?_)⟩
          obtain ⟨y, hy, y1, y2⟩ := hh u (by simp [hu]) (by omega)
          rcases List.mem_cons.1 hy with rfl | hy
          · unfold rT at y1; dsimp only at y1; omega
          · exact ⟨y, hy, y1, y2⟩
theorem hgo_none (cl : Rg) : ∀ (ts : List Tone) (last : Int), Good ts → hgo cl ts last = none → ∃ t ∈ ts, last < t.1 ∧ cl.1 ≤ t.1 ∧ t.2.1 ≤ cl.2
  | [], last, _, h => by simp [hgo] at h
  | t :: ts, last, hg, h => by
    have hg' : Good ts := fun x hx => hg x (by simp [hx])
    have ht := hg t (by simp)
    simp only [hgo] at h
    by_cases h1 : t.1 ≤ last
    · rw [if_pos h1] at h
      obtain ⟨u, hu, k⟩ := hgo_none cl ts last hg' h
      exact ⟨u, by simp [hu], k⟩
    · rw [if_neg h1] at h
      by_cases h2 : atOf cl t.2.1 < t.1
      · refine ⟨t, by simp, by omega, ?_⟩
        unfold atOf at h2
        split at h2 <;> omega
      · rw [if_neg h2] at h
        obtain ⟨u, hu, k1, k2⟩ := hgo_none cl ts (atOf cl t.2.1) hg' (by simpa using h)
        exact ⟨u, by simp [hu], by omega, k2⟩
theorem hgo_open : ∀ (ts : List Tone) (last : Int), Good ts → hgo (1, 0) ts last = some ((greedy ts last).map (·.2.1))
  | [], _, _ => rfl
  | t :: ts, last, hg => by
    have hg' : Good ts := fun x hx => hg x (by simp [hx])
    have ht := hg t (by simp)
    simp only [hgo, greedy, atOf_open]
    by_cases h1 : t.1 ≤ last
    · rw [if_pos h1, if_pos h1]; exact hgo_open ts last hg'
    · rw [if_neg h1, if_neg h1, if_neg (by omega), hgo_open ts _ hg']; rfl

section
variable {l : List Rg} {ts : List Tone} (h : Sorted l ts) (hg : GoodR l)
include h hg
theorem tones_start (t : Tone) (ht : t ∈ ts) : -1 < t.1 := by
  have := (hg (rT t) ((sorted_rT h _).2 ⟨t, ht, rfl⟩)).1; unfold rT at this; dsimp only at this; omega
theorem hiAt_right : Right l (hiAt ts) := by
  refine ⟨greedy_rises (sorted_good h hg) _, fun r hr => ?_⟩
  obtain ⟨t, ht, rfl⟩ := (sorted_rT h r).1 hr
  obtain ⟨g, hgm, k⟩ := greedy_hits ts (-1) (sorted_good h hg) h.2 t ht (tones_start h hg t ht)
  exact ⟨g.2.1, List.mem_map.2 ⟨g, hgm, rfl⟩, k⟩
theorem hiAt_top {x : List Int} (hx : Right l x) : Ahead x (hiAt ts) :=
  hgo_ahead (1, 0) ts (-1) _ x (hgo_open ts _ (sorted_good h hg)) hx.1 (fun y _ => by dsimp only; omega) (fun t ht _ => hx.2 _ ((sorted_rT h _).2 ⟨t, ht, rfl⟩))
theorem hiAt_short : ShortIs l (hiAt ts).length := by
  have := greedy_short h hg
  unfold hiAt; rw [List.length_map]; exact this
theorem right_len {x : List Int} (hx : Right l x) : (hiAt ts).length ≤ x.length := (hiAt_top h hg hx).len
/-- which scales leave a range out -/
theorem must_iff {r : Rg} {left tones : List Int} (hl : (left, tones) = highGo r ts [] [] (-1)) (n : Nat) :
    (tones.length < left.length ∨ n < left.length) ↔ ¬ ∃ x, Right l x ∧ ¬ Hit x r ∧ x.length ≤ n := by
  obtain ⟨i1, i2⟩ := highGo_hgo r ts [] [] (-1)
  rw [← hl] at i1 i2
  dsimp only at i1 i2
  cases hc : hgo r ts (-1) with
  | none =>
    have := i2 hc
    refine ⟨fun _ => ?_, fun _ => .inl (by simp at this; omega)⟩
    rintro ⟨x, hx, hn, _⟩
    obtain ⟨t, ht, _, k1, k2⟩ := hgo_none r ts (-1) (sorted_good h hg) hc
    obtain ⟨y, hy, y1, y2⟩ := hx.2 _ ((sorted_rT h _).2 ⟨t, ht, rfl⟩)
    unfold rT at y1 y2; dsimp only at y1 y2
    exact hn ⟨y, hy, by omega, by omega⟩
  | some g =>
    obtain ⟨k1, k2⟩ := i1 g hc
    simp only [List.nil_append, List.length_nil, Nat.zero_add] at k1 k2
    rw [k1, k2]
    obtain ⟨a, b, c⟩ := hgo_some r ts (-1) g h.2 hc
    constructor
    · rintro h1 ⟨x, hx, hn, hle⟩
      have := (hgo_ahead r ts (-1) g x hc hx.1 (fun y hy k => hn ⟨y, hy, k⟩) (fun t ht _ => hx.2 _ ((sorted_rT h _).2 ⟨t, ht, rfl⟩))).len
      omega
    · intro h1
      by_cases h2 : n < g.length
      · exact .inr h2
      · exfalso
        refine h1 ⟨g, ⟨b, fun q hq => ?_⟩, ?_, by omega⟩
        · obtain ⟨t, ht, rfl⟩ := (sorted_rT h q).1 hq
          exact c t ht (tones_start h hg t ht)
        · rintro ⟨y, hy, k⟩
          exact (a y hy).2 k
end
/-- tones that may, or must, share a step: all right scales with as few steps as there can be are looked at -/
def MayR (l : List Rg) (r : Rg) : Prop := ∃ x, Right l x ∧ Hit x r ∧ ShortIs l x.length
def MustR (l : List Rg) (r : Rg) : Prop := ∀ x, Right l x → ShortIs l x.length → Hit x r
theorem short_le_right {l : List Rg} {n : Nat} (hn : ShortIs l n) {x : List Int} (hx : Right l x) : n ≤ x.length := by
  obtain ⟨⟨c, c1, c2, rfl⟩, _⟩ := hn
  exact chain_le c x c2 hx.1 (fun r hr => hx.2 r (c1 r hr))
theorem right_append {l : List Rg} {r : Rg} {x : List Int} : Right (l ++ [r]) x ↔ Right l x ∧ Hit x r := by
  unfold Right
  simp only [List.mem_append, List.mem_singleton]
  exact ⟨fun h => ⟨⟨h.1, fun q hq => h.2 q (.inl hq)⟩, h.2 r (.inr rfl)⟩, fun h => ⟨h.1.1, fun q hq => hq.elim (h.1.2 q) (fun e => e ▸ h.2)⟩⟩
theorem exists_tones (l : List Rg) : ∃ ts, Sorted l ts := by
  refine ⟨(tonesUp l l.length).mergeSort fun a b => decide (a.2.1 ≤ b.2.1), List.mergeSort_perm _ _, ?_⟩
  have := List.pairwise_mergeSort (le := fun a b : Tone => decide (a.2.1 ≤ b.2.1)) (by intro a b c h1 h2; simp at *; omega) (by intro a b; simp; omega) (tonesUp l l.length)
  exact this.imp (fun {a b} h => by simpa using h)
theorem share_spec {l : List Rg} {i k : Int} {a b : Bool} {e : Int} (h : ShareIs l i k a b e) (h0 : songErr l = 0) (hi : inL l i) (hk : inL l k) :
    e = 0 ∧ (a = true ↔ MayR l (bothR (atL l i) (atL l k))) ∧ (b = true ↔ MustR l (bothR (atL l i) (atL l k))) := by
  have hg := song_GoodR h0
  have hA : ∀ {q : Int}, inL l q → atL l q ∈ l := fun {q} hq => by
    obtain ⟨q, rfl⟩ := Int.eq_ofNat_of_zero_le hq.1
    have : q < l.length := by have := hq.2; omega
    simp only [atL, Int.toNat_natCast, List.getD_eq_getElem?_getD, List.getElem?_eq_getElem this, Option.getD_some]
    exact List.getElem_mem this
  have g1 := hg _ (hA hi)
  have g2 := hg _ (hA hk)
  rcases h with h | h | h | h
  · exact absurd h0 h.1
  · exact absurd ⟨hi, hk⟩ h.2.1
  · obtain ⟨_, _, _, hr, rfl, rfl, rfl⟩ := h
    generalize bothR (atL l i) (atL l k) = r at hr
    have no : ∀ x, ¬ Hit x r := fun x ⟨y, _, y1, y2⟩ => by omega
    refine ⟨rfl, ⟨fun h => (by cases h), fun ⟨x, _, hx, _⟩ => absurd hx (no x)⟩, fun h => (by cases h), fun h => ?_⟩
    obtain ⟨ts, hts⟩ := exists_tones l
    exact absurd (h _ (hiAt_right hts hg) (hiAt_short hts hg)) (no _)
  · obtain ⟨_, _, _, hr, rfl, ts, us, left, tones, hts, hus, hl, rfl, rfl⟩ := h
    have hgr : GoodR (l ++ [bothR (atL l i) (atL l k)]) := fun x hx => by
      rcases List.mem_append.1 hx with hx | hx
      · exact hg x hx
      · rw [List.mem_singleton.1 hx]; unfold bothR at hr ⊢; dsimp only at hr ⊢; omega
    generalize bothR (atL l i) (atL l k) = r at *
    have hs := hiAt_short hts hg
    refine ⟨rfl, ?_, ?_⟩
    · rw [decide_eq_true_iff]
      constructor
      · intro he
        obtain ⟨a1, a2⟩ := right_append.1 (hiAt_right hus hgr)
        exact ⟨hiAt us, a1, a2, he ▸ hs⟩
      · rintro ⟨x, x1, x2, x3⟩
        have h1 := right_len hus hgr (right_append.2 ⟨x1, x2⟩)
        have h2 := right_len hts hg (right_append.1 (hiAt_right hus hgr)).1
        have := x3.unique hs
        omega
    · rw [Bool.or_eq_true, decide_eq_true_iff, decide_eq_true_iff, must_iff hts hg hl]
      constructor
      · intro hn x x1 x3
        refine Classical.byContradiction fun x2 => hn ⟨x, x1, x2, ?_⟩
        rw [x3.unique hs]; exact Nat.le_refl _
      · rintro hm ⟨x, x1, x2, x3⟩
        have h2 := right_len hts hg x1
        have e : x.length = (hiAt ts).length := by omega
        exact x2 (hm x x1 (e ▸ hs))
theorem right_congr {l l' : List Rg} (h : ∀ r, r ∈ l ↔ r ∈ l') (x : List Int) : Right l x ↔ Right l' x :=
  ⟨fun k => ⟨k.1, fun r hr => k.2 r ((h r).2 hr)⟩, fun k => ⟨k.1, fun r hr => k.2 r ((h r).1 hr)⟩⟩
theorem ShortIs.congr {l l' : List Rg} (h : ∀ r, r ∈ l ↔ r ∈ l') {n : Nat} (k : ShortIs l n) : ShortIs l' n := by
  obtain ⟨⟨c, c1, c2, c3⟩, s, s1, s2, s3⟩ := k
  exact ⟨⟨c, fun r hr => (h r).1 (c1 r hr), c2, c3⟩, s, s1, fun r hr => s2 r ((h r).2 hr), s3⟩
theorem hiAt_same {l l' : List Rg} {ts us : List Tone} (h : ∀ r, r ∈ l ↔ r ∈ l') (hg : GoodR l) (ht : Sorted l ts) (hu : Sorted l' us) : hiAt us = hiAt ts := by
  have hg' : GoodR l' := fun r hr => hg r ((h r).2 hr)
  exact Ahead.eq (hiAt_top ht hg ((right_congr h _).2 (hiAt_right hu hg'))) (hiAt_top hu hg' ((right_congr h _).1 (hiAt_right ht hg)))

def turnX (x : List Int) : List Int := (x.map fun y => 10000 - y).reverse
theorem turnX_twice (x : List Int) : turnX (turnX x) = x := by
  unfold turnX
  rw [List.map_reverse, List.reverse_reverse, List.map_map]
  have : ((fun y : Int => 10000 - y) ∘ fun y : Int => 10000 - y) = id := by funext y; simp only [Function.comp, id]; omega
  rw [this, List.map_id]
theorem turnX_len (x : List Int) : (turnX x).length = x.length := by simp [turnX]
theorem hit_turn {x : List Int} {r : Rg} (h : Hit x r) : Hit (turnX x) (turnedR r) := by
  obtain ⟨y, hy, k1, k2⟩ := h
  exact ⟨10000 - y, List.mem_reverse.2 (List.mem_map.2 ⟨y, hy, rfl⟩), by simp only [turnedR]; omega, by simp only [turnedR]; omega⟩
theorem hit_turn_back {x : List Int} {r : Rg} (h : Hit (turnX x) r) : Hit x (turnedR r) := by
  have := hit_turn h; rwa [turnX_twice] at this
theorem rises_turn {x : List Int} (h : Rises x) : Rises (turnX x) := by
  unfold Rises turnX at *
  rw [List.pairwise_reverse, List.pairwise_map]
  exact h.imp fun {a b} h => by omega
theorem turned_twice (l : List Rg) : (l.map turnedR).map turnedR = l := by
  rw [List.map_map, show (turnedR ∘ turnedR) = id by funext r; exact turnedR_twice r, List.map_id]
theorem right_turn {l : List Rg} {x : List Int} (h : Right l x) : Right (l.map turnedR) (turnX x) :=
  ⟨rises_turn h.1, fun r hr => by obtain ⟨q, hq, rfl⟩ := List.mem_map.1 hr; exact hit_turn (h.2 q hq)⟩
theorem right_turn_back {l : List Rg} {x : List Int} (h : Right (l.map turnedR) x) : Right l (turnX x) := by
  have := right_turn h; rwa [turned_twice] at this
theorem bothR_turned (a b : Rg) : bothR (turnedR a) (turnedR b) = turnedR (bothR a b) := by unfold bothR turnedR; dsimp only; ext <;> dsimp only <;> omega
theorem bothR_comm (a b : Rg) : bothR a b = bothR b a := by unfold bothR; rw [Int.max_comm, Int.min_comm]

theorem may_of {l l' : List Rg} {r r' : Rg} (f : List Int → List Int) (hR : ∀ x, Right l x → Right l' (f x)) (hH : ∀ x, Hit x r → Hit (f x) r') (hl : ∀ x, (f x).length = x.length) (hs : ∀ n, ShortIs l n → ShortIs l' n) (h : MayR l r) : MayR l' r' := by
  obtain ⟨x, x1, x2, x3⟩ := h
  exact ⟨f x, hR x x1, hH x x2, by rw [hl]; exact hs _ x3⟩
theorem must_of {l l' : List Rg} {r r' : Rg} (f : List Int → List Int) (hR : ∀ x, Right l' x → Right l (f x)) (hH : ∀ x, Hit (f x) r → Hit x r') (hl : ∀ x, (f x).length = x.length) (hs : ∀ n, ShortIs l' n → ShortIs l n) (h : MustR l r) : MustR l' r' :=
  fun x x1 x3 => hH x (h (f x) (hR x x1) (by rw [hl]; exact hs _ x3))
theorem short_turn_back {l : List Rg} {n : Nat} (h : ShortIs (l.map turnedR) n) : ShortIs l n := by
  have := h.turned; rwa [turned_twice] at this
theorem may_turned (l : List Rg) (r : Rg) : MayR (l.map turnedR) (turnedR r) ↔ MayR l r :=
  ⟨may_of turnX (fun _ h => right_turn_back h) (fun _ h => by have := hit_turn h; rwa [turnedR_twice] at this) turnX_len (fun _ h => short_turn_back h),
   may_of turnX (fun _ h => right_turn h) (fun _ h => hit_turn h) turnX_len (fun _ h => h.turned)⟩
theorem must_turned (l : List Rg) (r : Rg) : MustR (l.map turnedR) (turnedR r) ↔ MustR l r :=
  ⟨must_of turnX (fun _ h => right_turn h) (fun _ h => by have := hit_turn_back h; rwa [turnedR_twice] at this) turnX_len (fun _ h => h.turned),
   must_of turnX (fun _ h => right_turn_back h) (fun _ h => hit_turn_back h) turnX_len (fun _ h => short_turn_back h)⟩
theorem may_congr {l l' : List Rg} (h : ∀ r, r ∈ l ↔ r ∈ l') (r : Rg) : MayR l' r ↔ MayR l r :=
  ⟨may_of id (fun x k => (right_congr h x).2 k) (fun _ k => k) (fun _ => rfl) (fun _ k => k.congr (fun r => (h r).symm)), may_of id (fun x k => (right_congr h x).1 k) (fun _ k => k) (fun _ => rfl) (fun _ k => k.congr h)⟩
theorem must_congr {l l' : List Rg} (h : ∀ r, r ∈ l ↔ r ∈ l') (r : Rg) : MustR l' r ↔ MustR l r :=
  ⟨must_of id (fun x k => (right_congr h x).1 k) (fun _ k => k) (fun _ => rfl) (fun _ k => k.congr h), must_of id (fun x k => (right_congr h x).2 k) (fun _ k => k) (fun _ => rfl) (fun _ k => k.congr (fun r => (h r).symm))⟩

/-- ranges, and steps, as many cents higher -/
def upR (u : Int) (r : Rg) : Rg := (r.1 + u, r.2 + u)
def upX (u : Int) (x : List Int) : List Int := x.map (· + u)
theorem upX_len (u : Int) (x : List Int) : (upX u x).length = x.length := by simp [upX]
theorem upX_zero (u v : Int) (h : u + v = 0) (x : List Int) : upX u (upX v x) = x := by
  unfold upX
  rw [List.map_map, show ((fun x : Int => x + u) ∘ fun x : Int => x + v) = id by funext y; simp only [Function.comp, id]; omega, List.map_id]
theorem upR_zero (u v : Int) (h : u + v = 0) (l : List Rg) : (l.map (upR v)).map (upR u) = l := by
  rw [List.map_map, show (upR u ∘ upR v) = id by funext r; obtain ⟨a, b⟩ := r; simp only [Function.comp, upR, id, Prod.mk.injEq]; omega, List.map_id]
theorem rises_up {u : Int} {x : List Int} (h : Rises x) : Rises (upX u x) := by
  unfold Rises upX at *
  rw [List.pairwise_map]
  exact h.imp fun {a b} h => by omega
theorem hit_up {u : Int} {x : List Int} {r : Rg} (h : Hit x r) : Hit (upX u x) (upR u r) := by
  obtain ⟨y, hy, k1, k2⟩ := h
  exact ⟨y + u, List.mem_map.2 ⟨y, hy, rfl⟩, by simp only [upR]; omega, by simp only [upR]; omega⟩
theorem hit_up_iff {u : Int} {x : List Int} {r : Rg} : Hit (upX u x) (upR u r) ↔ Hit x r := by
  refine ⟨fun h => ?_, hit_up⟩
  have := hit_up (u := -u) h
  rw [upX_zero (-u) u (by omega)] at this
  rwa [show upR (-u) (upR u r) = r by obtain ⟨a, b⟩ := r; simp only [upR, Prod.mk.injEq]; omega] at this
theorem right_up {u : Int} {l : List Rg} {x : List Int} (h : Right l x) : Right (l.map (upR u)) (upX u x) :=
  ⟨rises_up h.1, fun r hr => by obtain ⟨q, hq, rfl⟩ := List.mem_map.1 hr; exact hit_up (h.2 q hq)⟩
theorem right_down {u : Int} {l : List Rg} {x : List Int} (h : Right (l.map (upR u)) x) : Right l (upX (-u) x) := by
  have := right_up (u := -u) h
  rwa [upR_zero (-u) u (by omega)] at this
theorem ShortIs.up (u : Int) {l : List Rg} {n : Nat} (k : ShortIs l n) : ShortIs (l.map (upR u)) n := by
  obtain ⟨⟨c, c1, c2, c3⟩, s, s1, s2, s3⟩ := k
  refine ⟨⟨c.map (upR u), fun r hr => ?_, ?_, by simp [c3]⟩, upX u s, (right_up ⟨s1, s2⟩).1, (right_up ⟨s1, s2⟩).2, by simp [upX, s3]⟩
  · obtain ⟨q, hq, rfl⟩ := List.mem_map.1 hr
    exact List.mem_map.2 ⟨q, c1 q hq, rfl⟩
  · unfold Chain
    rw [List.pairwise_map]
    exact c2.imp fun {a b} h => by simp only [upR]; omega
theorem ShortIs.down {u : Int} {l : List Rg} {n : Nat} (k : ShortIs (l.map (upR u)) n) : ShortIs l n := by
  have := k.up (-u)
  rwa [upR_zero (-u) u (by omega)] at this
theorem may_up (u : Int) (l : List Rg) (r : Rg) : MayR (l.map (upR u)) (upR u r) ↔ MayR l r :=
  ⟨may_of (upX (-u)) (fun _ h => right_down h) (fun x h => hit_up_iff (u := u) |>.1 (by rw [upX_zero u (-u) (by omega)]; exact h)) (upX_len _) (fun _ h => h.down),
   may_of (upX u) (fun _ h => right_up h) (fun _ h => hit_up h) (upX_len _) (fun _ h => h.up u)⟩
theorem must_up (u : Int) (l : List Rg) (r : Rg) : MustR (l.map (upR u)) (upR u r) ↔ MustR l r :=
  ⟨must_of (upX u) (fun _ h => right_up h) (fun _ h => hit_up_iff.1 h) (upX_len _) (fun _ h => h.up u),
   must_of (upX (-u)) (fun _ h => right_down h) (fun x h => by have := hit_up (u := u) h; rwa [upX_zero u (-u) (by omega)] at this) (upX_len _) (fun _ h => h.down)⟩
theorem ahead_up {u : Int} : ∀ {x g : List Int}, Ahead x g → Ahead (upX u x) (upX u g)
  | _, [], _ => Ahead.nil _
  | [], _ :: _, h => h.elim
  | x :: xs, g :: gs, h => ⟨by have := h.1; show x + u ≤ g + u; omega, ahead_up (x := xs) (g := gs) h.2⟩
theorem hiAt_up {u : Int} {l : List Rg} {ts us : List Tone} (hg : GoodR l) (hg' : GoodR (l.map (upR u))) (ht : Sorted l ts) (hu : Sorted (l.map (upR u)) us) : hiAt us = upX u (hiAt ts) := by
  refine Ahead.eq ?_ (hiAt_top hu hg' (right_up (hiAt_right ht hg)))
  have := ahead_up (u := u) (hiAt_top ht hg (right_down (hiAt_right hu hg')))
  rwa [upX_zero u (-u) (by omega)] at this

/-- the spans of a song -/
def IsSpans (l : List Rg) (sp : List Rg) : Prop := ∃ ts us, Sorted l ts ∧ Sorted (l.map turnedR) us ∧ sp = spansGo (hiAt ts) (hiAt us).reverse
theorem spansGo_snd (up down : List Int) : (spansGo up down).map (·.2) = up := by
  apply List.ext_getElem
  · simp [spansGo]
  · intro i h1 h2
    simp [spansGo, List.getD_eq_getElem?_getD, List.getElem?_eq_getElem h2]
theorem spansGo_fst (up down : List Int) (h : up.length = down.length) : (spansGo up down).map (·.1) = down.map fun y => 10000 - y := by
  apply List.ext_getElem
  · simp [spansGo, h]
  · intro i h1 h2
    have h3 : i < down.length := by simpa using h2
    simp [spansGo, List.getD_eq_getElem?_getD, List.getElem?_eq_getElem h3]
theorem pairs_ext : ∀ {a b : List Rg}, a.map (·.1) = b.map (·.1) → a.map (·.2) = b.map (·.2) → a = b
  | [], [], _, _ => rfl
  | [], _ :: _, h, _ => by simp at h
  | _ :: _, [], h, _ => by simp at h
  | x :: a, y :: b, h, k => by
    simp only [List.map_cons, List.cons.injEq] at h k
    rw [pairs_ext h.2 k.2, Prod.ext h.1 k.1]
section
variable {l sp : List Rg} (hs : IsSpans l sp) (hg : GoodR l)
include hs hg
theorem IsSpans.ends : ∃ ts us, Sorted l ts ∧ Sorted (l.map turnedR) us ∧ sp.map (·.2) = hiAt ts ∧ sp.map (·.1) = turnX (hiAt us) ∧ (hiAt us).length = (hiAt ts).length ∧ sp.length = (hiAt ts).length := by
  obtain ⟨ts, us, ht, hu, rfl⟩ := hs
  have e : (hiAt us).length = (hiAt ts).length := (hiAt_short hu hg.turned).unique (hiAt_short ht hg).turned
  refine ⟨ts, us, ht, hu, spansGo_snd _ _, ?_, e, spansGo_len _ _⟩
  rw [spansGo_fst _ _ (by simp [e]), List.map_reverse]; rfl
theorem IsSpans.highs : Right l (sp.map (·.2)) := by
  obtain ⟨ts, us, ht, hu, e1, _⟩ := hs.ends hg
  rw [e1]; exact hiAt_right ht hg
theorem IsSpans.lows : Right l (sp.map (·.1)) := by
  obtain ⟨ts, us, ht, hu, _, e2, _⟩ := hs.ends hg
  rw [e2]; exact right_turn_back (hiAt_right hu hg.turned)
theorem IsSpans.short : ShortIs l sp.length := by
  obtain ⟨ts, us, ht, hu, _, _, _, e⟩ := hs.ends hg
  rw [e]; exact hiAt_short ht hg
theorem IsSpans.cents : ∀ r ∈ sp, 0 ≤ r.1 ∧ r.1 ≤ 10000 ∧ 0 ≤ r.2 ∧ r.2 ≤ 10000 := fun r hr => by
  obtain ⟨ts, us, ht, hu, e1, e2, _⟩ := hs.ends hg
  have h1 : r.2 ∈ hiAt ts := by rw [← e1]; exact List.mem_map.2 ⟨r, hr, rfl⟩
  have h2 : r.1 ∈ turnX (hiAt us) := by rw [← e2]; exact List.mem_map.2 ⟨r, hr, rfl⟩
  have := hiAt_good ht hg _ h1
  obtain ⟨y, hy, e⟩ := List.mem_map.1 (List.mem_reverse.1 h2)
  have := hiAt_good hu hg.turned _ hy
  omega
theorem IsSpans.inside {x : List Int} (hx : Right l x) (hl : x.length = sp.length) (k : Nat) (hk : k < sp.length) : sp[k].1 ≤ x[k] ∧ x[k] ≤ sp[k].2 := by
  obtain ⟨ts, us, ht, hu, e1, e2, e3, e4⟩ := hs.ends hg
  have h1 := (hiAt_top ht hg hx).get k (by omega) (by omega)
  have h2 := (hiAt_top hu hg.turned (right_turn hx)).get (sp.length - 1 - k) (by rw [turnX_len]; omega) (by omega)
  have g1 : sp[k].2 = (hiAt ts)[k]'(by omega) := by
    have : (sp.map (·.2))[k]'(by simpa using hk) = (hiAt ts)[k]'(by omega) := by simp only [e1]
    simpa using this
  have g2 : sp[k].1 = (turnX (hiAt us))[k]'(by rw [turnX_len]; omega) := by
    have : (sp.map (·.1))[k]'(by simpa using hk) = (turnX (hiAt us))[k]'(by rw [turnX_len]; omega) := by simp only [e2]
    simpa using this
  rw [g1, g2]
  simp only [turnX, List.getElem_reverse, List.getElem_map, List.length_map] at h2 ⊢
  have i1 : x.length - 1 - (sp.length - 1 - k) = k := by omega
  have i2 : (hiAt us).length - 1 - k = sp.length - 1 - k := by omega
  simp only [i1] at h2
  simp only [i2]
  omega
end
theorem IsSpans.congr {l l' sp sp' : List Rg} (h : ∀ r, r ∈ l ↔ r ∈ l') (hg : GoodR l) (hs : IsSpans l sp) (hs' : IsSpans l' sp') : sp' = sp := by
  obtain ⟨ts, us, ht, hu, rfl⟩ := hs
  obtain ⟨ts', us', ht', hu', rfl⟩ := hs'
  have h2 : ∀ r, r ∈ l.map turnedR ↔ r ∈ l'.map turnedR := fun r => by simp only [List.mem_map, h]
  rw [hiAt_same h hg ht ht', hiAt_same h2 hg.turned hu hu']
theorem IsSpans.turned {l sp sp' : List Rg} (hg : GoodR l) (hs : IsSpans l sp) (hs' : IsSpans (l.map turnedR) sp') : sp' = (sp.map turnedR).reverse := by
  obtain ⟨ts, us, ht, hu, e1, e2, e3, e4⟩ := hs.ends hg
  obtain ⟨us', ts', hu', ht', e1', e2', e3', e4'⟩ := hs'.ends hg.turned
  rw [turned_twice] at ht'
  rw [hiAt_same (fun _ => Iff.rfl) hg.turned hu hu'] at e1'
  rw [hiAt_same (fun _ => Iff.rfl) hg ht ht'] at e2'
  apply pairs_ext
  · rw [e2', List.map_reverse, List.map_map, ← e1]
    unfold turnX
    rw [List.map_map]; rfl
  · rw [e1', List.map_reverse, List.map_map, ← turnX_twice (hiAt us), ← e2]
    unfold turnX
    rw [List.map_map]; rfl
theorem turned_up (u : Int) (l : List Rg) : (l.map (upR u)).map turnedR = (l.map turnedR).map (upR (-u)) := by
  rw [List.map_map, List.map_map]
  congr 1
  funext r
  simp only [Function.comp, upR, turnedR, Prod.mk.injEq]; omega
theorem IsSpans.up {u : Int} {l sp sp' : List Rg} (hg : GoodR l) (hg' : GoodR (l.map (upR u))) (hs : IsSpans l sp) (hs' : IsSpans (l.map (upR u)) sp') : sp' = sp.map (upR u) := by
  obtain ⟨ts, us, ht, hu, e1, e2, e3, e4⟩ := hs.ends hg
  obtain ⟨ts', us', ht', hu', e1', e2', e3', e4'⟩ := hs'.ends hg'
  rw [turned_up] at hu'
  rw [hiAt_up hg hg' ht ht'] at e1'
  rw [hiAt_up hg.turned (by rw [← turned_up]; exact hg'.turned) hu hu'] at e2'
  apply pairs_ext
  · rw [e2', List.map_map]
    have : (sp.map ((fun x => x.1) ∘ upR u)) = upX u (sp.map (·.1)) := by unfold upX; rw [List.map_map]; rfl
    rw [this, e2]
    unfold turnX upX
    rw [List.map_map, List.map_reverse, List.map_map]
    congr 2
    funext y
    simp only [Function.comp]; omega
  · rw [e1', List.map_map]
    have : (sp.map ((fun x => x.2) ∘ upR u)) = upX u (sp.map (·.2)) := by unfold upX; rw [List.map_map]; rfl
    rw [this, e1]

theorem short_mono {l x : List Rg} (h : ∀ r ∈ l, ∃ q ∈ x, r.1 ≤ q.1 ∧ q.2 ≤ r.2) {n m : Nat} (hn : ShortIs l n) (hm : ShortIs x m) : n ≤ m := by
  obtain ⟨_, s, s1, s2, rfl⟩ := hm
  refine short_le_right hn ⟨s1, fun r hr => ?_⟩
  obtain ⟨q, hq, k1, k2⟩ := h r hr
  obtain ⟨y, hy, y1, y2⟩ := s2 q hq
  exact ⟨y, hy, by omega, by omega⟩
theorem chain_nodup {c : List Rg} (hg : ∀ r ∈ c, r.1 ≤ r.2) (h : Chain c) : c.Nodup := by
  unfold List.Nodup
  refine (List.Pairwise.and_mem.1 h).imp ?_
  rintro a b ⟨ha, hb, hab⟩ rfl
  have := hg a ha; omega
theorem short_more {l x : List Rg} (hg : GoodR x) (p : Rg) (h : ∀ q ∈ x, q = p ∨ q ∈ l) {n m : Nat} (hn : ShortIs l n) (hm : ShortIs x m) : m ≤ n + 1 := by
  obtain ⟨⟨c, c1, c2, rfl⟩, _⟩ := hm
  obtain ⟨_, s, s1, s2, rfl⟩ := hn
  have hnd := chain_nodup (fun r hr => (hg r (c1 r hr)).2.1) c2
  have h1 := chain_le (c.erase p) s (List.Pairwise.sublist List.erase_sublist c2) s1 (fun r hr => by
    have hr' := (hnd.mem_erase_iff).1 hr
    rcases h r (c1 r hr'.2) with e | hl
    · exact absurd e hr'.1
    · exact s2 r hl)
  have := List.le_length_erase (a := p) (l := c)
  omega
theorem grB_ge : ∀ (l : List Rg) (out : Rg), out.1 ≤ (grB out l).1 ∧ ∀ x ∈ l, x.1 ≤ (grB out l).1
  | [], out => ⟨Int.le_refl _, by simp⟩
  | y :: l, out => by
    simp only [grB]
    by_cases h : out.1 < y.1
    · rw [if_pos h]
      obtain ⟨i1, i2⟩ := grB_ge l y
      exact ⟨by omega, fun x hx => (List.mem_cons.1 hx).elim (fun e => e ▸ i1) (i2 x)⟩
    · rw [if_neg h]
      obtain ⟨i1, i2⟩ := grB_ge l out
      exact ⟨i1, fun x hx => (List.mem_cons.1 hx).elim (fun e => by subst e; omega) (i2 x)⟩
theorem bestT_ge {ts : List Tone} (j : Nat) {p y : Int} (hy : y ∈ endsOf ts) (hp : p < y) : (bestT ts j y).1 + cnt ts p y ≤ (bestT ts (j + 1) p).1 := by
  have := (grB_ge (stepT ts (bestT ts j) (endsOf ts) p) (0, -1)).2 ((bestT ts j y).1 + cnt ts p y, y) (by
    unfold stepT
    exact List.mem_map.2 ⟨y, List.mem_filter.2 ⟨hy, by simpa using hp⟩, rfl⟩)
  exact this
theorem bestT_mono (ts : List Tone) : ∀ (j : Nat) (p : Int), (bestT ts j p).1 ≤ (bestT ts (j + 1) p).1
  | 0, p => (bestT_bound ts 1 p).1
  | j + 1, p => by
    rcases bestT_in ts (j + 1) p with h | ⟨y, hy, hp, i, hi, h⟩
    · rw [h]; exact (bestT_bound ts _ p).1
    · obtain rfl : i = j := by omega
      have h1 := bestT_mono ts i y
      have h2 := bestT_ge (i + 1) hy hp
      rw [h]; dsimp only; omega
theorem countP_le_add {α : Type} {P Q R : α → Bool} : ∀ {l : List α}, (∀ t ∈ l, P t = true → Q t = true ∨ R t = true) → l.countP P ≤ l.countP Q + l.countP R
  | [], _ => by simp
  | a :: l, h => by
    have ih := countP_le_add (l := l) (fun t ht => h t (by simp [ht]))
    have ha := h a (by simp)
    simp only [List.countP_cons]
    by_cases hp : P a = true
    · rcases ha hp with k | k
      · simp only [hp, k, if_true]; omega
      · simp only [hp, k, if_true]; omega
    · rw [if_neg hp]; omega
theorem countP_eq_add {α : Type} {P Q R : α → Bool} : ∀ {l : List α}, (∀ t ∈ l, (P t = true ↔ Q t = true ∨ R t = true) ∧ ¬ (Q t = true ∧ R t = true)) → l.countP P = l.countP Q + l.countP R
  | [], _ => by simp
  | a :: l, h => by
    have ih := countP_eq_add (l := l) (fun t ht => h t (by simp [ht]))
    obtain ⟨h1, h2⟩ := h a (by simp)
    simp only [List.countP_cons, ih]
    cases hp : P a <;> cases hq : Q a <;> cases hr : R a <;> simp [hp, hq, hr] at h1 h2 ⊢ <;> omega

/-- how many tones begin above p and are met -/
def cntX (ts : List Tone) (p : Int) (x : List Int) : Nat := ts.countP fun t => decide (p < t.1) && x.any (onT t)
theorem onT_iff (t : Tone) (y : Int) : onT t y = true ↔ t.1 ≤ y ∧ y ≤ t.2.1 := by simp [onT]
theorem anyT_iff (t : Tone) (x : List Int) : x.any (onT t) = true ↔ ∃ y ∈ x, t.1 ≤ y ∧ y ≤ t.2.1 := by
  rw [List.any_eq_true]; exact ⟨fun ⟨y, a, b⟩ => ⟨y, a, (onT_iff t y).1 b⟩, fun ⟨y, a, b⟩ => ⟨y, a, (onT_iff t y).2 b⟩⟩
section
variable {ts : List Tone} (hb : ByHi ts) (h0 : ∀ t ∈ ts, 0 ≤ t.1 ∧ t.1 ≤ t.2.1)
include hb h0
theorem ends_iff (y : Int) : y ∈ endsOf ts ↔ y = -1 ∨ ∃ t ∈ ts, t.2.1 = y := by
  unfold endsOf
  have hord : ((-1) :: ts.map (·.2.1)).Pairwise (· ≤ ·) := List.pairwise_cons.2 ⟨fun a ha => by obtain ⟨t, ht, rfl⟩ := List.mem_map.1 ha; have := h0 t ht; omega, by rw [List.pairwise_map]; exact hb⟩
  rw [List.mem_reverse, dedup_mem hord, List.mem_cons, List.mem_map]
theorem best_upper : ∀ (x : List Int) (j : Nat) (p : Int), Rises x → x.length ≤ j → (cntX ts p x : Int) ≤ (bestT ts j p).1
  | [], j, p, _, _ => by
    have : cntX ts p [] = 0 := by simp [cntX]
    rw [this]; exact (bestT_bound ts j p).1
  | x0 :: xs, 0, p, _, h => by simp at h
  | x0 :: xs, i + 1, p, hr, hl => by
    unfold Rises at hr
    rw [List.pairwise_cons] at hr
    have hl' : xs.length ≤ i := by simpa using hl
    have far : ∀ t ∈ ts, (x0 :: xs).any (onT t) = true → x0 ≤ t.2.1 := fun t _ ht => by
      obtain ⟨y, hy, k1, k2⟩ := (anyT_iff t _).1 ht
      rcases List.mem_cons.1 hy with rfl | hy
      · exact k2
      · have := hr.1 y hy; omega
    cases hF : ts.filter (fun t => decide (x0 ≤ t.2.1)) with
    | nil =>
      have : cntX ts p (x0 :: xs) = 0 := by
        unfold cntX
        rw [List.countP_eq_zero]
        intro t ht k
        have h1 := far t ht ((Bool.and_eq_true _ _).mp k).2
        have h2 : t ∈ ts.filter (fun t => decide (x0 ≤ t.2.1)) := List.mem_filter.2 ⟨ht, by simpa using h1⟩
        rw [hF] at h2; cases h2
      rw [this]; exact (bestT_bound ts _ p).1
    | cons e F =>
      have he : e ∈ ts.filter (fun t => decide (x0 ≤ t.2.1)) := by rw [hF]; simp
      obtain ⟨he1, he2⟩ := List.mem_filter.1 he
      have he2' : x0 ≤ e.2.1 := by simpa using he2
      have hmin : ∀ t ∈ ts, x0 ≤ t.2.1 → e.2.1 ≤ t.2.1 := fun t ht hx => by
        have h2 : t ∈ ts.filter (fun t => decide (x0 ≤ t.2.1)) := List.mem_filter.2 ⟨ht, by simpa using hx⟩
        have hp : (ts.filter (fun t => decide (x0 ≤ t.2.1))).Pairwise fun a b => a.2.1 ≤ b.2.1 := List.Pairwise.sublist List.filter_sublist hb
        rw [hF] at h2 hp
        rw [List.pairwise_cons] at hp
        rcases List.mem_cons.1 h2 with rfl | h2
        · omega
        · exact hp.1 t h2
      by_cases hpe : e.2.1 ≤ p
      · have h1 := best_upper xs i p hr.2 hl'
        have h2 := bestT_mono ts i p
        have h3 : cntX ts p (x0 :: xs) ≤ cntX ts p xs := by
          unfold cntX
          refine List.countP_mono_left fun t ht k => ?_
          obtain ⟨k1, k2⟩ := (Bool.and_eq_true _ _).mp k
          rw [k1, Bool.true_and]
          obtain ⟨y, hy, y1, y2⟩ := (anyT_iff t _).1 k2
          rcases List.mem_cons.1 hy with rfl | hy
          · have := of_decide_eq_true k1; omega
          · exact (anyT_iff t _).2 ⟨y, hy, y1, y2⟩
        omega
      · have h1 := best_upper xs i e.2.1 hr.2 hl'
        have h2 := bestT_ge (ts := ts) i ((ends_iff hb h0 e.2.1).2 (.inr ⟨e, he1, rfl⟩)) (show p < e.2.1 by omega)
        have h3 : cntX ts p (x0 :: xs) ≤ cnt ts p e.2.1 + cntX ts e.2.1 xs := by
          unfold cntX cnt
          refine countP_le_add fun t ht k => ?_
          obtain ⟨k1, k2⟩ := (Bool.and_eq_true _ _).mp k
          have hx0 := far t ht k2
          have hm := hmin t ht hx0
          rw [Bool.and_eq_true, Bool.and_eq_true, onT_iff, anyT_iff]
          by_cases hlo : t.1 ≤ e.2.1
          · exact .inl ⟨k1, hlo, hm⟩
          · obtain ⟨y, hy, y1, y2⟩ := (anyT_iff t _).1 k2
            refine .inr ⟨decide_eq_true (by omega), y, ?_, y1, y2⟩
            rcases List.mem_cons.1 hy with rfl | hy
            · omega
            · exact hy
        omega
omit hb h0 in
theorem outT_facts : ∀ (j : Nat) (p : Int), -1 ≤ p → Rises (outT ts j p) ∧ (∀ y ∈ outT ts j p, p < y ∧ y ∈ endsOf ts) ∧ (outT ts j p).length ≤ j ∧ (cntX ts p (outT ts j p) : Int) = (bestT ts j p).1
  | 0, p, _ => ⟨by simp [outT, Rises], by simp [outT], by simp [outT], by simp [outT, cntX, bestT]⟩
  | j + 1, p, hp => by
    rcases bestT_in ts (j + 1) p with h | ⟨y, hy, hpy, i, hi, h⟩
    · have e : outT ts (j + 1) p = [] := by show (if _ then _ else _) = _; rw [if_pos h]
      rw [e, h]
      exact ⟨by simp [Rises], by simp, by simp, by simp [cntX]⟩
    · obtain rfl : i = j := by omega
      have e : outT ts (i + 1) p = y :: outT ts i y := by
        show (if _ then _ else _) = _
        rw [h, if_neg (by intro k; have := congrArg Prod.snd k; dsimp only at this; omega)]
      obtain ⟨i1, i2, i3, i4⟩ := outT_facts i y (by omega)
      rw [e, h]
      refine ⟨List.pairwise_cons.2 ⟨fun z hz => (i2 z hz).1, i1⟩, fun z hz => ?_, by simpa using i3, ?_⟩
      · rcases List.mem_cons.1 hz with rfl | hz
        · exact ⟨hpy, hy⟩
        · exact ⟨by have := (i2 z hz).1; omega, (i2 z hz).2⟩
      · dsimp only
        rw [← i4]
        have : cntX ts p (y :: outT ts i y) = cnt ts p y + cntX ts y (outT ts i y) := by
          unfold cntX cnt
          refine countP_eq_add fun t ht => ?_
          simp only [Bool.and_eq_true, decide_eq_true_eq, onT_iff, anyT_iff]
          constructor
          · constructor
            · rintro ⟨k1, z, hz, z1, z2⟩
              by_cases hon : t.1 ≤ y ∧ y ≤ t.2.1
              · exact .inl ⟨k1, hon⟩
              · rcases List.mem_cons.1 hz with rfl | hz
                · exact absurd ⟨z1, z2⟩ hon
                · have := (i2 z hz).1
                  exact .inr ⟨by omega, z, hz, z1, z2⟩
            · rintro (⟨k1, k2⟩ | ⟨k1, z, hz, k2⟩)
              · exact ⟨k1, y, by simp, k2⟩
              · exact ⟨by omega, z, by simp [hz], k2⟩
          · rintro ⟨⟨_, k1⟩, k2, _⟩; omega
        omega
end
/-- how many ranges are met -/
def hits (l : List Rg) (x : List Int) : Nat := l.countP fun r => x.any (onR r)
theorem tonesUp_rT (l : List Rg) : (tonesUp l l.length).map rT = l := by
  apply List.ext_getElem
  · simp [tonesUp]
  · intro i h1 h2
    simp [tonesUp, rT, List.getD_eq_getElem?_getD, List.getElem?_eq_getElem h2]
theorem cntX_hits {l : List Rg} {ts : List Tone} (h : Sorted l ts) (hg : GoodR l) (x : List Int) : cntX ts (-1) x = hits l x := by
  unfold hits
  rw [← tonesUp_rT l, List.countP_map, ← h.1.countP_eq]
  unfold cntX
  refine List.countP_congr fun t ht => ?_
  have := tones_start h hg t ht
  simp only [decide_eq_true this, Bool.true_and, Function.comp]
  rfl
theorem hits_le (l : List Rg) (x : List Int) : hits l x ≤ l.length := List.countP_le_length
theorem hits_all {l : List Rg} {x : List Int} : hits l x = l.length ↔ ∀ r ∈ l, Hit x r := by
  unfold hits
  rw [List.countP_eq_length]
  exact ⟨fun h r hr => (hit_iff x r).1 (h r hr), fun h r hr => (hit_iff x r).2 (h r hr)⟩
theorem metUp_hits (l : List Rg) (x : List Int) : (metUp l x l.length).length = hits l x := by
  have key : ∀ k, k ≤ l.length → (metUp l x k).length = (l.take k).countP fun r => x.any (onR r) := by
    intro k
    induction k with
    | zero => intro _; simp [metUp]
    | succ k ih =>
      intro hk
      have hk' : k < l.length := by omega
      rw [take_snoc hk' rfl, List.countP_append, ← ih (by omega)]
      cases hm : isMet l x k with
      | true => rw [metUp_yes hm]; rw [isMet_get hk' rfl] at hm; simp [hm]
      | false => rw [metUp_no hm]; rw [isMet_get hk' rfl] at hm; simp [hm]
  rw [key _ (Nat.le_refl _), List.take_length]; rfl
section
variable {l : List Rg} {ts : List Tone} (h : Sorted l ts) (hg : GoodR l)
include h hg
theorem tones_good : ∀ t ∈ ts, 0 ≤ t.1 ∧ t.1 ≤ t.2.1 := fun t ht => by
  have := hg (rT t) ((sorted_rT h _).2 ⟨t, ht, rfl⟩); unfold rT at this; dsimp only at this; omega
theorem tones_cents : ∀ t ∈ ts, 0 ≤ t.2.1 ∧ t.2.1 ≤ 10000 := fun t ht => by
  have := hg (rT t) ((sorted_rT h _).2 ⟨t, ht, rfl⟩); unfold rT at this; dsimp only at this; omega
theorem most_facts (k : Nat) : Rises (outT ts k (-1)) ∧ InCents (outT ts k (-1)) ∧ (outT ts k (-1)).length ≤ k ∧ (hits l (outT ts k (-1)) : Int) = (bestT ts k (-1)).1 ∧ ∀ y ∈ outT ts k (-1), ∃ r ∈ l, r.2 = y := by
  obtain ⟨a, b, c, d⟩ := outT_facts k (-1) (by omega)
  refine ⟨a, fun y hy => ?_, c, by rw [← d, cntX_hits h hg], fun y hy => ?_⟩
  · obtain ⟨b1, b2⟩ := b y hy
    have := endsOf_inB h.2 (tones_cents h hg) y b2
    omega
  · obtain ⟨b1, b2⟩ := b y hy
    rcases (ends_iff h.2 (tones_good h hg) y).1 b2 with e | ⟨t, ht, e⟩
    · omega
    · exact ⟨rT t, (sorted_rT h _).2 ⟨t, ht, rfl⟩, e⟩
theorem most_best (k : Nat) {x : List Int} (hx : Rises x) (hl : x.length ≤ k) : (hits l x : Int) ≤ (bestT ts k (-1)).1 := by
  rw [← cntX_hits h hg]; exact best_upper h.2 (tones_good h hg) x k (-1) hx hl
end

/-- a rising list with one number more -/
def putM (x : Int) : List Int → List Int
  | [] => [x]
  | y :: s => if y < x then y :: putM x s else if x < y then x :: y :: s else y :: s
theorem putM_mem (x z : Int) : ∀ s : List Int, z ∈ putM x s ↔ z = x ∨ z ∈ s
  | [] => by simp [putM]
  | y :: s => by
    simp only [putM]
    by_cases h1 : y < x
    · rw [if_pos h1, List.mem_cons, putM_mem x z s, List.mem_cons]
      exact ⟨fun h => h.elim (fun e => .inr (.inl e)) (fun h => h.elim .inl (fun h => .inr (.inr h))), fun h => h.elim (fun e => .inr (.inl e)) (fun h => h.elim .inl (fun h => .inr (.inr h)))⟩
    · rw [if_neg h1]
      by_cases h2 : x < y
      · rw [if_pos h2, List.mem_cons]
      · rw [if_neg h2]
        obtain rfl : x = y := by omega
        simp
theorem putM_rises (x : Int) : ∀ {s : List Int}, Rises s → Rises (putM x s)
  | [], _ => by simp [putM, Rises]
  | y :: s, h => by
    unfold Rises at h
    rw [List.pairwise_cons] at h
    simp only [putM]
    by_cases h1 : y < x
    · rw [if_pos h1]
      refine List.pairwise_cons.2 ⟨fun z hz => ?_, putM_rises x h.2⟩
      rcases (putM_mem x z s).1 hz with rfl | hz
      · exact h1
      · exact h.1 z hz
    · rw [if_neg h1]
      by_cases h2 : x < y
      · rw [if_pos h2]
        refine List.pairwise_cons.2 ⟨fun z hz => ?_, List.pairwise_cons.2 h⟩
        rcases List.mem_cons.1 hz with rfl | hz
        · exact h2
        · have := h.1 z hz; omega
      · rw [if_neg h2]; exact List.pairwise_cons.2 h
theorem putM_len (x : Int) : ∀ s : List Int, (putM x s).length ≤ s.length + 1
  | [] => by simp [putM]
  | y :: s => by
    have := putM_len x s
    simp only [putM]
    split
    · simp only [List.length_cons]; omega
    · split <;> simp only [List.length_cons] <;> omega
/-- as put does it: from the first number on that is not smaller -/
def putS (x : Int) (s : List Int) : List Int := if s.any (fun y => decide (x ≤ y)) then putM x s else s
theorem putM_far (x y : Int) (h : x ≤ y) : ∀ s : List Int, s.any (fun y => decide (x ≤ y)) = false → putM x (s ++ [y]) = s ++ (if x < y then [x, y] else [y])
  | [], _ => by simp only [List.nil_append, putM]; rw [if_neg (by omega)]
  | z :: s, hs => by
    simp only [List.any_cons, Bool.or_eq_false_iff, decide_eq_false_iff_not] at hs
    simp only [List.cons_append, putM]
    rw [if_pos (by omega), putM_far x y h s hs.2]
theorem putM_past (x y : Int) : ∀ s : List Int, s.any (fun y => decide (x ≤ y)) = true → putM x (s ++ [y]) = putM x s ++ [y]
  | [], hs => by simp at hs
  | z :: s, hs => by
    simp only [List.any_cons, Bool.or_eq_true, decide_eq_true_eq] at hs
    simp only [List.cons_append, putM]
    by_cases h1 : z < x
    · rw [if_pos h1, if_pos h1, putM_past x y s (by rcases hs with h | h; omega; exact h)]; rfl
    · rw [if_neg h1, if_neg h1]
      by_cases h2 : x < z
      · rw [if_pos h2, if_pos h2]; rfl
      · rw [if_neg h2, if_neg h2]; rfl
theorem putM_end (x : Int) : ∀ s : List Int, s.any (fun y => decide (x ≤ y)) = false → putM x s = s ++ [x]
  | [], _ => rfl
  | z :: s, hs => by
    simp only [List.any_cons, Bool.or_eq_false_iff, decide_eq_false_iff_not] at hs
    simp only [List.cons_append, putM]
    rw [if_pos (by omega), putM_end x s hs.2]
theorem hit_putM {x : Int} {s : List Int} {r : Rg} (h : Hit s r ∨ r.1 ≤ x ∧ x ≤ r.2) : Hit (putM x s) r := by
  rcases h with ⟨y, hy, k⟩ | k
  · exact ⟨y, (putM_mem x y s).2 (.inr hy), k⟩
  · exact ⟨x, (putM_mem x x s).2 (.inl rfl), k⟩
/-- one step more meets one tone more, if some are not met -/
theorem hits_more {l : List Rg} {s : List Int} {r : Rg} (hg : r.1 ≤ r.2) (hr : r ∈ l) (hn : ¬ Hit s r) : hits l s < hits l (putM r.2 s) := by
  obtain ⟨a, b, rfl⟩ := List.append_of_mem hr
  unfold hits
  simp only [List.countP_append, List.countP_cons]
  have m : ∀ q : List Rg, q.countP (fun r => s.any (onR r)) ≤ q.countP fun q => (putM r.2 s).any (onR q) := fun q =>
    List.countP_mono_left fun t _ k => (hit_iff _ t).2 (hit_putM (.inl ((hit_iff _ t).1 k)))
  have h1 := m a
  have h2 := m b
  have h3 : s.any (onR r) = false := by
    cases hc : s.any (onR r) with
    | true => exact absurd ((hit_iff s r).1 hc) hn
    | false => rfl
  have h4 : (putM r.2 s).any (onR r) = true := (hit_iff _ r).2 (hit_putM (.inr ⟨hg, Int.le_refl _⟩))
  rw [h3, h4]
  simp only [if_true, Bool.false_eq_true, if_false]
  omega
end Go.Proofs.Ytkjmeeggjmeajaa
