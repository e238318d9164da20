/- Plain: kinds of links and items of a sheet, by its greatest joinings. -/
import Derived.Test.YtoogfdicmpkkgaaB7
import Derived.Test.YtoogfdicmpkkgaaPG
namespace Go.Proofs.Ytoogfdicmpkkgaa
open Match

/-- the known links, as pairs -/
def pairsK (s : Sh) : List Pr := s.t.map (atL s.l)
theorem away_iff {a b : Int × Int} : meetB a b = false ↔ Away a b := by
  unfold meetB Away
  rw [Bool.or_eq_false_iff, beq_eq_false_iff_ne, beq_eq_false_iff_ne]
theorem apart_away {l : List (Int × Int)} {a b : Int} : Apart l a b ↔ Away (atL l a) (atL l b) := away_iff
theorem Sheet.bound {s : Sh} (h : Sheet s.L s.R s.l s.t) : ∀ x ∈ s.t, 0 ≤ x ∧ x < s.l.length := fun x hx => by
  have := (rise_iff.1 h.rise).2 x hx
  omega
theorem Sheet.nodup {s : Sh} (h : Sheet s.L s.R s.l s.t) : s.l.Nodup := apart_iff.1 h.apart
theorem atL_mem {l : List (Int × Int)} {x : Int} (h0 : 0 ≤ x) (h1 : x < l.length) : atL l x ∈ l := by
  obtain ⟨k, rfl⟩ := Int.eq_ofNat_of_zero_le h0
  rw [atL_eq (by omega)]
  exact List.getElem_mem _
theorem atL_inj {l : List (Int × Int)} (h : l.Nodup) {a b : Int} (a0 : 0 ≤ a) (a1 : a < l.length) (b0 : 0 ≤ b) (b1 : b < l.length) (e : atL l a = atL l b) : a = b := by
  obtain ⟨i, rfl⟩ := Int.eq_ofNat_of_zero_le a0
  obtain ⟨j, rfl⟩ := Int.eq_ofNat_of_zero_le b0
  have hi : i < l.length := by omega
  have hj : j < l.length := by omega
  rw [atL_eq hi, atL_eq hj] at e
  rw [List.Nodup, List.pairwise_iff_getElem] at h
  rcases Nat.lt_trichotomy i j with c | c | c
  · exact absurd e (h i j hi hj c)
  · rw [c]
  · exact absurd e.symm (h j i hj hi c)
theorem atL_of_mem {l : List (Int × Int)} {x : Pr} (h : x ∈ l) : ∃ k : Nat, k < l.length ∧ atL l k = x := by
  obtain ⟨k, hk, rfl⟩ := List.mem_iff_getElem.1 h
  exact ⟨k, hk, atL_eq hk⟩
theorem Sheet.ps {s : Sh} (h : Sheet s.L s.R s.l s.t) : PS s.l (pairsK s) := by
  constructor
  · unfold pairsK
    rw [List.pairwise_map]
    exact (single_iff.1 h.single).imp fun h => apart_away.1 h
  · intro y hy
    obtain ⟨x, hx, rfl⟩ := List.mem_map.1 hy
    have := h.bound x hx
    exact atL_mem this.1 this.2
theorem Sheet.known_iff {s : Sh} (h : Sheet s.L s.R s.l s.t) {k : Nat} (hk : k < s.l.length) : atL s.l k ∈ pairsK s ↔ (k : Int) ∈ s.t := by
  constructor
  · intro hm
    obtain ⟨x, hx, e⟩ := List.mem_map.1 hm
    have hb := h.bound x hx
    have := atL_inj h.nodup hb.1 hb.2 (by omega) (by omega) e
    rwa [this] at hx
  · exact fun hm => List.mem_map.2 ⟨_, hm, rfl⟩
/-- the allowed links, as pairs -/
def imgE (s : Sh) (p : Nat → Bool) (x : Pr) : Prop := ∃ k : Nat, k < s.l.length ∧ p k = true ∧ atL s.l k = x
theorem img_pick {s : Sh} {p : Nat → Bool} : ∀ G : List Pr, (∀ x ∈ G, imgE s p x) → ∃ M : List Nat, (∀ k ∈ M, k < s.l.length ∧ p k = true) ∧ M.map (fun k : Nat => atL s.l k) = G
  | [], _ => ⟨[], by simp, rfl⟩
  | x :: G, h => by
    obtain ⟨M, h1, h2⟩ := img_pick G fun y hy => h y (List.mem_cons_of_mem _ hy)
    obtain ⟨k, h3, h4, h5⟩ := h x (by simp)
    refine ⟨k :: M, fun j hj => ?_, by rw [List.map_cons, h2, h5]⟩
    rcases List.mem_cons.1 hj with rfl | hj
    · exact ⟨h3, h4⟩
    · exact h1 j hj
theorem Sheet.net_away {s : Sh} (h : Sheet s.L s.R s.l s.t) {a b : Nat} (ha : a < s.l.length) (hb : b < s.l.length) : (((netOf s.l).e a).1 ≠ ((netOf s.l).e b).1 ∧ ((netOf s.l).e a).2 ≠ ((netOf s.l).e b).2) ↔ Away (atL s.l a) (atL s.l b) :=
  (apart_net h ha hb).symm.trans apart_away
theorem most_img {s : Sh} {p : Nat → Bool} {n : Nat} (h : Sheet s.L s.R s.l s.t) (hm : IsMost (netOf s.l) p n) : MostE (imgE s p) n := by
  obtain ⟨⟨M, ⟨h1, h2⟩, h3⟩, h4⟩ := hm
  refine ⟨⟨M.map (fun k : Nat => atL s.l k), ⟨?_, fun x hx => ?_, fun _ h => h.elim⟩, by rw [List.length_map, h3]⟩, fun G hG => ?_⟩
  · rw [List.pairwise_map]
    exact List.Pairwise.imp_of_mem (fun {a b} ha hb hab => (h.net_away (h1 a ha).1 (h1 b hb).1).1 hab) h2
  · obtain ⟨k, hk, rfl⟩ := List.mem_map.1 hx
    exact ⟨k, (h1 k hk).1, (h1 k hk).2, rfl⟩
  · obtain ⟨M', k1, k2⟩ := img_pick G hG.links
    have := h4 M' ⟨k1, by
      have k3 := hG.apart
      rw [← k2, List.pairwise_map] at k3
      exact List.Pairwise.imp_of_mem (fun {a b} ha hb hab => (h.net_away (k1 a ha).1 (k1 b hb).1).2 hab) k3⟩
    rw [← k2, List.length_map]
    exact this
theorem free_pair {s : Sh} {k : Nat} (hk : k < s.l.length) : freeP s k = true ↔ FreeE s.l (pairsK s) (atL s.l k) := by
  rw [free_iff]
  constructor
  · intro h
    refine ⟨atL_mem (by omega) (by omega), fun y hy => ?_⟩
    obtain ⟨x, hx, rfl⟩ := List.mem_map.1 hy
    exact apart_away.1 (h x hx)
  · rintro ⟨_, h⟩ x hx
    exact apart_away.2 (h _ (List.mem_map.2 ⟨x, hx, rfl⟩))
theorem img_free {s : Sh} (x : Pr) : imgE s (freeP s) x ↔ FreeE s.l (pairsK s) x := by
  constructor
  · rintro ⟨k, h1, h2, rfl⟩
    exact (free_pair h1).1 h2
  · intro h
    obtain ⟨k, h1, rfl⟩ := atL_of_mem h.1
    exact ⟨k, h1, (free_pair h1).2 h, rfl⟩
theorem img_none {s : Sh} (h : Sheet s.L s.R s.l s.t) {k : Nat} (hk : k < s.l.length) (x : Pr) : imgE s (noneOf s k) x ↔ FreeE s.l (pairsK s) x ∧ x ≠ atL s.l k := by
  constructor
  · rintro ⟨j, h1, h2, rfl⟩
    unfold noneOf at h2
    rw [Bool.and_eq_true, decide_eq_true_eq] at h2
    exact ⟨(free_pair h1).1 h2.1, fun e => h2.2 (by have := atL_inj h.nodup (by omega) (by omega) (by omega) (by omega) e; omega)⟩
  · rintro ⟨h1, h2⟩
    obtain ⟨j, h3, rfl⟩ := atL_of_mem h1.1
    refine ⟨j, h3, ?_, rfl⟩
    unfold noneOf
    rw [Bool.and_eq_true, decide_eq_true_eq]
    exact ⟨(free_pair h3).2 h1, fun e => h2 (by rw [e])⟩
theorem img_far {s : Sh} {k : Nat} (x : Pr) : imgE s (farOf s k) x ↔ FreeE s.l (pairsK s) x ∧ Away x (atL s.l k) := by
  constructor
  · rintro ⟨j, h1, h2, rfl⟩
    unfold farOf at h2
    rw [Bool.and_eq_true, Bool.and_eq_true, decide_eq_true_eq, decide_eq_true_eq] at h2
    exact ⟨(free_pair h1).1 h2.1.1, h2.1.2, h2.2⟩
  · rintro ⟨h1, h2⟩
    obtain ⟨j, h3, rfl⟩ := atL_of_mem h1.1
    refine ⟨j, h3, ?_, rfl⟩
    unfold farOf
    rw [Bool.and_eq_true, Bool.and_eq_true, decide_eq_true_eq, decide_eq_true_eq]
    exact ⟨⟨(free_pair h3).2 h1, h2.1⟩, h2.2⟩
/-- the links of an item -/
def itemOf (right : Bool) (x : Pr) : Int := bif right then x.2 else x.1
theorem ofS_item {s : Sh} {right : Bool} {k : Nat} : ofS s right k = itemOf right (atL s.l k) := rfl
theorem img_rest {s : Sh} {right : Bool} {i : Nat} (x : Pr) : imgE s (restOf s right i) x ↔ FreeE s.l (pairsK s) x ∧ ¬ itemOf right x = i := by
  constructor
  · rintro ⟨j, h1, h2, rfl⟩
    unfold restOf at h2
    rw [Bool.and_eq_true, decide_eq_true_eq, ofS_item] at h2
    exact ⟨(free_pair h1).1 h2.1, h2.2⟩
  · rintro ⟨h1, h2⟩
    obtain ⟨j, h3, rfl⟩ := atL_of_mem h1.1
    refine ⟨j, h3, ?_, rfl⟩
    unfold restOf
    rw [Bool.and_eq_true, decide_eq_true_eq, ofS_item]
    exact ⟨(free_pair h3).2 h1, h2⟩
theorem Sheet.most_free {s : Sh} (h : Sheet s.L s.R s.l s.t) : MostE (FreeE s.l (pairsK s)) (mostS s) := (most_img h (mostOf_is _ _)).congr img_free
theorem Sheet.gr_ex {s : Sh} (h : Sheet s.L s.R s.l s.t) : ∃ G, Gr (· ∈ s.l) (· ∈ pairsK s) G := h.ps.gr_ex h.most_free
theorem pairsK_len (s : Sh) : (pairsK s).length = s.t.length := by unfold pairsK; simp
theorem Sheet.gr_iff {s : Sh} (h : Sheet s.L s.R s.l s.t) {G : List Pr} : Gr (· ∈ s.l) (· ∈ pairsK s) G ↔ Jn (· ∈ s.l) (· ∈ pairsK s) G ∧ G.length = mostS s + s.t.length := by
  rw [h.ps.gr_iff h.most_free, pairsK_len]
theorem kindV_free {n a b : Nat} : kindV false true n a b = if a < n then 2 else if 1 + b = n then 1 else 0 := by
  unfold kindV; by_cases h : a < n <;> by_cases h2 : 1 + b = n <;> simp [h, h2]
/-- the kind of a link says in which greatest joinings it is -/
theorem Sheet.kind {s : Sh} (h : Sheet s.L s.R s.l s.t) {k : Nat} (hk : k < s.l.length) : KindG (· ∈ s.l) (· ∈ pairsK s) (atL s.l k) (kindC s k) := by
  refine h.ps.kind (n := mostOf (netOf s.l) (freeP s)) (a := mostOf (netOf s.l) (noneOf s k)) (b := mostOf (netOf s.l) (farOf s k)) h.most_free (atL_mem (by omega) (by omega)) (fun _ => (most_img h (mostOf_is _ _)).congr (img_none h hk)) (fun _ => (most_img h (mostOf_is _ _)).congr img_far) (fun hm => ?_) (fun hm hf => ?_) (fun hf => ?_)
  · unfold kindC
    rw [show s.t.contains (k : Int) = true by simpa using (h.known_iff hk).1 hm]
    rfl
  · unfold kindC
    rw [show s.t.contains (k : Int) = false by simpa using fun e => hm ((h.known_iff hk).2 e), show freeP s k = false from (Bool.eq_false_iff.2 fun e => hf ((free_pair hk).1 e))]
    rfl
  · have hfp := (free_pair hk).2 hf
    unfold kindC
    rw [show s.t.contains (k : Int) = false by simpa using free_not_known hfp, hfp]
    exact kindV_free
theorem kindC_vals {s : Sh} {k : Nat} : kindC s k = 0 ∨ kindC s k = 1 ∨ kindC s k = 2 := by
  unfold kindC kindV
  split
  · simp
  · split <;> simp
theorem maxK_is {f : Nat → Int} {ks : List Int} {i : Nat} (h0 : ∀ j, 0 ≤ ks.getD j 0) : ∀ m, 0 ≤ maxK f ks m i ∧ (∀ j, j < m → f j = i → ks.getD j 0 ≤ maxK f ks m i) ∧ (maxK f ks m i = 0 ∨ ∃ j, j < m ∧ f j = i ∧ ks.getD j 0 = maxK f ks m i)
  | 0 => ⟨by simp [maxK], fun j hj => by omega, .inl rfl⟩
  | m + 1 => by
    obtain ⟨h1, h2, h3⟩ := maxK_is h0 m
    have := h0 m
    by_cases e : f m = i
    · have e' : maxK f ks (m + 1) i = max (maxK f ks m i) (ks.getD m 0) := by rw [maxK, if_pos e]
      rw [e']
      refine ⟨by omega, fun j hj hji => ?_, ?_⟩
      · rcases Nat.lt_succ_iff_lt_or_eq.1 hj with hj | rfl
        · have := h2 j hj hji; omega
        · omega
      · by_cases c : maxK f ks m i ≤ ks.getD m 0
        · exact .inr ⟨m, by omega, e, by omega⟩
        · rcases h3 with h3 | ⟨j, h4, h5, h6⟩
          · omega
          · exact .inr ⟨j, by omega, h5, by omega⟩
    · have e' : maxK f ks (m + 1) i = maxK f ks m i := by rw [maxK, if_neg e]
      rw [e']
      refine ⟨h1, fun j hj hji => ?_, ?_⟩
      · rcases Nat.lt_succ_iff_lt_or_eq.1 hj with hj | rfl
        · exact h2 j hj hji
        · exact absurd hji e
      · rcases h3 with h3 | ⟨j, h4, h5, h6⟩
        · exact .inl h3
        · exact .inr ⟨j, by omega, h5, h6⟩
theorem kindsC_ge (s : Sh) (j : Nat) : 0 ≤ (kindsC s).getD j 0 := by
  by_cases h : j < s.l.length
  · rw [kindsC_at s h]
    rcases kindC_vals (s := s) (k := j) with e | e | e <;> omega
  · rw [List.getD_eq_getElem?_getD, List.getElem?_eq_none (by rw [kindsC_len]; omega)]; simp
/-- the kind of an item says which greatest joinings join it -/
theorem Sheet.item {s : Sh} (h : Sheet s.L s.R s.l s.t) (right : Bool) (i : Nat) : ItemG (· ∈ s.l) (· ∈ pairsK s) (fun x => itemOf right x = i) (itemC s right i) := by
  obtain ⟨m0, m1, m2⟩ := maxK_is (f := ofS s right) (i := i) (kindsC_ge s) s.l.length
  have hk : ∀ j, j < s.l.length → KindG (· ∈ s.l) (· ∈ pairsK s) (atL s.l j) ((kindsC s).getD j 0) := fun j hj => by rw [kindsC_at s hj]; exact h.kind hj
  unfold itemC
  generalize maxK (ofS s right) (kindsC s) s.l.length i = v at m0 m1 m2 ⊢
  have hv : v ≤ 2 := by
    rcases m2 with e | ⟨j, h1, h2, h3⟩
    · omega
    · rw [kindsC_at s h1] at h3
      rcases kindC_vals (s := s) (k := j) with e | e | e <;> omega
  by_cases v1 : v = 1
  · rw [if_neg (by omega)]
    obtain ⟨j, h1, h2, h3⟩ : ∃ j, j < s.l.length ∧ ofS s right j = i ∧ (kindsC s).getD j 0 = v := by
      rcases m2 with e | e
      · omega
      · exact e
    have hno : ∀ y ∈ pairsK s, ¬ itemOf right y = (i : Int) := fun y hy e => by
      obtain ⟨x, hx, rfl⟩ := List.mem_map.1 hy
      have hb := h.bound x hx
      obtain ⟨k, rfl⟩ := Int.eq_ofNat_of_zero_le hb.1
      have h4 := m1 k (by omega) e
      rw [kindsC_at s (by omega)] at h4
      have : kindC s k = 2 := by
        unfold kindC
        rw [show s.t.contains (k : Int) = true by simpa using hx]; rfl
      omega
    have hl := h.ps.less (D := fun x => itemOf right x = (i : Int)) (a := mostOf (netOf s.l) (restOf s right i)) h.most_free hno ((most_img h (mostOf_is _ _)).congr img_rest)
    unfold mostS at hl
    by_cases c : mostOf (netOf s.l) (restOf s right i) < mostOf (netOf s.l) (freeP s)
    · rw [if_pos c]
      exact .inl ⟨rfl, hl.1 c⟩
    · rw [if_neg c]
      refine .inr (.inr ⟨rfl, ?_, ?_⟩)
      · obtain ⟨⟨G, h5, h6⟩, _⟩ := (hk j h1).one (h3.trans v1)
        exact ⟨G, h5, _, h6, h2⟩
      · refine Classical.byContradiction fun hn => c (hl.2 fun G hG => Classical.byContradiction fun hm => hn ⟨G, hG, fun x hx e => hm ⟨x, hx, e⟩⟩)
  · rw [if_pos v1]
    by_cases v2 : v = 2
    · obtain ⟨j, h1, h2, h3⟩ : ∃ j, j < s.l.length ∧ ofS s right j = i ∧ (kindsC s).getD j 0 = v := by
        rcases m2 with e | e
        · omega
        · exact e
      exact .inl ⟨v2, fun G hG => ⟨_, (hk j h1).two (h3.trans v2) G hG, h2⟩⟩
    · have v0 : v = 0 := by omega
      refine .inr (.inl ⟨v0, fun G hG x hx e => ?_⟩)
      obtain ⟨j, hj, rfl⟩ := atL_of_mem (hG.jn.links x hx)
      have h4 := m1 j hj e
      have h5 := kindsC_ge s j
      exact (hk j hj).zero (by omega) G hG hx
/-- a joining, as pairs -/
theorem IsJ.jn {s : Sh} {j : List Int} (hj : IsJ s j) : Jn (· ∈ s.l) (· ∈ pairsK s) (j.map (atL s.l)) := by
  refine ⟨?_, fun x hx => ?_, fun x hx => ?_⟩
  · rw [List.pairwise_map]
    exact hj.single.imp fun h => apart_away.1 h
  · obtain ⟨y, hy, rfl⟩ := List.mem_map.1 hx
    have := hj.bound y hy
    exact atL_mem this.1 this.2
  · obtain ⟨y, hy, rfl⟩ := List.mem_map.1 hx
    exact List.mem_map.2 ⟨y, hj.known y hy, rfl⟩
theorem IsJ.gr {s : Sh} {j : List Int} (h : Sheet s.L s.R s.l s.t) (hj : IsJ s j) (hl : j.length = mostS s + s.t.length) : Gr (· ∈ s.l) (· ∈ pairsK s) (j.map (atL s.l)) :=
  h.gr_iff.2 ⟨hj.jn, by rw [List.length_map, hl]⟩
theorem IsJ.mem {s : Sh} {j : List Int} (h : Sheet s.L s.R s.l s.t) (hj : IsJ s j) {k : Nat} (hk : k < s.l.length) : atL s.l k ∈ j.map (atL s.l) ↔ (k : Int) ∈ j := by
  constructor
  · intro hm
    obtain ⟨y, hy, e⟩ := List.mem_map.1 hm
    have hb := hj.bound y hy
    have := atL_inj h.nodup hb.1 hb.2 (by omega) (by omega) e
    rwa [this] at hy
  · exact fun hm => List.mem_map.2 ⟨_, hm, rfl⟩
/-- a sheet that knows one link more -/
theorem yes_pairs {s : Sh} {k : Nat} (x : Pr) : x ∈ (yesT s.t k).map (atL s.l) ↔ x ∈ pairsK s ∨ x = atL s.l k := by
  unfold pairsK
  simp only [List.mem_map, yesT_mem]
  constructor
  · rintro ⟨y, h1 | rfl, h2⟩
    · exact .inl ⟨y, h1, h2⟩
    · exact .inr h2.symm
  · rintro (⟨y, h1, h2⟩ | rfl)
    · exact ⟨y, .inl h1, h2⟩
    · exact ⟨_, .inr rfl, rfl⟩
theorem most_yes {s : Sh} {k : Nat} (h : Sheet s.L s.R s.l s.t) (hk : k < s.l.length) (hf : freeP s k = true) : mostS (Sh.of s.L s.R s.l (yesT s.t k)) = mostOf (netOf s.l) (farOf s k) := by
  have h' : Sheet (Sh.of s.L s.R s.l (yesT s.t k)).L (Sh.of s.L s.R s.l (yesT s.t k)).R (Sh.of s.L s.R s.l (yesT s.t k)).l (Sh.of s.L s.R s.l (yesT s.t k)).t := yes_sheet h hk hf
  refine h'.most_free.uniq (((most_img h (mostOf_is _ _)).congr img_far).congr fun x => ?_)
  constructor
  · rintro ⟨⟨h1, h2⟩, h3⟩
    refine ⟨h1, fun y hy => ?_⟩
    rcases (yes_pairs (s := s) (k := k) y).1 hy with hy | hy
    · exact h2 y hy
    · rw [hy]; exact h3
  · rintro ⟨h1, h2⟩
    exact ⟨⟨h1, fun y hy => h2 y ((yes_pairs (s := s) (k := k) y).2 (.inl hy))⟩, h2 _ ((yes_pairs (s := s) (k := k) _).2 (.inr rfl))⟩
/-- a sheet without a link -/
theorem no_pairs {s : Sh} {k : Nat} (h : Sheet s.L s.R s.l s.t) (hn : (k : Int) ∉ s.t) : (noT s.t k).map (atL (s.l.eraseIdx k)) = pairsK s := by
  unfold noT pairsK
  rw [List.map_map]
  refine List.map_congr_left fun x hx => ?_
  exact atL_erase (h.bound x hx).1 fun e => hn (by rw [← e]; exact hx)
theorem mem_erase {l : List Pr} (h : l.Nodup) {k : Nat} (hk : k < l.length) (x : Pr) : x ∈ l.eraseIdx k ↔ x ∈ l ∧ x ≠ atL l k := by
  rw [atL_eq hk]
  constructor
  · intro hx
    refine ⟨List.mem_of_mem_eraseIdx hx, fun e => ?_⟩
    obtain ⟨i, hi, e2⟩ := List.mem_eraseIdx_iff_getElem.1 hx
    obtain ⟨hi1, e3⟩ := e2
    rw [List.Nodup, List.pairwise_iff_getElem] at h
    rcases Nat.lt_or_gt_of_ne hi1 with c | c
    · exact h i k hi hk c (e3.trans e)
    · exact h k i hk hi c (e3.trans e).symm
  · rintro ⟨h1, h2⟩
    obtain ⟨i, hi, rfl⟩ := List.mem_iff_getElem.1 h1
    exact List.mem_eraseIdx_iff_getElem.2 ⟨i, hi, fun e => h2 (by subst e; rfl), rfl⟩
theorem most_no {s : Sh} {k : Nat} (h : Sheet s.L s.R s.l s.t) (hk : k < s.l.length) (hn : (k : Int) ∉ s.t) : mostS (Sh.of s.L s.R (s.l.eraseIdx k) (noT s.t k)) = mostOf (netOf s.l) (noneOf s k) := by
  have h' : Sheet (Sh.of s.L s.R (s.l.eraseIdx k) (noT s.t k)).L (Sh.of s.L s.R (s.l.eraseIdx k) (noT s.t k)).R (Sh.of s.L s.R (s.l.eraseIdx k) (noT s.t k)).l (Sh.of s.L s.R (s.l.eraseIdx k) (noT s.t k)).t := no_sheet h hk hn
  have hp : pairsK (Sh.of s.L s.R (s.l.eraseIdx k) (noT s.t k)) = pairsK s := no_pairs h hn
  refine h'.most_free.uniq (((most_img h (mostOf_is _ _)).congr (img_none h hk)).congr fun x => ?_)
  rw [hp]
  unfold FreeE
  rw [show (Sh.of s.L s.R (s.l.eraseIdx k) (noT s.t k)).l = s.l.eraseIdx k from rfl, mem_erase h.nodup hk]
  exact ⟨fun ⟨⟨a, b⟩, c⟩ => ⟨⟨a, c⟩, b⟩, fun ⟨⟨a, c⟩, b⟩ => ⟨⟨a, b⟩, c⟩⟩
end Go.Proofs.Ytoogfdicmpkkgaa
