/- Plain: greatest joinings and covers of a sheet. Plain: how many links a greatest joining has, by trying all lists; kinds, items and asks by it. Rows that grow by several elements; open (of the law). What the program's functions return of a valid sheet, by plain values; and of one that is not valid. -/
import Derived.Test.YtoogfdicmpkkgaaA38
namespace Go.Proofs.Ytoogfdicmpkkgaa
open Go.RowKit Go.Shelf Go.Maps Match

theorem most_by {N : Net} {p : Nat → Bool} {M A B : List Nat} (hM : Join N p M) (hC : Cover N p A B) (h : A.length + B.length ≤ M.length) : IsMost N p M.length :=
  ⟨⟨M, hM, rfl⟩, fun M' h' => by have := weak h' hC; omega⟩
theorem netE {l : List (Int × Int)} {k : Nat} (hk : k < l.length) : (netOf l).e k = (l[k].1.toNat, l[k].2.toNat) := by unfold netOf; dsimp only; rw [atL_eq hk]
theorem Sheet.net {s : Sh} (h : Sheet s.L s.R s.l s.t) {k : Nat} (hk : k < s.l.length) : (((netOf s.l).e k).1 : Int) = (atL s.l k).1 ∧ (((netOf s.l).e k).2 : Int) = (atL s.l k).2 ∧ ((netOf s.l).e k).1 < s.L.toNat ∧ ((netOf s.l).e k).2 < s.R.toNat := by
  have h1 := h.links s.l[k] (List.getElem_mem hk)
  rw [netE hk, atL_eq hk]
  dsimp only
  omega
theorem apart_net {s : Sh} (h : Sheet s.L s.R s.l s.t) {a b : Nat} (ha : a < s.l.length) (hb : b < s.l.length) : Apart s.l a b ↔ ((netOf s.l).e a).1 ≠ ((netOf s.l).e b).1 ∧ ((netOf s.l).e a).2 ≠ ((netOf s.l).e b).2 := by
  have h1 := h.net ha
  have h2 := h.net hb
  unfold Apart meetB
  rw [Bool.or_eq_false_iff]
  simp only [beq_eq_false_iff_ne]
  omega
/-- what a joining of a sheet is -/
structure IsJ (s : Sh) (j : List Int) : Prop where
  rise : j.Pairwise (· < ·)
  bound : ∀ x ∈ j, 0 ≤ x ∧ x < s.l.length
  single : j.Pairwise (Apart s.l)
  known : ∀ x ∈ s.t, x ∈ j
theorem sheetErr_iff {L R : Int} {l : List (Int × Int)} {t : List Int} : sheetErr L R l t = 0 ↔ Sheet L R l t := by
  refine ⟨sheet_ok, fun h => ?_⟩
  unfold sheetErr
  have hd := h.dim
  rw [if_neg (by rw [off2_f (by omega)]; simp), if_neg (by have := h.many; omega), if_neg (by
    simp only [List.any_eq_true, not_exists, not_and, Bool.not_eq_true]
    intro x hx
    have := h.links x hx
    exact linkOff_f (by omega)), if_neg (by rw [h.apart]; simp), if_pos (by rw [h.rise, h.single]; rfl)]
theorem isJ_iff {s : Sh} (h : Sheet s.L s.R s.l s.t) (j : List Int) : joinErr s.L s.R s.l s.t j = 0 ↔ IsJ s j := by
  have h0 := sheetErr_iff.2 h
  unfold joinErr
  rw [if_neg (by omega)]
  constructor
  · intro hj
    by_cases h1 : risingFrom (-1) s.l.length j = false
    · rw [if_pos h1] at hj; omega
    · rw [if_neg h1] at hj
      by_cases h2 : singleB s.l j = false
      · rw [if_pos h2] at hj; omega
      · rw [if_neg h2] at hj
        split at hj
        · omega
        · rename_i h3
          have hr := rise_iff.1 (by simpa using h1 : risingFrom (-1) s.l.length j = true)
          refine ⟨hr.1, fun x hx => by have := hr.2 x hx; omega, single_iff.1 (by simpa using h2), fun x hx => ?_⟩
          simp only [List.any_eq_true, not_exists, not_and] at h3
          have := h3 x hx
          simpa using this
  · rintro ⟨h1, h2, h3, h4⟩
    rw [if_neg (by rw [rise_iff.2 ⟨h1, fun x hx => by have := h2 x hx; omega⟩]; simp), if_neg (by rw [single_iff.2 h3]; simp), if_neg (by
      simp only [List.any_eq_true, not_exists, not_and]
      intro x hx
      have := h4 x hx
      simp [this])]
theorem nodup_map_toNat {j : List Int} (h : j.Pairwise (· < ·)) (hb : ∀ x ∈ j, 0 ≤ x) : (j.map Int.toNat).Pairwise (· < ·) := by
  rw [List.pairwise_map]
  exact h.imp_of_mem fun {a b} ha hb' hab => by have := hb a ha; have := hb b hb'; omega
theorem filter_len {α : Type} (p : α → Bool) : ∀ l : List α, (l.filter p).length + (l.filter fun x => !p x).length = l.length
  | [] => rfl
  | a :: l => by
    have := filter_len p l
    cases h : p a <;> simp [h] <;> omega
/-- the links of a joining that are not known -/
theorem IsJ.free {s : Sh} {j : List Int} (hj : IsJ s j) (h : Sheet s.L s.R s.l s.t) :
    Join (netOf s.l) (freeP s) ((j.filter fun x => !s.t.contains x).map Int.toNat) ∧ ((j.filter fun x => !s.t.contains x).map Int.toNat).length + s.t.length = j.length := by
  have ht := rise_iff.1 h.rise
  refine ⟨⟨fun k hk => ?_, ?_⟩, ?_⟩
  · obtain ⟨x, hx, rfl⟩ := List.mem_map.1 hk
    obtain ⟨h1, h2⟩ := List.mem_filter.1 hx
    have hb := hj.bound x h1
    have h3 : x ∉ s.t := by simpa using h2
    refine ⟨show x.toNat < s.l.length by omega, free_iff.2 fun y hy => ?_⟩
    rw [show ((x.toNat : Nat) : Int) = x by omega]
    have hyj := hj.known y hy
    have hne : x ≠ y := fun e => h3 (e ▸ hy)
    have hp : ∀ {l : List Int}, l.Pairwise (Apart s.l) → x ∈ l → y ∈ l → Apart s.l x y := by
      intro l hl
      induction hl with
      | nil => intro a; simp at a
      | cons hh _ ih =>
        intro a b
        rcases List.mem_cons.1 a with e1 | a1
        · rcases List.mem_cons.1 b with e2 | b1
          · exact absurd (e1.trans e2.symm) hne
          · rw [e1]; exact hh _ b1
        · rcases List.mem_cons.1 b with e2 | b1
          · rw [e2]; exact (hh _ a1).symm
          · exact ih a1 b1
    exact hp hj.single h1 hyj
  · unfold Match.Apart
    rw [List.pairwise_map]
    refine (hj.single.sublist List.filter_sublist).imp_of_mem fun {a b} ha hb hab => ?_
    have h1 := hj.bound a (List.mem_filter.1 ha).1
    have h2 := hj.bound b (List.mem_filter.1 hb).1
    refine (apart_net h (by omega) (by omega)).1 ?_
    rw [show ((a.toNat : Nat) : Int) = a by omega, show ((b.toNat : Nat) : Int) = b by omega]
    exact hab
  · rw [List.length_map]
    have h1 := filter_len (fun x => s.t.contains x) j
    have h2 : (j.filter fun x => s.t.contains x).length = s.t.length := by
      have e : (j.filter fun x => s.t.contains x) = s.t := rising_ext (hj.rise.sublist List.filter_sublist) ht.1 fun x => by
        rw [List.mem_filter]
        exact ⟨fun q => by simpa using q.2, fun q => ⟨hj.known x q, by simpa using q⟩⟩
      rw [e]
    omega
/-- a joining out of known links and free ones -/
theorem isJ_of {s : Sh} {M : List Nat} (h : Sheet s.L s.R s.l s.t) (hM : Join (netOf s.l) (freeP s) M) : IsJ s (sortI (s.t ++ M.map fun x : Nat => (x : Int))) := by
  have ht := rise_iff.1 h.rise
  have hap : (s.t ++ M.map fun x : Nat => (x : Int)).Pairwise (Apart s.l) := by
    rw [List.pairwise_append]
    refine ⟨single_iff.1 h.single, ?_, fun a ha b hb => ?_⟩
    · rw [List.pairwise_map]
      exact hM.2.imp_of_mem fun {a b} ha hb hab => (apart_net h (hM.1 a ha).1 (hM.1 b hb).1).2 hab
    · obtain ⟨x, hx, rfl⟩ := List.mem_map.1 hb
      exact (free_iff.1 (hM.1 x hx).2 a ha).symm
  have hnd : (s.t ++ M.map fun x : Nat => (x : Int)).Nodup := hap.imp fun {a b} hab => fun (e : a = b) => apart_self s.l b (by rw [e] at hab; exact hab)
  have hm : ∀ x, x ∈ sortI (s.t ++ M.map fun x : Nat => (x : Int)) ↔ x ∈ s.t ∨ ∃ k ∈ M, x = k := fun x => by
    rw [(sortI_perm _).mem_iff, List.mem_append, List.mem_map]
    exact ⟨fun q => q.imp id fun ⟨k, h1, h2⟩ => ⟨k, h1, h2.symm⟩, fun q => q.imp id fun ⟨k, h1, h2⟩ => ⟨k, h1, h2.symm⟩⟩
  refine ⟨sortI_rise hnd, fun x hx => ?_, ((sortI_perm _).pairwise_iff (fun h => h.symm)).2 hap, fun x hx => (hm x).2 (.inl hx)⟩
  rcases (hm x).1 hx with h1 | ⟨k, h1, rfl⟩
  · have := ht.2 x h1; omega
  · have : k < s.l.length := (hM.1 k h1).1
    omega
theorem most_len {s : Sh} {n : Nat} (h : Sheet s.L s.R s.l s.t) (hm : IsMost (netOf s.l) (freeP s) n) {j : List Int} (hj : IsJ s j) : j.length ≤ n + s.t.length := by
  obtain ⟨h1, h2⟩ := hj.free h
  have := hm.2 _ h1
  omega
/-- what Greatest returns is a greatest joining -/
theorem greatest_is {s : Sh} {P : Partners} {D : Nat → Prop} (h : Sheet s.L s.R s.l s.t) (hi : Inv (netOf s.l) (freeP s) s.L.toNat P D) :
    IsJ s (sortI (s.t ++ linksI P 12)) ∧ (sortI (s.t ++ linksI P 12)).length = s.t.length + countOf P ∧ IsMost (netOf s.l) (freeP s) (countOf P) := by
  refine ⟨isJ_of h (linksOf_join hi.valid 12), ?_, most_of hi h⟩
  rw [(sortI_perm _).length_eq, List.length_append]
  congr 1
  unfold linksI
  rw [List.length_map, linksOf_len]; rfl

/-- what a cover of a sheet is -/
theorem coverErr_iff {s : Sh} (h : Sheet s.L s.R s.l s.t) (cl cr : List Int) : coverErr s.L s.R s.l s.t cl cr = 0 ↔ (risingFrom (-1) s.L cl = true ∧ risingFrom (-1) s.R cr = true) ∧ Cover (netOf s.l) (freeP s) (cl.map Int.toNat) (cr.map Int.toNat) := by
  have h0 := sheetErr_iff.2 h
  unfold coverErr
  rw [if_neg (by omega)]
  by_cases h1 : (risingFrom (-1) s.L cl && risingFrom (-1) s.R cr) = false
  · rw [if_pos h1]
    refine ⟨fun q => by omega, fun q => ?_⟩
    rw [q.1.1, q.1.2] at h1; simp at h1
  · rw [if_neg h1]
    have h1' : risingFrom (-1) s.L cl = true ∧ risingFrom (-1) s.R cr = true := by simpa using h1
    have hl := rise_iff.1 h1'.1
    have hr := rise_iff.1 h1'.2
    have hcl : ∀ k, k < s.l.length → (((netOf s.l).e k).1 ∈ cl.map Int.toNat ↔ (atL s.l k).1 ∈ cl) := fun k hk => by
      have hn := h.net hk
      rw [List.mem_map]
      exact ⟨fun ⟨x, hx, e⟩ => by have := hl.2 x hx; rwa [show (atL s.l k).1 = x by omega], fun q => ⟨_, q, by omega⟩⟩
    have hcr : ∀ k, k < s.l.length → (((netOf s.l).e k).2 ∈ cr.map Int.toNat ↔ (atL s.l k).2 ∈ cr) := fun k hk => by
      have hn := h.net hk
      rw [List.mem_map]
      exact ⟨fun ⟨x, hx, e⟩ => by have := hr.2 x hx; rwa [show (atL s.l k).2 = x by omega], fun q => ⟨_, q, by omega⟩⟩
    have hb : ((List.range s.l.length).any (bareB s.l s.t cl cr) = true) ↔ ¬ Cover (netOf s.l) (freeP s) (cl.map Int.toNat) (cr.map Int.toNat) := by
      rw [List.any_eq_true]
      constructor
      · rintro ⟨k, hk, hb⟩ hc
        have hk := List.mem_range.1 hk
        unfold bareB at hb
        simp only [Bool.and_eq_true, Bool.not_eq_true', List.contains_eq_mem, decide_eq_false_iff_not] at hb
        rcases hc k ⟨hk, show (!takenB s.l s.t k) = true by rw [hb.1.1]; rfl⟩ with q | q
        · exact hb.1.2 ((hcl k hk).1 q)
        · exact hb.2 ((hcr k hk).1 q)
      · intro hc
        apply Classical.byContradiction
        intro hno
        refine hc fun k hk => ?_
        have hkl : k < s.l.length := hk.1
        have hf : (!takenB s.l s.t k) = true := hk.2
        rw [hcl k hkl, hcr k hkl]
        apply Classical.byContradiction
        intro hne
        refine hno ⟨k, List.mem_range.2 hkl, ?_⟩
        unfold bareB
        rw [hf]
        simp only [not_or] at hne
        simp [hne.1, hne.2]
    by_cases h2 : (List.range s.l.length).any (bareB s.l s.t cl cr) = true
    · rw [if_pos h2]
      exact ⟨fun q => by omega, fun q => absurd q.2 (hb.1 h2)⟩
    · rw [if_neg h2]
      exact ⟨fun _ => ⟨h1', Classical.byContradiction fun q => h2 (hb.2 q)⟩, fun _ => rfl⟩
/-- no joining is larger than a cover -/
theorem join_le_cover {s : Sh} (h : Sheet s.L s.R s.l s.t) {j cl cr : List Int} (hj : IsJ s j) (hc : coverErr s.L s.R s.l s.t cl cr = 0) : (j.length : Int) ≤ coverSize s.L s.R s.l s.t cl cr := by
  rw [size_good hc]
  obtain ⟨h1, h2⟩ := hj.free h
  have := weak h1 ((coverErr_iff h cl cr).1 hc).2
  simp only [List.length_map] at this h2
  omega
theorem filter_rise (p : Nat → Bool) (k : Nat) : risingFrom (-1) k (((List.range k).filter p).map fun x : Nat => (x : Int)) = true := by
  refine rise_iff.2 ⟨?_, fun x hx => ?_⟩
  · rw [List.pairwise_map]
    exact (List.pairwise_lt_range.sublist List.filter_sublist).imp fun {a b} hab => by omega
  · obtain ⟨y, hy, rfl⟩ := List.mem_map.1 hx
    have := List.mem_range.1 (List.mem_filter.1 hy).1
    omega
theorem map_toNat_cast (l : List Nat) : (l.map fun x : Nat => (x : Int)).map Int.toNat = l := by rw [List.map_map]; exact List.map_id' l
/-- what Cover returns is a cover, as large as a greatest joining -/
theorem cover_is_most {s : Sh} {P : Partners} {D : Nat → Prop} {f : Sd → Int} (h : Sheet s.L s.R s.l s.t) (hi : Inv (netOf s.l) (freeP s) s.L.toNat P D) (hc : CS (netOf s.l) (freeP s) P s.L.toNat f) :
    coverErr s.L s.R s.l s.t (leftsC f s.L.toNat) (rightsC f s.R.toNat) = 0 ∧ coverSize s.L s.R s.l s.t (leftsC f s.L.toNat) (rightsC f s.R.toNat) = (s.t.length : Int) + countOf P := by
  have hd := h.dim
  obtain ⟨hX, hY⟩ := hc.sound (fun i => Within (netOf s.l) (freeP s) i D) D (fun x hx hw => hw x hx rfl) (fun r x hr hP => by
    obtain ⟨k, hk, hw⟩ := hi.closed r hr
    rw [hP] at hk; injection hk with hk; subst hk
    exact hw) (fun i hi' hn => hi.lost i hi' fun ⟨r, x, h1, h2⟩ => by
      have hv := hi.valid.ok r x h1
      have hxl : x < s.l.length := hv.1.1
      have := h.net hxl
      exact hn r x (by omega) h1 h2)
  obtain ⟨_, hY2⟩ := hc.sound (Sn f false) (fun r => Sn f true r ∧ ∀ x, P r = some x → Sn f false ((netOf s.l).e x).1) (fun x hx hs => hc.shut x hx hs) (fun r x hr hP => hr.2 x hP) (fun i hi' hn => hc.start i hi' hn)
  have hcov : Cover (netOf s.l) (freeP s) ((leftsC f s.L.toNat).map Int.toNat) ((rightsC f s.R.toNat).map Int.toNat) := fun k hk => by
    have hkl : k < s.l.length := hk.1
    have hn := h.net hkl
    unfold leftsC rightsC
    rw [map_toNat_cast, map_toNat_cast, List.mem_filter, List.mem_filter, List.mem_range, List.mem_range]
    rcases hc.vals (false, (((netOf s.l).e k).1 : Int)) with h0 | h1
    · exact .inl ⟨hn.2.2.1, by rw [h0]; rfl⟩
    · have := (hc.shut k hk h1).1
      unfold Sn at this
      exact .inr ⟨hn.2.2.2, by rw [this]; rfl⟩
  have herr : coverErr s.L s.R s.l s.t (leftsC f s.L.toNat) (rightsC f s.R.toNat) = 0 := (coverErr_iff h _ _).2 ⟨⟨by
      have := filter_rise (fun i => f (false, ((i : Nat) : Int)) == 0) s.L.toNat
      rwa [show ((s.L.toNat : Nat) : Int) = s.L by omega] at this, by
      have := filter_rise (fun i => f (true, ((i : Nat) : Int)) == 1) s.R.toNat
      rwa [show ((s.R.toNat : Nat) : Int) = s.R by omega] at this⟩, hcov⟩
  refine ⟨herr, ?_⟩
  obtain ⟨hJ, hlen, _⟩ := greatest_is h hi
  have hge := join_le_cover h hJ herr
  rw [size_good herr] at hge ⊢
  have hl1 : (leftsC f s.L.toNat).length ≤ ((List.range 12).filter fun r => (P r).isSome && !(f (true, ((r : Nat) : Int)) == 1)).length := by
    unfold leftsC
    rw [List.length_map]
    refine Nat.le_trans (nodup_le _ (((List.range 12).filter fun r => (P r).isSome && !(f (true, ((r : Nat) : Int)) == 1)).map fun r => ((netOf s.l).e ((P r).getD 0)).1) ((List.pairwise_lt_range.sublist List.filter_sublist).imp fun {a b} hab => by omega) fun i hi' => ?_) (by rw [List.length_map]; exact Nat.le_refl _)
    obtain ⟨h1, h2⟩ := List.mem_filter.1 hi'
    have h1 := List.mem_range.1 h1
    have h2 : f (false, (i : Int)) = 0 := by simpa using h2
    apply Classical.byContradiction
    intro hno
    have := hc.start i h1 fun r x hr hP he => hno (List.mem_map.2 ⟨r, List.mem_filter.2 ⟨List.mem_range.2 hr, ?_⟩, by rw [hP]; exact he⟩)
    · unfold Sn at this; omega
    · rw [hP]
      have hns : ¬ f (true, (r : Int)) = 1 := fun e => by
        have := (hY2 r e).2 x hP
        unfold Sn at this
        rw [he] at this; omega
      simp [hns]
  have hl2 : (rightsC f s.R.toNat).length ≤ ((List.range 12).filter fun r => (P r).isSome && (f (true, ((r : Nat) : Int)) == 1)).length := by
    unfold rightsC
    rw [List.length_map]
    refine nodup_le _ _ ((List.pairwise_lt_range.sublist List.filter_sublist).imp fun {a b} hab => by omega) fun r hr => ?_
    obtain ⟨h1, h2⟩ := List.mem_filter.1 hr
    have h1 := List.mem_range.1 h1
    have hs : f (true, (r : Int)) = 1 := by simpa using h2
    obtain ⟨k, hk, _⟩ := hi.closed r (hY r hs)
    refine List.mem_filter.2 ⟨List.mem_range.2 (by omega), ?_⟩
    rw [hk, hs]; rfl
  have hl3 : ((List.range 12).filter fun r => (P r).isSome && (f (true, ((r : Nat) : Int)) == 1)).length + ((List.range 12).filter fun r => (P r).isSome && !(f (true, ((r : Nat) : Int)) == 1)).length = countOf P := by
    unfold countOf
    rw [List.countP_eq_length_filter]
    generalize List.range 12 = l
    induction l with
    | nil => rfl
    | cons a l ih =>
      cases h1 : (P a).isSome <;> cases h2 : (f (true, ((a : Nat) : Int)) == 1) <;> simp [h1, h2] at ih ⊢ <;> omega
  rw [hlen] at hge
  omega
end Go.Proofs.Ytoogfdicmpkkgaa

namespace Go.Proofs.Ytoogfdicmpkkgaa
open Go.RowKit Go.Shelf Go.Maps Match

def apB (N : Net) (a b : Nat) : Bool := !((N.e a).1 == (N.e b).1) && !((N.e a).2 == (N.e b).2)
theorem apB_iff {N : Net} {a b : Nat} : apB N a b = true ↔ (N.e a).1 ≠ (N.e b).1 ∧ (N.e a).2 ≠ (N.e b).2 := by unfold apB; simp
/-- the most of some links that can be taken beside those of M -/
def mostGo (N : Net) (p : Nat → Bool) : List Nat → List Nat → Nat
  | [], _ => 0
  | k :: ks, M => bif p k && M.all (fun x => apB N x k) then max (mostGo N p ks M) (1 + mostGo N p ks (k :: M)) else mostGo N p ks M
def mostOf (N : Net) (p : Nat → Bool) : Nat := mostGo N p (List.range N.m) []
theorem mostGo_up {N : Net} {p : Nat → Bool} {S ks : List Nat} (h : S.Sublist ks) : ∀ M : List Nat, S.Pairwise (fun a b => apB N a b = true) → (∀ k ∈ S, p k = true ∧ ∀ x ∈ M, apB N x k = true) → S.length ≤ mostGo N p ks M := by
  induction h with
  | slnil => intro M _ _; simp
  | @cons S ks a _ ih =>
    intro M h1 h2
    have := ih M h1 h2
    unfold mostGo
    cases p a && M.all (fun x => apB N x a)
    · exact this
    · show _ ≤ max _ _; omega
  | @cons_cons S ks a _ ih =>
    intro M h1 h2
    rw [List.pairwise_cons] at h1
    have ha := h2 a (by simp)
    have := ih (a :: M) h1.2 (fun k hk => ⟨(h2 k (by simp [hk])).1, fun x hx => by
      rcases List.mem_cons.1 hx with rfl | hx
      · exact h1.1 k hk
      · exact (h2 k (by simp [hk])).2 x hx⟩)
    unfold mostGo
    have e : (p a && M.all (fun x => apB N x a)) = true := by
      rw [ha.1, Bool.true_and, List.all_eq_true]
      exact ha.2
    rw [e]
    show _ ≤ max _ _
    simp only [List.length_cons]; omega
theorem mostGo_get {N : Net} {p : Nat → Bool} : ∀ (ks M : List Nat), ∃ S : List Nat, S.Sublist ks ∧ S.Pairwise (fun a b => apB N a b = true) ∧ (∀ k ∈ S, p k = true ∧ ∀ x ∈ M, apB N x k = true) ∧ S.length = mostGo N p ks M
  | [], M => ⟨[], List.Sublist.slnil, List.Pairwise.nil, by simp, rfl⟩
  | k :: ks, M => by
    obtain ⟨S, a1, a2, a3, a4⟩ := mostGo_get (N := N) (p := p) ks M
    unfold mostGo
    cases hc : p k && M.all (fun x => apB N x k)
    · exact ⟨S, a1.cons _, a2, a3, a4⟩
    · obtain ⟨T, b1, b2, b3, b4⟩ := mostGo_get (N := N) (p := p) ks (k :: M)
      simp only [Bool.and_eq_true, List.all_eq_true] at hc
      by_cases e : 1 + mostGo N p ks (k :: M) ≤ mostGo N p ks M
      · exact ⟨S, a1.cons _, a2, a3, by show _ = max _ _; omega⟩
      · refine ⟨k :: T, b1.cons_cons _, List.pairwise_cons.2 ⟨fun x hx => (b3 x hx).2 k (by simp), b2⟩, fun x hx => ?_, by show _ = max _ _; simp only [List.length_cons]; omega⟩
        rcases List.mem_cons.1 hx with rfl | hx
        · exact hc
        · exact ⟨(b3 x hx).1, fun y hy => (b3 x hx).2 y (by simp [hy])⟩
theorem join_nodup {N : Net} {p : Nat → Bool} {M : List Nat} (h : Join N p M) : M.Nodup := h.2.imp fun {a b} hab e => hab.1 (by rw [e])
theorem join_pair {N : Net} {p : Nat → Bool} {M : List Nat} (h : Join N p M) {a b : Nat} (ha : a ∈ M) (hb : b ∈ M) (hne : a ≠ b) : (N.e a).1 ≠ (N.e b).1 ∧ (N.e a).2 ≠ (N.e b).2 := by
  have hp := h.2
  unfold Match.Apart at hp
  clear h
  induction hp with
  | nil => simp at ha
  | cons hh _ ih =>
    rcases List.mem_cons.1 ha with e1 | a1
    · rcases List.mem_cons.1 hb with e2 | b1
      · exact absurd (e1.trans e2.symm) hne
      · rw [e1]; exact hh _ b1
    · rcases List.mem_cons.1 hb with e2 | b1
      · rw [e2]; exact ⟨fun e => (hh _ a1).1 e.symm, fun e => (hh _ a1).2 e.symm⟩
      · exact ih a1 b1
theorem join_of_pair {N : Net} {p : Nat → Bool} {M : List Nat} (h1 : ∀ k ∈ M, N.ok p k) (h2 : M.Nodup) (h3 : ∀ a ∈ M, ∀ b ∈ M, a ≠ b → (N.e a).1 ≠ (N.e b).1 ∧ (N.e a).2 ≠ (N.e b).2) : Join N p M :=
  ⟨h1, h2.imp_of_mem fun {a b} ha hb hab => h3 a ha b hb hab⟩
theorem mostOf_is (N : Net) (p : Nat → Bool) : IsMost N p (mostOf N p) := by
  constructor
  · obtain ⟨S, h1, h2, h3, h4⟩ := mostGo_get (N := N) (p := p) (List.range N.m) []
    exact ⟨S, ⟨fun k hk => ⟨List.mem_range.1 (h1.mem hk), (h3 k hk).1⟩, h2.imp fun {a b} h => apB_iff.1 h⟩, h4⟩
  · intro M hM
    have hn := join_nodup hM
    have hs : ((List.range N.m).filter fun k => decide (k ∈ M)).Sublist (List.range N.m) := List.filter_sublist
    have hle := mostGo_up (p := p) hs [] ((List.pairwise_lt_range.sublist hs).imp_of_mem fun {a b} ha hb hab => apB_iff.2 (join_pair hM (by simpa using (List.mem_filter.1 ha).2) (by simpa using (List.mem_filter.1 hb).2) (by omega))) (fun k hk => ⟨(hM.1 k (by simpa using (List.mem_filter.1 hk).2)).2, by simp⟩)
    have := nodup_le M ((List.range N.m).filter fun k => decide (k ∈ M)) (hn.imp fun h => h) fun x hx => List.mem_filter.2 ⟨List.mem_range.2 (hM.1 x hx).1, by simpa using hx⟩
    unfold mostOf; omega
theorem IsMost.eq {N : Net} {p : Nat → Bool} {n : Nat} (h : IsMost N p n) : n = mostOf N p := h.uniq (mostOf_is N p)

def kindC (s : Sh) (k : Nat) : Int := kindV (s.t.contains (k : Int)) (freeP s k) (mostOf (netOf s.l) (freeP s)) (mostOf (netOf s.l) (noneOf s k)) (mostOf (netOf s.l) (farOf s k))
theorem KindIs.eq {s : Sh} {k : Nat} {v : Int} (h : KindIs s k v) : v = kindC s k := by
  obtain ⟨n, a, b, h1, h2, h3, h4⟩ := h
  rw [h4, h1.eq, h2.eq, h3.eq]; rfl
def kindsC (s : Sh) : List Int := (List.range s.l.length).map (kindC s)
theorem kindsC_len (s : Sh) : (kindsC s).length = s.l.length := by unfold kindsC; simp
theorem kindsC_at (s : Sh) {k : Nat} (hk : k < s.l.length) : (kindsC s).getD k 0 = kindC s k := by unfold kindsC; simp [List.getD_eq_getElem?_getD, hk]
theorem KindsAre.eq {s : Sh} {ks : List Int} (h : KindsAre s ks) : ks = kindsC s := by
  unfold kindsC
  refine List.ext_getElem (by simp [h.1]) fun i h1 h2 => ?_
  have h3 := (h.2 i h1).eq
  rw [List.getD_eq_getElem?_getD, List.getElem?_eq_getElem h1, Option.getD_some] at h3
  rw [h3]; simp
def itemC (s : Sh) (right : Bool) (i : Nat) : Int :=
  if maxK (ofS s right) (kindsC s) s.l.length i ≠ 1 then maxK (ofS s right) (kindsC s) s.l.length i else if mostOf (netOf s.l) (restOf s right i) < mostOf (netOf s.l) (freeP s) then 2 else 1
theorem ItemIs.eq {s : Sh} {right : Bool} {ks : List Int} {i : Nat} {v : Int} (h : ItemIs s right ks i v) (hk : KindsAre s ks) : v = itemC s right i := by
  obtain ⟨n, h1, h2⟩ := h
  have e := hk.eq
  subst e
  unfold itemC
  rcases h2 with ⟨h3, h4⟩ | ⟨h3, a, h4, h5⟩
  · rw [if_pos h3, h4]
  · rw [if_neg (by omega), h5, h1.eq, h4.eq]
def itemsC (s : Sh) (right : Bool) : List Int := (List.range (manyOf s right)).map (itemC s right)
theorem items_eq {s : Sh} {right : Bool} {ks is : List Int} (hk : KindsAre s ks) (hl : is.length = manyOf s right) (h : ∀ i, i < is.length → ItemIs s right ks i (is.getD i 0)) : is = itemsC s right := by
  unfold itemsC
  refine List.ext_getElem (by simp [hl]) fun i h1 h2 => ?_
  have h3 := (h i h1).eq hk
  rw [List.getD_eq_getElem?_getD, List.getElem?_eq_getElem h1, Option.getD_some] at h3
  rw [h3]; simp
def askC (s : Sh) (k : Nat) : Int := max (openC (kindsC (Sh.of s.L s.R s.l (yesT s.t k))) : Int) (openC (kindsC (Sh.of s.L s.R (s.l.eraseIdx k) (noT s.t k))) : Int)
theorem AskQ.eq {s : Sh} {k : Nat} {m : Int} (h : AskQ s k m) : m = askC s k := by
  obtain ⟨ky, kn, h1, h2, h3⟩ := h
  rw [h3, h1.eq, h2.eq]; rfl
def qsC (s : Sh) : List (Int × Int) := ((List.range s.l.length).filter fun j => (kindsC s).getD j 0 == 1).map fun j : Nat => ((j : Int), askC s j)
theorem qs_eq {s : Sh} {ks : List Int} {qs : List (Int × Int)} (hk : KindsAre s ks) (h : QsAre s ks ks.length qs) : qs = qsC s := by
  have e := hk.eq
  subst e
  obtain ⟨h1, h2⟩ := h
  rw [kindsC_len] at h1
  unfold qsC
  rw [show qs = (qs.map (·.1)).map fun x => (x, askC s x.toNat) from by
    rw [List.map_map]
    conv => lhs; rw [← List.map_id qs]
    refine List.map_congr_left fun q hq => ?_
    exact Prod.ext rfl (h2 q hq).eq, h1, List.map_map]
  exact List.map_congr_left fun j _ => by simp

/-! the sheet of the examples -/
def exS : Sh := Sh.of 3 3 sheetL []
def exO : Sh := Sh.of 3 3 openL []
theorem sheet_ex : Sheet 3 3 sheetL [] := sheet_ok (by decide +kernel)
theorem sheet_ex2 : Sheet 3 3 openL [] := sheet_ok (by decide +kernel)
theorem sheet_ex3 : Sheet 3 3 sheetL [0, 3] := sheet_ok (by decide +kernel)
theorem kinds_ex : kindsC exS = [0, 2, 2, 0, 2] := by decide +kernel
theorem kinds_ex2 : kindsC exO = [1, 1, 1, 1] := by decide +kernel
theorem items_ex2 : itemsC exO false = [2, 0, 2] := by decide +kernel
theorem qs_ex : qsC exS = [] := by decide +kernel
theorem qs_ex2 : qsC exO = [(0, 2), (1, 2), (2, 2), (3, 2)] := by decide +kernel
theorem most_ex : mostOf (netOf sheetL) (freeP exS) = 3 := by decide +kernel
theorem most_ex3 : mostOf (netOf sheetL) (freeP (Sh.of 3 3 sheetL [0, 3])) = 0 := by decide +kernel
theorem only_ex : ∀ a b c : Fin 5, joinErr 3 3 sheetL [] [(a.val : Int), b.val, c.val] = 0 → a.val = 1 ∧ b.val = 2 ∧ c.val = 4 := by decide +kernel
theorem greatest_ex {j : List Int} (hj : IsJ exS j) (hl : j.length = 3) : j = [1, 2, 4] := by
  obtain _ | ⟨a, _ | ⟨b, _ | ⟨c, _ | ⟨d, j⟩⟩⟩⟩ := j
  · simp at hl
  · simp at hl
  · simp at hl
  · have h1 := hj.bound a (by simp)
    have h2 := hj.bound b (by simp)
    have h3 := hj.bound c (by simp)
    have e5 : exS.l.length = 5 := rfl
    rw [e5] at h1 h2 h3
    obtain ⟨a, rfl⟩ := Int.eq_ofNat_of_zero_le h1.1
    obtain ⟨b, rfl⟩ := Int.eq_ofNat_of_zero_le h2.1
    obtain ⟨c, rfl⟩ := Int.eq_ofNat_of_zero_le h3.1
    obtain ⟨q1, q2, q3⟩ := only_ex ⟨a, by omega⟩ ⟨b, by omega⟩ ⟨c, by omega⟩ ((isJ_iff (s := exS) sheet_ex _).2 hj)
    dsimp only at q1 q2 q3
    subst q1; subst q2; subst q3; rfl
  · simp at hl
end Go.Proofs.Ytoogfdicmpkkgaa

namespace Go.Proofs.Ytoogfdicmpkkgaa
open Go.RowKit Go.Shelf

theorem flat_append {α : Type} {enc : α → List Value} (l m : List α) : l.flatMap enc ++ m.flatMap enc = (l ++ m).flatMap enc := by simp
section
variable {α : Type} {enc : α → List Value} {e : TypeId} {size bytes : Nat} {z : Value}
/-- append to a row that has no room left -/
theorem wpList_full (w : World) {ops : Array Oper} {rest : List Oper} {o : Oper} {a : Act} {Q : Exit → Act → World → Prop}
    (hg : o.guard = none) (s x : Operand) (t : TypeId) (hop : o.op = Op.call { callee := Callee.builtin Builtin.append, args := #[s, x], argTypes := #[t, t] })
    (E : ElemT e size bytes z) (hk : ∀ x, (enc x).length = size) (h1 : ∀ x, ∀ u ∈ enc x, u.oneCell' = true) (ht : Try.prog.underlying t = some (.slice e))
    (A : Option Addr) (l : List α) (hs : a.eval s = .slice A l.length l.length) (hrow : RowsAt enc size w A l) (hlen : l.length ≤ 100000) (ys : List α) (ad : Addr) (n c : Nat) (hx : a.eval x = .slice (some ad) n c) (hn : n = ys.length)
    (hys : RowsAt enc size w (some ad) ys) (h0 : 0 < ys.length) (hyl : ys.length ≤ 100000)
    (hK : ∀ g cap w', w'.ownsRow w.heap.size e size (.slice (some ⟨g, 0, none⟩) (l ++ ys).length cap) (l ++ ys).length ((l ++ ys).flatMap enc) → w.grownBy w' none → wpList Try.prog ops Q rest (a.put o.dst (.slice (some ⟨g, 0, none⟩) (l ++ ys).length cap)) w') :
    wpList Try.prog ops Q (o :: rest) a w := by
  subst hn
  obtain ⟨i0, hi, hz0, hz1, hz2⟩ := info_parts E.info
  have hb : (l.length + ys.length) * bytes ≤ 200000 * 100 := Nat.mul_le_mul (by omega) E.small
  have hnone : A = none → l.length = 0 ∧ l.length = 0 := fun e => by
    subst e
    cases l with
    | nil => exact ⟨rfl, rfl⟩
    | cons z r => obtain ⟨b, o, h, _⟩ := hrow 0 (by simp); cases h
  refine wpList_append_grows w hg s x t hop e i0 z size bytes ht hi hz0 hz1 hz2 E.zsz E.pos _ l.length l.length (l.flatMap enc) hs hnone (flatMap_len hk l) (RowsAt.olds hk hrow) ad ys.length c (ys.flatMap enc) hx (flatMap_len hk ys) (RowsAt.olds hk hys _ rfl) (fun u hu => by
    obtain ⟨y, _, hy⟩ := List.mem_flatMap.1 hu
    exact h1 y u hy) (by omega) (by simp only [maxLen]; omega) (by omega) ?_
  intro v' w' hown hgrow
  rw [flat_append, ← List.length_append] at hown
  obtain ⟨g, cap, rfl⟩ : ∃ g cap, v' = .slice (some ⟨g, 0, none⟩) (l ++ ys).length cap := by
    rcases hown.2 with ⟨_, h0⟩ | ⟨g', cap, cur, rfl, _⟩
    · rw [List.length_append] at h0; omega
    · exact ⟨g', cap, rfl⟩
  exact hK g cap w' hown hgrow
end
theorem own_pos {w : World} {base : Nat} {e : TypeId} {size n : Nat} {v : Value} {xs : List Value} (h : w.ownsRow base e size v n xs) (hn : 0 < n) : ∃ g cap, v = .slice (some ⟨g, 0, none⟩) n cap ∧ n ≤ cap ∧ cap ≤ maxLen ∧ base ≤ g := by
  rcases h.2 with ⟨_, h0⟩ | ⟨g, cap, cur, rfl, hb, _, h1, h2, _⟩
  · omega
  · exact ⟨g, cap, rfl, h1, h2, hb⟩
theorem RowsAt.drop {α : Type} {enc : α → List Value} {k : Nat} {w : World} {b off : Nat} {l : List α} (h : RowsAt enc k w (some ⟨b, off, none⟩) l) (n : Nat) : RowsAt enc k w (some ⟨b, off + n * k, none⟩) (l.drop n) := fun i hi => by
  rw [List.length_drop] at hi
  obtain ⟨b', off', hA, hc⟩ := h (n + i) (by omega)
  injection hA with hA
  injection hA with e1 e2
  subst e1; subst e2
  refine ⟨b, off + n * k, rfl, fun j v hv => ?_⟩
  rw [List.getElem_drop] at hv
  have := hc j v hv
  rwa [show off + (n + i) * k + j = off + n * k + i * k + j by rw [Nat.add_mul]; omega] at this

set_option maxRecDepth 100000 in
set_option maxHeartbeats 1000000 in
theorem open_any (w : World) : Calls Try.prog 39 #[] w (Ret fun v w' => (∃ b c, v = vSheet 3 3 (some ⟨b, 0, none⟩) 4 c none 0 0 ∧ w.heap.size ≤ b ∧ 4 ≤ c ∧ c ≤ 9223372036854775807 ∧ RangesAt w' (some ⟨b, 0, none⟩) openL) ∧ Below w.heap.size w w') := by
  have hs := fun W (_ : Below w.heap.size w W) => sheet_any W
  have Hs := Lib.hid hs; clear hs
  go_enter Try.func39, Try.ntmps39
  go_wp2_with fail
  refine (Hs.out _ (below_alloc' (Below.refl _ _) _)).mono ?_
  rintro e w1 ⟨v, rfl, ⟨b, rfl, hb, hR⟩, hB⟩
  have HB := Lib.hid hB
  have hy0 := blk_below hB (heap_alloc_new w _)
  clear hB Hs
  unfold vSheet
  have hX := heap_alloc_new w1 (.cells #[.int .i64 3, .int .i64 3, .slice (some ⟨b, 0, none⟩) 5 5, .slice none 0 0] 25)
  have HB2 := Lib.hid (below_alloc' HB.out (.cells #[.int .i64 3, .int .i64 3, .slice (some ⟨b, 0, none⟩) 5 5, .slice none 0 0] 25))
  have HR := Lib.hid (hR.alloc (.cells #[.int .i64 3, .int .i64 3, .slice (some ⟨b, 0, none⟩) 5 5, .slice none 0 0] 25))
  have hy := blk_alloc hy0 (.cells #[.int .i64 3, .int .i64 3, .slice (some ⟨b, 0, none⟩) 5 5, .slice none 0 0] 25)
  have hlt := blk_lt hy0
  have hs2 : (w1.alloc (.cells #[.int .i64 3, .int .i64 3, .slice (some ⟨b, 0, none⟩) 5 5, .slice none 0 0] 25)).heap.size = w1.heap.size + 1 := World.size_alloc _ _
  clear hR HB hy0
  have y2 : (w1.alloc (.cells #[.int .i64 3, .int .i64 3, .slice (some ⟨b, 0, none⟩) 5 5, .slice none 0 0] 25)).cell? ⟨w1.heap.size, 2, none⟩ = some (.slice (some ⟨b, 0, none⟩) 5 5) := (blk_cell hX).trans rfl
  have HT := Lib.hid (RowsAt.olds encR_len (RowsAt.take HR.out 2))
  have HD := Lib.hid (RowsAt.olds encR_len (RowsAt.drop HR.out 3))
  obtain ⟨i0, hi, hz0, hz1, hz2⟩ := info_parts elemR.info
  clear HR
  go_upto_region 2 with fail
  go_region_law (refine step_append_grows rfl (.tmp 5) (.tmp 8) 22 rfl 55 i0 (.agg #[.int .i64 0, .int .i64 0]) 2 16 Try.underlying22 hi hz0 hz1 hz2 rfl (by omega) (some ⟨b, 0, none⟩) 2 2 ((sheetL.take 2).flatMap encR) (by simp [Act.eval, Act.put]) (fun h => by cases h) rfl HT.out ⟨b, 0 + 3 * 2, none⟩ 2 2 ((sheetL.drop 3).flatMap encR) (by simp [Act.eval, Act.put]) rfl (HD.out _ rfl) (by decide) (by decide) (by decide) (by decide) ?_; intro v' W3 hown hg; obtain ⟨g, cap, rfl, hc1, hc2, hg2⟩ := own_pos hown (by omega); have hX3 := blk_grown hg hX (by simp); have hy3 := blk_grown hg hy (by simp); have u0 : W3.cell? ⟨w1.heap.size, 0, none⟩ = some (.int .i64 3) := (blk_cell hX3).trans rfl; have u1 : W3.cell? ⟨w1.heap.size, 1, none⟩ = some (.int .i64 3) := (blk_cell hX3).trans rfl; have u2 : W3.cell? ⟨w1.heap.size, 2, none⟩ = some (.slice (some ⟨b, 0, none⟩) 5 5) := (blk_cell hX3).trans rfl; have u3 : W3.cell? ⟨w1.heap.size, 3, none⟩ = some (.slice none 0 0) := (blk_cell hX3).trans rfl; have v2 := blk_frozen (i := 2) hX3)
  all_goals
    have HO : Hid (RangesAt W3 (some ⟨g, 0, none⟩) openL) := Lib.hid (RowsAt.of_own (base := (w1.alloc (.cells #[.int .i64 3, .int .i64 3, .slice (some ⟨b, 0, none⟩) 5 5, .slice none 0 0] 25)).drew.heap.size) (e := 55) (c := cap) encR_len hown)
    have HB3 := Lib.hid (HB2.out.drew.grown hg HB2.out.size (fun r e => by cases e))
    have hgn : g ≠ w1.heap.size := fun e => by subst e; have : (w1.alloc (.cells #[.int .i64 3, .int .i64 3, .slice (some ⟨b, 0, none⟩) 5 5, .slice none 0 0] 25)).drew.heap.size = w1.heap.size + 1 := hs2; omega
    have hgw : w.heap.size ≠ g := fun e => by subst e; have : (w1.alloc (.cells #[.int .i64 3, .int .i64 3, .slice (some ⟨b, 0, none⟩) 5 5, .slice none 0 0] 25)).drew.heap.size = w1.heap.size + 1 := hs2; omega
    have hgg : w.heap.size ≤ g := by have : (w1.alloc (.cells #[.int .i64 3, .int .i64 3, .slice (some ⟨b, 0, none⟩) 5 5, .slice none 0 0] 25)).drew.heap.size = w1.heap.size + 1 := hs2; omega
    have hneq : w.heap.size ≠ w1.heap.size := by omega
    clear HB2 hX hy hs2 hown hg hg2 HT HD hb
    have z0 : W3.cell? ⟨w.heap.size, 0, none⟩ = some (.int .i64 0) := (blk_cell hy3).trans rfl
    have z1 : W3.cell? ⟨w.heap.size, 1, none⟩ = some (.int .i64 0) := (blk_cell hy3).trans rfl
    have z2 : W3.cell? ⟨w.heap.size, 2, none⟩ = some (.slice none 0 0) := (blk_cell hy3).trans rfl
    have z3 : W3.cell? ⟨w.heap.size, 3, none⟩ = some (.slice none 0 0) := (blk_cell hy3).trans rfl
    have f0 := blk_frozen (i := 0) hy3
    have f1 := blk_frozen (i := 1) hy3
    have f2 := blk_frozen (i := 2) hy3
    have f3 := blk_frozen (i := 3) hy3
    go_wp2
    have hF := Lib.hid (blk_set (i := 3) (blk_set (i := 2) (blk_set (i := 1) (blk_set (i := 0) (blk_far hy3 (p := ⟨w1.heap.size, 2, none⟩) hneq (.slice (some ⟨g, 0, none⟩) 4 cap)) (.int .i64 3)) (.int .i64 3)) (.slice (some ⟨g, 0, none⟩) 4 cap)) (.slice none 0 0))
    have hB0 : Below w.heap.size w W3 := below_trans' (below_alloc' (Below.refl _ _) _) HB3.out
    have hBF := Lib.hid (((((hB0.setCell (p := ⟨w1.heap.size, 2, none⟩) (show w.heap.size ≤ w1.heap.size by omega) (.slice (some ⟨g, 0, none⟩) 4 cap)).setCell (p := ⟨w.heap.size, 0, none⟩) (Nat.le_refl _) (.int .i64 3)).setCell (p := ⟨w.heap.size, 1, none⟩) (Nat.le_refl _) (.int .i64 3)).setCell (p := ⟨w.heap.size, 2, none⟩) (Nat.le_refl _) (.slice (some ⟨g, 0, none⟩) 4 cap)).setCell (p := ⟨w.heap.size, 3, none⟩) (Nat.le_refl _) (.slice none 0 0))
    have hRF := Lib.hid (((((HO.out.far (p := ⟨w1.heap.size, 2, none⟩) hgn (.slice (some ⟨g, 0, none⟩) 4 cap)).far (p := ⟨w.heap.size, 0, none⟩) hgw.symm (.int .i64 3)).far (p := ⟨w.heap.size, 1, none⟩) hgw.symm (.int .i64 3)).far (p := ⟨w.heap.size, 2, none⟩) hgw.symm (.slice (some ⟨g, 0, none⟩) 4 cap)).far (p := ⟨w.heap.size, 3, none⟩) hgw.symm (.slice none 0 0))
    clear z0 z1 z2 z3 f0 f1 f2 f3 u0 u1 u2 u3 v2 y2 hX3 hy3 HO HB3 hB0
    generalize (World.setCell _ _ _) = V at hF hBF hRF ⊢
    have e0 := (blk_cell (i := 0) hF.out).trans rfl
    have e1 := (blk_cell (i := 1) hF.out).trans rfl
    have e2 := (blk_cell (i := 2) hF.out).trans rfl
    have e3 := (blk_cell (i := 3) hF.out).trans rfl
    exact bodyPost_ret (v := vSheet 3 3 (some ⟨g, 0, none⟩) 4 cap none 0 0) (by simp [vSheet, results, Try.results39, go_sem, e0, e1, e2, e3]) rfl (Ret.mk ⟨⟨_, _, rfl, hgg, hc1, hc2, hRF.out⟩, hBF.out⟩)
end Go.Proofs.Ytoogfdicmpkkgaa

namespace Go.Proofs.Ytoogfdicmpkkgaa
open Go.RowKit Go.Shelf Go.Maps Match

/-- what every law asks of a sheet that it is given -/
structure ShAt (w : World) (s : Sh) : Prop where
  links : RangesAt w s.A s.l
  known : IntsAt w s.B s.t
  many : s.l.length ≤ 1000
  few : s.t.length ≤ 900
  capA : s.l.length ≤ s.ca
  capA' : s.ca ≤ 9223372036854775807
  capB : s.t.length ≤ s.cb
theorem ShAt.below {w w' : World} {s : Sh} (h : ShAt w s) (hb : Below w.heap.size w w') : ShAt w' s := ⟨h.links.below hb, h.known.below hb, h.many, h.few, h.capA, h.capA', h.capB⟩
def mostS (s : Sh) : Nat := mostOf (netOf s.l) (freeP s)

theorem checkSheetS (s : Sh) (w : World) (h : ShAt w s) : Calls Try.prog 18 #[s.v] w (Ret fun v w' => v = .int .i64 (sheetErr s.L s.R s.l s.t) ∧ Below w.heap.size w w') :=
  checkSheet_any s.L s.R s.A s.B s.ca s.cb s.l s.t w h.links h.known (by have := h.many; omega) (by have := h.few; omega) h.capA h.capA'
theorem refCheckSheetS (s : Sh) (w : World) (h : ShAt w s) : Calls Try.prog 19 #[s.v] w (Ret fun v w' => v = .int .i64 (sheetErr s.L s.R s.l s.t) ∧ Below w.heap.size w w') :=
  refCheckSheet_any s.L s.R s.A s.B s.ca s.cb s.l s.t w h.links h.known (by have := h.many; omega) (by have := h.few; omega)
theorem checkJoiningS (s : Sh) (C : Option Addr) (cc : Nat) (j : List Int) (w : World) (h : ShAt w s) (hj : IntsAt w C j) (hn : j.length ≤ 100000) :
    Calls Try.prog 20 #[s.v, .slice C j.length cc] w (Ret fun v w' => v = .int .i64 (joinErr s.L s.R s.l s.t j) ∧ Below w.heap.size w w') :=
  checkJoining_any s.L s.R s.A s.B C s.ca s.cb cc s.l s.t j w h.links h.known hj (by have := h.many; omega) (by have := h.few; omega) hn h.capA h.capA'
theorem refCheckJoiningS (s : Sh) (C : Option Addr) (cc : Nat) (j : List Int) (w : World) (h : ShAt w s) (hj : IntsAt w C j) (hn : j.length ≤ 100000) :
    Calls Try.prog 21 #[s.v, .slice C j.length cc] w (Ret fun v w' => v = .int .i64 (joinErr s.L s.R s.l s.t j) ∧ Below w.heap.size w w') :=
  refCheckJoining_any s.L s.R s.A s.B C s.ca s.cb cc s.l s.t j w h.links h.known hj (by have := h.many; omega) (by have := h.few; omega) hn
theorem checkCoverS (s : Sh) (C D : Option Addr) (cc cd : Nat) (cl cr : List Int) (w : World) (h : ShAt w s) (hC : IntsAt w C cl) (hD : IntsAt w D cr) (hn : cl.length ≤ 100000) (hm : cr.length ≤ 100000) :
    Calls Try.prog 16 #[s.v, vCover C cl.length cc D cr.length cd] w (Ret fun v w' => v = .tuple #[.int .i64 (coverSize s.L s.R s.l s.t cl cr), .int .i64 (coverErr s.L s.R s.l s.t cl cr)] ∧ Below w.heap.size w w') :=
  checkCover_any s.L s.R s.A s.B C D s.ca s.cb cc cd s.l s.t cl cr w h.links h.known hC hD (by have := h.many; omega) (by have := h.few; omega) hn hm h.capA h.capA'
theorem refCheckCoverS (s : Sh) (C D : Option Addr) (cc cd : Nat) (cl cr : List Int) (w : World) (h : ShAt w s) (hC : IntsAt w C cl) (hD : IntsAt w D cr) (hn : cl.length ≤ 100000) (hm : cr.length ≤ 100000) :
    Calls Try.prog 17 #[s.v, vCover C cl.length cc D cr.length cd] w (Ret fun v w' => v = .tuple #[.int .i64 (coverSize s.L s.R s.l s.t cl cr), .int .i64 (coverErr s.L s.R s.l s.t cl cr)] ∧ Below w.heap.size w w') :=
  refCheckCover_any s.L s.R s.A s.B C D s.ca s.cb cc cd s.l s.t cl cr w h.links h.known hC hD (by have := h.many; omega) (by have := h.few; omega) hn hm

theorem greatestS (s : Sh) (w : World) (h : ShAt w s) (hs : Sheet s.L s.R s.l s.t) :
    Calls Try.prog 22 #[s.v] w (Ret fun v w' => (∃ G c j, v = .tuple #[.slice G j.length c, .int .i64 0] ∧ IntsAt w' G j ∧ j.length ≤ c ∧ IsJ s j ∧ j.length = s.t.length + mostS s) ∧ Below w.heap.size w w') := by
  refine (greatest_any s w h.links h.known (by have := h.many; omega) (by have := h.few; omega) h.capA h.capA').mono ?_
  rintro e w' ⟨v, rfl, hv, hB⟩
  refine Ret.mk ⟨?_, hB⟩
  rcases hv with ⟨h1, _⟩ | ⟨_, G, c, P, D, rfl, h2, h3, h4, h5⟩
  · exact absurd (sheetErr_iff.2 hs) h1
  · obtain ⟨g1, g2, g3⟩ := greatest_is hs h5
    have e : s.t.length + (linksI P 12).length = (sortI (s.t ++ linksI P 12)).length := by rw [(sortI_perm _).length_eq, List.length_append]
    refine ⟨G, c, _, by rw [e], h2, by omega, g1, ?_⟩
    rw [g2, g3.eq]; rfl
theorem greatestE (s : Sh) (w : World) (h : ShAt w s) (hs : sheetErr s.L s.R s.l s.t ≠ 0) :
    Calls Try.prog 22 #[s.v] w (Ret fun v w' => v = .tuple #[.slice none 0 0, .int .i64 (sheetErr s.L s.R s.l s.t)] ∧ Below w.heap.size w w') := by
  refine (greatest_any s w h.links h.known (by have := h.many; omega) (by have := h.few; omega) h.capA h.capA').mono ?_
  rintro e w' ⟨v, rfl, hv, hB⟩
  rcases hv with ⟨_, h1⟩ | ⟨h1, _⟩
  · exact Ret.mk ⟨h1, hB⟩
  · exact absurd h1 hs
theorem coverS (s : Sh) (w : World) (h : ShAt w s) (hs : Sheet s.L s.R s.l s.t) :
    Calls Try.prog 23 #[s.v] w (Ret fun v w' => (∃ C E cc cd cl cr, v = .tuple #[vCover C cl.length cc E cr.length cd, .int .i64 0] ∧ IntsAt w' C cl ∧ IntsAt w' E cr ∧ cl.length ≤ 12 ∧ cr.length ≤ 12 ∧ coverErr s.L s.R s.l s.t cl cr = 0 ∧ coverSize s.L s.R s.l s.t cl cr = ((s.t.length + mostS s : Nat) : Int)) ∧ Below w.heap.size w w') := by
  refine (coverM_any s w h.links h.known (by have := h.many; omega) (by have := h.few; omega) h.capA h.capA').mono ?_
  rintro e w' ⟨v, rfl, hv, hB⟩
  refine Ret.mk ⟨?_, hB⟩
  rcases hv with ⟨h1, _⟩ | ⟨_, C, E, cc, cd, f, P, D, rfl, h2, h3, h4, h5, h6⟩
  · exact absurd (sheetErr_iff.2 hs) h1
  · obtain ⟨g1, g2⟩ := cover_is_most hs h5 h6
    obtain ⟨_, _, g3⟩ := greatest_is hs h5
    have hd := hs.dim
    refine ⟨C, E, cc, cd, _, _, rfl, h2, h3, Nat.le_trans (leftsC_len f _) (by omega), Nat.le_trans (rightsC_len f _) (by omega), g1, ?_⟩
    rw [g2, g3.eq]; unfold mostS; omega
theorem coverE (s : Sh) (w : World) (h : ShAt w s) (hs : sheetErr s.L s.R s.l s.t ≠ 0) :
    Calls Try.prog 23 #[s.v] w (Ret fun v w' => v = .tuple #[vCover none 0 0 none 0 0, .int .i64 (sheetErr s.L s.R s.l s.t)] ∧ Below w.heap.size w w') := by
  refine (coverM_any s w h.links h.known (by have := h.many; omega) (by have := h.few; omega) h.capA h.capA').mono ?_
  rintro e w' ⟨v, rfl, hv, hB⟩
  rcases hv with ⟨_, h1⟩ | ⟨h1, _⟩
  · exact Ret.mk ⟨h1, hB⟩
  · exact absurd h1 hs
theorem kindsS (s : Sh) (w : World) (h : ShAt w s) (hs : Sheet s.L s.R s.l s.t) :
    Calls Try.prog 25 #[s.v] w (Ret fun v w' => (∃ G c, v = .tuple #[.slice G (kindsC s).length c, .int .i64 0] ∧ IntsAt w' G (kindsC s) ∧ (kindsC s).length ≤ c) ∧ Below w.heap.size w w') := by
  refine (kindsM_any s w h.links h.known (by have := h.many; omega) (by have := h.few; omega) h.capA h.capA').mono ?_
  rintro e w' ⟨v, rfl, hv, hB⟩
  refine Ret.mk ⟨?_, hB⟩
  rcases hv with ⟨h1, _⟩ | ⟨_, G, c, ks, rfl, h2, h3, h4⟩
  · exact absurd (sheetErr_iff.2 hs) h1
  · have e := h4.eq
    subst e
    exact ⟨G, c, rfl, h2, h3⟩
theorem kindsE (s : Sh) (w : World) (h : ShAt w s) (hs : sheetErr s.L s.R s.l s.t ≠ 0) :
    Calls Try.prog 25 #[s.v] w (Ret fun v w' => v = .tuple #[.slice none 0 0, .int .i64 (sheetErr s.L s.R s.l s.t)] ∧ Below w.heap.size w w') := by
  refine (kindsM_any s w h.links h.known (by have := h.many; omega) (by have := h.few; omega) h.capA h.capA').mono ?_
  rintro e w' ⟨v, rfl, hv, hB⟩
  rcases hv with ⟨_, h1⟩ | ⟨h1, _⟩
  · exact Ret.mk ⟨h1, hB⟩
  · exact absurd h1 hs
theorem itemsS (s : Sh) (right : Bool) (w : World) (h : ShAt w s) (hs : Sheet s.L s.R s.l s.t) :
    Calls Try.prog 27 #[s.v, .bool right] w (Ret fun v w' => (∃ G c, v = .tuple #[.slice G (itemsC s right).length c, .int .i64 0] ∧ IntsAt w' G (itemsC s right) ∧ (itemsC s right).length ≤ c) ∧ Below w.heap.size w w') := by
  refine (itemsM_any s right w h.links h.known (by have := h.many; omega) (by have := h.few; omega) h.capA h.capA').mono ?_
  rintro e w' ⟨v, rfl, hv, hB⟩
  refine Ret.mk ⟨?_, hB⟩
  rcases hv with ⟨h1, _⟩ | ⟨_, G, is, ks, rfl, h2, h3, h4, h5⟩
  · exact absurd (sheetErr_iff.2 hs) h1
  · have e := items_eq h3 h4 h5
    subst e
    exact ⟨_, _, rfl, h2, Nat.le_refl _⟩
theorem itemsE (s : Sh) (right : Bool) (w : World) (h : ShAt w s) (hs : sheetErr s.L s.R s.l s.t ≠ 0) :
    Calls Try.prog 27 #[s.v, .bool right] w (Ret fun v w' => v = .tuple #[.slice none 0 0, .int .i64 (sheetErr s.L s.R s.l s.t)] ∧ Below w.heap.size w w') := by
  refine (itemsM_any s right w h.links h.known (by have := h.many; omega) (by have := h.few; omega) h.capA h.capA').mono ?_
  rintro e w' ⟨v, rfl, hv, hB⟩
  rcases hv with ⟨_, h1⟩ | ⟨h1, _⟩
  · exact Ret.mk ⟨h1, hB⟩
  · exact absurd h1 hs
theorem askS (s : Sh) (w : World) (h : ShAt w s) (hs : Sheet s.L s.R s.l s.t) :
    Calls Try.prog 30 #[s.v] w (Ret fun v w' => v = askV (qsC s) ∧ Below w.heap.size w w') := by
  refine (ask_any s w h.links h.known (by have := h.many; omega) (by have := h.few; omega) h.capA h.capA' h.capB).mono ?_
  rintro e w' ⟨v, rfl, hv, hB⟩
  refine Ret.mk ⟨?_, hB⟩
  rcases hv with ⟨h1, _⟩ | ⟨_, ks, qs, h2, h3, rfl⟩
  · exact absurd (sheetErr_iff.2 hs) h1
  · rw [qs_eq h2 h3]
theorem askE (s : Sh) (w : World) (h : ShAt w s) (hs : sheetErr s.L s.R s.l s.t ≠ 0) :
    Calls Try.prog 30 #[s.v] w (Ret fun v w' => v = .tuple #[.int .i64 0, .int .i64 0, .int .i64 (sheetErr s.L s.R s.l s.t)] ∧ Below w.heap.size w w') := by
  refine (ask_any s w h.links h.known (by have := h.many; omega) (by have := h.few; omega) h.capA h.capA' h.capB).mono ?_
  rintro e w' ⟨v, rfl, hv, hB⟩
  rcases hv with ⟨_, h1⟩ | ⟨h1, _⟩
  · exact Ret.mk ⟨h1, hB⟩
  · exact absurd h1 hs
end Go.Proofs.Ytoogfdicmpkkgaa
