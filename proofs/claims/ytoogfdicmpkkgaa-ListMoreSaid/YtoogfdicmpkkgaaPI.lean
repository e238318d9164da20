/- Plain: kinds when one link more is known, or is left out; with one link more; without an item. -/
import Derived.Test.YtoogfdicmpkkgaaPH
namespace Go.Proofs.Ytoogfdicmpkkgaa
open Match

theorem gr_congr {E E' K K' : Pr → Prop} (he : ∀ x, E x ↔ E' x) (hk : ∀ x, K x ↔ K' x) (G : List Pr) : Gr E K G ↔ Gr E' K' G := by
  have h1 : E = E' := funext fun x => propext (he x)
  have h2 : K = K' := funext fun x => propext (hk x)
  rw [h1, h2]
/-- the sheet that knows a link more, as numbers alone -/
def yesS (s : Sh) (k : Nat) : Sh := Sh.of s.L s.R s.l (yesT s.t k)
def noS (s : Sh) (k : Nat) : Sh := Sh.of s.L s.R (s.l.eraseIdx k) (noT s.t k)
theorem Sheet.yes {s : Sh} (h : Sheet s.L s.R s.l s.t) {k : Nat} (hk : k < s.l.length) (hf : freeP s k = true) : Sheet (yesS s k).L (yesS s k).R (yesS s k).l (yesS s k).t := yes_sheet h hk hf
theorem Sheet.no {s : Sh} (h : Sheet s.L s.R s.l s.t) {k : Nat} (hk : k < s.l.length) (hn : (k : Int) ∉ s.t) : Sheet (noS s k).L (noS s k).R (noS s k).l (noS s k).t := no_sheet h hk hn
theorem kind_free {s : Sh} {k : Nat} (h0 : kindC s k ≠ 0) (hn : (k : Int) ∉ s.t) : freeP s k = true := by
  cases hf : freeP s k
  · refine absurd ?_ h0
    unfold kindC
    rw [show s.t.contains (k : Int) = false by simpa using hn, hf]; rfl
  · rfl
theorem Sheet.known_len {s : Sh} (h : Sheet s.L s.R s.l s.t) : s.t.length ≤ s.l.length := by
  have := nodup_le (s.t.map Int.toNat) (List.range s.l.length) ((nodup_map_toNat (rise_iff.1 h.rise).1 fun x hx => (h.bound x hx).1).imp fun {a b} hab => by omega) fun x hx => by
    obtain ⟨y, hy, rfl⟩ := List.mem_map.1 hx
    have := h.bound y hy
    exact List.mem_range.2 (by omega)
  rwa [List.length_map, List.length_range] at this
theorem Sheet.yes_gr {s : Sh} (h : Sheet s.L s.R s.l s.t) {k : Nat} (hk : k < s.l.length) (h0 : kindC s k ≠ 0) (G : List Pr) : Gr (· ∈ (yesS s k).l) (· ∈ pairsK (yesS s k)) G ↔ Gr (· ∈ s.l) (· ∈ pairsK s) G ∧ atL s.l k ∈ G := by
  refine (gr_congr (fun _ => Iff.rfl) (fun x => yes_pairs (s := s) (k := k) x) G).trans (gr_know ?_ G)
  rcases h.kind hk with ⟨_, h1⟩ | ⟨e, _⟩ | ⟨_, h1, _⟩
  · obtain ⟨G, hG⟩ := h.gr_ex
    exact ⟨G, hG, h1 G hG⟩
  · exact absurd e h0
  · exact h1
theorem Sheet.no_gr {s : Sh} (h : Sheet s.L s.R s.l s.t) {k : Nat} (hk : k < s.l.length) (hn : (k : Int) ∉ s.t) (h1 : kindC s k = 1) (G : List Pr) : Gr (· ∈ (noS s k).l) (· ∈ pairsK (noS s k)) G ↔ Gr (· ∈ s.l) (· ∈ pairsK s) G ∧ atL s.l k ∉ G := by
  have hp : pairsK (noS s k) = pairsK s := no_pairs h hn
  rw [hp]
  exact (gr_congr (fun x => mem_erase h.nodup hk x) (fun _ => Iff.rfl) G).trans (gr_leave ((h.kind hk).one h1).2 G)
/-- a greatest joining of the sheet that knows more has as many links -/
theorem Sheet.yes_len {s : Sh} (h : Sheet s.L s.R s.l s.t) {k : Nat} (hk : k < s.l.length) (h0 : kindC s k ≠ 0) (hf : freeP s k = true) : mostS (yesS s k) + (yesS s k).t.length = mostS s + s.t.length := by
  obtain ⟨G, hG⟩ := (h.yes hk hf).gr_ex
  have h1 := ((h.yes hk hf).gr_iff.1 hG).2
  have h2 := (h.gr_iff.1 ((h.yes_gr hk h0 G).1 hG).1).2
  omega
theorem Sheet.no_len {s : Sh} (h : Sheet s.L s.R s.l s.t) {k : Nat} (hk : k < s.l.length) (hn : (k : Int) ∉ s.t) (h1 : kindC s k = 1) : mostS (noS s k) + (noS s k).t.length = mostS s + s.t.length := by
  obtain ⟨G, hG⟩ := (h.no hk hn).gr_ex
  have h2 := ((h.no hk hn).gr_iff.1 hG).2
  have h3 := (h.gr_iff.1 ((h.no_gr hk hn h1 G).1 hG).1).2
  omega
theorem KindG.of_two {E K : Pr → Prop} {x : Pr} {v : Int} (h : KindG E K x v) (he : ∃ G, Gr E K G) (h2 : ∀ G, Gr E K G → x ∈ G) : v = 2 := KindG.uniq h (.inl ⟨rfl, h2⟩) he
theorem KindG.of_zero {E K : Pr → Prop} {x : Pr} {v : Int} (h : KindG E K x v) (he : ∃ G, Gr E K G) (h2 : ∀ G, Gr E K G → x ∉ G) : v = 0 := KindG.uniq h (.inr (.inl ⟨rfl, h2⟩)) he
theorem Sheet.yes_self {s : Sh} (h : Sheet s.L s.R s.l s.t) {k : Nat} (hk : k < s.l.length) (h0 : kindC s k ≠ 0) (hf : freeP s k = true) : kindC (yesS s k) k = 2 :=
  KindG.of_two ((h.yes hk hf).kind (k := k) hk) (h.yes hk hf).gr_ex fun G hG => ((h.yes_gr hk h0 G).1 hG).2
theorem Sheet.yes_certain {s : Sh} (h : Sheet s.L s.R s.l s.t) {k : Nat} (hk : k < s.l.length) (h0 : kindC s k ≠ 0) (hf : freeP s k = true) {i : Nat} (hi : i < s.l.length) (h1 : kindC s i ≠ 1) : kindC (yesS s k) i = kindC s i := by
  have hx := (h.yes hk hf).kind (k := i) hi
  have he := (h.yes hk hf).gr_ex
  rcases kindC_vals (s := s) (k := i) with e | e | e
  · rw [e]; exact KindG.of_zero hx he fun G hG => (h.kind hi).zero e G ((h.yes_gr hk h0 G).1 hG).1
  · exact absurd e h1
  · rw [e]; exact KindG.of_two hx he fun G hG => (h.kind hi).two e G ((h.yes_gr hk h0 G).1 hG).1
theorem Sheet.yes_always {s : Sh} (h : Sheet s.L s.R s.l s.t) {k : Nat} (hk : k < s.l.length) (h2 : kindC s k = 2) (hf : freeP s k = true) {i : Nat} (hi : i < s.l.length) : kindC (yesS s k) i = kindC s i := by
  have hg : ∀ G, Gr (· ∈ (yesS s k).l) (· ∈ pairsK (yesS s k)) G ↔ Gr (· ∈ s.l) (· ∈ pairsK s) G := fun G => by
    rw [h.yes_gr hk (by omega)]
    exact ⟨fun h => h.1, fun hG => ⟨hG, (h.kind hk).two h2 G hG⟩⟩
  refine KindG.uniq ((h.yes hk hf).kind (k := i) hi) ?_ (h.yes hk hf).gr_ex
  rcases h.kind hi with ⟨e, k1⟩ | ⟨e, k1⟩ | ⟨e, ⟨A, k1, k2⟩, B, k3, k4⟩
  · exact .inl ⟨e, fun G hG => k1 G ((hg G).1 hG)⟩
  · exact .inr (.inl ⟨e, fun G hG => k1 G ((hg G).1 hG)⟩)
  · exact .inr (.inr ⟨e, ⟨A, (hg A).2 k1, k2⟩, B, (hg B).2 k3, k4⟩)
theorem Sheet.no_certain {s : Sh} (h : Sheet s.L s.R s.l s.t) {k : Nat} (hk : k < s.l.length) (hn : (k : Int) ∉ s.t) (h1 : kindC s k = 1) {i m : Nat} (hi : i < s.l.length) (hm : m < (s.l.eraseIdx k).length) (hx : atL (s.l.eraseIdx k) m = atL s.l i) (hi1 : kindC s i ≠ 1) : kindC (noS s k) m = kindC s i := by
  have hg := (h.no hk hn).kind (k := m) hm
  rw [show atL (noS s k).l m = atL s.l i from hx] at hg
  have he := (h.no hk hn).gr_ex
  rcases kindC_vals (s := s) (k := i) with e | e | e
  · rw [e]; exact KindG.of_zero hg he fun G hG => (h.kind hi).zero e G ((h.no_gr hk hn h1 G).1 hG).1
  · exact absurd e hi1
  · rw [e]; exact KindG.of_two hg he fun G hG => (h.kind hi).two e G ((h.no_gr hk hn h1 G).1 hG).1
theorem erase_dec {l : List Pr} {k i : Nat} (hi : i < l.length) (hk : k < l.length) (hne : i ≠ k) : (decK k i).toNat < (l.eraseIdx k).length ∧ ((decK k i).toNat : Int) = decK k i ∧ atL (l.eraseIdx k) (decK k i).toNat = atL l i := by
  have h0 : 0 ≤ decK k i := by unfold decK; split <;> omega
  refine ⟨?_, by omega, ?_⟩
  · rw [List.length_eraseIdx, if_pos hk]
    unfold decK; split <;> omega
  · rw [show ((decK k i).toNat : Int) = decK k i by omega]
    exact atL_erase (by omega) (by omega)

/-! one link more -/
theorem jn_more {E K : Pr → Prop} {x : Pr} {G : List Pr} (h : Jn E K G) : Jn (fun y => E y ∨ y = x) K G := h.sub fun y hy => .inl (h.links y hy)
theorem jn_less {E K : Pr → Prop} {x : Pr} {G : List Pr} (h : Jn (fun y => E y ∨ y = x) K G) (hk : ¬ K x) : ∃ G', Jn E K G' ∧ G.length ≤ G'.length + 1 := by
  refine ⟨G.filter fun y => !(y == x), ⟨h.apart.sublist List.filter_sublist, fun y hy => ?_, fun y hy => List.mem_filter.2 ⟨h.known y hy, ?_⟩⟩, ?_⟩
  · obtain ⟨h1, h2⟩ := List.mem_filter.1 hy
    rcases h.links y h1 with h3 | rfl
    · exact h3
    · simp at h2
  · have : y ≠ x := fun e => hk (e ▸ hy)
    simpa using this
  · have h8 := filter_lenP (fun y => y == x) G
    have h9 : (G.filter fun y => y == x).length ≤ 1 := by
      have := nodup_leP (G.filter fun y => y == x) [x] (h.nodup.sublist List.filter_sublist) fun y hy => by simpa using (List.mem_filter.1 hy).2
      simpa using this
    omega
/-- the sheet with one link more -/
def moreS (s : Sh) (x : Pr) : Sh := Sh.of s.L s.R (s.l ++ [x]) s.t
theorem atL_app {l : List Pr} {x : Pr} {y : Int} (h0 : 0 ≤ y) (h1 : y < l.length) : atL (l ++ [x]) y = atL l y := by
  obtain ⟨k, rfl⟩ := Int.eq_ofNat_of_zero_le h0
  have hk : k < l.length := by omega
  rw [atL_eq (by simp; omega), atL_eq hk, List.getElem_append_left hk]
theorem more_pairs {s : Sh} (h : Sheet s.L s.R s.l s.t) (x : Pr) : pairsK (moreS s x) = pairsK s := by
  unfold pairsK moreS Sh.of
  exact List.map_congr_left fun y hy => atL_app (h.bound y hy).1 (h.bound y hy).2
theorem Sheet.more_len {s : Sh} {x : Pr} (h : Sheet s.L s.R s.l s.t) (h' : Sheet (moreS s x).L (moreS s x).R (moreS s x).l (moreS s x).t) : mostS s ≤ mostS (moreS s x) ∧ mostS (moreS s x) ≤ mostS s + 1 := by
  obtain ⟨G, hG⟩ := h.gr_ex
  obtain ⟨G', hG'⟩ := h'.gr_ex
  have e1 := (h.gr_iff.1 hG).2
  have e2 := (h'.gr_iff.1 hG').2
  have ht : (moreS s x).t = s.t := rfl
  have hE : ∀ y, y ∈ (moreS s x).l ↔ y ∈ s.l ∨ y = x := fun y => by show y ∈ s.l ++ [x] ↔ _; simp
  have hE' : (· ∈ (moreS s x).l) = fun y => y ∈ s.l ∨ y = x := funext fun y => propext (hE y)
  have hK : (· ∈ pairsK (moreS s x)) = (· ∈ pairsK s) := by rw [more_pairs h]
  rw [hE', hK] at hG'
  have hx : x ∉ pairsK s := fun hx => by
    have h2 := h'.nodup
    have h3 : (s.l ++ [x]).Nodup := h2
    rw [List.nodup_append] at h3
    exact h3.2.2 x (h.ps.sub x hx) x (by simp) rfl
  have h1 := hG'.most G (jn_more hG.jn)
  obtain ⟨G2, h2, h3⟩ := jn_less hG'.jn hx
  have h4 := hG.most G2 h2
  rw [ht] at e2
  omega
theorem IsJ.more {s : Sh} {x : Pr} {j : List Int} (hj : IsJ s j) : IsJ (moreS s x) j := by
  refine ⟨hj.rise, fun y hy => ?_, ?_, hj.known⟩
  · have := hj.bound y hy
    have e : (moreS s x).l.length = s.l.length + 1 := by show (s.l ++ [x]).length = _; simp
    omega
  · refine hj.single.imp_of_mem fun {a b} ha hb hab => ?_
    have h1 := hj.bound a ha
    have h2 := hj.bound b hb
    show meetB (atL (s.l ++ [x]) a) (atL (s.l ++ [x]) b) = false
    rw [atL_app h1.1 h1.2, atL_app h2.1 h2.2]
    exact hab

/-! without an item -/
theorem ItemG.two_iff {E K has : Pr → Prop} {v : Int} (h : ItemG E K has v) (he : ∃ G, Gr E K G) : v = 2 ↔ ∀ G, Gr E K G → ∃ x ∈ G, has x :=
  ⟨fun e => by
    rcases h with ⟨_, h⟩ | ⟨e', _⟩ | ⟨e', _⟩
    · exact h
    · omega
    · omega, fun h2 => ItemG.uniq h (.inl ⟨rfl, h2⟩) he⟩
theorem ItemG.zero_iff {E K has : Pr → Prop} {v : Int} (h : ItemG E K has v) (he : ∃ G, Gr E K G) : v = 0 ↔ ∀ G, Gr E K G → ∀ x ∈ G, ¬ has x :=
  ⟨fun e => by
    rcases h with ⟨e', _⟩ | ⟨_, h⟩ | ⟨e', _⟩
    · omega
    · exact h
    · omega, fun h2 => ItemG.uniq h (.inr (.inl ⟨rfl, h2⟩)) he⟩
/-- the sheet without the links of an item of the left list -/
def bareS (s : Sh) (i : Nat) : Sh := Sh.of s.L s.R (s.l.filter fun x => !(x.1 == (i : Int))) []
theorem Sheet.bare {s : Sh} (h : Sheet s.L s.R s.l s.t) (i : Nat) : Sheet (bareS s i).L (bareS s i).R (bareS s i).l (bareS s i).t := by
  have hs : (s.l.filter fun x => !(x.1 == (i : Int))).Sublist s.l := List.filter_sublist
  refine ⟨h.dim, Nat.le_trans hs.length_le h.many, fun x hx => h.links x (hs.subset hx), apart_iff.2 (h.nodup.sublist hs), rfl, rfl⟩
theorem Sheet.bare_most {s : Sh} (h : Sheet s.L s.R s.l s.t) (ht : s.t = []) (i : Nat) : mostS (bareS s i) < mostS s ↔ itemC s false i = 2 := by
  rw [ItemG.two_iff (h.item false i) h.gr_ex]
  have hk : pairsK s = [] := by unfold pairsK; rw [ht]; rfl
  refine h.ps.less h.most_free (D := fun x => itemOf false x = (i : Int)) (by rw [hk]; simp) ((h.bare i).most_free.congr fun x => ?_)
  have hb : pairsK (bareS s i) = [] := rfl
  unfold FreeE
  rw [hb, hk]
  show (x ∈ s.l.filter (fun x => !(x.1 == (i : Int))) ∧ _) ↔ _
  rw [List.mem_filter]
  simp [itemOf]
theorem item_zero {s : Sh} (right : Bool) (i : Nat) : itemC s right i = 0 ↔ maxK (ofS s right) (kindsC s) s.l.length i = 0 := by
  unfold itemC
  split
  · exact Iff.rfl
  · split <;> omega
theorem item_two {s : Sh} (right : Bool) (i : Nat) (h2 : maxK (ofS s right) (kindsC s) s.l.length i = 2) : itemC s right i = 2 := by
  unfold itemC
  rw [if_pos (by omega), h2]
end Go.Proofs.Ytoogfdicmpkkgaa
