/- Joinings as lists of pairs: the greatest ones, kinds of links and of items by them, and how these stay when a link is known, left out, or all are renamed. -/
namespace Match
abbrev Pr := Int × Int
def Away (a b : Pr) : Prop := a.1 ≠ b.1 ∧ a.2 ≠ b.2
theorem Away.symm {a b : Pr} (h : Away a b) : Away b a := ⟨h.1.symm, h.2.symm⟩
theorem Away.ne {a b : Pr} (h : Away a b) : a ≠ b := fun e => h.1 (by rw [e])
/-- a joining of links of E that has all of K -/
structure Jn (E K : Pr → Prop) (G : List Pr) : Prop where
  apart : G.Pairwise Away
  links : ∀ x ∈ G, E x
  known : ∀ x, K x → x ∈ G
def Nil (_ : Pr) : Prop := False
def MostE (E : Pr → Prop) (n : Nat) : Prop := (∃ G, Jn E Nil G ∧ G.length = n) ∧ ∀ G, Jn E Nil G → G.length ≤ n
/-- a greatest one -/
structure Gr (E K : Pr → Prop) (G : List Pr) : Prop where
  jn : Jn E K G
  most : ∀ G', Jn E K G' → G'.length ≤ G.length
theorem MostE.uniq {E : Pr → Prop} {n m : Nat} (h : MostE E n) (k : MostE E m) : n = m := by
  obtain ⟨⟨G, h1, h2⟩, h3⟩ := h
  obtain ⟨⟨G', k1, k2⟩, k3⟩ := k
  have := h3 G' k1
  have := k3 G h1
  omega
theorem MostE.congr {E E' : Pr → Prop} {n : Nat} (h : MostE E n) (he : ∀ x, E x ↔ E' x) : MostE E' n := by
  have : E = E' := funext fun x => propext (he x)
  rwa [← this]
theorem Jn.sub {E E' K : Pr → Prop} {G : List Pr} (h : Jn E K G) (he : ∀ x ∈ G, E' x) : Jn E' K G := ⟨h.apart, he, h.known⟩
theorem Gr.len {E K : Pr → Prop} {G G' : List Pr} (h : Gr E K G) (h' : Gr E K G') : G.length = G'.length := by
  have := h.most G' h'.jn
  have := h'.most G h.jn
  omega
theorem Gr.of {E K : Pr → Prop} {G G' : List Pr} (h : Gr E K G) (h' : Jn E K G') (e : G.length ≤ G'.length) : Gr E K G' := ⟨h', fun X hX => by have := h.most X hX; omega⟩
theorem nodup_leP : ∀ (a b : List Pr), a.Pairwise (· ≠ ·) → (∀ x ∈ a, x ∈ b) → a.length ≤ b.length
  | [], _, _, _ => by simp
  | x :: a, b, h, hs => by
    rw [List.pairwise_cons] at h
    have hx := hs x (by simp)
    have := nodup_leP a (b.erase x) h.2 (fun y hy => (List.mem_erase_of_ne (fun e => h.1 y hy e.symm)).2 (hs y (by simp [hy])))
    rw [List.length_erase_of_mem hx] at this
    have := List.length_pos_of_mem hx
    simp only [List.length_cons]; omega
theorem Jn.nodup {E K : Pr → Prop} {G : List Pr} (h : Jn E K G) : G.Pairwise (· ≠ ·) := h.apart.imp fun h => h.ne
theorem filter_lenP (p : Pr → Bool) : ∀ l : List Pr, (l.filter p).length + (l.filter fun x => !p x).length = l.length
  | [] => rfl
  | x :: l => by
    have := filter_lenP p l
    cases h : p x <;> simp [h] <;> omega
theorem pairwise_of_mem {R : Pr → Pr → Prop} (hs : ∀ a b, R a b → R b a) : ∀ {l : List Pr}, l.Pairwise R → ∀ a ∈ l, ∀ b ∈ l, a ≠ b → R a b
  | [], _, a, ha, _, _, _ => by simp at ha
  | x :: l, h, a, ha, b, hb, hn => by
    rw [List.pairwise_cons] at h
    rcases List.mem_cons.1 ha with e | ha'
    · rcases List.mem_cons.1 hb with e' | hb'
      · exact absurd (e.trans e'.symm) hn
      · rw [e]; exact h.1 b hb'
    · rcases List.mem_cons.1 hb with e' | hb'
      · rw [e']; exact hs _ _ (h.1 a ha')
      · exact pairwise_of_mem hs h.2 a ha' b hb' hn
theorem Jn.away {E K : Pr → Prop} {G : List Pr} (h : Jn E K G) {a b : Pr} (ha : a ∈ G) (hb : b ∈ G) (hn : a ≠ b) : Away a b := pairwise_of_mem (fun _ _ => Away.symm) h.apart a ha b hb hn

/-- links that have no item in common with a known one -/
def FreeE (l kl : List Pr) (x : Pr) : Prop := x ∈ l ∧ ∀ y ∈ kl, Away x y
structure PS (l kl : List Pr) : Prop where
  single : kl.Pairwise Away
  sub : ∀ y ∈ kl, y ∈ l
theorem PS.join {l kl M : List Pr} (h : PS l kl) (hM : Jn (FreeE l kl) Nil M) : Jn (· ∈ l) (· ∈ kl) (kl ++ M) :=
  ⟨List.pairwise_append.2 ⟨h.single, hM.apart, fun a ha b hb => ((hM.links b hb).2 a ha).symm⟩, fun x hx => by
    rcases List.mem_append.1 hx with hx | hx
    · exact h.sub x hx
    · exact (hM.links x hx).1, fun _ hx => List.mem_append_left _ hx⟩
def rest (kl G : List Pr) : List Pr := G.filter fun x => !kl.contains x
theorem rest_mem {kl G : List Pr} {x : Pr} : x ∈ rest kl G ↔ x ∈ G ∧ x ∉ kl := by unfold rest; simp
theorem PS.free {l kl G : List Pr} (h : PS l kl) (hG : Jn (· ∈ l) (· ∈ kl) G) : Jn (FreeE l kl) Nil (rest kl G) ∧ (rest kl G).length + kl.length = G.length := by
  refine ⟨⟨hG.apart.sublist List.filter_sublist, fun x hx => ?_, fun x hx => hx.elim⟩, ?_⟩
  · obtain ⟨h1, h2⟩ := rest_mem.1 hx
    exact ⟨hG.links x h1, fun y hy => hG.away h1 (hG.known y hy) fun e => h2 (by rw [e]; exact hy)⟩
  · have h1 := filter_lenP (fun x => kl.contains x) G
    have h2 : (G.filter fun x => kl.contains x).length = kl.length := by
      refine Nat.le_antisymm (nodup_leP _ _ (hG.nodup.sublist List.filter_sublist) fun x hx => by simpa using (List.mem_filter.1 hx).2) (nodup_leP _ _ (h.single.imp fun h => h.ne) fun x hx => List.mem_filter.2 ⟨hG.known x hx, by simpa using hx⟩)
    unfold rest
    omega
theorem PS.gr_iff {l kl G : List Pr} {n : Nat} (h : PS l kl) (hn : MostE (FreeE l kl) n) : Gr (· ∈ l) (· ∈ kl) G ↔ Jn (· ∈ l) (· ∈ kl) G ∧ G.length = n + kl.length := by
  constructor
  · intro hG
    refine ⟨hG.jn, ?_⟩
    obtain ⟨h1, h2⟩ := h.free hG.jn
    have h3 := hn.2 _ h1
    obtain ⟨M, h4, h5⟩ := hn.1
    have := hG.most _ (h.join h4)
    rw [List.length_append] at this
    omega
  · rintro ⟨h1, h2⟩
    refine ⟨h1, fun G' h' => ?_⟩
    obtain ⟨h3, h4⟩ := h.free h'
    have := hn.2 _ h3
    omega
theorem PS.gr_ex {l kl : List Pr} {n : Nat} (h : PS l kl) (hn : MostE (FreeE l kl) n) : ∃ G, Gr (· ∈ l) (· ∈ kl) G := by
  obtain ⟨M, h4, h5⟩ := hn.1
  exact ⟨_, (h.gr_iff hn).2 ⟨h.join h4, by rw [List.length_append]; omega⟩⟩

/-- a link's kind -/
def KindG (E K : Pr → Prop) (x : Pr) (v : Int) : Prop := v = 2 ∧ (∀ G, Gr E K G → x ∈ G) ∨ v = 0 ∧ (∀ G, Gr E K G → x ∉ G) ∨ v = 1 ∧ (∃ G, Gr E K G ∧ x ∈ G) ∧ ∃ G, Gr E K G ∧ x ∉ G
/-- an item's kind; has: the links of the item -/
def ItemG (E K : Pr → Prop) (has : Pr → Prop) (v : Int) : Prop := v = 2 ∧ (∀ G, Gr E K G → ∃ x ∈ G, has x) ∨ v = 0 ∧ (∀ G, Gr E K G → ∀ x ∈ G, ¬ has x) ∨ v = 1 ∧ (∃ G, Gr E K G ∧ ∃ x ∈ G, has x) ∧ ∃ G, Gr E K G ∧ ∀ x ∈ G, ¬ has x
theorem KindG.two {E K : Pr → Prop} {x : Pr} {v : Int} (h : KindG E K x v) (e : v = 2) : ∀ G, Gr E K G → x ∈ G := by
  rcases h with ⟨_, h⟩ | ⟨e', _⟩ | ⟨e', _⟩
  · exact h
  · omega
  · omega
theorem KindG.zero {E K : Pr → Prop} {x : Pr} {v : Int} (h : KindG E K x v) (e : v = 0) : ∀ G, Gr E K G → x ∉ G := by
  rcases h with ⟨e', _⟩ | ⟨_, h⟩ | ⟨e', _⟩
  · omega
  · exact h
  · omega
theorem KindG.one {E K : Pr → Prop} {x : Pr} {v : Int} (h : KindG E K x v) (e : v = 1) : (∃ G, Gr E K G ∧ x ∈ G) ∧ ∃ G, Gr E K G ∧ x ∉ G := by
  rcases h with ⟨e', _⟩ | ⟨e', _⟩ | ⟨_, h⟩
  · omega
  · omega
  · exact h
theorem KindG.uniq {E K : Pr → Prop} {x : Pr} {v u : Int} (h : KindG E K x v) (k : KindG E K x u) (he : ∃ G, Gr E K G) : v = u := by
  obtain ⟨G, hG⟩ := he
  rcases h with ⟨e, h⟩ | ⟨e, h⟩ | ⟨e, ⟨A, hA, hA'⟩, B, hB, hB'⟩ <;> rcases k with ⟨e', k⟩ | ⟨e', k⟩ | ⟨e', ⟨C, hC, hC'⟩, D, hD, hD'⟩ <;> subst e <;> subst e'
  all_goals first
    | rfl
    | exact absurd (h G hG) (k G hG)
    | exact absurd (k G hG) (h G hG)
    | exact absurd (h D hD) hD'
    | exact absurd hC' (h C hC)
    | exact absurd (k B hB) hB'
    | exact absurd hA' (k A hA)
theorem ItemG.uniq {E K has : Pr → Prop} {v u : Int} (h : ItemG E K has v) (k : ItemG E K has u) (he : ∃ G, Gr E K G) : v = u := by
  obtain ⟨G, hG⟩ := he
  have no : ∀ {A : List Pr}, (∃ x ∈ A, has x) → (∀ x ∈ A, ¬ has x) → False := fun ⟨x, h1, h2⟩ h3 => h3 x h1 h2
  rcases h with ⟨e, h⟩ | ⟨e, h⟩ | ⟨e, ⟨A, hA, hA'⟩, B, hB, hB'⟩ <;> rcases k with ⟨e', k⟩ | ⟨e', k⟩ | ⟨e', ⟨C, hC, hC'⟩, D, hD, hD'⟩ <;> subst e <;> subst e'
  all_goals first
    | rfl
    | exact (no (h G hG) (k G hG)).elim
    | exact (no (k G hG) (h G hG)).elim
    | exact (no (h D hD) hD').elim
    | exact (no hC' (h C hC)).elim
    | exact (no (k B hB) hB').elim
    | exact (no hA' (k A hA)).elim

section
variable {l kl : List Pr} {n : Nat} {x : Pr}
theorem PS.always_iff {a : Nat} (h : PS l kl) (hn : MostE (FreeE l kl) n) (hx : FreeE l kl x) (ha : MostE (fun y => FreeE l kl y ∧ y ≠ x) a) : a < n ↔ ∀ G, Gr (· ∈ l) (· ∈ kl) G → x ∈ G := by
  constructor
  · intro hlt G hG
    by_cases hm : x ∈ G
    · exact hm
    · obtain ⟨h1, h2⟩ := h.free hG.jn
      have h3 := ha.2 (rest kl G) ⟨h1.apart, fun y hy => ⟨h1.links y hy, fun e => hm (by rw [← e]; exact (rest_mem.1 hy).1)⟩, h1.known⟩
      have := ((h.gr_iff hn).1 hG).2
      omega
  · intro hall
    obtain ⟨M, h1, h2⟩ := ha.1
    by_cases hlt : a < n
    · exact hlt
    · have hM : Jn (FreeE l kl) Nil M := h1.sub fun y hy => (h1.links y hy).1
      have := hn.2 M hM
      have hG : Gr (· ∈ l) (· ∈ kl) (kl ++ M) := (h.gr_iff hn).2 ⟨h.join hM, by rw [List.length_append]; omega⟩
      rcases List.mem_append.1 (hall _ hG) with hk | hk
      · exact absurd rfl (hx.2 x hk).ne
      · exact absurd rfl (h1.links x hk).2
theorem PS.may_iff {b : Nat} (h : PS l kl) (hn : MostE (FreeE l kl) n) (hx : FreeE l kl x) (hb : MostE (fun y => FreeE l kl y ∧ Away y x) b) : 1 + b ≤ n ∧ (1 + b = n ↔ ∃ G, Gr (· ∈ l) (· ∈ kl) G ∧ x ∈ G) := by
  obtain ⟨M, h1, h2⟩ := hb.1
  have hM : Jn (FreeE l kl) Nil (x :: M) := ⟨List.pairwise_cons.2 ⟨fun y hy => (h1.links y hy).2.symm, h1.apart⟩, fun y hy => by
    rcases List.mem_cons.1 hy with rfl | hy
    · exact hx
    · exact (h1.links y hy).1, fun _ h => h.elim⟩
  have h3 := hn.2 _ hM
  rw [List.length_cons] at h3
  refine ⟨by omega, fun e => ⟨_, (h.gr_iff hn).2 ⟨h.join hM, by rw [List.length_append, List.length_cons]; omega⟩, by simp⟩, ?_⟩
  rintro ⟨G, hG, hxG⟩
  obtain ⟨h4, h5⟩ := h.free hG.jn
  have h6 : x ∈ rest kl G := rest_mem.2 ⟨hxG, fun hk => (hx.2 x hk).ne rfl⟩
  have h7 := hb.2 ((rest kl G).filter fun y => !(y == x)) ⟨h4.apart.sublist List.filter_sublist, fun y hy => by
    obtain ⟨hy1, hy2⟩ := List.mem_filter.1 hy
    have hne : y ≠ x := by simpa using hy2
    exact ⟨h4.links y hy1, h4.away hy1 h6 hne⟩, fun _ h => h.elim⟩
  have h8 := filter_lenP (fun y => y == x) (rest kl G)
  have h9 : ((rest kl G).filter fun y => y == x).length ≤ 1 := by
    have := nodup_leP ((rest kl G).filter fun y => y == x) [x] (h4.nodup.sublist List.filter_sublist) fun y hy => by simpa using (List.mem_filter.1 hy).2
    simpa using this
  have := ((h.gr_iff hn).1 hG).2
  omega
/-- the kind that is computed by three numbers -/
theorem PS.kind {a b : Nat} {v : Int} (h : PS l kl) (hn : MostE (FreeE l kl) n) (hx : x ∈ l) (ha : FreeE l kl x → MostE (fun y => FreeE l kl y ∧ y ≠ x) a) (hb : FreeE l kl x → MostE (fun y => FreeE l kl y ∧ Away y x) b)
    (h1 : x ∈ kl → v = 2) (h2 : x ∉ kl → ¬ FreeE l kl x → v = 0) (h3 : FreeE l kl x → v = if a < n then 2 else if 1 + b = n then 1 else 0) : KindG (· ∈ l) (· ∈ kl) x v := by
  by_cases hk : x ∈ kl
  · exact .inl ⟨h1 hk, fun G hG => hG.jn.known x hk⟩
  · by_cases hf : FreeE l kl x
    · have e1 := h.always_iff hn hf (ha hf)
      obtain ⟨e0, e2⟩ := h.may_iff hn hf (hb hf)
      have e3 := h3 hf
      by_cases c1 : a < n
      · rw [if_pos c1] at e3; exact .inl ⟨e3, e1.1 c1⟩
      · rw [if_neg c1] at e3
        by_cases c2 : 1 + b = n
        · rw [if_pos c2] at e3
          refine .inr (.inr ⟨e3, e2.1 c2, ?_⟩)
          refine Classical.byContradiction fun hno => c1 (e1.2 fun G hG => Classical.byContradiction fun hm => hno ⟨G, hG, hm⟩)
        · rw [if_neg c2] at e3
          exact .inr (.inl ⟨e3, fun G hG hm => c2 (e2.2 ⟨G, hG, hm⟩)⟩)
    · refine .inr (.inl ⟨h2 hk hf, fun G hG hm => hf ⟨hx, fun y hy => hG.jn.away hm (hG.jn.known y hy) fun e => hk (by rw [e]; exact hy)⟩⟩)
/-- how many links a greatest joining without some links has -/
theorem PS.less {a : Nat} {D : Pr → Prop} (h : PS l kl) (hn : MostE (FreeE l kl) n) (hk : ∀ y ∈ kl, ¬ D y) (ha : MostE (fun y => FreeE l kl y ∧ ¬ D y) a) : a < n ↔ ∀ G, Gr (· ∈ l) (· ∈ kl) G → ∃ x ∈ G, D x := by
  constructor
  · intro hlt G hG
    refine Classical.byContradiction fun hno => ?_
    obtain ⟨h1, h2⟩ := h.free hG.jn
    have h3 := ha.2 (rest kl G) ⟨h1.apart, fun y hy => ⟨h1.links y hy, fun e => hno ⟨y, (rest_mem.1 hy).1, e⟩⟩, h1.known⟩
    have := ((h.gr_iff hn).1 hG).2
    omega
  · intro hall
    obtain ⟨M, h1, h2⟩ := ha.1
    by_cases hlt : a < n
    · exact hlt
    · have hM : Jn (FreeE l kl) Nil M := h1.sub fun y hy => (h1.links y hy).1
      have := hn.2 M hM
      have hG : Gr (· ∈ l) (· ∈ kl) (kl ++ M) := (h.gr_iff hn).2 ⟨h.join hM, by rw [List.length_append]; omega⟩
      obtain ⟨x, hx, hD⟩ := hall _ hG
      rcases List.mem_append.1 hx with hx | hx
      · exact absurd hD (hk x hx)
      · exact absurd hD (h1.links x hx).2
end

/-! one link more is known, or is left out -/
theorem gr_know {E K : Pr → Prop} {x : Pr} (he : ∃ G, Gr E K G ∧ x ∈ G) (G : List Pr) : Gr E (fun y => K y ∨ y = x) G ↔ Gr E K G ∧ x ∈ G := by
  obtain ⟨A, hA, hxA⟩ := he
  have hA' : Jn E (fun y => K y ∨ y = x) A := ⟨hA.jn.apart, hA.jn.links, fun y hy => by
    rcases hy with hy | rfl
    · exact hA.jn.known y hy
    · exact hxA⟩
  have down : ∀ {G}, Jn E (fun y => K y ∨ y = x) G → Jn E K G := fun h => ⟨h.apart, h.links, fun y hy => h.known y (.inl hy)⟩
  constructor
  · intro hG
    exact ⟨hA.of (down hG.jn) (hG.most A hA'), hG.jn.known x (.inr rfl)⟩
  · rintro ⟨hG, hx⟩
    refine ⟨⟨hG.jn.apart, hG.jn.links, fun y hy => ?_⟩, fun G' h' => hG.most G' (down h')⟩
    rcases hy with hy | rfl
    · exact hG.jn.known y hy
    · exact hx
theorem gr_leave {E K : Pr → Prop} {x : Pr} (he : ∃ G, Gr E K G ∧ x ∉ G) (G : List Pr) : Gr (fun y => E y ∧ y ≠ x) K G ↔ Gr E K G ∧ x ∉ G := by
  obtain ⟨A, hA, hxA⟩ := he
  have up : ∀ {G}, Jn (fun y => E y ∧ y ≠ x) K G → Jn E K G := fun h => h.sub fun y hy => (h.links y hy).1
  have hA' : Jn (fun y => E y ∧ y ≠ x) K A := hA.jn.sub fun y hy => ⟨hA.jn.links y hy, fun e => hxA (by rw [← e]; exact hy)⟩
  constructor
  · intro hG
    exact ⟨hA.of (up hG.jn) (hG.most A hA'), fun hx => (hG.jn.links x hx).2 rfl⟩
  · rintro ⟨hG, hx⟩
    exact ⟨hG.jn.sub fun y hy => ⟨hG.jn.links y hy, fun e => hx (by rw [← e]; exact hy)⟩, fun G' h' => hG.most G' (up h')⟩

/-! all items have other names -/
structure Ren (E K E' K' : Pr → Prop) (f g : Pr → Pr) : Prop where
  links : ∀ x, E x → E' (f x)
  back : ∀ y, E' y → E (g y)
  gf : ∀ x, E x → g (f x) = x
  fg : ∀ y, E' y → f (g y) = y
  known : ∀ x, E x → (K' (f x) ↔ K x)
  inE : ∀ x, K x → E x
  inE' : ∀ x, K' x → E' x
  away : ∀ x y, E x → E y → (Away (f x) (f y) ↔ Away x y)
theorem Ren.symm {E K E' K' : Pr → Prop} {f g : Pr → Pr} (h : Ren E K E' K' f g) : Ren E' K' E K g f :=
  ⟨h.back, h.links, h.fg, h.gf, fun y hy => by rw [← h.known (g y) (h.back y hy), h.fg y hy], h.inE', h.inE, fun x y hx hy => by rw [← h.away _ _ (h.back x hx) (h.back y hy), h.fg x hx, h.fg y hy]⟩
theorem Ren.jn {E K E' K' : Pr → Prop} {f g : Pr → Pr} (h : Ren E K E' K' f g) {G : List Pr} (hG : Jn E K G) : Jn E' K' (G.map f) :=
  ⟨List.pairwise_map.2 (hG.apart.imp_of_mem fun {a b} ha hb hab => (h.away a b (hG.links a ha) (hG.links b hb)).2 hab), fun y hy => by
    obtain ⟨x, hx, rfl⟩ := List.mem_map.1 hy
    exact h.links x (hG.links x hx), fun y hy => by
    have hE := h.inE' y hy
    have hgE := h.back y hE
    refine List.mem_map.2 ⟨g y, hG.known _ ?_, h.fg y hE⟩
    rw [← h.known _ hgE, h.fg y hE]
    exact hy⟩
theorem Ren.gr {E K E' K' : Pr → Prop} {f g : Pr → Pr} (h : Ren E K E' K' f g) {G : List Pr} (hG : Gr E K G) : Gr E' K' (G.map f) :=
  ⟨h.jn hG.jn, fun G' h' => by
    have := hG.most _ (h.symm.jn h')
    rw [List.length_map] at this ⊢
    exact this⟩
theorem Ren.mem {E K E' K' : Pr → Prop} {f g : Pr → Pr} (h : Ren E K E' K' f g) {G : List Pr} {x : Pr} (hx : E x) (hG : ∀ y ∈ G, E y) : f x ∈ G.map f ↔ x ∈ G :=
  ⟨fun hm => by
    obtain ⟨y, hy, e⟩ := List.mem_map.1 hm
    have := h.gf x hx
    rw [← e, h.gf y (hG y hy)] at this
    rwa [← this], fun hm => List.mem_map.2 ⟨x, hm, rfl⟩⟩
theorem Ren.map_back {E K E' K' : Pr → Prop} {f g : Pr → Pr} (h : Ren E K E' K' f g) {G : List Pr} (hG : ∀ y ∈ G, E' y) : (G.map g).map f = G := by
  rw [List.map_map]
  conv => rhs; rw [← List.map_id G]
  exact List.map_congr_left fun y hy => h.fg y (hG y hy)
theorem Ren.kind {E K E' K' : Pr → Prop} {f g : Pr → Pr} (h : Ren E K E' K' f g) {x : Pr} {v : Int} (hx : E x) (hk : KindG E K x v) : KindG E' K' (f x) v := by
  have all : ∀ {Q : List Pr → Prop}, (∀ G, Gr E K G → Q (G.map f)) → ∀ G, Gr E' K' G → Q G := fun {Q} hq G hG => by
    have := hq _ (h.symm.gr hG)
    rwa [h.map_back hG.jn.links] at this
  rcases hk with ⟨e, k⟩ | ⟨e, k⟩ | ⟨e, ⟨A, hA, hA'⟩, B, hB, hB'⟩
  · exact .inl ⟨e, all fun G hG => (h.mem hx hG.jn.links).2 (k G hG)⟩
  · exact .inr (.inl ⟨e, all fun G hG hm => k G hG ((h.mem hx hG.jn.links).1 hm)⟩)
  · exact .inr (.inr ⟨e, ⟨_, h.gr hA, (h.mem hx hA.jn.links).2 hA'⟩, _, h.gr hB, fun hm => hB' ((h.mem hx hB.jn.links).1 hm)⟩)
theorem Ren.item {E K E' K' has has' : Pr → Prop} {f g : Pr → Pr} (h : Ren E K E' K' f g) {v : Int} (hh : ∀ x, E x → (has' (f x) ↔ has x)) (hk : ItemG E K has v) : ItemG E' K' has' v := by
  have all : ∀ {Q : List Pr → Prop}, (∀ G, Gr E K G → Q (G.map f)) → ∀ G, Gr E' K' G → Q G := fun {Q} hq G hG => by
    have := hq _ (h.symm.gr hG)
    rwa [h.map_back hG.jn.links] at this
  have some : ∀ {G}, Gr E K G → (∃ x ∈ G, has x) → ∃ y ∈ G.map f, has' y := fun {G} hG ⟨x, h1, h2⟩ => ⟨f x, List.mem_map.2 ⟨x, h1, rfl⟩, (hh x (hG.jn.links x h1)).2 h2⟩
  have none : ∀ {G}, Gr E K G → (∀ x ∈ G, ¬ has x) → ∀ y ∈ G.map f, ¬ has' y := fun {G} hG h1 y hy h2 => by
    obtain ⟨x, hx, rfl⟩ := List.mem_map.1 hy
    exact h1 x hx ((hh x (hG.jn.links x hx)).1 h2)
  rcases hk with ⟨e, k⟩ | ⟨e, k⟩ | ⟨e, ⟨A, hA, hA'⟩, B, hB, hB'⟩
  · exact .inl ⟨e, all fun G hG => some hG (k G hG)⟩
  · exact .inr (.inl ⟨e, all fun G hG => none hG (k G hG)⟩)
  · exact .inr (.inr ⟨e, ⟨_, h.gr hA, some hA hA'⟩, _, h.gr hB, none hB hB'⟩)
end Match
