/- Kuhn's search for a partner, and Konig's theorem, in plain words: a joining that no other one exceeds, a cover that is as large. -/
namespace Match
/-- a sheet's links: e k = (left item, right item) for k below m; p: which links are allowed -/
structure Net where
  m : Nat
  e : Nat → Nat × Nat
def Net.ok (N : Net) (p : Nat → Bool) (k : Nat) : Prop := k < N.m ∧ p k = true
/-- links no two of which have an item in common -/
def Apart (N : Net) (M : List Nat) : Prop := M.Pairwise fun a b => (N.e a).1 ≠ (N.e b).1 ∧ (N.e a).2 ≠ (N.e b).2
def Join (N : Net) (p : Nat → Bool) (M : List Nat) : Prop := (∀ k ∈ M, N.ok p k) ∧ Apart N M
/-- items that cover all allowed links -/
def Cover (N : Net) (p : Nat → Bool) (A B : List Nat) : Prop := ∀ k, N.ok p k → (N.e k).1 ∈ A ∨ (N.e k).2 ∈ B
theorem nodup_le : ∀ (a b : List Nat), a.Pairwise (· ≠ ·) → (∀ x ∈ a, x ∈ b) → a.length ≤ b.length
  | [], _, _, _ => by simp
  | x :: a, b, h, hs => by
    rw [List.pairwise_cons] at h
    have hx := hs x (by simp)
    have := nodup_le a (b.erase x) h.2 (fun y hy => (List.mem_erase_of_ne (fun e => h.1 y hy e.symm)).2 (hs y (by simp [hy])))
    rw [List.length_erase_of_mem hx] at this
    have := List.length_pos_of_mem hx
    simp only [List.length_cons]; omega
theorem weak {N : Net} {p : Nat → Bool} {M A B : List Nat} (hM : Join N p M) (hC : Cover N p A B) : M.length ≤ A.length + B.length := by
  have h1 : (M.filter fun k => decide ((N.e k).1 ∈ A)).length ≤ A.length := by
    have := nodup_le ((M.filter fun k => decide ((N.e k).1 ∈ A)).map fun k => (N.e k).1) A (by
      rw [List.pairwise_map]
      exact (hM.2.sublist List.filter_sublist).imp fun {a b} h => h.1) (fun x hx => by
      obtain ⟨k, hk, rfl⟩ := List.mem_map.1 hx
      exact of_decide_eq_true (List.mem_filter.1 hk).2)
    rwa [List.length_map] at this
  have h2 : (M.filter fun k => !decide ((N.e k).1 ∈ A)).length ≤ B.length := by
    have := nodup_le ((M.filter fun k => !decide ((N.e k).1 ∈ A)).map fun k => (N.e k).2) B (by
      rw [List.pairwise_map]
      exact (hM.2.sublist List.filter_sublist).imp fun {a b} h => h.2) (fun x hx => by
      obtain ⟨k, hk, rfl⟩ := List.mem_map.1 hx
      obtain ⟨a, b⟩ := List.mem_filter.1 hk
      rcases hC k (hM.1 k a) with h | h
      · simp [h] at b
      · exact h)
    rwa [List.length_map] at this
  have h3 : M.length = (M.filter fun k => decide ((N.e k).1 ∈ A)).length + (M.filter fun k => !decide ((N.e k).1 ∈ A)).length := by
    clear hM h1 h2
    induction M with
    | nil => rfl
    | cons a M ih =>
      by_cases h : (N.e a).1 ∈ A
      · simp [h] at ih ⊢; omega
      · simp [h] at ih ⊢; omega
  omega

/-- which link each right item has -/
abbrev Partners := Nat → Option Nat
structure Valid (N : Net) (p : Nat → Bool) (P : Partners) : Prop where
  ok : ∀ r k, P r = some k → N.ok p k ∧ (N.e k).2 = r
  inj : ∀ r r' k k', P r = some k → P r' = some k' → (N.e k).1 = (N.e k').1 → r = r'
def Has (N : Net) (P : Partners) (l : Nat) : Prop := ∃ r k, P r = some k ∧ (N.e k).1 = l
/-- right items, all of which have a partner, that cannot be left: all links of their partners lead to them -/
def Closed (N : Net) (p : Nat → Bool) (P : Partners) (D : Nat → Prop) : Prop := ∀ r, D r → ∃ k, P r = some k ∧ ∀ k', N.ok p k' → (N.e k').1 = (N.e k).1 → D (N.e k').2
def Within (N : Net) (p : Nat → Bool) (l : Nat) (D : Nat → Prop) : Prop := ∀ k, N.ok p k → (N.e k).1 = l → D (N.e k).2
def putP (P : Partners) (r k : Nat) : Partners := fun x => if x = r then some k else P x
def plus (S : Nat → Prop) (r : Nat) : Nat → Prop := fun x => S x ∨ x = r
/-- how the search for a partner of l goes on from link t -/
inductive Run (N : Net) (p : Nat → Bool) : Nat → Nat → Partners → (Nat → Prop) → Bool → Partners → (Nat → Prop) → Prop
  | done {l t P S} : N.m ≤ t → Run N p l t P S false P S
  | skip {l t P S f P' S'} : t < N.m → (¬ (p t = true ∧ (N.e t).1 = l) ∨ S (N.e t).2) → Run N p l (t + 1) P S f P' S' → Run N p l t P S f P' S'
  | free {l t P S} : t < N.m → p t = true → (N.e t).1 = l → ¬ S (N.e t).2 → P (N.e t).2 = none → Run N p l t P S true (putP P (N.e t).2 t) (plus S (N.e t).2)
  | give {l t P S k P1 S1} : t < N.m → p t = true → (N.e t).1 = l → ¬ S (N.e t).2 → P (N.e t).2 = some k → Run N p (N.e k).1 0 P (plus S (N.e t).2) true P1 S1 → Run N p l t P S true (putP P1 (N.e t).2 t) S1
  | stay {l t P S k P1 S1 f P' S'} : t < N.m → p t = true → (N.e t).1 = l → ¬ S (N.e t).2 → P (N.e t).2 = some k → Run N p (N.e k).1 0 P (plus S (N.e t).2) false P1 S1 → Run N p l (t + 1) P1 S1 f P' S' → Run N p l t P S f P' S'
/-- not found: the partners are as they were; what was seen more cannot be left -/
structure Lost (N : Net) (p : Nat → Bool) (P P' : Partners) (S S' : Nat → Prop) : Prop where
  same : P' = P
  grow : ∀ r, S r → S' r
  shut : ∀ r, S' r → ¬ S r → ∃ k, P r = some k ∧ Within N p (N.e k).1 S'
theorem run_lost {N : Net} {p : Nat → Bool} {l t : Nat} {P P' : Partners} {S S' : Nat → Prop} {f : Bool} (h : Run N p l t P S f P' S') :
    f = false → (∀ k, k < t → N.ok p k → (N.e k).1 = l → S (N.e k).2) → Lost N p P P' S S' ∧ Within N p l S' := by
  induction h with
  | done ht => exact fun _ hk => ⟨⟨rfl, fun _ h => h, fun r h hn => absurd h hn⟩, fun k hok hl => hk k (by have := hok.1; omega) hok hl⟩
  | @skip l t P S f P' S' ht hs _ ih =>
    intro hf hk
    refine ih hf (fun k hkt hok hl => ?_)
    by_cases e : k = t
    · subst e
      rcases hs with hs | hs
      · exact absurd ⟨hok.2, hl⟩ hs
      · exact hs
    · exact hk k (by omega) hok hl
  | free => intro hf; cases hf
  | give => intro hf; cases hf
  | @stay l t P S k P1 S1 f P' S' ht hp hl hS hP _ _ ih1 ih2 =>
    intro hf hk
    obtain ⟨⟨a1, a2, a3⟩, a4⟩ := ih1 rfl (fun k h => by omega)
    subst a1
    obtain ⟨⟨b1, b2, b3⟩, b4⟩ := ih2 hf (fun k' hkt hok hl' => by
      by_cases e : k' = t
      · subst e; exact a2 _ (.inr rfl)
      · exact a2 _ (.inl (hk k' (by omega) hok hl')))
    refine ⟨⟨b1, fun r h => b2 r (a2 r (.inl h)), fun r h hn => ?_⟩, b4⟩
    by_cases c : S1 r
    · by_cases d : plus S (N.e t).2 r
      · rcases d with d | d
        · exact absurd d hn
        · subst d
          exact ⟨k, hP, fun k' hok hl' => b2 _ (a4 k' hok hl')⟩
      · obtain ⟨k', hk', hw⟩ := a3 r c d
        exact ⟨k', hk', fun k'' hok hl' => b2 _ (hw k'' hok hl')⟩
    · exact b3 r h c
/-- a closed set keeps its partners, and who has all his links there finds nobody -/
theorem run_closed {N : Net} {p : Nat → Bool} {l t : Nat} {P P' : Partners} {S S' : Nat → Prop} {f : Bool} (h : Run N p l t P S f P' S') :
    ∀ D, Closed N p P D → (f = true → ∀ r, D r → P' r = P r) ∧ (Within N p l D → f = false) := by
  induction h with
  | done => exact fun D _ => ⟨fun h => (by cases h), fun _ => rfl⟩
  | skip _ _ _ ih => exact ih
  | @free l t P S ht hp hl hS hP =>
    intro D hD
    have hno : ¬ D (N.e t).2 := fun h => by
      obtain ⟨k, hk, _⟩ := hD _ h
      rw [hP] at hk; cases hk
    refine ⟨fun _ r hr => ?_, fun hw => absurd (hw t ⟨ht, hp⟩ hl) hno⟩
    unfold putP
    rw [if_neg (fun e : r = (N.e t).2 => hno (e ▸ hr))]
  | @give l t P S k P1 S1 ht hp hl hS hP _ ih =>
    intro D hD
    obtain ⟨i1, i2⟩ := ih D hD
    have hno : ¬ D (N.e t).2 := fun h => by
      obtain ⟨k', hk', hw⟩ := hD _ h
      rw [hP] at hk'
      injection hk' with e
      subst e
      have := i2 (fun k' hok hl' => hw k' hok hl')
      cases this
    refine ⟨fun _ r hr => ?_, fun hw => absurd (hw t ⟨ht, hp⟩ hl) hno⟩
    unfold putP
    rw [if_neg (fun e : r = (N.e t).2 => hno (e ▸ hr))]
    exact i1 rfl r hr
  | @stay l t P S k P1 S1 f P' S' ht hp hl hS hP h1 _ ih1 ih2 =>
    intro D hD
    have e1 := (run_lost h1 rfl (fun k h => by omega)).1.same
    subst e1
    exact ih2 D hD
def cut (P : Partners) (ro : Option Nat) : Partners := fun x => if some x = ro then none else P x
/-- found: with the old partner of l left out, the partners are valid, and l has one -/
structure Found (N : Net) (p : Nat → Bool) (P P' : Partners) (S : Nat → Prop) (l : Nat) (ro : Option Nat) : Prop where
  seen : ∀ x, S x → P' x = P x
  valid : Valid N p (cut P' ro)
  has : ∀ x, Has N (cut P' ro) x ↔ Has N (cut P ro) x ∨ x = l
  more : ∃ r, ¬ S r ∧ P r = none ∧ ∀ x, (∃ k, P' x = some k) ↔ (∃ k, P x = some k) ∨ x = r
theorem run_found {N : Net} {p : Nat → Bool} {l t : Nat} {P P' : Partners} {S S' : Nat → Prop} {f : Bool} (h : Run N p l t P S f P' S') :
    f = true → Valid N p P → ∀ ro, (∀ r, ro = some r → S r ∧ ∃ k, P r = some k ∧ (N.e k).1 = l) → (∀ r k, P r = some k → (N.e k).1 = l → ro = some r) → Found N p P P' S l ro := by
  induction h with
  | done => intro hf; cases hf
  | skip _ _ _ ih => exact ih
  | @free l t P S ht hp hl hS hP =>
    intro _ hV ro h1 h2
    have hro : ro ≠ some (N.e t).2 := fun e => hS (h1 _ e).1
    refine ⟨fun x hx => ?_, ⟨fun r k hk => ?_, fun r r' k k' hk hk' he => ?_⟩, fun x => ⟨?_, ?_⟩, (N.e t).2, hS, hP, fun x => ?_⟩
    · unfold putP; rw [if_neg (fun e : x = (N.e t).2 => hS (e ▸ hx))]
    · unfold cut putP at hk
      by_cases c : some r = ro
      · rw [if_pos c] at hk; cases hk
      · rw [if_neg c] at hk
        by_cases d : r = (N.e t).2
        · rw [if_pos d] at hk; injection hk with hk; subst hk; exact ⟨⟨ht, hp⟩, d.symm⟩
        · rw [if_neg d] at hk; exact hV.ok r k hk
    · unfold cut putP at hk hk'
      by_cases c : some r = ro
      · rw [if_pos c] at hk; cases hk
      · by_cases c' : some r' = ro
        · rw [if_pos c'] at hk'; cases hk'
        · rw [if_neg c] at hk
          rw [if_neg c'] at hk'
          by_cases d : r = (N.e t).2
          · by_cases d' : r' = (N.e t).2
            · rw [d, d']
            · rw [if_pos d] at hk; injection hk with hk; subst hk
              rw [if_neg d'] at hk'
              exact absurd (h2 r' k' hk' (by rw [← he]; exact hl)).symm c'
          · rw [if_neg d] at hk
            by_cases d' : r' = (N.e t).2
            · rw [if_pos d'] at hk'; injection hk' with hk'; subst hk'
              exact absurd (h2 r k hk (by rw [he]; exact hl)).symm c
            · rw [if_neg d'] at hk'; exact hV.inj r r' k k' hk hk' he
    · rintro ⟨r, k, hk, e⟩
      unfold cut putP at hk
      by_cases c : some r = ro
      · rw [if_pos c] at hk; cases hk
      · rw [if_neg c] at hk
        by_cases d : r = (N.e t).2
        · rw [if_pos d] at hk; injection hk with hk; subst hk; exact .inr (by rw [← e]; exact hl)
        · rw [if_neg d] at hk
          exact .inl ⟨r, k, by unfold cut; rw [if_neg c]; exact hk, e⟩
    · rintro (⟨r, k, hk, e⟩ | rfl)
      · unfold cut at hk
        by_cases c : some r = ro
        · rw [if_pos c] at hk; cases hk
        · rw [if_neg c] at hk
          refine ⟨r, k, ?_, e⟩
          unfold cut putP
          rw [if_neg c, if_neg (fun d : r = (N.e t).2 => by rw [d, hP] at hk; cases hk)]
          exact hk
      · refine ⟨(N.e t).2, t, ?_, hl⟩
        unfold cut putP
        rw [if_neg (fun e => hro e.symm), if_pos rfl]
    · unfold putP
      by_cases d : x = (N.e t).2
      · rw [if_pos d]; exact ⟨fun _ => .inr d, fun _ => ⟨_, rfl⟩⟩
      · rw [if_neg d]; exact ⟨.inl, fun h => h.elim id (fun e => absurd e d)⟩
  | @give l t P S k P1 S1 ht hp hl hS hP _ ih =>
    intro _ hV ro h1 h2
    have hro : ro ≠ some (N.e t).2 := fun e => hS (h1 _ e).1
    have hne : (N.e k).1 ≠ l := fun e => hro (h2 _ k hP e)
    obtain ⟨s1, v1, a1, q, q1, q2, q3⟩ := ih rfl hV (some (N.e t).2) (fun r e => by injection e with e; subst e; exact ⟨.inr rfl, k, hP, rfl⟩) (fun r k' hk' e => by rw [hV.inj r _ k' k hk' hP e])
    have old : ∀ x0, ro = some x0 → ∃ k0, P1 x0 = some k0 ∧ (N.e k0).1 = l ∧ x0 ≠ (N.e t).2 := fun x0 e => by
      obtain ⟨b1, k0, b2, b3⟩ := h1 x0 e
      exact ⟨k0, by rw [s1 x0 (.inl b1)]; exact b2, b3, fun d => hro (by rw [e, d])⟩
    have far : ∀ x k', x ≠ (N.e t).2 → some x ≠ ro → P1 x = some k' → (N.e k').1 ≠ l := fun x k' hx hxo hk' he => by
      have hc : cut P1 (some (N.e t).2) x = some k' := by unfold cut; rw [if_neg (fun e => hx (by injection e))]; exact hk'
      cases hr : ro with
      | some x0 =>
        obtain ⟨k0, b1, b2, b3⟩ := old x0 hr
        have hc0 : cut P1 (some (N.e t).2) x0 = some k0 := by unfold cut; rw [if_neg (fun e => b3 (by injection e))]; exact b1
        exact hxo (by rw [hr, v1.inj x x0 k' k0 hc hc0 (by rw [he, b2])])
      | none =>
        rcases (a1 l).1 ⟨x, k', hc, he⟩ with ⟨y, ky, hy, ey⟩ | e
        · unfold cut at hy
          by_cases c : some y = some (N.e t).2
          · rw [if_pos c] at hy; cases hy
          · rw [if_neg c] at hy
            have := h2 y ky hy ey
            rw [hr] at this; cases this
        · exact hne e.symm
    refine ⟨fun x hx => ?_, ⟨fun r k' hk' => ?_, fun r r' ka kb hka hkb he => ?_⟩, fun x => ⟨?_, ?_⟩, q, fun h => q1 (.inl h), q2, fun x => ?_⟩
    · unfold putP; rw [if_neg (fun e : x = (N.e t).2 => hS (e ▸ hx))]; exact s1 x (.inl hx)
    · unfold cut putP at hk'
      by_cases c : some r = ro
      · rw [if_pos c] at hk'; cases hk'
      · rw [if_neg c] at hk'
        by_cases d : r = (N.e t).2
        · rw [if_pos d] at hk'; injection hk' with hk'; subst hk'; exact ⟨⟨ht, hp⟩, d.symm⟩
        · rw [if_neg d] at hk'
          exact v1.ok r k' (by unfold cut; rw [if_neg (fun e => d (by injection e))]; exact hk')
    · unfold cut putP at hka hkb
      by_cases c : some r = ro
      · rw [if_pos c] at hka; cases hka
      · by_cases c' : some r' = ro
        · rw [if_pos c'] at hkb; cases hkb
        · rw [if_neg c] at hka
          rw [if_neg c'] at hkb
          by_cases d : r = (N.e t).2
          · by_cases d' : r' = (N.e t).2
            · rw [d, d']
            · rw [if_pos d] at hka; injection hka with hka; subst hka
              rw [if_neg d'] at hkb
              exact absurd (he.symm.trans hl) (far r' kb d' c' hkb)
          · rw [if_neg d] at hka
            by_cases d' : r' = (N.e t).2
            · rw [if_pos d'] at hkb; injection hkb with hkb; subst hkb
              exact absurd (he.trans hl) (far r ka d c hka)
            · rw [if_neg d'] at hkb
              exact v1.inj r r' ka kb (by unfold cut; rw [if_neg (fun e => d (by injection e))]; exact hka) (by unfold cut; rw [if_neg (fun e => d' (by injection e))]; exact hkb) he
    · rintro ⟨y, ky, hy, e⟩
      unfold cut putP at hy
      by_cases c : some y = ro
      · rw [if_pos c] at hy; cases hy
      · rw [if_neg c] at hy
        by_cases d : y = (N.e t).2
        · rw [if_pos d] at hy; injection hy with hy; subst hy; exact .inr (by rw [← e]; exact hl)
        · rw [if_neg d] at hy
          rcases (a1 x).1 ⟨y, ky, by unfold cut; rw [if_neg (fun e => d (by injection e))]; exact hy, e⟩ with ⟨z, kz, hz, ez⟩ | e'
          · unfold cut at hz
            by_cases cz : some z = some (N.e t).2
            · rw [if_pos cz] at hz; cases hz
            · rw [if_neg cz] at hz
              by_cases dz : some z = ro
              · obtain ⟨_, k0, b2, b3⟩ := h1 z dz.symm
                rw [hz] at b2; injection b2 with b2; subst b2
                exact .inr (by rw [← ez]; exact b3)
              · exact .inl ⟨z, kz, by unfold cut; rw [if_neg dz]; exact hz, ez⟩
          · subst e'
            exact .inl ⟨(N.e t).2, k, by unfold cut; rw [if_neg (fun e => hro e.symm)]; exact hP, rfl⟩
    · have hl' : Has N (cut (putP P1 (N.e t).2 t) ro) l := ⟨(N.e t).2, t, by unfold cut putP; rw [if_neg (fun e => hro e.symm), if_pos rfl], hl⟩
      have keep : Has N (cut P1 (some (N.e t).2)) x → x ≠ l → Has N (cut (putP P1 (N.e t).2 t) ro) x := fun ⟨y, ky, hy, ey⟩ hxl => by
        unfold cut at hy
        by_cases c : some y = some (N.e t).2
        · rw [if_pos c] at hy; cases hy
        · rw [if_neg c] at hy
          have d : y ≠ (N.e t).2 := fun e => c (by rw [e])
          have cr : some y ≠ ro := fun e => by
            obtain ⟨k0, b1, b2, _⟩ := old y e.symm
            rw [hy] at b1; injection b1 with b1; subst b1
            exact hxl (by rw [← ey]; exact b2)
          exact ⟨y, ky, by unfold cut putP; rw [if_neg cr, if_neg d]; exact hy, ey⟩
      rintro (⟨y, ky, hy, ey⟩ | rfl)
      · by_cases hxl : x = l
        · rw [hxl]; exact hl'
        · refine keep ((a1 x).2 ?_) hxl
          unfold cut at hy
          by_cases c : some y = ro
          · rw [if_pos c] at hy; cases hy
          · rw [if_neg c] at hy
            by_cases d : y = (N.e t).2
            · subst d
              rw [hP] at hy; injection hy with hy; subst hy
              exact .inr ey.symm
            · exact .inl ⟨y, ky, by unfold cut; rw [if_neg (fun e => d (by injection e))]; exact hy, ey⟩
      · exact hl'
    · unfold putP
      by_cases d : x = (N.e t).2
      · subst d
        rw [if_pos rfl]
        exact ⟨fun _ => .inl ⟨k, hP⟩, fun _ => ⟨_, rfl⟩⟩
      · rw [if_neg d]; exact q3 x
  | @stay l t P S k P1 S1 f P' S' ht hp hl hS hP h1' _ _ ih2 =>
    intro hf hV ro h1 h2
    obtain ⟨e1, g1, _⟩ := (run_lost h1' rfl (fun k h => by omega)).1
    subst e1
    obtain ⟨a, b, c, q, q1, q2, q3⟩ := ih2 hf hV ro (fun r e => ⟨g1 r (.inl (h1 r e).1), (h1 r e).2⟩) h2
    exact ⟨fun x hx => a x (g1 x (.inl hx)), b, c, q, fun h => q1 (g1 q (.inl h)), q2, q3⟩
/-- the items of the left list below i have been searched for; D: what cannot be left -/
structure Inv (N : Net) (p : Nat → Bool) (i : Nat) (P : Partners) (D : Nat → Prop) : Prop where
  valid : Valid N p P
  low : ∀ x, Has N P x → x < i
  closed : Closed N p P D
  lost : ∀ x, x < i → ¬ Has N P x → Within N p x D
theorem Inv.start (N : Net) (p : Nat → Bool) : Inv N p 0 (fun _ => none) (fun _ => False) :=
  ⟨⟨fun _ _ h => (by cases h), fun _ _ _ _ h => (by cases h)⟩, fun _ ⟨_, _, h, _⟩ => (by cases h), fun _ h => h.elim, fun _ h => by omega⟩
theorem cut_none (P : Partners) : cut P none = P := by funext x; unfold cut; rw [if_neg (by simp)]
theorem Inv.found {N : Net} {p : Nat → Bool} {i : Nat} {P P' : Partners} {D S' : Nat → Prop} (h : Inv N p i P D) (hr : Run N p i 0 P (fun _ => False) true P' S') :
    Inv N p (i + 1) P' D ∧ ∃ q, P q = none ∧ ∀ x, (∃ k, P' x = some k) ↔ (∃ k, P x = some k) ∨ x = q := by
  have hn : ¬ Has N P i := fun hh => by have := h.low i hh; omega
  obtain ⟨_, b, c, q, _, q2, q3⟩ := run_found hr rfl h.valid none (fun r e => by cases e) (fun r k hk e => absurd ⟨r, k, hk, e⟩ hn)
  rw [cut_none] at b
  simp only [cut_none] at c
  have hs := (run_closed hr D h.closed).1 rfl
  refine ⟨⟨b, fun x hx => ?_, fun r hd => ?_, fun x hx hno => ?_⟩, q, q2, q3⟩
  · rcases (c x).1 hx with h1 | h1
    · have := h.low x h1; omega
    · omega
  · obtain ⟨k, hk, hw⟩ := h.closed r hd
    exact ⟨k, by rw [hs r hd]; exact hk, hw⟩
  · by_cases e : x = i
    · exact absurd ((c x).2 (.inr e)) hno
    · exact h.lost x (by omega) (fun h1 => hno ((c x).2 (.inl h1)))
theorem Inv.failed {N : Net} {p : Nat → Bool} {i : Nat} {P P' : Partners} {D S' : Nat → Prop} (h : Inv N p i P D) (hr : Run N p i 0 P (fun _ => False) false P' S') :
    P' = P ∧ Inv N p (i + 1) P (fun r => D r ∨ S' r) := by
  obtain ⟨⟨a, _, c⟩, d⟩ := run_lost hr rfl (fun k hk => by omega)
  refine ⟨a, h.valid, fun x hx => by have := h.low x hx; omega, fun r hd => ?_, fun x hx hno k hk hl => ?_⟩
  · rcases hd with hd | hd
    · obtain ⟨k, hk, hw⟩ := h.closed r hd
      exact ⟨k, hk, fun k' hok hl => .inl (hw k' hok hl)⟩
    · obtain ⟨k, hk, hw⟩ := c r hd (fun h => h)
      exact ⟨k, hk, fun k' hok hl => .inr (hw k' hok hl)⟩
  · by_cases e : x = i
    · exact .inr (d k hk (by rw [hl, e]))
    · exact .inl (h.lost x (by omega) hno k hk hl)

/-- the links of a joining, by the items of the right list -/
def linksOf (P : Partners) (R : Nat) : List Nat := (List.range R).filterMap P
theorem mem_linksOf {P : Partners} {R k : Nat} : k ∈ linksOf P R ↔ ∃ r, r < R ∧ P r = some k := by
  unfold linksOf
  rw [List.mem_filterMap]
  exact ⟨fun ⟨r, h1, h2⟩ => ⟨r, List.mem_range.1 h1, h2⟩, fun ⟨r, h1, h2⟩ => ⟨r, List.mem_range.2 h1, h2⟩⟩
theorem linksOf_join {N : Net} {p : Nat → Bool} {P : Partners} (h : Valid N p P) (R : Nat) : Join N p (linksOf P R) := by
  refine ⟨fun k hk => ?_, ?_⟩
  · obtain ⟨r, _, h2⟩ := mem_linksOf.1 hk
    exact (h.ok r k h2).1
  · unfold Apart linksOf
    rw [List.pairwise_filterMap]
    refine List.pairwise_lt_range.imp fun {a b} hab k hk k' hk' => ⟨fun e => ?_, fun e => ?_⟩
    · have := h.inj a b k k' hk hk' e; omega
    · rw [(h.ok a k hk).2, (h.ok b k' hk').2] at e; omega
theorem linksOf_len (P : Partners) (R : Nat) : (linksOf P R).length = (List.range R).countP fun r => (P r).isSome := by
  unfold linksOf
  rw [List.countP_eq_length_filter]
  generalize List.range R = l
  induction l with
  | nil => rfl
  | cons a l ih =>
    cases h : P a with
    | none => simp [h, ih]
    | some k => simp [h, ih]
open Classical in
/-- a cover that is as large as the joining: no joining has more links (Konig) -/
theorem cover_is {N : Net} {p : Nat → Bool} {L R : Nat} {P : Partners} {D : Nat → Prop} (h : Inv N p L P D) (hb : ∀ k, N.ok p k → (N.e k).1 < L ∧ (N.e k).2 < R) :
    ∃ A B, Cover N p A B ∧ A.length + B.length = (linksOf P R).length := by
  refine ⟨((List.range R).filter fun r => (P r).isSome && !decide (D r)).map fun r => (N.e ((P r).getD 0)).1, (List.range R).filter fun r => decide (D r), fun k hk => ?_, ?_⟩
  · obtain ⟨hkl, hkr⟩ := hb k hk
    by_cases hh : Has N P (N.e k).1
    · obtain ⟨r0, k0, h0, e0⟩ := hh
      by_cases hd : D r0
      · obtain ⟨k1, h1, hw⟩ := h.closed r0 hd
        rw [h0] at h1; injection h1 with h1; subst h1
        exact .inr (List.mem_filter.2 ⟨List.mem_range.2 hkr, decide_eq_true (hw k hk e0.symm)⟩)
      · have hr0 : r0 < R := by rw [← (h.valid.ok r0 k0 h0).2]; exact (hb k0 (h.valid.ok r0 k0 h0).1).2
        exact .inl (List.mem_map.2 ⟨r0, List.mem_filter.2 ⟨List.mem_range.2 hr0, by simp [h0, hd]⟩, by simp [h0, e0]⟩)
    · exact .inr (List.mem_filter.2 ⟨List.mem_range.2 hkr, decide_eq_true (h.lost _ hkl hh k hk rfl)⟩)
  · rw [linksOf_len, List.length_map, ← List.countP_eq_length_filter, ← List.countP_eq_length_filter]
    have hD : ∀ r, D r → (P r).isSome = true := fun r hd => by
      obtain ⟨k, hk, _⟩ := h.closed r hd
      rw [hk]; rfl
    generalize List.range R = l
    induction l with
    | nil => rfl
    | cons a l ih =>
      simp only [List.countP_cons]
      by_cases hd : D a
      · have := hD a hd
        simp only [hd, this, decide_true, Bool.not_true, Bool.and_false, if_true, Bool.false_eq_true, if_false]; omega
      · simp only [hd, decide_false, Bool.not_false, Bool.and_true, Bool.false_eq_true, if_false]; omega
theorem greatest {N : Net} {p : Nat → Bool} {L R : Nat} {P : Partners} {D : Nat → Prop} (h : Inv N p L P D) (hb : ∀ k, N.ok p k → (N.e k).1 < L ∧ (N.e k).2 < R) :
    Join N p (linksOf P R) ∧ ∀ M, Join N p M → M.length ≤ (linksOf P R).length := by
  refine ⟨linksOf_join h.valid R, fun M hM => ?_⟩
  obtain ⟨A, B, hC, he⟩ := cover_is h hb
  have := weak hM hC
  omega
end Match
