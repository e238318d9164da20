/- Trees of least cost and prices (Edmonds, Fulkerson), in plain words: reach, trees, prices, the bound of prices. Groups that are priced one after another, steps that are left out from the last one on: a tree as dear as the prices are high. How often a group can be priced: at most twice as often as there are variants. Books that have parts in common: trees carried from one to another; how certain a step is; how large the largest step must be. Books with fewer steps; how certain a step is, by two cheapest trees; more steps, other changes, other numbers. Ways of at most so many steps; the way back to the root; a tree by its numbers. All trees, listed; the cheapest ones of them. Books as the program has them: which are valid; the book as a net; trees, prices and errors by their numbers. A tree by its numbers, as the program goes through it. Sets of variants by bits; who comes from whom, by going over the steps until nothing changes. Rows of bits: there are some, and no others; all bits of the root's row. Who comes from the root, by going over all steps as often as there are variants. An open group, out of rows of bits. Histories of priced groups, with the groups as numbers. The list that a set of steps with different aims lays. What told gives: the groups that have a price, by increasing bits; these prices are right, and have the same bound. CheckPrices' way: a group's bits, number after number; what is left of the steps, group after group. CheckPrices' way, of the reference. Most's way: the sizes are tried from the smallest one on. Fewer steps of a book, as a book; how certain each step is, as a list. The chapter's example. -/
import Derived.Laws.Entries
import Derived.Laws.Wrap64
import Derived.IntWalk
import Derived.Lib.TrailingZeros
namespace Fam
def sm {α : Type} (f : α → Int) : List α → Int
  | [] => 0
  | x :: l => f x + sm f l
theorem sm_append {α : Type} (f : α → Int) : ∀ l k : List α, sm f (l ++ k) = sm f l + sm f k
  | [], k => by simp [sm]
  | x :: l, k => by simp only [List.cons_append, sm, sm_append f l k]; omega
theorem sm_congr {α : Type} {f g : α → Int} : ∀ {l : List α}, (∀ x ∈ l, f x = g x) → sm f l = sm g l
  | [], _ => rfl
  | x :: l, h => by simp only [sm]; rw [h x (by simp), sm_congr (fun y hy => h y (by simp [hy]))]
theorem sm_le {α : Type} {f g : α → Int} : ∀ {l : List α}, (∀ x ∈ l, f x ≤ g x) → sm f l ≤ sm g l
  | [], _ => Int.le_refl _
  | x :: l, h => by
    have h1 := h x (by simp)
    have h2 := sm_le (l := l) (fun y hy => h y (by simp [hy]))
    simp only [sm]; omega
theorem sm_zero {α : Type} : ∀ l : List α, sm (fun _ => 0) l = 0
  | [] => rfl
  | x :: l => by simp [sm, sm_zero l]
theorem sm_pos {α : Type} {f : α → Int} {l : List α} (h : ∀ x ∈ l, 0 ≤ f x) : 0 ≤ sm f l := by
  have := sm_le (f := fun _ => 0) (g := f) (l := l) h
  rwa [sm_zero] at this
theorem sm_add {α : Type} (f g : α → Int) : ∀ l : List α, sm (fun x => f x + g x) l = sm f l + sm g l
  | [] => rfl
  | x :: l => by simp only [sm, sm_add f g l]; omega
theorem sm_sub {α : Type} (f g : α → Int) : ∀ l : List α, sm (fun x => f x - g x) l = sm f l - sm g l
  | [] => rfl
  | x :: l => by simp only [sm, sm_sub f g l]; omega
theorem sm_swap {α β : Type} (f : α → β → Int) (k : List β) : ∀ l : List α, sm (fun x => sm (f x) k) l = sm (fun y => sm (fun x => f x y) l) k
  | [] => by simp [sm, sm_zero]
  | x :: l => by
    simp only [sm]
    rw [sm_swap f k l, ← sm_add]
theorem sm_map {α β : Type} (f : β → Int) (g : α → β) : ∀ l : List α, sm f (l.map g) = sm (fun x => f (g x)) l
  | [] => rfl
  | x :: l => by simp only [List.map_cons, sm, sm_map f g l]
/-- one of them counts at least -/
theorem sm_some {α : Type} {f : α → Int} {l : List α} (h : ∀ x ∈ l, 0 ≤ f x) {y : α} (hy : y ∈ l) : f y ≤ sm f l := by
  induction l with
  | nil => cases hy
  | cons x l ih =>
    have h1 := h x (by simp)
    have h2 := sm_pos (f := f) (l := l) (fun z hz => h z (by simp [hz]))
    simp only [sm]
    rcases List.mem_cons.1 hy with e | e
    · subst e; omega
    · have := ih (fun z hz => h z (by simp [hz])) e; omega
/-- just one of them counts -/
theorem sm_one {α : Type} {f : α → Int} {y : α} : ∀ {l : List α}, l.Nodup → y ∈ l → (∀ x ∈ l, x ≠ y → f x = 0) → sm f l = f y
  | [], _, hy, _ => by cases hy
  | x :: l, hn, hy, h => by
    rw [List.nodup_cons] at hn
    simp only [sm]
    by_cases e : x = y
    · subst e
      have : sm f l = 0 := by
        rw [sm_congr (g := fun _ => 0) (fun z hz => h z (by simp [hz]) (fun e => hn.1 (e ▸ hz))), sm_zero]
      omega
    · rcases List.mem_cons.1 hy with k | k
      · exact absurd k.symm e
      · have h1 := sm_one hn.2 k (fun z hz => h z (by simp [hz]))
        have h2 := h x (by simp) e
        omega

/-- n variants, r the root; m steps, step i goes from fr i to to i and has ch i changes -/
structure Net where
  n : Nat
  r : Nat
  m : Nat
  fr : Nat → Nat
  to : Nat → Nat
  ch : Nat → Int
structure Net.Ok (N : Net) : Prop where
  root : N.r < N.n
  frm : ∀ i, i < N.m → N.fr i < N.n
  tom : ∀ i, i < N.m → N.to i < N.n
  ne : ∀ i, i < N.m → N.fr i ≠ N.to i
  pos : ∀ i, i < N.m → 0 ≤ N.ch i
/-- v comes from a by steps of g -/
inductive Rch (N : Net) (g : Nat → Prop) (a : Nat) : Nat → Prop
  | refl : Rch N g a a
  | step {i : Nat} : Rch N g a (N.fr i) → g i → Rch N g a (N.to i)
theorem Rch.trans {N : Net} {g : Nat → Prop} {a b c : Nat} (h : Rch N g a b) (k : Rch N g b c) : Rch N g a c := by
  induction k with
  | refl => exact h
  | step _ hi ih => exact .step ih hi
theorem Rch.mono {N : Net} {g g' : Nat → Prop} (hg : ∀ i, g i → g' i) {a b : Nat} (h : Rch N g a b) : Rch N g' a b := by
  induction h with
  | refl => exact .refl
  | step _ hi ih => exact .step ih (hg _ hi)
theorem Rch.one {N : Net} {g : Nat → Prop} {i : Nat} (hi : g i) : Rch N g (N.fr i) (N.to i) := .step .refl hi
theorem Rch.lt {N : Net} {g : Nat → Prop} (hg : ∀ i, g i → N.to i < N.n) {a b : Nat} (ha : a < N.n) (h : Rch N g a b) : b < N.n := by
  cases h with
  | refl => exact ha
  | step _ hi => exact hg _ hi
/-- all variants come from the root -/
def Full (N : Net) (g : Nat → Prop) : Prop := ∀ v, v < N.n → Rch N g N.r v
theorem Full.mono {N : Net} {g g' : Nat → Prop} (hg : ∀ i, g i → g' i) (h : Full N g) : Full N g' := fun v hv => (h v hv).mono hg
/-- step i goes into the group S -/
def ent (N : Net) (S : Nat → Bool) (i : Nat) : Bool := S (N.to i) && !S (N.fr i)
theorem ent_iff {N : Net} {S : Nat → Bool} {i : Nat} : ent N S i = true ↔ S (N.to i) = true ∧ S (N.fr i) = false := by unfold ent; simp
theorem cross {N : Net} {g : Nat → Prop} {S : Nat → Bool} {a v : Nat} (h : Rch N g a v) (ha : S a = false) (hv : S v = true) : ∃ i, g i ∧ ent N S i = true := by
  induction h with
  | refl => rw [ha] at hv; cases hv
  | @step i _ hi ih =>
    by_cases c : S (N.fr i) = true
    · exact ih c
    · exact ⟨i, hi, ent_iff.2 ⟨hv, by simpa using c⟩⟩
/-- a tree: a step to each variant but the root; all come from the root by them -/
def stepsOf (N : Net) (T : Nat → Nat) (i : Nat) : Prop := ∃ v, v < N.n ∧ v ≠ N.r ∧ T v = i
structure Tree (N : Net) (T : Nat → Nat) : Prop where
  to : ∀ v, v < N.n → v ≠ N.r → T v < N.m ∧ N.to (T v) = v
  full : Full N (stepsOf N T)
def costAt (N : Net) (T : Nat → Nat) (v : Nat) : Int := if v = N.r then 0 else N.ch (T v)
def cost (N : Net) (T : Nat → Nat) : Int := sm (costAt N T) (List.range N.n)
theorem cost_pos {N : Net} (hN : N.Ok) {T : Nat → Nat} (h : Tree N T) : 0 ≤ cost N T := sm_pos fun v hv => by
  unfold costAt
  split
  · exact Int.le_refl _
  · next hr => exact hN.pos _ (h.to v (List.mem_range.1 hv) hr).1
/-- the price that counts for step i -/
def toll (N : Net) (i : Nat) (x : (Nat → Bool) × Int) : Int := if ent N x.1 i = true then x.2 else 0
structure Right (N : Net) (P : List ((Nat → Bool) × Int)) : Prop where
  pos : ∀ x ∈ P, 0 ≤ x.2
  root : ∀ x ∈ P, x.1 N.r = false
  ne : ∀ x ∈ P, ∃ v, v < N.n ∧ x.1 v = true
  sum : ∀ i, i < N.m → sm (toll N i) P ≤ N.ch i
def bound (P : List ((Nat → Bool) × Int)) : Int := sm (fun x => x.2) P
theorem weak {N : Net} {P : List ((Nat → Bool) × Int)} {T : Nat → Nat} (hT : Tree N T) (hP : Right N P) : bound P ≤ cost N T := by
  have h1 : bound P ≤ sm (fun x => sm (fun v => if v = N.r then 0 else toll N (T v) x) (List.range N.n)) P := sm_le fun x hx => by
    obtain ⟨v, hv, hvx⟩ := hP.ne x hx
    obtain ⟨i, ⟨u, hu, hur, rfl⟩, hi⟩ := cross (hT.full v hv) (hP.root x hx) hvx
    have hp := hP.pos x hx
    have := sm_some (f := fun v => if v = N.r then 0 else toll N (T v) x) (l := List.range N.n) (fun w _ => by
      split
      · exact Int.le_refl _
      · unfold toll; split
        · exact hp
        · exact Int.le_refl _) (List.mem_range.2 hu)
    rw [if_neg hur] at this
    unfold toll at this
    rw [if_pos hi] at this
    exact this
  rw [sm_swap] at h1
  refine Int.le_trans h1 (sm_le fun v hv => ?_)
  have hv := List.mem_range.1 hv
  unfold costAt
  by_cases hr : v = N.r
  · rw [if_pos hr]
    refine Int.le_of_eq ?_
    rw [sm_congr (g := fun _ => 0) (fun x _ => if_pos hr), sm_zero]
  · rw [if_neg hr]
    refine Int.le_trans (Int.le_of_eq ?_) (hP.sum _ (hT.to v hv hr).1)
    exact sm_congr fun x _ => if_neg hr
/-- the fewest changes of a tree -/
def Best (N : Net) (c : Int) : Prop := (∃ T, Tree N T ∧ cost N T = c) ∧ ∀ T, Tree N T → c ≤ cost N T
theorem Best.uniq {N : Net} {c d : Int} (h : Best N c) (k : Best N d) : c = d := by
  obtain ⟨⟨T, hT, e⟩, h2⟩ := h
  obtain ⟨⟨U, hU, f⟩, k2⟩ := k
  have := h2 U hU
  have := k2 T hT
  omega
theorem best_of {N : Net} {P : List ((Nat → Bool) × Int)} {T : Nat → Nat} (hT : Tree N T) (hP : Right N P) (e : cost N T = bound P) : Best N (cost N T) :=
  ⟨⟨T, hT, rfl⟩, fun U hU => by have := weak hU hP; omega⟩
end Fam

namespace Fam
/-- a priced group (by bits), the step that was chosen, its price -/
abbrev Ent := (Nat → Bool) × Nat × Int
def stp (H : List Ent) : List Nat := H.map fun x => x.2.1
def prc (H : List Ent) : List ((Nat → Bool) × Int) := H.map fun x => (x.1, x.2.2)
def lft (N : Net) (H : List Ent) (i : Nat) : Int := N.ch i - sm (toll N i) (prc H)
/-- a group whose variants come from each other, into which no step of F goes, without the root -/
structure Open (N : Net) (F : List Nat) (S : Nat → Bool) : Prop where
  sub : ∀ v, S v = true → v < N.n
  ne : ∃ v, S v = true
  root : S N.r = false
  conn : ∀ u v, S u = true → S v = true → Rch N (· ∈ F) u v
  shut : ∀ i ∈ F, ent N S i = false
inductive Grown (N : Net) : List Ent → Prop
  | nil : Grown N []
  | snoc {H : List Ent} {S : Nat → Bool} {f : Nat} : Grown N H → Open N (stp H) S → f < N.m → ent N S f = true → (∀ i, i < N.m → ent N S i = true → lft N H f ≤ lft N H i) → Grown N (H ++ [(S, f, lft N H f)])
theorem stp_snoc (H : List Ent) (x : Ent) : stp (H ++ [x]) = stp H ++ [x.2.1] := by unfold stp; simp
theorem prc_snoc (H : List Ent) (x : Ent) : prc (H ++ [x]) = prc H ++ [(x.1, x.2.2)] := by unfold prc; simp
theorem lft_snoc (N : Net) (H : List Ent) (x : Ent) (i : Nat) : lft N (H ++ [x]) i = lft N H i - if ent N x.1 i = true then x.2.2 else 0 := by
  unfold lft
  rw [prc_snoc, sm_append]
  simp only [sm, toll]; omega
theorem Grown.lft_pos {N : Net} (hN : N.Ok) {H : List Ent} (h : Grown N H) : ∀ i, i < N.m → 0 ≤ lft N H i := by
  induction h with
  | nil => intro i hi; have := hN.pos i hi; simp only [lft, prc, List.map_nil, sm]; omega
  | snoc _ _ _ _ hl ih =>
    intro i hi
    rw [lft_snoc]
    have := ih i hi
    dsimp only
    split
    · next he => have := hl i hi he; omega
    · omega
theorem Grown.lt {N : Net} {H : List Ent} (h : Grown N H) : ∀ i ∈ stp H, i < N.m := by
  induction h with
  | nil => intro i hi; cases hi
  | snoc _ _ hf _ _ ih =>
    intro i hi
    rw [stp_snoc, List.mem_append, List.mem_singleton] at hi
    rcases hi with hi | hi
    · exact ih i hi
    · subst hi; exact hf
theorem Grown.tight {N : Net} {H : List Ent} (h : Grown N H) : ∀ i ∈ stp H, lft N H i = 0 := by
  induction h with
  | nil => intro i hi; cases hi
  | snoc _ ho _ he _ ih =>
    intro i hi
    rw [stp_snoc, List.mem_append, List.mem_singleton] at hi
    rw [lft_snoc]
    dsimp only at hi ⊢
    rcases hi with hi | hi
    · rw [if_neg (by rw [ho.shut i hi]; simp), ih i hi]; rfl
    · subst hi; rw [if_pos he]; omega
theorem Grown.prices {N : Net} (hN : N.Ok) {H : List Ent} (h : Grown N H) : ∀ x ∈ prc H, 0 ≤ x.2 := by
  induction h with
  | nil => intro x hx; cases hx
  | @snoc H S f hg ho hf he hl ih =>
    intro x hx
    rw [prc_snoc, List.mem_append, List.mem_singleton] at hx
    rcases hx with hx | hx
    · exact ih x hx
    · subst hx; exact hg.lft_pos hN f hf
theorem Grown.root {N : Net} {H : List Ent} (h : Grown N H) : ∀ x ∈ H, x.1 N.r = false := by
  induction h with
  | nil => intro x hx; cases hx
  | snoc _ ho _ _ _ ih =>
    intro x hx
    rw [List.mem_append, List.mem_singleton] at hx
    rcases hx with hx | hx
    · exact ih x hx
    · subst hx; exact ho.root
theorem Grown.ne {N : Net} {H : List Ent} (h : Grown N H) : ∀ x ∈ H, ∃ v, v < N.n ∧ x.1 v = true := by
  induction h with
  | nil => intro x hx; cases hx
  | snoc _ ho _ _ _ ih =>
    intro x hx
    rw [List.mem_append, List.mem_singleton] at hx
    rcases hx with hx | hx
    · exact ih x hx
    · subst hx
      obtain ⟨v, hv⟩ := ho.ne
      exact ⟨v, ho.sub v hv, hv⟩
theorem Grown.right {N : Net} (hN : N.Ok) {H : List Ent} (h : Grown N H) : Right N (prc H) := by
  refine ⟨h.prices hN, fun x hx => ?_, fun x hx => ?_, fun i hi => ?_⟩
  · obtain ⟨y, hy, rfl⟩ := List.mem_map.1 hx; exact h.root y hy
  · obtain ⟨y, hy, rfl⟩ := List.mem_map.1 hx; exact h.ne y hy
  · have := h.lft_pos hN i hi
    unfold lft at this; omega
theorem Grown.nodup {N : Net} {H : List Ent} (h : Grown N H) : (stp H).Nodup := by
  induction h with
  | nil => exact List.nodup_nil
  | @snoc H S f hg ho hf he hl ih =>
    rw [stp_snoc, List.nodup_append]
    refine ⟨ih, by simp, fun a ha b hb e => ?_⟩
    rw [List.mem_singleton] at hb
    have := ho.shut a ha
    rw [e, hb] at this
    dsimp only at this
    rw [he] at this
    cases this
theorem Grown.to_root {N : Net} {H : List Ent} (h : Grown N H) : ∀ i ∈ stp H, N.to i ≠ N.r := by
  induction h with
  | nil => intro i hi; cases hi
  | @snoc H S f hg ho hf he hl ih =>
    intro i hi
    rw [stp_snoc, List.mem_append, List.mem_singleton] at hi
    rcases hi with hi | hi
    · exact ih i hi
    · subst hi
      intro e
      have := (ent_iff.1 he).1
      rw [e, ho.root] at this
      cases this
/-- an earlier priced group: no step chosen before goes into it, its variants come from each other by these -/
theorem Grown.at_ {N : Net} {H : List Ent} (h : Grown N H) : ∀ x ∈ H, ∃ k, k ≤ (stp H).length ∧ Open N ((stp H).take k) x.1 := by
  induction h with
  | nil => intro x hx; cases hx
  | @snoc H S f hg ho hf he hl ih =>
    intro x hx
    rw [List.mem_append, List.mem_singleton] at hx
    rw [stp_snoc]
    rcases hx with hx | hx
    · obtain ⟨k, hk, hok⟩ := ih x hx
      refine ⟨k, by simp; omega, ?_⟩
      rw [List.take_append_of_le_length hk]
      exact hok
    · subst hx
      refine ⟨(stp H).length, by simp, ?_⟩
      rw [List.take_left]
      exact ho
/-- the single groups: each variant but the root that a step was chosen to was priced alone -/
theorem Grown.single {N : Net} {H : List Ent} (h : Grown N H) : ∀ i ∈ stp H, ∃ x ∈ H, ∀ u, x.1 u = decide (u = N.to i) := by
  induction h with
  | nil => intro i hi; cases hi
  | @snoc H S f hg ho hf he hl ih =>
    intro i hi
    rw [stp_snoc, List.mem_append, List.mem_singleton] at hi
    by_cases c : ∃ j ∈ stp H, N.to j = N.to i
    · obtain ⟨j, hj, e⟩ := c
      obtain ⟨x, hx, hu⟩ := ih j hj
      exact ⟨x, by simp [hx], by rw [← e]; exact hu⟩
    · rcases hi with hi | hi
      · exact absurd ⟨i, hi, rfl⟩ c
      · subst hi
        refine ⟨(S, i, lft N H i), by simp, fun u => ?_⟩
        dsimp only
        have hv := (ent_iff.1 he).1
        by_cases e : u = N.to i
        · subst e; simpa using hv
        · cases hu : S u with
          | false => simp [e]
          | true =>
            have := ho.conn u (N.to i) hu hv
            generalize hz : N.to i = z at this
            cases this with
            | refl => exact absurd hz.symm e
            | @step j _ hj => exact absurd ⟨j, hj, hz.symm⟩ c
/-- steps left out from the last one on; K: what is kept of those behind i -/
inductive Pruned (N : Net) (F : List Nat) : Nat → List Nat → Prop
  | start : Pruned N F F.length []
  | drop {i : Nat} {K : List Nat} : i < F.length → Pruned N F (i + 1) K → Full N (· ∈ F.take i ++ K) → Pruned N F i K
  | keep {i f : Nat} {K : List Nat} : F[i]? = some f → Pruned N F (i + 1) K → ¬ Full N (· ∈ F.take i ++ K) → Pruned N F i (f :: K)
theorem take_succ_mem {F : List Nat} {i f : Nat} (h : F[i]? = some f) {x : Nat} : x ∈ F.take (i + 1) ↔ x ∈ F.take i ∨ x = f := by
  rw [List.take_add_one, h]
  simp
theorem Pruned.full {N : Net} {F : List Nat} {i : Nat} {K : List Nat} (h : Pruned N F i K) (hF : Full N (· ∈ F)) : Full N (· ∈ F.take i ++ K) := by
  induction h with
  | start => exact hF.mono fun x hx => by simp [hx]
  | drop _ _ hf _ => exact hf
  | keep hf _ _ ih =>
    refine ih.mono fun x hx => ?_
    rw [List.mem_append, take_succ_mem hf] at hx
    rw [List.mem_append, List.mem_cons]
    rcases hx with (hx | hx) | hx
    · exact .inl hx
    · exact .inr (.inl hx)
    · exact .inr (.inr hx)
theorem Pruned.le {N : Net} {F : List Nat} {i : Nat} {K : List Nat} (h : Pruned N F i K) : i ≤ F.length := by
  cases h with
  | start => exact Nat.le_refl _
  | drop hi _ _ => omega
  | keep hf _ _ => have := (List.getElem?_eq_some_iff.1 hf).1; omega
theorem Pruned.mem {N : Net} {F : List Nat} {i : Nat} {K : List Nat} (h : Pruned N F i K) : ∀ x ∈ K, ∃ j, i ≤ j ∧ F[j]? = some x := by
  induction h with
  | start => intro x hx; cases hx
  | drop _ _ _ ih => intro x hx; obtain ⟨j, h1, h2⟩ := ih x hx; exact ⟨j, by omega, h2⟩
  | @keep i f K hf _ _ ih =>
    intro x hx
    rcases List.mem_cons.1 hx with e | e
    · subst e; exact ⟨i, Nat.le_refl _, hf⟩
    · obtain ⟨j, h1, h2⟩ := ih x e; exact ⟨j, by omega, h2⟩
/-- where an element was kept -/
theorem Pruned.split {N : Net} {F : List Nat} {i : Nat} {K : List Nat} (h : Pruned N F i K) : ∀ (X Y : List Nat) (a : Nat), K = X ++ a :: Y → ∃ j, i ≤ j ∧ F[j]? = some a ∧ Pruned N F (j + 1) Y ∧ ¬ Full N (· ∈ F.take j ++ Y) ∧ ∀ x ∈ X, x ∈ F.take j := by
  induction h with
  | start => intro X Y a e; cases X <;> cases e
  | drop _ _ _ ih => intro X Y a e; obtain ⟨j, h1, h2⟩ := ih X Y a e; exact ⟨j, by omega, h2⟩
  | @keep i f K hf hp hn ih =>
    intro X Y a e
    cases X with
    | nil =>
      injection e with e1 e2
      subst e1; subst e2
      exact ⟨i, Nat.le_refl _, hf, hp, hn, fun x hx => by cases hx⟩
    | cons y X =>
      injection e with e1 e2
      subst e1
      obtain ⟨j, h1, h2, h3, h4, h5⟩ := ih X Y a e2
      refine ⟨j, by omega, h2, h3, h4, fun x hx => ?_⟩
      rcases List.mem_cons.1 hx with e | e
      · subst e
        exact List.mem_take_iff_getElem.2 ⟨i, by have := (List.getElem?_eq_some_iff.1 hf).1; omega, (List.getElem?_eq_some_iff.1 hf).2⟩
      · exact h5 x e
theorem Pruned.nodup {N : Net} {F : List Nat} (hF : F.Nodup) {i : Nat} {K : List Nat} (h : Pruned N F i K) : K.Nodup := by
  induction h with
  | start => exact List.nodup_nil
  | drop _ _ _ ih => exact ih
  | @keep i f K hf hp _ ih =>
    refine List.nodup_cons.2 ⟨fun hm => ?_, ih⟩
    obtain ⟨j, h1, h2⟩ := hp.mem f hm
    have := (List.getElem?_inj (List.getElem?_eq_some_iff.1 hf).1 hF).1 (hf.trans h2.symm)
    omega
/-- the first step into S on a way from the root -/
theorem first_in {N : Net} {Q : Nat → Prop} {S : Nat → Bool} {r v : Nat} (h : Rch N Q r v) (hr : S r = false) : (Rch N (fun i => Q i ∧ S (N.to i) = false) r v ∧ S v = false) ∨ ∃ g, Q g ∧ ent N S g = true ∧ Rch N (fun i => Q i ∧ S (N.to i) = false) r (N.fr g) := by
  induction h with
  | refl => exact .inl ⟨.refl, hr⟩
  | @step i _ hi ih =>
    rcases ih with ⟨h1, h2⟩ | h1
    · by_cases c : S (N.to i) = true
      · exact .inr ⟨i, hi, ent_iff.2 ⟨c, h2⟩, h1⟩
      · have c : S (N.to i) = false := by simpa using c
        exact .inl ⟨.step h1 ⟨hi, c⟩, c⟩
    · exact .inr h1
/-- one step into S less: all the same full, if S is reached otherwise -/
theorem full_less {N : Net} {Q Q' : Nat → Prop} {S : Nat → Bool} {f g : Nat} (hQ : Full N Q) (hf : S (N.to f) = true) (hsub : ∀ i, Q i → i = f ∨ Q' i) (hc : ∀ u v, S u = true → S v = true → Rch N Q' u v) (hg : Q' g) (hgS : S (N.to g) = true) (hr : Rch N Q' N.r (N.fr g)) : Full N Q' := by
  intro v hv
  have h := hQ v hv
  clear hv
  induction h with
  | refl => exact .refl
  | @step i _ hi ih =>
    rcases hsub i hi with e | e
    · subst e
      exact (Rch.step hr hg).trans (hc _ _ hgS hf)
    · exact .step ih e
/-- two steps of what is kept do not go into one priced group -/
theorem Pruned.two {N : Net} {H : List Ent} (hG : Grown N H) {R : List Nat} (hR : Pruned N (stp H) 0 R) (hF : Full N (· ∈ stp H)) {x : Ent} (hx : x ∈ H) {X Y Z : List Nat} {a b : Nat} (e : R = X ++ a :: (Y ++ b :: Z)) (ha : ent N x.1 a = true) (hb : ent N x.1 b = true) : False := by
  obtain ⟨k, hk, ho⟩ := hG.at_ x hx
  have hroot := hG.root x hx
  have hnd := hG.nodup
  generalize stp H = F at hR hF hk ho hnd
  generalize x.1 = S at ho ha hb hroot
  obtain ⟨ja, _, fa, pa, na, _⟩ := hR.split X _ a e
  obtain ⟨jb, hjb, fb, pb, nb, my⟩ := pa.split Y Z b rfl
  have hka : k ≤ ja := by
    rcases Nat.lt_or_ge ja k with c | c
    · have : a ∈ F.take k := List.mem_take_iff_getElem.2 ⟨ja, by have := (List.getElem?_eq_some_iff.1 fa).1; omega, (List.getElem?_eq_some_iff.1 fa).2⟩
      have := ho.shut a this
      rw [ha] at this; cases this
    · exact c
  have sub : ∀ j, k ≤ j → ∀ i, i ∈ F.take k → i ∈ F.take j := fun j hj i hi => by
    have : F.take k = (F.take j).take k := by rw [List.take_take, Nat.min_eq_left hj]
    rw [this] at hi
    exact List.mem_of_mem_take hi
  -- the first step into S, of those up to a
  obtain ⟨v, hv⟩ := ho.ne
  have fullA : Full N (· ∈ F.take (ja + 1) ++ (Y ++ b :: Z)) := pa.full hF
  rcases first_in (S := S) (fullA v (ho.sub v hv)) hroot with ⟨_, h⟩ | ⟨g, hg, hgS, hgr⟩
  · rw [hv] at h; cases h
  · have hmem : ∀ i, i ∈ F.take (ja + 1) ++ (Y ++ b :: Z) → i = a ∨ i ∈ F.take ja ++ (Y ++ b :: Z) := fun i hi => by
      rw [List.mem_append, take_succ_mem fa] at hi
      rw [List.mem_append]
      rcases hi with (hi | hi) | hi
      · exact .inr (.inl hi)
      · exact .inl hi
      · exact .inr (.inr hi)
    by_cases ga : g = a
    · -- then b was not needed
      subst ga
      refine nb (full_less (Q := (· ∈ F.take (jb + 1) ++ Z)) (f := b) (g := g) (S := S) (pb.full hF) (ent_iff.1 hb).1 (fun i hi => ?_) (fun u v hu hv => (ho.conn u v hu hv).mono fun i hi => List.mem_append.2 (.inl (sub jb (by omega) i hi))) ?_ (ent_iff.1 ha).1 (hgr.mono fun i hi => ?_))
      · rw [List.mem_append, take_succ_mem fb] at hi
        rw [List.mem_append]
        rcases hi with (hi | hi) | hi
        · exact .inr (.inl hi)
        · exact .inl hi
        · exact .inr (.inr hi)
      · refine List.mem_append.2 (.inl (List.mem_take_iff_getElem.2 ⟨ja, by have := (List.getElem?_eq_some_iff.1 fa).1; omega, (List.getElem?_eq_some_iff.1 fa).2⟩))
      · obtain ⟨hi, hiS⟩ := hi
        rw [List.mem_append] at hi ⊢
        rcases hi with hi | hi
        · refine .inl ?_
          have : F.take (ja + 1) = (F.take jb).take (ja + 1) := by rw [List.take_take, Nat.min_eq_left hjb]
          rw [this] at hi
          exact List.mem_of_mem_take hi
        · rcases List.mem_append.1 hi with hi | hi
          · exact .inl (my i hi)
          · rcases List.mem_cons.1 hi with hi | hi
            · subst hi
              rw [(ent_iff.1 hb).1] at hiS; cases hiS
            · exact .inr hi
    · refine na (full_less (Q := (· ∈ F.take (ja + 1) ++ (Y ++ b :: Z))) (f := a) (g := g) (S := S) fullA (ent_iff.1 ha).1 hmem (fun u v hu hv => (ho.conn u v hu hv).mono fun i hi => List.mem_append.2 (.inl (sub ja hka i hi))) ?_ (ent_iff.1 hgS).1 (hgr.mono fun i hi => ?_))
      · exact (hmem g hg).resolve_left ga
      · rcases hmem i hi.1 with c | c
        · subst c
          rw [(ent_iff.1 ha).1] at hi
          cases hi.2
        · exact c
theorem two_split {R : List Nat} : ∀ {a b : Nat}, a ∈ R → b ∈ R → a ≠ b → ∃ X Y Z, R = X ++ a :: (Y ++ b :: Z) ∨ R = X ++ b :: (Y ++ a :: Z) := by
  induction R with
  | nil => intro a b ha; cases ha
  | cons c R ih =>
    intro a b ha hb hne
    rcases List.mem_cons.1 ha with ea | ea
    · subst ea
      rcases List.mem_cons.1 hb with eb | eb
      · exact absurd eb.symm hne
      · obtain ⟨Y, Z, e⟩ := List.append_of_mem eb
        exact ⟨[], Y, Z, .inl (by rw [e]; rfl)⟩
    · rcases List.mem_cons.1 hb with eb | eb
      · subst eb
        obtain ⟨Y, Z, e⟩ := List.append_of_mem ea
        exact ⟨[], Y, Z, .inr (by rw [e]; rfl)⟩
      · obtain ⟨X, Y, Z, h | h⟩ := ih ea eb hne
        · exact ⟨c :: X, Y, Z, .inl (by rw [h]; rfl)⟩
        · exact ⟨c :: X, Y, Z, .inr (by rw [h]; rfl)⟩
theorem Pruned.once {N : Net} {H : List Ent} (hG : Grown N H) {R : List Nat} (hR : Pruned N (stp H) 0 R) (hF : Full N (· ∈ stp H)) {x : Ent} (hx : x ∈ H) {a b : Nat} (ha : a ∈ R) (hb : b ∈ R) (ea : ent N x.1 a = true) (eb : ent N x.1 b = true) : a = b := by
  by_cases c : a = b
  · exact c
  · obtain ⟨X, Y, Z, h | h⟩ := two_split ha hb c
    · exact (hR.two hG hF hx h ea eb).elim
    · exact (hR.two hG hF hx h eb ea).elim
/-- what is kept is a tree, as dear as the prices are high -/
theorem Pruned.tree {N : Net} (hN : N.Ok) {H : List Ent} (hG : Grown N H) {R : List Nat} (hR : Pruned N (stp H) 0 R) (hF : Full N (· ∈ stp H)) {T : Nat → Nat} (hT : ∀ i ∈ R, T (N.to i) = i) :
    (∀ i ∈ R, ∀ j ∈ R, N.to i = N.to j → i = j) ∧ (∀ v, v < N.n → v ≠ N.r → T v ∈ R) ∧ Tree N T ∧ cost N T = bound (prc H) := by
  have hfull : Full N (· ∈ R) := by
    have := hR.full hF
    rwa [List.take_zero, List.nil_append] at this
  have hsub : ∀ i ∈ R, i ∈ stp H := fun i hi => by
    obtain ⟨j, _, h⟩ := hR.mem i hi
    exact List.mem_of_getElem? h
  have hlt : ∀ i ∈ R, i < N.m := fun i hi => hG.lt i (hsub i hi)
  have hinj : ∀ i ∈ R, ∀ j ∈ R, N.to i = N.to j → i = j := fun i hi j hj e => by rw [← hT i hi, ← hT j hj, e]
  have hin : ∀ v, v < N.n → v ≠ N.r → T v ∈ R ∧ N.to (T v) = v := fun v hv hr => by
    have := hfull v hv
    cases this with
    | refl => exact absurd rfl hr
    | @step i _ hi => rw [hT i hi]; exact ⟨hi, rfl⟩
  have htree : Tree N T := ⟨fun v hv hr => ⟨hlt _ (hin v hv hr).1, (hin v hv hr).2⟩, hfull.mono fun i hi => ⟨N.to i, hN.tom i (hlt i hi), hG.to_root i (hsub i hi), hT i hi⟩⟩
  refine ⟨hinj, fun v hv hr => (hin v hv hr).1, htree, ?_⟩
  have e1 : cost N T = sm (fun v => sm (fun x => if v = N.r then 0 else toll N (T v) x) (prc H)) (List.range N.n) := sm_congr fun v hv => by
    have hv := List.mem_range.1 hv
    unfold costAt
    by_cases hr : v = N.r
    · rw [if_pos hr]
      rw [sm_congr (g := fun _ => 0) (fun x _ => if_pos hr), sm_zero]
    · rw [if_neg hr]
      have := hG.tight (T v) (hsub _ (hin v hv hr).1)
      rw [sm_congr (g := toll N (T v)) (fun x _ => if_neg hr)]
      unfold lft at this; omega
  rw [e1, sm_swap]
  refine sm_congr fun y hy => ?_
  obtain ⟨x, hx, rfl⟩ := List.mem_map.1 hy
  dsimp only
  obtain ⟨v, hv, hvx⟩ := hG.ne x hx
  obtain ⟨i, ⟨u, hu, hur, rfl⟩, hi⟩ := cross (htree.full v hv) (hG.root x hx) hvx
  rw [sm_one (y := u) List.nodup_range (List.mem_range.2 hu) (fun w hw hne => ?_)]
  · rw [if_neg hur]
    unfold toll
    rw [if_pos hi]
  · have hw := List.mem_range.1 hw
    by_cases hr : w = N.r
    · rw [if_pos hr]
    · rw [if_neg hr]
      unfold toll
      rw [if_neg]
      intro hwx
      have e := hR.once hG hF hx (hin w hw hr).1 (hin u hu hur).1 hwx hi
      have := congrArg N.to e
      rw [(hin w hw hr).2, (hin u hu hur).2] at this
      exact hne this
/-- each variant but the root has one kept step that goes to it -/
theorem Pruned.inj {N : Net} (hN : N.Ok) {H : List Ent} (hG : Grown N H) {R : List Nat} (hR : Pruned N (stp H) 0 R) (hF : Full N (· ∈ stp H)) : ∀ i ∈ R, ∀ j ∈ R, N.to i = N.to j → i = j := by
  intro i hi j hj e
  have hsub : ∀ i ∈ R, i ∈ stp H := fun i hi => by
    obtain ⟨j, _, h⟩ := hR.mem i hi
    exact List.mem_of_getElem? h
  obtain ⟨x, hx, hu⟩ := hG.single i (hsub i hi)
  refine hR.once hG hF hx hi hj (ent_iff.2 ⟨by rw [hu]; simp, ?_⟩) (ent_iff.2 ⟨by rw [hu, e]; simp, ?_⟩)
  · rw [hu]; simpa using hN.ne i (hG.lt i (hsub i hi))
  · rw [hu, e]; simpa using hN.ne j (hG.lt j (hsub j hj))
end Fam

namespace Fam
open Classical
theorem nodup_le : ∀ (a b : List Nat), a.Nodup → (∀ x ∈ a, x ∈ b) → a.length ≤ b.length
  | [], _, _, _ => by simp
  | x :: a, b, h, hs => by
    rw [List.nodup_cons] at h
    have hx := hs x (by simp)
    have := nodup_le a (b.erase x) h.2 (fun y hy => (List.mem_erase_of_ne (by intro e; subst e; exact h.1 hy)).2 (hs y (by simp [hy])))
    rw [List.length_erase_of_mem hx] at this
    have := List.length_pos_of_mem hx
    simp only [List.length_cons]; omega
theorem nodup_lt {a b : List Nat} (h : a.Nodup) (hs : ∀ x ∈ a, x ∈ b) {y : Nat} (hy : y ∈ b) (hn : y ∉ a) : a.length < b.length := by
  have := nodup_le (y :: a) b (List.nodup_cons.2 ⟨hn, h⟩) (fun x hx => by
    rcases List.mem_cons.1 hx with e | e
    · subst e; exact hy
    · exact hs x e)
  simp only [List.length_cons] at this; omega
/-- u and v come from each other -/
def Eqv (N : Net) (F : List Nat) (u v : Nat) : Prop := Rch N (· ∈ F) u v ∧ Rch N (· ∈ F) v u
theorem Eqv.symm {N : Net} {F : List Nat} {u v : Nat} (h : Eqv N F u v) : Eqv N F v u := ⟨h.2, h.1⟩
theorem Eqv.trans {N : Net} {F : List Nat} {u v x : Nat} (h : Eqv N F u v) (k : Eqv N F v x) : Eqv N F u x := ⟨h.1.trans k.1, k.2.trans h.2⟩
/-- the first of its kind -/
def Rep (N : Net) (F : List Nat) (v : Nat) : Prop := ∀ u, u < v → ¬ Eqv N F u v
def Opn (N : Net) (F : List Nat) (v : Nat) : Prop := ¬ Eqv N F v N.r ∧ ∀ u, u < N.n → Rch N (· ∈ F) u v → Rch N (· ∈ F) v u
noncomputable def reps (N : Net) (F : List Nat) : List Nat := (List.range N.n).filter fun v => decide (Rep N F v)
noncomputable def opns (N : Net) (F : List Nat) : List Nat := (List.range N.n).filter fun v => decide (Rep N F v ∧ Opn N F v)
theorem mem_reps {N : Net} {F : List Nat} {v : Nat} : v ∈ reps N F ↔ v < N.n ∧ Rep N F v := by unfold reps; simp
theorem mem_opns {N : Net} {F : List Nat} {v : Nat} : v ∈ opns N F ↔ v < N.n ∧ Rep N F v ∧ Opn N F v := by unfold opns; simp
theorem reps_nodup (N : Net) (F : List Nat) : (reps N F).Nodup := List.nodup_range.sublist List.filter_sublist
theorem opns_nodup (N : Net) (F : List Nat) : (opns N F).Nodup := List.nodup_range.sublist List.filter_sublist
/-- each has a first of its kind -/
theorem rep_of (N : Net) (F : List Nat) : ∀ (k v : Nat), v ≤ k → ∃ u, u ≤ v ∧ Eqv N F u v ∧ Rep N F u
  | k, v, hk => by
    by_cases c : Rep N F v
    · exact ⟨v, Nat.le_refl _, ⟨.refl, .refl⟩, c⟩
    · obtain ⟨u, h⟩ := not_forall.1 c
      obtain ⟨hu, he⟩ := Classical.not_imp.1 h
      have he := Classical.not_not.1 he
      cases k with
      | zero => omega
      | succ k =>
        obtain ⟨x, h1, h2, h3⟩ := rep_of N F k u (by omega)
        exact ⟨x, by omega, h2.trans he, h3⟩
/-- reach with one step more -/
theorem rch_more {N : Net} {F : List Nat} {f a b : Nat} : Rch N (· ∈ F ++ [f]) a b ↔ Rch N (· ∈ F) a b ∨ Rch N (· ∈ F) a (N.fr f) ∧ Rch N (· ∈ F) (N.to f) b := by
  constructor
  · intro h
    induction h with
    | refl => exact .inl .refl
    | @step i _ hi ih =>
      rcases List.mem_append.1 hi with hi | hi
      · rcases ih with ih | ⟨h1, h2⟩
        · exact .inl (.step ih hi)
        · exact .inr ⟨h1, .step h2 hi⟩
      · rw [List.mem_singleton] at hi
        subst hi
        rcases ih with ih | ⟨h1, h2⟩
        · exact .inr ⟨ih, .refl⟩
        · exact .inr ⟨h1, .refl⟩
  · rintro (h | ⟨h1, h2⟩)
    · exact h.mono fun i hi => List.mem_append.2 (.inl hi)
    · have h1 : Rch N (· ∈ F ++ [f]) a (N.fr f) := h1.mono fun i hi => List.mem_append.2 (.inl hi)
      have h2 : Rch N (· ∈ F ++ [f]) (N.to f) b := h2.mono fun i hi => List.mem_append.2 (.inl hi)
      exact (Rch.step h1 (by simp)).trans h2
theorem eqv_more {N : Net} {F : List Nat} {f u v : Nat} (h : Eqv N F u v) : Eqv N (F ++ [f]) u v := ⟨rch_more.2 (.inl h.1), rch_more.2 (.inl h.2)⟩
noncomputable def pot (N : Net) (F : List Nat) : Nat := (reps N F).length + (opns N F).length
theorem rep_less {N : Net} {F : List Nat} {f v : Nat} (h : Rep N (F ++ [f]) v) : Rep N F v := fun u hu he => h u hu (eqv_more he)
theorem pot_less {N : Net} (hN : N.Ok) {F : List Nat} {S : Nat → Bool} {f : Nat} (ho : Open N F S) (hf : f < N.m) (he : ent N S f = true) : pot N (F ++ [f]) < pot N F := by
  obtain ⟨hy, hx⟩ := ent_iff.1 he
  have hyn : N.to f < N.n := hN.tom f hf
  have hxn : N.fr f < N.n := hN.frm f hf
  -- what leads to S lies in S
  have src : ∀ u v, S v = true → Rch N (· ∈ F) u v → S u = true := fun u v hv h => by
    cases hu : S u with
    | true => rfl
    | false =>
      obtain ⟨i, hi, hie⟩ := cross h hu hv
      rw [ho.shut i hi] at hie; cases hie
  obtain ⟨s0, hs0, e0, r0⟩ := rep_of N F (N.to f) (N.to f) (Nat.le_refl _)
  have s0S : S s0 = true := src _ _ hy e0.1
  have s0n : s0 < N.n := by omega
  have o0 : Opn N F s0 := ⟨(fun h => by
    have := src _ _ s0S h.2
    rw [ho.root] at this; cases this), fun u _ h => ho.conn _ _ s0S (src _ _ s0S h)⟩
  have m0 : s0 ∈ opns N F := mem_opns.2 ⟨s0n, r0, o0⟩
  have rsub : ∀ v ∈ reps N (F ++ [f]), v ∈ reps N F := fun v hv => by
    obtain ⟨h1, h2⟩ := mem_reps.1 hv
    exact mem_reps.2 ⟨h1, rep_less h2⟩
  have rle := nodup_le _ _ (reps_nodup N (F ++ [f])) rsub
  unfold pot
  by_cases c : Rch N (· ∈ F) (N.to f) (N.fr f)
  · -- groups become one
    have rlt : (reps N (F ++ [f])).length < (reps N F).length := by
      obtain ⟨t0, ht0, f0, q0⟩ := rep_of N F (N.fr f) (N.fr f) (Nat.le_refl _)
      have hne : s0 ≠ t0 := fun e => by
        have : S (N.fr f) = true := src _ _ s0S (e ▸ f0.2)
        rw [hx] at this; cases this
      have hxy : Eqv N (F ++ [f]) (N.fr f) (N.to f) := ⟨rch_more.2 (.inr ⟨.refl, .refl⟩), rch_more.2 (.inl c)⟩
      have hst : Eqv N (F ++ [f]) s0 t0 := ((eqv_more e0).trans hxy.symm).trans (eqv_more f0).symm
      rcases Nat.lt_or_ge s0 t0 with k | k
      · exact nodup_lt (reps_nodup _ _) rsub (y := t0) (mem_reps.2 ⟨by omega, q0⟩) (fun hm => (mem_reps.1 hm).2 s0 k hst)
      · exact nodup_lt (reps_nodup _ _) rsub (y := s0) (mem_reps.2 ⟨s0n, r0⟩) (fun hm => (mem_reps.1 hm).2 t0 (by omega) hst.symm)
    have ole : (opns N (F ++ [f])).length ≤ (opns N F).length := by
      have key : ∀ v, v ∈ opns N (F ++ [f]) → ¬ Eqv N (F ++ [f]) v (N.to f) → v ∈ opns N F ∧ v ≠ s0 := fun v hv hne => by
        obtain ⟨h1, h2, h3, h4⟩ := mem_opns.1 hv
        refine ⟨mem_opns.2 ⟨h1, rep_less h2, fun h => h3 (eqv_more h), fun u hu h => ?_⟩, fun e => hne (e ▸ eqv_more e0)⟩
        rcases rch_more.1 (h4 u hu (rch_more.2 (.inl h))) with k | ⟨k1, k2⟩
        · exact k
        · refine absurd ⟨rch_more.2 (.inr ⟨k1, .refl⟩), rch_more.2 (.inl (k2.trans h))⟩ hne
      have hmap := nodup_le ((opns N (F ++ [f])).map fun v => if Eqv N (F ++ [f]) v (N.to f) then s0 else v) (opns N F) (by
        have hp : (opns N (F ++ [f])).Pairwise fun a b => a ≠ b := opns_nodup _ _
        rw [List.Nodup, List.pairwise_map]
        refine hp.imp_of_mem fun {a b} ha hb hab e => ?_
        by_cases ca : Eqv N (F ++ [f]) a (N.to f)
        · by_cases cb : Eqv N (F ++ [f]) b (N.to f)
          · have hab' := ca.trans cb.symm
            rcases Nat.lt_or_ge a b with k | k
            · exact (mem_opns.1 hb).2.1 a k hab'
            · exact (mem_opns.1 ha).2.1 b (by omega) hab'.symm
          · rw [if_pos ca, if_neg cb] at e
            exact (key b hb cb).2 e.symm
        · by_cases cb : Eqv N (F ++ [f]) b (N.to f)
          · rw [if_neg ca, if_pos cb] at e
            exact (key a ha ca).2 e
          · rw [if_neg ca, if_neg cb] at e
            exact hab e) (fun x hx' => by
        obtain ⟨v, hv, rfl⟩ := List.mem_map.1 hx'
        by_cases cv : Eqv N (F ++ [f]) v (N.to f)
        · rw [if_pos cv]; exact m0
        · rw [if_neg cv]; exact (key v hv cv).1)
      rwa [List.length_map] at hmap
    omega
  · -- one group is shut
    have same : ∀ u v, Eqv N (F ++ [f]) u v → Eqv N F u v := fun u v h => by
      obtain ⟨h1, h2⟩ := h
      rw [rch_more] at h1 h2
      rcases h1 with h1 | ⟨a1, a2⟩
      · rcases h2 with h2 | ⟨b1, b2⟩
        · exact ⟨h1, h2⟩
        · exact absurd ((b2.trans h1).trans b1) c
      · rcases h2 with h2 | ⟨b1, b2⟩
        · exact absurd ((a2.trans h2).trans a1) c
        · exact absurd (a2.trans b1) c
    have osub : ∀ v ∈ opns N (F ++ [f]), v ∈ opns N F := fun v hv => by
      obtain ⟨h1, h2, h3, h4⟩ := mem_opns.1 hv
      refine mem_opns.2 ⟨h1, rep_less h2, fun h => h3 (eqv_more h), fun u hu h => ?_⟩
      have h5 : Rch N (· ∈ F ++ [f]) u v := rch_more.2 (.inl h)
      exact (same u v ⟨h5, h4 u hu h5⟩).2
    have := nodup_lt (opns_nodup N (F ++ [f])) osub m0 (fun hm => by
      obtain ⟨_, _, _, h4⟩ := mem_opns.1 hm
      have h5 : Rch N (· ∈ F ++ [f]) (N.fr f) s0 := rch_more.2 (.inr ⟨.refl, e0.2⟩)
      have := (same _ _ ⟨h5, h4 _ hxn h5⟩).2
      exact c (e0.2.trans this))
    omega
theorem pot_nil (N : Net) (hN : N.Ok) : pot N [] + 1 ≤ 2 * N.n := by
  have h1 : (reps N []).length ≤ N.n := by
    have := List.length_filter_le (fun v => decide (Rep N [] v)) (List.range N.n)
    rwa [List.length_range] at this
  have h2 := nodup_lt (a := opns N []) (b := List.range N.n) (opns_nodup N []) (fun x hx => List.mem_range.2 (mem_opns.1 hx).1) (List.mem_range.2 hN.root) (fun hm => (mem_opns.1 hm).2.2.1 ⟨.refl, .refl⟩)
  rw [List.length_range] at h2
  unfold pot; omega
theorem pot_pos (N : Net) (hN : N.Ok) (F : List Nat) : 1 ≤ pot N F := by
  have := List.length_pos_of_mem (mem_reps.2 ⟨(by have := hN.root; omega : 0 < N.n), fun u hu => absurd hu (by omega)⟩ : 0 ∈ reps N F)
  unfold pot; omega
/-- how many groups can be priced -/
theorem Grown.many {N : Net} (hN : N.Ok) {H : List Ent} (h : Grown N H) : H.length + 2 ≤ 2 * N.n := by
  have key : H.length + pot N (stp H) ≤ pot N [] := by
    induction h with
    | nil => simp [stp]
    | @snoc H S f hg ho hf he _ ih =>
      have := pot_less hN ho hf he
      rw [stp_snoc]
      simp only [List.length_append, List.length_cons, List.length_nil]
      omega
  have := pot_nil N hN
  have := pot_pos N hN (stp H)
  omega
/-- where no group is open, all come from the root -/
theorem full_of_shut {N : Net} {F : List Nat} (h : ∀ v, v < N.n → (∃ k, k < N.n ∧ Rch N (· ∈ F) k v ∧ ¬ Rch N (· ∈ F) v k) ∨ Rch N (· ∈ F) N.r v) : Full N (· ∈ F) := by
  have key : ∀ c v, v < N.n → ((List.range N.n).filter fun k => decide (Rch N (· ∈ F) k v)).length ≤ c → Rch N (· ∈ F) N.r v := by
    intro c
    induction c with
    | zero =>
      intro v hv hc
      have := List.length_pos_of_mem (List.mem_filter.2 ⟨List.mem_range.2 hv, by simpa using Rch.refl⟩ : v ∈ (List.range N.n).filter fun k => decide (Rch N (· ∈ F) k v))
      omega
    | succ c ih =>
      intro v hv hc
      rcases h v hv with ⟨k, hk, h1, h2⟩ | h1
      · refine (ih k hk ?_).trans h1
        have := nodup_lt (a := (List.range N.n).filter fun u => decide (Rch N (· ∈ F) u k)) (b := (List.range N.n).filter fun u => decide (Rch N (· ∈ F) u v)) (List.nodup_range.sublist List.filter_sublist) (fun x hx => by
          obtain ⟨a, b⟩ := List.mem_filter.1 hx
          exact List.mem_filter.2 ⟨a, by simpa using (of_decide_eq_true b).trans h1⟩) (y := v) (List.mem_filter.2 ⟨List.mem_range.2 hv, by simpa using Rch.refl⟩) (fun hm => h2 (of_decide_eq_true (List.mem_filter.1 hm).2))
        omega
      · exact h1
  exact fun v hv => key _ v hv (Nat.le_refl _)
end Fam

namespace Fam
theorem sm_erase {f : Nat → Int} {x : Nat} : ∀ {k : List Nat}, x ∈ k → sm f k = f x + sm f (k.erase x)
  | [], h => by cases h
  | y :: k, h => by
    by_cases e : y = x
    · subst e; rw [List.erase_cons_head]; rfl
    · rw [List.erase_cons_tail (by simpa using e)]
      have := sm_erase (f := f) ((List.mem_cons.1 h).resolve_left (fun h => e h.symm))
      simp only [sm]; omega
theorem sm_same {f : Nat → Int} : ∀ {l k : List Nat}, l.Nodup → k.Nodup → (∀ x, x ∈ l ↔ x ∈ k) → sm f l = sm f k
  | [], k, _, _, h => by
    cases k with
    | nil => rfl
    | cons y k => have := (h y).2 (by simp); cases this
  | x :: l, k, hl, hk, h => by
    rw [List.nodup_cons] at hl
    rw [sm_erase ((h x).1 (by simp))]
    simp only [sm]
    rw [sm_same hl.2 (hk.erase x) (fun y => ?_)]
    rw [hk.mem_erase_iff, ← h y, List.mem_cons]
    constructor
    · exact fun hy => ⟨fun e => hl.1 (e ▸ hy), .inr hy⟩
    · exact fun hy => hy.2.resolve_left hy.1
/-- how the variants and steps of one book go to those of another one -/
structure Carry (N N' : Net) (π π' σ : Nat → Nat) (P : Nat → Prop) : Prop where
  n : N'.n = N.n
  r : N'.r = π N.r
  fore : ∀ v, v < N.n → π v < N.n ∧ π' (π v) = v
  back : ∀ v, v < N.n → π' v < N.n ∧ π (π' v) = v
  stp : ∀ i, i < N.m → P i → σ i < N'.m ∧ N'.fr (σ i) = π (N.fr i) ∧ N'.to (σ i) = π (N.to i)
theorem Carry.rch {N N' : Net} {π π' σ : Nat → Nat} {P : Nat → Prop} (h : Carry N N' π π' σ P) {g g' : Nat → Prop} (hg : ∀ i, g i → i < N.m ∧ P i ∧ g' (σ i)) {a b : Nat} (k : Rch N g a b) : Rch N' g' (π a) (π b) := by
  induction k with
  | refl => exact .refl
  | @step i _ hi ih =>
    obtain ⟨h1, h2, h3⟩ := hg i hi
    obtain ⟨_, e1, e2⟩ := h.stp i h1 h2
    rw [← e2]
    rw [← e1] at ih
    exact .step ih h3
theorem Carry.full {N N' : Net} {π π' σ : Nat → Nat} {P : Nat → Prop} (h : Carry N N' π π' σ P) {g g' : Nat → Prop} (hg : ∀ i, g i → i < N.m ∧ P i ∧ g' (σ i)) (k : Full N g) : Full N' g' := fun v hv => by
  rw [h.n] at hv
  obtain ⟨h1, h2⟩ := h.back v hv
  have := h.rch hg (k _ h1)
  rw [h2, ← h.r] at this
  exact this
def carried (π' σ T : Nat → Nat) (v : Nat) : Nat := σ (T (π' v))
theorem Carry.tree {N N' : Net} {π π' σ : Nat → Nat} {P : Nat → Prop} (h : Carry N N' π π' σ P) (hN : N.r < N.n) {T : Nat → Nat} (hT : Tree N T) (hP : ∀ v, v < N.n → v ≠ N.r → P (T v)) : Tree N' (carried π' σ T) := by
  refine ⟨fun v hv hr => ?_, h.full (fun i hi => ?_) hT.full⟩
  · rw [h.n] at hv
    obtain ⟨h1, h2⟩ := h.back v hv
    have h3 : π' v ≠ N.r := fun e => hr (by rw [h.r, ← e, h2])
    obtain ⟨k1, k2⟩ := hT.to _ h1 h3
    obtain ⟨e1, _, e3⟩ := h.stp _ k1 (hP _ h1 h3)
    exact ⟨e1, by unfold carried; rw [e3, k2, h2]⟩
  · obtain ⟨u, hu, hur, rfl⟩ := hi
    obtain ⟨k1, k2⟩ := h.fore u hu
    refine ⟨(hT.to u hu hur).1, hP u hu hur, π u, by rw [h.n]; exact k1, fun e => ?_, by unfold carried; rw [k2]⟩
    have h5 := (h.fore N.r hN).2
    rw [h.r] at e
    have := congrArg π' e
    rw [k2, h5] at this
    exact hur this
theorem Carry.cost {N N' : Net} {π π' σ : Nat → Nat} {P : Nat → Prop} (h : Carry N N' π π' σ P) (hN : N.r < N.n) (T : Nat → Nat) : cost N' (carried π' σ T) = sm (fun v => if v = N.r then 0 else N'.ch (σ (T v))) (List.range N.n) := by
  unfold Fam.cost
  rw [h.n]
  have h1 : sm (costAt N' (carried π' σ T)) (List.range N.n) = sm (costAt N' (carried π' σ T)) ((List.range N.n).map π) := by
    refine sm_same List.nodup_range ?_ (fun x => ?_)
    · have hp : (List.range N.n).Pairwise fun a b => a ≠ b := List.nodup_range
      rw [List.Nodup, List.pairwise_map]
      refine hp.imp_of_mem fun {a b} ha hb hab e => hab ?_
      rw [← (h.fore a (List.mem_range.1 ha)).2, e, (h.fore b (List.mem_range.1 hb)).2]
    · rw [List.mem_range, List.mem_map]
      constructor
      · exact fun hx => ⟨π' x, List.mem_range.2 (h.back x hx).1, (h.back x hx).2⟩
      · rintro ⟨y, hy, rfl⟩
        exact (h.fore y (List.mem_range.1 hy)).1
  rw [h1, sm_map]
  refine sm_congr fun v hv => ?_
  have hv := List.mem_range.1 hv
  obtain ⟨k1, k2⟩ := h.fore v hv
  unfold costAt carried
  rw [h.r, k2]
  by_cases e : v = N.r
  · rw [if_pos (by rw [e]), if_pos e]
  · rw [if_neg e, if_neg]
    intro e'
    have := congrArg π' e'
    rw [k2, (h.fore N.r hN).2] at this
    exact e this
theorem cost_at (N : Net) (T : Nat → Nat) : cost N T = sm (fun v => if v = N.r then 0 else N.ch (T v)) (List.range N.n) := rfl
theorem cost_congr {N : Net} {T U : Nat → Nat} (h : ∀ v, v < N.n → v ≠ N.r → T v = U v) : cost N T = cost N U := by
  rw [cost_at, cost_at]
  refine sm_congr fun v hv => ?_
  by_cases e : v = N.r
  · rw [if_pos e, if_pos e]
  · rw [if_neg e, if_neg e, h v (List.mem_range.1 hv) e]
theorem Tree.congr {N : Net} {T U : Nat → Nat} (hT : Tree N T) (h : ∀ v, v < N.n → v ≠ N.r → T v = U v) : Tree N U :=
  ⟨fun v hv hr => by rw [← h v hv hr]; exact hT.to v hv hr, hT.full.mono fun i hi => by
    obtain ⟨v, hv, hr, e⟩ := hi
    exact ⟨v, hv, hr, by rw [← h v hv hr]; exact e⟩⟩
/-- a tree with the fewest changes -/
def BestT (N : Net) (T : Nat → Nat) : Prop := Tree N T ∧ ∀ U, Tree N U → cost N T ≤ cost N U
theorem Best.tree {N : Net} {c : Int} (h : Best N c) {T : Nat → Nat} : BestT N T ↔ Tree N T ∧ cost N T = c := by
  obtain ⟨⟨U, hU, e⟩, h2⟩ := h
  constructor
  · rintro ⟨h1, h3⟩
    have := h3 U hU
    have := h2 T h1
    exact ⟨h1, by omega⟩
  · rintro ⟨h1, h3⟩
    exact ⟨h1, fun V hV => by rw [h3]; exact h2 V hV⟩
/-- the tree has step i -/
def Has (N : Net) (T : Nat → Nat) (i : Nat) : Prop := N.to i ≠ N.r ∧ T (N.to i) = i
/-- how certain step i is -/
def GradeIs (N : Net) (i : Nat) (g : Int) : Prop := g = 2 ∧ (∀ T, BestT N T → Has N T i) ∨ g = 0 ∧ (∀ T, BestT N T → ¬ Has N T i) ∨ g = 1 ∧ (∃ T, BestT N T ∧ Has N T i) ∧ ∃ T, BestT N T ∧ ¬ Has N T i
theorem GradeIs.uniq {N : Net} {i : Nat} {g g' : Int} (h : GradeIs N i g) (k : GradeIs N i g') (he : ∃ T, BestT N T) : g = g' := by
  obtain ⟨T, hT⟩ := he
  rcases h with ⟨rfl, h⟩ | ⟨rfl, h⟩ | ⟨rfl, ⟨U, hU, h⟩, V, hV, h'⟩ <;> rcases k with ⟨rfl, k⟩ | ⟨rfl, k⟩ | ⟨rfl, ⟨X, hX, k⟩, Y, hY, k'⟩
  · rfl
  · exact absurd (h T hT) (k T hT)
  · exact absurd (h Y hY) k'
  · exact absurd (k T hT) (h T hT)
  · rfl
  · exact absurd k (h X hX)
  · exact absurd (k V hV) h'
  · exact absurd h (k U hU)
  · rfl
theorem GradeIs.range {N : Net} {i : Nat} {g : Int} (h : GradeIs N i g) : 0 ≤ g ∧ g ≤ 2 := by
  rcases h with ⟨rfl, _⟩ | ⟨rfl, _⟩ | ⟨rfl, _⟩ <;> omega
theorem GradeIs.root {N : Net} {i : Nat} {g : Int} (h : GradeIs N i g) (hr : N.to i = N.r) (he : ∃ T, BestT N T) : g = 0 :=
  h.uniq (.inr (.inl ⟨rfl, fun _ _ k => k.1 hr⟩)) he
theorem GradeIs.two {N : Net} {i : Nat} {g : Int} (h : GradeIs N i g) (e : g = 2) {T : Nat → Nat} (hT : BestT N T) : T (N.to i) = i := by
  rcases h with ⟨_, h⟩ | ⟨rfl, _⟩ | ⟨rfl, _⟩
  · exact (h T hT).2
  · omega
  · omega
theorem GradeIs.none {N : Net} {i : Nat} {g : Int} (h : GradeIs N i g) (e : g = 0) {T : Nat → Nat} (hT : BestT N T) (hr : N.to i ≠ N.r) : T (N.to i) ≠ i := by
  rcases h with ⟨rfl, _⟩ | ⟨_, h⟩ | ⟨rfl, _⟩
  · omega
  · exact fun k => h T hT ⟨hr, k⟩
  · omega
/-- the steps to a variant: one is certain, the others are out; or at least two are open, and none is certain -/
theorem grades_at {N : Net} {gr : Nat → Int} (hg : ∀ i, i < N.m → GradeIs N i (gr i)) (he : ∃ T, BestT N T) {v : Nat} (hv : v < N.n) (hr : v ≠ N.r) :
    (∃ i, i < N.m ∧ N.to i = v ∧ gr i = 2 ∧ ∀ j, j < N.m → N.to j = v → j ≠ i → gr j = 0) ∨ (∃ i j, i < N.m ∧ j < N.m ∧ i ≠ j ∧ N.to i = v ∧ N.to j = v ∧ gr i = 1 ∧ gr j = 1) ∧ ∀ j, j < N.m → N.to j = v → gr j ≠ 2 := by
  obtain ⟨T, hT⟩ := he
  obtain ⟨hi, hto⟩ := hT.1.to v hv hr
  have hhas : Has N T (T v) := ⟨by rw [hto]; exact hr, by rw [hto]⟩
  rcases hg (T v) hi with ⟨e, h⟩ | ⟨e, h⟩ | ⟨e, h1, U, hU, h2⟩
  · refine .inl ⟨T v, hi, hto, e, fun j hj hjv hne => ?_⟩
    refine (hg j hj).uniq (.inr (.inl ⟨rfl, fun U hU k => ?_⟩)) ⟨T, hT⟩
    have a := (h U hU).2
    have b := k.2
    rw [hto] at a
    rw [hjv] at b
    exact hne (b.symm.trans a)
  · exact absurd hhas (h T hT)
  · refine .inr ⟨⟨T v, U v, hi, (hU.1.to v hv hr).1, fun e => h2 ⟨by rw [hto]; exact hr, by rw [hto]; exact e.symm⟩, hto, (hU.1.to v hv hr).2, e, ?_⟩, fun j hj hjv e2 => ?_⟩
    · refine (hg _ (hU.1.to v hv hr).1).uniq (.inr (.inr ⟨rfl, ⟨U, hU, ⟨by rw [(hU.1.to v hv hr).2]; exact hr, by rw [(hU.1.to v hv hr).2]⟩⟩, T, hT, fun k => ?_⟩)) ⟨T, hT⟩
      have := k.2
      rw [(hU.1.to v hv hr).2] at this
      exact h2 ⟨by rw [hto]; exact hr, by rw [hto]; exact this.symm⟩
    · have a := (hg j hj).two e2 hT
      have b := (hg j hj).two e2 hU
      rw [hjv] at a b
      exact h2 ⟨by rw [hto]; exact hr, by rw [hto, b, a]⟩
/-- the largest step must be so large -/
def atMost (N : Net) (k : Int) (i : Nat) : Prop := i < N.m ∧ N.ch i ≤ k
def MostIs (N : Net) (k : Int) : Prop := 0 ≤ k ∧ Full N (atMost N k) ∧ ∀ j, 0 ≤ j → Full N (atMost N j) → k ≤ j
theorem MostIs.uniq {N : Net} {k j : Int} (h : MostIs N k) (h' : MostIs N j) : k = j := by
  have := h.2.2 j h'.1 h'.2.1
  have := h'.2.2 k h.1 h.2.1
  omega
end Fam

namespace Fam
/-- the steps of a list alone -/
def sub (N : Net) (l : List Nat) : Net := ⟨N.n, N.r, l.length, fun i => N.fr (l.getD i 0), fun i => N.to (l.getD i 0), fun i => N.ch (l.getD i 0)⟩
theorem getD_mem {l : List Nat} {i : Nat} (h : i < l.length) : l.getD i 0 ∈ l := by
  rw [List.getD_eq_getElem?_getD, List.getElem?_eq_getElem h]
  exact List.getElem_mem h
theorem getD_idx {l : List Nat} {x : Nat} (h : x ∈ l) : l.idxOf x < l.length ∧ l.getD (l.idxOf x) 0 = x := by
  have h1 := List.idxOf_lt_length_iff.2 h
  refine ⟨h1, ?_⟩
  rw [List.getD_eq_getElem?_getD, List.getElem?_eq_getElem h1]
  simp
theorem sub_out {N : Net} {l : List Nat} (hl : ∀ x ∈ l, x < N.m) : Carry (sub N l) N id id (fun i => l.getD i 0) (fun _ => True) :=
  ⟨rfl, rfl, fun _ h => ⟨h, rfl⟩, fun _ h => ⟨h, rfl⟩, fun _ hi _ => ⟨hl _ (getD_mem hi), rfl, rfl⟩⟩
theorem sub_in (N : Net) (l : List Nat) : Carry N (sub N l) id id (fun i => l.idxOf i) (· ∈ l) :=
  ⟨rfl, rfl, fun _ h => ⟨h, rfl⟩, fun _ h => ⟨h, rfl⟩, fun _ _ hi => ⟨(getD_idx hi).1, congrArg N.fr (getD_idx hi).2, congrArg N.to (getD_idx hi).2⟩⟩
def Uses (N : Net) (l : List Nat) (T : Nat → Nat) : Prop := ∀ v, v < N.n → v ≠ N.r → T v ∈ l
theorem sub_tree_out {N : Net} (hr : N.r < N.n) {l : List Nat} (hl : ∀ x ∈ l, x < N.m) {T : Nat → Nat} (h : Tree (sub N l) T) : ∃ U, Tree N U ∧ Uses N l U ∧ cost N U = cost (sub N l) T :=
  ⟨_, (sub_out hl).tree hr h (fun _ _ _ => trivial), fun v hv hvr => getD_mem (h.to v hv hvr).1, (sub_out hl).cost hr T⟩
theorem sub_tree_in {N : Net} (hr : N.r < N.n) {l : List Nat} {T : Nat → Nat} (h : Tree N T) (hu : Uses N l T) : ∃ U, Tree (sub N l) U ∧ cost (sub N l) U = cost N T := by
  refine ⟨_, (sub_in N l).tree hr h hu, ?_⟩
  rw [(sub_in N l).cost hr T, cost_at]
  refine sm_congr fun v hv => ?_
  by_cases e : v = N.r
  · rw [if_pos e, if_pos e]
  · rw [if_neg e, if_neg e]
    exact congrArg N.ch (getD_idx (hu v (List.mem_range.1 hv) e)).2
/-- the fewest changes, or none -/
def Cheap (N : Net) : Option Int → Prop
  | none => ∀ T, ¬ Tree N T
  | some c => Best N c
def gradeV (c : Int) (w o : Option Int) : Int := match w with
  | none => 0
  | some n => if c < n then 0 else if o = some c then 1 else 2
theorem sub_cheap {N : Net} (hr : N.r < N.n) {l : List Nat} (hl : ∀ x ∈ l, x < N.m) {c : Int} (hc : Best N c) {o : Option Int} (h : Cheap (sub N l) o) : (∃ n, o = some n ∧ c ≤ n) ∨ o = none := by
  cases o with
  | none => exact .inr rfl
  | some n =>
    refine .inl ⟨n, rfl, ?_⟩
    obtain ⟨⟨T, hT, e⟩, _⟩ := h
    obtain ⟨U, hU, _, e'⟩ := sub_tree_out hr hl hT
    have := hc.2 U hU
    omega
theorem sub_hit {N : Net} (hr : N.r < N.n) {l : List Nat} (hl : ∀ x ∈ l, x < N.m) {c : Int} (hc : Best N c) {o : Option Int} (h : Cheap (sub N l) o) : o = some c ↔ ∃ T, BestT N T ∧ Uses N l T := by
  constructor
  · rintro rfl
    obtain ⟨⟨T, hT, e⟩, _⟩ := h
    obtain ⟨U, hU, hu, e'⟩ := sub_tree_out hr hl hT
    exact ⟨U, hc.tree.2 ⟨hU, by omega⟩, hu⟩
  · rintro ⟨T, hT, hu⟩
    obtain ⟨h1, h2⟩ := hc.tree.1 hT
    obtain ⟨U, hU, e⟩ := sub_tree_in hr h1 hu
    cases o with
    | none => exact absurd hU (h U)
    | some n =>
      have a := h.2 U hU
      rcases sub_cheap hr hl hc h with ⟨m, e', hm⟩ | e'
      · injection e' with e'
        congr 1; omega
      · cases e'
/-- the steps that are tried with step i, and without it -/
def withI (N : Net) (i k : Nat) : Bool := decide (k = i) || !decide (N.to k = N.to i)
def lackI (i k : Nat) : Bool := !decide (k = i)
def withL (N : Net) (i : Nat) : List Nat := (List.range N.m).filter (withI N i)
def lackL (N : Net) (i : Nat) : List Nat := (List.range N.m).filter (lackI i)
theorem range_lt {N : Net} {p : Nat → Bool} : ∀ x ∈ (List.range N.m).filter p, x < N.m := fun _ hx => List.mem_range.1 (List.mem_filter.1 hx).1
theorem uses_with {N : Net} {T : Nat → Nat} (hT : Tree N T) {i : Nat} (hi : N.to i ≠ N.r) (hin : N.to i < N.n) : Uses N (withL N i) T ↔ Has N T i := by
  constructor
  · intro h
    have hm := (List.mem_filter.1 (h _ hin hi)).2
    unfold withI at hm
    rcases Bool.or_eq_true _ _ ▸ hm with e | e
    · exact ⟨hi, of_decide_eq_true e⟩
    · rw [(hT.to _ hin hi).2] at e; simp at e
  · rintro ⟨_, h⟩ v hv hr
    refine List.mem_filter.2 ⟨List.mem_range.2 (hT.to v hv hr).1, ?_⟩
    unfold withI
    rw [(hT.to v hv hr).2]
    by_cases e : v = N.to i
    · subst e; simp [h]
    · simp [e]
theorem uses_lack {N : Net} {T : Nat → Nat} (hT : Tree N T) {i : Nat} (hi : N.to i ≠ N.r) (hin : N.to i < N.n) : Uses N (lackL N i) T ↔ ¬ Has N T i := by
  constructor
  · intro h k
    have hm := (List.mem_filter.1 (h _ hin hi)).2
    unfold lackI at hm
    rw [k.2] at hm; simp at hm
  · intro h v hv hr
    refine List.mem_filter.2 ⟨List.mem_range.2 (hT.to v hv hr).1, ?_⟩
    unfold lackI
    have : T v ≠ i := fun e => h ⟨hi, by rw [← e, (hT.to v hv hr).2, e]⟩
    simp [this]
theorem grade_of {N : Net} (hr : N.r < N.n) {c : Int} (hc : Best N c) {i : Nat} (hi : N.to i ≠ N.r) (hin : N.to i < N.n) {w o : Option Int} (hw : Cheap (sub N (withL N i)) w) (ho : Cheap (sub N (lackL N i)) o) : GradeIs N i (gradeV c w o) := by
  have a := sub_hit hr range_lt hc hw
  have b := sub_hit hr range_lt hc ho
  unfold gradeV
  have no : ¬ (∃ T, BestT N T ∧ Uses N (withL N i) T) → GradeIs N i 0 := fun h => .inr (.inl ⟨rfl, fun T hT k => h ⟨T, hT, (uses_with hT.1 hi hin).2 k⟩⟩)
  rcases sub_cheap hr range_lt hc hw with ⟨n, rfl, hn⟩ | rfl
  · dsimp only
    by_cases e : c < n
    · rw [if_pos e]
      exact no fun h => by have := a.2 h; injection this with this; omega
    · rw [if_neg e]
      have : n = c := by omega
      subst this
      obtain ⟨T, hT, hu⟩ := a.1 rfl
      by_cases f : o = some n
      · rw [if_pos f]
        obtain ⟨U, hU, hv⟩ := b.1 f
        exact .inr (.inr ⟨rfl, ⟨T, hT, (uses_with hT.1 hi hin).1 hu⟩, U, hU, (uses_lack hU.1 hi hin).1 hv⟩)
      · rw [if_neg f]
        refine .inl ⟨rfl, fun U hU => ?_⟩
        by_cases k : Has N U i
        · exact k
        · exact absurd (b.2 ⟨U, hU, (uses_lack hU.1 hi hin).2 k⟩) f
  · dsimp only
    exact no fun h => by have := a.2 h; cases this
/-- the same variants; each step is there, with at most as many changes -/
structure Wider (N N' : Net) : Prop where
  n : N'.n = N.n
  r : N'.r = N.r
  stp : ∀ i, i < N.m → i < N'.m ∧ N'.fr i = N.fr i ∧ N'.to i = N.to i ∧ N'.ch i ≤ N.ch i
theorem Wider.carry {N N' : Net} (h : Wider N N') : Carry N N' id id id (fun _ => True) := ⟨h.n, h.r, fun _ h => ⟨h, rfl⟩, fun _ h => ⟨h, rfl⟩, fun i hi _ => ⟨(h.stp i hi).1, (h.stp i hi).2.1, (h.stp i hi).2.2.1⟩⟩
theorem Wider.best {N N' : Net} (h : Wider N N') (hr : N.r < N.n) {c c' : Int} (hc : Best N c) (hc' : Best N' c') : c' ≤ c := by
  obtain ⟨⟨T, hT, e⟩, _⟩ := hc
  have h1 := hc'.2 _ (h.carry.tree hr hT fun _ _ _ => trivial)
  rw [h.carry.cost hr T] at h1
  refine Int.le_trans h1 ?_
  rw [← e, cost_at]
  refine sm_le fun v hv => ?_
  by_cases k : v = N.r
  · rw [if_pos k, if_pos k]; exact Int.le_refl _
  · rw [if_neg k, if_neg k]
    exact (h.stp _ (hT.to v (List.mem_range.1 hv) k).1).2.2.2
theorem Wider.most {N N' : Net} (h : Wider N N') {k k' : Int} (hk : MostIs N k) (hk' : MostIs N' k') : k' ≤ k := by
  refine hk'.2.2 k hk.1 (h.carry.full (fun i hi => ⟨hi.1, trivial, ?_⟩) hk.2.1)
  obtain ⟨h1, _, _, h4⟩ := h.stp i hi.1
  exact ⟨h1, Int.le_trans h4 hi.2⟩
/-- the steps to one variant have more changes by as much -/
structure Raised (N N' : Net) (v : Nat) (d : Int) : Prop where
  n : N'.n = N.n
  r : N'.r = N.r
  m : N'.m = N.m
  stp : ∀ i, i < N.m → N'.fr i = N.fr i ∧ N'.to i = N.to i ∧ N'.ch i = N.ch i + if N.to i = v then d else 0
theorem Raised.symm {N N' : Net} {v : Nat} {d : Int} (h : Raised N N' v d) : Raised N' N v (-d) := ⟨h.n.symm, h.r.symm, h.m.symm, fun i hi => by
  rw [h.m] at hi
  obtain ⟨h1, h2, h3⟩ := h.stp i hi
  refine ⟨h1.symm, h2.symm, ?_⟩
  rw [h3, h2]
  split <;> omega⟩
theorem Raised.carry {N N' : Net} {v : Nat} {d : Int} (h : Raised N N' v d) : Carry N N' id id id (fun _ => True) := ⟨h.n, h.r, fun _ h => ⟨h, rfl⟩, fun _ h => ⟨h, rfl⟩, fun i hi _ => ⟨by rw [h.m]; exact hi, (h.stp i hi).1, (h.stp i hi).2.1⟩⟩
theorem Raised.tree {N N' : Net} {v : Nat} {d : Int} (h : Raised N N' v d) (hr : N.r < N.n) {T : Nat → Nat} (hT : Tree N T) : Tree N' T := h.carry.tree hr hT fun _ _ _ => trivial
theorem Raised.cost_ {N N' : Net} {v : Nat} {d : Int} (h : Raised N N' v d) (hr : N.r < N.n) (hv : v < N.n) (hvr : v ≠ N.r) {T : Nat → Nat} (hT : Tree N T) : cost N' T = cost N T + d := by
  have h1 := h.carry.cost hr T
  have h2 : cost N' (carried id id T) = cost N' T := rfl
  rw [h2] at h1
  rw [h1, cost_at]
  have h3 : sm (fun u => if u = N.r then 0 else N'.ch (id (T u))) (List.range N.n) = sm (fun u => (if u = N.r then 0 else N.ch (T u)) + if u = v then d else 0) (List.range N.n) := by
    refine sm_congr fun u hu => ?_
    have hu := List.mem_range.1 hu
    by_cases k : u = N.r
    · rw [if_pos k, if_pos k, if_neg (by intro e; subst e; exact hvr k)]; rfl
    · rw [if_neg k, if_neg k]
      obtain ⟨k1, k2⟩ := hT.to u hu k
      have := (h.stp _ k1).2.2
      rw [k2] at this
      exact this
  rw [h3, sm_add, sm_one (y := v) List.nodup_range (List.mem_range.2 hv) (fun x _ hx => if_neg hx), if_pos rfl]
theorem Raised.best {N N' : Net} {v : Nat} {d : Int} (h : Raised N N' v d) (hr : N.r < N.n) (hv : v < N.n) (hvr : v ≠ N.r) {c : Int} (hc : Best N c) : Best N' (c + d) := by
  obtain ⟨⟨T, hT, e⟩, h2⟩ := hc
  refine ⟨⟨T, h.tree hr hT, by rw [h.cost_ hr hv hvr hT, e]⟩, fun U hU => ?_⟩
  have hU' : Tree N U := h.symm.tree (by rw [h.n, h.r]; exact hr) hU
  rw [h.cost_ hr hv hvr hU']
  have := h2 U hU'
  omega
theorem Raised.bestT {N N' : Net} {v : Nat} {d : Int} (h : Raised N N' v d) (hr : N.r < N.n) (hv : v < N.n) (hvr : v ≠ N.r) {T : Nat → Nat} (hT : BestT N T) : BestT N' T :=
  ⟨h.tree hr hT.1, fun U hU => by
    have hU' : Tree N U := h.symm.tree (by rw [h.n, h.r]; exact hr) hU
    rw [h.cost_ hr hv hvr hU', h.cost_ hr hv hvr hT.1]
    have := hT.2 U hU'
    omega⟩
theorem Raised.grade {N N' : Net} {v : Nat} {d : Int} (h : Raised N N' v d) (hr : N.r < N.n) (hv : v < N.n) (hvr : v ≠ N.r) {i : Nat} (hi : i < N.m) {g : Int} (hg : GradeIs N i g) : GradeIs N' i g := by
  have b1 : ∀ T, BestT N T → BestT N' T := fun T hT => h.bestT hr hv hvr hT
  have b2 : ∀ T, BestT N' T → BestT N T := fun T hT => h.symm.bestT (by rw [h.n, h.r]; exact hr) (by rw [h.n]; exact hv) (by rw [h.r]; exact hvr) hT
  have e : ∀ T, Has N' T i ↔ Has N T i := fun T => by unfold Has; rw [(h.stp i hi).2.1, h.r]
  rcases hg with ⟨rfl, k⟩ | ⟨rfl, k⟩ | ⟨rfl, ⟨T, hT, k⟩, U, hU, k'⟩
  · exact .inl ⟨rfl, fun T hT => (e T).2 (k T (b2 T hT))⟩
  · exact .inr (.inl ⟨rfl, fun T hT => fun x => k T (b2 T hT) ((e T).1 x)⟩)
  · exact .inr (.inr ⟨rfl, ⟨T, b1 T hT, (e T).2 k⟩, U, b1 U hU, fun x => k' ((e U).1 x)⟩)
/-- two books that are one, but for numbers -/
structure Iso (N N' : Net) (π π' σ σ' : Nat → Nat) : Prop where
  go : Carry N N' π π' σ (fun _ => True)
  come : Carry N' N π' π σ' (fun _ => True)
  ch : ∀ i, i < N.m → N'.ch (σ i) = N.ch i
  ch' : ∀ i, i < N'.m → N.ch (σ' i) = N'.ch i
  bk : ∀ i, i < N'.m → σ (σ' i) = i
  fb : ∀ i, i < N.m → σ' (σ i) = i
theorem carry_cost {N N' : Net} {π π' σ : Nat → Nat} (h : Carry N N' π π' σ (fun _ => True)) (hr : N.r < N.n) (hc : ∀ i, i < N.m → N'.ch (σ i) = N.ch i) {T : Nat → Nat} (hT : Tree N T) : cost N' (carried π' σ T) = cost N T := by
  rw [h.cost hr T, cost_at]
  refine sm_congr fun v hv => ?_
  by_cases k : v = N.r
  · rw [if_pos k, if_pos k]
  · rw [if_neg k, if_neg k, hc _ (hT.to v (List.mem_range.1 hv) k).1]
theorem Iso.best {N N' : Net} {π π' σ σ' : Nat → Nat} (h : Iso N N' π π' σ σ') (hr : N.r < N.n) (hr' : N'.r < N'.n) {c : Int} (hc : Best N c) : Best N' c := by
  obtain ⟨⟨T, hT, e⟩, h2⟩ := hc
  refine ⟨⟨_, h.go.tree hr hT fun _ _ _ => trivial, by rw [carry_cost h.go hr h.ch hT, e]⟩, fun U hU => ?_⟩
  have := h2 _ (h.come.tree hr' hU fun _ _ _ => trivial)
  rwa [carry_cost h.come hr' h.ch' hU] at this
theorem Iso.most {N N' : Net} {π π' σ σ' : Nat → Nat} (h : Iso N N' π π' σ σ') {k : Int} (hk : MostIs N k) : MostIs N' k := by
  refine ⟨hk.1, h.go.full (fun i hi => ⟨hi.1, trivial, (h.go.stp i hi.1 trivial).1, by rw [h.ch i hi.1]; exact hi.2⟩) hk.2.1, fun j hj hf => ?_⟩
  exact hk.2.2 j hj (h.come.full (fun i hi => ⟨hi.1, trivial, (h.come.stp i hi.1 trivial).1, by rw [h.ch' i hi.1]; exact hi.2⟩) hf)
theorem Iso.grade {N N' : Net} {π π' σ σ' : Nat → Nat} (h : Iso N N' π π' σ σ') (hr : N.r < N.n) (hr' : N'.r < N'.n) {c : Int} (hc : Best N c) {j : Nat} (hj : j < N'.m) (htj : N'.to j < N'.n) {g : Int} (hg : GradeIs N (σ' j) g) : GradeIs N' j g := by
  have hc' := h.best hr hr' hc
  have b1 : ∀ T, BestT N T → BestT N' (carried π' σ T) := fun T hT => by
    obtain ⟨k1, k2⟩ := hc.tree.1 hT
    exact hc'.tree.2 ⟨h.go.tree hr k1 fun _ _ _ => trivial, by rw [carry_cost h.go hr h.ch k1, k2]⟩
  have b2 : ∀ T, BestT N' T → BestT N (carried π σ' T) := fun T hT => by
    obtain ⟨k1, k2⟩ := hc'.tree.1 hT
    exact hc.tree.2 ⟨h.come.tree hr' k1 fun _ _ _ => trivial, by rw [carry_cost h.come hr' h.ch' k1, k2]⟩
  obtain ⟨s1, s2, s3⟩ := h.come.stp j hj trivial
  have hroot : N.to (σ' j) ≠ N.r ↔ N'.to j ≠ N'.r := by
    rw [s3, h.come.r]
    refine not_congr ⟨fun e => ?_, fun e => by rw [e]⟩
    have := congrArg π e
    rw [(h.come.fore _ htj).2, (h.come.fore _ hr').2] at this
    exact this
  have hto : N.to (σ' j) < N.n := by
    rw [s3, h.come.n]
    exact (h.come.fore _ htj).1
  have e1 : ∀ T, Tree N T → (Has N' (carried π' σ T) j ↔ Has N T (σ' j)) := fun T hT => by
    unfold Has carried
    rw [hroot, ← s3]
    constructor
    · rintro ⟨k1, k2⟩
      refine ⟨k1, ?_⟩
      have := congrArg σ' k2
      rwa [h.fb _ (hT.to _ hto (hroot.2 k1)).1] at this
    · rintro ⟨k1, k2⟩
      exact ⟨k1, by rw [k2, h.bk j hj]⟩
  have e2 : ∀ T, Tree N' T → (Has N (carried π σ' T) (σ' j) ↔ Has N' T j) := fun T hT => by
    unfold Has carried
    rw [hroot, s3, (h.come.fore _ htj).2]
    constructor
    · rintro ⟨k1, k2⟩
      refine ⟨k1, ?_⟩
      have := congrArg σ k2
      rwa [h.bk j hj, h.bk _ (hT.to _ htj k1).1] at this
    · rintro ⟨k1, k2⟩
      exact ⟨k1, by rw [k2]⟩
  rcases hg with ⟨rfl, k⟩ | ⟨rfl, k⟩ | ⟨rfl, ⟨T, hT, k⟩, U, hU, k'⟩
  · exact .inl ⟨rfl, fun T hT => (e2 T hT.1).1 (k _ (b2 T hT))⟩
  · exact .inr (.inl ⟨rfl, fun T hT x => k _ (b2 T hT) ((e2 T hT.1).2 x)⟩)
  · exact .inr (.inr ⟨rfl, ⟨_, b1 T hT, (e1 T hT.1).2 k⟩, _, b1 U hU, fun x => k' ((e1 U hU.1).1 x)⟩)
end Fam

namespace Fam
open Classical
/-- v comes from a by at most k steps of g -/
inductive Rk (N : Net) (g : Nat → Prop) (a : Nat) : Nat → Nat → Prop
  | zero {k : Nat} : Rk N g a k a
  | step {k i : Nat} : Rk N g a k (N.fr i) → g i → Rk N g a (k + 1) (N.to i)
theorem Rk.rch {N : Net} {g : Nat → Prop} {a k v : Nat} (h : Rk N g a k v) : Rch N g a v := by
  induction h with
  | zero => exact .refl
  | step _ hi ih => exact .step ih hi
theorem Rk.mono {N : Net} {g : Nat → Prop} {a k v : Nat} (h : Rk N g a k v) : ∀ {j : Nat}, k ≤ j → Rk N g a j v := by
  induction h with
  | zero => exact fun _ => .zero
  | @step k i _ hi ih =>
    intro j hj
    cases j with
    | zero => omega
    | succ j => exact .step (ih (by omega)) hi
theorem within {N : Net} {g : Nat → Prop} (hg : ∀ i, g i → N.to i < N.n) {a : Nat} (ha : a < N.n) {v : Nat} (h : Rch N g a v) : Rk N g a N.n v := by
  have inn : ∀ k v, Rk N g a k v → v < N.n := fun k v h => h.rch.lt hg ha
  have ex : ∃ k, k < N.n ∧ ∀ v, Rk N g a (k + 1) v → Rk N g a k v := by
    by_cases c : ∃ k, k < N.n ∧ ∀ v, Rk N g a (k + 1) v → Rk N g a k v
    · exact c
    · have key : ∀ k, k ≤ N.n → k + 1 ≤ ((List.range N.n).filter fun v => decide (Rk N g a k v)).length := by
        intro k
        induction k with
        | zero =>
          intro _
          exact List.length_pos_of_mem (List.mem_filter.2 ⟨List.mem_range.2 ha, by simpa using Rk.zero⟩ : a ∈ _)
        | succ k ih =>
          intro hk
          have h1 := ih (by omega)
          have h2 : ∃ v, Rk N g a (k + 1) v ∧ ¬ Rk N g a k v := by
            by_cases d : ∃ v, Rk N g a (k + 1) v ∧ ¬ Rk N g a k v
            · exact d
            · refine absurd ⟨k, by omega, fun v hv => ?_⟩ c
              by_cases e : Rk N g a k v
              · exact e
              · exact absurd ⟨v, hv, e⟩ d
          obtain ⟨v, hv, hn⟩ := h2
          have := nodup_lt (a := (List.range N.n).filter fun v => decide (Rk N g a k v)) (b := (List.range N.n).filter fun v => decide (Rk N g a (k + 1) v)) (List.nodup_range.sublist List.filter_sublist) (fun x hx => by
            obtain ⟨h3, h4⟩ := List.mem_filter.1 hx
            exact List.mem_filter.2 ⟨h3, by simpa using (of_decide_eq_true h4).mono (Nat.le_succ k)⟩) (y := v) (List.mem_filter.2 ⟨List.mem_range.2 (inn _ _ hv), by simpa using hv⟩) (fun hm => hn (of_decide_eq_true (List.mem_filter.1 hm).2))
          omega
      have := key N.n (Nat.le_refl _)
      have h2 := List.length_filter_le (fun v => decide (Rk N g a N.n v)) (List.range N.n)
      rw [List.length_range] at h2
      omega
  obtain ⟨k, hk, hc⟩ := ex
  have all : Rk N g a k v := by
    clear hk
    induction h with
    | refl => exact .zero
    | step _ hi ih => exact hc _ (.step ih hi)
  exact all.mono (by omega)
/-- one step back -/
def par (N : Net) (T : Nat → Nat) (v : Nat) : Nat := if v = N.r then v else N.fr (T v)
def back (N : Net) (T : Nat → Nat) : Nat → Nat → Nat
  | 0, v => v
  | k + 1, v => back N T k (par N T v)
theorem back_root (N : Net) (T : Nat → Nat) : ∀ k, back N T k N.r = N.r
  | 0 => rfl
  | k + 1 => by
    show back N T k (par N T N.r) = N.r
    unfold par; rw [if_pos rfl]; exact back_root N T k
theorem back_succ (N : Net) (T : Nat → Nat) : ∀ k v, back N T (k + 1) v = par N T (back N T k v)
  | 0, _ => rfl
  | k + 1, v => back_succ N T k (par N T v)
theorem back_more {N : Net} {T : Nat → Nat} {v : Nat} : ∀ {k j : Nat}, back N T k v = N.r → k ≤ j → back N T j v = N.r
  | k, j, h, hj => by
    induction j with
    | zero => have : k = 0 := by omega
              subst this; exact h
    | succ j ih =>
      by_cases e : k = j + 1
      · subst e; exact h
      · rw [back_succ, ih (by omega)]; unfold par; rw [if_pos rfl]
/-- the numbers are steps to their variants -/
def Goes (N : Net) (T : Nat → Nat) : Prop := ∀ v, v < N.n → v ≠ N.r → T v < N.m ∧ N.to (T v) = v
theorem back_rch {N : Net} {T : Nat → Nat} (hN : N.Ok) (hT : Goes N T) : ∀ k v, v < N.n → back N T k v = N.r → Rch N (stepsOf N T) N.r v
  | 0, v, _, h => by
    have : v = N.r := h
    subst this; exact .refl
  | k + 1, v, hv, h => by
    by_cases e : v = N.r
    · subst e; exact .refl
    · have h1 : par N T v = N.fr (T v) := by unfold par; rw [if_neg e]
      obtain ⟨k1, k2⟩ := hT v hv e
      have h2 : back N T k (N.fr (T v)) = N.r := by rw [← h1]; exact h
      have := Rch.step (back_rch hN hT k _ (hN.frm _ k1) h2) ⟨v, hv, e, rfl⟩
      rwa [k2] at this
theorem rch_back {N : Net} {T : Nat → Nat} (hT : Goes N T) {k v : Nat} (h : Rk N (stepsOf N T) N.r k v) : back N T k v = N.r := by
  induction h with
  | zero => exact back_root N T _
  | @step k i _ hi ih =>
    obtain ⟨u, hu, hur, rfl⟩ := hi
    rw [(hT u hu hur).2]
    show back N T k (par N T u) = N.r
    unfold par
    rw [if_neg hur]; exact ih
/-- a tree is told by going back as often as there are variants, or more often -/
theorem tree_iff {N : Net} {T : Nat → Nat} (hN : N.Ok) (hT : Goes N T) {c : Nat} (hc : N.n ≤ c) : Tree N T ↔ ∀ v, v < N.n → back N T c v = N.r := by
  constructor
  · intro h v hv
    refine back_more (rch_back hT (within (fun i hi => ?_) hN.root (h.full v hv))) hc
    obtain ⟨u, hu, hur, rfl⟩ := hi
    exact hN.tom _ (hT u hu hur).1
  · exact fun h => ⟨hT, fun v hv => back_rch hN hT c v hv (h v hv)⟩
/-- a set that is never left -/
theorem rch_closed {N : Net} {g : Nat → Prop} {a : Nat} {C : Nat → Prop} (ha : C a) (hc : ∀ i, g i → C (N.fr i) → C (N.to i)) {v : Nat} (h : Rch N g a v) : C v := by
  induction h with
  | refl => exact ha
  | step _ hi ih => exact hc _ hi ih
end Fam

namespace Fam
open Classical
/-- a list of numbers as a tree: the number of the step to each variant -/
def treeF (t : List Int) (v : Nat) : Nat := (t.getD v 0).toNat
/-- the numbers that a list can have at a place -/
def intoL (N : Net) (v : Nat) : List Int := ((List.range N.m).filter fun i => decide (N.to i = v)).map fun i : Nat => (i : Int)
def optsL (N : Net) (v : Nat) : List Int := if v = N.r then [-1] else intoL N v
def prodL (N : Net) : Nat → List (List Int)
  | 0 => [[]]
  | k + 1 => (prodL N k).flatMap fun l => (optsL N k).map fun s => l ++ [s]
theorem getD_snoc {l : List Int} {s : Int} {v : Nat} : (l ++ [s]).getD v 0 = if v < l.length then l.getD v 0 else if v = l.length then s else 0 := by
  by_cases h : v < l.length
  · rw [if_pos h, List.getD_eq_getElem?_getD, List.getD_eq_getElem?_getD, List.getElem?_append_left h]
  · rw [if_neg h]
    by_cases e : v = l.length
    · subst e; rw [if_pos rfl]; simp
    · rw [if_neg e, List.getD_eq_getElem?_getD, List.getElem?_eq_none (by simp; omega)]; rfl
theorem mem_prodL (N : Net) : ∀ (k : Nat) (t : List Int), t ∈ prodL N k ↔ t.length = k ∧ ∀ v, v < k → t.getD v 0 ∈ optsL N v
  | 0, t => by
    show t ∈ [[]] ↔ _
    rw [List.mem_singleton]
    constructor
    · rintro rfl; exact ⟨rfl, fun v hv => absurd hv (by omega)⟩
    · exact fun h => List.eq_nil_of_length_eq_zero h.1
  | k + 1, t => by
    show t ∈ (prodL N k).flatMap _ ↔ _
    rw [List.mem_flatMap]
    constructor
    · rintro ⟨l, hl, ht⟩
      obtain ⟨s, hs, rfl⟩ := List.mem_map.1 ht
      obtain ⟨h1, h2⟩ := (mem_prodL N k l).1 hl
      refine ⟨by simp [h1], fun v hv => ?_⟩
      rw [getD_snoc, h1]
      by_cases e : v < k
      · rw [if_pos e]; exact h2 v e
      · have : v = k := by omega
        subst this
        rw [if_neg e, if_pos rfl]; exact hs
    · rintro ⟨h1, h2⟩
      have hne : t ≠ [] := by intro e; subst e; simp at h1
      have e := (List.dropLast_concat_getLast hne).symm
      generalize t.dropLast = l at e
      generalize t.getLast hne = s at e
      subst e
      have hl : l.length = k := by simpa using h1
      refine ⟨l, (mem_prodL N k l).2 ⟨hl, fun v hv => ?_⟩, List.mem_map.2 ⟨s, ?_, rfl⟩⟩
      · have := h2 v (by omega)
        rwa [getD_snoc, if_pos (by omega)] at this
      · have := h2 k (by omega)
        rwa [getD_snoc, if_neg (by omega), if_pos hl.symm] at this
theorem mem_intoL {N : Net} {v : Nat} {s : Int} : s ∈ intoL N v ↔ ∃ i : Nat, s = i ∧ i < N.m ∧ N.to i = v := by
  unfold intoL
  rw [List.mem_map]
  constructor
  · rintro ⟨i, hi, rfl⟩
    obtain ⟨h1, h2⟩ := List.mem_filter.1 hi
    exact ⟨i, rfl, List.mem_range.1 h1, of_decide_eq_true h2⟩
  · rintro ⟨i, rfl, h1, h2⟩
    exact ⟨i, List.mem_filter.2 ⟨List.mem_range.2 h1, by simpa using h2⟩, rfl⟩
/-- a list of numbers that is a tree -/
def TreeL (N : Net) (t : List Int) : Prop := t.length = N.n ∧ t.getD N.r 0 = -1 ∧ (∀ v, v < N.n → v ≠ N.r → 0 ≤ t.getD v 0) ∧ Tree N (treeF t)
theorem TreeL.mem {N : Net} {t : List Int} (h : TreeL N t) : t ∈ prodL N N.n := by
  refine (mem_prodL N N.n t).2 ⟨h.1, fun v hv => ?_⟩
  unfold optsL
  by_cases e : v = N.r
  · rw [if_pos e, e, h.2.1]; simp
  · rw [if_neg e]
    obtain ⟨h1, h2⟩ := h.2.2.2.to v hv e
    have h3 := h.2.2.1 v hv e
    unfold treeF at h1 h2
    exact mem_intoL.2 ⟨(t.getD v 0).toNat, by omega, h1, h2⟩
/-- the list of a tree -/
def listF (N : Net) (T : Nat → Nat) : List Int := (List.range N.n).map fun v => if v = N.r then -1 else (T v : Int)
theorem listF_at {N : Net} {T : Nat → Nat} {v : Nat} (hv : v < N.n) : (listF N T).getD v 0 = if v = N.r then -1 else (T v : Int) := by
  unfold listF
  rw [List.getD_eq_getElem?_getD, List.getElem?_map, List.getElem?_range hv]; rfl
theorem listF_tree {N : Net} (hr : N.r < N.n) {T : Nat → Nat} (h : Tree N T) : TreeL N (listF N T) ∧ ∀ v, v < N.n → v ≠ N.r → treeF (listF N T) v = T v := by
  have e : ∀ v, v < N.n → v ≠ N.r → treeF (listF N T) v = T v := fun v hv hvr => by
    unfold treeF; rw [listF_at hv, if_neg hvr]; simp
  refine ⟨⟨by unfold listF; simp, by rw [listF_at hr, if_pos rfl], fun v hv hvr => by rw [listF_at hv, if_neg hvr]; omega, h.congr fun v hv hvr => (e v hv hvr).symm⟩, e⟩
noncomputable def treesL (N : Net) : List (List Int) := (prodL N N.n).filter fun t => decide (TreeL N t)
theorem mem_treesL {N : Net} {t : List Int} : t ∈ treesL N ↔ TreeL N t := by
  unfold treesL
  rw [List.mem_filter]
  exact ⟨fun h => of_decide_eq_true h.2, fun h => ⟨h.mem, by simpa using h⟩⟩
def costL (N : Net) (t : List Int) : Int := cost N (treeF t)
/-- the fewest changes so far, and the lists that have them -/
def bestGo (c : List Int → Int) : List (List Int) → Int × List (List Int) → Int × List (List Int)
  | [], s => s
  | t :: l, s => bestGo c l (if s.1 < 0 ∨ c t < s.1 then (c t, [t]) else if c t = s.1 then (s.1, s.2 ++ [t]) else s)
theorem snoc_ind {α : Type} {P : List α → Prop} (h0 : P []) (h1 : ∀ l x, P l → P (l ++ [x])) (l : List α) : P l := by
  have key : ∀ l : List α, P l.reverse := fun l => by
    induction l with
    | nil => exact h0
    | cons x l ih => rw [List.reverse_cons]; exact h1 _ _ ih
  have := key l.reverse
  rwa [List.reverse_reverse] at this
theorem bestGo_snoc (c : List Int → Int) (x : List Int) : ∀ (l : List (List Int)) (s : Int × List (List Int)), bestGo c (l ++ [x]) s = (if (bestGo c l s).1 < 0 ∨ c x < (bestGo c l s).1 then (c x, [x]) else if c x = (bestGo c l s).1 then ((bestGo c l s).1, (bestGo c l s).2 ++ [x]) else bestGo c l s)
  | [], _ => rfl
  | _ :: l, _ => bestGo_snoc c x l _
/-- what is kept: just those with the fewest changes, in their order -/
theorem bestGo_is {c : List Int → Int} {l : List (List Int)} (hc : ∀ t ∈ l, 0 ≤ c t) (hne : l ≠ []) :
    (∃ t ∈ l, c t = (bestGo c l (-1, [])).1) ∧ (∀ t ∈ l, (bestGo c l (-1, [])).1 ≤ c t) ∧ (bestGo c l (-1, [])).2 = l.filter fun t => decide (c t = (bestGo c l (-1, [])).1) := by
  induction l using snoc_ind with
  | h0 => exact absurd rfl hne
  | h1 l x ih =>
    rw [bestGo_snoc]
    have hx := hc x (by simp)
    by_cases hl : l = []
    · subst hl
      show _ ∧ _ ∧ _
      simp [bestGo]
    · obtain ⟨⟨t, ht, e⟩, h2, h3⟩ := ih (fun t ht => hc t (by simp [ht])) hl
      have h0 := hc t (by simp [ht])
      generalize bestGo c l (-1, []) = s at e h2 h3 ⊢
      obtain ⟨b, o⟩ := s
      dsimp only at e h2 h3 ⊢
      by_cases k : b < 0 ∨ c x < b
      · rw [if_pos k]
        have k : c x < b := by omega
        refine ⟨⟨x, by simp, rfl⟩, fun u hu => ?_, ?_⟩
        · rcases List.mem_append.1 hu with hu | hu
          · have := h2 u hu; dsimp only; omega
          · rw [List.mem_singleton] at hu; subst hu; exact Int.le_refl _
        · dsimp only
          rw [List.filter_append, List.filter_eq_nil_iff.2 (fun u hu => by have := h2 u hu; simp; omega)]
          simp
      · rw [if_neg k]
        by_cases j : c x = b
        · rw [if_pos j]
          refine ⟨⟨x, by simp, j⟩, fun u hu => ?_, ?_⟩
          · rcases List.mem_append.1 hu with hu | hu
            · exact h2 u hu
            · rw [List.mem_singleton] at hu; subst hu; dsimp only; omega
          · dsimp only
            rw [List.filter_append, h3]
            simp [j]
        · rw [if_neg j]
          refine ⟨⟨t, by simp [ht], e⟩, fun u hu => ?_, ?_⟩
          · rcases List.mem_append.1 hu with hu | hu
            · exact h2 u hu
            · rw [List.mem_singleton] at hu; subst hu; dsimp only; omega
          · dsimp only
            rw [List.filter_append, h3]
            simp [j]
noncomputable def bestL (N : Net) : Int × List (List Int) := bestGo (costL N) (treesL N) (-1, [])
theorem bestL_is {N : Net} (hN : N.Ok) {T : Nat → Nat} (hT : Tree N T) : Best N (bestL N).1 ∧ ∀ t, t ∈ (bestL N).2 ↔ TreeL N t ∧ costL N t = (bestL N).1 := by
  have hm : listF N T ∈ treesL N := mem_treesL.2 (listF_tree hN.root hT).1
  obtain ⟨⟨t, ht, e⟩, h2, h3⟩ := bestGo_is (c := costL N) (l := treesL N) (fun t ht => cost_pos hN (mem_treesL.1 ht).2.2.2) (fun e => by rw [e] at hm; cases hm)
  refine ⟨⟨⟨treeF t, (mem_treesL.1 ht).2.2.2, e⟩, fun U hU => ?_⟩, fun t => ?_⟩
  · obtain ⟨k1, k2⟩ := listF_tree hN.root hU
    have := h2 _ (mem_treesL.2 k1)
    refine Int.le_trans this (Int.le_of_eq (cost_congr k2))
  · unfold bestL
    rw [h3, List.mem_filter, mem_treesL]
    simp
/-- how many of the cheapest trees have a step -/
noncomputable def manyL (N : Net) (i : Nat) (l : List (List Int)) : Nat := (l.filter fun t => decide (t.getD (N.to i) 0 = (i : Int))).length
def gradeL (many all : Nat) : Int := if many = all then 2 else if 0 < many then 1 else 0
theorem hasL {N : Net} (hN : N.Ok) {t : List Int} (h : TreeL N t) {i : Nat} (hi : i < N.m) : t.getD (N.to i) 0 = (i : Int) ↔ Has N (treeF t) i := by
  unfold Has treeF
  constructor
  · intro e
    refine ⟨fun k => ?_, by rw [e]; simp⟩
    rw [k, h.2.1] at e; omega
  · rintro ⟨h1, h2⟩
    have := h.2.2.1 _ (hN.tom i hi) h1
    omega
theorem filter_full {α : Type} {p : α → Bool} {l : List α} : (l.filter p).length = l.length ↔ ∀ x ∈ l, p x = true := by
  rw [List.length_filter_eq_length_iff]
theorem gradeL_is {N : Net} (hN : N.Ok) {T : Nat → Nat} (hT : Tree N T) {i : Nat} (hi : i < N.m) : GradeIs N i (gradeL (manyL N i (bestL N).2) (bestL N).2.length) := by
  obtain ⟨hb, hm⟩ := bestL_is hN hT
  have good : ∀ t ∈ (bestL N).2, BestT N (treeF t) := fun t ht => hb.tree.2 ⟨((hm t).1 ht).1.2.2.2, ((hm t).1 ht).2⟩
  have come : ∀ U, BestT N U → ∃ t ∈ (bestL N).2, ∀ v, v < N.n → v ≠ N.r → treeF t v = U v := fun U hU => by
    obtain ⟨k1, k2⟩ := hb.tree.1 hU
    obtain ⟨k3, k4⟩ := listF_tree hN.root k1
    exact ⟨listF N U, (hm _).2 ⟨k3, by unfold costL; rw [cost_congr k4, k2]⟩, k4⟩
  have has : ∀ t ∈ (bestL N).2, (t.getD (N.to i) 0 = (i : Int) ↔ Has N (treeF t) i) := fun t ht => hasL hN ((hm t).1 ht).1 hi
  have same : ∀ U t, (∀ v, v < N.n → v ≠ N.r → treeF t v = U v) → (Has N U i ↔ Has N (treeF t) i) := fun U t h => by
    unfold Has
    refine and_congr_right fun h1 => ?_
    rw [h _ (hN.tom i hi) h1]
  unfold gradeL manyL
  by_cases c : ((bestL N).2.filter fun t => decide (t.getD (N.to i) 0 = (i : Int))).length = (bestL N).2.length
  · rw [if_pos c]
    refine .inl ⟨rfl, fun U hU => ?_⟩
    obtain ⟨t, ht, k⟩ := come U hU
    exact (same U t k).2 ((has t ht).1 (of_decide_eq_true (filter_full.1 c t ht)))
  · rw [if_neg c]
    have c2 : ∃ t ∈ (bestL N).2, ¬ Has N (treeF t) i := by
      by_cases d : ∃ t ∈ (bestL N).2, ¬ Has N (treeF t) i
      · exact d
      · refine absurd (filter_full.2 fun t ht => ?_) c
        by_cases e : Has N (treeF t) i
        · simpa using (has t ht).2 e
        · exact absurd ⟨t, ht, e⟩ d
    obtain ⟨u, hu, hun⟩ := c2
    by_cases d : 0 < ((bestL N).2.filter fun t => decide (t.getD (N.to i) 0 = (i : Int))).length
    · rw [if_pos d]
      obtain ⟨t, ht⟩ := List.exists_mem_of_length_pos d
      obtain ⟨h1, h2⟩ := List.mem_filter.1 ht
      exact .inr (.inr ⟨rfl, ⟨_, good t h1, (has t h1).1 (of_decide_eq_true h2)⟩, _, good u hu, hun⟩)
    · rw [if_neg d]
      refine .inr (.inl ⟨rfl, fun U hU k => d ?_⟩)
      obtain ⟨t, ht, k'⟩ := come U hU
      exact List.length_pos_of_mem (List.mem_filter.2 ⟨ht, by simpa using (has t ht).2 ((same U t k').1 k)⟩)
end Fam

namespace Fam
open Classical
/-- from, to, changes -/
abbrev St := Int × Int × Int
def songC (S n : Int) : Bool := decide (0 ≤ n) && decide (n < S)
def badC (S : Int) (x : St) : Bool := !songC S x.1 || !songC S x.2.1 || decide (x.1 = x.2.1) || decide (x.2.2 < 0) || decide (1000000 < x.2.2)
def bookErr (S R : Int) (l : List St) : Int := if S < 1 ∨ 16 < S ∨ 200 < l.length then 6 else if songC S R = false ∨ l.any (badC S) = true then 2 else 0
def stAt (l : List St) (i : Nat) : St := l.getD i (0, 0, 0)
structure BookOk (S R : Int) (l : List St) : Prop where
  dim : 1 ≤ S ∧ S ≤ 16
  many : l.length ≤ 200
  root : 0 ≤ R ∧ R < S
  stp : ∀ x ∈ l, (0 ≤ x.1 ∧ x.1 < S) ∧ (0 ≤ x.2.1 ∧ x.2.1 < S) ∧ x.1 ≠ x.2.1 ∧ 0 ≤ x.2.2 ∧ x.2.2 ≤ 1000000
theorem songC_iff {S n : Int} : songC S n = true ↔ 0 ≤ n ∧ n < S := by unfold songC; simp
theorem songC_no {S n : Int} : songC S n = false ↔ n < 0 ∨ S ≤ n := by unfold songC; simp; omega
theorem badC_no {S : Int} {x : St} : badC S x = false ↔ (0 ≤ x.1 ∧ x.1 < S) ∧ (0 ≤ x.2.1 ∧ x.2.1 < S) ∧ x.1 ≠ x.2.1 ∧ 0 ≤ x.2.2 ∧ x.2.2 ≤ 1000000 := by
  unfold badC songC; simp; omega
theorem bookErr_iff {S R : Int} {l : List St} : bookErr S R l = 0 ↔ BookOk S R l := by
  unfold bookErr
  constructor
  · intro h
    by_cases c : S < 1 ∨ 16 < S ∨ 200 < l.length
    · rw [if_pos c] at h; omega
    · rw [if_neg c] at h
      by_cases d : songC S R = false ∨ l.any (badC S) = true
      · rw [if_pos d] at h; omega
      · have d1 : songC S R = true := by
          cases e : songC S R with
          | true => rfl
          | false => exact absurd (.inl e) d
        have d2 : l.any (badC S) = false := by
          cases e : l.any (badC S) with
          | false => rfl
          | true => exact absurd (.inr e) d
        exact ⟨by omega, by omega, songC_iff.1 d1, fun x hx => badC_no.1 (by
          have := List.any_eq_false.1 d2 x hx
          simpa using this)⟩
  · intro h
    rw [if_neg (by have := h.dim; have := h.many; omega), if_neg]
    rintro (k | k)
    · rw [songC_iff.2 h.root] at k; cases k
    · obtain ⟨x, hx, e⟩ := List.any_eq_true.1 k
      rw [badC_no.2 (h.stp x hx)] at e; cases e
def netB (S R : Int) (l : List St) : Net := ⟨S.toNat, R.toNat, l.length, fun i => (stAt l i).1.toNat, fun i => (stAt l i).2.1.toNat, fun i => (stAt l i).2.2⟩
theorem stAt_eq {l : List St} {i : Nat} (h : i < l.length) : stAt l i = l[i] := by
  unfold stAt; rw [List.getD_eq_getElem?_getD, List.getElem?_eq_getElem h]; rfl
theorem stAt_mem {l : List St} {i : Nat} (h : i < l.length) : stAt l i ∈ l := by rw [stAt_eq h]; exact List.getElem_mem h
section
variable {S R : Int} {l : List St}
theorem BookOk.at_ (h : BookOk S R l) {i : Nat} (hi : i < l.length) : (0 ≤ (stAt l i).1 ∧ (stAt l i).1 < S) ∧ (0 ≤ (stAt l i).2.1 ∧ (stAt l i).2.1 < S) ∧ (stAt l i).1 ≠ (stAt l i).2.1 ∧ 0 ≤ (stAt l i).2.2 ∧ (stAt l i).2.2 ≤ 1000000 := h.stp _ (stAt_mem hi)
theorem BookOk.net (h : BookOk S R l) : (netB S R l).Ok where
  root := by have := h.root; show R.toNat < S.toNat; omega
  frm := fun i hi => by have := h.at_ hi; show (stAt l i).1.toNat < S.toNat; omega
  tom := fun i hi => by have := h.at_ hi; show (stAt l i).2.1.toNat < S.toNat; omega
  ne := fun i hi => by have := h.at_ hi; show (stAt l i).1.toNat ≠ (stAt l i).2.1.toNat; omega
  pos := fun i hi => (h.at_ hi).2.2.2.1
/-- all steps -/
def allS (N : Net) (i : Nat) : Prop := i < N.m
theorem Tree.all {N : Net} {T : Nat → Nat} (h : Tree N T) : Full N (allS N) := h.full.mono fun i hi => by
  obtain ⟨v, hv, hr, rfl⟩ := hi
  exact (h.to v hv hr).1
/-- the numbers of a tree are right for their variants -/
def NumsOk (N : Net) (t : List Int) : Prop := t.getD N.r 0 = -1 ∧ ∀ v, v < N.n → v ≠ N.r → 0 ≤ t.getD v 0 ∧ t.getD v 0 < N.m ∧ N.to (treeF t v) = v
theorem NumsOk.goes {N : Net} {t : List Int} (h : NumsOk N t) : Goes N (treeF t) := fun v hv hr => by
  obtain ⟨h1, h2, h3⟩ := h.2 v hv hr
  refine ⟨?_, h3⟩
  unfold treeF
  omega
theorem treeL_iff {N : Net} {t : List Int} : TreeL N t ↔ t.length = N.n ∧ NumsOk N t ∧ Tree N (treeF t) := by
  constructor
  · rintro ⟨h1, h2, h3, h4⟩
    refine ⟨h1, ⟨h2, fun v hv hr => ?_⟩, h4⟩
    obtain ⟨k1, k2⟩ := h4.to v hv hr
    have := h3 v hv hr
    refine ⟨this, ?_, k2⟩
    unfold treeF at k1
    omega
  · rintro ⟨h1, h2, h4⟩
    exact ⟨h1, h2.1, fun v hv hr => (h2.2 v hv hr).1, h4⟩
/-- how many changes a list has as a tree, or the error -/
noncomputable def treeV (S R : Int) (l : List St) (t : List Int) : Int × Int :=
  if bookErr S R l ≠ 0 then (0, bookErr S R l) else if t.length ≠ S.toNat then (0, 15) else if ¬ NumsOk (netB S R l) t then (0, 3) else if ¬ Tree (netB S R l) (treeF t) then (0, 16) else (costL (netB S R l) t, 0)
theorem treeV_iff (h : BookOk S R l) {t : List Int} : (treeV S R l t).2 = 0 ↔ TreeL (netB S R l) t := by
  unfold treeV
  rw [treeL_iff, if_neg (by simp [bookErr_iff.2 h])]
  show _ ↔ t.length = S.toNat ∧ _
  by_cases a : t.length = S.toNat
  · by_cases b : NumsOk (netB S R l) t
    · by_cases c : Tree (netB S R l) (treeF t)
      · simp [a, b, c]
      · simp [a, b, c]
    · simp [a, b]
  · simp [a]
theorem treeV_val (h : BookOk S R l) {t : List Int} (k : TreeL (netB S R l) t) : treeV S R l t = (costL (netB S R l) t, 0) := by
  have k' := treeL_iff.1 k
  unfold treeV
  rw [if_neg (by simp [bookErr_iff.2 h]), if_neg (fun e => e k'.1), if_neg (by simp [k'.2.1]), if_neg (by simp [k'.2.2])]
/-- the error of functions that need a tree -/
noncomputable def planE (S R : Int) (l : List St) : Int := if bookErr S R l ≠ 0 then bookErr S R l else if Full (netB S R l) (allS (netB S R l)) then 0 else 13
theorem planE_iff : planE S R l = 0 ↔ BookOk S R l ∧ Full (netB S R l) (allS (netB S R l)) := by
  unfold planE
  by_cases a : bookErr S R l = 0
  · rw [if_neg (by simp [a]), ← bookErr_iff]
    by_cases b : Full (netB S R l) (allS (netB S R l))
    · simp [a, b]
    · simp [b]
  · rw [if_pos a, ← bookErr_iff]
    simp [a]
/-- which variants are lost -/
noncomputable def lostL (S R : Int) (l : List St) : List Int := ((List.range S.toNat).filter fun v => decide (¬ Rch (netB S R l) (allS (netB S R l)) R.toNat v)).map fun v : Nat => (v : Int)
theorem lostL_nil (S R : Int) (l : List St) : lostL S R l = [] ↔ Full (netB S R l) (allS (netB S R l)) := by
  unfold lostL Full
  rw [List.map_eq_nil_iff, List.filter_eq_nil_iff]
  constructor
  · intro h v hv
    have := h v (List.mem_range.2 hv)
    show Rch (netB S R l) (allS (netB S R l)) R.toNat v
    simpa using this
  · intro h v hv
    have : Rch (netB S R l) (allS (netB S R l)) R.toNat v := h v (List.mem_range.1 hv)
    simpa using this
/-- Lost: the list, the error -/
noncomputable def lostV (S R : Int) (l : List St) : List Int × Int := if bookErr S R l ≠ 0 then ([], bookErr S R l) else if lostL S R l = [] then ([], 5) else (lostL S R l, 0)
/-- groups of numbers with prices -/
abbrev Pc := List Int × Int
def grp (g : List Int) (v : Nat) : Bool := g.contains (v : Int)
def prcP (P : List Pc) : List ((Nat → Bool) × Int) := P.map fun x => (grp x.1, x.2)
/-- a group that increases, without the root -/
def grpOk (S R : Int) (x : Pc) : Prop := x.1 ≠ [] ∧ R ∉ x.1 ∧ (0 ≤ x.2 ∧ x.2 ≤ 1099511627776) ∧ (∀ n ∈ x.1, 0 ≤ n ∧ n < S) ∧ x.1.Pairwise (· < ·)
def sumP (P : List Pc) : Int := sm (fun x => x.2) P
noncomputable def pricesV (S R : Int) (l : List St) (P : List Pc) : Int × Int :=
  if bookErr S R l ≠ 0 then (0, bookErr S R l) else if 40 < P.length then (0, 6) else if ¬ ∀ x ∈ P, grpOk S R x then (0, 3) else if ¬ ∀ i, i < l.length → sm (toll (netB S R l) i) (prcP P) ≤ (netB S R l).ch i then (0, 14) else (sumP P, 0)
theorem bound_prcP (P : List Pc) : bound (prcP P) = sumP P := by unfold bound prcP sumP; rw [sm_map]
theorem right_of (h : BookOk S R l) {P : List Pc} (hg : ∀ x ∈ P, grpOk S R x) (hs : ∀ i, i < l.length → sm (toll (netB S R l) i) (prcP P) ≤ (netB S R l).ch i) : Right (netB S R l) (prcP P) := by
  have hr := h.root
  refine ⟨fun y hy => ?_, fun y hy => ?_, fun y hy => ?_, hs⟩
  · obtain ⟨x, hx, rfl⟩ := List.mem_map.1 hy; exact (hg x hx).2.2.1.1
  · obtain ⟨x, hx, rfl⟩ := List.mem_map.1 hy
    have := (hg x hx).2.1
    show grp x.1 R.toNat = false
    unfold grp
    have e : ((R.toNat : Nat) : Int) = R := by omega
    rw [e]; simpa using this
  · obtain ⟨x, hx, rfl⟩ := List.mem_map.1 hy
    obtain ⟨h1, _, _, h4, _⟩ := hg x hx
    cases hg' : x.1 with
    | nil => exact absurd hg' h1
    | cons n g =>
      have := h4 n (by rw [hg']; simp)
      refine ⟨n.toNat, by show n.toNat < S.toNat; omega, ?_⟩
      show grp (n :: g) n.toNat = true
      unfold grp
      have e : ((n.toNat : Nat) : Int) = n := by omega
      rw [e]; simp
theorem pricesV_right (h : BookOk S R l) {P : List Pc} (k : (pricesV S R l P).2 = 0) : Right (netB S R l) (prcP P) ∧ (pricesV S R l P).1 = bound (prcP P) := by
  unfold pricesV at k ⊢
  rw [if_neg (by simp [bookErr_iff.2 h])] at k ⊢
  by_cases a : 40 < P.length
  · rw [if_pos a] at k; simp at k
  · rw [if_neg a] at k ⊢
    by_cases b : ∀ x ∈ P, grpOk S R x
    · rw [if_neg (by simp only [not_not]; exact b)] at k ⊢
      by_cases c : ∀ i, i < l.length → sm (toll (netB S R l) i) (prcP P) ≤ (netB S R l).ch i
      · rw [if_neg (by simp only [not_not]; exact c)]
        exact ⟨right_of h b c, (bound_prcP P).symm⟩
      · rw [if_pos c] at k; simp at k
    · rw [if_pos b] at k; simp at k
theorem pricesV_ok (h : BookOk S R l) {P : List Pc} (a : P.length ≤ 40) (b : ∀ x ∈ P, grpOk S R x) (c : ∀ i, i < l.length → sm (toll (netB S R l) i) (prcP P) ≤ (netB S R l).ch i) : pricesV S R l P = (sumP P, 0) := by
  unfold pricesV
  rw [if_neg (by simp [bookErr_iff.2 h]), if_neg (by omega), if_neg (by simp only [not_not]; exact b), if_neg (by simp only [not_not]; exact c)]
end
end Fam

namespace Fam
open Classical
/-- one number is right -/
def numC (R : Int) (l : List St) (n : Nat) (x : Int) : Bool := if (n : Int) = R then decide (x = -1) else decide (0 ≤ x) && decide (x < l.length) && decide ((stAt l x.toNat).2.1 = n)
section
variable {S R : Int} {l : List St} {t : List Int}
theorem getD_at {t : List Int} {n : Nat} (h : n < t.length) : t.getD n 0 = t[n] := by rw [List.getD_eq_getElem?_getD, List.getElem?_eq_getElem h]; rfl
theorem nums_iff (h : BookOk S R l) (ht : t.length = S.toNat) : NumsOk (netB S R l) t ↔ ∀ n (hn : n < t.length), numC R l n t[n] = true := by
  have hr := h.root
  constructor
  · intro k n hn
    unfold numC
    by_cases e : (n : Int) = R
    · rw [if_pos e]
      have h1 : t.getD R.toNat 0 = -1 := k.1
      have : R.toNat = n := by omega
      rw [this, getD_at hn] at h1
      simpa using h1
    · rw [if_neg e]
      obtain ⟨h1, h2, h3⟩ := k.2 n (by show n < S.toNat; omega) (by show n ≠ R.toNat; omega)
      rw [getD_at hn] at h1 h2
      have h2' : t[n] < (l.length : Int) := h2
      have h3' : (stAt l (t.getD n 0).toNat).2.1.toNat = n := h3
      rw [getD_at hn] at h3'
      have := h.at_ (i := t[n].toNat) (by omega)
      have h4 : (stAt l t[n].toNat).2.1 = n := by omega
      simp [h1, h2', h4]
  · intro k
    constructor
    · show t.getD R.toNat 0 = -1
      have h1 : R.toNat < t.length := by omega
      have := k R.toNat h1
      unfold numC at this
      rw [if_pos (by omega)] at this
      rw [getD_at h1]; simpa using this
    · intro n hn hnr
      have hn : n < t.length := by rw [ht]; exact hn
      have hnr : n ≠ R.toNat := hnr
      have := k n hn
      unfold numC at this
      rw [if_neg (by omega)] at this
      simp only [Bool.and_eq_true, decide_eq_true_eq] at this
      obtain ⟨⟨h1, h2⟩, h3⟩ := this
      unfold treeF
      rw [getD_at hn]
      refine ⟨h1, h2, ?_⟩
      show (stAt l t[n].toNat).2.1.toNat = n
      omega
/-- the changes of the first k variants' steps -/
def csum (S R : Int) (l : List St) (t : List Int) (k : Nat) : Int := sm (costAt (netB S R l) (treeF t)) (List.range k)
theorem csum_zero : csum S R l t 0 = 0 := rfl
theorem csum_root {k : Nat} (hR : 0 ≤ R) (e : (k : Int) = R) : csum S R l t (k + 1) = csum S R l t k := by
  unfold csum
  rw [List.range_succ, sm_append]
  have : costAt (netB S R l) (treeF t) k = 0 := by
    unfold costAt
    rw [if_pos (by show k = R.toNat; omega : k = (netB S R l).r)]
  simp [sm, this]
theorem csum_step {k : Nat} (e : (k : Int) ≠ R) (hR : 0 ≤ R) (hk : k < t.length) : csum S R l t (k + 1) = csum S R l t k + (stAt l t[k].toNat).2.2 := by
  unfold csum
  rw [List.range_succ, sm_append]
  have : costAt (netB S R l) (treeF t) k = (stAt l t[k].toNat).2.2 := by
    unfold costAt
    rw [if_neg (by show ¬ k = R.toNat; omega : ¬ k = (netB S R l).r)]
    show (stAt l (treeF t k)).2.2 = _
    unfold treeF
    rw [getD_at hk]
  simp [sm, this]
theorem csum_bound (h : BookOk S R l) (hn : ∀ n (hn : n < t.length), numC R l n t[n] = true) : ∀ k, k ≤ t.length → 0 ≤ csum S R l t k ∧ csum S R l t k ≤ 1000000 * k
  | 0, _ => by rw [csum_zero]; omega
  | k + 1, hk => by
    have hr := h.root
    have ih := csum_bound h hn k (by omega)
    by_cases e : (k : Int) = R
    · rw [csum_root hr.1 e]; omega
    · rw [csum_step e hr.1 (by omega)]
      have := hn k (by omega)
      unfold numC at this
      rw [if_neg e] at this
      simp only [Bool.and_eq_true, decide_eq_true_eq] at this
      have := h.at_ (i := t[k].toNat) (by omega)
      omega
/-- one step back, by numbers -/
theorem back_next (h : BookOk S R l) (ht : t.length = S.toNat) (hn : ∀ n (hn : n < t.length), numC R l n t[n] = true) {c v : Nat} (hv : v < t.length) : back (netB S R l) (treeF t) c v < t.length ∧
    ∀ a, back (netB S R l) (treeF t) c v = a → (a : Int) ≠ R → ∃ ha : a < t.length, 0 ≤ t[a] ∧ t[a] < (l.length : Int) ∧ (0 ≤ (stAt l t[a].toNat).1 ∧ (stAt l t[a].toNat).1 < S) ∧ (back (netB S R l) (treeF t) (c + 1) v : Int) = (stAt l t[a].toNat).1 := by
  have hr := h.root
  have hnums := (nums_iff h ht).2 hn
  have hgo := hnums.goes
  have lt : ∀ c v, v < t.length → back (netB S R l) (treeF t) c v < t.length := by
    intro c
    induction c with
    | zero => exact fun v hv => hv
    | succ c ih =>
      intro v hv
      refine ih _ ?_
      unfold par
      by_cases e : v = (netB S R l).r
      · rw [if_pos e]; exact hv
      · rw [if_neg e]
        obtain ⟨h1, _⟩ := hgo v (by show v < S.toNat; omega) e
        have := h.net.frm _ h1
        rw [ht]; exact this
  refine ⟨lt c v hv, fun a ea hne => ?_⟩
  have ha : a < t.length := ea ▸ lt c v hv
  have k := hn a ha
  unfold numC at k
  rw [if_neg hne] at k
  simp only [Bool.and_eq_true, decide_eq_true_eq] at k
  obtain ⟨⟨k1, k2⟩, k3⟩ := k
  have k4 := h.at_ (i := t[a].toNat) (by omega)
  refine ⟨ha, k1, k2, k4.1, ?_⟩
  rw [back_succ, ea]
  unfold par
  rw [if_neg (by show ¬ a = R.toNat; omega : ¬ a = (netB S R l).r)]
  show ((stAt l (treeF t a)).1.toNat : Int) = _
  unfold treeF
  rw [getD_at ha]
  omega
theorem back_zero (v : Nat) : back (netB S R l) (treeF t) 0 v = v := rfl
/-- the answers -/
theorem treeV_err (h : bookErr S R l ≠ 0) : treeV S R l t = (0, bookErr S R l) := by unfold treeV; rw [if_pos h]
theorem treeV_len (h : BookOk S R l) (k : (t.length : Int) ≠ S) : treeV S R l t = (0, 15) := by
  have := h.dim
  unfold treeV
  rw [if_neg (by simp [bookErr_iff.2 h]), if_pos (by omega)]
theorem treeV_num (h : BookOk S R l) (k : t.length = S.toNat) {n : Nat} (hn : n < t.length) (hb : numC R l n t[n] = false) : treeV S R l t = (0, 3) := by
  unfold treeV
  rw [if_neg (by simp [bookErr_iff.2 h]), if_neg (by simp [k]), if_pos]
  intro hk
  rw [(nums_iff h k).1 hk n hn] at hb; cases hb
theorem treeV_rule (h : BookOk S R l) (k : t.length = S.toNat) (hn : ∀ n (hn : n < t.length), numC R l n t[n] = true) {c v : Nat} (hc : S.toNat ≤ c) (hv : v < t.length) (hb : (back (netB S R l) (treeF t) c v : Int) ≠ R) : treeV S R l t = (0, 16) := by
  have hr := h.root
  have hnums := (nums_iff h k).2 hn
  unfold treeV
  rw [if_neg (by simp [bookErr_iff.2 h]), if_neg (by simp [k]), if_neg (by simpa using hnums), if_pos]
  intro hT
  have := (tree_iff h.net hnums.goes (c := c) hc).1 hT v (by show v < S.toNat; omega)
  have : back (netB S R l) (treeF t) c v = R.toNat := this
  omega
theorem treeV_good (h : BookOk S R l) (k : t.length = S.toNat) (hn : ∀ n (hn : n < t.length), numC R l n t[n] = true) {c : Nat} (hc : S.toNat ≤ c) (hb : ∀ v, v < t.length → (back (netB S R l) (treeF t) c v : Int) = R) : treeV S R l t = (csum S R l t t.length, 0) := by
  have hr := h.root
  have hnums := (nums_iff h k).2 hn
  have hT : Tree (netB S R l) (treeF t) := (tree_iff h.net hnums.goes (c := c) hc).2 fun v hv => by
    have := hb v (by rw [k]; exact hv)
    show back (netB S R l) (treeF t) c v = R.toNat
    omega
  unfold treeV
  rw [if_neg (by simp [bookErr_iff.2 h]), if_neg (by simp [k]), if_neg (by simpa using hnums), if_neg (by simpa using hT)]
  unfold csum costL cost
  rw [k]; rfl
theorem back_stay {c d v : Nat} (hR : 0 ≤ R) (h : (back (netB S R l) (treeF t) c v : Int) = R) (hd : c ≤ d) : (back (netB S R l) (treeF t) d v : Int) = R := by
  have : back (netB S R l) (treeF t) c v = (netB S R l).r := by show _ = R.toNat; omega
  rw [back_more this hd]
  show ((R.toNat : Nat) : Int) = R
  omega
end
end Fam

namespace Fam
open Go
theorem ofi {a : Nat} (ha : a < 9223372036854775808) : (BitVec.ofInt 64 (a : Int)).toNat = a := by
  rw [BitVec.ofInt_natCast, BitVec.toNat_ofNat]; exact Nat.mod_eq_of_lt (by omega)
theorem bits_or_nat {a b : Nat} (ha : a < 9223372036854775808) (hb : b < 9223372036854775808) : bits .or .i64 (a : Int) (b : Int) = ((a ||| b : Nat) : Int) := by
  show IntKind.i64.wrap ((BitVec.ofInt 64 (a : Int) ||| BitVec.ofInt 64 (b : Int)).toNat : Int) = _
  rw [BitVec.toNat_or, ofi ha, ofi hb]
  have := Nat.or_lt_two_pow (n := 63) ha hb
  generalize a ||| b = c at this
  exact IntWalk.i64_in _ (by omega)
theorem bits_and_nat {a b : Nat} (ha : a < 9223372036854775808) (hb : b < 9223372036854775808) : bits .and .i64 (a : Int) (b : Int) = ((a &&& b : Nat) : Int) := by
  show IntKind.i64.wrap ((BitVec.ofInt 64 (a : Int) &&& BitVec.ofInt 64 (b : Int)).toNat : Int) = _
  rw [BitVec.toNat_and, ofi ha, ofi hb]
  have : a &&& b ≤ a := Nat.and_le_left
  generalize a &&& b = c at this
  exact IntWalk.i64_in _ (by omega)
theorem bits_and_one {d : Nat} (hd : d < 9223372036854775808) : bits .and .i64 (d : Int) 1 = ((d % 2 : Nat) : Int) := by
  have := bits_and_nat hd (b := 1) (by omega)
  rw [show ((1 : Nat) : Int) = 1 from rfl] at this
  rw [this, Nat.and_one_is_mod]
/-- the bit at r, as the program asks for it -/
theorem ask_bit {m r : Nat} (hm : m < 65536) : (m : Int) / 2 ^ r = ((m / 2 ^ r : Nat) : Int) ∧ bits .and .i64 ((m / 2 ^ r : Nat) : Int) 1 = if m.testBit r = true then 1 else 0 := by
  refine ⟨by simp, ?_⟩
  have hle : m / 2 ^ r ≤ m := Nat.div_le_self _ _
  rw [bits_and_one (by omega), Nat.testBit_eq_decide_div_mod_eq]
  by_cases c : m / 2 ^ r % 2 = 1
  · simp [c]
  · have : m / 2 ^ r % 2 = 0 := by omega
    simp [this]
theorem pow_lt {r : Nat} (hr : r < 16) : 2 ^ r < 65536 := by
  have : 2 ^ r ≤ 2 ^ 15 := Nat.pow_le_pow_right (by omega) (by omega)
  omega
/-- one bit more, as the program puts it -/
theorem put_bit {m r : Nat} (hm : m < 65536) (hr : r < 16) : IntKind.i64.wrap (2 ^ r) = ((2 ^ r : Nat) : Int) ∧ bits .or .i64 (m : Int) ((2 ^ r : Nat) : Int) = ((m ||| 2 ^ r : Nat) : Int) ∧ m ||| 2 ^ r < 65536 := by
  have h := pow_lt hr
  refine ⟨?_, bits_or_nat (by omega) (by omega), Nat.or_lt_two_pow (n := 16) hm h⟩
  rw [show (2 : Int) ^ r = ((2 ^ r : Nat) : Int) by simp]
  generalize 2 ^ r = q at h
  exact IntWalk.i64_in _ (by omega)
theorem testBit_or_pow {m r v : Nat} : (m ||| 2 ^ r).testBit v = (m.testBit v || decide (v = r)) := by
  rw [Nat.testBit_or, Nat.testBit_two_pow]
  congr 1
  exact decide_eq_decide.2 eq_comm
theorem le_of_bits {a b : Nat} (h : ∀ v, a.testBit v = true → b.testBit v = true) : a ≤ b := by
  have : a ||| b = b := Nat.eq_of_testBit_eq fun v => by
    rw [Nat.testBit_or]
    cases ha : a.testBit v with
    | false => rfl
    | true => rw [h v ha]; rfl
  rw [← this]; exact Nat.left_le_or
/-- rows of bits: whom each of the first n variants leads to, as far as is known -/
structure KnownF (N : Net) (st : List Nat) (f : Nat → Nat) : Prop where
  lt : ∀ u, u < 16 → f u < 65536
  self : ∀ u, u < N.n → (f u).testBit u = true
  ok : ∀ u, u < N.n → ∀ v, (f u).testBit v = true → v < N.n ∧ Rch N (· ∈ st) u v
  zero : ∀ u, N.n ≤ u → f u = 0
/-- one step, for one variant -/
def orS (N : Net) (i u : Nat) (f : Nat → Nat) : Nat → Nat := fun x => if x = u then (if (f u).testBit (N.fr i) = true then f u ||| 2 ^ N.to i else f u) else f x
theorem KnownF.step {N : Net} (hn : N.n ≤ 16) {st : List Nat} {f : Nat → Nat} (h : KnownF N st f) {i u : Nat} (hi : i ∈ st) (ht : N.to i < N.n) (hu : u < N.n) : KnownF N st (orS N i u f) := by
  refine ⟨fun x hx => ?_, fun x hx => ?_, fun x hx v hv => ?_, fun x hx => ?_⟩ <;> unfold orS at *
  · by_cases e : x = u
    · subst e
      rw [if_pos rfl]
      split
      · exact (put_bit (h.lt x hx) (by omega)).2.2
      · exact h.lt x hx
    · rw [if_neg e]; exact h.lt x hx
  · by_cases e : x = u
    · subst e
      rw [if_pos rfl]
      split
      · rw [testBit_or_pow, h.self x hx]; rfl
      · exact h.self x hx
    · rw [if_neg e]; exact h.self x hx
  · by_cases e : x = u
    · subst e
      rw [if_pos rfl] at hv
      split at hv
      · next hf =>
        rw [testBit_or_pow, Bool.or_eq_true] at hv
        rcases hv with hv | hv
        · exact h.ok x hx v hv
        · have hv := of_decide_eq_true hv
          subst hv
          exact ⟨ht, .step (h.ok x hx _ hf).2 hi⟩
      · exact h.ok x hx v hv
    · rw [if_neg e] at hv; exact h.ok x hx v hv
  · rw [if_neg (by omega)]; exact h.zero x hx
def SubF (f g : Nat → Nat) : Prop := ∀ u v, (f u).testBit v = true → (g u).testBit v = true
theorem SubF.refl (f : Nat → Nat) : SubF f f := fun _ _ h => h
theorem SubF.trans {f g h : Nat → Nat} (a : SubF f g) (b : SubF g h) : SubF f h := fun u v k => b u v (a u v k)
theorem orS_sub (N : Net) (i u : Nat) (f : Nat → Nat) : SubF f (orS N i u f) := fun x v h => by
  unfold orS
  by_cases e : x = u
  · subst e
    rw [if_pos rfl]
    split
    · rw [testBit_or_pow, h]; rfl
    · exact h
  · rw [if_neg e]; exact h
theorem orS_did {N : Net} {i u : Nat} {f g : Nat → Nat} (hg : SubF g f) (h : (g u).testBit (N.fr i) = true) : (orS N i u f u).testBit (N.to i) = true := by
  unfold orS
  rw [if_pos rfl, if_pos (hg u _ h), testBit_or_pow]
  simp
/-- step i has been gone over for the variants below u -/
def Did (N : Net) (g f : Nat → Nat) (i u : Nat) : Prop := ∀ x, x < u → (g x).testBit (N.fr i) = true → (f x).testBit (N.to i) = true
theorem Did.mono {N : Net} {g f f' : Nat → Nat} {i u : Nat} (h : Did N g f i u) (hs : SubF f f') : Did N g f' i u := fun x hx k => hs x _ (h x hx k)
theorem Did.next {N : Net} {g f : Nat → Nat} {i u : Nat} (h : Did N g f i u) (hg : SubF g f) : Did N g (orS N i u f) i (u + 1) := fun x hx k => by
  by_cases e : x = u
  · subst e; exact orS_did hg k
  · exact orS_sub N i u f x _ (h x (by omega) k)
/-- the first j steps have been gone over -/
def DidAll (N : Net) (g f : Nat → Nat) (st : List Nat) (j : Nat) : Prop := ∀ k (h : k < st.length), k < j → Did N g f st[k] N.n
theorem DidAll.mono {N : Net} {g f f' : Nat → Nat} {st : List Nat} {j : Nat} (h : DidAll N g f st j) (hs : SubF f f') : DidAll N g f' st j := fun k hk hj => (h k hk hj).mono hs
theorem DidAll.next {N : Net} {g f : Nat → Nat} {st : List Nat} {j : Nat} (h : DidAll N g f st j) (hj : j < st.length) (hd : Did N g f st[j] N.n) : DidAll N g f st (j + 1) := fun k hk hkj => by
  by_cases e : k = j
  · subst e; exact hd
  · exact h k hk (by omega)
/-- rows of bits that say it all -/
structure ComesF (N : Net) (st : List Nat) (f : Nat → Nat) : Prop where
  lt : ∀ u, u < 16 → f u < 65536
  bit : ∀ u, u < N.n → ∀ v, (f u).testBit v = true ↔ v < N.n ∧ Rch N (· ∈ st) u v
  zero : ∀ u, N.n ≤ u → f u = 0
theorem KnownF.done {N : Net} {st : List Nat} {f : Nat → Nat} (h : KnownF N st f) (hd : DidAll N f f st st.length) : ComesF N st f := by
  refine ⟨h.lt, fun u hu v => ⟨h.ok u hu v, fun ⟨_, hr⟩ => ?_⟩, h.zero⟩
  exact rch_closed (C := fun v => (f u).testBit v = true) (h.self u hu) (fun i hi hc => by
    obtain ⟨k, hk, rfl⟩ := List.mem_iff_getElem.1 hi
    exact hd k hk hk u hu hc) hr
/-- all bits, as a number that can grow for a while -/
def total (f : Nat → Nat) : Nat := ((List.range 16).map f).sum
theorem sum_le {f g : Nat → Nat} : ∀ l : List Nat, (∀ x ∈ l, f x ≤ g x) → (l.map f).sum ≤ (l.map g).sum
  | [], _ => Nat.le_refl _
  | x :: l, h => by
    simp only [List.map_cons, List.sum_cons]
    exact Nat.add_le_add (h x (by simp)) (sum_le l fun y hy => h y (by simp [hy]))
theorem sum_lt {f g : Nat → Nat} {y : Nat} : ∀ l : List Nat, (∀ x ∈ l, f x ≤ g x) → y ∈ l → f y < g y → (l.map f).sum < (l.map g).sum
  | [], _, hy, _ => by cases hy
  | x :: l, h, hy, hlt => by
    simp only [List.map_cons, List.sum_cons]
    rcases List.mem_cons.1 hy with e | e
    · subst e
      exact Nat.add_lt_add_of_lt_of_le hlt (sum_le l fun z hz => h z (by simp [hz]))
    · exact Nat.add_lt_add_of_le_of_lt (h x (by simp)) (sum_lt l (fun z hz => h z (by simp [hz])) e hlt)
theorem total_bound {f : Nat → Nat} (h : ∀ u, u < 16 → f u < 65536) : total f ≤ 16 * 65536 := by
  have := sum_le (g := fun _ => 65536) (List.range 16) (fun x hx => Nat.le_of_lt (h x (List.mem_range.1 hx)))
  exact this
theorem total_grow {f g : Nat → Nat} (hs : SubF f g) (hne : ¬ ∀ u, u < 16 → f u = g u) : total f < total g := by
  obtain ⟨u, hu⟩ := Classical.not_forall.1 hne
  obtain ⟨hu, hn⟩ := Classical.not_imp.1 hu
  have hle : ∀ x, f x ≤ g x := fun x => le_of_bits (hs x)
  exact sum_lt (List.range 16) (fun x _ => hle x) (List.mem_range.2 hu) (by have := hle u; omega)
theorem KnownF.start {N : Net} (_hn : N.n ≤ 16) (st : List Nat) {k : Nat} (hk : k = N.n) : KnownF N st (fun u => if u < k then 2 ^ u else 0) := by
  subst hk
  refine ⟨fun u hu => ?_, fun u hu => ?_, fun u hu v hv => ?_, fun u hu => ?_⟩
  · split
    · exact pow_lt hu
    · omega
  · rw [if_pos hu, Nat.testBit_two_pow]; simp
  · rw [if_pos hu, Nat.testBit_two_pow] at hv
    have := of_decide_eq_true hv
    subst this
    exact ⟨hu, .refl⟩
  · rw [if_neg (by omega)]
end Fam

namespace Fam
open Classical
theorem bits_ex (p : Nat → Bool) : ∀ n, ∃ m, m < 2 ^ n ∧ ∀ v, m.testBit v = (decide (v < n) && p v)
  | 0 => ⟨0, by simp, fun v => by simp⟩
  | n + 1 => by
    obtain ⟨m, hm, h⟩ := bits_ex p n
    have hp : 2 ^ n < 2 ^ (n + 1) := Nat.pow_lt_pow_right (by omega) (by omega)
    cases hn : p n with
    | true =>
      refine ⟨m ||| 2 ^ n, Nat.or_lt_two_pow (by omega) hp, fun v => ?_⟩
      rw [testBit_or_pow, h]
      by_cases e : v = n
      · subst e; simp [hn]
      · have : decide (v < n + 1) = decide (v < n) := decide_eq_decide.2 (by omega)
        rw [this]; simp [e]
    | false =>
      refine ⟨m, by omega, fun v => ?_⟩
      rw [h]
      by_cases e : v = n
      · subst e; simp [hn]
      · have : decide (v < n + 1) = decide (v < n) := decide_eq_decide.2 (by omega)
        rw [this]
theorem comes_ex {N : Net} (hn : N.n ≤ 16) (st : List Nat) : ∃ f, ComesF N st f := by
  have h : ∀ u, ∃ m, m < 2 ^ N.n ∧ ∀ v, m.testBit v = (decide (v < N.n) && decide (Rch N (· ∈ st) u v)) := fun u => bits_ex _ _
  have hp : 2 ^ N.n ≤ 2 ^ 16 := Nat.pow_le_pow_right (by omega) hn
  have h16 : 2 ^ 16 = 65536 := rfl
  refine ⟨fun u => if u < N.n then choose (h u) else 0, fun u _ => ?_, fun u hu v => ?_, fun u hu => ?_⟩
  · split
    · have := (choose_spec (h u)).1; omega
    · omega
  · rw [if_pos hu, (choose_spec (h u)).2]; simp
  · rw [if_neg (by omega)]
theorem ComesF.uniq {N : Net} {st : List Nat} {f g : Nat → Nat} (h : ComesF N st f) (k : ComesF N st g) : f = g := by
  funext u
  by_cases e : u < N.n
  · refine Nat.eq_of_testBit_eq fun v => ?_
    rw [Bool.eq_iff_iff, h.bit u e, k.bit u e]
  · rw [h.zero u (by omega), k.zero u (by omega)]
noncomputable def comeM (N : Net) (st : List Nat) : Nat → Nat := if h : ∃ f, ComesF N st f then choose h else fun _ => 0
theorem comeM_is {N : Net} (hn : N.n ≤ 16) (st : List Nat) : ComesF N st (comeM N st) := by
  unfold comeM
  rw [dif_pos (comes_ex hn st)]
  exact choose_spec (comes_ex hn st)
theorem ComesF.full {N : Net} {st : List Nat} {f : Nat → Nat} (h : ComesF N st f) (hr : N.r < N.n) : f N.r = 2 ^ N.n - 1 ↔ Full N (· ∈ st) := by
  constructor
  · intro e v hv
    have : (f N.r).testBit v = true := by rw [e, Nat.testBit_two_pow_sub_one]; simpa using hv
    exact ((h.bit N.r hr v).1 this).2
  · intro k
    refine Nat.eq_of_testBit_eq fun v => ?_
    rw [Nat.testBit_two_pow_sub_one, Bool.eq_iff_iff, h.bit N.r hr]
    simp only [decide_eq_true_eq]
    exact ⟨fun x => x.1, fun x => ⟨x, k v x⟩⟩
/-- the numbers of the steps that are good -/
def allL (p : St → Bool) (l : List St) : List Nat := (List.range l.length).filter fun i => p (stAt l i)
def allK (p : St → Bool) (l : List St) (k : Nat) : List Nat := (List.range k).filter fun i => p (stAt l i)
theorem allK_yes {p : St → Bool} {l : List St} {k : Nat} (h : p (stAt l k) = true) : allK p l (k + 1) = allK p l k ++ [k] := by
  unfold allK
  rw [List.range_succ, List.filter_append]
  simp [h]
theorem allK_no {p : St → Bool} {l : List St} {k : Nat} (h : p (stAt l k) = false) : allK p l (k + 1) = allK p l k := by
  unfold allK
  rw [List.range_succ, List.filter_append]
  simp [h]
theorem allK_le (p : St → Bool) (l : List St) (k : Nat) : (allK p l k).length ≤ k := by
  have := List.length_filter_le (fun i => p (stAt l i)) (List.range k)
  rwa [List.length_range] at this
theorem mem_allL {p : St → Bool} {l : List St} {i : Nat} : i ∈ allL p l ↔ i < l.length ∧ p (stAt l i) = true := by unfold allL; simp
/-- the first k variants that are lost -/
noncomputable def lostK (S R : Int) (l : List St) (k : Nat) : List Int := ((List.range k).filter fun v => decide (¬ Rch (netB S R l) (allS (netB S R l)) R.toNat v)).map fun v : Nat => (v : Int)
theorem lostK_come {S R : Int} {l : List St} {k : Nat} (h : Rch (netB S R l) (allS (netB S R l)) R.toNat k) : lostK S R l (k + 1) = lostK S R l k := by
  unfold lostK
  rw [List.range_succ, List.filter_append]
  simp [h]
theorem lostK_lost {S R : Int} {l : List St} {k : Nat} (h : ¬ Rch (netB S R l) (allS (netB S R l)) R.toNat k) : lostK S R l (k + 1) = lostK S R l k ++ [(k : Int)] := by
  unfold lostK
  rw [List.range_succ, List.filter_append]
  simp [h]
theorem lostK_le (S R : Int) (l : List St) (k : Nat) : (lostK S R l k).length ≤ k := by
  unfold lostK
  rw [List.length_map]
  have := List.length_filter_le (fun v => decide (¬ Rch (netB S R l) (allS (netB S R l)) R.toNat v)) (List.range k)
  rwa [List.length_range] at this
theorem lostK_all (S R : Int) (l : List St) : lostK S R l S.toNat = lostL S R l := rfl
theorem every_mem {l : List St} {i : Nat} : i ∈ allL (fun _ => true) l ↔ i < l.length := by rw [mem_allL]; simp
theorem every_rch {S R : Int} {l : List St} {a b : Nat} : Rch (netB S R l) (· ∈ allL (fun _ => true) l) a b ↔ Rch (netB S R l) (allS (netB S R l)) a b :=
  ⟨fun h => h.mono fun _ hi => every_mem.1 hi, fun h => h.mono fun _ hi => every_mem.2 hi⟩
theorem every_len (l : List St) : (allL (fun _ => true) l).length ≤ l.length := allK_le (fun _ => true) l l.length
theorem lostV_err {S R : Int} {l : List St} (h : bookErr S R l ≠ 0) : lostV S R l = ([], bookErr S R l) := by unfold lostV; rw [if_pos h]
theorem lostV_none {S R : Int} {l : List St} (h : bookErr S R l = 0) (k : lostL S R l = []) : lostV S R l = ([], 5) := by unfold lostV; rw [if_neg (by simp [h]), if_pos k]
theorem lostV_some {S R : Int} {l : List St} (h : bookErr S R l = 0) (k : lostL S R l ≠ []) : lostV S R l = (lostL S R l, 0) := by unfold lostV; rw [if_neg (by simp [h]), if_neg k]
noncomputable def fullB (N : Net) (st : List Nat) : Bool := decide (Full N (· ∈ st))
theorem fullB_iff {N : Net} {st : List Nat} : fullB N st = true ↔ Full N (· ∈ st) := by unfold fullB; simp
theorem fullB_no {N : Net} {st : List Nat} : fullB N st = false ↔ ¬ Full N (· ∈ st) := by unfold fullB; simp
end Fam

namespace Fam
open Classical
/-- c rounds are done, and the steps below j of the next one; g: as it was at the round's beginning -/
structure Cms (N : Net) (P : Nat → Prop) (c j : Nat) (g f : Nat → Int) : Prop where
  zo : ∀ v, v < N.n → f v = 0 ∨ f v = 1
  snd : ∀ v, v < N.n → f v = 1 → Rch N P N.r v
  le : ∀ v, v < N.n → g v = 1 → f v = 1
  cov : ∀ v, Rk N P N.r c v → g v = 1
  did : ∀ i, i < j → P i → g (N.fr i) = 1 → f (N.to i) = 1
theorem Cms.start {N : Net} {P : Nat → Prop} {f : Nat → Int} (hf : ∀ v, f v = if v = N.r then 1 else 0) : Cms N P 0 0 f f := by
  refine ⟨fun v _ => ?_, fun v _ h => ?_, fun _ _ h => h, fun v h => ?_, fun i hi => absurd hi (by omega)⟩
  · rw [hf]; split
    · exact .inr rfl
    · exact .inl rfl
  · rw [hf] at h
    split at h
    · next e => rw [e]; exact .refl
    · omega
  · cases h with
    | zero => rw [hf, if_pos rfl]
theorem Cms.skip {N : Net} {P : Nat → Prop} {c j : Nat} {g f : Nat → Int} (h : Cms N P c j g f) (hN : N.fr j < N.n) (hs : ¬ P j ∨ f (N.fr j) ≠ 1) : Cms N P c (j + 1) g f := by
  refine ⟨h.zo, h.snd, h.le, h.cov, fun i hi hp hg => ?_⟩
  by_cases e : i = j
  · subst e
    rcases hs with hs | hs
    · exact absurd hp hs
    · exact absurd (h.le _ hN hg) hs
  · exact h.did i (by omega) hp hg
theorem Cms.put {N : Net} {P : Nat → Prop} {c j : Nat} {g f : Nat → Int} (h : Cms N P c j g f) (hN : N.fr j < N.n) (hp : P j) (hf : f (N.fr j) = 1) : Cms N P c (j + 1) g (fun v => if v = N.to j then 1 else f v) := by
  refine ⟨fun v hv => ?_, fun v hv k => ?_, fun v hv k => ?_, h.cov, fun i hi hp hg => ?_⟩
  · split
    · exact .inr rfl
    · exact h.zo v hv
  · split at k
    · next e => rw [e]; exact .step (h.snd _ hN hf) hp
    · exact h.snd v hv k
  · split
    · rfl
    · exact h.le v hv k
  · split
    · rfl
    · next e =>
      by_cases e' : i = j
      · subst e'; exact absurd rfl e
      · exact h.did i (by omega) hp hg
theorem Cms.round {N : Net} {P : Nat → Prop} {c : Nat} {g f : Nat → Int} (h : Cms N P c N.m g f) (hP : ∀ i, P i → i < N.m) (hr : N.r < N.n) : Cms N P (c + 1) 0 f f := by
  refine ⟨h.zo, h.snd, fun _ _ k => k, fun v k => ?_, fun i hi => absurd hi (by omega)⟩
  cases k with
  | zero => exact h.le _ hr (h.cov _ .zero)
  | step k hi => exact h.did _ (hP _ hi) hi (h.cov _ k)
theorem Cms.done {N : Net} {P : Nat → Prop} {c : Nat} {g f : Nat → Int} (h : Cms N P c 0 g f) (hP : ∀ i, P i → N.to i < N.n) (hr : N.r < N.n) (hc : c = N.n) {v : Nat} (hv : v < N.n) : f v = if Rch N P N.r v then 1 else 0 := by
  by_cases k : Rch N P N.r v
  · rw [if_pos k]
    exact h.le v hv (h.cov v (by rw [hc]; exact within hP hr k))
  · rw [if_neg k]
    rcases h.zo v hv with e | e
    · exact e
    · exact absurd (h.snd v hv e) k
noncomputable def comesL (S R : Int) (l : List St) (k : Int) : List Int := (List.range S.toNat).map fun v => if Rch (netB S R l) (atMost (netB S R l) k) R.toNat v then 1 else 0
theorem comesL_len (S R : Int) (l : List St) (k : Int) : (comesL S R l k).length = S.toNat := by unfold comesL; simp
theorem comesL_at {S R : Int} {l : List St} {k : Int} {v : Nat} (h : v < S.toNat) : (comesL S R l k)[v]'(by rw [comesL_len]; exact h) = if Rch (netB S R l) (atMost (netB S R l) k) R.toNat v then 1 else 0 := by unfold comesL; simp
/-- by steps with at most so many changes as any step has: by all -/
theorem rch_most {S R : Int} {l : List St} (h : BookOk S R l) {a b : Nat} : Rch (netB S R l) (atMost (netB S R l) 1000000) a b ↔ Rch (netB S R l) (allS (netB S R l)) a b :=
  ⟨fun k => k.mono fun _ hi => hi.1, fun k => k.mono fun _ hi => ⟨hi, (h.at_ hi).2.2.2.2⟩⟩
/-- whether a list has a nought: whether someone is lost -/
theorem comesL_zero {S R : Int} {l : List St} {k : Int} : (comesL S R l k).contains 0 = true ↔ ¬ Full (netB S R l) (atMost (netB S R l) k) := by
  unfold comesL Full
  rw [List.contains_iff_mem, List.mem_map]
  constructor
  · rintro ⟨v, hv, e⟩ hf
    have hv := List.mem_range.1 hv
    have h1 : Rch (netB S R l) (atMost (netB S R l) k) R.toNat v := hf v hv
    rw [if_pos h1] at e
    omega
  · intro hf
    obtain ⟨v, hv⟩ := not_forall.1 hf
    obtain ⟨h1, h2⟩ := Classical.not_imp.1 hv
    exact ⟨v, List.mem_range.2 h1, if_neg h2⟩
end Fam

namespace Fam
/-- the group of u, and the others that lead to it, as far as those below k go -/
structure Grp (f : Nat → Nat) (u k g o : Nat) : Prop where
  glt : g < 65536
  olt : o < 65536
  gbit : ∀ v, g.testBit v = true ↔ v < k ∧ (f v).testBit u = true ∧ (f u).testBit v = true
  obit : ∀ v, o.testBit v = true ↔ v < k ∧ (f v).testBit u = true ∧ (f u).testBit v = false
theorem Grp.start (f : Nat → Nat) (u : Nat) : Grp f u 0 0 0 := ⟨by omega, by omega, fun v => by simp, fun v => by simp⟩
theorem Grp.skip {f : Nat → Nat} {u k g o : Nat} (h : Grp f u k g o) (hk : (f k).testBit u = false) : Grp f u (k + 1) g o := by
  refine ⟨h.glt, h.olt, fun v => ?_, fun v => ?_⟩
  · rw [h.gbit]
    constructor
    · exact fun ⟨a, b⟩ => ⟨by omega, b⟩
    · rintro ⟨a, b, c⟩
      refine ⟨?_, b, c⟩
      by_cases e : v = k
      · subst e; rw [hk] at b; cases b
      · omega
  · rw [h.obit]
    constructor
    · exact fun ⟨a, b⟩ => ⟨by omega, b⟩
    · rintro ⟨a, b, c⟩
      refine ⟨?_, b, c⟩
      by_cases e : v = k
      · subst e; rw [hk] at b; cases b
      · omega
theorem Grp.inn {f : Nat → Nat} {u k g o : Nat} (h : Grp f u k g o) (hk : k < 16) (h1 : (f k).testBit u = true) (h2 : (f u).testBit k = true) : Grp f u (k + 1) (g ||| 2 ^ k) o := by
  refine ⟨(put_bit h.glt hk).2.2, h.olt, fun v => ?_, fun v => ?_⟩
  · rw [testBit_or_pow, Bool.or_eq_true, h.gbit, decide_eq_true_eq]
    constructor
    · rintro (⟨a, b⟩ | a)
      · exact ⟨by omega, b⟩
      · subst a; exact ⟨by omega, h1, h2⟩
    · rintro ⟨a, b⟩
      by_cases e : v = k
      · exact .inr e
      · exact .inl ⟨by omega, b⟩
  · rw [h.obit]
    constructor
    · exact fun ⟨a, b⟩ => ⟨by omega, b⟩
    · rintro ⟨a, b, c⟩
      refine ⟨?_, b, c⟩
      by_cases e : v = k
      · subst e; rw [h2] at c; cases c
      · omega
theorem Grp.out {f : Nat → Nat} {u k g o : Nat} (h : Grp f u k g o) (hk : k < 16) (h1 : (f k).testBit u = true) (h2 : (f u).testBit k = false) : Grp f u (k + 1) g (o ||| 2 ^ k) := by
  refine ⟨h.glt, (put_bit h.olt hk).2.2, fun v => ?_, fun v => ?_⟩
  · rw [h.gbit]
    constructor
    · exact fun ⟨a, b⟩ => ⟨by omega, b⟩
    · rintro ⟨a, b, c⟩
      refine ⟨?_, b, c⟩
      by_cases e : v = k
      · subst e; rw [h2] at c; cases c
      · omega
  · rw [testBit_or_pow, Bool.or_eq_true, h.obit, decide_eq_true_eq]
    constructor
    · rintro (⟨a, b⟩ | a)
      · exact ⟨by omega, b⟩
      · subst a; exact ⟨by omega, h1, h2⟩
    · rintro ⟨a, b⟩
      by_cases e : v = k
      · exact .inr e
      · exact .inl ⟨by omega, b⟩
/-- what is returned -/
def OpenQ (N : Net) (st : List Nat) (g : Nat) : Prop := (g = 0 ∧ Full N (· ∈ st)) ∨ (g ≠ 0 ∧ Open N st (fun v => g.testBit v))
theorem Grp.open_ {N : Net} {st : List Nat} {f : Nat → Nat} (hf : ComesF N st f) (hst : ∀ i ∈ st, N.fr i < N.n) {u g o : Nat} (hu : u < N.n) (h : Grp f u N.n g o) (ho : o = 0) (hr : g.testBit N.r = false) : OpenQ N st g := by
  have hself : (f u).testBit u = true := (hf.bit u hu u).2 ⟨hu, .refl⟩
  have hmem : g.testBit u = true := (h.gbit u).2 ⟨hu, hself, hself⟩
  refine .inr ⟨fun e => by rw [e] at hmem; simp at hmem, ?_, ⟨u, hmem⟩, hr, fun x y hx hy => ?_, fun i hi => ?_⟩
  · exact fun v hv => ((h.gbit v).1 hv).1
  · obtain ⟨a1, a2, _⟩ := (h.gbit x).1 hx
    obtain ⟨_, _, b3⟩ := (h.gbit y).1 hy
    exact ((hf.bit x a1 u).1 a2).2.trans ((hf.bit u hu y).1 b3).2
  · cases he : ent N (fun v => g.testBit v) i with
    | false => rfl
    | true =>
      obtain ⟨h1, h2⟩ := ent_iff.1 he
      obtain ⟨a1, a2, _⟩ := (h.gbit _).1 h1
      have hfr := hst i hi
      have h3 : (f (N.fr i)).testBit u = true := (hf.bit _ hfr u).2 ⟨hu, (Rch.one hi).trans ((hf.bit _ a1 u).1 a2).2⟩
      cases h4 : (f u).testBit (N.fr i) with
      | true =>
        have := (h.gbit (N.fr i)).2 ⟨hfr, h3, h4⟩
        rw [this] at h2; cases h2
      | false =>
        have := (h.obit (N.fr i)).2 ⟨hfr, h3, h4⟩
        rw [ho] at this; simp at this
/-- u's group is not open -/
def ShutF (N : Net) (st : List Nat) (u : Nat) : Prop := (∃ k, k < N.n ∧ Rch N (· ∈ st) k u ∧ ¬ Rch N (· ∈ st) u k) ∨ Rch N (· ∈ st) N.r u
theorem Grp.shut {N : Net} {st : List Nat} {f : Nat → Nat} (hf : ComesF N st f) {u g o : Nat} (hu : u < N.n) (h : Grp f u N.n g o) (hs : o ≠ 0 ∨ g.testBit N.r = true) : ShutF N st u := by
  rcases hs with hs | hs
  · obtain ⟨v, hv⟩ := Nat.exists_testBit_of_ne_zero hs
    obtain ⟨a1, a2, a3⟩ := (h.obit v).1 hv
    refine .inl ⟨v, a1, ((hf.bit v a1 u).1 a2).2, fun k => ?_⟩
    have := (hf.bit u hu v).2 ⟨a1, k⟩
    rw [this] at a3; cases a3
  · obtain ⟨a1, a2, _⟩ := (h.gbit _).1 hs
    exact .inr ((hf.bit _ a1 u).1 a2).2
theorem shut_all {N : Net} {st : List Nat} (h : ∀ u, u < N.n → ShutF N st u) : OpenQ N st 0 := .inl ⟨rfl, full_of_shut h⟩
end Fam

namespace Fam
/-- a group by its bits, the chosen step, the price -/
abbrev EntM := Nat × Nat × Int
def hist (Hm : List EntM) : List Ent := Hm.map fun x => ((fun v => x.1.testBit v), x.2.1, x.2.2)
def stM (Hm : List EntM) : List Nat := stp (hist Hm)
theorem hist_snoc (Hm : List EntM) (x : EntM) : hist (Hm ++ [x]) = hist Hm ++ [((fun v => x.1.testBit v), x.2.1, x.2.2)] := by unfold hist; simp
theorem stM_snoc (Hm : List EntM) (x : EntM) : stM (Hm ++ [x]) = stM Hm ++ [x.2.1] := by unfold stM; rw [hist_snoc, stp_snoc]
theorem hist_len (Hm : List EntM) : (hist Hm).length = Hm.length := by unfold hist; simp
theorem stM_len (Hm : List EntM) : (stM Hm).length = Hm.length := by unfold stM stp hist; simp
/-- the price of a group -/
def prSum (Hm : List EntM) (g : Nat) : Int := sm (fun x => if x.1 = g then x.2.2 else 0) Hm
theorem prSum_snoc (Hm : List EntM) (x : EntM) (g : Nat) : prSum (Hm ++ [x]) g = prSum Hm g + if x.1 = g then x.2.2 else 0 := by
  unfold prSum
  rw [sm_append]
  simp [sm]
theorem Grown.next {N : Net} {Hm : List EntM} (h : Grown N (hist Hm)) {g f : Nat} (ho : Open N (stM Hm) (fun v => g.testBit v)) (hf : f < N.m) (he : ent N (fun v => g.testBit v) f = true) (hm : ∀ i, i < N.m → ent N (fun v => g.testBit v) i = true → lft N (hist Hm) f ≤ lft N (hist Hm) i) : Grown N (hist (Hm ++ [(g, f, lft N (hist Hm) f)])) := by
  rw [hist_snoc]
  exact .snoc h ho hf he hm
theorem lft_next (N : Net) (Hm : List EntM) (g f : Nat) (p : Int) (i : Nat) : lft N (hist (Hm ++ [(g, f, p)])) i = lft N (hist Hm) i - if ent N (fun v => g.testBit v) i = true then p else 0 := by
  rw [hist_snoc, lft_snoc]
/-- what is left is at most the step's changes -/
theorem Grown.lft_le {N : Net} (hN : N.Ok) {H : List Ent} (h : Grown N H) (i : Nat) : lft N H i ≤ N.ch i := by
  unfold lft
  have : 0 ≤ sm (toll N i) (prc H) := sm_pos fun x hx => by
    unfold toll
    split
    · exact h.prices hN x hx
    · exact Int.le_refl _
  omega
/-- each price, and so each group's, is bounded -/
theorem Grown.price_le {N : Net} (hN : N.Ok) {b : Int} (hb : ∀ i, i < N.m → N.ch i ≤ b) {H : List Ent} (h : Grown N H) : ∀ x ∈ H, 0 ≤ x.2.2 ∧ x.2.2 ≤ b := by
  induction h with
  | nil => intro x hx; cases hx
  | @snoc H S f hg ho hf he hl ih =>
    intro x hx
    rw [List.mem_append, List.mem_singleton] at hx
    rcases hx with hx | hx
    · exact ih x hx
    · subst hx
      have h1 := hg.lft_pos hN f hf
      have h2 := hg.lft_le hN f
      have h3 := hb f hf
      exact ⟨h1, by dsimp only; omega⟩
theorem prSum_bound {N : Net} (hN : N.Ok) {b : Int} (_hb0 : 0 ≤ b) (hb : ∀ i, i < N.m → N.ch i ≤ b) {Hm : List EntM} (h : Grown N (hist Hm)) (g : Nat) : 0 ≤ prSum Hm g ∧ prSum Hm g ≤ b * Hm.length := by
  have hx : ∀ x ∈ Hm, 0 ≤ x.2.2 ∧ x.2.2 ≤ b := fun x hx => h.price_le hN hb _ (List.mem_map.2 ⟨x, hx, rfl⟩)
  clear h
  unfold prSum
  induction Hm with
  | nil => simp [sm]
  | cons y Hm ih =>
    have h1 := hx y (by simp)
    have h2 := ih fun x hx' => hx x (by simp [hx'])
    simp only [sm, List.length_cons]
    rw [show ((Hm.length + 1 : Nat) : Int) = (Hm.length : Int) + 1 by omega, Int.mul_add, Int.mul_one]
    generalize b * (Hm.length : Int) = c at h2 ⊢
    split <;> omega
/-- no step goes into an open group: not all variants come from the root -/
theorem Open.stuck {N : Net} {F : List Nat} {S : Nat → Bool} (ho : Open N F S) (h : ∀ i, i < N.m → ent N S i = false) : ¬ Full N (allS N) := fun hf => by
  obtain ⟨v, hv⟩ := ho.ne
  obtain ⟨i, hi, he⟩ := cross (hf v (ho.sub v hv)) ho.root hv
  rw [h i hi] at he; cases he
end Fam

namespace Fam
/-- each step at its aim -/
def layGo (N : Net) (t : List Int) (K : List Nat) : List Int := K.foldl (fun t i => t.set (N.to i) (i : Int)) t
theorem layGo_len (N : Net) : ∀ (K : List Nat) (t : List Int), (layGo N t K).length = t.length
  | [], _ => rfl
  | x :: K, t => by
    show (layGo N (t.set (N.to x) (x : Int)) K).length = _
    rw [layGo_len N K]; simp
theorem layGo_snoc (N : Net) (t : List Int) (K : List Nat) (x : Nat) : layGo N t (K ++ [x]) = (layGo N t K).set (N.to x) (x : Int) := by unfold layGo; rw [List.foldl_append]; rfl
theorem layGo_not {N : Net} {v : Nat} : ∀ (K : List Nat) (t : List Int), (∀ i ∈ K, N.to i ≠ v) → (layGo N t K)[v]? = t[v]?
  | [], _, _ => rfl
  | x :: K, t, h => by
    show (layGo N (t.set (N.to x) (x : Int)) K)[v]? = _
    rw [layGo_not K _ (fun i hi => h i (by simp [hi])), List.getElem?_set_ne (h x (by simp))]
theorem layGo_in {N : Net} {i : Nat} : ∀ (K : List Nat) (t : List Int), (∀ a ∈ K, ∀ b ∈ K, N.to a = N.to b → a = b) → i ∈ K → N.to i < t.length → (layGo N t K)[N.to i]? = some (i : Int)
  | [], _, _, h, _ => by cases h
  | x :: K, t, hj, h, hl => by
    show (layGo N (t.set (N.to x) (x : Int)) K)[N.to i]? = _
    by_cases hi : i ∈ K
    · exact layGo_in K _ (fun a ha b hb => hj a (by simp [ha]) b (by simp [hb])) hi (by simpa using hl)
    · obtain rfl : i = x := by
        rcases List.mem_cons.1 h with h | h
        · exact h
        · exact absurd h hi
      rw [layGo_not K _ (fun a ha e => hi (by rw [← hj a (by simp [ha]) i (by simp) e]; exact ha))]
      rw [List.getElem?_set_self hl]
def layL (N : Net) (K : List Nat) : List Int := layGo N (List.replicate N.n (-1)) K
theorem layL_tree {N : Net} (hN : N.Ok) {H : List Ent} (hG : Grown N H) {K : List Nat} (hR : Pruned N (stp H) 0 K) (hF : Full N (· ∈ stp H)) : TreeL N (layL N K) ∧ costL N (layL N K) = bound (prc H) := by
  have hinj := hR.inj hN hG hF
  have hsub : ∀ i ∈ K, i ∈ stp H := fun i hi => by
    obtain ⟨j, _, h⟩ := hR.mem i hi
    exact List.mem_of_getElem? h
  have hlt : ∀ i ∈ K, i < N.m := fun i hi => hG.lt i (hsub i hi)
  have hlen : (layL N K).length = N.n := by unfold layL; rw [layGo_len]; simp
  have hin : ∀ i ∈ K, (layL N K).getD (N.to i) 0 = (i : Int) := fun i hi => by
    rw [List.getD_eq_getElem?_getD]
    unfold layL
    rw [layGo_in K _ hinj hi (by simpa using hN.tom i (hlt i hi))]; rfl
  have hT : ∀ i ∈ K, treeF (layL N K) (N.to i) = i := fun i hi => by unfold treeF; rw [hin i hi]; simp
  obtain ⟨_, h2, h3, h4⟩ := hR.tree hN hG hF hT
  refine ⟨⟨hlen, ?_, fun v hv hr => ?_, h3⟩, h4⟩
  · rw [List.getD_eq_getElem?_getD]
    unfold layL
    rw [layGo_not K _ (fun i hi => hG.to_root i (hsub i hi)), List.getElem?_replicate, if_pos hN.root]; rfl
  · have hv' := h2 v hv hr
    have e := (h3.to v hv hr).2
    have := hin _ hv'
    rw [e] at this
    rw [this]; omega
/-- the changes of a tree's steps -/
theorem TreeL.sum {N : Net} {t : List Int} (h : TreeL N t) : sm (fun x => if x < 0 then 0 else N.ch x.toNat) t = costL N t := by
  have e : t = (List.range N.n).map fun v => t.getD v 0 := by
    refine List.ext_getElem (by simp [h.1]) fun i h1 h2 => ?_
    rw [List.getElem_map, List.getElem_range, List.getD_eq_getElem?_getD, List.getElem?_eq_getElem h1]; rfl
  have h5 : sm (fun x => if x < 0 then 0 else N.ch x.toNat) t = sm (fun v => if t.getD v 0 < 0 then 0 else N.ch (t.getD v 0).toNat) (List.range N.n) := by
    conv => lhs; rw [e]
    rw [sm_map]
  rw [h5]
  unfold costL cost
  refine sm_congr fun v hv => ?_
  unfold costAt
  by_cases hr : v = N.r
  · rw [if_pos hr, hr, h.2.1]; rfl
  · rw [if_neg hr, if_neg (by have := h.2.2.1 v (List.mem_range.1 hv) hr; omega)]; rfl
end Fam

namespace Fam
/-- the numbers of a group below k -/
def bitsK (g k : Nat) : List Int := ((List.range k).filter fun v => g.testBit v).map fun v : Nat => (v : Int)
def bitsL (g : Nat) : List Int := bitsK g 16
theorem bitsK_gap {g a : Nat} : ∀ b, a ≤ b → (∀ v, a ≤ v → v < b → g.testBit v = false) → bitsK g b = bitsK g a
  | 0, h, _ => by obtain rfl : a = 0 := by omega
                  rfl
  | b + 1, h, hv => by
    by_cases e : a = b + 1
    · rw [e]
    · rw [← bitsK_gap b (by omega) (fun v h1 h2 => hv v h1 (by omega))]
      unfold bitsK
      rw [List.range_succ, List.filter_append, List.map_append]
      simp [hv b (by omega) (by omega)]
theorem bitsK_put {g k : Nat} (h : g.testBit k = true) : bitsK g (k + 1) = bitsK g k ++ [(k : Int)] := by
  unfold bitsK
  rw [List.range_succ, List.filter_append, List.map_append]
  simp [h]
theorem bitsK_len (g k : Nat) : (bitsK g k).length ≤ k := by
  unfold bitsK
  rw [List.length_map]
  exact Nat.le_trans (List.length_filter_le _ _) (by simp)
theorem mem_bitsK {g k : Nat} {x : Int} : x ∈ bitsK g k ↔ ∃ v, v < k ∧ g.testBit v = true ∧ x = v := by
  unfold bitsK
  simp only [List.mem_map, List.mem_filter, List.mem_range]
  constructor
  · rintro ⟨v, ⟨h1, h2⟩, rfl⟩; exact ⟨v, h1, h2, rfl⟩
  · rintro ⟨v, h1, h2, rfl⟩; exact ⟨v, ⟨h1, h2⟩, rfl⟩
theorem bitsK_rise (g : Nat) : ∀ k, (bitsK g k).Pairwise (· < ·)
  | 0 => List.Pairwise.nil
  | k + 1 => by
    by_cases h : g.testBit k = true
    · rw [bitsK_put h, List.pairwise_append]
      refine ⟨bitsK_rise g k, by simp, fun x hx y hy => ?_⟩
      obtain ⟨v, h1, _, rfl⟩ := mem_bitsK.1 hx
      rw [List.mem_singleton] at hy
      subst hy
      omega
    · rw [bitsK_gap (a := k) (k + 1) (by omega) (fun v h1 h2 => by
        obtain rfl : v = k := by omega
        simpa using h)]
      exact bitsK_rise g k
/-- what is left of a group's bits -/
structure RestB (g k r : Nat) : Prop where
  k16 : k ≤ 16
  bits : ∀ v, r.testBit v = (g.testBit v && decide (k ≤ v))
theorem RestB.start (g : Nat) : RestB g 0 g := ⟨by omega, fun v => by simp⟩
theorem two_parts {t m v : Nat} : (2 ^ t * (2 * m + 1)).testBit v = (decide (v = t) || (decide (t < v) && m.testBit (v - t - 1))) := by
  have e : 2 ^ t * (2 * m + 1) = 2 ^ (t + 1) * m + 2 ^ t := by rw [Nat.mul_add, Nat.mul_one, Nat.pow_succ, Nat.mul_assoc]
  have h : 2 ^ t < 2 ^ (t + 1) := Nat.pow_lt_pow_right (by omega) (by omega)
  rw [e, Nat.testBit_two_pow_mul_add _ h, Nat.testBit_two_pow]
  by_cases c : v < t + 1
  · rw [if_pos c]
    by_cases d : v = t
    · subst d; simp
    · have h1 : ¬ t < v := by omega
      have h2 : ¬ t = v := by omega
      rw [decide_eq_false h1, decide_eq_false h2, decide_eq_false d]; rfl
  · rw [if_neg c]
    have h1 : t < v := by omega
    have h2 : ¬ v = t := by omega
    simp [h1, h2, Nat.sub_sub]
theorem less_one {t m v : Nat} : (2 ^ t * (2 * m + 1) - 1).testBit v = (decide (v < t) || (decide (t < v) && m.testBit (v - t - 1))) := by
  have hp : 0 < 2 ^ t := Nat.two_pow_pos t
  have e : 2 ^ t * (2 * m + 1) - 1 = 2 ^ (t + 1) * m + (2 ^ t - 1) := by rw [Nat.mul_add, Nat.mul_one, Nat.pow_succ, Nat.mul_assoc]; omega
  have h : 2 ^ t - 1 < 2 ^ (t + 1) := by rw [Nat.pow_succ]; omega
  rw [e, Nat.testBit_two_pow_mul_add _ h, Nat.testBit_two_pow_sub_one]
  by_cases c : v < t + 1
  · rw [if_pos c]
    have : ¬ t < v := by omega
    simp [this]
  · rw [if_neg c]
    have h1 : t < v := by omega
    have h2 : ¬ v < t := by omega
    simp [h1, h2, Nat.sub_sub]
theorem RestB.next {g k r : Nat} (h : RestB g k r) (hr : r ≠ 0) (h64 : r < 2 ^ 64) (hg : g < 65536) : bitsK g (Go.Lib.ctz 64 r + 1) = bitsK g k ++ [(Go.Lib.ctz 64 r : Int)] ∧ RestB g (Go.Lib.ctz 64 r + 1) (r &&& (r - 1)) ∧ r &&& (r - 1) < r ∧ Go.Lib.ctz 64 r < 16 := by
  obtain ⟨m, hm, ht⟩ := Go.Lib.ctzFrom_spec 64 r (by omega) h64
  have e : Go.Lib.ctz 64 r = Go.Lib.ctzFrom 64 r := by simp [Go.Lib.ctz, hr]
  rw [e]
  generalize Go.Lib.ctzFrom 64 r = t at hm ht
  have hb : ∀ v, (g.testBit v && decide (k ≤ v)) = (decide (v = t) || (decide (t < v) && m.testBit (v - t - 1))) := fun v => by rw [← h.bits, hm, two_parts]
  have hgt := hb t
  simp only [decide_true, Bool.true_or, Bool.and_eq_true, decide_eq_true_eq] at hgt
  have h16 : t < 16 := by
    rcases Nat.lt_or_ge t 16 with c | c
    · exact c
    · have : g < 2 ^ t := Nat.lt_of_lt_of_le hg (Nat.pow_le_pow_right (by omega) c : 2 ^ 16 ≤ 2 ^ t)
      rw [Nat.testBit_lt_two_pow this] at hgt
      exact absurd hgt.1 (by simp)
  refine ⟨?_, ⟨by omega, fun v => ?_⟩, ?_, h16⟩
  · rw [bitsK_put hgt.1, bitsK_gap (a := k) t hgt.2 (fun v h1 h2 => by
      have := hb v
      have a1 : ¬ v = t := by omega
      have a2 : ¬ t < v := by omega
      simpa [h1, a1, a2] using this)]
  · rw [Nat.testBit_and]
    have h2 := hb v
    rw [hm, two_parts, less_one]
    by_cases c : t < v
    · have a1 : ¬ v = t := by omega
      have a2 : ¬ v < t := by omega
      have a3 : t + 1 ≤ v := by omega
      have a4 : k ≤ v := by omega
      simp only [c, a1, a2, a3, a4, decide_true, decide_false, Bool.true_and, Bool.false_or, Bool.and_true, Bool.and_self] at h2 ⊢
      exact h2.symm
    · have a3 : ¬ t + 1 ≤ v := by omega
      by_cases d : v = t
      · subst d; simp
      · simp [c, a3, d]
  · have : r &&& (r - 1) ≤ r - 1 := Nat.and_le_right
    omega
theorem RestB.done {g k : Nat} (h : RestB g k 0) : bitsK g k = bitsL g := by
  refine (bitsK_gap 16 h.k16 fun v h1 h2 => ?_).symm
  have := h.bits v
  simpa [h1] using this.symm

/-- the groups that have a price -/
structure ToldQ (Hm : List EntM) (gs : List Nat) : Prop where
  nodup : gs.Nodup
  mem : ∀ g, g ∈ gs ↔ g < 65536 ∧ prSum Hm g ≠ 0
def toldL (Hm : List EntM) (gs : List Nat) : List Pc := gs.map fun g => (bitsL g, prSum Hm g)
theorem prSum_zero {Hm : List EntM} {g : Nat} (h : ∀ x ∈ Hm, x.1 ≠ g) : prSum Hm g = 0 := by
  unfold prSum
  rw [sm_congr (g := fun _ => 0) (fun x hx => if_neg (h x hx)), sm_zero]
theorem ToldQ.len {Hm : List EntM} {gs : List Nat} (h : ToldQ Hm gs) : gs.length ≤ Hm.length := by
  have := nodup_le gs (Hm.map fun x => x.1) h.nodup fun g hg => by
    have h1 := ((h.mem g).1 hg).2
    rcases Classical.em (∃ x ∈ Hm, x.1 = g) with ⟨x, hx, e⟩ | c
    · exact List.mem_map.2 ⟨x, hx, e⟩
    · exact absurd (prSum_zero fun x hx e => c ⟨x, hx, e⟩) h1
  simpa using this
theorem ToldQ.sum {Hm : List EntM} {gs : List Nat} (h : ToldQ Hm gs) (hp : ∀ x ∈ Hm, x.1 < 65536 ∧ 0 ≤ x.2.2) (c : Nat → Bool) :
    sm (fun g => if c g = true then prSum Hm g else 0) gs = sm (fun x => if c x.1 = true then x.2.2 else 0) Hm := by
  have e : ∀ g ∈ gs, (if c g = true then prSum Hm g else 0) = sm (fun x : EntM => if x.1 = g then (if c x.1 = true then x.2.2 else 0) else 0) Hm := fun g _ => by
    by_cases hc : c g = true
    · rw [if_pos hc]
      unfold prSum
      refine sm_congr fun x _ => ?_
      by_cases e : x.1 = g
      · rw [if_pos e, if_pos e, e, if_pos hc]
      · rw [if_neg e, if_neg e]
    · rw [if_neg hc]
      refine ((sm_congr (g := fun _ => 0) fun x _ => ?_).trans (sm_zero _)).symm
      by_cases e : x.1 = g
      · rw [if_pos e, e, if_neg hc]
      · rw [if_neg e]
  rw [sm_congr e, sm_swap]
  refine sm_congr fun x hx => ?_
  by_cases hm : x.1 ∈ gs
  · rw [sm_one h.nodup hm (fun g _ hne => if_neg (fun e => hne e.symm)), if_pos rfl]
  · rw [sm_congr (g := fun _ => 0) (fun g hg => if_neg (fun e : x.1 = g => hm (by rw [e]; exact hg))), sm_zero]
    have h1 : prSum Hm x.1 = 0 := by
      rcases Classical.em (prSum Hm x.1 = 0) with h1 | h1
      · exact h1
      · exact absurd ((h.mem _).2 ⟨(hp x hx).1, h1⟩) hm
    have h2 := sm_some (f := fun y : EntM => if y.1 = x.1 then y.2.2 else 0) (fun y hy => by
      split
      · exact (hp y hy).2
      · exact Int.le_refl _) hx
    unfold prSum at h1
    rw [h1] at h2
    rw [if_pos rfl] at h2
    have h3 := (hp x hx).2
    split <;> omega
theorem lt_of_bits {g : Nat} (h : ∀ v, g.testBit v = true → v < 16) : g < 65536 := by
  rcases Nat.lt_or_ge g 65536 with c | c
  · exact c
  · exfalso
    obtain ⟨v, hv, hb⟩ := Nat.exists_ge_and_testBit_of_ge_two_pow (n := 16) c
    have := h v hb
    omega
section
variable {S R : Int} {l : List St}
theorem grp_bits {g : Nat} (hg : g < 65536) (v : Nat) : grp (bitsL g) v = g.testBit v := by
  unfold grp
  rw [Bool.eq_iff_iff, List.contains_iff_mem]
  unfold bitsL
  rw [mem_bitsK]
  constructor
  · rintro ⟨u, h1, h2, e⟩
    obtain rfl : v = u := by omega
    exact h2
  · intro h
    refine ⟨v, ?_, h, rfl⟩
    rcases Nat.lt_or_ge v 16 with c | c
    · exact c
    · have : g < 2 ^ v := Nat.lt_of_lt_of_le hg (Nat.pow_le_pow_right (by omega) c : 2 ^ 16 ≤ 2 ^ v)
      rw [Nat.testBit_lt_two_pow this] at h; cases h
theorem told_right (hok : BookOk S R l) {Hm : List EntM} (hG : Grown (netB S R l) (hist Hm)) {gs : List Nat} (h : ToldQ Hm gs) : pricesV S R l (toldL Hm gs) = (bound (prc (hist Hm)), 0) := by
  have hN := hok.net
  have hd := hok.dim
  have hr := hok.root
  have hn16 : (netB S R l).n ≤ 16 := by show S.toNat ≤ 16; omega
  have hopen : ∀ x ∈ Hm, (∀ v, x.1.testBit v = true → v < (netB S R l).n) ∧ (∃ v, x.1.testBit v = true) ∧ x.1.testBit (netB S R l).r = false := fun x hx => by
    obtain ⟨k, _, ho⟩ := hG.at_ _ (List.mem_map.2 ⟨x, hx, rfl⟩)
    exact ⟨ho.sub, ho.ne, ho.root⟩
  have hch : ∀ i, i < (netB S R l).m → (netB S R l).ch i ≤ 1000000 := fun i hi => by have := (hok.at_ (i := i) hi).2.2.2.2; exact this
  have hp : ∀ x ∈ Hm, x.1 < 65536 ∧ 0 ≤ x.2.2 := fun x hx => ⟨lt_of_bits fun v hv => by have := (hopen x hx).1 v hv; omega, (hG.price_le hN hch _ (List.mem_map.2 ⟨x, hx, rfl⟩)).1⟩
  have hmany := hG.many hN
  rw [hist_len] at hmany
  have hin : ∀ g ∈ gs, ∃ x ∈ Hm, x.1 = g := fun g hg => by
    rcases Classical.em (∃ x ∈ Hm, x.1 = g) with c | c
    · exact c
    · exact absurd (prSum_zero fun x hx e => c ⟨x, hx, e⟩) ((h.mem g).1 hg).2
  have hlen : (toldL Hm gs).length ≤ 40 := by
    unfold toldL
    rw [List.length_map]
    have := h.len
    omega
  have htoll : ∀ i, sm (toll (netB S R l) i) (prcP (toldL Hm gs)) = sm (toll (netB S R l) i) (prc (hist Hm)) := fun i => by
    unfold prcP toldL prc hist
    rw [sm_map, sm_map, sm_map, sm_map]
    have h1 := h.sum hp fun g => ent (netB S R l) (fun v => g.testBit v) i
    rw [show sm (fun x => toll (netB S R l) i (x.1.testBit, x.2.2)) Hm = sm (fun x : EntM => if (fun g => ent (netB S R l) (fun v => g.testBit v) i) x.1 = true then x.2.2 else 0) Hm from rfl, ← h1]
    refine sm_congr fun g hg => ?_
    have hg' := ((h.mem g).1 hg).1
    show toll (netB S R l) i (grp (bitsL g), prSum Hm g) = _
    rw [show grp (bitsL g) = fun v => g.testBit v from funext fun v => grp_bits hg' v]
    rfl
  have hbnd : sumP (toldL Hm gs) = bound (prc (hist Hm)) := by
    unfold sumP toldL bound prc hist
    rw [sm_map, sm_map, sm_map]
    have h1 := h.sum hp fun _ => true
    simp only [if_true] at h1
    exact h1
  rw [pricesV_ok hok hlen, hbnd]
  · intro y hy
    obtain ⟨g, hg, rfl⟩ := List.mem_map.1 hy
    obtain ⟨x, hx, rfl⟩ := hin g hg
    obtain ⟨h1, ⟨v, hv⟩, h3⟩ := hopen x hx
    have hg' := (hp x hx).1
    have hpb := prSum_bound hN (by omega) hch hG x.1
    refine ⟨fun e => ?_, fun e => ?_, ⟨hpb.1, ?_⟩, fun n hn => ?_, bitsK_rise _ _⟩
    · have : (v : Int) ∈ bitsL x.1 := mem_bitsK.2 ⟨v, by have := h1 v hv; omega, hv, rfl⟩
      dsimp only at e
      rw [e] at this; cases this
    · obtain ⟨u, _, h2, e2⟩ := mem_bitsK.1 e
      have : (netB S R l).r = u := by show R.toNat = u; omega
      rw [this, h2] at h3; cases h3
    · have h5 : (1000000 : Int) * Hm.length ≤ 1000000 * 30 := Int.mul_le_mul_of_nonneg_left (by omega) (by omega)
      dsimp only
      omega
    · obtain ⟨u, _, h2, rfl⟩ := mem_bitsK.1 hn
      have := h1 u h2
      have h6 : (netB S R l).n = S.toNat := rfl
      omega
  · intro i hi
    rw [htoll i]
    exact (hG.right hN).sum i hi
end
end Fam

namespace Fam
/-- behind j numbers of the group g -/
structure GrpK (S R : Int) (g : List Int) (j m : Nat) (last : Int) : Prop where
  bits : ∀ v : Nat, m.testBit v = (g.take j).contains (v : Int)
  lt : m < 65536
  ok : ∀ n ∈ g.take j, 0 ≤ n ∧ n < S ∧ n ≠ R ∧ n ≤ last
  rise : (g.take j).Pairwise (· < ·)
  neg : -1 ≤ last
  none : j = 0 → last = -1
  some : 0 < j → last ∈ g.take j
  hi : last < 16
theorem GrpK.start (S R : Int) (g : List Int) : GrpK S R g 0 0 (-1) := ⟨fun v => by simp, by omega, fun n h => by simp at h, by simp, by omega, fun _ => rfl, fun h => by omega, by omega⟩
theorem take_snoc' {α : Type} {l : List α} {k : Nat} (hk : k < l.length) : l.take (k + 1) = l.take k ++ [l[k]] := List.take_succ_eq_append_getElem hk
theorem GrpK.next {S R : Int} (hS : S ≤ 16) {g : List Int} {j m : Nat} {last : Int} (h : GrpK S R g j m last) (hj : j < g.length) {n : Nat} (e : g[j] = (n : Int)) (h1 : last < n) (h2 : (n : Int) < S) (h3 : (n : Int) ≠ R) (hlt : m ||| 2 ^ n < 65536) : GrpK S R g (j + 1) (m ||| 2 ^ n) n := by
  refine ⟨fun v => ?_, hlt, fun x hx => ?_, ?_, by omega, fun h => by omega, fun _ => ?_, by omega⟩
  · rw [testBit_or_pow, h.bits, take_snoc' hj, e]
    rw [Bool.eq_iff_iff]
    simp only [Bool.or_eq_true, decide_eq_true_eq, List.contains_iff_mem, List.mem_append, List.mem_singleton]
    constructor
    · rintro (k | k)
      · exact .inl k
      · right; omega
    · rintro (k | k)
      · exact .inl k
      · right; omega
  · rw [take_snoc' hj, e, List.mem_append, List.mem_singleton] at hx
    rcases hx with hx | hx
    · have := h.ok x hx
      exact ⟨this.1, this.2.1, this.2.2.1, by omega⟩
    · subst hx
      exact ⟨by omega, h2, h3, Int.le_refl _⟩
  · rw [take_snoc' hj, e, List.pairwise_append]
    refine ⟨h.rise, by simp, fun x hx y hy => ?_⟩
    rw [List.mem_singleton] at hy
    subst hy
    have := (h.ok x hx).2.2.2
    omega
  · rw [take_snoc' hj, e]; simp
theorem GrpK.stop {S R : Int} {g : List Int} {j m : Nat} {last p : Int} (h : GrpK S R g j m last) (hj : j < g.length) (hb : g[j] ≤ last ∨ S ≤ g[j] ∨ g[j] = R) : ¬ grpOk S R (g, p) := by
  rintro ⟨_, h2, _, h4, h5⟩
  dsimp only at h2 h4 h5
  have hm := List.getElem_mem hj
  have h6 := h4 _ hm
  rcases hb with hb | hb | hb
  · by_cases c : j = 0
    · have := h.none c; omega
    · have hl := h.some (by omega)
      obtain ⟨i, hi, e⟩ := List.mem_iff_getElem.1 hl
      rw [List.length_take] at hi
      rw [List.getElem_take] at e
      have := List.pairwise_iff_getElem.1 h5 i j (by omega) hj (by omega)
      omega
  · omega
  · rw [hb] at hm; exact h2 hm
theorem GrpK.zero {S R : Int} {g : List Int} {m : Nat} {last : Int} (h : GrpK S R g g.length m last) : m = 0 ↔ g = [] := by
  constructor
  · intro e
    cases hg : g with
    | nil => rfl
    | cons x g' =>
      have hx : x ∈ g.take g.length := by rw [List.take_length, hg]; simp
      have h1 := h.ok x hx
      obtain ⟨n, rfl⟩ := Int.eq_ofNat_of_zero_le h1.1
      have h2 := h.bits n
      rw [e] at h2
      simp only [Nat.zero_testBit] at h2
      have h3 : (g.take g.length).contains (n : Int) = true := by rw [List.contains_iff_mem]; exact hx
      rw [h3] at h2; cases h2
  · intro e
    refine Nat.eq_of_testBit_eq fun v => ?_
    rw [h.bits v, e]; simp
theorem GrpK.good {S R : Int} {g : List Int} {m : Nat} {last p : Int} (h : GrpK S R g g.length m last) (hm : m ≠ 0) (h0 : 0 ≤ p) (h1 : p ≤ 1099511627776) : grpOk S R (g, p) := by
  have hl : g.take g.length = g := List.take_length
  refine ⟨fun e => hm (h.zero.2 e), fun e => ?_, ⟨h0, h1⟩, fun n hn => ?_, ?_⟩
  · rw [← hl] at e; exact (h.ok R e).2.2.1 rfl
  · have := h.ok n (by rw [hl]; exact hn)
    exact ⟨this.1, this.2.1⟩
  · have := h.rise; rw [hl] at this; exact this
theorem GrpK.empty {S R : Int} {g : List Int} {m : Nat} {last p : Int} (h : GrpK S R g g.length m last) (hm : m = 0) : ¬ grpOk S R (g, p) := fun k => k.1 (h.zero.1 hm)
theorem price_bad {S R : Int} {g : List Int} {p : Int} (h : p < 0 ∨ 1099511627776 < p) : ¬ grpOk S R (g, p) := fun k => by
  have := k.2.2.1
  dsimp only at this
  omega
theorem GrpK.same {S R : Int} {g : List Int} {m : Nat} {last : Int} (h : GrpK S R g g.length m last) : grp g = fun v => m.testBit v := funext fun v => by
  rw [h.bits v, List.take_length]; rfl
section
variable {S R : Int} {l : List St}
/-- what is left of a step's changes behind k groups -/
def leftK (N : Net) (P : List Pc) (k i : Nat) : Int := N.ch i - sm (toll N i) (prcP (P.take k))
theorem leftK_zero (N : Net) (P : List Pc) (i : Nat) : leftK N P 0 i = N.ch i := by unfold leftK prcP; simp [sm]
theorem leftK_next {N : Net} {P : List Pc} {k : Nat} (hk : k < P.length) (i : Nat) : leftK N P (k + 1) i = leftK N P k i - toll N i (grp P[k].1, P[k].2) := by
  unfold leftK prcP
  rw [take_snoc' hk, List.map_append, sm_append]
  simp only [List.map_cons, List.map_nil, sm]
  omega
theorem sumP_next {P : List Pc} {k : Nat} (hk : k < P.length) : sumP (P.take (k + 1)) = sumP (P.take k) + P[k].2 := by
  unfold sumP
  rw [take_snoc' hk, sm_append]
  simp only [sm]
  omega
theorem sumP_bound {P : List Pc} {k : Nat} (h : ∀ x ∈ P.take k, 0 ≤ x.2 ∧ x.2 ≤ 1099511627776) : 0 ≤ sumP (P.take k) ∧ sumP (P.take k) ≤ 1099511627776 * (P.take k).length := by
  generalize P.take k = T at h ⊢
  induction T with
  | nil => simp [sumP, sm]
  | cons x T ih =>
    have h1 := h x (by simp)
    have h2 := ih fun y hy => h y (by simp [hy])
    unfold sumP at h2 ⊢
    simp only [sm, List.length_cons]
    omega
theorem toll_bound {N : Net} {P : List Pc} {k i : Nat} (h : ∀ x ∈ P.take k, 0 ≤ x.2 ∧ x.2 ≤ 1099511627776) : 0 ≤ sm (toll N i) (prcP (P.take k)) ∧ sm (toll N i) (prcP (P.take k)) ≤ 1099511627776 * (P.take k).length := by
  generalize P.take k = T at h ⊢
  induction T with
  | nil => simp [prcP, sm]
  | cons x T ih =>
    have h1 := h x (by simp)
    have h2 := ih fun y hy => h y (by simp [hy])
    unfold prcP at h2 ⊢
    simp only [List.map_cons, sm, List.length_cons]
    have h3 : 0 ≤ toll N i (grp x.1, x.2) ∧ toll N i (grp x.1, x.2) ≤ 1099511627776 := by
      unfold toll
      by_cases c : ent N (grp x.1, x.2).1 i = true
      · rw [if_pos c]; exact h1
      · rw [if_neg c]; omega
    omega
theorem leftK_bound (hok : BookOk S R l) {P : List Pc} (hP : P.length ≤ 40) {k : Nat} (h : ∀ x ∈ P.take k, 0 ≤ x.2 ∧ x.2 ≤ 1099511627776) {i : Nat} (hi : i < l.length) : -43980465111040 ≤ leftK (netB S R l) P k i ∧ leftK (netB S R l) P k i ≤ 1000000 := by
  have h1 := toll_bound (N := netB S R l) (i := i) h
  have h2 := (hok.at_ hi).2.2.2
  have h3 : (P.take k).length ≤ 40 := by rw [List.length_take]; omega
  have h4 : (netB S R l).ch i = (stAt l i).2.2 := rfl
  unfold leftK
  omega
theorem pricesV_err (h : bookErr S R l ≠ 0) (P : List Pc) : pricesV S R l P = (0, bookErr S R l) := by unfold pricesV; rw [if_pos h]
theorem pricesV_many (h : BookOk S R l) {P : List Pc} (hp : 40 < P.length) : pricesV S R l P = (0, 6) := by unfold pricesV; rw [if_neg (by simp [bookErr_iff.2 h]), if_pos hp]
theorem pricesV_grp (h : BookOk S R l) {P : List Pc} (hp : P.length ≤ 40) {x : Pc} (hx : x ∈ P) (hg : ¬ grpOk S R x) : pricesV S R l P = (0, 3) := by
  unfold pricesV
  rw [if_neg (by simp [bookErr_iff.2 h]), if_neg (by omega), if_pos (fun k => hg (k x hx))]
theorem pricesV_sum (h : BookOk S R l) {P : List Pc} (hp : P.length ≤ 40) (hg : ∀ x ∈ P, grpOk S R x) {i : Nat} (hi : i < l.length) (hn : leftK (netB S R l) P P.length i < 0) : pricesV S R l P = (0, 14) := by
  unfold pricesV
  unfold leftK at hn
  rw [List.take_length] at hn
  rw [if_neg (by simp [bookErr_iff.2 h]), if_neg (by omega), if_neg (by simp only [Classical.not_not]; exact hg), if_pos (fun k => by have := k i hi; omega)]
theorem pricesV_fine (h : BookOk S R l) {P : List Pc} (hp : P.length ≤ 40) (hg : ∀ x ∈ P, grpOk S R x) (hn : ∀ i, i < l.length → 0 ≤ leftK (netB S R l) P P.length i) : pricesV S R l P = (sumP P, 0) :=
  pricesV_ok h hp hg fun i hi => by
    have := hn i hi
    unfold leftK at this
    rw [List.take_length] at this
    omega
end
end Fam

namespace Fam
/-- behind j numbers of a group -/
structure GrpR (S : Int) (g : List Int) (j : Nat) : Prop where
  ok : ∀ n ∈ g.take j, 0 ≤ n ∧ n < S
  rise : (g.take j).Pairwise (· < ·)
theorem GrpR.start (S : Int) (g : List Int) : GrpR S g 0 := ⟨fun n h => by simp at h, by simp⟩
theorem GrpR.next {S : Int} {g : List Int} {j : Nat} (h : GrpR S g j) (hj : j < g.length) (h1 : songC S g[j] = true) (h2 : ∀ hp : 0 < j, g[j - 1] < g[j]) : GrpR S g (j + 1) := by
  refine ⟨fun x hx => ?_, ?_⟩
  · rw [take_snoc' hj, List.mem_append, List.mem_singleton] at hx
    rcases hx with hx | hx
    · exact h.ok x hx
    · subst hx; exact songC_iff.1 h1
  · rw [take_snoc' hj, List.pairwise_append]
    refine ⟨h.rise, by simp, fun x hx y hy => ?_⟩
    rw [List.mem_singleton] at hy
    subst hy
    obtain ⟨i, hi, e⟩ := List.mem_iff_getElem.1 hx
    rw [List.length_take] at hi
    rw [List.getElem_take] at e
    have h3 := h2 (by omega)
    by_cases c : i = j - 1
    · subst c; omega
    · have h4 := List.pairwise_iff_getElem.1 h.rise i (j - 1) (by rw [List.length_take]; omega) (by rw [List.length_take]; omega) (by omega)
      rw [List.getElem_take, List.getElem_take] at h4
      omega
theorem GrpR.stop {S R : Int} {g : List Int} {p : Int} {j : Nat} (hj : j < g.length) (hb : songC S g[j] = false ∨ ∃ hp : 0 < j, g[j] ≤ g[j - 1]) : ¬ grpOk S R (g, p) := by
  rintro ⟨_, _, _, h4, h5⟩
  dsimp only at h4 h5
  rcases hb with hb | ⟨hp, hb⟩
  · have := h4 _ (List.getElem_mem hj)
    rw [songC_iff.2 this] at hb; cases hb
  · have := List.pairwise_iff_getElem.1 h5 (j - 1) j (by omega) hj (by omega)
    omega
theorem GrpR.good {S R : Int} {g : List Int} {p : Int} (h : GrpR S g g.length) (h1 : g ≠ []) (h2 : g.contains R = false) (h3 : 0 ≤ p) (h4 : p ≤ 1099511627776) : grpOk S R (g, p) := by
  have hl : g.take g.length = g := List.take_length
  refine ⟨h1, fun e => ?_, ⟨h3, h4⟩, fun n hn => h.ok n (by rw [hl]; exact hn), by have := h.rise; rw [hl] at this; exact this⟩
  have := List.contains_iff_mem.2 e
  rw [h2] at this; cases this
theorem grp_empty {S R : Int} {g : List Int} {p : Int} (h : g = []) : ¬ grpOk S R (g, p) := fun k => k.1 h
theorem grp_root {S R : Int} {g : List Int} {p : Int} (h : g.contains R = true) : ¬ grpOk S R (g, p) := fun k => k.2.1 (List.contains_iff_mem.1 h)
/-- the prices of the first groups that count for a step -/
def tollK (N : Net) (P : List Pc) (k i : Nat) : Int := sm (toll N i) (prcP (P.take k))
theorem tollK_zero (N : Net) (P : List Pc) (i : Nat) : tollK N P 0 i = 0 := by unfold tollK prcP; simp [sm]
theorem tollK_next {N : Net} {P : List Pc} {k : Nat} (hk : k < P.length) (i : Nat) : tollK N P (k + 1) i = tollK N P k i + toll N i (grp P[k].1, P[k].2) := by
  unfold tollK prcP
  rw [take_snoc' hk, List.map_append, sm_append]
  simp only [List.map_cons, List.map_nil, sm]
  omega
theorem tollK_all (N : Net) (P : List Pc) (i : Nat) : tollK N P P.length i = sm (toll N i) (prcP P) := by unfold tollK; rw [List.take_length]
theorem tollK_bound {N : Net} {P : List Pc} {k i : Nat} (h : ∀ x ∈ P, 0 ≤ x.2 ∧ x.2 ≤ 1099511627776) (hp : P.length ≤ 40) : 0 ≤ tollK N P k i ∧ tollK N P k i ≤ 43980465111040 := by
  have h1 := toll_bound (N := N) (P := P) (k := k) (i := i) (fun x hx => h x (List.mem_of_mem_take hx))
  have h2 : (P.take k).length ≤ 40 := by rw [List.length_take]; omega
  unfold tollK
  omega
section
variable {S R : Int} {l : List St}
theorem pricesV_over (h : BookOk S R l) {P : List Pc} (hp : P.length ≤ 40) (hg : ∀ x ∈ P, grpOk S R x) {i : Nat} (hi : i < l.length) (hn : (netB S R l).ch i < tollK (netB S R l) P P.length i) : pricesV S R l P = (0, 14) := by
  rw [tollK_all] at hn
  unfold pricesV
  rw [if_neg (by simp [bookErr_iff.2 h]), if_neg (by omega), if_neg (by simp only [Classical.not_not]; exact hg), if_pos (fun k => by have := k i hi; omega)]
theorem pricesV_sums (h : BookOk S R l) {P : List Pc} (hp : P.length ≤ 40) (hg : ∀ x ∈ P, grpOk S R x) (hn : ∀ i, i < l.length → tollK (netB S R l) P P.length i ≤ (netB S R l).ch i) : pricesV S R l P = (sumP P, 0) :=
  pricesV_ok h hp hg fun i hi => by
    have := hn i hi
    rwa [tollK_all] at this
/-- the steps into a group, by the reference's words -/
theorem ent_in (h : BookOk S R l) {i : Nat} (hi : i < l.length) (g : List Int) : ent (netB S R l) (grp g) i = (g.contains l[i].2.1 && !g.contains l[i].1) := by
  have h1 := h.at_ hi
  rw [stAt_eq hi] at h1
  unfold ent grp
  have e1 : (((netB S R l).to i : Nat) : Int) = l[i].2.1 := by show (((stAt l i).2.1.toNat : Nat) : Int) = _; rw [stAt_eq hi]; omega
  have e2 : (((netB S R l).fr i : Nat) : Int) = l[i].1 := by show (((stAt l i).1.toNat : Nat) : Int) = _; rw [stAt_eq hi]; omega
  rw [e1, e2]
end
end Fam

namespace Fam
section
variable {S R : Int} {l : List St}
theorem sizes_mem {ks : List Int} (hp : ks.Perm (0 :: l.map fun x => x.2.2)) {i : Nat} (hi : i < l.length) : (netB S R l).ch i ∈ ks := by
  rw [hp.mem_iff]
  refine List.mem_cons.2 (.inr (List.mem_map.2 ⟨l[i], List.getElem_mem hi, ?_⟩))
  show _ = (stAt l i).2.2
  rw [stAt_eq hi]
theorem most_found (hok : BookOk S R l) {ks : List Int} (hp : ks.Perm (0 :: l.map fun x => x.2.2)) (hs : ks.Pairwise (· ≤ ·)) {k : Nat} (hk : k < ks.length) (hb : ∀ i (h : i < ks.length), i < k → ¬ Full (netB S R l) (atMost (netB S R l) ks[i])) (hf : Full (netB S R l) (atMost (netB S R l) ks[k])) : MostIs (netB S R l) ks[k] := by
  refine ⟨?_, hf, fun j hj hfj => ?_⟩
  · have := hp.mem_iff.1 (List.getElem_mem hk)
    rcases List.mem_cons.1 this with e | e
    · omega
    · obtain ⟨x, hx, e⟩ := List.mem_map.1 e
      have := (hok.stp x hx).2.2.2.1
      omega
  · rcases Int.lt_or_le j ks[k] with c | c
    · exfalso
      have h0 : (0 : Int) ∈ ks := hp.mem_iff.2 (by simp)
      have hlow : ∀ x ∈ ks, x ≤ j → ∃ i, ∃ h : i < ks.length, i < k ∧ ks[i] = x := fun x hx hxj => by
        obtain ⟨i, hi, e⟩ := List.mem_iff_getElem.1 hx
        refine ⟨i, hi, ?_, e⟩
        rcases Nat.lt_or_ge i k with d | d
        · exact d
        · exfalso
          by_cases e2 : i = k
          · subst e2; omega
          · have := List.pairwise_iff_getElem.1 hs k i hk hi (by omega)
            omega
      obtain ⟨i0, _, hi0, _⟩ := hlow 0 h0 hj
      have hk1 : k - 1 < ks.length := by omega
      refine hb (k - 1) hk1 (by omega) (hfj.mono fun i hi => ⟨hi.1, ?_⟩)
      obtain ⟨i2, h2, h3, h4⟩ := hlow _ (sizes_mem (S := S) (R := R) hp hi.1) hi.2
      rw [← h4]
      by_cases e2 : i2 = k - 1
      · subst e2; exact Int.le_refl _
      · exact List.pairwise_iff_getElem.1 hs i2 (k - 1) h2 hk1 (by omega)
    · exact c
theorem most_none {ks : List Int} (hp : ks.Perm (0 :: l.map fun x => x.2.2)) (hs : ks.Pairwise (· ≤ ·)) (hb : ∀ i (h : i < ks.length), ¬ Full (netB S R l) (atMost (netB S R l) ks[i])) : ¬ Full (netB S R l) (allS (netB S R l)) := fun hf => by
  have h0 : 0 < ks.length := by rw [hp.length_eq]; simp
  refine hb (ks.length - 1) (by omega) (hf.mono fun i hi => ⟨hi, ?_⟩)
  obtain ⟨i2, h2, h4⟩ := List.mem_iff_getElem.1 (sizes_mem (S := S) (R := R) hp hi)
  rw [← h4]
  by_cases e2 : i2 = ks.length - 1
  · subst e2; exact Int.le_refl _
  · exact List.pairwise_iff_getElem.1 hs i2 (ks.length - 1) h2 (by omega) (by omega)
theorem most_all {k : Int} (h : MostIs (netB S R l) k) : Full (netB S R l) (allS (netB S R l)) := h.2.1.mono fun _ hi => hi.1
/-- what Most answers -/
def MostQ (S R : Int) (l : List St) (m e : Int) : Prop :=
  (bookErr S R l ≠ 0 ∧ m = 0 ∧ e = bookErr S R l) ∨ (bookErr S R l = 0 ∧ ¬ Full (netB S R l) (allS (netB S R l)) ∧ m = 0 ∧ e = 13) ∨ (bookErr S R l = 0 ∧ MostIs (netB S R l) m ∧ e = 0)
theorem MostQ.uniq {m e m' e' : Int} (h : MostQ S R l m e) (k : MostQ S R l m' e') : m = m' ∧ e = e' := by
  rcases h with ⟨h1, h2, h3⟩ | ⟨h1, h0, h2, h3⟩ | ⟨h1, h2, h3⟩ <;> rcases k with ⟨k1, k2, k3⟩ | ⟨k1, k0, k2, k3⟩ | ⟨k1, k2, k3⟩
  · exact ⟨by omega, by omega⟩
  · exact absurd k1 h1
  · exact absurd k1 h1
  · exact absurd h1 k1
  · exact ⟨by omega, by omega⟩
  · exact absurd (most_all k2) h0
  · exact absurd h1 k1
  · exact absurd (most_all h2) k0
  · exact ⟨h2.uniq k2, by omega⟩
theorem merge_perm (zs : List Int) : (zs.mergeSort fun x y => decide (x ≤ y)).Perm zs := List.mergeSort_perm _ _
theorem merge_rise (zs : List Int) : (zs.mergeSort fun x y => decide (x ≤ y)).Pairwise (· ≤ ·) := by
  have h := List.pairwise_mergeSort (le := fun x y : Int => decide (x ≤ y)) (fun a b c h1 h2 => by simp only [decide_eq_true_eq] at *; omega) (fun a b => by simp only [Bool.or_eq_true, decide_eq_true_eq]; omega) zs
  exact h.imp (fun h => by simpa using h)
theorem full_most {n : Int} : Full (netB S R l) (· ∈ allL (fun x => decide (x.2.2 ≤ n)) l) ↔ Full (netB S R l) (atMost (netB S R l) n) := by
  constructor
  · refine fun h => h.mono fun i hi => ?_
    obtain ⟨h1, h2⟩ := mem_allL.1 hi
    exact ⟨h1, of_decide_eq_true h2⟩
  · refine fun h => h.mono fun i hi => mem_allL.2 ⟨hi.1, ?_⟩
    exact decide_eq_true hi.2
end
end Fam

namespace Fam
/-- two nets with the same steps -/
structure Agree (N N' : Net) : Prop where
  n : N'.n = N.n
  r : N'.r = N.r
  m : N'.m = N.m
  stp : ∀ i, i < N.m → N'.fr i = N.fr i ∧ N'.to i = N.to i ∧ N'.ch i = N.ch i
theorem Agree.symm {N N' : Net} (h : Agree N N') : Agree N' N := ⟨h.n.symm, h.r.symm, h.m.symm, fun i hi => by
  have := h.stp i (by rw [← h.m]; exact hi)
  exact ⟨this.1.symm, this.2.1.symm, this.2.2.symm⟩⟩
theorem Agree.rch {N N' : Net} (h : Agree N N') {g : Nat → Prop} (hg : ∀ i, g i → i < N.m) {a b : Nat} (k : Rch N g a b) : Rch N' g a b := by
  induction k with
  | refl => exact .refl
  | @step i _ hi ih =>
    obtain ⟨h1, h2, _⟩ := h.stp i (hg i hi)
    rw [← h2]
    rw [← h1] at ih
    exact .step ih hi
theorem Agree.tree {N N' : Net} (h : Agree N N') {T : Nat → Nat} (k : Tree N T) : Tree N' T := by
  refine ⟨fun v hv hr => ?_, fun v hv => ?_⟩
  · rw [h.n] at hv
    rw [h.r] at hr
    obtain ⟨h1, h2⟩ := k.to v hv hr
    rw [h.m, (h.stp _ h1).2.1]
    exact ⟨h1, h2⟩
  · rw [h.n] at hv
    rw [h.r]
    have h1 := h.rch (fun i hi => by
      obtain ⟨u, hu, hr, rfl⟩ := hi
      exact (k.to u hu hr).1) (k.full v hv)
    exact h1.mono fun i hi => by
      obtain ⟨u, hu, hr, e⟩ := hi
      exact ⟨u, by rw [h.n]; exact hu, by rw [h.r]; exact hr, e⟩
theorem Agree.cost {N N' : Net} (h : Agree N N') {T : Nat → Nat} (k : Tree N T) : cost N' T = cost N T := by
  unfold Fam.cost
  rw [h.n]
  refine sm_congr fun v hv => ?_
  unfold costAt
  rw [h.r]
  by_cases e : v = N.r
  · rw [if_pos e, if_pos e]
  · rw [if_neg e, if_neg e, (h.stp _ (k.to v (List.mem_range.1 hv) e).1).2.2]
theorem Agree.best {N N' : Net} (h : Agree N N') {c : Int} (k : Best N c) : Best N' c := by
  obtain ⟨⟨T, hT, e⟩, k2⟩ := k
  exact ⟨⟨T, h.tree hT, by rw [h.cost hT, e]⟩, fun U hU => by
    have h1 := h.symm.tree hU
    rw [h.cost h1]
    exact k2 U h1⟩
section
variable {S R : Int} {l : List St}
/-- the steps of a list of numbers -/
def pickL (l : List St) (st : List Nat) : List St := st.map (stAt l)
theorem pickL_len (l : List St) (st : List Nat) : (pickL l st).length = st.length := by unfold pickL; simp
theorem pick_agree (l : List St) (st : List Nat) : Agree (netB S R (pickL l st)) (sub (netB S R l) st) := by
  refine ⟨rfl, rfl, (pickL_len l st).symm, fun i hi => ?_⟩
  have hi' : i < (pickL l st).length := hi
  have hs : i < st.length := by rw [pickL_len] at hi'; exact hi'
  have e : stAt (pickL l st) i = stAt l (st.getD i 0) := by
    have h1 : (pickL l st)[i]? = some (stAt l st[i]) := by unfold pickL; rw [List.getElem?_map, List.getElem?_eq_getElem hs]; rfl
    rw [stAt_eq hi', List.getD_eq_getElem?_getD, List.getElem?_eq_getElem hs]
    rw [List.getElem?_eq_getElem hi'] at h1
    injection h1
  refine ⟨?_, ?_, ?_⟩
  · show (stAt l (st.getD i 0)).1.toNat = (stAt (pickL l st) i).1.toNat; rw [e]
  · show (stAt l (st.getD i 0)).2.1.toNat = (stAt (pickL l st) i).2.1.toNat; rw [e]
  · show (stAt l (st.getD i 0)).2.2 = (stAt (pickL l st) i).2.2; rw [e]
theorem pick_ok (h : BookOk S R l) {st : List Nat} (hs : ∀ i ∈ st, i < l.length) (hl : st.length ≤ 200) : BookOk S R (pickL l st) :=
  ⟨h.dim, by rw [pickL_len]; exact hl, h.root, fun x hx => by
    obtain ⟨i, hi, rfl⟩ := List.mem_map.1 hx
    exact h.at_ (hs i hi)⟩
/-- the fewest changes by the steps of a list: a number, or none -/
def FewQ (N : Net) (n : Int) (ok : Bool) : Prop := Cheap N (if ok = true then some n else none)
theorem few_yes {l : List St} {st : List Nat} {n : Int} (h : Best (netB S R (pickL l st)) n) : FewQ (sub (netB S R l) st) n true := (pick_agree l st).best h
theorem few_no {l : List St} {st : List Nat} (h : ¬ Full (netB S R (pickL l st)) (allS (netB S R (pickL l st)))) : FewQ (sub (netB S R l) st) 0 false := fun _ hT => h (((pick_agree (S := S) (R := R) l st).symm.tree hT).all)
/-- how certain the first k steps are -/
def GradesL (N : Net) (k : Nat) (g : List Int) : Prop := ∀ i, i < k → GradeIs N i (g.getD i 0)
theorem grade_set {g : List Int} {i j : Nat} (hi : i < g.length) (v : Int) : (g.set i v).getD j 0 = if j = i then v else g.getD j 0 := by
  simp only [List.getD_eq_getElem?_getD]
  by_cases e : j = i
  · subst e; rw [if_pos rfl, List.getElem?_set_self hi]; rfl
  · rw [if_neg e, List.getElem?_set_ne (fun h => e h.symm)]
def withK (N : Net) (i k : Nat) : List Nat := (List.range k).filter (withI N i)
def lackK (i k : Nat) : List Nat := (List.range k).filter (lackI i)
theorem filt_put {p : Nat → Bool} {k : Nat} (h : p k = true) : (List.range (k + 1)).filter p = (List.range k).filter p ++ [k] := by
  rw [List.range_succ, List.filter_append]; simp [h]
theorem filt_skip {p : Nat → Bool} {k : Nat} (h : p k = false) : (List.range (k + 1)).filter p = (List.range k).filter p := by
  rw [List.range_succ, List.filter_append]; simp [h]
theorem filt_len (p : Nat → Bool) (k : Nat) : ((List.range k).filter p).length ≤ k := Nat.le_trans (List.length_filter_le _ _) (by simp)
theorem withI_is (h : BookOk S R l) {i k : Nat} (hi : i < l.length) (hk : k < l.length) : withI (netB S R l) i k = (decide (k = i) || !decide (l[k].2.1 = l[i].2.1)) := by
  have h1 := h.at_ hi
  have h2 := h.at_ hk
  unfold withI
  have e : (netB S R l).to k = (netB S R l).to i ↔ l[k].2.1 = l[i].2.1 := by
    show (stAt l k).2.1.toNat = (stAt l i).2.1.toNat ↔ _
    rw [← stAt_eq hk, ← stAt_eq hi]; omega
  rw [decide_eq_decide.2 e]
theorem grade_few (hok : BookOk S R l) {c : Int} (hc : Best (netB S R l) c) {i : Nat} (hi : i < l.length) (hr : l[i].2.1 ≠ R) {n1 n2 : Int} {b1 b2 : Bool} (h1 : FewQ (sub (netB S R l) (withL (netB S R l) i)) n1 b1) (h2 : FewQ (sub (netB S R l) (lackL (netB S R l) i)) n2 b2) :
    GradeIs (netB S R l) i (if b1 = false ∨ c < n1 then 0 else if b2 = true ∧ n2 = c then 1 else 2) := by
  have hd := hok.dim
  have hR := hok.root
  have ha := hok.at_ hi
  rw [stAt_eq hi] at ha
  have hto : (netB S R l).to i = l[i].2.1.toNat := by show (stAt l i).2.1.toNat = _; rw [stAt_eq hi]
  have h3 := grade_of (N := netB S R l) (by show R.toNat < S.toNat; omega) hc (i := i) (by rw [hto]; show l[i].2.1.toNat ≠ R.toNat; omega) (by rw [hto]; show l[i].2.1.toNat < S.toNat; omega) h1 h2
  unfold gradeV at h3
  cases b1
  · simpa using h3
  · cases b2
    · simpa using h3
    · simpa using h3
theorem grade_out (hok : BookOk S R l) {c : Int} (hc : Best (netB S R l) c) {i : Nat} (hi : i < l.length) (hr : l[i].2.1 ≠ R) {n1 : Int} {b1 : Bool} (h1 : FewQ (sub (netB S R l) (withL (netB S R l) i)) n1 b1) (hb : b1 = false ∨ c < n1) : GradeIs (netB S R l) i 0 := by
  have hd := hok.dim
  have hR := hok.root
  have ha := hok.at_ hi
  rw [stAt_eq hi] at ha
  have hto : (netB S R l).to i = l[i].2.1.toNat := by show (stAt l i).2.1.toNat = _; rw [stAt_eq hi]
  have a := sub_hit (N := netB S R l) (by show R.toNat < S.toNat; omega) range_lt hc h1
  refine .inr (.inl ⟨rfl, fun T hT k => ?_⟩)
  have h2 := a.2 ⟨T, hT, (uses_with hT.1 (by rw [hto]; show l[i].2.1.toNat ≠ R.toNat; omega) (by rw [hto]; show l[i].2.1.toNat < S.toNat; omega)).2 k⟩
  rcases hb with rfl | hb
  · cases h2
  · cases b1
    · cases h2
    · rw [if_pos rfl] at h2
      injection h2 with h2
      omega
theorem grade_skip {i : Nat} (_h : BookOk S R l) (hi : i < l.length) (hr : l[i].2.1 = R) : GradeIs (netB S R l) i 0 := .inr (.inl ⟨rfl, fun _ _ k => k.1 (by
  show (stAt l i).2.1.toNat = R.toNat
  rw [stAt_eq hi, hr])⟩)
end
end Fam

namespace Fam
def bookF : List St := [(0, 1, 5), (0, 2, 4), (1, 2, 1), (2, 1, 2), (2, 3, 3), (1, 3, 4)]
abbrev netF : Net := netB 4 0 bookF
def pricesF (x : Int) : List Pc := [([1], 2), ([2], 1), ([3], 3), ([1, 2], x)]
theorem okF : BookOk 4 0 bookF := bookErr_iff.1 (by decide)
theorem errF : bookErr 4 0 bookF = 0 := by decide
theorem tree1F : treeV 4 0 bookF [-1, 0, 2, 4] = (9, 0) := by
  rw [treeV_good (c := 4) okF rfl (by decide +kernel) (by decide) (by decide +kernel)]
  decide +kernel
theorem tree3F : treeV 4 0 bookF [-1, 3, 1, 4] = (9, 0) := by
  rw [treeV_good (c := 4) okF rfl (by decide +kernel) (by decide) (by decide +kernel)]
  decide +kernel
theorem tree4F : treeV 4 0 bookF [-1, 3, 1, 5] = (10, 0) := by
  rw [treeV_good (c := 4) okF rfl (by decide +kernel) (by decide) (by decide +kernel)]
  decide +kernel
theorem tree2F : treeV 4 0 bookF [-1, 3, 2, 4] = (0, 16) := treeV_rule (c := 4) (v := 1) okF rfl (by decide +kernel) (by decide) (by decide) (by decide +kernel)
theorem grpF {x : Int} (h0 : 0 ≤ x) (h1 : x ≤ 1000) : ∀ y ∈ pricesF x, grpOk 4 0 y := fun y hy => by
  unfold pricesF at hy
  simp only [List.mem_cons, List.not_mem_nil, or_false] at hy
  rcases hy with rfl | rfl | rfl | rfl
  · exact ⟨by decide, by decide, ⟨by decide, by decide⟩, by decide, by decide⟩
  · exact ⟨by decide, by decide, ⟨by decide, by decide⟩, by decide, by decide⟩
  · exact ⟨by decide, by decide, ⟨by decide, by decide⟩, by decide, by decide⟩
  · exact ⟨(by decide : ([1, 2] : List Int) ≠ []), (by decide : (0 : Int) ∉ [1, 2]), ⟨h0, by dsimp only; omega⟩, (by decide : ∀ n ∈ ([1, 2] : List Int), 0 ≤ n ∧ n < 4), (by decide : ([1, 2] : List Int).Pairwise (· < ·))⟩
theorem prices3F : pricesV 4 0 bookF (pricesF 3) = (9, 0) := by
  rw [pricesV_ok okF (by decide) (grpF (by decide) (by decide)) (by decide +kernel)]
  decide +kernel
theorem prices2F : pricesV 4 0 bookF (pricesF 2) = (8, 0) := by
  rw [pricesV_ok okF (by decide) (grpF (by decide) (by decide)) (by decide +kernel)]
  decide +kernel
theorem prices4F : pricesV 4 0 bookF (pricesF 4) = (0, 14) := pricesV_over (i := 1) okF (by decide) (grpF (by decide) (by decide)) (by decide) (by decide +kernel)
theorem treeF1 : TreeL netF [-1, 0, 2, 4] := (treeV_iff okF).1 (by rw [tree1F])
theorem treeF3 : TreeL netF [-1, 3, 1, 4] := (treeV_iff okF).1 (by rw [tree3F])
theorem costF1 : cost netF (treeF [-1, 0, 2, 4]) = 9 := by
  have h := treeV_val okF treeF1
  rw [tree1F] at h
  exact (congrArg Prod.fst h).symm
theorem costF3 : cost netF (treeF [-1, 3, 1, 4]) = 9 := by
  have h := treeV_val okF treeF3
  rw [tree3F] at h
  exact (congrArg Prod.fst h).symm
theorem best9F : Best netF 9 := by
  obtain ⟨h1, h2⟩ := pricesV_right okF (P := pricesF 3) (by rw [prices3F])
  rw [prices3F] at h2
  have h := best_of treeF1.2.2.2 h1 (by rw [costF1]; exact h2)
  rwa [costF1] at h
theorem fullF : Full netF (allS netF) := treeF1.2.2.2.all
theorem opt1 {a : Nat} (h : a < 6) (e : netF.to a = 1) : a = 0 ∨ a = 3 := by
  revert e; revert a; decide +kernel
theorem opt2 {a : Nat} (h : a < 6) (e : netF.to a = 2) : a = 1 ∨ a = 2 := by
  revert e; revert a; decide +kernel
theorem opt3 {a : Nat} (h : a < 6) (e : netF.to a = 3) : a = 4 ∨ a = 5 := by
  revert e; revert a; decide +kernel
theorem sumF (T : Nat → Nat) : cost netF T = netF.ch (T 1) + netF.ch (T 2) + netF.ch (T 3) := by
  show sm (costAt netF T) [0, 1, 2, 3] = _
  simp only [sm]
  have e0 : costAt netF T 0 = 0 := if_pos rfl
  have e1 : costAt netF T 1 = netF.ch (T 1) := if_neg (by decide)
  have e2 : costAt netF T 2 = netF.ch (T 2) := if_neg (by decide)
  have e3 : costAt netF T 3 = netF.ch (T 3) := if_neg (by decide)
  rw [e0, e1, e2, e3]; omega
theorem stepsF {T : Nat → Nat} (hT : BestT netF T) : T 3 = 4 := by
  obtain ⟨h1, h2⟩ := best9F.tree.1 hT
  rw [sumF] at h2
  obtain ⟨a1, b1⟩ := h1.to 1 (by decide) (by decide)
  obtain ⟨a2, b2⟩ := h1.to 2 (by decide) (by decide)
  obtain ⟨a3, b3⟩ := h1.to 3 (by decide) (by decide)
  have c0 : netF.ch 0 = 5 := rfl
  have c1 : netF.ch 1 = 4 := rfl
  have c2 : netF.ch 2 = 1 := rfl
  have c3 : netF.ch 3 = 2 := rfl
  have c5 : netF.ch 5 = 4 := rfl
  rcases opt3 a3 b3 with e3 | e3
  · exact e3
  · exfalso
    rw [e3, c5] at h2
    rcases opt1 a1 b1 with e1 | e1 <;> rcases opt2 a2 b2 with e2 | e2
    · rw [e1, e2, c0, c1] at h2; omega
    · rw [e1, e2, c0, c2] at h2; omega
    · rw [e1, e2, c3, c1] at h2; omega
    · obtain ⟨i, ⟨v, hv, hr, rfl⟩, hi⟩ := cross (S := fun v => decide (v = 1) || decide (v = 2)) (h1.full 1 (by decide)) rfl rfl
      obtain ⟨hi1, hi2⟩ := ent_iff.1 hi
      rw [(h1.to v hv hr).2] at hi1
      simp only [Bool.or_eq_true, decide_eq_true_eq] at hi1
      rcases hi1 with rfl | rfl
      · rw [e1] at hi2; revert hi2; decide
      · rw [e2] at hi2; revert hi2; decide
theorem gradesF : ∀ i (h : i < [(1 : Int), 1, 1, 1, 2, 0].length), GradeIs netF i [(1 : Int), 1, 1, 1, 2, 0][i] := by
  have B1 : BestT netF (treeF [-1, 0, 2, 4]) := best9F.tree.2 ⟨treeF1.2.2.2, costF1⟩
  have B3 : BestT netF (treeF [-1, 3, 1, 4]) := best9F.tree.2 ⟨treeF3.2.2.2, costF3⟩
  intro i h
  match i, h with
  | 0, _ => exact .inr (.inr ⟨rfl, ⟨_, B1, by decide, by decide⟩, _, B3, fun k => absurd k.2 (by decide)⟩)
  | 1, _ => exact .inr (.inr ⟨rfl, ⟨_, B3, by decide, by decide⟩, _, B1, fun k => absurd k.2 (by decide)⟩)
  | 2, _ => exact .inr (.inr ⟨rfl, ⟨_, B1, by decide, by decide⟩, _, B3, fun k => absurd k.2 (by decide)⟩)
  | 3, _ => exact .inr (.inr ⟨rfl, ⟨_, B3, by decide, by decide⟩, _, B1, fun k => absurd k.2 (by decide)⟩)
  | 4, _ => exact .inl ⟨rfl, fun T hT => ⟨by decide, stepsF hT⟩⟩
  | 5, _ => exact .inr (.inl ⟨rfl, fun T hT k => by
      have h1 := stepsF hT
      have h2 : T 3 = 5 := k.2
      omega⟩)
theorem grades_eq {g : List Int} (hl : g.length = 6) (hg : ∀ i (h : i < g.length), GradeIs netF i g[i]) : g = [1, 1, 1, 1, 2, 0] := by
  have he : ∃ T, BestT netF T := ⟨_, best9F.tree.2 ⟨treeF1.2.2.2, costF1⟩⟩
  refine List.ext_getElem hl fun i h1 h2 => ?_
  exact (hg i h1).uniq (gradesF i h2) he
theorem mostF : MostIs netF 4 := by
  have r2 : Rch netF (atMost netF 4) 0 2 := .step (i := 1) .refl ⟨by decide, by decide⟩
  have r1 : Rch netF (atMost netF 4) 0 1 := .step (i := 3) r2 ⟨by decide, by decide⟩
  have r3 : Rch netF (atMost netF 4) 0 3 := .step (i := 4) r2 ⟨by decide, by decide⟩
  refine ⟨by decide, fun v hv => ?_, fun j hj hf => ?_⟩
  · have hv' : v < 4 := hv
    match v, hv' with
    | 0, _ => exact .refl
    | 1, _ => exact r1
    | 2, _ => exact r2
    | 3, _ => exact r3
  · obtain ⟨i, ⟨h1, h2⟩, h3⟩ := cross (S := fun v => decide (v ≠ 0)) (hf 1 (by decide)) rfl rfl
    have key : ∀ i, i < 6 → ent netF (fun v => decide (v ≠ 0)) i = true → 4 ≤ netF.ch i := by decide +kernel
    exact Int.le_trans (key i h1 h3) h2
theorem mostQF : MostQ 4 0 bookF 4 0 := .inr (.inr ⟨errF, mostF, rfl⟩)
theorem lostF : lostV 4 0 bookF = ([], 5) := lostV_none errF ((lostL_nil 4 0 bookF).2 fullF)
open Classical in
theorem lessF : lostV 4 0 (bookF.drop 2) = ([1, 2, 3], 0) := by
  have hr : ∀ {a b : Nat}, Rch (netB 4 0 (bookF.drop 2)) (allS (netB 4 0 (bookF.drop 2))) a b → a = 0 → b = 0 := fun h ha => by
    induction h with
    | refl => exact ha
    | @step i _ hi ih =>
      have key : ∀ i, i < 4 → (netB 4 0 (bookF.drop 2)).fr i ≠ 0 := by decide +kernel
      exact absurd ih (key i hi)
  have e : lostL 4 0 (bookF.drop 2) = [1, 2, 3] := by
    unfold lostL
    have h1 : (List.range (4 : Int).toNat).filter (fun v => decide (¬ Rch (netB 4 0 (bookF.drop 2)) (allS (netB 4 0 (bookF.drop 2))) (0 : Int).toNat v)) = (List.range 4).filter fun v => decide (v ≠ 0) := by
      refine List.filter_congr fun v _ => ?_
      refine decide_eq_decide.2 ⟨fun h e => h (by rw [e]; exact .refl), fun h k => h (hr k rfl)⟩
    rw [h1]; rfl
  have h := lostV_some (S := 4) (R := 0) (l := bookF.drop 2) (by decide) (by rw [e]; decide)
  rw [h, e]
end Fam
