/- Grow's way: one of the steps that lead out of what is in. -/
import Derived.Test.YtggcooplhodocaaDoorP0
namespace Fam
/-- behind k steps: f marks what is in, t has the steps -/
structure GrowT (N : Net) (f t : Nat → Int) (k : Nat) : Prop where
  root : f N.r = 1 ∧ t N.r = -1
  bit : ∀ v, f v = 0 ∨ f v = 1
  stp : ∀ v, v < N.n → f v = 1 → v ≠ N.r → 0 ≤ t v ∧ (t v).toNat < N.m ∧ N.to (t v).toNat = v
  come : ∀ v, v < N.n → f v = 1 → Rch N (fun i => ∃ u, u < N.n ∧ u ≠ N.r ∧ f u = 1 ∧ (t u).toNat = i) N.r v
  many : sm f (List.range N.n) = k + 1
theorem GrowT.start {N : Net} (hr : N.r < N.n) {f t : Nat → Int} (hf : ∀ v, f v = if v = N.r then 1 else 0) (ht : t N.r = -1) : GrowT N f t 0 := by
  refine ⟨⟨by rw [hf, if_pos rfl], ht⟩, fun v => ?_, fun v _ h hne => ?_, fun v _ h => ?_, ?_⟩
  · rw [hf]; split
    · exact .inr rfl
    · exact .inl rfl
  · rw [hf, if_neg hne] at h; omega
  · rw [hf] at h
    by_cases e : v = N.r
    · rw [e]; exact .refl
    · rw [if_neg e] at h; omega
  · rw [sm_one List.nodup_range (List.mem_range.2 hr) (fun x _ hne => by rw [hf, if_neg hne]), hf, if_pos rfl]; rfl
theorem sm_put {f : Nat → Int} {x : Nat} {n : Nat} (hx : x < n) (h0 : f x = 0) : sm (fun v => if v = x then 1 else f v) (List.range n) = sm f (List.range n) + 1 := by
  have h1 := sm_add f (fun v => if v = x then (1 : Int) else 0) (List.range n)
  rw [sm_one (f := fun v => if v = x then (1 : Int) else 0) List.nodup_range (List.mem_range.2 hx) (fun y _ hne => if_neg hne), if_pos rfl] at h1
  rw [← h1]
  refine sm_congr fun v _ => ?_
  by_cases e : v = x
  · rw [if_pos e, if_pos e, e, h0]; rfl
  · rw [if_neg e, if_neg e]; omega
theorem GrowT.next {N : Net} {f t : Nat → Int} {k : Nat} (h : GrowT N f t k) {i : Nat} (hi : i < N.m) (hfr : N.fr i < N.n) (hto : N.to i < N.n) (h1 : f (N.fr i) = 1) (h0 : f (N.to i) = 0) :
    GrowT N (fun v => if v = N.to i then 1 else f v) (fun v => if v = N.to i then (i : Int) else t v) (k + 1) := by
  have hr : N.r ≠ N.to i := fun e => by have := h.root.1; rw [e, h0] at this; omega
  have hsub : ∀ {v : Nat}, Rch N (fun i => ∃ u, u < N.n ∧ u ≠ N.r ∧ f u = 1 ∧ (t u).toNat = i) N.r v → Rch N (fun j => ∃ u, u < N.n ∧ u ≠ N.r ∧ (if u = N.to i then (1 : Int) else f u) = 1 ∧ (if u = N.to i then (i : Int) else t u).toNat = j) N.r v := fun k => k.mono fun j ⟨u, hu, hur, hfu, e⟩ => by
    have hne : u ≠ N.to i := fun e => by rw [e, h0] at hfu; omega
    exact ⟨u, hu, hur, by rw [if_neg hne]; exact hfu, by rw [if_neg hne]; exact e⟩
  refine ⟨⟨by rw [if_neg hr]; exact h.root.1, by rw [if_neg hr]; exact h.root.2⟩, fun v => ?_, fun v hv hfv hne => ?_, fun v hv hfv => ?_, ?_⟩
  · split
    · exact .inr rfl
    · exact h.bit v
  · by_cases e : v = N.to i
    · rw [if_pos e]
      exact ⟨by omega, by simpa using hi, by simp [e]⟩
    · rw [if_neg e] at hfv ⊢
      exact h.stp v hv hfv hne
  · by_cases e : v = N.to i
    · rw [e]
      exact .step (hsub (h.come _ hfr h1)) ⟨N.to i, hto, fun e2 => hr e2.symm, if_pos rfl, by rw [if_pos rfl]; simp⟩
    · rw [if_neg e] at hfv
      exact hsub (h.come v hv hfv)
  · rw [sm_put hto h0, h.many]; omega
theorem GrowT.le {N : Net} {f t : Nat → Int} {k : Nat} (h : GrowT N f t k) : k + 1 ≤ N.n := by
  have h1 : sm f (List.range N.n) ≤ sm (fun _ => 1) (List.range N.n) := sm_le fun v _ => by rcases h.bit v with e | e <;> omega
  have h2 : ∀ n, sm (fun _ : Nat => (1 : Int)) (List.range n) = n := fun n => by
    induction n with
    | zero => rfl
    | succ n ih => rw [List.range_succ, sm_append, ih]; simp [sm]
  rw [h2, h.many] at h1
  omega
theorem GrowT.tree {N : Net} (hr : N.r < N.n) {f t : Nat → Int} {k : Nat} (h : GrowT N f t k) (hf : Full N (allS N)) (hno : ∀ i, i < N.m → f (N.fr i) = 1 → f (N.to i) ≠ 0) : TreeL N ((List.range N.n).map t) := by
  have hall : ∀ v, v < N.n → f v = 1 := fun v hv => by
    rcases h.bit v with e | e
    · exfalso
      obtain ⟨i, hi, he⟩ := cross (S := fun v => decide (f v ≠ 1)) (hf v hv) (by simp [h.root.1]) (by simp [e])
      obtain ⟨h1, h2⟩ := ent_iff.1 he
      have h2' : f (N.fr i) = 1 := by simpa using h2
      have h1' : f (N.to i) ≠ 1 := by simpa using h1
      rcases h.bit (N.to i) with e1 | e1
      · exact hno i hi h2' e1
      · exact h1' e1
    · exact e
  have hat : ∀ v, v < N.n → ((List.range N.n).map t).getD v 0 = t v := fun v hv => by
    rw [List.getD_eq_getElem?_getD, List.getElem?_map, List.getElem?_range hv]; rfl
  have htr : ∀ v, v < N.n → treeF ((List.range N.n).map t) v = (t v).toNat := fun v hv => by unfold treeF; rw [hat v hv]
  refine ⟨by simp, by rw [hat _ hr]; exact h.root.2, fun v hv hne => by rw [hat v hv]; exact (h.stp v hv (hall v hv) hne).1, fun v hv hne => ?_, fun v hv => ?_⟩
  · rw [htr v hv]
    exact (h.stp v hv (hall v hv) hne).2
  · exact (h.come v hv (hall v hv)).mono fun i ⟨u, hu, hur, _, e⟩ => ⟨u, hu, hur, by rw [htr u hu]; exact e⟩
/-- the steps that lead out -/
def outI (N : Net) (f : Nat → Int) (i : Nat) : Bool := decide (f (N.fr i) = 1) && decide (f (N.to i) = 0)
def outK (N : Net) (f : Nat → Int) (k : Nat) : List Nat := (List.range k).filter (outI N f)
theorem outK_mem {N : Net} {f : Nat → Int} {k i : Nat} : i ∈ outK N f k ↔ i < k ∧ f (N.fr i) = 1 ∧ f (N.to i) = 0 := by unfold outK outI; simp
end Fam
