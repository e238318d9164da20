/- Into, Many, Trees: the plain side. -/
import Derived.Test.YtggcooplhodocaaGreatDoorP1
namespace Fam
/-- the steps to v among the first k -/
def intoTo (N : Net) (v k : Nat) : List Int := ((List.range k).filter fun i => decide (N.to i = v)).map fun i : Nat => (i : Int)
theorem intoTo_all (N : Net) (v : Nat) : intoTo N v N.m = intoL N v := rfl
theorem intoTo_zero (N : Net) (v : Nat) : intoTo N v 0 = [] := rfl
theorem intoTo_hit {N : Net} {v k : Nat} (h : N.to k = v) : intoTo N v (k + 1) = intoTo N v k ++ [(k : Int)] := by
  unfold intoTo; rw [List.range_succ, List.filter_append]; simp [h]
theorem intoTo_miss {N : Net} {v k : Nat} (h : N.to k ≠ v) : intoTo N v (k + 1) = intoTo N v k := by
  unfold intoTo; rw [List.range_succ, List.filter_append]; simp [h]
theorem intoTo_len (N : Net) (v k : Nat) : (intoTo N v k).length ≤ k := by
  unfold intoTo
  rw [List.length_map]
  exact Nat.le_trans (List.length_filter_le _ _) (by simp)
theorem intoL_len (N : Net) (v : Nat) : (intoL N v).length ≤ N.m := intoTo_len N v N.m
/-- how many lists there are, no more than a number -/
def manyN (N : Net) (most : Nat) : Nat → Nat
  | 0 => 1
  | k + 1 => if k = N.r then manyN N most k else min most (manyN N most k * (intoL N k).length)
theorem manyN_le (N : Net) {most : Nat} (h : 1 ≤ most) : ∀ k, manyN N most k ≤ most
  | 0 => h
  | k + 1 => by
    unfold manyN
    split
    · exact manyN_le N h k
    · exact Nat.min_le_left _ _
theorem optsL_len (N : Net) (v : Nat) : (optsL N v).length = if v = N.r then 1 else (intoL N v).length := by
  unfold optsL; split <;> rfl
theorem prodL_len (N : Net) (k : Nat) : (prodL N (k + 1)).length = (prodL N k).length * (optsL N k).length := by
  show ((prodL N k).flatMap fun l => (optsL N k).map fun s => l ++ [s]).length = _
  generalize prodL N k = L
  generalize optsL N k = O
  induction L with
  | nil => simp
  | cons x L ih => rw [List.flatMap_cons, List.length_append, ih, List.length_map, List.length_cons, Nat.succ_mul]; omega
theorem into_some {N : Net} (hf : Full N (allS N)) {v : Nat} (hv : v < N.n) (hr : v ≠ N.r) : 1 ≤ (intoL N v).length := by
  have h := hf v hv
  cases h with
  | refl => exact absurd rfl hr
  | step _ hi =>
    rename_i i _
    have : (i : Int) ∈ intoL N (N.to i) := mem_intoL.2 ⟨i, rfl, hi, rfl⟩
    exact List.length_pos_of_mem this
theorem many_is {N : Net} (hf : Full N (allS N)) {most : Nat} (hm : 1 ≤ most) : ∀ k, k ≤ N.n → manyN N most k = min most (prodL N k).length
  | 0, _ => by show 1 = min most 1; omega
  | k + 1, hk => by
    have ih := many_is hf hm k (by omega)
    rw [prodL_len, optsL_len]
    unfold manyN
    by_cases e : k = N.r
    · rw [if_pos e, if_pos e, ih, Nat.mul_one]
    · rw [if_neg e, if_neg e, ih]
      have hc := into_some hf (v := k) (by omega) e
      generalize (intoL N k).length = c at hc
      generalize (prodL N k).length = p
      by_cases h : p ≤ most
      · rw [Nat.min_eq_right h]
      · have e1 : min most p = most := Nat.min_eq_left (by omega)
        rw [e1]
        have h1 : most * 1 ≤ most * c := Nat.mul_le_mul_left _ hc
        have h2 : p * 1 ≤ p * c := Nat.mul_le_mul_left _ hc
        omega
theorem prod_up {N : Net} (hf : Full N (allS N)) : ∀ k, k + 1 ≤ N.n → (prodL N k).length ≤ (prodL N (k + 1)).length := fun k hk => by
  rw [prodL_len, optsL_len]
  by_cases e : k = N.r
  · rw [if_pos e]; omega
  · rw [if_neg e]
    have hc := into_some hf (v := k) (by omega) e
    have h2 : (prodL N k).length * 1 ≤ (prodL N k).length * (intoL N k).length := Nat.mul_le_mul_left _ hc
    omega
theorem prod_mono {N : Net} (hf : Full N (allS N)) {k : Nat} : ∀ j, k ≤ j → j ≤ N.n → (prodL N k).length ≤ (prodL N j).length
  | 0, h, _ => by have : k = 0 := by omega
                  subst this; exact Nat.le_refl _
  | j + 1, h, hj => by
    by_cases e : k = j + 1
    · subst e; exact Nat.le_refl _
    · exact Nat.le_trans (prod_mono hf j (by omega) (by omega)) (prod_up hf j hj)
/-- few lists: few at each place -/
theorem prod_few {N : Net} (hf : Full N (allS N)) {most : Nat} (h : manyN N (most + 1) N.n ≤ most) {k : Nat} (hk : k ≤ N.n) : (prodL N k).length ≤ most := by
  rw [many_is hf (by omega) N.n (Nat.le_refl _)] at h
  have := prod_mono hf N.n hk (Nat.le_refl _)
  omega
/-- the lists of one place more, out of the first i lists and, of the next one, the first j numbers -/
def partL (N : Net) (k i j : Nat) : List (List Int) := ((prodL N k).take i).flatMap (fun l => (optsL N k).map fun s => l ++ [s]) ++ ((optsL N k).take j).map fun s => (prodL N k).getD i [] ++ [s]
theorem partL_zero (N : Net) (k : Nat) : partL N k 0 0 = [] := by simp [partL]
theorem partL_next {N : Net} {k i j : Nat} (hj : j < (optsL N k).length) : partL N k i (j + 1) = partL N k i j ++ [(prodL N k).getD i [] ++ [(optsL N k).getD j 0]] := by
  unfold partL
  rw [List.append_assoc, List.take_succ_eq_append_getElem hj, List.map_append, List.getD_eq_getElem?_getD, List.getD_eq_getElem?_getD, List.getElem?_eq_getElem hj]
  rfl
theorem partL_up {N : Net} {k i : Nat} (hi : i < (prodL N k).length) : partL N k i (optsL N k).length = partL N k (i + 1) 0 := by
  unfold partL
  rw [List.take_length, List.take_succ_eq_append_getElem hi, List.flatMap_append, List.getD_eq_getElem?_getD, List.getElem?_eq_getElem hi]
  simp
theorem partL_all (N : Net) (k : Nat) : partL N k (prodL N k).length 0 = prodL N (k + 1) := by
  unfold partL
  rw [List.take_length]
  simp [prodL]
theorem partL_len {N : Net} {k i j : Nat} (hi : i < (prodL N k).length) (hj : j ≤ (optsL N k).length) : (partL N k i j).length ≤ (prodL N (k + 1)).length := by
  have h1 : (partL N k i j).length ≤ (partL N k (i + 1) 0).length := by
    rw [← partL_up hi]
    unfold partL
    simp; omega
  refine Nat.le_trans h1 ?_
  rw [← partL_all]
  unfold partL
  have h2 : ∀ (L : List (List Int)) (m : Nat), ((L.take m).flatMap fun l => (optsL N k).map fun s => l ++ [s]).length ≤ (L.flatMap fun l => (optsL N k).map fun s => l ++ [s]).length := fun L m => by
    have e : L.flatMap (fun l => (optsL N k).map fun s => l ++ [s]) = (L.take m).flatMap (fun l => (optsL N k).map fun s => l ++ [s]) ++ (L.drop m).flatMap (fun l => (optsL N k).map fun s => l ++ [s]) := by
      rw [← List.flatMap_append, List.take_append_drop]
    rw [e, List.length_append]; omega
  simp only [List.take_zero, List.map_nil, List.append_nil, List.take_length]
  exact h2 _ _
theorem prodL_row {N : Net} {k : Nat} {t : List Int} (h : t ∈ prodL N k) : t.length = k := ((mem_prodL N k t).1 h).1
theorem optsL_in {N : Net} {k : Nat} {x : Int} (h : x ∈ optsL N k) : (k = N.r ∧ x = -1) ∨ (k ≠ N.r ∧ x ∈ intoL N k) := by
  unfold optsL at h
  split at h
  · exact .inl ⟨‹_›, by simpa using h⟩
  · exact .inr ⟨‹_›, h⟩
open Classical in
/-- the trees among the first i lists -/
noncomputable def treesTo (N : Net) (i : Nat) : List (List Int) := ((prodL N N.n).take i).filter fun t => decide (TreeL N t)
theorem treesTo_zero (N : Net) : treesTo N 0 = [] := by simp [treesTo]
theorem treesTo_all (N : Net) : treesTo N (prodL N N.n).length = treesL N := by
  unfold treesTo treesL
  rw [List.take_length]
theorem treesTo_hit {N : Net} {i : Nat} (hi : i < (prodL N N.n).length) (h : TreeL N (prodL N N.n)[i]) : treesTo N (i + 1) = treesTo N i ++ [(prodL N N.n)[i]] := by
  unfold treesTo
  rw [List.take_succ_eq_append_getElem hi, List.filter_append]
  simp [h]
theorem treesTo_miss {N : Net} {i : Nat} (hi : i < (prodL N N.n).length) (h : ¬ TreeL N (prodL N N.n)[i]) : treesTo N (i + 1) = treesTo N i := by
  unfold treesTo
  rw [List.take_succ_eq_append_getElem hi, List.filter_append]
  simp [h]
theorem treesTo_len (N : Net) (i : Nat) : (treesTo N i).length ≤ (prodL N N.n).length := by
  unfold treesTo
  refine Nat.le_trans (List.length_filter_le _ _) ?_
  rw [List.length_take]; omega
theorem treesL_len (N : Net) : (treesL N).length ≤ (prodL N N.n).length := List.length_filter_le _ _
/-- the cheapest among the first i trees -/
noncomputable def bestTo (N : Net) (i : Nat) : Int × List (List Int) := bestGo (costL N) ((treesL N).take i) (-1, [])
theorem bestTo_zero (N : Net) : bestTo N 0 = (-1, []) := by simp [bestTo, bestGo]
theorem bestTo_all (N : Net) : bestTo N (treesL N).length = bestL N := by unfold bestTo bestL; rw [List.take_length]
theorem bestTo_next {N : Net} {i : Nat} (hi : i < (treesL N).length) : bestTo N (i + 1) = (if (bestTo N i).1 < 0 ∨ costL N (treesL N)[i] < (bestTo N i).1 then (costL N (treesL N)[i], [(treesL N)[i]]) else if costL N (treesL N)[i] = (bestTo N i).1 then ((bestTo N i).1, (bestTo N i).2 ++ [(treesL N)[i]]) else bestTo N i) := by
  unfold bestTo
  rw [List.take_succ_eq_append_getElem hi, bestGo_snoc]
theorem bestTo_len (N : Net) : ∀ i, i ≤ (treesL N).length → (bestTo N i).2.length ≤ i
  | 0, _ => by rw [bestTo_zero]; exact Nat.le_refl _
  | i + 1, h => by
    have ih := bestTo_len N i (by omega)
    rw [bestTo_next (by omega)]
    split
    · simp
    · split
      · simp; omega
      · omega
/-- among the first i of the cheapest trees: how many have step s -/
noncomputable def manyTo (N : Net) (s i : Nat) : Nat := (((bestL N).2.take i).filter fun t => decide (t.getD (N.to s) 0 = (s : Int))).length
theorem manyTo_zero (N : Net) (s : Nat) : manyTo N s 0 = 0 := by simp [manyTo]
theorem manyTo_all (N : Net) (s : Nat) : manyTo N s (bestL N).2.length = manyL N s (bestL N).2 := by unfold manyTo manyL; rw [List.take_length]
theorem manyTo_hit {N : Net} {s i : Nat} (hi : i < (bestL N).2.length) (h : (bestL N).2[i].getD (N.to s) 0 = (s : Int)) : manyTo N s (i + 1) = manyTo N s i + 1 := by
  unfold manyTo
  rw [List.take_succ_eq_append_getElem hi, List.filter_append, List.filter_cons_of_pos (by simpa using h)]
  simp
theorem manyTo_miss {N : Net} {s i : Nat} (hi : i < (bestL N).2.length) (h : (bestL N).2[i].getD (N.to s) 0 ≠ (s : Int)) : manyTo N s (i + 1) = manyTo N s i := by
  unfold manyTo
  rw [List.take_succ_eq_append_getElem hi, List.filter_append, List.filter_cons_of_neg (by simpa using h)]
  simp
theorem manyTo_le (N : Net) (s i : Nat) : manyTo N s i ≤ i := by
  unfold manyTo
  refine Nat.le_trans (List.length_filter_le _ _) ?_
  rw [List.length_take]; omega
/-- the grades of the first s steps -/
noncomputable def gradesTo (N : Net) (s : Nat) : List Int := (List.range s).map fun i => gradeL (manyL N i (bestL N).2) (bestL N).2.length
theorem gradesTo_zero (N : Net) : gradesTo N 0 = [] := rfl
theorem gradesTo_len (N : Net) (s : Nat) : (gradesTo N s).length = s := by simp [gradesTo]
theorem gradesTo_next (N : Net) (s : Nat) : gradesTo N (s + 1) = gradesTo N s ++ [gradeL (manyL N s (bestL N).2) (bestL N).2.length] := by
  unfold gradesTo; rw [List.range_succ, List.map_append]; rfl
/-- the sizes that are tried: 0, and the changes of the steps -/
def sizeAt (N : Net) (k : Nat) : Int := if k = 0 then 0 else N.ch (k - 1)
structure MostI (N : Net) (k : Nat) (b : Int) : Prop where
  top : b ≤ 1000000
  some : b = 1000000 ∨ 0 ≤ b ∧ Full N (atMost N b)
  all : ∀ j, j < k → Full N (atMost N (sizeAt N j)) → b ≤ sizeAt N j
theorem MostI.start (N : Net) : MostI N 0 1000000 := ⟨by omega, .inl rfl, fun j h => by omega⟩
theorem sizeAt_pos {N : Net} (hN : N.Ok) {k : Nat} (h : k ≤ N.m) : 0 ≤ sizeAt N k := by
  unfold sizeAt
  split
  · omega
  · exact hN.pos _ (by omega)
theorem MostI.hit {N : Net} (hN : N.Ok) {k : Nat} {b : Int} (h : MostI N k b) (hk : k ≤ N.m) (hf : Full N (atMost N (sizeAt N k))) : MostI N (k + 1) (min b (sizeAt N k)) := by
  have h0 := sizeAt_pos hN hk
  refine ⟨by have := h.top; omega, ?_, fun j hj hF => ?_⟩
  · by_cases e : b ≤ sizeAt N k
    · rw [Int.min_eq_left e]; exact h.some
    · rw [Int.min_eq_right (by omega)]; exact .inr ⟨h0, hf⟩
  · by_cases e : j = k
    · subst e; omega
    · have := h.all j (by omega) hF; omega
theorem MostI.miss {N : Net} {k : Nat} {b : Int} (h : MostI N k b) (hf : ¬ Full N (atMost N (sizeAt N k))) : MostI N (k + 1) b := by
  refine ⟨h.top, h.some, fun j hj hF => ?_⟩
  by_cases e : j = k
  · subst e; exact absurd hF hf
  · exact h.all j (by omega) hF
theorem size_near {N : Net} (j : Int) (hj : 0 ≤ j) : ∀ k, ∃ i, i ≤ k ∧ sizeAt N i ≤ j ∧ ∀ a, a < k → N.ch a ≤ j → N.ch a ≤ sizeAt N i
  | 0 => ⟨0, by omega, by unfold sizeAt; simpa using hj, fun a h => by omega⟩
  | k + 1 => by
    obtain ⟨i, h1, h2, h3⟩ := size_near j hj k
    by_cases c : N.ch k ≤ j ∧ sizeAt N i < N.ch k
    · refine ⟨k + 1, by omega, by show sizeAt N (k + 1) ≤ j; unfold sizeAt; simpa using c.1, fun a ha hc => ?_⟩
      have e : sizeAt N (k + 1) = N.ch k := by unfold sizeAt; simp
      rw [e]
      by_cases f : a = k
      · subst f; omega
      · have := h3 a (by omega) hc; omega
    · refine ⟨i, by omega, h2, fun a ha hc => ?_⟩
      by_cases f : a = k
      · subst f; omega
      · exact h3 a (by omega) hc
theorem MostI.done {S R : Int} {l : List St} (hok : BookOk S R l) (hf : Full (netB S R l) (allS (netB S R l))) {b : Int} (h : MostI (netB S R l) (l.length + 1) b) : MostIs (netB S R l) b := by
  have hfm : Full (netB S R l) (atMost (netB S R l) 1000000) := fun v hv => (rch_most hok).2 (hf v hv)
  have h0 : 0 ≤ b ∧ Full (netB S R l) (atMost (netB S R l) b) := by
    rcases h.some with e | e
    · rw [e]; exact ⟨by omega, hfm⟩
    · exact e
  refine ⟨h0.1, h0.2, fun j hj hF => ?_⟩
  obtain ⟨i, h1, h2, h3⟩ := size_near (N := netB S R l) j hj l.length
  have := h.all i (by omega) (hF.mono fun a ha => ⟨ha.1, h3 a ha.1 ha.2⟩)
  omega
theorem tree_ex {N : Net} (hN : N.Ok) (hf : Full N (allS N)) : ∃ T, Tree N T := by
  have key : ∀ (d k : Nat) (f t : Nat → Int), GrowT N f t k → N.n - k ≤ d → ∃ T, Tree N T := fun d => by
    induction d with
    | zero => intro k f t h hd; have := h.le; omega
    | succ d ih =>
      intro k f t h hd
      by_cases c : ∃ i, i < N.m ∧ f (N.fr i) = 1 ∧ f (N.to i) = 0
      · obtain ⟨i, hi, h1, h0⟩ := c
        have h2 := h.next hi (hN.frm i hi) (hN.tom i hi) h1 h0
        exact ih (k + 1) _ _ h2 (by omega)
      · exact ⟨_, (h.tree hN.root hf (fun i hi h1 h0 => c ⟨i, hi, h1, h0⟩)).2.2.2⟩
  exact key N.n 0 (fun v => if v = N.r then 1 else 0) (fun _ => -1) (GrowT.start hN.root (fun _ => rfl) rfl) (by omega)
theorem bestTo_mem (N : Net) : ∀ i, i ≤ (treesL N).length → ∀ t ∈ (bestTo N i).2, TreeL N t
  | 0, _ => fun t h => by rw [bestTo_zero] at h; cases h
  | i + 1, hi => fun t h => by
    have ih := bestTo_mem N i (by omega)
    have hx : TreeL N (treesL N)[i] := mem_treesL.1 (List.getElem_mem _)
    rw [bestTo_next (by omega)] at h
    split at h
    · rw [List.mem_singleton] at h; subst h; exact hx
    · split at h
      · rcases List.mem_append.1 h with h | h
        · exact ih t h
        · rw [List.mem_singleton] at h; subst h; exact hx
      · exact ih t h
theorem gradesTo_is {N : Net} (hN : N.Ok) (hf : Full N (allS N)) {k : Nat} (hk : k ≤ N.m) : ∀ i (h : i < (gradesTo N k).length), GradeIs N i (gradesTo N k)[i] := fun i h => by
  obtain ⟨T, hT⟩ := tree_ex hN hf
  have hi : i < k := by rwa [gradesTo_len] at h
  have e0 : (gradesTo N k)[i]? = some (gradeL (manyL N i (bestL N).2) (bestL N).2.length) := by unfold gradesTo; rw [List.getElem?_map, List.getElem?_range hi]; rfl
  have e : (gradesTo N k)[i] = gradeL (manyL N i (bestL N).2) (bestL N).2.length := by rw [List.getElem?_eq_getElem h] at e0; exact Option.some.inj e0
  rw [e]
  exact gradeL_is hN hT (by omega)
theorem best_ex {N : Net} (hN : N.Ok) (hf : Full N (allS N)) : ∃ T, BestT N T := by
  obtain ⟨T, hT⟩ := tree_ex hN hf
  obtain ⟨⟨⟨U, hU, e⟩, h2⟩, _⟩ := bestL_is hN hT
  exact ⟨U, hU, fun V hV => by rw [e]; exact h2 V hV⟩
end Fam
