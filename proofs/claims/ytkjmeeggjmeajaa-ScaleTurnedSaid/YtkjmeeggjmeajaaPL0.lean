/- Plain lists: rising numbers, pairs. -/
namespace Go.Proofs.Ytkjmeeggjmeajaa

def risingFrom (last n : Int) : List Int → Bool
  | [] => true
  | x :: r => decide (last < x) && decide (x < n) && risingFrom x n r
def lastOf (a : Int) : List Int → Int
  | [] => a
  | x :: r => lastOf x r
theorem rising_snoc (n : Int) (p : List Int) : ∀ (a x : Int), risingFrom a n (p ++ [x]) = (risingFrom a n p && (decide (lastOf a p < x) && decide (x < n))) := by
  induction p with
  | nil => intro a x; simp only [List.nil_append, risingFrom, lastOf, Bool.and_true, Bool.true_and]; rfl
  | cons y p ih => intro a x; simp only [List.cons_append, risingFrom, lastOf, ih, Bool.and_assoc]; rfl
theorem lastOf_snoc (p : List Int) : ∀ (a x : Int), lastOf a (p ++ [x]) = x := by
  induction p with
  | nil => intro a x; rfl
  | cons y p ih => intro a x; exact ih y x
theorem rising_append (n : Int) (p q : List Int) : ∀ a : Int, risingFrom a n (p ++ q) = (risingFrom a n p && risingFrom (lastOf a p) n q) := by
  induction p with
  | nil => intro a; simp [risingFrom, lastOf]
  | cons y p ih => intro a; simp [risingFrom, lastOf, ih, Bool.and_assoc]
theorem rising_mem (n : Int) (t : List Int) : ∀ a : Int, risingFrom a n t = true → ∀ x ∈ t, a < x ∧ x < n := by
  induction t with
  | nil => intro a _ x hx; cases hx
  | cons y t ih =>
    intro a h x hx
    simp only [risingFrom, Bool.and_eq_true, decide_eq_true_eq] at h
    cases hx with
    | head => exact h.1
    | tail _ hx => have := ih y h.2 x hx; omega

theorem take_snoc {α : Type} {l : List α} {k : Nat} (hk : k < l.length) {x : α} (hx : l[k] = x) : l.take (k+1) = l.take k ++ [x] := by
  rw [List.take_succ_eq_append_getElem hk, hx]

theorem rising_next {n : Int} {t : List Int} {k : Nat} (hk : k < t.length) {x : Int} (hx : t[k] = x) (h : risingFrom (-1) n (t.take k) = true) (h1 : lastOf (-1) (t.take k) < x) (h2 : x < n) :
    risingFrom (-1) n (t.take (k+1)) = true := by
  rw [take_snoc hk hx, rising_snoc, h]; simp [h1, h2]
theorem rising_bad {n : Int} {t : List Int} {k : Nat} (hk : k < t.length) {x : Int} (hx : t[k] = x) (h1 : x ≤ lastOf (-1) (t.take k) ∨ n ≤ x) : risingFrom (-1) n t = false := by
  conv => lhs; rw [← List.take_append_drop (k+1) t]
  rw [rising_append, take_snoc hk hx, rising_snoc]
  rcases h1 with h1 | h1
  · rw [show decide (lastOf (-1) (t.take k) < x) = false from by simpa using h1]; simp
  · rw [show decide (x < n) = false from by simpa using h1]; simp
theorem lastOf_next {t : List Int} {k : Nat} (hk : k < t.length) {x : Int} (hx : t[k] = x) : lastOf (-1) (t.take (k+1)) = x := by
  rw [take_snoc hk hx, lastOf_snoc]
theorem rising_all {n : Int} {t : List Int} {k : Nat} (hk : ¬ k < t.length) (h : risingFrom (-1) n (t.take k) = true) : risingFrom (-1) n t = true := by
  rwa [List.take_of_length_le (by omega)] at h

/-- some pair j < k of the places below n answers yes -/
def pairAny (f : Nat → Nat → Bool) (n : Nat) : Bool := (List.range n).any fun k => (List.range k).any fun j => f k j
theorem range_any_next {f : Nat → Bool} {k : Nat} (h : (List.range k).any f = false) (h2 : f k = false) : (List.range (k+1)).any f = false := by
  rw [List.range_succ, List.any_append, h]; simpa using h2
theorem range_any_hit {f : Nat → Bool} {k n : Nat} (hk : k < n) (h : f k = true) : (List.range n).any f = true :=
  List.any_eq_true.2 ⟨k, by simpa using hk, h⟩
end Go.Proofs.Ytkjmeeggjmeajaa
