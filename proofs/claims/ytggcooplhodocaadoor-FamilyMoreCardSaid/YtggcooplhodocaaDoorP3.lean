/- More's way: one step more, a step with fewer changes, all steps to a variant with more. -/
import Derived.Test.YtggcooplhodocaaDoorP0
namespace Fam
theorem stAt_app {l : List St} {x : St} {i : Nat} (h : i < l.length) : stAt (l ++ [x]) i = stAt l i := by
  rw [stAt_eq h, stAt_eq (by simp; omega), List.getElem_append_left h]
theorem more_wider {S R : Int} {l : List St} (x : St) : Wider (netB S R l) (netB S R (l ++ [x])) :=
  ⟨rfl, rfl, fun i hi => by
    have hi : i < l.length := hi
    have e := stAt_app (x := x) hi
    refine ⟨by show i < (l ++ [x]).length; simp; omega, ?_, ?_, ?_⟩
    · show (stAt (l ++ [x]) i).1.toNat = (stAt l i).1.toNat; rw [e]
    · show (stAt (l ++ [x]) i).2.1.toNat = (stAt l i).2.1.toNat; rw [e]
    · show (stAt (l ++ [x]) i).2.2 ≤ (stAt l i).2.2; rw [e]; exact Int.le_refl _⟩
/-- step j has c changes -/
def setCh (l : List St) (j : Nat) (c : Int) : List St := l.set j ((stAt l j).1, (stAt l j).2.1, c)
theorem setCh_len (l : List St) (j : Nat) (c : Int) : (setCh l j c).length = l.length := by unfold setCh; simp
theorem setCh_at {l : List St} {j : Nat} {c : Int} {i : Nat} (hi : i < l.length) : stAt (setCh l j c) i = ((stAt l i).1, (stAt l i).2.1, if i = j then c else (stAt l i).2.2) := by
  rw [stAt_eq (l := setCh l j c) (by rw [setCh_len]; exact hi)]
  unfold setCh
  by_cases e : j = i
  · subst e
    rw [if_pos rfl, List.getElem_set_self]
  · rw [List.getElem_set_ne e, if_neg (fun h => e h.symm), stAt_eq hi]
theorem less_wider {S R : Int} {l : List St} {j : Nat} {c : Int} (hc : c ≤ (stAt l j).2.2) : Wider (netB S R l) (netB S R (setCh l j c)) :=
  ⟨rfl, rfl, fun i hi => by
    have hi : i < l.length := hi
    have e := setCh_at (j := j) (c := c) hi
    refine ⟨by show i < (setCh l j c).length; rw [setCh_len]; exact hi, ?_, ?_, ?_⟩
    · show (stAt (setCh l j c) i).1.toNat = (stAt l i).1.toNat; rw [e]
    · show (stAt (setCh l j c) i).2.1.toNat = (stAt l i).2.1.toNat; rw [e]
    · show (stAt (setCh l j c) i).2.2 ≤ (stAt l i).2.2
      rw [e]
      dsimp only
      split
      · rename_i h; subst h; exact hc
      · exact Int.le_refl _⟩
/-- the steps to v have d changes more, of the first k -/
def raiseL (l : List St) (v : Int) (d : Int) (k : Nat) : List St := ((List.range l.length).map fun i => if i < k ∧ (stAt l i).2.1 = v then ((stAt l i).1, (stAt l i).2.1, (stAt l i).2.2 + d) else stAt l i)
theorem raiseL_len (l : List St) (v d : Int) (k : Nat) : (raiseL l v d k).length = l.length := by unfold raiseL; simp
theorem raiseL_at {l : List St} {v d : Int} {k i : Nat} (hi : i < l.length) : stAt (raiseL l v d k) i = if i < k ∧ (stAt l i).2.1 = v then ((stAt l i).1, (stAt l i).2.1, (stAt l i).2.2 + d) else stAt l i := by
  rw [stAt_eq (l := raiseL l v d k) (by rw [raiseL_len]; exact hi)]
  unfold raiseL
  simp
theorem raised {S R : Int} {l : List St} (h : BookOk S R l) {v : Nat} {d : Int} : Raised (netB S R l) (netB S R (raiseL l (v : Int) d l.length)) v d :=
  ⟨rfl, rfl, raiseL_len _ _ _ _, fun i hi => by
    have hi : i < l.length := hi
    have e := raiseL_at (v := (v : Int)) (d := d) (k := l.length) hi
    have hs := (h.stp _ (stAt_mem hi)).2.1.1
    have ev : (netB S R l).to i = v ↔ (stAt l i).2.1 = (v : Int) := by
      show (stAt l i).2.1.toNat = v ↔ _
      omega
    refine ⟨?_, ?_, ?_⟩
    · show (stAt (raiseL l (v : Int) d l.length) i).1.toNat = (stAt l i).1.toNat
      rw [e]; split <;> rfl
    · show (stAt (raiseL l (v : Int) d l.length) i).2.1.toNat = (stAt l i).2.1.toNat
      rw [e]; split <;> rfl
    · show (stAt (raiseL l (v : Int) d l.length) i).2.2 = (stAt l i).2.2 + _
      rw [e]
      by_cases he : (stAt l i).2.1 = (v : Int)
      · rw [if_pos ⟨hi, he⟩, if_pos (ev.2 he)]
      · rw [if_neg (fun k => he k.2), if_neg (fun k => he (ev.1 k))]; omega⟩
end Fam
