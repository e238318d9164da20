/- Comparing two arrays of marks. -/
import Derived.Test.YtkjmeeggjmeajaaB10
namespace Go.Proofs.Ytkjmeeggjmeajaa
open Go.RowKit

def eqUpto (f g : Nat → Int) (n : Nat) : Bool := (List.range n).all fun i => f i == g i
theorem run_part_marks (f : Nat → Int) {i : Nat} (hi : i < 25) (w : World) : (part 3 (marksV f) i).run Try.prog w = .ok (.int .i64 (f i)) w := by
  have a3 := Try.isAgg3
  have h := marksV_get f hi
  unfold part
  simp [Sem.run_bind, a3, h, Result.andThen]
theorem run_forIn_marks (d : Nat) (f g : Nat → Int) (w : World) : ∀ l : List Nat, (∀ i ∈ l, i < 25) →
    (forIn (m := Sem) l ((none : Option Bool), ()) fun i __s => do
          let __do_lift ← part 3 (marksV f) i
          let __do_lift_1 ← part 3 (marksV g) i
          let __do_lift ← Op.equalIn (d + 1) 3 __do_lift __do_lift_1
          if __do_lift = false then pure (ForInStep.done (some false, ())) else pure (ForInStep.yield (none, ()))).run Try.prog w =
      .ok (if l.all (fun i => f i == g i) then (none, ()) else (some false, ())) w := by
  intro l
  induction l with
  | nil => intro _; rfl
  | cons i l ih =>
    intro h
    have h1 := run_part_marks f (h i (by simp)) w
    have h2 := run_part_marks g (h i (by simp)) w
    have h3 := run_equalIn_int (P := Try.prog) w d 3 .i64 .i64 (f i) (g i) Try.underlying3
    rw [List.forIn_cons]
    simp only [Sem.run_bind, h1, h2, h3, Result.andThen]
    by_cases e : f i = g i
    · have ih' := ih (fun j hj => h j (by simp [hj]))
      rw [if_neg (by simp [e])]
      simp only [Sem.run_pure]
      rw [ih']
      simp [e]
    · rw [if_pos (by simpa using e)]
      simp [Sem.run_pure, e]
theorem run_equalIn70 (d : Nat) (f g : Nat → Int) (w : World) : (Op.equalIn (d + 2) 70 (.agg (marksV f)) (.agg (marksV g))).run Try.prog w = .ok (eqUpto f g 25) w := by
  rw [Op.equalIn]
  simp only [Sem.run_bind, run_underlying Try.underlying70, Result.andThen]
  have z3 := Try.sizeOf3
  simp [z3]
  rw [run_forIn_marks d f g w _ (by intro i hi; simp [List.mem_range'] at hi; omega)]
  unfold eqUpto
  rw [show List.range' 0 25 = List.range 25 from by rw [List.range_eq_range']]
  generalize (List.range 25).all (fun i => f i == g i) = b
  cases b <;> rfl
theorem guard70 : Try.prog.eqGuardType Try.prog.depth 70 = false := by kernel_rfl
def neqM (f g : Nat → Int) : Bool := !(eqUpto f g 25)
theorem run_neqM (f g : Nat → Int) (w : World) : (binOp .neq 70 (.agg (marksV f)) (.agg (marksV g))).run Try.prog w = .ok (.bool (neqM f g)) w := by
  rw [run_neq_struct, show (10000 : Nat) = 9998 + 2 from rfl, run_equalIn70]; rfl
end Go.Proofs.Ytkjmeeggjmeajaa
