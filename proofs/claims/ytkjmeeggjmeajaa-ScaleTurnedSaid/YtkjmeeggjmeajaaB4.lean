/- Small functions, more: ranges, fine, check. -/
import Derived.Test.YtkjmeeggjmeajaaB3
namespace Go.Proofs.Ytkjmeeggjmeajaa
open Go.RowKit

theorem guardR : Try.prog.eqGuardType Try.prog.depth 50 = false := by kernel_rfl
theorem run_equalR (a b c d : Int) (w : World) : (Op.equalIn 10000 50 (.agg #[.int .i64 a, .int .i64 b]) (.agg #[.int .i64 c, .int .i64 d])).run Try.prog w = .ok (a == c && b == d) w := by
  have u2 := Try.underlying2
  have a2 := Try.isAgg2
  have z2 := Try.sizeOf2
  have hS : Try.prog.underlying 50 = some (.struct (Try.prog.fieldsOf 50)) := by kernel_rfl
  have hp : Try.prog.stoodInHeld 50 = false := by kernel_rfl
  rw [show (10000 : Nat) = 9999 + 1 from rfl, run_equalIn_agg w 9999 50 _ _ hS hp]
  simp only [Program.fieldsOf, Try.underlying50]
  go_simp
  by_cases h1 : a = c <;> by_cases h2 : b = d <;> simp [h1, h2]
def neqRB (a b c d : Int) : Bool := !(a == c && b == d)
theorem neqRB_f {a b c d : Int} (h : neqRB a b c d = false) : a = c ∧ b = d := by simpa [neqRB] using h
theorem neqRB_t {a b c d : Int} (h : neqRB a b c d = true) : ¬ (a = c ∧ b = d) := by simp [neqRB] at h; omega
theorem run_neqR (a b c d : Int) (w : World) : (binOp .neq 50 (.agg #[.int .i64 a, .int .i64 b]) (.agg #[.int .i64 c, .int .i64 d])).run Try.prog w = .ok (.bool (neqRB a b c d)) w := by
  rw [run_neq_struct, run_equalR]; rfl

set_option maxHeartbeats 400000 in
theorem ranges_any (A B : Option Addr) (ca cb : Nat) (a b : List (Int × Int)) (w : World) (ha : RangesAt w A a) (hb : RangesAt w B b) (hn : a.length ≤ 100000) (_hm : b.length ≤ 100000) :
    Calls Try.prog 27 #[.slice A a.length ca, .slice B b.length cb] w (Ret fun v w' => v = .bool (decide (a = b)) ∧ ∃ q, w' = w.drewN q) := by
  have Ha := Lib.hid ha; clear ha
  have Hb := Lib.hid hb; clear hb
  by_cases h1 : a.length = b.length
  · have d1 : ((a.length : Int) != (b.length : Int)) = false := by simp [h1]
    have Hab := Lib.hid h1; clear h1
    have hG := guardR
    have hN := run_neqR
    go_enter Try.func27, Try.ntmps27
    go_wp2
    go_loopw [5] (fun i wr => ∃ k q : Nat, k ≤ a.length ∧ i = .int .i64 k ∧ wr = w.drewN q ∧ Hid (a.take k = b.take k)) (fun i _ => a.length - (intOf i).toNat)
    case atStart => exact ⟨0, 0, by omega, rfl, rfl, rfl⟩
    case round =>
      obtain ⟨k, q, hk, rfl, rfl, HT⟩ := hrel
      by_cases hkn : k < a.length
      · have hkm : k < b.length := by have := Hab.out; omega
        obtain ⟨b1, o1, rfl, g1, g1'⟩ := Ha.out.at_ hkn
        obtain ⟨b2, o2, rfl, g2, g2'⟩ := Hb.out.at_ hkm
        generalize hx : a[k] = x at g1 g1'
        generalize hy : b[k] = y at g2 g2'
        have Hx := Lib.hid hx; clear hx
        have Hy := Lib.hid hy; clear hy
        obtain ⟨x1, x2⟩ := x
        obtain ⟨y1, y2⟩ := y
        dsimp only at g1 g1' g2 g2'
        go_wp2
        go_quiet (fail)
        clear hN hG
        generalize hc : neqRB x1 x2 y1 y2 = c
        have Hc := Lib.hid hc; clear hc
        cases c
        · go_wp2
          go_roundw
          case rel => exact ⟨k + 1, _, by omega, by go_num, rfl, rows_next Hab.out hkn HT.out (by rw [Hx.out, Hy.out]; simpa using neqRB_f Hc.out)⟩
          case measure => simp [intOf]; omega
        · go_wp2
          go_ret
          exact Ret.mk' (by simp [rows_part hkn hkm (by rw [Hx.out, Hy.out]; simpa using neqRB_t Hc.out)]) ⟨rfl, (by first | exact ⟨_, rfl⟩ | exact drewN_two _ _ _)⟩
      · go_wp2
        go_ret
        exact Ret.mk' (by simp [rows_end Hab.out hkn HT.out]) ⟨rfl, (by first | exact ⟨_, rfl⟩ | exact drewN_two _ _ _)⟩
  · have d1 : ((a.length : Int) != (b.length : Int)) = true := by simp; omega
    go_enter Try.func27, Try.ntmps27
    go_wp2
    go_ret
    exact Ret.mk' (by simp; intro e; rw [e] at h1; exact h1 rfl) ⟨rfl, 0, rfl⟩
end Go.Proofs.Ytkjmeeggjmeajaa
