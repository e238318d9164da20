/- Small functions: both, turned, one, rg, great, ints, ranges, fine, check. -/
import Derived.Test.YtkjmeeggjmeajaaB2
namespace Go.Proofs.Ytkjmeeggjmeajaa
open Go.RowKit

def bothR (a b : Int × Int) : Int × Int := (max a.1 b.1, min a.2 b.2)
def turnedR (a : Int × Int) : Int × Int := (10000 - a.2, 10000 - a.1)

set_option maxHeartbeats 400000 in
theorem one_any (n : Int) (w : World) : Calls Try.prog 58 #[.int .i64 n] w (Ret fun v w' => v = vR (n, n) ∧ Below w.heap.size w w') := by
  go_enter Try.func58, Try.ntmps58
  go_wp2
  exact bodyPost_ret (v := vR (n, n)) (by simp [vR, results, Try.results58, go_sem]) rfl (Ret.mk ⟨rfl, by first | exact (below_alloc' (Below.refl _ _) _) | exact ((Below.refl _ _).alloc (Nat.le_refl _) _).setCell (by simp) _⟩)

set_option maxHeartbeats 400000 in
theorem rg_any (a b : Int) (w : World) : Calls Try.prog 33 #[.int .i64 a, .int .i64 b] w (Ret fun v w' => v = vR (a, b) ∧ Below w.heap.size w w') := by
  go_enter Try.func33, Try.ntmps33
  go_wp2
  exact bodyPost_ret (v := vR (a, b)) (by simp [vR, results, Try.results33, go_sem]) rfl (Ret.mk ⟨rfl, by first | exact (below_alloc' (Below.refl _ _) _) | exact ((Below.refl _ _).alloc (Nat.le_refl _) _).setCell (by simp) _⟩)

set_option maxHeartbeats 400000 in
theorem both_any (a b : Int × Int) (w : World) : Calls Try.prog 50 #[vR a, vR b] w (Ret fun v w' => v = vR (bothR a b) ∧ Below w.heap.size w w') := by
  obtain ⟨a1, a2⟩ := a
  obtain ⟨b1, b2⟩ := b
  unfold vR
  dsimp only
  go_enter Try.func50, Try.ntmps50
  go_wp2
  all_goals
    refine bodyPost_ret (v := vR (bothR (a1, a2) (b1, b2))) ?_ rfl (Ret.mk ⟨rfl, below_alloc' (below_alloc' (below_alloc' (Below.refl _ _) _) _) _⟩)
    simp [vR, bothR, results, Try.results50, go_sem]
    omega

def inB (x : Int) : Prop := -1000000000000 ≤ x ∧ x ≤ 1000000000000

set_option maxHeartbeats 400000 in
theorem turned_any (a : Int × Int) (h1 : inB a.1) (h2 : inB a.2) (w : World) : Calls Try.prog 46 #[vR a] w (Ret fun v w' => v = vR (turnedR a) ∧ Below w.heap.size w w') := by
  obtain ⟨a1, a2⟩ := a
  unfold vR
  unfold inB at h1 h2
  dsimp only at h1 h2 ⊢
  go_enter Try.func46, Try.ntmps46
  go_wp2
  exact bodyPost_ret (v := vR (turnedR (a1, a2))) (by simp [vR, turnedR, results, Try.results46, go_sem]) rfl (Ret.mk ⟨rfl, by first | exact (below_alloc' (below_alloc' (Below.refl _ _) _) _) | exact (((Below.refl _ _).alloc (Nat.le_refl _) _).alloc (by simp) _).setCell (by simp) _⟩)

theorem great_any (A : Option Addr) (cap : Nat) (n : Nat) (w : World) (hn : n ≤ 9223372036854775807) :
    Calls Try.prog 14 #[.slice A n cap] w (Ret fun v w' => v = .bool (decide (30 < n)) ∧ w = w') := by
  go_enter Try.func14, Try.ntmps14
  go_wp2
  go_ret
  exact Ret.mk' (by simp; omega) ⟨rfl, rfl⟩

theorem rows_next {α : Type} [DecidableEq α] {a b : List α} (hab : a.length = b.length) {k : Nat} (hk : k < a.length) (h : a.take k = b.take k) (h2 : a[k] = b[k]) : a.take (k+1) = b.take (k+1) := by
  rw [List.take_succ_eq_append_getElem hk, List.take_succ_eq_append_getElem (by omega), h, h2]
theorem rows_end {α : Type} [DecidableEq α] {a b : List α} (hab : a.length = b.length) {k : Nat} (hk : ¬ k < a.length) (h : a.take k = b.take k) : decide (a = b) = true := by
  rw [List.take_of_length_le (by omega), List.take_of_length_le (by omega)] at h; simp [h]
theorem rows_part {α : Type} [DecidableEq α] {a b : List α} {k : Nat} (hk : k < a.length) (hk' : k < b.length) (h2 : a[k] ≠ b[k]) : decide (a = b) = false := by
  simp only [decide_eq_false_iff_not]; rintro rfl; exact h2 rfl

set_option maxHeartbeats 400000 in
theorem ints_any (A B : Option Addr) (ca cb : Nat) (a b : List Int) (w : World) (ha : IntsAt w A a) (hb : IntsAt w B b) (hn : a.length ≤ 100000) (_hm : b.length ≤ 100000) :
    Calls Try.prog 22 #[.slice A a.length ca, .slice B b.length cb] w (Ret fun v w' => v = .bool (decide (a = b)) ∧ ∃ q, w' = w.drewN q) := by
  have Ha := Lib.hid ha; clear ha
  have Hb := Lib.hid hb; clear hb
  by_cases h1 : a.length = b.length
  · have d1 : ((a.length : Int) != (b.length : Int)) = false := by simp [h1]
    have Hab := Lib.hid h1; clear h1
    go_enter Try.func22, Try.ntmps22
    go_wp2
    go_loopw [5] (fun i wr => ∃ k q : Nat, k ≤ a.length ∧ i = .int .i64 k ∧ wr = w.drewN q ∧ Hid (a.take k = b.take k)) (fun i _ => a.length - (intOf i).toNat)
    case atStart => exact ⟨0, 0, by omega, rfl, rfl, rfl⟩
    case round =>
      obtain ⟨k, q, hk, rfl, rfl, HT⟩ := hrel
      by_cases hkn : k < a.length
      · have hkm : k < b.length := by have := Hab.out; omega
        obtain ⟨b1, o1, rfl, g1⟩ := Ha.out.at_ hkn
        obtain ⟨b2, o2, rfl, g2⟩ := Hb.out.at_ hkm
        generalize hx : a[k] = x at g1
        generalize hy : b[k] = y at g2
        have Hx := Lib.hid hx; clear hx
        have Hy := Lib.hid hy; clear hy
        go_wp2
        go_quiet (fail)
        by_cases hxy : x = y
        · obtain rfl := hxy
          go_wp2
          go_roundw
          case rel => exact ⟨k + 1, _, by omega, by go_num, rfl, rows_next Hab.out hkn HT.out (by rw [Hx.out, Hy.out])⟩
          case measure => simp [intOf]; omega
        · have d2 : (x != y) = true := by simpa using hxy
          go_wp2
          go_ret
          exact Ret.mk' (by simp [rows_part hkn hkm (by rw [Hx.out, Hy.out]; exact hxy)]) ⟨rfl, (by first | exact ⟨_, rfl⟩ | exact drewN_two _ _ _)⟩
      · go_wp2
        go_ret
        exact Ret.mk' (by simp [rows_end Hab.out hkn HT.out]) ⟨rfl, (by first | exact ⟨_, rfl⟩ | exact drewN_two _ _ _)⟩
  · have d1 : ((a.length : Int) != (b.length : Int)) = true := by simp; omega
    go_enter Try.func22, Try.ntmps22
    go_wp2
    go_ret
    exact Ret.mk' (by simp; intro e; rw [e] at h1; exact h1 rfl) ⟨rfl, 0, rfl⟩
end Go.Proofs.Ytkjmeeggjmeajaa
