/- The songs' checks: within, CheckSong, of the program and of the reference; one; on. -/
import Derived.Test.YtkjmeeggjmeajaaB1
namespace Go.Proofs.Ytkjmeeggjmeajaa
open Go.RowKit

def badR (r : Int × Int) : Bool := decide (r.1 < 0) || decide (r.2 < r.1) || decide (10000 < r.2)
def songErr (l : List (Int × Int)) : Int := if l.length < 1 ∨ 24 < l.length then 6 else if l.any badR then 2 else 0
def onR (r : Int × Int) (x : Int) : Bool := decide (r.1 ≤ x) && decide (x ≤ r.2)

theorem badR_t {lo hi : Int} (h : lo < 0 ∨ hi < lo ∨ 10000 < hi) : badR (lo, hi) = true := by simp [badR]; omega
theorem badR_f {lo hi : Int} (h : 0 ≤ lo ∧ lo ≤ hi ∧ hi ≤ 10000) : badR (lo, hi) = false := by simp [badR]; omega
theorem songErr_many {l : List (Int × Int)} (h : l.length < 1 ∨ 24 < l.length) : songErr l = 6 := by
  unfold songErr; rw [if_pos (by omega)]
theorem songErr_in {l : List (Int × Int)} (h1 : 1 ≤ l.length) (h2 : l.length ≤ 24) : songErr l = if l.any badR = true then 2 else 0 := by
  unfold songErr; rw [if_neg (by omega)]
theorem songErr_bad {l : List (Int × Int)} (h1 : 1 ≤ l.length) (h2 : l.length ≤ 24) {k : Nat} (hk : k < l.length) (h : badR l[k] = true) : songErr l = 2 := by
  unfold songErr; rw [if_neg (by omega), if_pos]
  rw [List.any_eq_true]; exact ⟨_, List.getElem_mem hk, h⟩
theorem songErr_ok {l : List (Int × Int)} (h1 : 1 ≤ l.length) (h2 : l.length ≤ 24) {k : Nat} (hk' : ¬ k < l.length) (h : (l.take k).any badR = false) : songErr l = 0 := by
  unfold songErr; rw [if_neg (by omega), if_neg]
  rw [List.take_of_length_le (by omega)] at h; simp [h]

theorem enters64 : ∀ args W, (callFunc 64 args).run Try.prog W = .ok (.enter 64 args) W := fun args W => by simp [go_sem]

set_option maxHeartbeats 400000 in
theorem within1_any (x : Int × Int) (w : World) : Calls Try.prog 64 #[vR x] w (Ret fun v w' => v = .bool (badR x) ∧ Below w.heap.size w w') := by
  obtain ⟨lo, hi⟩ := x
  unfold vR
  dsimp only
  go_enter Try.func64, Try.ntmps64
  go_wp2
  all_goals (go_ret; refine Ret.mk' ?_ ⟨rfl, below_alloc' (Below.refl _ _) _⟩; simp [badR, *])

theorem asksWithin (w : World) : Asks w 64 #[] #[] vR (fun _ => True) badR := fun W x _ _ => within1_any x W

set_option maxHeartbeats 400000 in
theorem within_any (A : Option Addr) (cap : Nat) (l : List (Int × Int)) (w : World) (hl : RangesAt w A l) (hn : l.length ≤ 100000) :
    Calls Try.prog 44 #[.slice A l.length cap] w (Ret fun v w' => v = .bool (!l.any badR) ∧ Below w.heap.size w w') := by
  have Hl := Lib.hid hl; clear hl
  go_enter Try.func44, Try.ntmps44
  go_wp2_with fail
  refine (containsFuncR_any _ _ l 64 #[] #[] (fun _ => True) badR _ Hl.out hn (fun _ _ => trivial) enters64 (asksWithin _)).mono ?_
  rintro e w1 ⟨v, rfl, rfl, hB1⟩
  have HB1 := Lib.hid hB1; clear hB1
  go_wp2
  go_ret
  exact Ret.mk ⟨rfl, HB1.out⟩

set_option maxHeartbeats 400000 in
theorem checkSong_any (A : Option Addr) (cap : Nat) (l : List (Int × Int)) (w : World) (hl : RangesAt w A l) (hn : l.length ≤ 100000) :
    Calls Try.prog 18 #[.slice A l.length cap] w (Ret fun v w' => v = .int .i64 (songErr l) ∧ Below w.heap.size w w') := by
  have Hl := Lib.hid hl; clear hl
  by_cases h1 : l.length < 1
  · obtain rfl : l = [] := List.eq_nil_of_length_eq_zero (by omega)
    go_enter Try.func18, Try.ntmps18
    go_wp2
    go_ret
    exact Ret.mk' (by simp [songErr_many]) ⟨rfl, Below.refl _ _⟩
  have d1 : ((l.length : Int) == 0) = false := beq_eq_false_iff_ne.2 (by omega)
  by_cases h2 : 24 < l.length
  · go_enter Try.func18, Try.ntmps18
    go_wp2
    go_ret
    exact Ret.mk' (by simp [songErr_many (.inr h2)]) ⟨rfl, Below.refl _ _⟩
  go_enter Try.func18, Try.ntmps18
  go_wp2_with fail
  refine (within_any _ _ l _ Hl.out hn).mono ?_
  rintro e w1 ⟨v, rfl, rfl, hB1⟩
  have HB1 := Lib.hid hB1; clear hB1
  cases hq : l.any badR
  all_goals
    have Hq := Lib.hid hq
    clear hq
    go_wp2
    go_ret
    refine Ret.mk' ?_ ⟨rfl, HB1.out⟩
    rw [songErr_in (by omega) (by omega), Hq.out]
    rfl

set_option maxHeartbeats 400000 in
theorem refCheckSong_any (A : Option Addr) (cap : Nat) (l : List (Int × Int)) (w : World) (hl : RangesAt w A l) (hn : l.length ≤ 100000) :
    Calls Try.prog 19 #[.slice A l.length cap] w (Ret fun v w' => v = .int .i64 (songErr l) ∧ ∃ q, w' = w.drewN q) := by
  have Hl := Lib.hid hl; clear hl
  by_cases h1 : l.length < 1
  · go_enter Try.func19, Try.ntmps19
    go_wp2
    go_ret
    exact Ret.mk' (by simp [songErr_many (.inl h1)]) ⟨rfl, 0, rfl⟩
  by_cases h2 : 24 < l.length
  · go_enter Try.func19, Try.ntmps19
    go_wp2
    go_ret
    exact Ret.mk' (by simp [songErr_many (.inr h2)]) ⟨rfl, 0, rfl⟩
  go_enter Try.func19, Try.ntmps19
  go_wp2
  go_loopw [3] (fun i wr => ∃ k q : Nat, k ≤ l.length ∧ i = .int .i64 k ∧ wr = w.drewN q ∧ (l.take k).any badR = false) (fun i _ => l.length - (intOf i).toNat)
  case atStart => exact ⟨0, 0, by omega, rfl, rfl, by simp⟩
  case round =>
    obtain ⟨k, q, hk, rfl, rfl, hb⟩ := hrel
    have Hb := Lib.hid hb; clear hb
    by_cases hkn : k < l.length
    · obtain ⟨b, off, rfl, g1, g2⟩ := Hl.out.at_ hkn
      generalize hx : l[k] = x at g1 g2
      have Hx := Lib.hid hx; clear hx
      obtain ⟨lo, hi⟩ := x
      dsimp only at g1 g2
      go_wp2
      refine wp_region_quiet_lit (by kernel_rfl) (by kernel_rfl) ?_
      repeat (any_goals (first | go_big_quiet_step (fail) | quiet_step (fail) | (refine wpQuiet_step (fun K hK => ?_); go_simp; split <;> (refine hK _ ?_; clear hK K))))
      all_goals (refine wpQuiet_nil ?_; intro _ hw'; obtain ⟨nq, hw''⟩ := hw'; subst hw'')
      all_goals go_wp2
      all_goals first
        | (go_ret; refine Ret.mk' ?_ ⟨rfl, (by first | exact ⟨_, rfl⟩ | exact drewN_two _ _ _)⟩; rw [songErr_bad (by omega) (by omega) hkn (by rw [Hx.out]; exact badR_t (by omega))]; rfl)
        | (go_roundw; (case rel => exact ⟨k + 1, _, by omega, by go_num, rfl, any_next hkn Hb.out (by rw [Hx.out]; exact badR_f (by omega))⟩); (case measure => (simp [intOf]; omega)))
    · go_wp2
      go_ret
      exact Ret.mk' (by simp [songErr_ok (by omega) (by omega) hkn Hb.out]) ⟨rfl, q, rfl⟩
end Go.Proofs.Ytkjmeeggjmeajaa
