/- ref: Meets, IsScale. -/
import Derived.Test.YtkjmeeggjmeajaaB12
namespace Go.Proofs.Ytkjmeeggjmeajaa
open Go.RowKit

theorem any_onR_next {s : List Int} {r : Int × Int} {k : Nat} (hk : k < s.length) {x : Int} (hx : s[k] = x) (h : (s.take k).any (onR r) = false) (hn : ¬ (r.1 ≤ x ∧ x ≤ r.2)) : (s.take (k+1)).any (onR r) = false := by
  rw [take_snoc hk hx, List.any_append, h]; simp [onR]; omega
theorem any_onR_hit {s : List Int} {r : Int × Int} {k : Nat} (hk : k < s.length) {x : Int} (hx : s[k] = x) (hn : r.1 ≤ x ∧ x ≤ r.2) : s.any (onR r) = true :=
  List.any_eq_true.2 ⟨x, by rw [← hx]; exact List.getElem_mem hk, by simp [onR]; omega⟩

set_option maxHeartbeats 1000000 in
theorem meets_any (r : Int × Int) (B : Option Addr) (cb : Nat) (s : List Int) (w : World) (hs : IntsAt w B s) (hm : s.length ≤ 100000) :
    Calls Try.prog 34 #[vR r, .slice B s.length cb] w (Ret fun v w' => v = .bool (s.any (onR r)) ∧ Below w.heap.size w w') := by
  have Hs := Lib.hid hs; clear hs
  obtain ⟨r1, r2⟩ := r
  unfold vR
  dsimp only
  have p1 : (w.alloc (.cells #[.int .i64 r1, .int .i64 r2] 50)).cell? ⟨w.heap.size, 0, none⟩ = some (.int .i64 r1) := new2_0 _ _ _ _
  have p2 : (w.alloc (.cells #[.int .i64 r1, .int .i64 r2] 50)).cell? ⟨w.heap.size, 1, none⟩ = some (.int .i64 r2) := new2_1 _ _ _ _
  go_enter Try.func34, Try.ntmps34
  go_wp2
  have Hs1 : Hid (IntsAt (w.alloc (.cells #[.int .i64 r1, .int .i64 r2] 50)) B s) := RowsAt.alloc Hs.out _
  have HB0 := Lib.hid (below_alloc' (Below.refl w.heap.size w) (.cells #[.int .i64 r1, .int .i64 r2] 50))
  generalize w.alloc (.cells #[.int .i64 r1, .int .i64 r2] 50) = w0 at p1 p2 Hs1 HB0 ⊢
  go_loopw [5] (fun i wr => ∃ k q : Nat, k ≤ s.length ∧ i = .int .i64 k ∧ wr = w0.drewN q ∧ (s.take k).any (onR (r1, r2)) = false) (fun i _ => s.length - (intOf i).toNat)
  case atStart => exact ⟨0, 0, by omega, rfl, rfl, by simp⟩
  case round =>
    obtain ⟨k, q, hk, rfl, rfl, hb⟩ := hrel
    have Hb := Lib.hid hb; clear hb
    by_cases hkn : k < s.length
    · obtain ⟨b, off, rfl, g1⟩ := IntsAt.at_ Hs1.out hkn
      generalize hx : s[k] = x at g1
      have Hx := Lib.hid hx; clear hx
      go_wp2
      refine wp_region_quiet_lit (by kernel_rfl) (by kernel_rfl) ?_
      repeat (any_goals (first | go_big_quiet_step (fail) | quiet_step (fail) | (refine wpQuiet_step (fun K hK => ?_); go_simp; split <;> (refine hK _ ?_; clear hK K))))
      all_goals (refine wpQuiet_nil ?_; intro _ hw'; obtain ⟨nq, hw''⟩ := hw'; subst hw'')
      all_goals go_wp2
      all_goals first
        | (go_ret; refine Ret.mk' ?_ ⟨rfl, below_drewN (below_drewN HB0.out _) _⟩; rw [any_onR_hit hkn Hx.out (by dsimp only; omega)]; rfl)
        | (go_ret; refine Ret.mk' ?_ ⟨rfl, below_drewN HB0.out _⟩; rw [any_onR_hit hkn Hx.out (by dsimp only; omega)]; rfl)
        | (go_roundw; (case rel => exact ⟨k + 1, _, by omega, by go_num, rfl, any_onR_next hkn Hx.out Hb.out (by dsimp only; omega)⟩); (case measure => (simp [intOf]; omega)))
    · go_wp2
      go_ret
      have hkl : k = s.length := by omega
      subst hkl
      have hb := Hb.out
      rw [List.take_length] at hb
      exact Ret.mk' (by rw [hb]; rfl) ⟨rfl, below_drewN HB0.out _⟩

theorem any_bad_next {s : List Int} {k : Nat} (hk : k < s.length) {x : Int} (hx : s[k] = x) (h : (s.take k).any (fun n => badR (n, n)) = false) (hn : 0 ≤ x ∧ x ≤ 10000) : (s.take (k+1)).any (fun n => badR (n, n)) = false := by
  rw [take_snoc hk hx, List.any_append, h]; simp [badR_f (show 0 ≤ x ∧ x ≤ x ∧ x ≤ 10000 by omega)]
theorem any_bad_hit {s : List Int} {k : Nat} (hk : k < s.length) {x : Int} (hx : s[k] = x) (hn : x < 0 ∨ 10000 < x) : s.any (fun n => badR (n, n)) = true :=
  List.any_eq_true.2 ⟨x, by rw [← hx]; exact List.getElem_mem hk, badR_t (by omega)⟩
set_option maxHeartbeats 1000000 in
theorem isScale_any (A B : Option Addr) (ca cb : Nat) (l : List (Int × Int)) (s : List Int) (w : World) (hl : RangesAt w A l) (hs : IntsAt w B s) (hn : l.length ≤ 100000) (hm : s.length ≤ 100000) :
    Calls Try.prog 43 #[.slice A l.length ca, .slice B s.length cb] w (Ret fun v w' => v = .int .i64 (checkErr l s) ∧ ∃ q, w' = w.drewN q) := by
  have Hl := Lib.hid hl; clear hl
  have Hs := Lib.hid hs; clear hs
  go_enter Try.func43, Try.ntmps43
  go_wp2_with fail
  refine (refCheckSong_any _ _ l _ Hl.out hn).mono ?_
  rintro e w1 ⟨v, rfl, rfl, q1, rfl⟩
  have Hl1 : Hid (RangesAt (w.drewN q1) A l) := Hl.out
  have Hs1 : Hid (IntsAt (w.drewN q1) B s) := Hs.out
  by_cases h0 : songErr l = 0
  · have d0 : (songErr l != 0) = false := by simp [h0]
    have H0 := Lib.hid h0; clear h0
    by_cases h1 : 24 < s.length
    · go_wp2
      go_ret
      exact Ret.mk' (by simp [checkErr, H0.out, h1]) ⟨rfl, q1, rfl⟩
    · go_wp2
      go_loopw [5] (fun i wr => ∃ k q : Nat, k ≤ s.length ∧ i = .int .i64 k ∧ wr = w.drewN q ∧ (s.take k).any (fun n => badR (n, n)) = false) (fun i _ => s.length - (intOf i).toNat)
      case atStart => exact ⟨0, q1, by omega, rfl, rfl, by simp⟩
      case round =>
        obtain ⟨k, q, hk, rfl, rfl, hb⟩ := hrel
        have Hb := Lib.hid hb; clear hb
        by_cases hkn : k < s.length
        · obtain ⟨b, off, rfl, g1⟩ := IntsAt.at_ Hs.out hkn
          generalize hx : s[k] = x at g1
          have Hx := Lib.hid hx; clear hx
          go_wp2
          all_goals first
            | (go_ret; refine Ret.mk' ?_ ⟨rfl, q, rfl⟩; rw [checkErr, if_neg (by rw [H0.out]; simp), if_neg h1, if_pos (any_bad_hit hkn Hx.out (by first | omega | (simp at *; omega)))]; rfl)
            | (go_roundw; (case rel => exact ⟨k + 1, _, by omega, by go_num, rfl, any_bad_next hkn Hx.out Hb.out (by omega)⟩); (case measure => (simp [intOf]; omega)))
        · have hkl : k = s.length := by omega
          subst hkl
          have hq := Hb.out
          rw [List.take_length] at hq
          have Hq := Lib.hid hq; clear hq
          go_wp2
          go_loopw [6] (fun i wr => ∃ k q : Nat, k ≤ s.length ∧ i = .int .i64 (k + 1 : Int) ∧ wr = w.drewN q ∧ badRise s k = false) (fun i _ => s.length + 1 - (intOf i).toNat)
          case atStart => exact ⟨0, q, by omega, rfl, rfl, by simp [badRise]⟩
          case round =>
            obtain ⟨k, q, hk, rfl, rfl, hb⟩ := hrel
            have Hb := Lib.hid hb; clear hb
            by_cases hkn : k + 1 < s.length
            · obtain ⟨b1, o1, rfl, g1⟩ := IntsAt.at_ Hs.out hkn
              obtain ⟨b2, o2, e2, g2⟩ := IntsAt.at_ Hs.out (show k < s.length by omega)
              injection e2 with e2
              injection e2 with e2 e3
              subst e2 e3
              generalize hx : s[k] = x at g2
              generalize hy : s[k+1] = y at g1
              have Hx := Lib.hid hx; clear hx
              have Hy := Lib.hid hy; clear hy
              go_wp2
              go_quiet (fail)
              by_cases hxy : y ≤ x
              · go_wp2
                go_ret
                exact Ret.mk' (by simp [checkErr, H0.out, Hq.out, h1, rise_bad hkn Hx.out Hy.out hxy]) ⟨rfl, drewN_two _ _ _⟩
              · go_wp2
                go_roundw
                case rel => exact ⟨k + 1, _, by omega, by go_num, rfl, rise_next Hb.out hkn Hx.out Hy.out (by omega)⟩
                case measure => simp [intOf]; omega
            · go_wp2
              go_ret
              refine Ret.mk' ?_ ⟨rfl, q, rfl⟩
              simp [checkErr, H0.out, Hq.out, h1, rise_end Hb.out (show s.length - 1 ≤ k by omega)]
  · have d0 : (songErr l != 0) = true := by simpa using h0
    have H0 := Lib.hid h0; clear h0
    go_wp2_with fail
    refine (refCheckSong_any _ _ l _ Hl1.out hn).mono ?_
    rintro e w2 ⟨v, rfl, rfl, q2, rfl⟩
    go_wp2
    go_ret
    exact Ret.mk' (by simp [checkErr, H0.out]) ⟨rfl, by first | exact ⟨_, rfl⟩ | exact drewN_two _ _ _⟩
end Go.Proofs.Ytkjmeeggjmeajaa
