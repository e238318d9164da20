/- ref: CheckApart. -/
import Derived.Test.YtkjmeeggjmeajaaD5
namespace Go.Proofs.Ytkjmeeggjmeajaa
open Go.RowKit

set_option maxRecDepth 100000 in
set_option maxHeartbeats 1000000 in
theorem refCheckApart_any (A B : Option Addr) (ca cb : Nat) (l : List (Int × Int)) (s : List Int) (w : World) (hl : RangesAt w A l) (hs : IntsAt w B s) (hn : l.length ≤ 100000) (hm : s.length ≤ 100000) :
    Calls Try.prog 36 #[.slice A l.length ca, .slice B s.length cb] w (Ret fun v w' => v = .int .i64 (apartErr l s) ∧ Below w.heap.size w w') := by
  have Hl := Lib.hid hl; clear hl
  have Hs := Lib.hid hs; clear hs
  go_enter Try.func36, Try.ntmps36
  go_wp2_with fail
  refine (refCheckSong_any _ _ l _ Hl.out hn).mono ?_
  rintro e w1 ⟨v, rfl, rfl, q, rfl⟩
  by_cases h0 : songErr l = 0
  · have d0 : (songErr l != 0) = false := by simp [h0]
    have H0 := Lib.hid h0; clear h0
    go_wp2
    go_loopw [5] (fun i wr => ∃ k : Nat, k ≤ s.length ∧ i = .int .i64 k ∧ Hid (risingFrom (-1) l.length (s.take k) = true) ∧ ∃ q, wr = w.drewN q) (fun i _ => s.length - (intOf i).toNat)
    case atStart => exact ⟨0, by omega, rfl, rfl, (by first | exact ⟨_, rfl⟩ | exact drewN_two _ _ _)⟩
    case round =>
      obtain ⟨k, hk, rfl, HR, q, rfl⟩ := hrel
      by_cases hkn : k < s.length
      · obtain ⟨b1, o1, rfl, g1⟩ := Hs.out.at_ hkn
        generalize hx : s[k] = x at g1
        have Hx := Lib.hid hx; clear hx
        have g1 : (w.drewN q).cell? ⟨b1, o1 + k, none⟩ = some (.int .i64 x) := g1
        by_cases hk0 : 0 < k
        · obtain ⟨k', hkk⟩ : ∃ k', k = k' + 1 := ⟨k - 1, by omega⟩
          have hk'n : k' < s.length := by omega
          have fk : decide (0 < k) = true := by simp; omega
          obtain ⟨b2, o2, e2, g2⟩ := Hs.out.at_ hk'n
          injection e2 with e2
          injection e2 with e2 e3
          subst e2 e3
          have hy : lastOf (-1) (s.take k) = s[k'] := by rw [hkk]; exact lastOf_next hk'n rfl
          have hw : IntKind.i64.wrap ((k : Int) - 1) = (k' : Int) := by rw [show (k : Int) - 1 = k' by omega]; exact IntWalk.i64_in _ (by omega)
          have hy0 : -1 < s[k'] ∧ s[k'] < l.length := by
            have := rising_mem _ _ _ HR.out s[k'] (List.mem_take_iff_getElem.2 ⟨k', by omega, rfl⟩)
            exact this
          generalize hyy : s[k'] = y at g2 hy hy0
          have g2 : (w.drewN q).cell? ⟨b1, o1 + k', none⟩ = some (.int .i64 y) := g2
          have Hy := Lib.hid hy
          have Hkk := Lib.hid hkk
          clear hy hyy hkk
          by_cases hx0 : x < 0
          · have fhx0 : decide (x < 0) = true := by simp; omega
            go_wp2
            refine wp_region_quiet_lit (by kernel_rfl) (by kernel_rfl) ?_
            repeat (any_goals (first | go_big_quiet_step (fail) | quiet_step (fail) | (refine wpQuiet_step (fun K hK => ?_); go_simp; split <;> (refine hK _ ?_; clear hK K))))
            all_goals (refine wpQuiet_nil ?_; intro _ hw'; obtain ⟨nq, hw''⟩ := hw'; subst hw'')
            go_wp2
            go_ret
            exact Ret.mk' (by simp [apartErr, H0.out, rising_bad hkn Hx.out (n := l.length) (by rw [Hy.out]; omega)]) ⟨rfl, by first | exact below_drewN (Below.refl _ _) _ | exact below_drewN (below_drewN (Below.refl _ _) _) _⟩
          · by_cases hxn : (l.length : Int) ≤ x
            · have fhxn : decide ((l.length : Int) ≤ x) = true := by simp; omega
              go_wp2
              refine wp_region_quiet_lit (by kernel_rfl) (by kernel_rfl) ?_
              repeat (any_goals (first | go_big_quiet_step (fail) | quiet_step (fail) | (refine wpQuiet_step (fun K hK => ?_); go_simp; split <;> (refine hK _ ?_; clear hK K))))
              all_goals (refine wpQuiet_nil ?_; intro _ hw'; obtain ⟨nq, hw''⟩ := hw'; subst hw'')
              go_wp2
              go_ret
              exact Ret.mk' (by simp [apartErr, H0.out, rising_bad hkn Hx.out (n := l.length) (by rw [Hy.out]; omega)]) ⟨rfl, by first | exact below_drewN (Below.refl _ _) _ | exact below_drewN (below_drewN (Below.refl _ _) _) _⟩
            · by_cases hxy : x ≤ y
              · have fhxy : decide (x ≤ y) = true := by simp; omega
                go_wp2
                refine wp_region_quiet_lit (by kernel_rfl) (by kernel_rfl) ?_
                repeat (any_goals (first | go_big_quiet_step (fail) | quiet_step (fail) | (refine wpQuiet_step (fun K hK => ?_); go_simp; split <;> (refine hK _ ?_; clear hK K))))
                all_goals (refine wpQuiet_nil ?_; intro _ hw'; obtain ⟨nq, hw''⟩ := hw'; subst hw'')
                go_wp2
                go_ret
                exact Ret.mk' (by simp [apartErr, H0.out, rising_bad hkn Hx.out (n := l.length) (by rw [Hy.out]; omega)]) ⟨rfl, by first | exact below_drewN (Below.refl _ _) _ | exact below_drewN (below_drewN (Below.refl _ _) _) _⟩
              · have fhxy : decide (x ≤ y) = false := by simp; omega
                go_wp2
                refine wp_region_quiet_lit (by kernel_rfl) (by kernel_rfl) ?_
                repeat (any_goals (first | go_big_quiet_step (fail) | quiet_step (fail) | (refine wpQuiet_step (fun K hK => ?_); go_simp; split <;> (refine hK _ ?_; clear hK K))))
                all_goals (refine wpQuiet_nil ?_; intro _ hw'; obtain ⟨nq, hw''⟩ := hw'; subst hw'')
                go_wp2
                go_roundw
                case rel => exact ⟨k + 1, by omega, by go_num, rising_next hkn Hx.out HR.out (by rw [Hy.out]; omega) (by omega), (by first | exact ⟨_, rfl⟩ | exact drewN_two _ _ _)⟩
                case measure => simp [intOf]; omega
        · have hk00 : k = 0 := by omega
          have Hy : Hid (lastOf (-1) (s.take k) = -1) := Lib.hid (by rw [hk00]; rfl)
          have Hk00 := Lib.hid hk00
          have fk : decide (0 < k) = false := by simp; omega
          clear hk00
          by_cases hx0 : x < 0
          · have fhx0 : decide (x < 0) = true := by simp; omega
            go_wp2
            refine wp_region_quiet_lit (by kernel_rfl) (by kernel_rfl) ?_
            repeat (any_goals (first | go_big_quiet_step (fail) | quiet_step (fail) | (refine wpQuiet_step (fun K hK => ?_); go_simp; split <;> (refine hK _ ?_; clear hK K))))
            all_goals (refine wpQuiet_nil ?_; intro _ hw'; obtain ⟨nq, hw''⟩ := hw'; subst hw'')
            go_wp2
            go_ret
            exact Ret.mk' (by simp [apartErr, H0.out, rising_bad hkn Hx.out (n := l.length) (by rw [Hy.out]; omega)]) ⟨rfl, by first | exact below_drewN (Below.refl _ _) _ | exact below_drewN (below_drewN (Below.refl _ _) _) _⟩
          · by_cases hxn : (l.length : Int) ≤ x
            · have fhxn : decide ((l.length : Int) ≤ x) = true := by simp; omega
              go_wp2
              refine wp_region_quiet_lit (by kernel_rfl) (by kernel_rfl) ?_
              repeat (any_goals (first | go_big_quiet_step (fail) | quiet_step (fail) | (refine wpQuiet_step (fun K hK => ?_); go_simp; split <;> (refine hK _ ?_; clear hK K))))
              all_goals (refine wpQuiet_nil ?_; intro _ hw'; obtain ⟨nq, hw''⟩ := hw'; subst hw'')
              go_wp2
              go_ret
              exact Ret.mk' (by simp [apartErr, H0.out, rising_bad hkn Hx.out (n := l.length) (by rw [Hy.out]; omega)]) ⟨rfl, by first | exact below_drewN (Below.refl _ _) _ | exact below_drewN (below_drewN (Below.refl _ _) _) _⟩
            · have fhxn : decide ((l.length : Int) ≤ x) = false := by simp; omega
              go_wp2
              refine wp_region_quiet_lit (by kernel_rfl) (by kernel_rfl) ?_
              repeat (any_goals (first | go_big_quiet_step (fail) | quiet_step (fail) | (refine wpQuiet_step (fun K hK => ?_); go_simp; split <;> (refine hK _ ?_; clear hK K))))
              all_goals (refine wpQuiet_nil ?_; intro _ hw'; obtain ⟨nq, hw''⟩ := hw'; subst hw'')
              go_wp2
              go_roundw
              case rel => exact ⟨k + 1, by omega, by go_num, rising_next hkn Hx.out HR.out (by rw [Hy.out]; omega) (by omega), (by first | exact ⟨_, rfl⟩ | exact drewN_two _ _ _)⟩
              case measure => simp [intOf]; omega
      · have HA := Lib.hid (rising_all hkn HR.out)
        clear HR
        obtain ⟨w1, hw1⟩ : ∃ w1, w1 = w.drewN q := ⟨_, rfl⟩
        have HB1 : Hid (Below w.heap.size w w1) := Lib.hid (by rw [hw1]; exact below_drewN (Below.refl _ _) _)
        have HL1 := Lib.hid (Hl.out.below HB1.out)
        have HS1 := Lib.hid (Hs.out.below HB1.out)
        rw [← hw1]
        clear hw1
        go_wp2
        go_loopw [6] (fun i wr => ∃ k : Nat, k ≤ s.length ∧ i = .int .i64 k ∧ Below w1.heap.size w1 wr ∧ Hid ((List.range k).any (fun k => (List.range k).any (meetsAt l s k)) = false)) (fun i _ => s.length - (intOf i).toNat)
        case atStart => exact ⟨0, by omega, rfl, Below.refl _ _, rfl⟩
        case round =>
          clear hk hkn
          obtain ⟨k, hk, rfl, hB2, HP⟩ := hrel
          have HB2 := Lib.hid hB2; clear hB2
          by_cases hkn : k < s.length
          · have HS2 := Lib.hid (HS1.out.below HB2.out)
            have HL2 := Lib.hid (HL1.out.below HB2.out)
            obtain ⟨b1, o1, rfl, g1⟩ := HS2.out.at_ hkn
            obtain ⟨hx1, hx2⟩ := rising_mem _ _ _ HA.out s[k] (List.getElem_mem hkn)
            generalize hx : s[k] = x at g1 hx1 hx2
            have Hx := Lib.hid hx; clear hx
            obtain ⟨x, rfl⟩ := Int.eq_ofNat_of_zero_le (show 0 ≤ x by omega)
            obtain ⟨wo, rfl⟩ : ∃ wo : World, wo = wr := ⟨_, rfl⟩
            go_wp2
            go_loopw [7] (fun i wq => ∃ j : Nat, j ≤ k ∧ i = .int .i64 j ∧ Below wo.heap.size wo wq ∧ Hid ((List.range j).any (meetsAt l s k) = false)) (fun i _ => k - (intOf i).toNat)
            case atStart => exact ⟨0, by omega, rfl, Below.refl _ _, rfl⟩
            case round =>
              obtain ⟨j, hj, rfl, hB3, HQ⟩ := hrel
              have HB3 := Lib.hid hB3; clear hB3
              by_cases hjk : j < k
              · have hjn : j < s.length := by omega
                have HS3 := Lib.hid (HS2.out.below HB3.out)
                have HL3 := Lib.hid (HL2.out.below HB3.out)
                replace g1 := cell_below HB3.out g1
                obtain ⟨b2, o2, e2, g2⟩ := HS3.out.at_ hjn
                injection e2 with e2
                injection e2 with e2 e3
                subst e2 e3
                obtain ⟨hy1, hy2⟩ := rising_mem _ _ _ HA.out s[j] (List.getElem_mem hjn)
                generalize hy : s[j] = z at g2 hy1 hy2
                have Hy := Lib.hid hy; clear hy
                obtain ⟨z, rfl⟩ := Int.eq_ofNat_of_zero_le (show 0 ≤ z by omega)
                obtain ⟨b3, o3, rfl, p1, p2⟩ := HL3.out.at_ (show x < l.length by omega)
                obtain ⟨b4, o4, e4, p3, p4⟩ := HL3.out.at_ (show z < l.length by omega)
                injection e4 with e4
                injection e4 with e4 e5
                subst e4 e5
                generalize hlx : l[x] = lx at p1 p2
                generalize hlz : l[z] = lz at p3 p4
                have Hlx := Lib.hid hlx; clear hlx
                have Hlz := Lib.hid hlz; clear hlz
                obtain ⟨lx1, lx2⟩ := lx
                obtain ⟨lz1, lz2⟩ := lz
                dsimp only at p1 p2 p3 p4
                have hxl : x < l.length := by omega
                have hzl : z < l.length := by omega
                have g1' := fun a b => cell_alloc (cell_alloc g1 a) b
                have g1'' := fun a => cell_alloc g1 a
                have g2' := fun a b => cell_alloc (cell_alloc g2 a) b
                have g2'' := fun a => cell_alloc g2 a
                have p1' := fun a b => cell_alloc (cell_alloc p1 a) b
                have p1'' := fun a => cell_alloc p1 a
                have p2' := fun a b => cell_alloc (cell_alloc p2 a) b
                have p2'' := fun a => cell_alloc p2 a
                have p3' := fun a b => cell_alloc (cell_alloc p3 a) b
                have p3'' := fun a => cell_alloc p3 a
                have p4' := fun a b => cell_alloc (cell_alloc p4 a) b
                have p4'' := fun a => cell_alloc p4 a
                go_wp2
                go_big_region
                all_goals
                  have HM := Lib.hid (meetsAt_eq hkn hjn Hx.out Hy.out hxl hzl Hlx.out Hlz.out (rfl : bothR (lx1, lx2) (lz1, lz2) = bothR (lx1, lx2) (lz1, lz2)))
                  clear g1' g2' p1' p2' p3' p4' g1'' g2'' p1'' p2'' p3'' p4'' g1 g2 p1 p2 p3 p4
                  by_cases hr : max lx1 lz1 ≤ min lx2 lz2
                all_goals go_wp2
                all_goals first
                  | (go_ret; refine Ret.mk' ?_ ⟨rfl, below_trans' (below_trans' HB1.out HB2.out) (below_alloc' (below_alloc' HB3.out _) _).drew⟩; rw [apartErr, if_neg (by rw [H0.out]; simp), HA.out, if_neg (by simp), pairAny, range_any_hit hkn (range_any_hit hjk (by rw [HM.out]; exact decide_eq_true (by exact hr)))]; rfl)
                  | (go_roundw; (case rel => exact ⟨j + 1, by omega, by go_num, (below_alloc' (below_alloc' HB3.out _) _).drew, range_any_next HQ.out (by rw [HM.out]; exact decide_eq_false (by first | exact hr | exact Int.not_le.2 hr))⟩); (case measure => (simp [intOf]; omega)))
              · go_wp2
                go_roundw
                case rel => exact ⟨k + 1, by omega, by go_num, below_trans' HB2.out HB3.out, range_any_next HP.out (by rw [show j = k by omega] at HQ; exact HQ.out)⟩
                case measure => simp [intOf]; omega
          · have HP2 := HP
            rw [show k = s.length by omega] at HP2
            go_wp2
            go_ret
            exact Ret.mk' (by simp only [apartErr, H0.out, HA.out, pairAny, HP2.out]; rfl) ⟨rfl, below_trans' HB1.out HB2.out⟩
  · have d0 : (songErr l != 0) = true := by simpa using h0
    have H0 := Lib.hid h0; clear h0
    go_wp2_with fail
    refine (refCheckSong_any _ _ l _ (Hl.out.drewN q) hn).mono ?_
    rintro e w1 ⟨v, rfl, rfl, q2, rfl⟩
    go_wp2
    go_ret
    exact Ret.mk' (by simp [apartErr, H0.out]) ⟨rfl, by first | exact below_drewN (Below.refl _ _) _ | exact below_drewN (below_drewN (Below.refl _ _) _) _⟩
end Go.Proofs.Ytkjmeeggjmeajaa
