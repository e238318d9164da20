/- fine, CheckApart. -/
import Derived.Test.YtkjmeeggjmeajaaB5
import Derived.Test.YtkjmeeggjmeajaaPL0
import Derived.Deep.RegionHeld3
namespace Go.Proofs.Ytkjmeeggjmeajaa
open Go.RowKit

theorem fine_any (A : Option Addr) (ca : Nat) (l : List (Int × Int)) (w : World) (hl : RangesAt w A l) (hn : l.length ≤ 9223372036854775807) :
    Calls Try.prog 30 #[.slice A l.length ca] w (Ret fun v w' => v = .bool (decide (l.length ≤ 30) && decide (songErr l = 0)) ∧ ∃ q, w' = w.drewN q) := by
  have Hl := Lib.hid hl; clear hl
  go_enter Try.func30, Try.ntmps30
  go_wp2_with fail
  refine (great_any _ _ l.length _ (by omega)).mono ?_
  rintro e w1 ⟨v, rfl, rfl, rfl⟩
  by_cases h1 : 30 < l.length
  · have d1 : decide (30 < l.length) = true := by simpa using h1
    go_wp2
    go_ret
    exact Ret.mk' (by simp; omega) ⟨rfl, 0, rfl⟩
  · have d1 : decide (30 < l.length) = false := by simpa using h1
    have hn' : l.length ≤ 100000 := by omega
    go_wp2_with fail
    refine (refCheckSong_any _ _ l _ Hl.out hn').mono ?_
    rintro e w1 ⟨v, rfl, rfl, q, rfl⟩
    go_wp2
    go_ret
    exact Ret.mk' (by by_cases e : songErr l = 0 <;> simp [e]; omega) ⟨rfl, q, rfl⟩

def meetsAt (l : List (Int × Int)) (t : List Int) (k j : Nat) : Bool :=
  let r := bothR (l.getD (t.getD k 0).toNat (0, 0)) (l.getD (t.getD j 0).toNat (0, 0)); decide (r.1 ≤ r.2)
def apartErr (l : List (Int × Int)) (t : List Int) : Int :=
  if songErr l ≠ 0 then songErr l else if risingFrom (-1) l.length t = false then 3 else if pairAny (meetsAt l t) t.length then 14 else 0

theorem meetsAt_eq {l : List (Int × Int)} {s : List Int} {k j x z : Nat} (hk : k < s.length) (hj : j < s.length) (hx : s[k] = (x : Int)) (hz : s[j] = (z : Int)) (hxl : x < l.length) (hzl : z < l.length) {lx lz r : Int × Int}
    (h1 : l[x] = lx) (h2 : l[z] = lz) (h3 : bothR lx lz = r) : meetsAt l s k j = decide (r.1 ≤ r.2) := by
  unfold meetsAt
  simp only [List.getD_eq_getElem?_getD, List.getElem?_eq_getElem hk, List.getElem?_eq_getElem hj, Option.getD_some, hx, hz, Int.toNat_natCast, List.getElem?_eq_getElem hxl, List.getElem?_eq_getElem hzl, h1, h2, h3]

set_option maxHeartbeats 1000000 in
theorem checkApart_any (A B : Option Addr) (ca cb : Nat) (l : List (Int × Int)) (s : List Int) (w : World) (hl : RangesAt w A l) (hs : IntsAt w B s) (hn : l.length ≤ 100000) (hm : s.length ≤ 100000) (hcb : s.length ≤ cb) :
    Calls Try.prog 35 #[.slice A l.length ca, .slice B s.length cb] w (Ret fun v w' => v = .int .i64 (apartErr l s) ∧ Below w.heap.size w w') := by
  have Hl := Lib.hid hl; clear hl
  have Hs := Lib.hid hs; clear hs
  go_enter Try.func35, Try.ntmps35
  go_wp2_with fail
  refine (checkSong_any _ _ l _ Hl.out hn).mono ?_
  rintro e w1 ⟨v, rfl, rfl, hB1⟩
  have HB1 := Lib.hid hB1; clear hB1
  by_cases h0 : songErr l = 0
  · have d0 : (songErr l != 0) = false := by simp [h0]
    have H0 := Lib.hid h0; clear h0
    have HS1 := Lib.hid (Hs.out.below HB1.out)
    go_wp2
    go_loop [6, 21] (fun last i => ∃ k : Nat, k ≤ s.length ∧ i = .int .i64 k ∧ last = .int .i64 (lastOf (-1) (s.take k)) ∧ Hid (risingFrom (-1) l.length (s.take k) = true)) (fun _ i => s.length - (intOf i).toNat)
    case atStart => exact ⟨0, by omega, rfl, rfl, rfl⟩
    case round =>
      obtain ⟨k, hk, rfl, rfl, HR⟩ := hrel
      by_cases hkn : k < s.length
      · obtain ⟨b1, o1, rfl, g1⟩ := HS1.out.at_ hkn
        generalize hx : s[k] = x at g1
        have Hx := Lib.hid hx; clear hx
        generalize hy : lastOf (-1) (s.take k) = y
        have Hy := Lib.hid hy; clear hy
        go_wp2
        all_goals first
          | (go_ret; refine Ret.mk' ?_ ⟨rfl, HB1.out⟩; simp [apartErr, H0.out, rising_bad hkn Hx.out (n := l.length) (by rw [Hy.out]; omega)]; done)
          | (go_round; (case rel => exact ⟨k + 1, by omega, by go_num, by rw [lastOf_next hkn Hx.out], rising_next hkn Hx.out HR.out (by rw [Hy.out]; omega) (by omega)⟩); (case measure => (simp [intOf]; omega)))
      · have HA := Lib.hid (rising_all hkn HR.out)
        clear HR
        generalize lastOf (-1) (s.take k) = y
        go_wp2
        go_loopw [38] (fun i wr => ∃ k : Nat, k ≤ s.length ∧ i = .int .i64 k ∧ Below w1.heap.size w1 wr ∧ Hid ((List.range k).any (fun k => (List.range k).any (meetsAt l s k)) = false)) (fun i _ => s.length - (intOf i).toNat)
        case atStart => exact ⟨0, by omega, rfl, Below.refl _ _, rfl⟩
        case round =>
          obtain ⟨k, hk, rfl, hB2, HP⟩ := hrel
          have HB2 := Lib.hid hB2; clear hB2
          by_cases hkn : k < s.length
          · have HS2 := Lib.hid (HS1.out.below HB2.out)
            have HL2 := Lib.hid ((Hl.out.below HB1.out).below HB2.out)
            obtain ⟨b1, o1, rfl, g1⟩ := HS2.out.at_ hkn
            obtain ⟨hx1, hx2⟩ := rising_mem _ _ _ HA.out s[k] (List.getElem_mem hkn)
            generalize hx : s[k] = x at g1 hx1 hx2
            have Hx := Lib.hid hx; clear hx
            obtain ⟨x, rfl⟩ := Int.eq_ofNat_of_zero_le (show 0 ≤ x by omega)
            obtain ⟨wo, rfl⟩ : ∃ wo : World, wo = wr := ⟨_, rfl⟩
            go_wp2
            go_loopw [47] (fun i wq => ∃ j : Nat, j ≤ k ∧ i = .int .i64 j ∧ Below wo.heap.size wo wq ∧ Hid ((List.range j).any (meetsAt l s k) = false)) (fun i _ => k - (intOf i).toNat)
            case atStart => exact ⟨0, by omega, rfl, Below.refl _ _, rfl⟩
            case round =>
              obtain ⟨j, hj, rfl, hB3, HQ⟩ := hrel
              have HB3 := Lib.hid hB3; clear hB3
              by_cases hjk : j < k
              · have hjn : j < s.length := by omega
                have HS3 := Lib.hid (HS2.out.below HB3.out)
                have HL3 := Lib.hid (HL2.out.below HB3.out)
                obtain ⟨b2, o2, e2, g2⟩ := HS3.out.at_ hjn
                injection e2 with e2
                injection e2 with e2 e3
                subst e2 e3
                obtain ⟨hy1, hy2⟩ := rising_mem _ _ _ HA.out s[j] (List.getElem_mem hjn)
                generalize hy : s[j] = z at g2 hy1 hy2
                have Hy := Lib.hid hy; clear hy
                obtain ⟨z, rfl⟩ := Int.eq_ofNat_of_zero_le (show 0 ≤ z by omega)
                obtain ⟨b3, o3, rfl, p1, p2⟩ := HL3.out.at_ (show x < l.length by omega)
                obtain ⟨b4, o4, e4, p3, p4⟩ := HL3.out.at_ (show z < l.length by omega)
                injection e4 with e4
                injection e4 with e4 e5
                subst e4 e5
                generalize hlx : l[x] = lx at p1 p2
                generalize hlz : l[z] = lz at p3 p4
                have Hlx := Lib.hid hlx; clear hlx
                have Hlz := Lib.hid hlz; clear hlz
                obtain ⟨lx1, lx2⟩ := lx
                obtain ⟨lz1, lz2⟩ := lz
                dsimp only at p1 p2 p3 p4
                have hb3 : b3 < wr.heap.size := block_lt_of_cell p1
                generalize hrr : bothR (lx1, lx2) (lz1, lz2) = rr
                have Hrr := Lib.hid hrr; clear hrr
                obtain ⟨r1, r2⟩ := rr
                go_wp2
                go_region_held3 (fun W => W.cell? ⟨b3, o3 + x * 2, none⟩ = some (.int .i64 lx1) ∧ W.cell? ⟨b3, o3 + x * 2 + 1, none⟩ = some (.int .i64 lx2) ∧ W.cell? ⟨b3, o3 + z * 2, none⟩ = some (.int .i64 lz1) ∧ W.cell? ⟨b3, o3 + z * 2 + 1, none⟩ = some (.int .i64 lz2)) (first | go_keep | (refine ⟨?_, ?_, ?_, ?_⟩ <;> (repeat (first | exact p1 | exact p2 | exact p3 | exact p4 | refine cell_far ?_ (addr_ne (by first | assumption | (simp; omega))) | refine cell_alloc ?_ _ | refine cell_below hBc ?_)))) (first | (go_at_call 50; refine (both_any (lx1, lx2) (lz1, lz2) _).mono ?_; rintro e wc ⟨v, rfl, hv, hBc⟩; rw [Hrr.out] at hv; (obtain rfl := hv); dsimp only [vR]; (try (have f1 : wc.cell? ⟨wr.heap.size, 0, none⟩ = some (.int .i64 0) := cell_below hBc (new2_0 _ _ _ _); have f2 : wc.cell? ⟨wr.heap.size, 1, none⟩ = some (.int .i64 0) := cell_below hBc (new2_1 _ _ _ _); have f3 : wc.frozen? ⟨wr.heap.size, 0, none⟩ = false := frozen_later hBc (by simp) (new_frozen _ _ _ _); have f4 : wc.frozen? ⟨wr.heap.size, 1, none⟩ = false := frozen_later hBc (by simp) (new_frozen _ _ _ _)))))
                all_goals
                  have hB5 := by first
                    | exact Lib.hid (below_alloc' (below_drew_of HB3.out hBc) (.cells #[.int .i64 r1, .int .i64 r2] 50))
                    | exact Lib.hid (((below_alloc_of HB3.out.drew hBc).setCell (p := ⟨wr.heap.size, 0, none⟩) HB3.out.size (.int .i64 r1)).setCell (p := ⟨wr.heap.size, 1, none⟩) HB3.out.size (.int .i64 r2))
                  have HM := Lib.hid (meetsAt_eq hkn hjn Hx.out Hy.out (by omega) (by omega) Hlx.out Hlz.out Hrr.out)
                  by_cases hr : r1 ≤ r2
                all_goals go_wp2
                all_goals first
                  | (go_ret; refine Ret.mk' ?_ ⟨rfl, below_trans' (below_trans' HB1.out HB2.out) hB5.out⟩; rw [apartErr, if_neg (by rw [H0.out]; simp), HA.out, if_neg (by simp), pairAny, range_any_hit hkn (range_any_hit hjk (by rw [HM.out]; simpa using hr))]; rfl)
                  | (go_roundw; (case rel => exact ⟨j + 1, by omega, by go_num, hB5.out, range_any_next HQ.out (by rw [HM.out]; simpa using hr)⟩); (case measure => (simp [intOf]; omega)))
              · go_wp2
                go_roundw
                case rel => exact ⟨k + 1, by omega, by go_num, below_trans' HB2.out HB3.out, range_any_next HP.out (by rw [show j = k by omega] at HQ; exact HQ.out)⟩
                case measure => simp [intOf]; omega
          · have HP2 := HP
            rw [show k = s.length by omega] at HP2
            go_wp2
            go_ret
            exact Ret.mk' (by simp only [apartErr, H0.out, HA.out, pairAny, HP2.out]; rfl) ⟨rfl, below_trans' HB1.out HB2.out⟩
  · have d0 : (songErr l != 0) = true := by simpa using h0
    have H0 := Lib.hid h0; clear h0
    go_wp2
    go_ret
    exact Ret.mk' (by simp [apartErr, H0.out]) ⟨rfl, HB1.out⟩

end Go.Proofs.Ytkjmeeggjmeajaa
