/- CheckTree, of the reference. Appends; maps of groups. A book with what is left of its steps' changes, and prices: newWood. Rows of sixteen numbers: who comes from whom. -/
import Derived.Test.YtggcooplhodocaaDoorK0
import Derived.RangeFuncNested
import Derived.RangeFuncBound
import Derived.RangeFuncCalls
import Derived.RangeFuncLeaves
import Derived.Shelf.Abstract
import Derived.Shelf.RegionOpen
import Derived.OwnWalkIn
import Derived.TacticsInMore
import Derived.LoopNIn
import Derived.LoopIn
import Derived.Maps.OwnOps
import Derived.Maps.OwnSet
import Derived.Maps.Views
import Derived.DeepKeys4
import Derived.Maps.RangeWalk
import Derived.ChangeKeysEq
import Derived.Carry
import Derived.Deep.MidRow
import Derived.ArgAppend
import Derived.Deep.RegionLawGrows
import Derived.Test.YtggcooplhodocaaDoorP0
namespace Go.Proofs.YtggcooplhodocaaDoor
open Go.RowKit Fam

set_option maxRecDepth 100000 in
set_option maxHeartbeats 4000000 in
theorem rCheckTree_any (S R : Int) (A B : Option Addr) (ca cb : Nat) (l : List St) (t : List Int) (w : World) (hl : StepsAt w A l) (ht : IntsAt w B t) (hn : l.length ≤ 100000) (hm : t.length ≤ 100000) :
    Calls Tryd.prog 15 #[vBook S R A l.length ca, .slice B t.length cb] w (Ret fun v w' => v = vP (treeV S R l t) ∧ Below w.heap.size w w') := by
  have Hl := Lib.hid hl; clear hl
  have Ht := Lib.hid ht; clear ht
  have hcb := rCheckBook_any S R A ca l
  unfold vBook at hcb ⊢
  have Hcb := Lib.hid hcb; clear hcb
  go_enter Tryd.func15, Tryd.ntmps15
  go_upto_region 1 with fail
  have hX := heap_alloc_new w (.cells #[.int .i64 S, .int .i64 R, .slice A l.length ca] 24)
  have HB0 : Hid (Below w.heap.size w (w.alloc (.cells #[.int .i64 S, .int .i64 R, .slice A l.length ca] 24))) := Lib.hid (below_alloc' (Below.refl _ _) _)
  generalize w.alloc (.cells #[.int .i64 S, .int .i64 R, .slice A l.length ca] 24) = w0 at hX HB0 ⊢
  have y0 : w0.cell? ⟨w.heap.size, 0, none⟩ = some (.int .i64 S) := (blk_cell hX).trans rfl
  have y1 : w0.cell? ⟨w.heap.size, 1, none⟩ = some (.int .i64 R) := (blk_cell hX).trans rfl
  have y2 : w0.cell? ⟨w.heap.size, 2, none⟩ = some (.slice A l.length ca) := (blk_cell hX).trans rfl
  clear hX
  replace Hl := Lib.hid (Hl.out.below HB0.out)
  replace Ht := Lib.hid (Ht.out.below HB0.out)
  go_wp2_with fail
  refine (Hcb.out w0 Hl.out hn).mono ?_
  rintro e w1 ⟨v, rfl, rfl, hB1⟩
  have HB1 := Lib.hid (below_trans' HB0.out hB1)
  replace y0 := cell_below hB1 y0
  replace y1 := cell_below hB1 y1
  replace y2 := cell_below hB1 y2
  replace Hl := Lib.hid ((Hl.out.below hB1))
  replace Ht := Lib.hid ((Ht.out.below hB1))
  clear hB1 HB0
  by_cases he : bookErr S R l = 0
  rotate_left 1
  · have HF := Lib.hid (treeV_err (t := t) he)
    have d1 : (bookErr S R l != 0) = true := by simpa using he
    have Hc := Lib.hid (Hcb.out w1 Hl.out hn)
    generalize bookErr S R l = er at d1 HF Hc
    go_wp2_with fail
    refine Hc.out.mono ?_
    rintro e w2 ⟨v, rfl, rfl, hB2⟩
    have HB2 := Lib.hid (below_trans' HB1.out hB2)
    clear hB2 Hc
    go_wp2
    go_ret2
    exact Ret.mk' (vP_of HF.out) ⟨rfl, HB2.out⟩
  have HK := Lib.hid (bookErr_iff.1 he)
  rw [he]
  clear he
  have hr := HK.out.root
  have hdim := HK.out.dim
  by_cases hlen : (t.length : Int) = S
  rotate_left 1
  · have HF := Lib.hid (treeV_len HK.out hlen)
    have d1 : ((t.length : Int) != S) = true := by simpa using hlen
    clear hlen
    go_wp2
    go_ret2
    exact Ret.mk' (vP_of HF.out) ⟨rfl, HB1.out⟩
  have d1 : ((t.length : Int) != S) = false := by simpa using hlen
  have HL : Hid (t.length = S.toNat) := Lib.hid (by omega)
  clear hlen
  go_wp2
  clear d1
  go_loopw [6] (fun i wr => ∃ k q : Nat, k ≤ t.length ∧ i = .int .i64 k ∧ wr = w1.drewN q ∧ Hid (∀ n (hn : n < t.length), n < k → numC R l n t[n] = true)) (fun i _ => t.length - (intOf i).toNat)
  case atStart => exact ⟨0, 0, by omega, rfl, rfl, Lib.hid fun n _ h => absurd h (by omega)⟩
  case round =>
    obtain ⟨k, q, hk, rfl, rfl, HN⟩ := hrel
    have y0' : (w1.drewN q).cell? ⟨w.heap.size, 0, none⟩ = some (.int .i64 S) := y0
    have y1' : (w1.drewN q).cell? ⟨w.heap.size, 1, none⟩ = some (.int .i64 R) := y1
    have y2' : (w1.drewN q).cell? ⟨w.heap.size, 2, none⟩ = some (.slice A l.length ca) := y2
    by_cases hkn : k < t.length
    · obtain ⟨b1, o1, rfl, g1⟩ := Ht.out.at_ hkn
      have ij0 : (0 : Int) ≤ (k : Int) := by omega
      have hks : decide ((k : Int) < S) = true := by have := HL.out; simp; omega
      have ij1 : (k : Int) < (t.length : Int) := by omega
      have HNx := Lib.hid (fun hx => upto_next HN.out hkn hx)
      have HBad := Lib.hid (fun hx => treeV_num HK.out HL.out hkn hx)
      generalize t[k] = x at g1 HNx HBad
      by_cases e : (k : Int) = R
      · rw [num_root e] at HNx HBad
        have e0 : ((k : Int) == R) = true := by simpa using e
        have e1 : ((k : Int) != R) = false := by simpa using e
        clear e
        by_cases ex : x = -1
        · have d2 : (x != -1) = false := by simpa using ex
          have HNy := Lib.hid (HNx.out (by simpa using ex))
          clear HNx HBad
          go_wp2
          go_quiet (fail)
          go_wp2
          go_roundw
          case rel => exact ⟨k + 1, _, by omega, by go_num, rfl, HNy⟩
          case measure => simp [intOf]; omega
        · have d2 : (x != -1) = true := by simpa using ex
          have HF := Lib.hid (HBad.out (by simpa using ex))
          clear HNx HBad
          go_wp2
          go_quiet (fail)
          go_wp2
          go_ret2
          exact Ret.mk' (vP_of HF.out) ⟨rfl, below_drewN (below_drewN HB1.out _) _⟩
      · rw [num_other e] at HNx HBad
        have e0 : ((k : Int) == R) = false := by simpa using e
        have e1 : ((k : Int) != R) = true := by simpa using e
        by_cases c1 : x < 0
        · have HF := Lib.hid (HBad.out (by rw [show decide (0 ≤ x) = false by simp; omega]; rfl))
          have d1 : decide (x < 0) = true := by simpa using c1
          clear HNx HBad
          go_wp2
          go_quiet (fail)
          go_wp2
          go_ret2
          exact Ret.mk' (vP_of HF.out) ⟨rfl, below_drewN (below_drewN HB1.out _) _⟩
        have d1 : decide (x < 0) = false := by simpa using c1
        by_cases c2 : (l.length : Int) ≤ x
        · have HF := Lib.hid (HBad.out (by rw [show decide (x < (l.length : Int)) = false by simp; omega, Bool.and_false]; rfl))
          have d2 : decide (x ≥ (l.length : Int)) = true := by simpa using c2
          clear HNx HBad
          go_wp2
          go_quiet (fail)
          go_wp2
          go_ret2
          exact Ret.mk' (vP_of HF.out) ⟨rfl, below_drewN (below_drewN HB1.out _) _⟩
        have d2 : decide (x ≥ (l.length : Int)) = false := by simpa using c2
        obtain ⟨i, rfl⟩ := Int.eq_ofNat_of_zero_le (by omega : 0 ≤ x)
        have hil : i < l.length := by omega
        obtain ⟨b2, o2, rfl, p1, p2, p3⟩ := StepsAt.at_ Hl.out hil
        rw [Int.toNat_natCast, stAt_eq hil] at HNx HBad
        generalize l[i] = s at p2 HNx HBad
        obtain ⟨s1, s2, s3⟩ := s
        dsimp only at p2 HNx HBad
        clear p1 p3
        have x0 : (0 : Int) ≤ (i : Int) := by omega
        have x1 : (i : Int) < (l.length : Int) := by omega
        by_cases c3 : s2 = (k : Int)
        · have HNy := Lib.hid (HNx.out (by simp [c3, hil]))
          have d3 : (s2 != (k : Int)) = false := by simpa using c3
          clear HNx HBad c3
          go_wp2
          go_quiet (fail)
          go_wp2
          go_roundw
          case rel => exact ⟨k + 1, _, by omega, by go_num, rfl, HNy⟩
          case measure => simp [intOf]; omega
        · have HF := Lib.hid (HBad.out (by simp [c3]))
          have d3 : (s2 != (k : Int)) = true := by simpa using c3
          clear HNx HBad
          go_wp2
          go_quiet (fail)
          go_wp2
          go_ret2
          exact Ret.mk' (vP_of HF.out) ⟨rfl, below_drewN (below_drewN HB1.out _) _⟩
    · have HA : Hid (∀ n (hn : n < t.length), numC R l n t[n] = true) := Lib.hid fun n hn => HN.out n hn (by omega)
      have hks : decide ((k : Int) < S) = false := by have := HL.out; simp; omega
      clear HN
      obtain ⟨w2, hw2⟩ : ∃ w2, w2 = w1.drewN q := ⟨_, rfl⟩
      have Hl2 : Hid (StepsAt w2 A l) := Lib.hid (by rw [hw2]; exact Hl.out)
      have Ht2 : Hid (IntsAt w2 B t) := Lib.hid (by rw [hw2]; exact Ht.out)
      have HB2 : Hid (Below w.heap.size w w2) := Lib.hid (by rw [hw2]; exact below_drewN HB1.out _)
      clear Hl Ht HB1 Hcb
      rw [← hw2] at y0' y1' y2'
      go_wp2
      rw [← hw2]
      clear hw2 y0 y1 y2 hks
      go_loopw [7, 8] (fun s7 i wr => ∃ k q : Nat, k ≤ t.length ∧ i = .int .i64 k ∧ s7 = .int .i64 (csum S R l t k) ∧ wr = w2.drewN q ∧ Hid (∀ v, v < k → (back (netB S R l) (treeF t) S.toNat v : Int) = R)) (fun _ i _ => t.length - (intOf i).toNat)
      case atStart => exact ⟨0, 0, by omega, rfl, rfl, rfl, Lib.hid fun v h => absurd h (by omega)⟩
      case round =>
        obtain ⟨k, q, hk, rfl, rfl, rfl, HBk⟩ := hrel
        have hcs := csum_bound HK.out HA.out k hk
        by_cases hkn : k < t.length
        · have ij0 : (0 : Int) ≤ (k : Int) := by omega
          have ij1 : (k : Int) < (t.length : Int) := by omega
          have hks : decide ((k : Int) < S) = true := by have := HL.out; simp; omega
          obtain ⟨wo, hwo⟩ : ∃ wo, wo = w2.drewN q := ⟨_, rfl⟩
          have y0 : wo.cell? ⟨w.heap.size, 0, none⟩ = some (.int .i64 S) := by rw [hwo]; exact y0'
          have y1 : wo.cell? ⟨w.heap.size, 1, none⟩ = some (.int .i64 R) := by rw [hwo]; exact y1'
          have y2 : wo.cell? ⟨w.heap.size, 2, none⟩ = some (.slice A l.length ca) := by rw [hwo]; exact y2'
          have HT3 : Hid (IntsAt wo B t) := Lib.hid (by rw [hwo]; exact Ht2.out)
          have HL3 : Hid (StepsAt wo A l) := Lib.hid (by rw [hwo]; exact Hl2.out)
          have HWO := Lib.hid hwo
          rw [← hwo]
          clear hwo y0' y1' y2'
          go_wp2
          go_loopw [9, 10] (fun s9 s10 wr => ∃ c q : Nat, c ≤ S.toNat ∧ s10 = .int .i64 c ∧ s9 = .int .i64 (back (netB S R l) (treeF t) c k : Nat) ∧ wr = wo.drewN q) (fun _ s10 _ => S.toNat + 2 - (intOf s10).toNat)
          case atStart => exact ⟨0, 0, by omega, rfl, rfl, rfl⟩
          case round =>
            obtain ⟨c, q2, hc, rfl, rfl, rfl⟩ := hrel
            have y0' : (wo.drewN q2).cell? ⟨w.heap.size, 0, none⟩ = some (.int .i64 S) := y0
            have y1' : (wo.drewN q2).cell? ⟨w.heap.size, 1, none⟩ = some (.int .i64 R) := y1
            have y2' : (wo.drewN q2).cell? ⟨w.heap.size, 2, none⟩ = some (.slice A l.length ca) := y2
            obtain ⟨ba, hnx⟩ := back_next (c := c) (v := k) HK.out HL.out HA.out hkn
            have HNX := Lib.hid hnx
            clear hnx
            by_cases ea : (back (netB S R l) (treeF t) c k : Int) = R
            · have HBn : Hid (∀ v, v < k + 1 → (back (netB S R l) (treeF t) S.toNat v : Int) = R) := Lib.hid fun v hv => by
                by_cases ev : v = k
                · subst ev
                  exact back_stay hr.1 ea hc
                · exact HBk.out v (by omega)
              have e2 : ((back (netB S R l) (treeF t) c k : Int) != R) = false := by simpa using ea
              clear ea HNX HBk
              generalize back (netB S R l) (treeF t) c k = a at ba e2 ⊢
              by_cases e : (k : Int) = R
              · have e0 : ((k : Int) != R) = false := by simpa using e
                have HS := Lib.hid (csum_root (S := S) (l := l) (t := t) hr.1 e)
                clear e
                by_cases hcS : (c : Int) < S
                all_goals
                  go_wp2
                  go_roundw
                  case rel => exact ⟨k + 1, q + q2, by omega, by go_num, congrArg (Value.int .i64) HS.out.symm, by rw [HWO.out]; exact World.drewN_drewN _ _ _, HBn⟩
                  case measure => simp [intOf]; omega
              · have hnum := HA.out k hkn
                rw [num_other e] at hnum
                simp only [Bool.and_eq_true, decide_eq_true_eq] at hnum
                have HS := Lib.hid (csum_step (S := S) (l := l) e hr.1 hkn)
                have e0 : ((k : Int) != R) = true := by simpa using e
                clear e
                obtain ⟨b1, o1, rfl, g1⟩ := HT3.out.at_ hkn
                generalize t[k] = x at g1 hnum HS
                obtain ⟨⟨n1, n2⟩, _⟩ := hnum
                obtain ⟨i, rfl⟩ := Int.eq_ofNat_of_zero_le n1
                have hil : i < l.length := by omega
                obtain ⟨b2, o2, rfl, p1, p2, p3⟩ := StepsAt.at_ HL3.out hil
                rw [Int.toNat_natCast, stAt_eq hil] at HS
                have hb3 := (HK.out.stp _ (List.getElem_mem hil)).2.2.2
                generalize l[i] = s at p3 HS hb3
                obtain ⟨s1, s2, s3⟩ := s
                dsimp only at p3 HS hb3
                clear p1 p2
                have i0 : (0 : Int) ≤ (i : Int) := by omega
                have hcs2 := csum_bound HK.out HA.out (k + 1) (by omega)
                rw [HS.out] at hcs2
                generalize csum S R l t k = cs at HS hcs hcs2 ⊢
                have hwr : IntKind.i64.wrap (cs + s3) = cs + s3 := IntWalk.i64_in _ (by omega)
                by_cases hcS : (c : Int) < S
                all_goals
                  go_wp2
                  go_quiet (fail)
                  go_wp2
                  go_roundw
                  case rel => exact ⟨k + 1, _, by omega, by go_num, congrArg (Value.int .i64) HS.out.symm, by rw [HWO.out, World.drewN_drewN], HBn⟩
                  case measure => simp [intOf]; omega
            · have e2 : ((back (netB S R l) (treeF t) c k : Int) != R) = true := by simpa using ea
              by_cases hcS : (c : Int) < S
              · generalize hA : back (netB S R l) (treeF t) c k = a at ba e2 HNX ea ⊢
                obtain ⟨_, m1, m2, m3, m4⟩ := HNX.out a rfl ea
                obtain ⟨b1, o1, rfl, g1⟩ := HT3.out.at_ ba
                generalize t[a] = x at g1 m1 m2 m3 m4
                obtain ⟨j, rfl⟩ := Int.eq_ofNat_of_zero_le m1
                have hjl : j < l.length := by omega
                obtain ⟨b2, o2, rfl, p1, p2, p3⟩ := StepsAt.at_ HL3.out hjl
                rw [Int.toNat_natCast, stAt_eq hjl] at m3 m4
                generalize l[j] = z at p1 m3 m4
                obtain ⟨z1, z2, z3⟩ := z
                dsimp only at p1 m3 m4
                have HM := Lib.hid m4
                clear p2 p3 m4 ea HNX hA
                have ia0 : (0 : Int) ≤ (a : Int) := by omega
                have ia1 : (a : Int) < (t.length : Int) := by omega
                have j0 : (0 : Int) ≤ (j : Int) := by omega
                have j1 : (j : Int) < (l.length : Int) := by omega
                have hwc : IntKind.i64.wrap ((c : Int) + 1) = (c : Int) + 1 := IntWalk.i64_in _ (by omega)
                go_wp2
                go_quiet (fail)
                go_wp2
                go_roundw
                case rel => exact ⟨c + 1, _, by omega, by go_num, congrArg (Value.int .i64) HM.out.symm, rfl⟩
                case measure => simp [intOf]; omega
              · have HF := Lib.hid (treeV_rule HK.out HL.out HA.out (c := c) (by omega) hkn ea)
                clear ea HNX HBk
                generalize back (netB S R l) (treeF t) c k = a at ba e2 ⊢
                go_wp2
                go_ret2
                exact Ret.mk' (vP_of HF.out) ⟨rfl, below_drewN (by rw [HWO.out]; exact below_drewN HB2.out _) _⟩
        · have hks : decide ((k : Int) < S) = false := by have := HL.out; simp; omega
          have hkl : k = t.length := by omega
          subst hkl
          have HF := Lib.hid (treeV_good HK.out HL.out HA.out (c := S.toNat) (by omega) HBk.out)
          generalize csum S R l t t.length = cs at HF hcs ⊢
          have y0 : (w2.drewN q).cell? ⟨w.heap.size, 0, none⟩ = some (.int .i64 S) := y0'
          go_wp2
          go_ret2
          exact Ret.mk' (vP_of HF.out) ⟨rfl, below_drewN HB2.out _⟩
end Go.Proofs.YtggcooplhodocaaDoor

namespace Go.Proofs.YtggcooplhodocaaDoor
open Go.RowKit Go.Shelf Go.Maps

theorem own_drewN {w : World} {base : Nat} {e : TypeId} {size : Nat} {v : Value} {n : Nat} {xs : List Value} (h : w.ownsRow base e size v n xs) (q : Nat) : (w.drewN q).ownsRow base e size v n xs := h
theorem own_mono {w : World} {base base' : Nat} {e : TypeId} {size : Nat} {v : Value} {n : Nat} {xs : List Value} (h : w.ownsRow base e size v n xs) (hb : base' ≤ base) : w.ownsRow base' e size v n xs :=
  ⟨h.1, h.2.imp id fun ⟨g, cap, cur, a, b, c⟩ => ⟨g, cap, cur, a, Nat.le_trans hb b, c⟩⟩
theorem infoI3 : (Tryd.prog.info? 3).map (fun i => (i.zero, i.size, i.bytes)) = some (some (.int .i64 0), 1, 8) := by kernel_rfl
theorem own_cells {w : World} {base : Nat} {e : TypeId} {size : Nat} {v : Value} {n : Nat} {xs : List Value} (h : w.ownsRow base e size v n xs) : ∀ r, v.ownBlock = some r → ∃ cs t fr, w.heap[r]? = some (.cells cs t fr) := fun r e => by
  rcases h.2 with ⟨rfl, _⟩ | ⟨g, cap, cur, rfl, _, hh, _⟩
  · simp [Value.ownBlock] at e
  · simp only [Value.ownBlock, Option.some.injEq] at e; subst e; exact ⟨_, _, _, hh⟩

/-- an element type of the seat: its size in cells and its zero -/
structure ElemT (e : TypeId) (size bytes : Nat) (z : Value) : Prop where
  info : (Tryd.prog.info? e).map (fun i => (i.zero, i.size, i.bytes)) = some (some z, size, bytes)
  zsz : z.cells.size = size
  pos : 0 < size
  small : bytes ≤ 100
theorem elemI : ElemT 3 1 8 (.int .i64 0) := ⟨by kernel_rfl, rfl, by omega, by omega⟩
theorem elemL : ElemT 2 1 8 (.int .i64 0) := ⟨by kernel_rfl, rfl, by omega, by omega⟩
theorem elemT : ElemT 50 3 24 (.agg #[.int .i64 0, .int .i64 0, .int .i64 0]) := ⟨by kernel_rfl, rfl, by omega, by omega⟩

theorem push_flat {α : Type} {enc : α → List Value} (l : List α) (x : α) : l.flatMap enc ++ enc x = (l ++ [x]).flatMap enc := by simp
theorem news_new {α : Type} {enc : α → List Value} {w : World} {x : α} {B : Nat} {cs : Array Value} {t : TypeId} {fr : Nat × Nat} (hB : w.heap[B]? = some (.cells cs t fr)) (hcs : cs.toList = enc x) :
    ∀ j u, (enc x)[j]? = some u → w.cell? ((⟨B, 0, none⟩ : Addr).add j) = some u := by rw [← hcs]; exact World.news_of_block hB

section
variable {α : Type} {enc : α → List Value} {e : TypeId} {size bytes : Nat} {z : Value}
theorem wpListIn_push {F : Fence} {n : Nat} (w : World) {ops : Array Oper} {rest : List Oper} {o : Oper} {a : Act} {Q : Exit → Act → World → Prop}
    (hg : o.guard = none) (s x : Operand) (t : TypeId) (hop : o.op = Op.call { callee := Callee.builtin Builtin.append, args := #[s, x], argTypes := #[t, t] })
    (E : ElemT e size bytes z) (hk : ∀ x, (enc x).length = size) (h1 : ∀ x, ∀ u ∈ enc x, u.oneCell' = true) (ht : Tryd.prog.underlying t = some (.slice e)) (base : Nat)
    (v : Value) (l : List α) (hs : a.eval s = v) (hown : w.ownsRow base e size v l.length (l.flatMap enc)) (hlen : l.length ≤ 100000) (y : α) (B : Nat) (hx : a.eval x = .slice (some ⟨B, 0, none⟩) 1 1)
    (cs : Array Value) (hcs : cs.toList = enc y) (tt : TypeId) (fr : Nat × Nat) (hB : w.heap[B]? = some (.cells cs tt fr)) (b3 : base ≤ w.heap.size)
    (hK : ∀ g cap w', w'.ownsRow base e size (.slice (some ⟨g, 0, none⟩) (l.length + 1) cap) (l.length + 1) ((l ++ [y]).flatMap enc) → w.grownBy w' v.ownBlock → wpListIn F n Tryd.prog ops Q rest (a.put o.dst (.slice (some ⟨g, 0, none⟩) (l.length + 1) cap)) w') :
    wpListIn F n Tryd.prog ops Q (o :: rest) a w := by
  obtain ⟨i0, hi, hz0, hz1, hz2⟩ := info_parts E.info
  have hb : (l.length + 1) * bytes ≤ 100001 * 100 := Nat.mul_le_mul (by omega) E.small
  refine wpListIn_append_own w hg s x t hop base e i0 z size bytes ht hi hz0 hz1 hz2 E.zsz E.pos v l.length _ hs hown ⟨B, 0, none⟩ 1 1 (enc y) hx (by rw [hk]; omega) (news_new hB hcs) (h1 y) (by simp only [maxLen]; omega) (by omega) b3 ?_
  intro v' w' hown' hgrow _
  obtain ⟨g, cap, rfl⟩ := ownsRow_succ hown'
  exact hK g cap w' (by rw [← push_flat]; exact hown') hgrow
theorem wpList_push (w : World) {ops : Array Oper} {rest : List Oper} {o : Oper} {a : Act} {Q : Exit → Act → World → Prop}
    (hg : o.guard = none) (s x : Operand) (t : TypeId) (hop : o.op = Op.call { callee := Callee.builtin Builtin.append, args := #[s, x], argTypes := #[t, t] })
    (E : ElemT e size bytes z) (hk : ∀ x, (enc x).length = size) (h1 : ∀ x, ∀ u ∈ enc x, u.oneCell' = true) (ht : Tryd.prog.underlying t = some (.slice e)) (base : Nat)
    (v : Value) (l : List α) (hs : a.eval s = v) (hown : w.ownsRow base e size v l.length (l.flatMap enc)) (hlen : l.length ≤ 100000) (y : α) (B : Nat) (hx : a.eval x = .slice (some ⟨B, 0, none⟩) 1 1)
    (cs : Array Value) (hcs : cs.toList = enc y) (tt : TypeId) (fr : Nat × Nat) (hB : w.heap[B]? = some (.cells cs tt fr)) (b3 : base ≤ w.heap.size)
    (hK : ∀ g cap w', w'.ownsRow base e size (.slice (some ⟨g, 0, none⟩) (l.length + 1) cap) (l.length + 1) ((l ++ [y]).flatMap enc) → w.grownBy w' v.ownBlock → wpList Tryd.prog ops Q rest (a.put o.dst (.slice (some ⟨g, 0, none⟩) (l.length + 1) cap)) w') :
    wpList Tryd.prog ops Q (o :: rest) a w := by
  obtain ⟨i0, hi, hz0, hz1, hz2⟩ := info_parts E.info
  have hb : (l.length + 1) * bytes ≤ 100001 * 100 := Nat.mul_le_mul (by omega) E.small
  refine wpList_append_own w hg s x t hop base e i0 z size bytes ht hi hz0 hz1 hz2 E.zsz E.pos v l.length _ hs hown ⟨B, 0, none⟩ 1 1 (enc y) hx (by rw [hk]; omega) (news_new hB hcs) (h1 y) (by simp only [maxLen]; omega) (by omega) b3 ?_
  intro v' w' hown' hgrow _
  obtain ⟨g, cap, rfl⟩ := ownsRow_succ hown'
  exact hK g cap w' (by rw [← push_flat]; exact hown') hgrow
end
theorem oneI (x : Int) : ∀ u ∈ encI x, u.oneCell' = true := by simp [encI, Value.oneCell']
theorem oneT (x : Fam.St) : ∀ u ∈ encT x, u.oneCell' = true := by simp [encT, Value.oneCell']
theorem own_apart {w : World} {base base' : Nat} {e e' : TypeId} {size size' : Nat} {v v' : Value} {n n' : Nat} {xs xs' : List Value} (h : w.ownsRow base e size v n xs) (h' : w.ownsRow base' e' size' v' n' xs') (hne : e ≠ e') :
    v.ownBlock = none ∨ v.ownBlock ≠ v'.ownBlock := by
  rcases h.2 with ⟨rfl, _⟩ | ⟨g, cap, cur, rfl, _, hh, _⟩
  · exact .inl rfl
  · right
    rcases h'.2 with ⟨rfl, _⟩ | ⟨g', cap', cur', rfl, _, hh', _⟩
    · simp [Value.ownBlock]
    · simp only [Value.ownBlock]
      intro e1
      injection e1 with e1
      subst e1
      rw [hh] at hh'; injection hh' with hh'; injection hh' with _ h2; exact hne h2
/-- an append behind a new block, and the store of its result into block b0: another block lies as it lay -/
theorem blk_push {W W1 : World} {o : Obj} {row : Option Nat} {b b0 i : Nat} {u : Value} {o' : Obj} (h : W.heap[b]? = some o') (hg : (W.alloc o).grownBy W1 row) (hne : some b ≠ row) (hb : b ≠ b0) :
    (W1.setCell ⟨b0, i, none⟩ u).heap[b]? = some o' := blk_far (blk_grown hg (blk_alloc h o) hne) hb u
theorem row_push {W W1 : World} {o : Obj} {row : Option Nat} {b0 i : Nat} {u : Value} {base : Nat} {e : TypeId} {size : Nat} {v : Value} {n : Nat} {xs : List Value} (h : W.ownsRow base e size v n xs) (hg : (W.alloc o).grownBy W1 row)
    (hne : v.ownBlock = none ∨ v.ownBlock ≠ row) (hb : b0 < base) : (W1.setCell ⟨b0, i, none⟩ u).ownsRow base e size v n xs := ownsRow_setCell_below ((h.alloc o).kept hg hne) hb u
theorem own_ne_blk {w : World} {base : Nat} {e : TypeId} {size : Nat} {v : Value} {n : Nat} {xs : List Value} (h : w.ownsRow base e size v n xs) {b : Nat} {cs : Array Value} {t : TypeId} {fr : Nat × Nat} (hb : w.heap[b]? = some (.cells cs t fr)) (hne : t ≠ e) : some b ≠ v.ownBlock := by
  rcases h.2 with ⟨rfl, _⟩ | ⟨g, cap, cur, rfl, _, hh, _⟩
  · simp [Value.ownBlock]
  · simp only [Value.ownBlock]
    intro e1
    injection e1 with e1
    subst e1
    rw [hh] at hb; injection hb with hb; injection hb with _ h2; exact hne h2.symm
theorem below_push {B0 : Nat} {w0 Y Z : World} {o : Obj} {base : Nat} {e : TypeId} {size : Nat} {v : Value} {n : Nat} {xs : List Value} (h : Below B0 w0 Y) (hs : B0 ≤ w0.heap.size) (hown : Y.ownsRow base e size v n xs) (hg : (Y.alloc o).grownBy Z v.ownBlock)
    (h3 : B0 ≤ base) {b0 i : Nat} (h5 : B0 ≤ b0) (u : Value) : Below B0 w0 (Z.setCell ⟨b0, i, none⟩ u) :=
  ((h.alloc (Nat.le_trans hs h.size) o).grown hg (by have := h.size; simp; omega) (fun r e => by have := own_base hown r e; omega)).setCell h5 u
theorem len_snoc {α : Type} (l : List α) (x : α) : (l ++ [x]).length = l.length + 1 := by simp
theorem cell_put {W : World} {D : Nat} {o o' : Obj} {a : Addr} {v : Value} (h : W.cell? a = some v) (hK : W.heap[D]? = some o) (hc : o.isCells = false) : (W.putObj D o').cell? a = some v :=
  (World.cell?_of_block (World.putObj_heap_other (fun e => by
    simp only [World.cell?, e, hK] at h
    cases o <;> first | (simp [Obj.isCells] at hc; done) | (simp at h; done)))).trans h
theorem rows_put {α : Type} {enc : α → List Value} {k : Nat} {W : World} {A : Option Addr} {l : List α} {D : Nat} {o o' : Obj} (h : RowsAt enc k W A l) (hK : W.heap[D]? = some o) (hc : o.isCells = false) : RowsAt enc k (W.putObj D o') A l := fun i hi => by
  obtain ⟨b, off, hA, hv⟩ := h i hi
  exact ⟨b, off, hA, fun j v hj => cell_put (hv j v hj) hK hc⟩
theorem below_put {m D : Nat} {w0 W : World} {o : Obj} (h : Below m w0 W) (hD : m ≤ D) (o' : Obj) (_hK : W.heap[D]? = some o) : Below m w0 (W.putObj D o') :=
  h.trans ⟨rfl, rfl, rfl, by simp, fun k hk => World.putObj_heap_other (by omega)⟩

section
variable {α : Type} {enc : α → List Value} {e : TypeId} {size bytes : Nat} {z : Value}
/-- an append of one element at a step of a region that draws -/
theorem step_push {ops : Array Oper} {o : Oper} {a : Act} {w : World} {K : Act → World → Prop} {Q : Exit → Act → World → Prop} {X : Prop}
    (hg : o.guard = none) (s x : Operand) (t : TypeId) (hop : o.op = Op.call { callee := Callee.builtin Builtin.append, args := #[s, x], argTypes := #[t, t] })
    (E : ElemT e size bytes z) (hk : ∀ x, (enc x).length = size) (h1 : ∀ x, ∀ u ∈ enc x, u.oneCell' = true) (ht : Tryd.prog.underlying t = some (.slice e)) (base : Nat)
    (v : Value) (l : List α) (hs : a.eval s = v) (hown : w.ownsRow base e size v l.length (l.flatMap enc)) (hlen : l.length ≤ 100000) (y : α) (B : Nat) (hx : a.eval x = .slice (some ⟨B, 0, none⟩) 1 1)
    (cs : Array Value) (hcs : cs.toList = enc y) (tt : TypeId) (fr : Nat × Nat) (hB : w.heap[B]? = some (.cells cs tt fr)) (b3 : base ≤ w.heap.size)
    (hK : ∀ g cap w', w'.ownsRow base e size (.slice (some ⟨g, 0, none⟩) (l.length + 1) cap) (l.length + 1) ((l ++ [y]).flatMap enc) → w.grownBy w' v.ownBlock → K (a.put o.dst (.slice (some ⟨g, 0, none⟩) (l.length + 1) cap)) w') :
    if Region.wanted o (yielded ops a.tmps) = true then Oper.wp Tryd.prog o a w K Q else X := by
  obtain ⟨i0, hi, hz0, hz1, hz2⟩ := info_parts E.info
  have hb : (l.length + 1) * bytes ≤ 100001 * 100 := Nat.mul_le_mul (by omega) E.small
  refine step_append_lies (w := w) hg s x t hop base e i0 z size bytes ht hi hz0 hz1 hz2 E.zsz E.pos v l.length (l.flatMap enc) hs hown ⟨B, 0, none⟩ 1 1 (enc y) hx (by rw [hk]; omega) (news_new hB hcs) (h1 y) (by omega) (by simp only [maxLen]; omega) (by omega) b3 w.heap.size rfl ?_
  intro g cap w' hown' hgrow _ _
  exact hK g cap w' (by rw [← push_flat]; exact hown') hgrow
end

theorem grownBy_set' {w w' : World} {b : Nat} (h : w.grownBy w' (some b)) (a : Addr) (ha : a.block = b) (v : Value) : w.grownBy (w'.setCell a v) (some b) :=
  h.trans ⟨rfl, rfl, rfl, by simp, fun k _ hk => heap_setCell_other w' a k v (fun e => hk (by rw [show k = b from by rw [← ha]; exact e]))⟩
theorem own_below' {w w' : World} {base : Nat} {e : TypeId} {size : Nat} {v : Value} {n : Nat} {xs : List Value} (h : w.ownsRow base e size v n xs) (hB : Below w.heap.size w w') : w'.ownsRow base e size v n xs :=
  ⟨h.1, h.2.imp id fun ⟨g, cap, cur, a, b, c, d⟩ => ⟨g, cap, cur, a, b, (hB.block g (blk_lt c)).trans c, d⟩⟩
theorem Tryd.kint : Tryd.prog.keyType 3 = true := by kernel_rfl
end Go.Proofs.YtggcooplhodocaaDoor

namespace Go.Proofs.YtggcooplhodocaaDoor
open Go.RowKit Go.Shelf Go.Maps Fam

theorem Tryd.lawI : Keyed Tryd.prog 3 := int_keyed Tryd.underlying3
def dB (x : Int) : DataW Unit := .lit (.int .i64 x)
theorem dB_inj {x y : Int} (h : dB x = dB y) : x = y := by simpa [dB] using h
def rB (v : Value) : Option (DataW Unit × List MemPlace) :=
  match v with
  | .int .i64 a => some (dB a, [])
  | _ => none
theorem rB_v (x : Int) : rB (.int .i64 x) = some (dB x, []) := rfl
theorem rB_inv {v : Value} {x : Int} {ps : List MemPlace} (h : rB v = some (dB x, ps)) : v = .int .i64 x := by
  unfold rB at h
  split at h
  · rename_i a
    simp only [Option.some.injEq, Prod.mk.injEq] at h
    rw [dB_inj h.1]
  · cases h
theorem zeroL (w : World) : (zeroValue 2).run Tryd.prog w = .ok (.int .i64 0) w := by kernel_rfl
def okM (g : Int) : Prop := 0 ≤ g ∧ g ≤ 65535
theorem key_M {g : Int} (h : okM g) : keyOf Tryd.prog 3 (.int .i64 g) = some (.int .i64 g) := keyOf_int_mk Tryd.underlying3 (WalkArith.wf_i64 (by have := h.1; have := h.2; omega))
/-- block b is a map of groups (by bits) to prices: D is what it holds -/
def MapD (w : World) (b n : Nat) (D : DataW Unit) : Prop := w.ownsMap Tryd.prog 3 rB b n D
def prAt (D : DataW Unit) (g : Int) (x : Int) : Prop := D.atKey (.int .i64 g) (dB 0) = dB x
theorem MapD.made (w : World) : MapD (w.alloc (.map #[] 0)) w.heap.size 0 (.map []) := World.ownsMap_made _ _ _ _
theorem MapD.kept {w w' : World} {b n : Nat} {D : DataW Unit} (h : MapD w b n D) {row : Option Nat} (hg : w.grownBy w' row) (hne : some b ≠ row) : MapD w' b n D := World.ownsMap.kept h hg hne
theorem MapD.lt {w : World} {b n : Nat} {D : DataW Unit} (h : MapD w b n D) : b < w.heap.size := World.ownsMap.lt h
theorem MapD.set {w : World} {b n : Nat} {D : DataW Unit} (h : MapD w b n D) {a : Addr} (ha : b ≠ a.block) (u : Value) : MapD (w.setCell a u) b n D := World.ownsMap.setCell h ha u
theorem MapD.alloc {w : World} {b n : Nat} {D : DataW Unit} (h : MapD w b n D) (o : Obj) : MapD (w.alloc o) b n D := World.ownsMap.alloc h o
theorem MapD.drew {w : World} {b n : Nat} {D : DataW Unit} (h : MapD w b n D) : MapD w.drew b n D := h
theorem MapD.below {w w' : World} {b n : Nat} {D : DataW Unit} (h : MapD w b n D) (hb : Below w.heap.size w w') : MapD w' b n D := by
  obtain ⟨es, clock, h1, h2⟩ := h
  exact ⟨es, clock, blk_below hb h1, h2⟩
theorem grown_setCell (W : World) (p : Addr) (v : Value) : W.grownBy (W.setCell p v) (some p.block) := ⟨rfl, rfl, rfl, by simp, fun i _ hne => Below.heap_setCell W p v i (fun e => hne (by rw [e]))⟩

/-- the cells of a wood -/
def woodC (S R : Int) (A : Option Addr) (n ca : Nat) (u : Value) (mb : Nat) : Obj := .cells #[.int .i64 S, .int .i64 R, .slice A n ca, u, .map (some mb)] 90 (0, 0)
def chs (l : List St) : List Int := l.map fun x => x.2.2
theorem chs_len (l : List St) : (chs l).length = l.length := by unfold chs; simp
theorem chs_step {l : List St} {k : Nat} (hk : k < l.length) : chs (l.take (k + 1)) = chs (l.take k) ++ [l[k].2.2] := by
  unfold chs
  rw [List.take_succ_eq_append_getElem hk, List.map_append]; rfl

set_option maxRecDepth 100000 in
set_option maxHeartbeats 2000000 in
theorem newWood_any (S R : Int) (A : Option Addr) (ca : Nat) (l : List St) (w : World) (hl : StepsAt w A l) (hn : l.length ≤ 100000) :
    Calls Tryd.prog 33 #[vBook S R A l.length ca] w (Ret fun v w' => (∃ wb mb u, v = .pointer (some ⟨wb, 0, none⟩) ∧ w'.heap[wb]? = some (woodC S R A l.length ca u mb) ∧ w'.ownsRow w.heap.size 2 1 u (chs l).length ((chs l).flatMap encI) ∧ MapD w' mb 0 (.map []) ∧ wb = w.heap.size + 1 + 1 ∧ mb = w.heap.size + 1) ∧ Below w.heap.size w w') := by
  have Hl := Lib.hid hl; clear hl
  unfold vBook
  have hmm := @run_makeMap Tryd.prog
  go_enter Tryd.func33, Tryd.ntmps33
  go_upto_region 2 with fail
  clear hmm
  have hX := heap_alloc_at ((w.alloc (.cells #[.int .i64 S, .int .i64 R, .slice A l.length ca] 24)).alloc (.map #[] 0)) (.cells #[.int .i64 S, .int .i64 R, .slice A l.length ca, .slice none 0 0, .map (some (w.heap.size + 1))] 90) (n := w.heap.size + 1 + 1) (by simp)
  have hM0 := MapD.made (w.alloc (.cells #[.int .i64 S, .int .i64 R, .slice A l.length ca] 24))
  rw [World.size_alloc] at hM0
  have hM := hM0.alloc (.cells #[.int .i64 S, .int .i64 R, .slice A l.length ca, .slice none 0 0, .map (some (w.heap.size + 1))] 90)
  clear hM0
  have HB0 : Hid (Below w.heap.size w (((w.alloc (.cells #[.int .i64 S, .int .i64 R, .slice A l.length ca] 24)).alloc (.map #[] 0)).alloc (.cells #[.int .i64 S, .int .i64 R, .slice A l.length ca, .slice none 0 0, .map (some (w.heap.size + 1))] 90))) := Lib.hid (below_alloc' (below_alloc' (below_alloc' (Below.refl _ _) _) _) _)
  have hsz : w.heap.size + 3 ≤ (((w.alloc (.cells #[.int .i64 S, .int .i64 R, .slice A l.length ca] 24)).alloc (.map #[] 0)).alloc (.cells #[.int .i64 S, .int .i64 R, .slice A l.length ca, .slice none 0 0, .map (some (w.heap.size + 1))] 90)).heap.size := by simp
  generalize ((w.alloc (.cells #[.int .i64 S, .int .i64 R, .slice A l.length ca] 24)).alloc (.map #[] 0)).alloc (.cells #[.int .i64 S, .int .i64 R, .slice A l.length ca, .slice none 0 0, .map (some (w.heap.size + 1))] 90) = w0 at hX hM HB0 hsz ⊢
  have y2 : w0.cell? ⟨w.heap.size + 1 + 1, 2, none⟩ = some (.slice A l.length ca) := (blk_cell hX).trans rfl
  go_wp2
  clear y2
  go_loopw [16] (fun i wr => ∃ (k : Nat) (u : Value), k ≤ l.length ∧ i = .int .i64 k ∧ Hid (wr.heap[w.heap.size + 1 + 1]? = some (woodC S R A l.length ca u (w.heap.size + 1))) ∧ Hid (wr.ownsRow (w.heap.size + 3) 2 1 u (chs (l.take k)).length ((chs (l.take k)).flatMap encI)) ∧ Hid (MapD wr (w.heap.size + 1) 0 (.map [])) ∧ Hid (Below w.heap.size w wr) ∧ w.heap.size + 3 ≤ wr.heap.size) (fun i _ => l.length - (intOf i).toNat)
  case atStart => exact ⟨0, .slice none 0 0, by omega, rfl, Lib.hid hX, Lib.hid (by simpa [chs] using World.ownsRow_nil w0 (w.heap.size + 3) 2 1), Lib.hid hM, HB0, hsz⟩
  case round =>
    clear hX hM HB0 hsz
    obtain ⟨k, u, hk, rfl, HX, HO, HM, HB, hsz⟩ := hrel
    have y2 : wr.cell? ⟨w.heap.size + 1 + 1, 2, none⟩ = some (.slice A l.length ca) := (blk_cell HX.out).trans rfl
    by_cases hkn : k < l.length
    · obtain ⟨b, off, rfl, g1, g2, g3⟩ := StepsAt.at_ (Hl.out.below HB.out) hkn
      have ij0 : (0 : Int) ≤ (k : Int) := by omega
      have ij1 : (k : Int) < (l.length : Int) := by omega
      have HC := Lib.hid (chs_step hkn)
      have hcl := chs_len (l.take k)
      rw [List.length_take, Nat.min_eq_left hk] at hcl
      have hcl := Nat.le_of_eq hcl
      generalize l[k] = x at g1 g2 g3 HC
      generalize chs (l.take k) = T at HC HO hcl
      obtain ⟨x1, x2, x3⟩ := x
      dsimp only at g1 g2 g3 HC
      have hbx := heap_alloc_new wr (.cells #[.int .i64 x1, .int .i64 x2, .int .i64 x3] 50)
      have hba := below_alloc' (Below.refl wr.heap.size wr) (.cells #[.int .i64 x1, .int .i64 x2, .int .i64 x3] 50)
      go_upto_region 5 with fail
      replace HX := Lib.hid (blk_below hba HX.out)
      replace HO := Lib.hid (own_below' HO.out hba)
      replace HM := Lib.hid (HM.out.below hba)
      replace HB := Lib.hid (below_trans' HB.out hba)
      have hs2 := hba.size
      generalize hxb : wr.heap.size = xb at hbx hs2 ⊢
      clear hba g1 g2 g3
      generalize wr.alloc (.cells #[.int .i64 x1, .int .i64 x2, .int .i64 x3] 50) = w2 at *
      have hsz2 : w.heap.size + 3 ≤ w2.heap.size := by omega
      clear hxb hs2 hsz
      have x3c : w2.cell? ⟨w.heap.size + 1 + 1, 3, none⟩ = some u := (blk_cell HX.out).trans rfl
      have n2 : w2.cell? ⟨xb, 2, none⟩ = some (.int .i64 x3) := (blk_cell hbx).trans rfl
      have x3a := cell_alloc x3c (.cells #[.int .i64 x3] 2)
      have n2a := cell_alloc n2 (.cells #[.int .i64 x3] 2)
      clear hbx
      go_region_law (refine step_push rfl (.tmp 24) (.tmp 27) 73 rfl elemL encI_len oneI Tryd.underlying73 (w.heap.size + 3) u T (by rfl) ((HO.out.alloc _).drew) (by omega) x3 w2.heap.size (by rfl) #[.int .i64 x3] rfl 2 (0, 0) (heap_alloc_new w2 _) (by simp; omega) ?_; intro g cap w5 hO5 hg5; have hr5 := own_base HO.out; have hX5 := blk_grown hg5 (blk_alloc HX.out (.cells #[.int .i64 x3] 2)) (fun e => by have := hr5 _ e.symm; omega); have e3 : w5.cell? ⟨w.heap.size + 1 + 1, 3, none⟩ = some u := (blk_cell hX5).trans rfl; have f3 : w5.frozen? ⟨w.heap.size + 1 + 1, 3, none⟩ = false := blk_frozen hX5)
      all_goals
        have hX6 : (w5.setCell ⟨w.heap.size + 1 + 1, 3, none⟩ (.slice (some ⟨g, 0, none⟩) (T.length + 1) cap)).heap[w.heap.size + 1 + 1]? = some (woodC S R (some ⟨b, off, none⟩) l.length ca (.slice (some ⟨g, 0, none⟩) (T.length + 1) cap) (w.heap.size + 1)) := blk_set (i := 3) hX5 _
        have HO6 := Lib.hid (ownsRow_setCell_below (a := ⟨w.heap.size + 1 + 1, 3, none⟩) hO5 (by dsimp only; omega) (.slice (some ⟨g, 0, none⟩) (T.length + 1) cap))
        have HM6 := Lib.hid (((HM.out.alloc (.cells #[.int .i64 x3] 2)).drew.kept hg5 (fun e => by have := hr5 _ e.symm; omega)).set (a := ⟨w.heap.size + 1 + 1, 3, none⟩) (by dsimp only; omega) (.slice (some ⟨g, 0, none⟩) (T.length + 1) cap))
        have HB5 := Lib.hid ((below_alloc' HB.out (.cells #[.int .i64 x3] 2)).drew.grown hg5 (by simp; omega) (fun r e => by have := hr5 r e; omega))
        have HB6 := Lib.hid (HB5.out.setCell (p := ⟨w.heap.size + 1 + 1, 3, none⟩) (by dsimp only; omega) (.slice (some ⟨g, 0, none⟩) (T.length + 1) cap))
        have hs6 : w.heap.size + 3 ≤ (w5.setCell ⟨w.heap.size + 1 + 1, 3, none⟩ (.slice (some ⟨g, 0, none⟩) (T.length + 1) cap)).heap.size := by have := hg5.size; simp at this; simp; omega
        clear hX5 hO5 hg5 hr5 e3 f3 x3a n2a x3c n2 HB HO HM HX HB5 y2
        go_wp2
        go_roundw
        case rel => exact ⟨k + 1, _, by omega, by go_num, Lib.hid hX6, by rw [HC.out, len_snoc]; exact HO6, HM6, HB6, hs6⟩
        case measure => simp [intOf]; omega
    · have hkl : k = l.length := by omega
      subst hkl
      rw [List.take_length] at HO
      go_wp2
      go_ret
      exact Ret.mk ⟨⟨_, _, u, rfl, HX.out, own_mono HO.out (by omega), HM.out, rfl, rfl⟩, HB.out⟩
end Go.Proofs.YtggcooplhodocaaDoor

namespace Go.Proofs.YtggcooplhodocaaDoor
open Go.RowKit Go.Shelf Go.Maps Fam

theorem Tryd.cellsI : Tryd.prog.cellsOf 3 = 1 := by kernel_rfl
theorem litI (d : Nat) {x : Int} (h : (Lit.int .i64 x).wf = true) : Tryd.prog.keyLits (d + 1) 3 [.int .i64 x] = some [.int .i64 x] := by
  simp only [Program.keyLits, Tryd.underlying3]; rw [if_pos ⟨trivial, h⟩]
/-- n numbers that lie in a block from o on, and may be written -/
def Arr (w : World) (b o n : Nat) (f : Nat → Int) : Prop := ∀ i, i < n → w.cell? ⟨b, o + i, none⟩ = some (.int .i64 (f i)) ∧ w.frozen? ⟨b, o + i, none⟩ = false
theorem frozen_set (w : World) (p q : Addr) (u : Value) : (w.setCell p u).frozen? q = w.frozen? q := World.frozen?_setCell w p q u
theorem Arr.below {w w' : World} {b o n : Nat} {f : Nat → Int} (h : Arr w b o n f) (hb : Below w.heap.size w w') : Arr w' b o n f := fun i hi => ⟨cell_below hb (h i hi).1, frozen_below hb (h i hi).1 (h i hi).2⟩
theorem Arr.far {w : World} {b o n : Nat} {f : Nat → Int} (h : Arr w b o n f) {p : Addr} (hne : ∀ i, i < n → (⟨b, o + i, none⟩ : Addr) ≠ p) (u : Value) : Arr (w.setCell p u) b o n f := fun i hi => ⟨cell_far (h i hi).1 (hne i hi), by rw [frozen_set]; exact (h i hi).2⟩
theorem Arr.far_block {w : World} {b o n : Nat} {f : Nat → Int} (h : Arr w b o n f) {p : Addr} (hne : b ≠ p.block) (u : Value) : Arr (w.setCell p u) b o n f := h.far (fun i _ e => hne (by rw [← e])) u
theorem Arr.set {w : World} {b o n : Nat} {f : Nat → Int} (h : Arr w b o n f) {k : Nat} (hk : k < n) (v : Int) : Arr (w.setCell ⟨b, o + k, none⟩ (.int .i64 v)) b o n (fun i => if i = k then v else f i) := fun i hi => by
  refine ⟨?_, by rw [frozen_set]; exact (h i hi).2⟩
  by_cases e : i = k
  · subst e; show _ = some (Value.int .i64 (if i = i then v else f i)); rw [if_pos rfl]; exact World.cell?_setCell_same _ _ _ (h i hi).1
  · show _ = some (Value.int .i64 (if i = k then v else f i)); rw [if_neg e]; exact cell_far (h i hi).1 (fun e' => e (by injection e' with _ e2; omega))
theorem Arr.congr {w : World} {b o n : Nat} {f g : Nat → Int} (h : Arr w b o n f) (e : ∀ i, i < n → f i = g i) : Arr w b o n g := fun i hi => by rw [← e i hi]; exact h i hi
def rowV (f : Nat → Int) : Array Value := ((List.range 16).map fun i => Value.int .i64 (f i)).toArray
theorem rowV_get (f : Nat → Int) {k : Nat} (hk : k < 16) : (rowV f)[k]? = some (.int .i64 (f k)) := by simp [rowV, hk]
theorem rowV_size (f : Nat → Int) : (rowV f).size = 16 := by simp [rowV]
theorem rowV_one (f : Nat → Int) : (rowV f).all (·.oneCell') = true := all_oneCell_toArray (fun v hv => by
  simp only [List.mem_map] at hv
  obtain ⟨i, _, rfl⟩ := hv
  rfl)
theorem rowV_list (f : Nat → Int) : (rowV f).toList = [.int .i64 (f 0), .int .i64 (f 1), .int .i64 (f 2), .int .i64 (f 3), .int .i64 (f 4), .int .i64 (f 5), .int .i64 (f 6), .int .i64 (f 7), .int .i64 (f 8), .int .i64 (f 9), .int .i64 (f 10), .int .i64 (f 11), .int .i64 (f 12), .int .i64 (f 13), .int .i64 (f 14), .int .i64 (f 15)] := rfl
theorem infoR : (Tryd.prog.info? 64).map (·.size) = some 16 := by kernel_rfl
theorem Arr.range {w : World} {b o : Nat} {f : Nat → Int} (h : Arr w b o 16 f) : w.rangeAt b o (rowV f).toList := fun j v hj => by
  have hlt := (List.getElem?_eq_some_iff.1 hj).1
  rw [Array.length_toList, rowV_size] at hlt
  rw [Array.getElem?_toList, rowV_get f hlt] at hj
  injection hj with hj
  subst hj
  exact (h j hlt).1
theorem Arr.there {w : World} {b o : Nat} {f : Nat → Int} (h : Arr w b o 16 f) : w.there b o 16 := fun j hj => ⟨by rw [(h j hj).1]; rfl, (h j hj).2⟩
theorem frozen_setCells (b : Nat) : ∀ (vs : List Value) (o : Nat) (w : World) (p : Addr), (w.setCells b o vs).frozen? p = w.frozen? p
  | [], _, _, _ => rfl
  | v :: vs, o, w, p => (frozen_setCells b vs (o + 1) _ p).trans (frozen_set w _ p v)
theorem Arr.stored {w : World} {b o : Nat} {f : Nat → Int} (h : w.there b o 16) : Arr (w.setCells b o (rowV f).toList) b o 16 f := fun i hi => by
  refine ⟨World.rangeAt_setCells_same w b o (rowV f).toList (by rw [Array.length_toList, rowV_size]; exact h) i _ (by rw [Array.getElem?_toList, rowV_get f hi]), ?_⟩
  rw [frozen_setCells]; exact (h i hi).2
theorem setCells_block {b k : Nat} (hk : k ≠ b) : ∀ (vs : List Value) (o : Nat) (w : World), (w.setCells b o vs).heap[k]? = w.heap[k]?
  | [], _, _ => rfl
  | v :: r, o, w => (setCells_block hk r (o + 1) _).trans (Below.heap_setCell w ⟨b, o, none⟩ v k hk)
theorem setCells_size (b : Nat) : ∀ (vs : List Value) (o : Nat) (w : World), (w.setCells b o vs).heap.size = w.heap.size
  | [], _, _ => rfl
  | v :: r, o, w => (setCells_size b r (o + 1) _).trans (by simp)
theorem grown_setCells {w : World} {b : Nat} (vs : List Value) (o : Nat) : w.grownBy (w.setCells b o vs) (some b) := by
  induction vs generalizing w o with
  | nil => exact ⟨rfl, rfl, rfl, Nat.le_refl _, fun _ _ _ => rfl⟩
  | cons v vs ih =>
    have h := ih (w := w.setCell ⟨b, o, none⟩ v) (o + 1)
    exact ⟨h.os, h.tape, h.output, by have h1 := h.size; rw [World.size_setCell] at h1; exact h1, fun i hi hne => (h.block i (by simpa using hi) hne).trans (Below.heap_setCell w ⟨b, o, none⟩ v i (fun e => hne (by rw [e])))⟩

theorem keyTR : Tryd.prog.keyTypeAt 2 64 = true := by kernel_rfl
theorem cellsR : Tryd.prog.cellsOf 64 = 16 := by kernel_rfl
theorem formedR (f : Nat → Int) : (Value.agg (rowV f)).formed Tryd.prog 64 = true := by simp [Value.formed, Tryd.underlying64, cellsR, rowV_size]
def litsV (f : Nat → Int) : List Lit := (List.range 16).map fun i => Lit.int .i64 (f i)
theorem litsR (d : Nat) {f : Nat → Int} (h : ∀ i, i < 16 → (Lit.int .i64 (f i)).wf = true) : Tryd.prog.keyLits (d + 2) 64 (rowV f).toList = some (litsV f) := by
  rw [Program.keyLits.eq_def]
  simp only [Tryd.underlying64, cellsR, Tryd.cellsI]
  rw [if_pos (by rw [Array.length_toList, rowV_size])]
  rw [rowV_list]
  simp only [List.range_succ_eq_map, List.range_zero]
  simp [List.mapM_cons, litI d (h 0 (by omega)), litI d (h 1 (by omega)), litI d (h 2 (by omega)), litI d (h 3 (by omega)), litI d (h 4 (by omega)), litI d (h 5 (by omega)), litI d (h 6 (by omega)), litI d (h 7 (by omega)), litI d (h 8 (by omega)), litI d (h 9 (by omega)), litI d (h 10 (by omega)), litI d (h 11 (by omega)), litI d (h 12 (by omega)), litI d (h 13 (by omega)), litI d (h 14 (by omega)), litI d (h 15 (by omega))]
  rfl
theorem litsV_inj {f g : Nat → Int} (h : litsV f = litsV g) : ∀ i, i < 16 → f i = g i := fun i hi => by
  have e : (litsV f)[i]? = (litsV g)[i]? := by rw [h]
  simp [litsV, hi] at e
  exact e
theorem litsV_ext {f g : Nat → Int} (h : ∀ i, i < 16 → f i = g i) : litsV f = litsV g := List.map_congr_left fun i hi => by rw [h i (List.mem_range.1 hi)]
theorem run_eqV {f g : Nat → Int} (hf : ∀ i, i < 16 → (Lit.int .i64 (f i)).wf = true) (hg : ∀ i, i < 16 → (Lit.int .i64 (g i)).wf = true) (w : World) {b : Bool} (hb : b = true ↔ ∀ i, i < 16 → f i = g i) :
    (Op.equalIn 10000 64 (.agg (rowV f)) (.agg (rowV g))).run Tryd.prog w = .ok b w := by
  obtain ⟨r, hr, hi⟩ := run_equalIn_deep (P := Tryd.prog) 9998 2 64 keyTR w 2 2 (.agg (rowV f)) (.agg (rowV g)) (litsV f) (litsV g) (formedR f) (formedR g) (litsR 0 hf) (litsR 0 hg)
  have e : (10000 : Nat) = 9998 + 2 := by omega
  rw [e, hr]
  have : r = b := by
    rw [Bool.eq_iff_iff, hi, hb]
    exact ⟨litsV_inj, litsV_ext⟩
  rw [this]

theorem quiet_load_mid {o : Oper} {a : Act} {C : World → Prop} {K : Act → Prop} (ty : TypeId) (x : Operand) (ho : o.op = .load ty x) (b off : Nat) (hx : a.eval x = .pointer (some ⟨b, off, none⟩)) (cells : Array Value) (d : TypeDesc) (hC : ∀ w, C w → w.rangeAt b off cells.toList)
    (hu : Tryd.prog.underlying ty = some d) (hd : d.isRow = true) (hi : (Tryd.prog.info? ty).map (·.size) = some cells.size) (hk : K (a.put o.dst (.agg cells))) : o.quiet Tryd.prog a C K :=
  ⟨_, fun w hw => by
    unfold Oper.quietAt execOp
    simp only [ho, hx, Instr.loadAt, Instr.sureAddr, Sem.run_bind, Sem.run_pure, Result.andThen_ok, run_loadVar_mid w b off ty cells.toList d (hC w hw) hu hd (by rw [hi, Array.length_toList])]
    exact ⟨rfl, rfl⟩, hk⟩
theorem results_cell_mid {fn : Func} {p : Tmp} {ty : TypeId} (h : fn.results = #[.cell p ty]) (tmps : Array Value) (w : World) (g : Nat) (cs : List Value) (d : TypeDesc)
    (hp : tmps.getD p undef = .pointer (some ⟨g, 0, none⟩)) (hc : w.rangeAt g 0 cs)
    (hu : Tryd.prog.underlying ty = some d) (hd : d.isRow = true) (hi : (Tryd.prog.info? ty).map (·.size) = some cs.length) :
    (results fn tmps).run Tryd.prog w = .ok (.agg cs.toArray) w := by
  have hp' : tmps[p]?.getD undef = .pointer (some ⟨g, 0, none⟩) := by simpa using hp
  simp [results, h, hp', asAddr, run_loadVar_mid w g 0 ty cs d hc hu hd hi]
theorem setCells_far {b k : Nat} (hk : k ≠ b) : ∀ (vs : List Value) (o : Nat) (w : World), (w.setCells b o vs).heap[k]? = w.heap[k]?
  | [], _, _ => rfl
  | v :: r, o, w => (setCells_far hk r (o + 1) _).trans (Below.heap_setCell w ⟨b, o, none⟩ v k hk)
theorem below_setCells {B b : Nat} (hb : B ≤ b) {w0 : World} : ∀ (vs : List Value) (o : Nat) (w : World), Below B w0 w → Below B w0 (w.setCells b o vs)
  | [], _, _, h => h
  | v :: r, o, _, h => below_setCells hb r (o + 1) _ (h.setCell (p := ⟨b, o, none⟩) hb v)
/-- rows of bits, as the program has them -/
def rowN (f : Nat → Nat) : Array Value := rowV fun i => (f i : Int)
def ArrN (w : World) (b : Nat) (f : Nat → Nat) : Prop := Arr w b 0 16 fun i => (f i : Int)
theorem ArrN.of_blk {w : World} {b : Nat} {f : Nat → Nat} {t : TypeId} (h : w.heap[b]? = some (.cells (rowN f) t (0, 0))) : ArrN w b f := fun i hi => by
  refine ⟨?_, blk_frozen h⟩
  rw [blk_cell h, Nat.zero_add]; exact rowV_get _ hi
theorem ArrN.set {w : World} {b : Nat} {f : Nat → Nat} (h : ArrN w b f) {k : Nat} (hk : k < 16) (v : Nat) : ArrN (w.setCell ⟨b, k, none⟩ (.int .i64 (v : Int))) b (fun i => if i = k then v else f i) := by
  have := Arr.set h hk (v : Int)
  rw [Nat.zero_add] at this
  refine Arr.congr this fun i _ => ?_
  dsimp only
  split <;> rfl
theorem ArrN.congr {w : World} {b : Nat} {f g : Nat → Nat} (h : ArrN w b f) (e : ∀ i, i < 16 → f i = g i) : ArrN w b g := Arr.congr h fun i hi => by rw [e i hi]
theorem ArrN.wf {f : Nat → Nat} (h : ∀ u, u < 16 → f u < 65536) : ∀ i, i < 16 → (Lit.int .i64 ((f i : Nat) : Int)).wf = true := fun i hi => WalkArith.wf_i64 (by have := h i hi; omega)
def zero16 : Array Value := #[.int .i64 0, .int .i64 0, .int .i64 0, .int .i64 0, .int .i64 0, .int .i64 0, .int .i64 0, .int .i64 0, .int .i64 0, .int .i64 0, .int .i64 0, .int .i64 0, .int .i64 0, .int .i64 0, .int .i64 0, .int .i64 0]
theorem zero16_eq : zero16 = rowN fun _ => 0 := rfl
end Go.Proofs.YtggcooplhodocaaDoor
