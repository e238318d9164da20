/- ref: CheckScale, Met. -/
import Derived.Test.YtkjmeeggjmeajaaD1
namespace Go.Proofs.Ytkjmeeggjmeajaa
open Go.RowKit

theorem isMet_get {l : List (Int × Int)} {s : List Int} {k : Nat} (hk : k < l.length) {r : Int × Int} (hr : l[k] = r) : isMet l s k = s.any (onR r) := by
  unfold isMet; rw [List.getD_eq_getElem?_getD, List.getElem?_eq_getElem hk, hr]; rfl
theorem own_below2 {w w' : World} {base : Nat} {e : TypeId} {size : Nat} {v : Value} {n : Nat} {xs : List Value} (h : w.ownsRow base e size v n xs) (hB : Below w.heap.size w w') : w'.ownsRow base e size v n xs :=
  ⟨h.1, h.2.imp id fun ⟨g, cap, cur, a, b, c, d⟩ => ⟨g, cap, cur, a, b, (hB.block g (blk_lt c)).trans c, d⟩⟩
theorem all_next {p : Nat → Bool} {k : Nat} (h : (List.range k).all p = true) (hk : p k = true) : (List.range (k + 1)).all p = true := by
  rw [List.range_succ, List.all_append, h]; simp [hk]
theorem all_miss {p : Nat → Bool} {k n : Nat} (hk : k < n) (h : p k = false) : (List.range n).all p = false := by
  rw [List.all_eq_false]; exact ⟨k, List.mem_range.2 hk, by simp [h]⟩

set_option maxHeartbeats 1000000 in
theorem refCheckScale_any (A B : Option Addr) (ca cb : Nat) (l : List (Int × Int)) (s : List Int) (w : World) (hl : RangesAt w A l) (hs : IntsAt w B s) (hn : l.length ≤ 100000) (hm : s.length ≤ 100000) :
    Calls Try.prog 21 #[.slice A l.length ca, .slice B s.length cb] w (Ret fun v w' => v = .int .i64 (scaleErr l s) ∧ Below w.heap.size w w') := by
  have Hl := Lib.hid hl; clear hl
  have Hs := Lib.hid hs; clear hs
  go_enter Try.func21, Try.ntmps21
  go_wp2_with fail
  refine (isScale_any _ _ _ _ l s _ Hl.out Hs.out hn hm).mono ?_
  rintro e w1 ⟨v, rfl, rfl, q1, rfl⟩
  have Hl1 : Hid (RangesAt (w.drewN q1) A l) := Hl.out
  have Hs1 : Hid (IntsAt (w.drewN q1) B s) := Hs.out
  by_cases h0 : checkErr l s = 0
  · have d0 : (checkErr l s != 0) = false := by simp [h0]
    have H0 := Lib.hid h0; clear h0
    go_wp2
    go_loopw [5] (fun i wr => ∃ k : Nat, k ≤ l.length ∧ i = .int .i64 k ∧ Below w.heap.size w wr ∧ (List.range k).all (isMet l s) = true) (fun i _ => l.length - (intOf i).toNat)
    case atStart => exact ⟨0, by omega, rfl, below_drewN (Below.refl _ _) _, by simp⟩
    case round =>
      obtain ⟨k, hk, rfl, hB, hb⟩ := hrel
      have Hb := Lib.hid hb; clear hb
      have HB := Lib.hid hB; clear hB
      by_cases hkn : k < l.length
      · obtain ⟨b, off, rfl, g1, g2⟩ := (Hl.out.below HB.out).at_ hkn
        generalize hx : l[k] = x at g1 g2
        have Hx := Lib.hid hx; clear hx
        obtain ⟨x1, x2⟩ := x
        dsimp only at g1 g2
        have hme := meets_any (x1, x2) B cb s wr (Hs.out.below HB.out) hm
        unfold vR at hme
        have Hme := Lib.hid hme; clear hme
        go_wp2_with fail
        refine Hme.out.mono ?_
        rintro e w2 ⟨v, rfl, rfl, hB2⟩
        have HB2 := Lib.hid (below_trans' HB.out hB2); clear hB2
        generalize hq : s.any (onR (x1, x2)) = q
        have Hq := Lib.hid hq; clear hq
        cases q
        · go_wp2
          go_ret
          refine Ret.mk' ?_ ⟨rfl, HB2.out⟩
          rw [scaleErr, if_neg (by rw [H0.out]; simp), all_miss hkn (by rw [isMet_get hkn Hx.out, Hq.out])]; rfl
        · go_wp2
          go_roundw
          case rel => exact ⟨k + 1, by omega, by go_num, HB2.out, all_next Hb.out (by rw [isMet_get hkn Hx.out, Hq.out])⟩
          case measure => simp [intOf]; omega
      · have hkl : k = l.length := by omega
        subst hkl
        go_wp2
        go_ret
        refine Ret.mk' ?_ ⟨rfl, HB.out⟩
        rw [scaleErr, if_neg (by rw [H0.out]; simp), Hb.out]; rfl
  · have d0 : (checkErr l s != 0) = true := by simpa using h0
    have H0 := Lib.hid h0; clear h0
    go_wp2_with fail
    refine (isScale_any _ _ _ _ l s _ Hl1.out Hs1.out hn hm).mono ?_
    rintro e w2 ⟨v, rfl, rfl, q2, rfl⟩
    go_wp2
    go_ret
    refine Ret.mk' ?_ ⟨rfl, by first | exact below_drewN (below_drewN (Below.refl _ _) _) _ | exact below_drewN (Below.refl _ _) _⟩
    rw [scaleErr, if_pos H0.out]; rfl

set_option maxHeartbeats 1000000 in
theorem refMet_any (A B : Option Addr) (ca cb : Nat) (l : List (Int × Int)) (s : List Int) (w : World) (hl : RangesAt w A l) (hs : IntsAt w B s) (hn : l.length ≤ 100000) (hm : s.length ≤ 100000) :
    Calls Try.prog 17 #[.slice A l.length ca, .slice B s.length cb] w (Ret fun v w' => (∃ C c, v = .tuple #[.slice C (metM l s).length c, .int .i64 (checkErr l s)] ∧ (metM l s).length ≤ c ∧ IntsAt w' C (metM l s)) ∧ Below w.heap.size w w') := by
  have Hl := Lib.hid hl; clear hl
  have Hs := Lib.hid hs; clear hs
  go_enter Try.func17, Try.ntmps17
  go_wp2_with fail
  refine (isScale_any _ _ _ _ l s _ Hl.out Hs.out hn hm).mono ?_
  rintro e w1 ⟨v, rfl, rfl, q1, rfl⟩
  have Hl1 : Hid (RangesAt (w.drewN q1) A l) := Hl.out
  have Hs1 : Hid (IntsAt (w.drewN q1) B s) := Hs.out
  by_cases h0 : checkErr l s = 0
  · have d0 : (checkErr l s != 0) = false := by simp [h0]
    have HM : Hid (metM l s = metUp l s l.length) := by show _ = _; simp [metM, h0]
    have H0 := Lib.hid h0; clear h0
    go_wp2
    go_loopw [6, 7] (fun v i wr => ∃ k : Nat, k ≤ l.length ∧ i = .int .i64 k ∧ wr.ownsRow w.heap.size 3 1 v (metUp l s k).length ((metUp l s k).flatMap encI) ∧ Below w.heap.size w wr) (fun _ i _ => l.length - (intOf i).toNat)
    case atStart => exact ⟨0, by omega, rfl, by simpa [metUp] using World.ownsRow_nil _ _ _ _, below_drewN (Below.refl _ _) _⟩
    case round =>
      obtain ⟨k, hk, rfl, hown, hB⟩ := hrel
      have HB := Lib.hid hB; clear hB
      have Hown := Lib.hid hown; clear hown
      have hml := metUp_len l s k
      have hbnd : (metUp l s k).length ≤ 100000 := by omega
      by_cases hkn : k < l.length
      · obtain ⟨b, off, rfl, g1, g2⟩ := (Hl.out.below HB.out).at_ hkn
        generalize hx : l[k] = x at g1 g2
        have Hx := Lib.hid hx; clear hx
        obtain ⟨x1, x2⟩ := x
        dsimp only at g1 g2
        have hme := meets_any (x1, x2) B cb s wr (Hs.out.below HB.out) hm
        unfold vR at hme
        have Hme := Lib.hid hme; clear hme
        go_wp2_with fail
        refine Hme.out.mono ?_
        rintro e w2 ⟨v2, rfl, rfl, hB2⟩
        have Hown2 := Lib.hid (own_below2 Hown.out hB2)
        have hz2 : w.heap.size ≤ w2.heap.size := Nat.le_trans HB.out.size hB2.size
        have HB2 := Lib.hid (below_trans' HB.out hB2); clear hB2
        generalize hq : s.any (onR (x1, x2)) = q
        have Hq := Lib.hid hq; clear hq
        cases q
        · have Hm : Hid (isMet l s k = false) := by show _ = _; rw [isMet_get hkn Hx.out, Hq.out]
          go_wp2
          go_roundw
          case rel => exact ⟨k + 1, by omega, by go_num, by rw [metUp_no Hm.out]; exact Hown2.out, HB2.out⟩
          case measure => simp [intOf]; omega
        · have Hm : Hid (isMet l s k = true) := by show _ = _; rw [isMet_get hkn Hx.out, Hq.out]
          go_wp2_with (at_builtin; refine wpList_push _ rfl (.tmp 27) (.tmp 29) _ rfl elemI3 encI_len oneI Try.underlying26 w.heap.size _ (metUp l s k) rfl (Hown2.out.alloc _) hbnd (k : Int) _ rfl _ (by rfl) _ _ (heap_alloc_new _ _) (by rw [World.size_alloc]; omega) ?_; intro g cap w5 hown5 hg5; have Hown5 := Lib.hid hown5; have HG5 := Lib.hid hg5; clear hown5 hg5)
          go_roundw
          case rel => exact ⟨k + 1, by omega, by go_num, by rw [metUp_yes Hm.out, len_snoc]; exact Hown5.out, (below_alloc' HB2.out _).grown HG5.out (by rw [World.size_alloc]; omega) (fun r e => own_base Hown2.out r e)⟩
          case measure => simp [intOf]; omega
      · have hkl : k = l.length := by omega
        subst hkl
        obtain ⟨C, c, rfl, hc⟩ := own_form Hown.out
        have HR : Hid (IntsAt wr C (metUp l s l.length)) := RowsAt.of_own encI_len Hown.out
        go_wp2
        go_ret2
        exact Ret.mk' rfl ⟨⟨C, c, by rw [HM.out, H0.out]; rfl, by rw [HM.out]; exact hc, by rw [HM.out]; exact HR.out⟩, HB.out⟩
  · have d0 : (checkErr l s != 0) = true := by simpa using h0
    have HM : Hid (metM l s = []) := by show _ = _; simp [metM, h0]
    have H0 := Lib.hid h0; clear h0
    go_wp2_with fail
    refine (isScale_any _ _ _ _ l s _ Hl1.out Hs1.out hn hm).mono ?_
    rintro e w2 ⟨v, rfl, rfl, q2, rfl⟩
    go_wp2
    go_ret2
    exact Ret.mk' rfl ⟨⟨none, 0, by rw [HM.out]; rfl, by rw [HM.out]; simp, by rw [HM.out]; exact IntsAt.nil⟩, by first | exact below_drewN (below_drewN (Below.refl _ _) _) _ | exact below_drewN (Below.refl _ _) _⟩
end Go.Proofs.Ytkjmeeggjmeajaa
