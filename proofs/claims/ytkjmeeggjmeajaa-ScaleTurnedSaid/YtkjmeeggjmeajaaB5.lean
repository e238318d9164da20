/- check (a song and a scale's numbers), fine, CheckApart. -/
import Derived.Test.YtkjmeeggjmeajaaB4
import Derived.Deep.RegionHeld3
namespace Go.Proofs.Ytkjmeeggjmeajaa
open Go.RowKit

theorem rows_lit {α : Type} {enc : α → List Value} {k : Nat} (hk : ∀ x, (enc x).length = k) (w : World) (cs : Array Value) (e : TypeId) (l : List α) (h : cs.toList = l.flatMap enc) :
    RowsAt enc k (w.alloc (.cells cs e)) (some ⟨w.heap.size, 0, none⟩) l := fun i hi => by
  refine ⟨w.heap.size, 0, rfl, fun j v hv => ?_⟩
  have h1 := flatMap_at hk i j hi v hv
  rw [← h] at h1
  have h2 : cs[i * k + j]? = some v := by simpa using h1
  simp only [World.cell?, heap_alloc_new w (.cells cs e), Nat.zero_add]
  exact h2
theorem rangesAt_one (w : World) (x : Int × Int) (e : TypeId) : RangesAt (w.alloc (.cells #[.int .i64 x.1, .int .i64 x.2] e)) (some ⟨w.heap.size, 0, none⟩) [x] :=
  rows_lit encR_len w _ e [x] rfl

set_option maxHeartbeats 400000 in
theorem check1_any (n : Int) (w : World) : Calls Try.prog 57 #[vI n] w (Ret fun v w' => v = .bool (badR (n, n)) ∧ Below w.heap.size w w') := by
  unfold vI
  go_enter Try.func57, Try.ntmps57
  go_wp2_with fail
  refine (one_any n _).mono ?_
  rintro e w1 ⟨v, rfl, rfl, hB1⟩
  have HB1 := Lib.hid hB1; clear hB1
  unfold vR
  dsimp only
  go_wp2_with fail
  refine (within_any _ _ [(n, n)] _ (rangesAt_one _ (n, n) 50) (by simp)).mono ?_
  rintro e w2 ⟨v, rfl, rfl, hB2⟩
  have HB2 := Lib.hid hB2; clear hB2
  cases hq : badR (n, n)
  all_goals
    have Hq := Lib.hid hq; clear hq
    go_wp2
    go_ret
    refine Ret.mk' ?_ ⟨rfl, below_trans' (below_alloc' HB1.out _) HB2.out⟩
    simp [Hq.out]
theorem asksCheck1 (w : World) : Asks w 57 #[] #[] vI (fun _ => True) (fun n => badR (n, n)) := fun W x _ _ => check1_any x W
theorem enters57 : ∀ args W, (callFunc 57 args).run Try.prog W = .ok (.enter 57 args) W := fun args W => by simp [go_sem]

def badRise (l : List Int) (k : Nat) : Bool := (List.range k).any fun i => decide (l.getD (i+1) 0 ≤ l.getD i 0)
def checkErr (l : List (Int × Int)) (s : List Int) : Int :=
  if songErr l ≠ 0 then songErr l else if 24 < s.length then 6 else if s.any (fun n => badR (n, n)) then 3 else if badRise s (s.length - 1) then 16 else 0
theorem rise_next {s : List Int} {k : Nat} (h : badRise s k = false) {x y : Int} (hk : k + 1 < s.length) (hx : s[k] = x) (hy : s[k+1] = y) (hxy : x < y) : badRise s (k+1) = false := by
  unfold badRise at h ⊢
  rw [List.range_succ, List.any_append, h]
  simp [List.getD_eq_getElem?_getD, hk, show k < s.length by omega, hx, hy]; omega
theorem rise_end {s : List Int} {k m : Nat} (h : badRise s k = false) (hm : m ≤ k) : badRise s m = false := by
  unfold badRise at h ⊢
  rw [List.any_eq_false] at h ⊢
  intro i hi
  exact h i (by simp at hi ⊢; omega)
theorem rise_bad {s : List Int} {k : Nat} {x y : Int} (hk : k + 1 < s.length) (hx : s[k] = x) (hy : s[k+1] = y) (hxy : y ≤ x) : badRise s (s.length - 1) = true := by
  unfold badRise
  rw [List.any_eq_true]; exact ⟨k, by simp; omega, by simp [List.getD_eq_getElem?_getD, hk, show k < s.length by omega, hx, hy]; omega⟩

set_option maxHeartbeats 1000000 in
theorem check_any (A B : Option Addr) (ca cb : Nat) (l : List (Int × Int)) (s : List Int) (w : World) (hl : RangesAt w A l) (hs : IntsAt w B s) (hn : l.length ≤ 100000) (hm : s.length ≤ 100000) :
    Calls Try.prog 40 #[.slice A l.length ca, .slice B s.length cb] w (Ret fun v w' => v = .int .i64 (checkErr l s) ∧ Below w.heap.size w w') := by
  have Hl := Lib.hid hl; clear hl
  have Hs := Lib.hid hs; clear hs
  go_enter Try.func40, Try.ntmps40
  go_wp2_with fail
  refine (checkSong_any _ _ l _ Hl.out hn).mono ?_
  rintro e w1 ⟨v, rfl, rfl, hB1⟩
  have HB1 := Lib.hid hB1; clear hB1
  by_cases h0 : songErr l = 0
  · have d0 : (songErr l != 0) = false := by simp [h0]
    have H0 := Lib.hid h0; clear h0
    by_cases h1 : 24 < s.length
    · go_wp2
      go_ret
      exact Ret.mk' (by simp [checkErr, H0.out, h1]) ⟨rfl, HB1.out⟩
    · go_wp2_with fail
      refine (containsFuncI_any _ _ s 57 #[] #[] (fun _ => True) (fun n => badR (n, n)) _ (Hs.out.below HB1.out) hm (fun _ _ => trivial) enters57 (asksCheck1 _)).mono ?_
      rintro e w2 ⟨v, rfl, rfl, hB2⟩
      have HB2 := Lib.hid (below_trans' HB1.out hB2); clear hB2
      have HS2 := Lib.hid (Hs.out.below HB2.out)
      clear HB1
      generalize hq : (s.any fun n => badR (n, n)) = q
      have Hq := Lib.hid hq; clear hq
      cases q
      · go_wp2
        go_loopw [6] (fun i wr => ∃ k q : Nat, k ≤ s.length ∧ i = .int .i64 (k + 1 : Int) ∧ wr = w2.drewN q ∧ badRise s k = false) (fun i _ => s.length + 1 - (intOf i).toNat)
        case atStart => exact ⟨0, 0, by omega, rfl, rfl, by simp [badRise]⟩
        case round =>
          obtain ⟨k, q, hk, rfl, rfl, hb⟩ := hrel
          have Hb := Lib.hid hb; clear hb
          by_cases hkn : k + 1 < s.length
          · obtain ⟨b1, o1, rfl, g1⟩ := HS2.out.at_ hkn
            obtain ⟨b2, o2, e2, g2⟩ := HS2.out.at_ (show k < s.length by omega)
            injection e2 with e2
            injection e2 with e2 e3
            subst e2 e3
            generalize hx : s[k] = x at g2
            generalize hy : s[k+1] = y at g1
            have Hx := Lib.hid hx; clear hx
            have Hy := Lib.hid hy; clear hy
            go_wp2
            go_quiet (fail)
            by_cases hxy : y ≤ x
            · go_wp2
              go_ret
              exact Ret.mk' (by simp [checkErr, H0.out, Hq.out, h1, rise_bad hkn Hx.out Hy.out hxy]) ⟨rfl, below_drewN (below_drewN HB2.out _) _⟩
            · go_wp2
              go_roundw
              case rel => exact ⟨k + 1, _, by omega, by go_num, rfl, rise_next Hb.out hkn Hx.out Hy.out (by omega)⟩
              case measure => simp [intOf]; omega
          · go_wp2
            go_ret
            refine Ret.mk' ?_ ⟨rfl, below_drewN HB2.out _⟩
            simp [checkErr, H0.out, Hq.out, h1, rise_end Hb.out (show s.length - 1 ≤ k by omega)]
      · go_wp2
        go_ret
        exact Ret.mk' (by simp [checkErr, H0.out, Hq.out, h1]) ⟨rfl, HB2.out⟩
  · have d0 : (songErr l != 0) = true := by simpa using h0
    have H0 := Lib.hid h0; clear h0
    go_wp2
    go_ret
    exact Ret.mk' (by simp [checkErr, H0.out]) ⟨rfl, HB1.out⟩

end Go.Proofs.Ytkjmeeggjmeajaa
