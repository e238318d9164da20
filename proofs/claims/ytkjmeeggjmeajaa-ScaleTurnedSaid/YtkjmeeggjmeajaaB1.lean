/- The library's IndexFunc and ContainsFunc at this seat's two types. -/
import Derived.Test.YtkjmeeggjmeajaaB0
namespace Go.Proofs.Ytkjmeeggjmeajaa
open Go.RowKit

def IdxQ {α : Type} (w : World) (p : α → Bool) (l : List α) (v : Value) (w' : World) : Prop := (∃ r : Int, v = .int .i64 r ∧ (decide (0 ≤ r) = l.any p)) ∧ Below w.heap.size w w'

theorem any_hit {α : Type} {p : α → Bool} {l : List α} {k : Nat} (hk : k < l.length) (h : p l[k] = true) : decide ((0 : Int) ≤ (k : Int)) = l.any p := by
  rw [show l.any p = true from List.any_eq_true.2 ⟨_, List.getElem_mem hk, h⟩]; simp
theorem any_miss {α : Type} {p : α → Bool} {l : List α} {k : Nat} (hk : ¬ k < l.length) (h : (l.take k).any p = false) : decide ((0 : Int) ≤ -1) = l.any p := by
  rw [List.take_of_length_le (by omega)] at h; rw [h]; simp
theorem any_next {α : Type} {p : α → Bool} {l : List α} {k : Nat} (hk : k < l.length) (h : (l.take k).any p = false) (h2 : p l[k] = false) : (l.take (k+1)).any p = false := by
  rw [List.take_succ_eq_append_getElem hk, List.any_append, h]; simpa using h2

def vR (x : Int × Int) : Value := .agg #[.int .i64 x.1, .int .i64 x.2]
def vI (x : Int) : Value := .int .i64 x

set_option maxHeartbeats 400000 in
theorem indexFuncR_any (A : Option Addr) (cap : Nat) (l : List (Int × Int)) (g : Nat) (fst cpt : Array Value) (dom : Int × Int → Prop) (p : Int × Int → Bool) (w : World) (hl : RangesAt w A l) (hn : l.length ≤ 100000)
    (hd : ∀ x ∈ l, dom x) (eg : ∀ args W, (callFunc g args).run Try.prog W = .ok (.enter g args) W) (hp : Asks w g fst cpt vR dom p) :
    Calls Try.prog 74 #[.slice A l.length cap, .func (.func g) fst cpt] w (Ret (IdxQ w p l)) := by

  go_enter Try.func74, Try.ntmps74
  go_wp2
  go_loopw [5, 8] (fun _ i wr => ∃ k : Nat, k ≤ l.length ∧ i = .int .i64 k ∧ Below w.heap.size w wr ∧ (l.take k).any p = false) (fun _ i _ => l.length - (intOf i).toNat)
  case atStart => exact ⟨0, by omega, rfl, Below.refl _ _, by simp⟩
  case round =>
    obtain ⟨k, hk, rfl, hB, hb⟩ := hrel
    by_cases hkn : k < l.length
    · obtain ⟨b, off, rfl, g1, g2⟩ := (hl.below hB).at_ hkn
      have hc := hp wr l[k] hB (hd _ (List.getElem_mem hkn))
      generalize hx : l[k] = x at g1 g2 hc
      obtain ⟨lo, hi⟩ := x
      dsimp only [vR] at g1 g2 hc
      have HB := Lib.hid hB
      have Hb := Lib.hid hb
      have Hc := Lib.hid hc
      have Hx := Lib.hid hx
      have Hp := Lib.hid hp
      clear hB hb hp hl hd hc hx
      cases hq : p (lo, hi) with
      | true =>
        rw [hq] at Hc
        have Hq := Lib.hid hq
        clear hq
        go_wp2_with fail
        refine Hc.out.mono ?_
        rintro e w1 ⟨v, rfl, rfl, hB1⟩
        have HB1 := Lib.hid hB1; clear hB1
        go_wp2
        go_ret
        exact Ret.mk ⟨⟨_, rfl, any_hit hkn (by rw [Hx.out]; exact Hq.out)⟩, below_trans' HB.out HB1.out⟩
      | false =>
        rw [hq] at Hc
        have Hq := Lib.hid hq
        clear hq
        go_wp2_with fail
        refine Hc.out.mono ?_
        rintro e w1 ⟨v, rfl, rfl, hB1⟩
        have HB1 := Lib.hid hB1; clear hB1
        go_wp2
        go_roundw
        case rel => exact ⟨k + 1, by omega, by go_num, below_trans' HB.out HB1.out, any_next hkn Hb.out (by rw [Hx.out]; exact Hq.out)⟩
        case measure => simp [intOf]; omega
    · have HB := Lib.hid hB
      have Hb := Lib.hid hb
      clear hB hb hp hl hd
      go_wp2
      go_ret
      exact Ret.mk ⟨⟨_, rfl, any_miss hkn Hb.out⟩, HB.out⟩

set_option maxHeartbeats 400000 in
theorem containsFuncR_any (A : Option Addr) (cap : Nat) (l : List (Int × Int)) (g : Nat) (fst cpt : Array Value) (dom : Int × Int → Prop) (p : Int × Int → Bool) (w : World) (hl : RangesAt w A l) (hn : l.length ≤ 100000)
    (hd : ∀ x ∈ l, dom x) (eg : ∀ args W, (callFunc g args).run Try.prog W = .ok (.enter g args) W) (hp : Asks w g fst cpt vR dom p) :
    Calls Try.prog 63 #[.slice A l.length cap, .func (.func g) fst cpt] w (Ret fun v w' => v = .bool (l.any p) ∧ Below w.heap.size w w') := by
  go_enter Try.func63, Try.ntmps63
  have Hl := Lib.hid hl
  have Hd := Lib.hid hd
  have Hp := Lib.hid hp
  clear hl hd hp
  go_wp2_with fail
  refine (indexFuncR_any _ _ l g fst cpt dom p _ Hl.out hn Hd.out eg Hp.out).mono ?_
  rintro e w1 ⟨v, rfl, ⟨r, rfl, hr⟩, hB1⟩
  have Hr := Lib.hid hr; clear hr
  have HB1 := Lib.hid hB1; clear hB1
  go_wp2
  go_ret
  exact Ret.mk ⟨by rw [Hr.out]; rfl, HB1.out⟩
set_option maxHeartbeats 400000 in
theorem indexFuncI_any (A : Option Addr) (cap : Nat) (l : List (Int)) (g : Nat) (fst cpt : Array Value) (dom : Int → Prop) (p : Int → Bool) (w : World) (hl : IntsAt w A l) (hn : l.length ≤ 100000)
    (hd : ∀ x ∈ l, dom x) (eg : ∀ args W, (callFunc g args).run Try.prog W = .ok (.enter g args) W) (hp : Asks w g fst cpt vI dom p) :
    Calls Try.prog 71 #[.slice A l.length cap, .func (.func g) fst cpt] w (Ret (IdxQ w p l)) := by

  go_enter Try.func71, Try.ntmps71
  go_wp2
  go_loopw [5, 8] (fun _ i wr => ∃ k : Nat, k ≤ l.length ∧ i = .int .i64 k ∧ Below w.heap.size w wr ∧ (l.take k).any p = false) (fun _ i _ => l.length - (intOf i).toNat)
  case atStart => exact ⟨0, by omega, rfl, Below.refl _ _, by simp⟩
  case round =>
    obtain ⟨k, hk, rfl, hB, hb⟩ := hrel
    by_cases hkn : k < l.length
    · obtain ⟨b, off, rfl, g1⟩ := (hl.below hB).at_ hkn
      have hc := hp wr l[k] hB (hd _ (List.getElem_mem hkn))
      generalize hx : l[k] = x at g1 hc
      dsimp only [vI] at hc
      have HB := Lib.hid hB
      have Hb := Lib.hid hb
      have Hc := Lib.hid hc
      have Hx := Lib.hid hx
      have Hp := Lib.hid hp
      clear hB hb hp hl hd hc hx
      cases hq : p x with
      | true =>
        rw [hq] at Hc
        have Hq := Lib.hid hq
        clear hq
        go_wp2_with fail
        refine Hc.out.mono ?_
        rintro e w1 ⟨v, rfl, rfl, hB1⟩
        have HB1 := Lib.hid hB1; clear hB1
        go_wp2
        go_ret
        exact Ret.mk ⟨⟨_, rfl, any_hit hkn (by rw [Hx.out]; exact Hq.out)⟩, below_trans' HB.out HB1.out⟩
      | false =>
        rw [hq] at Hc
        have Hq := Lib.hid hq
        clear hq
        go_wp2_with fail
        refine Hc.out.mono ?_
        rintro e w1 ⟨v, rfl, rfl, hB1⟩
        have HB1 := Lib.hid hB1; clear hB1
        go_wp2
        go_roundw
        case rel => exact ⟨k + 1, by omega, by go_num, below_trans' HB.out HB1.out, any_next hkn Hb.out (by rw [Hx.out]; exact Hq.out)⟩
        case measure => simp [intOf]; omega
    · have HB := Lib.hid hB
      have Hb := Lib.hid hb
      clear hB hb hp hl hd
      go_wp2
      go_ret
      exact Ret.mk ⟨⟨_, rfl, any_miss hkn Hb.out⟩, HB.out⟩

set_option maxHeartbeats 400000 in
theorem containsFuncI_any (A : Option Addr) (cap : Nat) (l : List (Int)) (g : Nat) (fst cpt : Array Value) (dom : Int → Prop) (p : Int → Bool) (w : World) (hl : IntsAt w A l) (hn : l.length ≤ 100000)
    (hd : ∀ x ∈ l, dom x) (eg : ∀ args W, (callFunc g args).run Try.prog W = .ok (.enter g args) W) (hp : Asks w g fst cpt vI dom p) :
    Calls Try.prog 56 #[.slice A l.length cap, .func (.func g) fst cpt] w (Ret fun v w' => v = .bool (l.any p) ∧ Below w.heap.size w w') := by
  go_enter Try.func56, Try.ntmps56
  have Hl := Lib.hid hl
  have Hd := Lib.hid hd
  have Hp := Lib.hid hp
  clear hl hd hp
  go_wp2_with fail
  refine (indexFuncI_any _ _ l g fst cpt dom p _ Hl.out hn Hd.out eg Hp.out).mono ?_
  rintro e w1 ⟨v, rfl, ⟨r, rfl, hr⟩, hB1⟩
  have Hr := Lib.hid hr; clear hr
  have HB1 := Lib.hid hB1; clear hB1
  go_wp2
  go_ret
  exact Ret.mk ⟨by rw [Hr.out]; rfl, HB1.out⟩
end Go.Proofs.Ytkjmeeggjmeajaa
