/- What the laws of the chapter rest on, part 37. -/
import Derived.Test.YtkpmmgeffbhngaaGreatDoorC14
import Derived.Test.YtkpmmgeffbhngaaGreatDoorC17
set_option linter.unusedSimpArgs false
set_option linter.unusedVariables false
set_option linter.unnecessarySimpa false
namespace Prot
end Prot
namespace Go.Shelf
end Go.Shelf
namespace Go.Maps
end Go.Maps
namespace Go.Proofs.YtkpmmgeffbhngaaGreatDoor
open Go.RowKit Go.Shelf Prot Go.Lib Go.Maps
set_option maxRecDepth 100000 in
theorem between_any (n lo hi : Int) (w : World) : Calls Tryz.prog 116 #[.int .i64 n, .int .i64 lo, .int .i64 hi] w (Ret fun v w' => v = .bool (decide (lo ≤ n ∧ n ≤ hi)) ∧ w' = w) := by
  by_cases h1 : lo ≤ n
  · have HV : Hid (decide (lo ≤ n ∧ n ≤ hi) = decide (n ≤ hi)) := Lib.hid (by rw [decide_eq_decide]; exact ⟨fun h => h.2, fun h => ⟨h1, h⟩⟩)
    have t1 : decide (n ≥ lo) = true := decide_eq_true h1
    have t2 : decide (lo ≤ n) = true := decide_eq_true h1
    clear h1
    go_enter Tryz.func116, Tryz.ntmps116
    go_wp2
    go_ret
    exact Ret.mk ⟨by rw [HV.out]; rfl, rfl⟩
  · have HV : Hid (decide (lo ≤ n ∧ n ≤ hi) = false) := Lib.hid (decide_eq_false fun h => h1 h.1)
    have t1 : decide (n ≥ lo) = false := decide_eq_false h1
    have t2 : decide (lo ≤ n) = false := decide_eq_false h1
    clear h1
    go_enter Tryz.func116, Tryz.ntmps116
    go_wp2
    go_ret
    exact Ret.mk ⟨by rw [HV.out]; rfl, rfl⟩
set_option maxRecDepth 100000 in
set_option maxHeartbeats 1000000 in
theorem checkItem_any (x : It) (w : World) : Calls Tryz.prog 78 #[vItem x] w (Ret fun v w' => v = .bool (okB x) ∧ Below w.heap.size w w') := by
  obtain ⟨a1, a2, a3, a4, a5, a6, a7⟩ := x
  have hX := heap_alloc_new w (.cells #[.int .i64 a1, .int .i64 a2, .int .i64 a3, .int .i64 a4, .int .i64 a5, .int .i64 a6, .bool a7] 67)
  have HB := Lib.hid (below_alloc' (Below.refl w.heap.size w) (.cells #[.int .i64 a1, .int .i64 a2, .int .i64 a3, .int .i64 a4, .int .i64 a5, .int .i64 a6, .bool a7] 67))
  have n0 := (blk_cell (i := 0) hX).trans rfl
  have n1 := (blk_cell (i := 1) hX).trans rfl
  have n2 := (blk_cell (i := 2) hX).trans rfl
  have n3 := (blk_cell (i := 3) hX).trans rfl
  have n4 := (blk_cell (i := 4) hX).trans rfl
  have n5 := (blk_cell (i := 5) hX).trans rfl
  clear hX
  unfold vItem
  dsimp only
  obtain ⟨c0, h0⟩ : ∃ c, decide ((1 : Int) ≤ a1 ∧ a1 ≤ 1099511627776) = c := ⟨_, rfl⟩
  have K0 := Lib.hid (between_any a1 1 1099511627776)
  rw [h0] at K0
  obtain ⟨c1, h1⟩ : ∃ c, decide ((1 : Int) ≤ a2 ∧ a2 ≤ 999) = c := ⟨_, rfl⟩
  have K1 := Lib.hid (between_any a2 1 999)
  rw [h1] at K1
  obtain ⟨c2, h2⟩ : ∃ c, decide ((1 : Int) ≤ a3 ∧ a3 ≤ 100000) = c := ⟨_, rfl⟩
  have K2 := Lib.hid (between_any a3 1 100000)
  rw [h2] at K2
  obtain ⟨c3, h3⟩ : ∃ c, decide ((1 : Int) ≤ a4 ∧ a4 ≤ 99) = c := ⟨_, rfl⟩
  have K3 := Lib.hid (between_any a4 1 99)
  rw [h3] at K3
  obtain ⟨c4, h4⟩ : ∃ c, decide ((1 : Int) ≤ a5 ∧ a5 ≤ 400) = c := ⟨_, rfl⟩
  have K4 := Lib.hid (between_any a5 1 400)
  rw [h4] at K4
  obtain ⟨c5, h5⟩ : ∃ c, decide ((0 : Int) ≤ a6 ∧ a6 ≤ 1099511627776) = c := ⟨_, rfl⟩
  have K5 := Lib.hid (between_any a6 0 1099511627776)
  rw [h5] at K5
  have HV : Hid (okB ⟨a1, a2, a3, a4, a5, a6, a7⟩ = (c0 && c1 && c2 && c3 && c4 && c5)) := Lib.hid (by rw [← h0, ← h1, ← h2, ← h3, ← h4, ← h5]; rfl)
  clear h0 h1 h2 h3 h4 h5
  go_enter Tryz.func78, Tryz.ntmps78
  go_wp2_with fail
  refine (K0.out _).mono ?_
  rintro _ w0 ⟨v, rfl, rfl, rfl⟩
  cases c0 with
  | false =>
    go_wp2
    go_ret
    exact Ret.mk ⟨by rw [HV.out]; simp, HB.out⟩
  | true =>
    go_wp2_with fail
    refine (K1.out _).mono ?_
    rintro _ w1 ⟨v, rfl, rfl, rfl⟩
    cases c1 with
    | false =>
      go_wp2
      go_ret
      exact Ret.mk ⟨by rw [HV.out]; simp, HB.out⟩
    | true =>
      go_wp2_with fail
      refine (K2.out _).mono ?_
      rintro _ w2 ⟨v, rfl, rfl, rfl⟩
      cases c2 with
      | false =>
        go_wp2
        go_ret
        exact Ret.mk ⟨by rw [HV.out]; simp, HB.out⟩
      | true =>
        go_wp2_with fail
        refine (K3.out _).mono ?_
        rintro _ w3 ⟨v, rfl, rfl, rfl⟩
        cases c3 with
        | false =>
          go_wp2
          go_ret
          exact Ret.mk ⟨by rw [HV.out]; simp, HB.out⟩
        | true =>
          go_wp2_with fail
          refine (K4.out _).mono ?_
          rintro _ w4 ⟨v, rfl, rfl, rfl⟩
          cases c4 with
          | false =>
            go_wp2
            go_ret
            exact Ret.mk ⟨by rw [HV.out]; simp, HB.out⟩
          | true =>
            go_wp2_with fail
            refine (K5.out _).mono ?_
            rintro _ w5 ⟨v, rfl, rfl, rfl⟩
            go_wp2
            go_ret
            exact Ret.mk ⟨by rw [HV.out]; simp, HB.out⟩
set_option maxRecDepth 100000 in
theorem List1_any (x : It) (w : World) : Calls Tryz.prog 77 #[vItem x] w (Ret fun v w' => v = .bool (!okB x) ∧ Below w.heap.size w w') := by
  have HC := Lib.hid (checkItem_any x)
  obtain ⟨a1, a2, a3, a4, a5, a6, a7⟩ := x
  have hX := heap_alloc_new w (.cells #[.int .i64 a1, .int .i64 a2, .int .i64 a3, .int .i64 a4, .int .i64 a5, .int .i64 a6, .bool a7] 67)
  have HB := Lib.hid (below_alloc' (Below.refl w.heap.size w) (.cells #[.int .i64 a1, .int .i64 a2, .int .i64 a3, .int .i64 a4, .int .i64 a5, .int .i64 a6, .bool a7] 67))
  have n0 := (blk_cell (i := 0) hX).trans rfl
  have n1 := (blk_cell (i := 1) hX).trans rfl
  have n2 := (blk_cell (i := 2) hX).trans rfl
  have n3 := (blk_cell (i := 3) hX).trans rfl
  have n4 := (blk_cell (i := 4) hX).trans rfl
  have n5 := (blk_cell (i := 5) hX).trans rfl
  have n6 := (blk_cell (i := 6) hX).trans rfl
  clear hX
  unfold vItem at HC ⊢
  dsimp only at HC ⊢
  generalize okB ⟨a1, a2, a3, a4, a5, a6, a7⟩ = c at *
  go_enter Tryz.func77, Tryz.ntmps77
  go_wp2_with fail
  refine (HC.out _).mono ?_
  rintro _ w1 ⟨v, rfl, rfl, hB1⟩
  have HB1 := Lib.hid (below_alloc_of (Below.refl _ _) hB1)
  clear hB1
  go_wp2
  go_ret
  exact Ret.mk ⟨rfl, HB1.out⟩
theorem enters77 : ∀ args w, (callFunc 77 args).run Tryz.prog w = .ok (.enter 77 args) w := fun args w => by simp [go_sem]
instance : Inhabited It := ⟨⟨0, 0, 0, 0, 0, 0, false⟩⟩
set_option maxRecDepth 100000 in
theorem index0_any (A : Option Addr) (c : Nat) (f : Value) (w : World) : Calls Tryz.prog 115 #[.slice A 0 c, f] w (Ret fun v w' => v = .int .i64 (-1) ∧ w' = w) := by
  go_enter Tryz.func115, Tryz.ntmps115
  go_wp2
  go_loopw [8] (fun i wr => i = .int .i64 0 ∧ wr = w) (fun _ _ => 0)
  case atStart => exact ⟨rfl, rfl⟩
  case round =>
    obtain ⟨rfl, rfl⟩ := hrel
    go_wp2
    go_ret
    exact Ret.mk ⟨rfl, rfl⟩
theorem containsBadI_any (A : Option Addr) (ca : Nat) (l : List It) (w : World) (hl : ItemsAt w A l) (hn : l.length ≤ 100000) :
    Calls Tryz.prog 76 #[.slice A l.length ca, .func (.func 77) #[] #[]] w (Ret fun v w' => v = .bool (l.any fun x => !okB x) ∧ Below w.heap.size w w') := by
  by_cases h0 : l.length = 0
  · have hl0 := List.length_eq_zero_iff.1 h0
    subst hl0
    have HI := Lib.hid (index0_any A ca (.func (.func 77) #[] #[]) w)
    go_enter Tryz.func76, Tryz.ntmps76
    go_wp2_with fail
    refine HI.out.mono ?_
    rintro _ w1 ⟨v, rfl, rfl, rfl⟩
    go_wp2
    go_ret
    exact Ret.mk ⟨rfl, Below.refl _ _⟩
  · obtain ⟨b, off, rfl, c0, -⟩ := hl.at_ (i := 0) (by omega)
    have hb := block_lt_of_cell c0
    refine (AnyQ.slices_ContainsFunc Tryz.laysHasI 7 (by intro w; kernel_rfl) (by intro w; kernel_rfl) encIt encIt_len (fun x => !okB x) 77 #[] enters77 b off l.length ca l w (fun W x hW => ?_) (Nat.le_refl _) (by omega) hb (fun j hj i v hv => ?_)).mono ?_
    · refine (List1_any x W).mono ?_
      rintro _ w' ⟨v, rfl, rfl, hB⟩
      exact ⟨rfl, below_trans' hW hB⟩
    · obtain ⟨b', off', e, hc⟩ := hl j hj
      injection e with e; injection e with e1 e2
      subst e1; subst e2
      rw [getElem!_pos l j hj] at hv
      exact hc i v hv
    · rintro _ w' ⟨rfl, hB⟩
      rw [List.take_length]
      exact Ret.mk ⟨rfl, hB⟩
end Go.Proofs.YtkpmmgeffbhngaaGreatDoor
