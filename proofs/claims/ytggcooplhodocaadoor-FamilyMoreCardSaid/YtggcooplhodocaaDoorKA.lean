/- The example's book and prices. The contracts at the example's book. Works. -/
import Derived.Test.YtggcooplhodocaaDoorK9
import Derived.Test.YtggcooplhodocaaDoorP0
namespace Go.Proofs.YtggcooplhodocaaDoor
open Go.RowKit Go.Shelf Go.Maps Fam

set_option maxRecDepth 100000 in
set_option maxHeartbeats 1000000 in
theorem book_any (w : World) : Calls Tryd.prog 31 #[] w (Ret fun v w' => (∃ b, v = vBook 4 0 (some ⟨b, 0, none⟩) 6 6 ∧ StepsAt w' (some ⟨b, 0, none⟩) bookF) ∧ Below w.heap.size w w') := by
  have hli := step_any
  unfold vT at hli
  have Hli := Lib.hid hli; clear hli
  go_enter Tryd.func31, Tryd.ntmps31
  go_wp2_with fail
  refine (Hli.out _ _ _ _).mono ?_
  rintro e w1 ⟨v, rfl, rfl, hB1⟩
  have HB1 := Lib.hid (below_alloc_of (Below.refl _ _) hB1)
  have HY := Lib.hid (blk_below hB1 (heap_alloc_new w _)); clear hB1
  go_wp2_with fail
  refine (Hli.out _ _ _ _).mono ?_
  rintro e w2 ⟨v, rfl, rfl, hB2⟩
  have HB2 := Lib.hid (below_trans' HB1.out hB2); replace HY := Lib.hid (blk_below hB2 HY.out); clear hB2
  go_wp2_with fail
  refine (Hli.out _ _ _ _).mono ?_
  rintro e w3 ⟨v, rfl, rfl, hB3⟩
  have HB3 := Lib.hid (below_trans' HB2.out hB3); replace HY := Lib.hid (blk_below hB3 HY.out); clear hB3
  go_wp2_with fail
  refine (Hli.out _ _ _ _).mono ?_
  rintro e w4 ⟨v, rfl, rfl, hB4⟩
  have HB4 := Lib.hid (below_trans' HB3.out hB4); replace HY := Lib.hid (blk_below hB4 HY.out); clear hB4
  go_wp2_with fail
  refine (Hli.out _ _ _ _).mono ?_
  rintro e w5 ⟨v, rfl, rfl, hB5⟩
  have HB5 := Lib.hid (below_trans' HB4.out hB5); replace HY := Lib.hid (blk_below hB5 HY.out); clear hB5
  go_wp2_with fail
  refine (Hli.out _ _ _ _).mono ?_
  rintro e w6 ⟨v, rfl, rfl, hB6⟩
  have HB6 := Lib.hid (below_trans' HB5.out hB6); replace HY := Lib.hid (blk_below hB6 HY.out); clear hB6
  have hlt := HB6.out.size
  obtain ⟨W, hW⟩ : ∃ W, W = w6.alloc (.cells #[.int .i64 0, .int .i64 1, .int .i64 5, .int .i64 0, .int .i64 2, .int .i64 4, .int .i64 1, .int .i64 2, .int .i64 1, .int .i64 2, .int .i64 1, .int .i64 2, .int .i64 2, .int .i64 3, .int .i64 3, .int .i64 1, .int .i64 3, .int .i64 4] 50) := ⟨_, rfl⟩
  have HR := Lib.hid (rows_new encT_len w6 bookF #[.int .i64 0, .int .i64 1, .int .i64 5, .int .i64 0, .int .i64 2, .int .i64 4, .int .i64 1, .int .i64 2, .int .i64 1, .int .i64 2, .int .i64 1, .int .i64 2, .int .i64 2, .int .i64 3, .int .i64 3, .int .i64 1, .int .i64 3, .int .i64 4] 50 rfl)
  have hy := blk_alloc HY.out (.cells #[.int .i64 0, .int .i64 1, .int .i64 5, .int .i64 0, .int .i64 2, .int .i64 4, .int .i64 1, .int .i64 2, .int .i64 1, .int .i64 2, .int .i64 1, .int .i64 2, .int .i64 2, .int .i64 3, .int .i64 3, .int .i64 1, .int .i64 3, .int .i64 4] 50)
  have hb6 := blk_lt HY.out
  have c0 := (blk_cell (i := 0) hy).trans rfl
  have c1 := (blk_cell (i := 1) hy).trans rfl
  have c2 := (blk_cell (i := 2) hy).trans rfl
  have f0 := blk_frozen (i := 0) hy
  have f1 := blk_frozen (i := 1) hy
  have f2 := blk_frozen (i := 2) hy
  clear hy hW hb6
  go_wp2
  have hF := Lib.hid (blk_set (i := 2) (blk_set (i := 1) (blk_set (i := 0) (blk_alloc HY.out (.cells #[.int .i64 0, .int .i64 1, .int .i64 5, .int .i64 0, .int .i64 2, .int .i64 4, .int .i64 1, .int .i64 2, .int .i64 1, .int .i64 2, .int .i64 1, .int .i64 2, .int .i64 2, .int .i64 3, .int .i64 3, .int .i64 1, .int .i64 3, .int .i64 4] 50)) (.int .i64 4)) (.int .i64 0)) (.slice (some ⟨w6.heap.size, 0, none⟩) 6 6))
  have hBF := Lib.hid ((((below_alloc' HB6.out (.cells #[.int .i64 0, .int .i64 1, .int .i64 5, .int .i64 0, .int .i64 2, .int .i64 4, .int .i64 1, .int .i64 2, .int .i64 1, .int .i64 2, .int .i64 1, .int .i64 2, .int .i64 2, .int .i64 3, .int .i64 3, .int .i64 1, .int .i64 3, .int .i64 4] 50)).setCell (p := ⟨w.heap.size, 0, none⟩) (Nat.le_refl _) (.int .i64 4)).setCell (p := ⟨w.heap.size, 1, none⟩) (Nat.le_refl _) (.int .i64 0)).setCell (p := ⟨w.heap.size, 2, none⟩) (Nat.le_refl _) (.slice (some ⟨w6.heap.size, 0, none⟩) 6 6))
  have hne : w6.heap.size ≠ w.heap.size := fun e => by have := blk_lt HY.out; omega
  have hRF := Lib.hid (((HR.out.far (p := ⟨w.heap.size, 0, none⟩) hne (.int .i64 4)).far (p := ⟨w.heap.size, 1, none⟩) hne (.int .i64 0)).far (p := ⟨w.heap.size, 2, none⟩) hne (.slice (some ⟨w6.heap.size, 0, none⟩) 6 6))
  clear c0 c1 c2 f0 f1 f2 HR
  generalize (World.setCell _ _ _) = V at hF hBF hRF ⊢
  have e0 := (blk_cell (i := 0) hF.out).trans rfl
  have e1 := (blk_cell (i := 1) hF.out).trans rfl
  have e2 := (blk_cell (i := 2) hF.out).trans rfl
  exact bodyPost_ret (v := vBook 4 0 (some ⟨w6.heap.size, 0, none⟩) 6 6) (by simp [vBook, results, Tryd.results31, go_sem, e0, e1, e2]) rfl (Ret.mk ⟨⟨_, rfl, hRF.out⟩, hBF.out⟩)
theorem ints_at1 {w w' : World} (x : Int) (h : Below (w.heap.size + 1) (w.alloc (.cells #[.int .i64 x] 3)) w') : IntsAt w' (some ⟨w.heap.size, 0, none⟩) [x] := by
  have h1 := ints_new1 w x 3
  refine h1.below ?_
  rw [World.size_alloc]; exact h
set_option maxRecDepth 100000 in
set_option maxHeartbeats 1000000 in
theorem lprices_any (x : Int) (w : World) : Calls Tryd.prog 32 #[.int .i64 x] w (Ret fun v w' => (∃ b, v = .slice (some ⟨b, 0, none⟩) 4 4 ∧ PsAt w' (some ⟨b, 0, none⟩) (pricesF x)) ∧ Below w.heap.size w w') := by
  obtain ⟨w1, hw1⟩ : ∃ w1, w1 = w.alloc (.cells #[.int .i64 1] 3) := ⟨_, rfl⟩
  obtain ⟨w2, hw2⟩ : ∃ w2, w2 = w1.alloc (.cells #[.int .i64 2] 3) := ⟨_, rfl⟩
  obtain ⟨w3, hw3⟩ : ∃ w3, w3 = w2.alloc (.cells #[.int .i64 3] 3) := ⟨_, rfl⟩
  obtain ⟨w4, hw4⟩ : ∃ w4, w4 = w3.alloc (.cells #[.int .i64 1, .int .i64 2] 3) := ⟨_, rfl⟩
  have z1 : w1.heap.size = w.heap.size + 1 := by rw [hw1, World.size_alloc]
  have z2 : w2.heap.size = w.heap.size + 2 := by rw [hw2, World.size_alloc, z1]
  have z3 : w3.heap.size = w.heap.size + 3 := by rw [hw3, World.size_alloc, z2]
  have z4 : w4.heap.size = w.heap.size + 4 := by rw [hw4, World.size_alloc, z3]
  obtain ⟨w5, hw5⟩ : ∃ w5, w5 = w4.alloc (.cells #[.slice (some ⟨w.heap.size, 0, none⟩) 1 1, .int .i64 2, .slice (some ⟨w.heap.size + 1, 0, none⟩) 1 1, .int .i64 1, .slice (some ⟨w.heap.size + 2, 0, none⟩) 1 1, .int .i64 3, .slice (some ⟨w.heap.size + 3, 0, none⟩) 2 2, .int .i64 x] 38) := ⟨_, rfl⟩
  have b5 : Below w4.heap.size w4 w5 := by rw [hw5]; exact below_alloc' (Below.refl _ _) _
  have b4 : Below w3.heap.size w3 w5 := below_trans' (by rw [hw4]; exact below_alloc' (Below.refl _ _) _) b5
  have b3 : Below w2.heap.size w2 w5 := below_trans' (by rw [hw3]; exact below_alloc' (Below.refl _ _) _) b4
  have b2 : Below w1.heap.size w1 w5 := below_trans' (by rw [hw2]; exact below_alloc' (Below.refl _ _) _) b3
  have b1 : Below w.heap.size w w5 := below_trans' (by rw [hw1]; exact below_alloc' (Below.refl _ _) _) b2
  have i1 : IntsAt w5 (some ⟨w.heap.size, 0, none⟩) [1] := IntsAt.below (by rw [hw1]; exact ints_new1 w 1 3) b2
  have i2 : IntsAt w5 (some ⟨w.heap.size + 1, 0, none⟩) [2] := IntsAt.below (by rw [hw2, ← z1]; exact ints_new1 w1 2 3) b3
  have i3 : IntsAt w5 (some ⟨w.heap.size + 2, 0, none⟩) [3] := IntsAt.below (by rw [hw3, ← z2]; exact ints_new1 w2 3 3) b4
  have i4 : IntsAt w5 (some ⟨w.heap.size + 3, 0, none⟩) [1, 2] := IntsAt.below (by rw [hw4, ← z3]; exact rows_new encI_len w3 [1, 2] _ _ rfl) b5
  have hP : PsAt w5 (some ⟨w.heap.size + 4, 0, none⟩) (pricesF x) := by
    refine ⟨[(some ⟨w.heap.size, 0, none⟩, 1, 1, 2), (some ⟨w.heap.size + 1, 0, none⟩, 1, 1, 1), (some ⟨w.heap.size + 2, 0, none⟩, 1, 1, 3), (some ⟨w.heap.size + 3, 0, none⟩, 2, 2, x)], ?_, rfl, fun i h h' => ?_⟩
    · rw [hw5, ← z4]; exact rows_new encQ_len w4 _ _ _ rfl
    · match i, h with
      | 0, _ => exact ⟨rfl, rfl, i1⟩
      | 1, _ => exact ⟨rfl, rfl, i2⟩
      | 2, _ => exact ⟨rfl, rfl, i3⟩
      | 3, _ => exact ⟨rfl, rfl, i4⟩
  have HP := Lib.hid hP
  have HB := Lib.hid b1
  have HW := Lib.hid hw5
  rw [hw4, hw3, hw2, hw1] at HW
  clear hP b1 b2 b3 b4 b5 i1 i2 i3 i4 z1 z2 z3 z4
  go_enter Tryd.func32, Tryd.ntmps32
  go_wp2
  go_ret
  refine Ret.mk' rfl ⟨⟨_, rfl, ?_⟩, ?_⟩
  · rw [← HW.out]; exact HP.out
  · rw [← HW.out]; exact HB.out
end Go.Proofs.YtggcooplhodocaaDoor

namespace Go.Proofs.YtggcooplhodocaaDoor
open Go.RowKit Go.Shelf Go.Maps Fam

theorem rise_len : ∀ (l : List Int) (a b : Int), l.Pairwise (· < ·) → (∀ x ∈ l, a ≤ x ∧ x < b) → a ≤ b → (l.length : Int) ≤ b - a
  | [], a, b, _, _, h => by simp; omega
  | x :: l, a, b, hp, hm, hab => by
    rw [List.pairwise_cons] at hp
    have h1 := hm x (by simp)
    have h2 := rise_len l (x + 1) b hp.2 (fun y hy => ⟨by have := hp.1 y hy; omega, (hm y (by simp [hy])).2⟩) (by omega)
    simp only [List.length_cons]
    omega
theorem prices_small {S R : Int} {l : List St} (h : BookOk S R l) {P : List Pc} (hp : (pricesV S R l P).2 = 0) : ∀ x ∈ P, x.1.length ≤ 16 := fun x hx => by
  have hg : grpOk S R x := by
    rcases Classical.em (grpOk S R x) with c | c
    · exact c
    · exfalso
      by_cases h40 : 40 < P.length
      · rw [pricesV_many h h40] at hp; cases hp
      · rw [pricesV_grp h (by omega) hx c] at hp; cases hp
  have h1 := rise_len x.1 0 S hg.2.2.2.2 (fun n hn => hg.2.2.2.1 n hn) (by have := h.dim; omega)
  have := h.dim
  omega
def bkV (b : Nat) : Value := .agg #[.int .i64 4, .int .i64 0, .slice (some ⟨b, 0, none⟩) 6 6]
theorem exTree (b : Nat) (t : List Int) (cs : Array Value) (ht : t.length = 4) (hc : cs.toList = t.flatMap encI) (W : World) (h : StepsAt W (some ⟨b, 0, none⟩) bookF) :
    Calls Tryd.prog 14 #[bkV b, .slice (some ⟨W.heap.size, 0, none⟩) 4 4] (W.alloc (.cells cs 3)) (Ret fun v w' => v = vP (treeV 4 0 bookF t) ∧ Below W.heap.size W w') := by
  have hal : Below W.heap.size W (W.alloc (.cells cs 3)) := below_alloc' (Below.refl _ _) _
  have hc := checkTree_any 4 0 (some ⟨b, 0, none⟩) (some ⟨W.heap.size, 0, none⟩) 6 4 bookF t (W.alloc (.cells cs 3)) (h.below hal) (rows_new encI_len W t cs _ hc) (by decide) (by omega)
  rw [ht] at hc
  refine Calls.mono hc ?_
  rintro e w' ⟨v, rfl, rfl, hb⟩
  exact Ret.mk ⟨rfl, below_trans' hal hb⟩
theorem exCheap (b : Nat) (W : World) (h : StepsAt W (some ⟨b, 0, none⟩) bookF) : Calls Tryd.prog 24 #[bkV b] W (Ret fun v w' => (∃ t G c, v = .tuple #[.slice G 4 c, .int .i64 9, .int .i64 0] ∧ IntsAt w' G t ∧ t.length = 4 ∧ treeV 4 0 bookF t = (9, 0)) ∧ Below W.heap.size W w') := by
  refine Calls.mono (cheapest_any 4 0 (some ⟨b, 0, none⟩) 6 bookF W h (by decide)) ?_
  rintro e w' ⟨v, rfl, hv, hb⟩
  rcases hv with ⟨h1, _⟩ | ⟨_, h2, _⟩ | ⟨_, t, G, c, rfl, h3, h4, h5, h6, h7, h8⟩
  · exact absurd errF h1
  · exact absurd fullF h2
  · have e9 := h8.uniq best9F
    have h5' : t.length = 4 := h5
    refine Ret.mk ⟨⟨t, G, c, by rw [e9, h5'], h6, h5', ?_⟩, hb⟩
    rw [treeV_val okF h7, e9]
theorem exPrices (b : Nat) (W : World) (h : StepsAt W (some ⟨b, 0, none⟩) bookF) (hT : Tab W) : Calls Tryd.prog 23 #[bkV b] W (Ret fun v w' => (∃ P B c, v = .tuple #[.slice B P.length c, .int .i64 0] ∧ PsAt w' B P ∧ pricesV 4 0 bookF P = (9, 0)) ∧ Below W.heap.size W w') := by
  refine Calls.mono (prices_any 4 0 (some ⟨b, 0, none⟩) 6 bookF W h (by decide) hT) ?_
  rintro e w' ⟨v, rfl, hv, hb⟩
  rcases hv with ⟨h1, _⟩ | ⟨_, h2, _⟩ | ⟨_, P, B, c, b', rfl, h3, h4, h5, h6⟩
  · exact absurd errF h1
  · exact absurd fullF h2
  · exact Ret.mk ⟨⟨P, B, c, rfl, h3, by rw [h6, h5.uniq best9F]⟩, hb⟩
theorem exCheckP (b b2 : Nat) (x : Int) (W : World) (h : StepsAt W (some ⟨b, 0, none⟩) bookF) (hP : PsAt W (some ⟨b2, 0, none⟩) (pricesF x)) :
    Calls Tryd.prog 21 #[bkV b, .slice (some ⟨b2, 0, none⟩) 4 4] W (Ret fun v w' => v = vP (pricesV 4 0 bookF (pricesF x)) ∧ Below W.heap.size W w') :=
  checkPrices_any 4 0 (some ⟨b, 0, none⟩) (some ⟨b2, 0, none⟩) 6 4 bookF (pricesF x) W h (by decide) hP (fun y hy => by
    unfold pricesF at hy
    simp only [List.mem_cons, List.not_mem_nil, or_false] at hy
    rcases hy with rfl | rfl | rfl | rfl <;> simp)
theorem exRTree (b : Nat) (t : List Int) (G : Option Addr) (c : Nat) (ht : t.length = 4) (W : World) (h : StepsAt W (some ⟨b, 0, none⟩) bookF) (hG : IntsAt W G t) :
    Calls Tryd.prog 15 #[bkV b, .slice G 4 c] W (Ret fun v w' => v = vP (treeV 4 0 bookF t) ∧ Below W.heap.size W w') := by
  have hc := rCheckTree_any 4 0 (some ⟨b, 0, none⟩) G 6 c bookF t W h hG (by decide) (by omega)
  rw [ht] at hc
  exact hc
theorem exRPrices (b : Nat) (P : List Pc) (B : Option Addr) (c : Nat) (W : World) (h : StepsAt W (some ⟨b, 0, none⟩) bookF) (hP : PsAt W B P) (hp : pricesV 4 0 bookF P = (9, 0)) :
    Calls Tryd.prog 22 #[bkV b, .slice B P.length c] W (Ret fun v w' => v = .tuple #[.int .i64 9, .int .i64 0] ∧ Below W.heap.size W w') := by
  have hc := rCheckPrices_any 4 0 (some ⟨b, 0, none⟩) B 6 c bookF P W h (by decide) hP (fun x hx => by have := prices_small okF (P := P) (by rw [hp]) x hx; omega)
  rw [hp] at hc
  exact hc
theorem exGrades (b : Nat) (W : World) (h : StepsAt W (some ⟨b, 0, none⟩) bookF) : Calls Tryd.prog 29 #[bkV b] W (Ret fun v w' => (∃ G c, v = .tuple #[.slice G 6 c, .int .i64 0] ∧ IntsAt w' G [1, 1, 1, 1, 2, 0]) ∧ Below W.heap.size W w') := by
  refine Calls.mono (grades_any 4 0 (some ⟨b, 0, none⟩) 6 bookF W h (by decide)) ?_
  rintro e w' ⟨v, rfl, hv, hb⟩
  rcases hv with ⟨h1, _⟩ | ⟨_, h2, _⟩ | ⟨_, _, g, G, c, rfl, h3, h4, h5⟩
  · exact absurd errF h1
  · exact absurd fullF h2
  · have h3' : g.length = 6 := h3
    obtain rfl := grades_eq h3' h5
    exact Ret.mk ⟨⟨G, c, rfl, h4⟩, hb⟩
theorem exMost (b : Nat) (W : World) (h : StepsAt W (some ⟨b, 0, none⟩) bookF) : Calls Tryd.prog 28 #[bkV b] W (Ret fun v w' => v = .tuple #[.int .i64 4, .int .i64 0] ∧ Below W.heap.size W w') := by
  refine Calls.mono (most_any 4 0 (some ⟨b, 0, none⟩) 6 bookF W h (by decide)) ?_
  rintro e w' ⟨v, rfl, ⟨m, e, rfl, hm⟩, hb⟩
  obtain ⟨rfl, rfl⟩ := hm.uniq mostQF
  exact Ret.mk ⟨rfl, hb⟩
theorem exLost (b : Nat) (W : World) (h : StepsAt W (some ⟨b, 0, none⟩) bookF) : Calls Tryd.prog 16 #[bkV b] W (Ret fun v w' => (∃ G c, v = .tuple #[.slice G 0 c, .int .i64 5]) ∧ Below W.heap.size W w') := by
  refine Calls.mono (lost_any 4 0 (some ⟨b, 0, none⟩) 6 bookF W h (by decide)) ?_
  rintro e w' ⟨v, rfl, hv, hb⟩
  rw [lostF] at hv
  obtain ⟨G, c, rfl, _⟩ := hv
  exact Ret.mk ⟨⟨G, c, rfl⟩, hb⟩
theorem RowsAt.drop {α : Type} {enc : α → List Value} {k : Nat} {w : World} {b off : Nat} {l : List α} (h : RowsAt enc k w (some ⟨b, off, none⟩) l) (n : Nat) : RowsAt enc k w (some ⟨b, off + n * k, none⟩) (l.drop n) := fun i hi => by
  have hi' : n + i < l.length := by simp at hi; omega
  obtain ⟨b', off', e, hc⟩ := h (n + i) hi'
  injection e with e
  injection e with e1 e2
  subst e1 e2
  refine ⟨b, off + n * k, rfl, fun j v hv => ?_⟩
  have := hc j v (by rw [List.getElem_drop] at hv; exact hv)
  rw [Nat.add_mul] at this
  rw [← this]; congr 2; omega
theorem exLess (b : Nat) (W : World) (h : StepsAt W (some ⟨b, 6, none⟩) (bookF.drop 2)) : Calls Tryd.prog 16 #[.agg #[.int .i64 4, .int .i64 0, .slice (some ⟨b, 6, none⟩) 4 4]] W (Ret fun v w' => (∃ G c, v = .tuple #[.slice G 3 c, .int .i64 0] ∧ IntsAt w' G [1, 2, 3]) ∧ Below W.heap.size W w') := by
  refine Calls.mono (lost_any 4 0 (some ⟨b, 6, none⟩) 4 (bookF.drop 2) W h (by decide)) ?_
  rintro e w' ⟨v, rfl, hv, hb⟩
  rw [lessF] at hv
  obtain ⟨G, c, rfl, h1, _⟩ := hv
  exact Ret.mk ⟨⟨G, c, rfl, h1⟩, hb⟩
theorem exInts (G : Option Addr) (c : Nat) (a b : List Int) (n m : Nat) (hn : a.length = n) (hm : b.length = m) (cs : Array Value) (hcs : cs.toList = b.flatMap encI) (W : World) (h : IntsAt W G a) (hn' : n ≤ 1000) (hm' : m ≤ 1000) :
    Calls Tryd.prog 20 #[.slice G n c, .slice (some ⟨W.heap.size, 0, none⟩) m m] (W.alloc (.cells cs 3)) (Ret fun v w' => v = .bool (decide (a = b)) ∧ Below W.heap.size W w') := by
  subst hn hm
  have hal : Below W.heap.size W (W.alloc (.cells cs 3)) := below_alloc' (Below.refl _ _) _
  refine (ints_any G (some ⟨W.heap.size, 0, none⟩) c b.length a b (W.alloc (.cells cs 3)) (h.below hal) (rows_new encI_len W b cs _ hcs) (by omega) (by omega)).mono ?_
  rintro e w' ⟨v, rfl, rfl, q, rfl⟩
  exact Ret.mk ⟨rfl, below_drewN hal q⟩
end Go.Proofs.YtggcooplhodocaaDoor

namespace Go.Proofs.YtggcooplhodocaaDoor
open Go.RowKit Go.Shelf Go.Maps Fam

set_option maxRecDepth 100000 in
set_option maxHeartbeats 8000000 in
theorem works_any (w : World) (hT : Tab w) : Calls Tryd.prog 13 #[] w (Ret fun v w' => v = .bool true ∧ Below w.heap.size w w') := by
  have HB0 := Lib.hid (Below.refl w.heap.size w)
  have HT := Lib.hid hT
  clear hT
  go_enter Tryd.func13, Tryd.ntmps13
  go_wp2_with fail
  refine (book_any w).mono ?_
  rintro e w1 ⟨v, rfl, ⟨b, rfl, hS⟩, hb⟩
  have HS := Lib.hid hS
  replace HT := Lib.hid (HT.out.below hb)
  have HB1 := Lib.hid hb
  clear hb hS HB0
  unfold vBook
  have hX := heap_alloc_new w1 (.cells #[.int .i64 4, .int .i64 0, .slice (some ⟨b, 0, none⟩) 6 6] 24)
  have hb := below_alloc' (Below.refl w1.heap.size w1) (.cells #[.int .i64 4, .int .i64 0, .slice (some ⟨b, 0, none⟩) 6 6] 24)
  go_upto_region 2 with fail
  have HB2 := Lib.hid (below_trans' HB1.out hb)
  replace HS := Lib.hid (HS.out.below hb)
  replace HT := Lib.hid (HT.out.below hb)
  clear hb HB1
  generalize w1.alloc (.cells #[.int .i64 4, .int .i64 0, .slice (some ⟨b, 0, none⟩) 6 6] 24) = w2 at *
  generalize w1.heap.size = X2 at *
  have y0 : w2.cell? ⟨X2, 0, none⟩ = some (.int .i64 4) := (blk_cell hX).trans rfl
  have y1 : w2.cell? ⟨X2, 1, none⟩ = some (.int .i64 0) := (blk_cell hX).trans rfl
  have y2 : w2.cell? ⟨X2, 2, none⟩ = some (.slice (some ⟨b, 0, none⟩) 6 6) := (blk_cell hX).trans rfl
  clear hX
  have Hc := Lib.hid (show Calls Tryd.prog 14 #[bkV b, _] _ _ from exTree b [-1, 0, 2, 4] #[.int .i64 (-1), .int .i64 0, .int .i64 2, .int .i64 4] rfl rfl w2 HS.out)
  go_wp2_with fail
  refine Hc.out.mono ?_
  rintro e w3 ⟨v, rfl, rfl, hb⟩
  have HB3 := Lib.hid (below_trans' HB2.out hb)
  replace HS := Lib.hid (HS.out.below hb)
  replace HT := Lib.hid (HT.out.below hb)
  replace y0 := cell_below hb y0
  replace y1 := cell_below hb y1
  replace y2 := cell_below hb y2
  clear hb Hc HB2
  rw [tree1F]
  unfold vP
  dsimp only
  have Hc := Lib.hid (exTree b [-1, 3, 2, 4] #[.int .i64 (-1), .int .i64 3, .int .i64 2, .int .i64 4] rfl rfl w3 HS.out)
  go_wp2_with fail
  refine Hc.out.mono ?_
  rintro e w4 ⟨v, rfl, rfl, hb⟩
  have HB4 := Lib.hid (below_trans' HB3.out hb)
  replace HS := Lib.hid (HS.out.below hb)
  replace HT := Lib.hid (HT.out.below hb)
  replace y0 := cell_below hb y0
  replace y1 := cell_below hb y1
  replace y2 := cell_below hb y2
  clear hb Hc HB3
  rw [tree2F]
  unfold vP
  dsimp only
  have Hc := Lib.hid (exCheap b w4 HS.out)
  go_wp2_with fail
  refine Hc.out.mono ?_
  rintro e w5 ⟨v, rfl, ⟨t, Gt, ct, rfl, hGt, htl, htv⟩, hb⟩
  have HB5 := Lib.hid (below_trans' HB4.out hb)
  replace HS := Lib.hid (HS.out.below hb)
  replace HT := Lib.hid (HT.out.below hb)
  replace y0 := cell_below hb y0
  replace y1 := cell_below hb y1
  replace y2 := cell_below hb y2
  clear hb Hc HB4
  have HGt := Lib.hid hGt
  have HTv := Lib.hid htv
  have HTl := Lib.hid htl
  clear hGt htv htl
  have Hc := Lib.hid (exPrices b w5 HS.out HT.out)
  go_wp2_with fail
  refine Hc.out.mono ?_
  rintro e w6 ⟨v, rfl, ⟨P, Bp, cp, rfl, hPs, hPv⟩, hb⟩
  have HB6 := Lib.hid (below_trans' HB5.out hb)
  replace HS := Lib.hid (HS.out.below hb)
  replace HT := Lib.hid (HT.out.below hb)
  replace HGt := Lib.hid (HGt.out.below hb)
  replace y0 := cell_below hb y0
  replace y1 := cell_below hb y1
  replace y2 := cell_below hb y2
  clear hb Hc HB5
  have HPs := Lib.hid hPs
  have HPv := Lib.hid hPv
  clear hPs hPv
  go_upto_region 6 with fail
  refine wp_region_held (S := fun W => W.cell? ⟨X2, 0, none⟩ = some (.int .i64 4) ∧ W.cell? ⟨X2, 1, none⟩ = some (.int .i64 0) ∧ W.cell? ⟨X2, 2, none⟩ = some (.slice (some ⟨b, 0, none⟩) 6 6)) (by kernel_rfl) ?_
  refine wpAnyH_take (i := 0) (v := ?_) rfl (by kernel_rfl) (by kernel_rfl) (by kernel_rfl) (fun _ _ _ h => h) (Or.inl ⟨by rfl, ?_⟩) ⟨y0, y1, y2⟩ ?_
  rotate_left 1
  · intro W hW; obtain ⟨s0, s1, s2⟩ := hW; go_simp <;> with_reducible rfl
  simp only [Act.put, List.setIfInBounds_toArray]
  refine wpAnyH_ready (rs := [1]) (by kernel_rfl) (by simp) ?_
  refine AllReadyH.cons rfl (fun K hK => ?_) AllReadyH.nil
  go_simp
  refine (lprices_any 3 w6.drew).mono ?_
  rintro e V1 ⟨v, rfl, ⟨b6, rfl, hP6⟩, hb⟩
  have hb1 : Below w6.heap.size w6 V1 := (show Below w6.heap.size w6 w6.drew from (Below.refl _ _).drew).trans hb
  refine hK.out _ _ ⟨cell_below hb1 y0, cell_below hb1 y1, cell_below hb1 y2⟩ (fun _ => ?_)
  clear hK K
  have Hc := Lib.hid (exCheckP b b6 3 V1 (HS.out.below hb1) hP6)
  refine wpAnyH_ready (rs := [2]) (by kernel_rfl) (by simp) ?_
  refine AllReadyH.cons rfl (fun K hK => ?_) AllReadyH.nil
  go_simp
  refine Hc.out.mono ?_
  rintro e w7 ⟨v, rfl, rfl, hb2⟩
  rw [prices3F]
  unfold vP
  have hb3 := below_trans' hb1 hb2
  have HB7 := Lib.hid (below_trans' HB6.out hb3)
  replace HS := Lib.hid (HS.out.below hb3)
  replace HT := Lib.hid (HT.out.below hb3)
  replace HGt := Lib.hid (HGt.out.below hb3)
  replace HPs := Lib.hid (HPs.out.below hb3)
  replace y0 := cell_below hb3 y0
  replace y1 := cell_below hb3 y1
  replace y2 := cell_below hb3 y2
  refine hK.out _ _ ⟨y0, y1, y2⟩ (fun _ => ?_)
  clear hK K Hc hP6 hb hb1 hb2 hb3 HB6
  refine wpAnyH_take (i := 3) (v := ?_) rfl (by kernel_rfl) (by kernel_rfl) (by kernel_rfl) (fun _ _ _ h => h) (Or.inl ⟨by rfl, ?_⟩) ⟨y0, y1, y2⟩ ?_
  rotate_left 1
  · intro W hW; obtain ⟨s0, s1, s2⟩ := hW; go_simp <;> with_reducible rfl
  refine wpAnyH_take (i := 4) (v := ?_) rfl (by kernel_rfl) (by kernel_rfl) (by kernel_rfl) (fun _ _ _ h => h) (Or.inl ⟨by rfl, ?_⟩) ⟨y0, y1, y2⟩ ?_
  rotate_left 1
  · intro W hW; obtain ⟨s0, s1, s2⟩ := hW; go_simp <;> with_reducible rfl
  refine wpAnyH_take (i := 5) (v := ?_) rfl (by kernel_rfl) (by kernel_rfl) (by kernel_rfl) (fun _ _ _ h => h) (Or.inl ⟨by rfl, ?_⟩) ⟨y0, y1, y2⟩ ?_
  rotate_left 1
  · intro W hW; obtain ⟨s0, s1, s2⟩ := hW; go_simp <;> with_reducible rfl
  refine wpAnyH_take (i := 6) (v := ?_) rfl (by kernel_rfl) (by kernel_rfl) (by kernel_rfl) (fun _ _ _ h => h) (Or.inl ⟨by rfl, ?_⟩) ⟨y0, y1, y2⟩ ?_
  rotate_left 1
  · intro W hW; obtain ⟨s0, s1, s2⟩ := hW; go_simp <;> with_reducible rfl
  refine wpAnyH_take (i := 7) (v := ?_) rfl (by kernel_rfl) (by kernel_rfl) (by kernel_rfl) (fun _ _ _ h => h) (Or.inl ⟨by rfl, ?_⟩) ⟨y0, y1, y2⟩ ?_
  rotate_left 1
  · intro W hW; obtain ⟨s0, s1, s2⟩ := hW; go_simp <;> with_reducible rfl
  simp only [Act.put, List.setIfInBounds_toArray]
  refine wpAnyH_done (by kernel_rfl) ?_ _
  go_simp
  go_upto_region 7 with fail
  refine wp_region_held (S := fun W => W.cell? ⟨X2, 0, none⟩ = some (.int .i64 4) ∧ W.cell? ⟨X2, 1, none⟩ = some (.int .i64 0) ∧ W.cell? ⟨X2, 2, none⟩ = some (.slice (some ⟨b, 0, none⟩) 6 6)) (by kernel_rfl) ?_
  refine wpAnyH_take (i := 0) (v := ?_) rfl (by kernel_rfl) (by kernel_rfl) (by kernel_rfl) (fun _ _ _ h => h) (Or.inl ⟨by rfl, ?_⟩) ⟨y0, y1, y2⟩ ?_
  rotate_left 1
  · intro W hW; obtain ⟨s0, s1, s2⟩ := hW; go_simp <;> with_reducible rfl
  simp only [Act.put, List.setIfInBounds_toArray]
  refine wpAnyH_ready (rs := [1]) (by kernel_rfl) (by simp) ?_
  refine AllReadyH.cons rfl (fun K hK => ?_) AllReadyH.nil
  go_simp
  refine (lprices_any 4 w7.drew).mono ?_
  rintro e V1 ⟨v, rfl, ⟨b6, rfl, hP6⟩, hb⟩
  have hb1 : Below w7.heap.size w7 V1 := (show Below w7.heap.size w7 w7.drew from (Below.refl _ _).drew).trans hb
  refine hK.out _ _ ⟨cell_below hb1 y0, cell_below hb1 y1, cell_below hb1 y2⟩ (fun _ => ?_)
  clear hK K
  have Hc := Lib.hid (exCheckP b b6 4 V1 (HS.out.below hb1) hP6)
  refine wpAnyH_ready (rs := [2]) (by kernel_rfl) (by simp) ?_
  refine AllReadyH.cons rfl (fun K hK => ?_) AllReadyH.nil
  go_simp
  refine Hc.out.mono ?_
  rintro e w8 ⟨v, rfl, rfl, hb2⟩
  rw [prices4F]
  unfold vP
  have hb3 := below_trans' hb1 hb2
  have HB8 := Lib.hid (below_trans' HB7.out hb3)
  replace HS := Lib.hid (HS.out.below hb3)
  replace HT := Lib.hid (HT.out.below hb3)
  replace HGt := Lib.hid (HGt.out.below hb3)
  replace HPs := Lib.hid (HPs.out.below hb3)
  replace y0 := cell_below hb3 y0
  replace y1 := cell_below hb3 y1
  replace y2 := cell_below hb3 y2
  refine hK.out _ _ ⟨y0, y1, y2⟩ (fun _ => ?_)
  clear hK K Hc hP6 hb hb1 hb2 hb3 HB7
  refine wpAnyH_take (i := 3) (v := ?_) rfl (by kernel_rfl) (by kernel_rfl) (by kernel_rfl) (fun _ _ _ h => h) (Or.inl ⟨by rfl, ?_⟩) ⟨y0, y1, y2⟩ ?_
  rotate_left 1
  · intro W hW; obtain ⟨s0, s1, s2⟩ := hW; go_simp <;> with_reducible rfl
  refine wpAnyH_take (i := 4) (v := ?_) rfl (by kernel_rfl) (by kernel_rfl) (by kernel_rfl) (fun _ _ _ h => h) (Or.inl ⟨by rfl, ?_⟩) ⟨y0, y1, y2⟩ ?_
  rotate_left 1
  · intro W hW; obtain ⟨s0, s1, s2⟩ := hW; go_simp <;> with_reducible rfl
  refine wpAnyH_take (i := 5) (v := ?_) rfl (by kernel_rfl) (by kernel_rfl) (by kernel_rfl) (fun _ _ _ h => h) (Or.inl ⟨by rfl, ?_⟩) ⟨y0, y1, y2⟩ ?_
  rotate_left 1
  · intro W hW; obtain ⟨s0, s1, s2⟩ := hW; go_simp <;> with_reducible rfl
  refine wpAnyH_take (i := 6) (v := ?_) rfl (by kernel_rfl) (by kernel_rfl) (by kernel_rfl) (fun _ _ _ h => h) (Or.inl ⟨by rfl, ?_⟩) ⟨y0, y1, y2⟩ ?_
  rotate_left 1
  · intro W hW; obtain ⟨s0, s1, s2⟩ := hW; go_simp <;> with_reducible rfl
  refine wpAnyH_take (i := 7) (v := ?_) rfl (by kernel_rfl) (by kernel_rfl) (by kernel_rfl) (fun _ _ _ h => h) (Or.inl ⟨by rfl, ?_⟩) ⟨y0, y1, y2⟩ ?_
  rotate_left 1
  · intro W hW; obtain ⟨s0, s1, s2⟩ := hW; go_simp <;> with_reducible rfl
  simp only [Act.put, List.setIfInBounds_toArray]
  refine wpAnyH_done (by kernel_rfl) ?_ _
  go_simp
  have Hc := Lib.hid (exGrades b w8 HS.out)
  go_wp2_with fail
  refine Hc.out.mono ?_
  rintro e w9 ⟨v, rfl, ⟨Gg, cg, rfl, hGg⟩, hb⟩
  have HB9 := Lib.hid (below_trans' HB8.out hb)
  replace HS := Lib.hid (HS.out.below hb)
  replace HT := Lib.hid (HT.out.below hb)
  replace HGt := Lib.hid (HGt.out.below hb)
  replace HPs := Lib.hid (HPs.out.below hb)
  replace y0 := cell_below hb y0
  replace y1 := cell_below hb y1
  replace y2 := cell_below hb y2
  clear hb Hc HB8
  have HGg := Lib.hid hGg
  clear hGg
  have Hc := Lib.hid (exMost b w9 HS.out)
  go_wp2_with fail
  refine Hc.out.mono ?_
  rintro e w10 ⟨v, rfl, rfl, hb⟩
  have HB10 := Lib.hid (below_trans' HB9.out hb)
  replace HS := Lib.hid (HS.out.below hb)
  replace HT := Lib.hid (HT.out.below hb)
  replace HGt := Lib.hid (HGt.out.below hb)
  replace HPs := Lib.hid (HPs.out.below hb)
  replace HGg := Lib.hid (HGg.out.below hb)
  replace y0 := cell_below hb y0
  replace y1 := cell_below hb y1
  replace y2 := cell_below hb y2
  clear hb Hc HB9
  have Hc := Lib.hid (exLost b w10 HS.out)
  go_wp2_with fail
  refine Hc.out.mono ?_
  rintro e w11 ⟨v, rfl, ⟨Gl, cl, rfl⟩, hb⟩
  have HB11 := Lib.hid (below_trans' HB10.out hb)
  replace HS := Lib.hid (HS.out.below hb)
  replace HT := Lib.hid (HT.out.below hb)
  replace HGt := Lib.hid (HGt.out.below hb)
  replace HPs := Lib.hid (HPs.out.below hb)
  replace HGg := Lib.hid (HGg.out.below hb)
  replace y0 := cell_below hb y0
  replace y1 := cell_below hb y1
  replace y2 := cell_below hb y2
  clear hb Hc HB10
  have hX := heap_alloc_new w11 (.cells #[.int .i64 4, .int .i64 0, .slice (some ⟨b, 6, none⟩) 4 4] 24)
  have hX1 := heap_alloc_new w11 (.cells #[.int .i64 4, .int .i64 0, .slice (some ⟨b, 0, none⟩) 6 6] 24)
  have hb := below_alloc' (Below.refl w11.heap.size w11) (.cells #[.int .i64 4, .int .i64 0, .slice (some ⟨b, 6, none⟩) 4 4] 24)
  have z2 := (blk_cell (i := 2) hX1).trans rfl
  have f2 := blk_frozen (i := 2) hX1
  have y2a := cell_alloc y2 (.cells #[.int .i64 4, .int .i64 0, .slice (some ⟨b, 0, none⟩) 6 6] 24)
  go_upto_region 13 with fail
  clear z2 f2 y2a hX1
  have HB12 := Lib.hid (below_trans' HB11.out hb)
  replace HS := Lib.hid (HS.out.below hb)
  replace HT := Lib.hid (HT.out.below hb)
  replace HGt := Lib.hid (HGt.out.below hb)
  replace HPs := Lib.hid (HPs.out.below hb)
  replace HGg := Lib.hid (HGg.out.below hb)
  replace y0 := cell_below hb y0
  replace y1 := cell_below hb y1
  replace y2 := cell_below hb y2
  clear hb HB11
  generalize w11.alloc (.cells #[.int .i64 4, .int .i64 0, .slice (some ⟨b, 6, none⟩) 4 4] 24) = w12 at *
  generalize w11.heap.size = X12 at *
  have z0 : w12.cell? ⟨X12, 0, none⟩ = some (.int .i64 4) := (blk_cell hX).trans rfl
  have z1 : w12.cell? ⟨X12, 1, none⟩ = some (.int .i64 0) := (blk_cell hX).trans rfl
  have z2 : w12.cell? ⟨X12, 2, none⟩ = some (.slice (some ⟨b, 6, none⟩) 4 4) := (blk_cell hX).trans rfl
  clear hX
  have HL := Lib.hid (RowsAt.drop HS.out 2)
  have Hc := Lib.hid (show Calls Tryd.prog 16 #[.agg #[.int .i64 4, .int .i64 0, .slice (some ⟨b, 6, none⟩) 4 4]] _ _ from exLess b w12 HL.out)
  go_wp2_with fail
  refine Hc.out.mono ?_
  rintro e w13 ⟨v, rfl, ⟨Gm, cm, rfl, hGm⟩, hb⟩
  have HB13 := Lib.hid (below_trans' HB12.out hb)
  replace HS := Lib.hid (HS.out.below hb)
  replace HT := Lib.hid (HT.out.below hb)
  replace HGt := Lib.hid (HGt.out.below hb)
  replace HPs := Lib.hid (HPs.out.below hb)
  replace HGg := Lib.hid (HGg.out.below hb)
  replace y0 := cell_below hb y0
  replace y1 := cell_below hb y1
  replace y2 := cell_below hb y2
  clear hb Hc HB12
  have HGm := Lib.hid hGm
  clear hGm HL z0 z1 z2
  have Hc := Lib.hid (exRTree b t Gt ct HTl.out w13 HS.out HGt.out)
  go_wp2_with fail
  refine Hc.out.mono ?_
  rintro e w14 ⟨v, rfl, rfl, hb⟩
  have HB14 := Lib.hid (below_trans' HB13.out hb)
  replace HS := Lib.hid (HS.out.below hb)
  replace HT := Lib.hid (HT.out.below hb)
  replace HGt := Lib.hid (HGt.out.below hb)
  replace HPs := Lib.hid (HPs.out.below hb)
  replace HGg := Lib.hid (HGg.out.below hb)
  replace HGm := Lib.hid (HGm.out.below hb)
  replace y0 := cell_below hb y0
  replace y1 := cell_below hb y1
  replace y2 := cell_below hb y2
  clear hb Hc HB13
  rw [HTv.out]
  unfold vP
  dsimp only
  have Hc := Lib.hid (exRPrices b P Bp cp w14 HS.out HPs.out HPv.out)
  go_wp2_with fail
  refine Hc.out.mono ?_
  rintro e w15 ⟨v, rfl, rfl, hb⟩
  have HB15 := Lib.hid (below_trans' HB14.out hb)
  replace HS := Lib.hid (HS.out.below hb)
  replace HT := Lib.hid (HT.out.below hb)
  replace HGt := Lib.hid (HGt.out.below hb)
  replace HPs := Lib.hid (HPs.out.below hb)
  replace HGg := Lib.hid (HGg.out.below hb)
  replace HGm := Lib.hid (HGm.out.below hb)
  replace y0 := cell_below hb y0
  replace y1 := cell_below hb y1
  replace y2 := cell_below hb y2
  clear hb Hc HB14
  have Hc := Lib.hid (exInts Gg cg [1, 1, 1, 1, 2, 0] [1, 1, 1, 1, 2, 0] 6 6 rfl rfl #[.int .i64 1, .int .i64 1, .int .i64 1, .int .i64 1, .int .i64 2, .int .i64 0] rfl w15 HGg.out (by omega) (by omega))
  go_wp2_with fail
  refine Hc.out.mono ?_
  rintro e w16 ⟨v, rfl, rfl, hb⟩
  have HB16 := Lib.hid (below_trans' HB15.out hb)
  replace HS := Lib.hid (HS.out.below hb)
  replace HT := Lib.hid (HT.out.below hb)
  replace HGt := Lib.hid (HGt.out.below hb)
  replace HPs := Lib.hid (HPs.out.below hb)
  replace HGg := Lib.hid (HGg.out.below hb)
  replace HGm := Lib.hid (HGm.out.below hb)
  replace y0 := cell_below hb y0
  replace y1 := cell_below hb y1
  replace y2 := cell_below hb y2
  clear hb Hc HB15
  have Hc := Lib.hid (exInts Gm cm [1, 2, 3] [1, 2, 3] 3 3 rfl rfl #[.int .i64 1, .int .i64 2, .int .i64 3] rfl w16 HGm.out (by omega) (by omega))
  go_wp2_with fail
  refine Hc.out.mono ?_
  rintro e w17 ⟨v, rfl, rfl, hb⟩
  have HB17 := Lib.hid (below_trans' HB16.out hb)
  replace HS := Lib.hid (HS.out.below hb)
  replace HT := Lib.hid (HT.out.below hb)
  replace HGt := Lib.hid (HGt.out.below hb)
  replace HPs := Lib.hid (HPs.out.below hb)
  replace HGg := Lib.hid (HGg.out.below hb)
  replace HGm := Lib.hid (HGm.out.below hb)
  replace y0 := cell_below hb y0
  replace y1 := cell_below hb y1
  replace y2 := cell_below hb y2
  clear hb Hc HB16
  go_wp2
  go_ret
  exact Ret.mk' rfl ⟨rfl, HB17.out⟩
end Go.Proofs.YtggcooplhodocaaDoor
