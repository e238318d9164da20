/- greatest, at best. -/
import Derived.Test.YtkjmeeggjmeajaaC5
namespace Go.Proofs.Ytkjmeeggjmeajaa
open Go.RowKit Go.Shelf

theorem most1_any (a b : Int) (w : World) : Calls Try.prog 68 #[.agg #[.int .i64 a, .int .i64 b]] w (Ret fun v w' => v = .int .i64 a ∧ Below w.heap.size w w') := by
  have p0 : (w.alloc (.cells #[.int .i64 a, .int .i64 b] 107)).cell? ⟨w.heap.size, 0, none⟩ = some (.int .i64 a) := new2_0 _ _ _ _
  have p1 : (w.alloc (.cells #[.int .i64 a, .int .i64 b] 107)).cell? ⟨w.heap.size, 1, none⟩ = some (.int .i64 b) := new2_1 _ _ _ _
  go_enter Try.func68, Try.ntmps68
  go_wp2
  go_ret
  exact Ret.mk' rfl ⟨rfl, below_alloc' (Below.refl _ _) _⟩
theorem enters68 : ∀ args W, (callFunc 68 args).run Try.prog W = .ok (.enter 68 args) W := fun args W => by simp [go_sem]
def grB (out : Rg) : List Rg → Rg
  | [] => out
  | x :: r => grB (if out.1 < x.1 then x else out) r
theorem grB_snoc (out x : Rg) (l : List Rg) : grB out (l ++ [x]) = if (grB out l).1 < x.1 then x else grB out l := by
  induction l generalizing out with
  | nil => rfl
  | cons y l ih => simp only [List.cons_append, grB]; exact ih _

theorem results67 {tmps : Array Value} {W : World} {b0 : Nat} {a b : Int} (h4 : tmps.getD 4 undef = .pointer (some ⟨b0, 0, none⟩)) (c0 : W.cell? ⟨b0, 0, none⟩ = some (.int .i64 a)) (c1 : W.cell? ⟨b0, 1, none⟩ = some (.int .i64 b)) :
    (results Try.f67 tmps).run Try.prog W = .ok (.agg #[.int .i64 a, .int .i64 b]) W := by
  have h4' : tmps[4]?.getD undef = .pointer (some ⟨b0, 0, none⟩) := by simpa using h4
  simp [results, Try.results67, h4', asAddr, go_sem, c0, c1]

set_option maxRecDepth 100000 in
set_option maxHeartbeats 1000000 in
theorem greatest_any (A : Option Addr) (ca : Nat) (x0 : Rg) (l : List Rg) (w : World) (hl : RowsAt encR 2 w A (x0 :: l)) (hn : l.length ≤ 1000) (hca : l.length + 1 ≤ ca) :
    Calls Try.prog 67 #[.slice A (l.length + 1) ca, .func (.func 68) #[] #[]] w (Ret fun v w' => v = vR (grB x0 l) ∧ Below w.heap.size w w') := by
  have Hl := Lib.hid hl; clear hl
  obtain ⟨b, o, rfl, p0, p1⟩ := RangesAt.at_ Hl.out (i := 0) (by simp)
  obtain ⟨x1, x2⟩ := x0
  simp only [List.getElem_cons_zero, Nat.zero_mul, Nat.add_zero] at p0 p1
  have hca1 : (1 : Int) ≤ (l.length : Int) + 1 := by omega
  have hca2 : (l.length : Int) + 1 ≤ (ca : Int) := by omega
  go_enter Try.func67, Try.ntmps67
  have hb := block_lt_of_cell p0
  have q0 : (w.alloc (.cells #[.int .i64 0, .int .i64 0] 107)).cell? ⟨b, o, none⟩ = some (.int .i64 x1) := cell_alloc p0 _
  have q1 : (w.alloc (.cells #[.int .i64 0, .int .i64 0] 107)).cell? ⟨b, o + 1, none⟩ = some (.int .i64 x2) := cell_alloc p1 _
  go_wp2
  all_goals
    have hs0 := heap_alloc_new w (.cells #[.int .i64 0, .int .i64 0] 107)
    have hs1 := heap_alloc_new (w.alloc (.cells #[.int .i64 0, .int .i64 0] 107)) (.cells #[.int .i64 x1, .int .i64 x2] 107)
    rw [World.size_alloc] at hs1
    replace hs0 := blk_alloc hs0 (.cells #[.int .i64 x1, .int .i64 x2] 107)
    have hB0 := below_alloc' (below_alloc' (Below.refl w.heap.size w) (.cells #[.int .i64 0, .int .i64 0] 107)) (.cells #[.int .i64 x1, .int .i64 x2] 107)
    have H0 := Lib.hid hs0
    have H1 := Lib.hid hs1
    have HB0 := Lib.hid hB0
    clear hs0 hs1 hB0 q0 q1
  all_goals
    go_loopw [14] (fun i wr => ∃ k : Nat, k ≤ l.length ∧ i = .int .i64 k ∧ wr.heap[w.heap.size]? = some (.cells #[.int .i64 0, .int .i64 0] 107 (0, 0)) ∧ wr.heap[w.heap.size + 1]? = some (.cells #[.int .i64 (grB (x1, x2) (l.take k)).1, .int .i64 (grB (x1, x2) (l.take k)).2] 107 (0, 0)) ∧ Below w.heap.size w wr) (fun i _ => l.length - (intOf i).toNat)
    case atStart => exact ⟨0, by omega, rfl, H0.out, H1.out, HB0.out⟩
    case round =>
      obtain ⟨k, hk, rfl, hs0, hs1, hB⟩ := hrel
      clear H0 H1 HB0
      have HB := Lib.hid hB; clear hB
      generalize hgr : grB (x1, x2) (l.take k) = out at hs1
      have Hgr := Lib.hid hgr; clear hgr
      obtain ⟨g1, g2⟩ := out
      dsimp only at hs1
      have e0 : wr.cell? ⟨w.heap.size + 1, 0, none⟩ = some (.int .i64 g1) := (blk_cell hs1).trans rfl
      have e1 : wr.cell? ⟨w.heap.size + 1, 1, none⟩ = some (.int .i64 g2) := (blk_cell hs1).trans rfl
      have f0 := blk_frozen (i := 0) hs1
      have f1 := blk_frozen (i := 1) hs1
      have c0 : wr.cell? ⟨w.heap.size, 0, none⟩ = some (.int .i64 0) := (blk_cell hs0).trans rfl
      have c1 : wr.cell? ⟨w.heap.size, 1, none⟩ = some (.int .i64 0) := (blk_cell hs0).trans rfl
      have d0 := blk_frozen (i := 0) hs0
      have d1 := blk_frozen (i := 1) hs0
      have Hs0 := Lib.hid hs0
      have Hs1 := Lib.hid hs1
      clear hs0 hs1
      have hsz := blk_lt Hs1.out
      by_cases hkn : k < l.length
      · first
          | (exfalso; omega)
          | (obtain ⟨b', o', hA, p2, p3⟩ := RangesAt.at_ (i := k + 1) (Hl.out.below HB.out) (by simp; omega)
             cases hA
             have htk := take_snoc hkn rfl
             simp only [List.getElem_cons_succ] at p2 p3
             generalize hx : l[k] = y at p2 p3 htk
             have Hx := Lib.hid hx
             have Htk := Lib.hid htk
             clear hx htk
             obtain ⟨y1, y2⟩ := y
             dsimp only at p2 p3
             rw [show o + (k + 1) * 2 = o + 2 + k * 2 by omega] at p2 p3
             have t0 : (wr.alloc (.cells #[.int .i64 y1, .int .i64 y2] 107)).cell? ⟨wr.heap.size, 0, none⟩ = some (.int .i64 y1) := new2_0 _ _ _ _
             have t1 : (wr.alloc (.cells #[.int .i64 y1, .int .i64 y2] 107)).cell? ⟨wr.heap.size, 1, none⟩ = some (.int .i64 y2) := new2_1 _ _ _ _
             have s0 : (wr.alloc (.cells #[.int .i64 y1, .int .i64 y2] 107)).cell? ⟨w.heap.size + 1, 0, none⟩ = some (.int .i64 g1) := cell_alloc e0 _
             have s1 : (wr.alloc (.cells #[.int .i64 y1, .int .i64 y2] 107)).cell? ⟨w.heap.size + 1, 1, none⟩ = some (.int .i64 g2) := cell_alloc e1 _
             have eg := enters68
             go_wp2
             have hT : wr.heap.size ≠ w.heap.size + 1 := by omega
             go_region_held3 (fun W => W.cell? ⟨wr.heap.size, 0, none⟩ = some (.int .i64 y1) ∧ W.cell? ⟨wr.heap.size, 1, none⟩ = some (.int .i64 y2) ∧ W.cell? ⟨w.heap.size + 1, 0, none⟩ = some (.int .i64 g1) ∧ W.cell? ⟨w.heap.size + 1, 1, none⟩ = some (.int .i64 g2))
               (first | exact ⟨t0, t1, s0, s1⟩ | exact ⟨cell_below hBx2 (cell_below hBx1 t0), cell_below hBx2 (cell_below hBx1 t1), cell_below hBx2 (cell_below hBx1 s0), cell_below hBx2 (cell_below hBx1 s1)⟩ | exact ⟨cell_below hBx1 t0, cell_below hBx1 t1, cell_below hBx1 s0, cell_below hBx1 s1⟩)
               (first | (go_at_call 68; have _hq := hBx1; refine (most1_any _ _ _).mono ?_; rintro e wx2 ⟨v2, rfl, rfl, hBx2⟩) | (go_at_call 68; refine (most1_any _ _ _).mono ?_; rintro e wx1 ⟨v1, rfl, rfl, hBx1⟩))
             have hBB : Below wr.heap.size wr wx2 := by
               first
                 | exact below_trans' (below_drew_of (below_alloc' (Below.refl _ _) _) hBx1) hBx2
                 | exact below_trans' (below_trans' (below_alloc' (Below.refl _ _) _) hBx1) hBx2
             have u0 := (hBB.block _ (by omega)).trans Hs0.out
             have u1 := (hBB.block _ hsz).trans Hs1.out
             have U0 := Lib.hid u0
             have U1 := Lib.hid u1
             have m0 : wx2.cell? ⟨w.heap.size + 1, 0, none⟩ = some (.int .i64 g1) := (blk_cell u1).trans rfl
             have m1 : wx2.cell? ⟨w.heap.size + 1, 1, none⟩ = some (.int .i64 g2) := (blk_cell u1).trans rfl
             have m2 := blk_frozen (i := 0) u1
             have m3 := blk_frozen (i := 1) u1
             have m4 : wx2.cell? ⟨wr.heap.size, 0, none⟩ = some (.int .i64 y1) := by first | exact cell_below hBx2 (cell_below hBx1 t0)
             have m5 : wx2.cell? ⟨wr.heap.size, 1, none⟩ = some (.int .i64 y2) := by first | exact cell_below hBx2 (cell_below hBx1 t1)
             have HBB := Lib.hid hBB
             have hstep : grB (x1, x2) (l.take (k + 1)) = if g1 < y1 then (y1, y2) else (g1, g2) := by rw [Htk.out, grB_snoc, Hgr.out]
             have Hstep := Lib.hid hstep
             clear u0 u1 hBB hBx1 hBx2 t0 t1 s0 s1 hstep p2 p3 e0 e1 f0 f1 c0 c1 d0 d1
             have eg2 := enters68
             by_cases hgt : g1 < y1
             · rw [if_pos hgt] at Hstep
               go_wp2
               go_roundw
               (case rel => exact ⟨k + 1, by omega, by go_num, blk_far (blk_far U0.out (by simp) _) (by simp) _, by rw [Hstep.out]; exact blk_set (i := 1) (blk_set (i := 0) U1.out (.int .i64 y1)) (.int .i64 y2), (((below_trans' HB.out HBB.out).setCell (by simp) _).setCell (by simp) _)⟩)
               (case measure => (simp [intOf]; omega))
             · rw [if_neg hgt] at Hstep
               go_wp2
               go_roundw
               (case rel => exact ⟨k + 1, by omega, by go_num, U0.out, by rw [Hstep.out]; exact U1.out, below_trans' HB.out HBB.out⟩)
               (case measure => (simp [intOf]; omega)))
      · have hkl : k = l.length := by omega
        subst hkl
        have hfin : (g1, g2) = grB (x1, x2) l := by rw [← Hgr.out, List.take_length]
        go_wp2
        refine bodyPost_ret (results67 rfl (two_cells c0 c1).1 (two_cells c0 c1).2) rfl (Ret.mk ⟨by rw [← hfin]; rfl, (HB.out.setCell (Nat.le_refl _) _).setCell (Nat.le_refl _) _⟩)
end Go.Proofs.Ytkjmeeggjmeajaa
