/- ListSheets. -/
import Derived.Test.YtoogfdicmpkkgaaA43
namespace Go.Proofs.Ytoogfdicmpkkgaa
open Go.RowKit Go.Shelf Go.Maps Match

/-- a sheet as a law is given it: of any length -/
structure ShIn (w : World) (s : Sh) : Prop where
  links : RangesAt w s.A s.l
  known : IntsAt w s.B s.t
  many : s.l.length ≤ 9223372036854775807
  few : s.t.length ≤ 9223372036854775807
  capA : s.l.length ≤ s.ca
  capA' : s.ca ≤ 9223372036854775807
  capB : s.t.length ≤ s.cb
theorem ShIn.below {w w' : World} {s : Sh} (h : ShIn w s) (hb : Below w.heap.size w w') : ShIn w' s := ⟨h.links.below hb, h.known.below hb, h.many, h.few, h.capA, h.capA', h.capB⟩
def greatC (s : Sh) : Bool := decide (50 < s.l.length) || decide (50 < s.t.length)
theorem ShIn.at {w : World} {s : Sh} (h : ShIn w s) (hg : greatC s = false) : ShAt w s := by
  unfold greatC at hg
  rw [Bool.or_eq_false_iff, decide_eq_false_iff_not, decide_eq_false_iff_not] at hg
  exact ⟨h.links, h.known, by omega, by omega, h.capA, h.capA', h.capB⟩
theorem greatS (s : Sh) (w : World) (h : ShIn w s) : Calls Try.prog 14 #[s.v] w (Ret fun v w' => v = .bool (greatC s) ∧ Below w.heap.size w w') :=
  great_any s.L s.R s.A s.B s.l.length s.ca s.t.length s.cb w h.many h.few

set_option maxRecDepth 100000 in
set_option maxHeartbeats 2000000 in
theorem listSheets_any (s : Sh) (J C D : Option Addr) (cj cc cd : Nat) (j cl cr : List Int) (w : World) (hs : ShIn w s) (hj : IntsAt w J j) (hC : IntsAt w C cl) (hD : IntsAt w D cr) (hnj : j.length ≤ 9223372036854775807) (hnc : cl.length ≤ 9223372036854775807) (hnd : cr.length ≤ 9223372036854775807) :
    Calls Try.prog 3 #[s.v, .slice J j.length cj, vCover C cl.length cc D cr.length cd] w (Ret fun v w' => v = .bool true ∧ Below w.heap.size w w') := by
  obtain ⟨L, R, A, ca, B, cb, l, t⟩ := s
  have HS := Lib.hid hs; clear hs
  have HJ := Lib.hid hj; clear hj
  have HC := Lib.hid hC; clear hC
  have HD := Lib.hid hD; clear hD
  unfold Sh.v vSheet vCover
  dsimp only
  obtain ⟨w0, hw0⟩ : ∃ w0, w0 = (w.alloc (.cells #[.int .i64 L, .int .i64 R, .slice A l.length ca, .slice B t.length cb] 25)).alloc (.cells #[.slice C cl.length cc, .slice D cr.length cd] 27) := ⟨_, rfl⟩
  have HB0 : Hid (Below w.heap.size w w0) := Lib.hid (by rw [hw0]; exact below_alloc' (below_alloc' (Below.refl _ _) _) _)
  have hX : w0.heap[w.heap.size]? = some (.cells #[.int .i64 L, .int .i64 R, .slice A l.length ca, .slice B t.length cb] 25 (0, 0)) := by rw [hw0]; exact blk_alloc (heap_alloc_new _ _) _
  have hX2 : w0.heap[w.heap.size + 1]? = some (.cells #[.slice C cl.length cc, .slice D cr.length cd] 27 (0, 0)) := by rw [hw0]; exact heap_alloc_at _ _ (by simp)
  have y0 : w0.cell? ⟨w.heap.size, 0, none⟩ = some (.int .i64 L) := (blk_cell hX).trans rfl
  have y1 : w0.cell? ⟨w.heap.size, 1, none⟩ = some (.int .i64 R) := (blk_cell hX).trans rfl
  have y2 : w0.cell? ⟨w.heap.size, 2, none⟩ = some (.slice A l.length ca) := (blk_cell hX).trans rfl
  have y3 : w0.cell? ⟨w.heap.size, 3, none⟩ = some (.slice B t.length cb) := (blk_cell hX).trans rfl
  have z0 : w0.cell? ⟨w.heap.size + 1, 0, none⟩ = some (.slice C cl.length cc) := (blk_cell hX2).trans rfl
  have z1 : w0.cell? ⟨w.heap.size + 1, 1, none⟩ = some (.slice D cr.length cd) := (blk_cell hX2).trans rfl
  have Hg := Lib.hid (greatS ⟨L, R, A, ca, B, cb, l, t⟩ w0 (HS.out.below HB0.out))
  clear hX hX2
  go_enter Try.func3, Try.ntmps3
  go_upto_region 1 with fail
  rw [← hw0]
  clear hw0
  go_wp2_with fail
  refine Hg.out.mono ?_
  rintro e w1 ⟨v, rfl, rfl, hb⟩
  have HB1 := Lib.hid (below_trans' HB0.out hb)
  replace y0 := cell_below hb y0
  replace y1 := cell_below hb y1
  replace y2 := cell_below hb y2
  replace y3 := cell_below hb y3
  replace z0 := cell_below hb z0
  replace z1 := cell_below hb z1
  clear hb HB0 Hg
  by_cases hgc : greatC ⟨L, R, A, ca, B, cb, l, t⟩ = true
  · rw [hgc]
    go_wp2_with fail
    refine (works_any _).mono ?_
    rintro e wz ⟨v, rfl, rfl, hBz⟩
    go_wp2
    go_ret
    exact Ret.mk' rfl ⟨rfl, below_trans' HB1.out hBz⟩
  rw [Bool.not_eq_true] at hgc
  rw [hgc]
  by_cases h2 : (60 : Int) < (j.length : Int)
  · go_wp2_with fail
    refine (works_any _).mono ?_
    rintro e wz ⟨v, rfl, rfl, hBz⟩
    go_wp2
    go_ret
    exact Ret.mk' rfl ⟨rfl, below_trans' HB1.out hBz⟩
  by_cases h3 : (30 : Int) < (cl.length : Int)
  · go_wp2_with fail
    refine (works_any _).mono ?_
    rintro e wz ⟨v, rfl, rfl, hBz⟩
    go_wp2
    go_ret
    exact Ret.mk' rfl ⟨rfl, below_trans' HB1.out hBz⟩
  by_cases h4 : (30 : Int) < (cr.length : Int)
  · go_wp2_with fail
    refine (works_any _).mono ?_
    rintro e wz ⟨v, rfl, rfl, hBz⟩
    go_wp2
    go_ret
    exact Ret.mk' rfl ⟨rfl, below_trans' HB1.out hBz⟩
  have HA := Lib.hid ((HS.out.below HB1.out).at hgc)
  replace HJ := Lib.hid (HJ.out.below HB1.out)
  replace HC := Lib.hid (HC.out.below HB1.out)
  replace HD := Lib.hid (HD.out.below HB1.out)
  have Hc := Lib.hid (checkCoverS _ C D cc cd cl cr w1 HA.out HC.out HD.out (by omega) (by omega))
  dsimp only at Hc
  go_wp2_with fail
  refine Hc.out.mono ?_
  rintro e w2 ⟨v, rfl, rfl, hb⟩
  have HB2 := Lib.hid (below_trans' HB1.out hb)
  replace y0 := cell_below hb y0
  replace y1 := cell_below hb y1
  replace y2 := cell_below hb y2
  replace y3 := cell_below hb y3
  replace z0 := cell_below hb z0
  replace z1 := cell_below hb z1
  replace HA := Lib.hid (HA.out.below hb)
  replace HJ := Lib.hid (HJ.out.below hb)
  replace HC := Lib.hid (HC.out.below hb)
  replace HD := Lib.hid (HD.out.below hb)
  clear hb HB1 Hc
  have hc := refCheckCoverS _ C D cc cd cl cr w2 HA.out HC.out HD.out (by omega) (by omega)
  dsimp only at hc ⊢
  generalize coverSize L R l t cl cr = x1 at hc ⊢
  generalize coverErr L R l t cl cr = x2 at hc ⊢
  have Hc := Lib.hid hc
  clear hc
  go_wp2_with fail
  refine Hc.out.mono ?_
  rintro e w3 ⟨v, rfl, rfl, hb⟩
  have HB3 := Lib.hid (below_trans' HB2.out hb)
  replace y0 := cell_below hb y0
  replace y1 := cell_below hb y1
  replace y2 := cell_below hb y2
  replace y3 := cell_below hb y3
  replace HA := Lib.hid (HA.out.below hb)
  replace HJ := Lib.hid (HJ.out.below hb)
  clear hb HB2 Hc z0 z1 HC HD
  have c1 := fun W (hW : Below w3.heap.size w3 W) => checkSheetS _ W (HA.out.below hW)
  have c2 := fun W (hW : Below w3.heap.size w3 W) => refCheckSheetS _ W (HA.out.below hW)
  have c3 := fun W (hW : Below w3.heap.size w3 W) => checkJoiningS _ J cj j W (HA.out.below hW) (HJ.out.below hW) (by omega)
  have c4 := fun W (hW : Below w3.heap.size w3 W) => refCheckJoiningS _ J cj j W (HA.out.below hW) (HJ.out.below hW) (by omega)
  dsimp only at c1 c2 c3 c4
  generalize sheetErr L R l t = x3 at c1 c2
  generalize joinErr L R l t j = x4 at c3 c4
  have C1 := Lib.hid c1
  have C2 := Lib.hid c2
  have C3 := Lib.hid c3
  have C4 := Lib.hid c4
  clear c1 c2 c3 c4 HA HJ HS
  go_upto_region 5 with fail
  refine wp_region_class (C := fun W => Below w3.heap.size w3 W) (by kernel_rfl) (by kernel_rfl) ((Below.refl _ _).drew) ?_
  repeat (first
    | go_big_quiet_skip
    | (go_big_quiet_want
       first
         | (go_big_quiet_op; go_big_quiet_on)
         | (apply Exists.intro
            refine ⟨fun W hW => ?_, ?_⟩
            · replace y0 := cell_below hW y0; replace y1 := cell_below hW y1; replace y2 := cell_below hW y2; replace y3 := cell_below hW y3; go_simp <;> exact rfl
            simp only [Act.put, List.setIfInBounds_toArray, List.set_cons_zero, List.set_cons_succ]
            go_big_quiet_on)))
  go_big_quiet_want
  apply Exists.intro
  refine ⟨fun W hW => ?_, ?_⟩
  · go_simp
    refine (C1.out _ hW).mono ?_
    rintro e wc ⟨v, rfl, rfl, hBc⟩
    exact ⟨rfl, below_trans' hW hBc⟩
  simp only [Act.put, List.setIfInBounds_toArray, List.set_cons_zero, List.set_cons_succ]
  go_big_quiet_on
  repeat (first
    | go_big_quiet_skip
    | (go_big_quiet_want
       first
         | (go_big_quiet_op; go_big_quiet_on)
         | (apply Exists.intro
            refine ⟨fun W hW => ?_, ?_⟩
            · replace y0 := cell_below hW y0; replace y1 := cell_below hW y1; replace y2 := cell_below hW y2; replace y3 := cell_below hW y3; go_simp <;> exact rfl
            simp only [Act.put, List.setIfInBounds_toArray, List.set_cons_zero, List.set_cons_succ]
            go_big_quiet_on)))
  go_big_quiet_want
  apply Exists.intro
  refine ⟨fun W hW => ?_, ?_⟩
  · go_simp
    refine (C2.out _ hW).mono ?_
    rintro e wc ⟨v, rfl, rfl, hBc⟩
    exact ⟨rfl, below_trans' hW hBc⟩
  simp only [Act.put, List.setIfInBounds_toArray, List.set_cons_zero, List.set_cons_succ]
  go_big_quiet_on
  repeat (first
    | go_big_quiet_skip
    | (go_big_quiet_want
       first
         | (go_big_quiet_op; go_big_quiet_on)
         | (apply Exists.intro
            refine ⟨fun W hW => ?_, ?_⟩
            · replace y0 := cell_below hW y0; replace y1 := cell_below hW y1; replace y2 := cell_below hW y2; replace y3 := cell_below hW y3; go_simp <;> exact rfl
            simp only [Act.put, List.setIfInBounds_toArray, List.set_cons_zero, List.set_cons_succ]
            go_big_quiet_on)))
  go_big_quiet_want
  apply Exists.intro
  refine ⟨fun W hW => ?_, ?_⟩
  · go_simp
    refine (C3.out _ hW).mono ?_
    rintro e wc ⟨v, rfl, rfl, hBc⟩
    exact ⟨rfl, below_trans' hW hBc⟩
  simp only [Act.put, List.setIfInBounds_toArray, List.set_cons_zero, List.set_cons_succ]
  go_big_quiet_on
  repeat (first
    | go_big_quiet_skip
    | (go_big_quiet_want
       first
         | (go_big_quiet_op; go_big_quiet_on)
         | (apply Exists.intro
            refine ⟨fun W hW => ?_, ?_⟩
            · replace y0 := cell_below hW y0; replace y1 := cell_below hW y1; replace y2 := cell_below hW y2; replace y3 := cell_below hW y3; go_simp <;> exact rfl
            simp only [Act.put, List.setIfInBounds_toArray, List.set_cons_zero, List.set_cons_succ]
            go_big_quiet_on)))
  go_big_quiet_want
  apply Exists.intro
  refine ⟨fun W hW => ?_, ?_⟩
  · go_simp
    refine (C4.out _ hW).mono ?_
    rintro e wc ⟨v, rfl, rfl, hBc⟩
    exact ⟨rfl, below_trans' hW hBc⟩
  simp only [Act.put, List.setIfInBounds_toArray, List.set_cons_zero, List.set_cons_succ]
  go_big_quiet_on
  repeat (first
    | go_big_quiet_skip
    | (go_big_quiet_want
       first
         | (go_big_quiet_op; go_big_quiet_on)
         | (apply Exists.intro
            refine ⟨fun W hW => ?_, ?_⟩
            · replace y0 := cell_below hW y0; replace y1 := cell_below hW y1; replace y2 := cell_below hW y2; replace y3 := cell_below hW y3; go_simp <;> exact rfl
            simp only [Act.put, List.setIfInBounds_toArray, List.set_cons_zero, List.set_cons_succ]
            go_big_quiet_on)))
  go_big_quiet_want
  apply Exists.intro
  refine ⟨fun W hW => ?_, ?_⟩
  · go_simp
    refine (works_any _).mono ?_
    rintro e wc ⟨v, rfl, rfl, hBc⟩
    exact ⟨rfl, below_trans' hW hBc⟩
  simp only [Act.put, List.setIfInBounds_toArray, List.set_cons_zero, List.set_cons_succ]
  go_big_quiet_on
  repeat (first
    | go_big_quiet_skip
    | (go_big_quiet_want
       first
         | (go_big_quiet_op; go_big_quiet_on)
         | (apply Exists.intro
            refine ⟨fun W hW => ?_, ?_⟩
            · replace y0 := cell_below hW y0; replace y1 := cell_below hW y1; replace y2 := cell_below hW y2; replace y3 := cell_below hW y3; go_simp <;> exact rfl
            simp only [Act.put, List.setIfInBounds_toArray, List.set_cons_zero, List.set_cons_succ]
            go_big_quiet_on)))
  refine wpQuiet_nil ?_
  intro w5 hB5
  have HB5 := Lib.hid (below_trans' HB3.out hB5)
  clear hB5
  go_wp2
  go_ret
  exact Ret.mk' rfl ⟨rfl, HB5.out⟩
end Go.Proofs.Ytoogfdicmpkkgaa
