/- Kinds. Items: its closures. -/
import Derived.Test.YtoogfdicmpkkgaaA29
namespace Go.Proofs.Ytoogfdicmpkkgaa
open Go.RowKit Go.Shelf Go.Maps Match

/-- the kinds of all links -/
def KindsAre (s : Sh) (ks : List Int) : Prop := ks.length = s.l.length ∧ ∀ j, j < ks.length → KindIs s j (ks.getD j 0)

set_option maxRecDepth 100000 in
set_option maxHeartbeats 1000000 in
theorem kindsM_any (s : Sh) (w : World) (hl : RangesAt w s.A s.l) (ht : IntsAt w s.B s.t) (hn : s.l.length ≤ 100000) (hm : s.t.length ≤ 1000) (hca : s.l.length ≤ s.ca) (hcm : s.ca ≤ 9223372036854775807) :
    Calls Try.prog 25 #[s.v] w (Ret fun v w' => (sheetErr s.L s.R s.l s.t ≠ 0 ∧ v = .tuple #[.slice none 0 0, .int .i64 (sheetErr s.L s.R s.l s.t)] ∨
      sheetErr s.L s.R s.l s.t = 0 ∧ ∃ G c ks, v = .tuple #[.slice G ks.length c, .int .i64 0] ∧ IntsAt w' G ks ∧ ks.length ≤ c ∧ KindsAre s ks) ∧ Below w.heap.size w w') := by
  obtain ⟨L, R, A, ca, B, cb, l, t⟩ := s
  dsimp only at hl ht hn hm hca hcm ⊢
  have Hl := Lib.hid hl; clear hl
  have Ht := Lib.hid ht; clear ht
  have Hm := Lib.hid hm; clear hm
  obtain ⟨w0, hw0⟩ : ∃ w0, w0 = w.alloc (.cells #[.int .i64 L, .int .i64 R, .slice A l.length ca, .slice B t.length cb] 25) := ⟨_, rfl⟩
  have HB0 : Hid (Below w.heap.size w w0) := Lib.hid (by rw [hw0]; exact below_alloc' (Below.refl _ _) _)
  have hX : w0.heap[w.heap.size]? = some (.cells #[.int .i64 L, .int .i64 R, .slice A l.length ca, .slice B t.length cb] 25 (0, 0)) := by rw [hw0]; exact heap_alloc_new _ _
  have hs := fun W (h : Below w.heap.size w W) => checkSheet_any L R A B ca cb l t W (Hl.out.below h) (Ht.out.below h) hn (by have := Hm.out; omega) hca hcm
  have hnj := fun W (h : Below w.heap.size w W) => kinds_any ⟨L, R, A, ca, B, cb, l, t⟩ W (Hl.out.below h) (Ht.out.below h) Hm.out
  unfold Sh.v at hnj ⊢
  dsimp only at hnj ⊢
  unfold vSheet at hs hnj ⊢
  have Hs := Lib.hid hs
  have Hnj := Lib.hid hnj
  clear hs hnj
  have y0 : w0.cell? ⟨w.heap.size, 0, none⟩ = some (.int .i64 L) := (blk_cell hX).trans rfl
  have y1 : w0.cell? ⟨w.heap.size, 1, none⟩ = some (.int .i64 R) := (blk_cell hX).trans rfl
  have y2 : w0.cell? ⟨w.heap.size, 2, none⟩ = some (.slice A l.length ca) := (blk_cell hX).trans rfl
  have y3 : w0.cell? ⟨w.heap.size, 3, none⟩ = some (.slice B t.length cb) := (blk_cell hX).trans rfl
  have hyw0 := blk_lt hX
  clear hX
  have Hc := Lib.hid (Hs.out w0 HB0.out)
  rw [hw0] at y0 y1 y2 y3 Hc
  have HW0 := Lib.hid hw0
  clear hw0
  go_enter Try.func25, Try.ntmps25
  go_wp2_with fail
  refine Hc.out.mono ?_
  rintro e w1 ⟨v, rfl, rfl, hB1⟩
  rw [← HW0.out] at hB1 y0 y1 y2 y3
  have HB1 := Lib.hid (below_trans' HB0.out hB1)
  replace y0 := cell_below hB1 y0
  replace y1 := cell_below hB1 y1
  replace y2 := cell_below hB1 y2
  replace y3 := cell_below hB1 y3
  clear hB1 Hc HB0 HW0
  by_cases h0 : sheetErr L R l t = 0
  · have d0 : (sheetErr L R l t != 0) = false := by simp [h0]
    have HS := Lib.hid (sheet_ok h0)
    have H0 := Lib.hid h0; clear h0
    have Hc := Lib.hid (Hnj.out w1 HB1.out HS.out)
    go_wp2_with fail
    refine Hc.out.mono ?_
    rintro e w2 ⟨v, rfl, ⟨G, c, ks, rfl, h1, h2, h3, h4⟩, hB2⟩
    have HB2 := Lib.hid (below_trans' HB1.out hB2)
    have HK : Hid (KindsAre ⟨L, R, A, ca, B, cb, l, t⟩ ks) := Lib.hid ⟨h2, h4⟩
    have H1 := Lib.hid h1
    have H3 := Lib.hid h3
    clear hB2 Hc h1 h2 h3 h4 y0 y1 y2 y3
    go_wp2
    go_ret2
    exact Ret.mk ⟨.inr ⟨H0.out, G, c, ks, rfl, H1.out, H3.out, HK.out⟩, HB2.out⟩
  · have d0 : (sheetErr L R l t != 0) = true := by simpa using h0
    have HR0 := Lib.hid h0
    clear h0
    go_wp2
    go_ret2
    exact Ret.mk ⟨.inl ⟨HR0.out, rfl⟩, HB1.out⟩
end Go.Proofs.Ytoogfdicmpkkgaa

namespace Go.Proofs.Ytoogfdicmpkkgaa
open Go.RowKit Go.Shelf Go.Maps Match

/-- the item of a link in one of both lists -/
def ofS (s : Sh) (right : Bool) (k : Nat) : Int := bif right then (atL s.l k).2 else (atL s.l k).1
def ofF (right : Bool) : Nat := bif right then 60 else 59
/-- a function that returns the item of a link -/
def OfIs (n0 X : Nat) (s : Sh) (right : Bool) (g : Nat) : Prop := (∀ args w, (callFunc g args).run Try.prog w = .ok (.enter g args) w) ∧
  ∀ (x : Nat) (w : World), LinksIn n0 w s.A s.l → w.cell? ⟨X, 2, none⟩ = some (.slice s.A s.l.length s.ca) → x < s.l.length →
    Calls Try.prog g #[.int .i64 x, .pointer (some ⟨X, 0, none⟩)] w (Ret fun v w' => v = .int .i64 (ofS s right x) ∧ Below w.heap.size w w')

set_option maxHeartbeats 1000000 in
theorem of_any (n0 X : Nat) (s : Sh) (right : Bool) : OfIs n0 X s right (ofF right) := by
  refine ⟨by cases right <;> exact fun args w => by simp [go_sem, ofF], fun x w hA c2 hx => ?_⟩
  obtain ⟨b4, o4, hb4, _, p1, p2⟩ := hA x hx
  have hat := atL_eq hx
  generalize s.l[x] = lx at p1 p2 hat
  obtain ⟨xa, xb⟩ := lx
  dsimp only at p1 p2
  rw [hb4] at c2
  have HF : Hid (ofS s right x = bif right then xb else xa) := Lib.hid (by unfold ofS; rw [hat])
  clear hA hat hb4
  have ik0 : (0 : Int) ≤ (x : Int) := by omega
  have ik1 : (x : Int) < (s.l.length : Int) := by omega
  cases right
  · show Calls Try.prog 59 _ _ _
    go_enter Try.func59, Try.ntmps59
    go_wp2
    go_ret
    exact Ret.mk' (congrArg (Value.int .i64) HF.out.symm) ⟨rfl, Below.refl _ _⟩
  · show Calls Try.prog 60 _ _ _
    go_enter Try.func60, Try.ntmps60
    go_wp2
    go_ret
    exact Ret.mk' (congrArg (Value.int .i64) HF.out.symm) ⟨rfl, Below.refl _ _⟩

def restOf (s : Sh) (right : Bool) (i : Nat) (k : Nat) : Bool := freeP s k && decide (ofS s right k ≠ i)
theorem enters61 : ∀ args w, (callFunc 61 args).run Try.prog w = .ok (.enter 61 args) w := fun args w => by simp [go_sem]

set_option maxRecDepth 100000 in
set_option maxHeartbeats 1000000 in
theorem k61_any (n0 jb X b9 b7 b15 g : Nat) (s : Sh) (right : Bool) (i x : Nat) (w : World) (hh : Head n0 w jb s) (hx : x < s.l.length) (hli : ∀ x ∈ s.l, (0 ≤ x.1 ∧ x.1 < 12) ∧ 0 ≤ x.2 ∧ x.2 < 12)
    (hg : OfIs n0 X s right g)
    (h9 : w.cell? ⟨b9, 0, none⟩ = some (.pointer (some ⟨jb, 0, none⟩))) (h7 : w.cell? ⟨b7, 0, none⟩ = some (.func (.func g) #[] #[.pointer (some ⟨X, 0, none⟩)])) (h5 : w.cell? ⟨b15, 0, none⟩ = some (.int .i64 i)) (hc : w.cell? ⟨X, 2, none⟩ = some (.slice s.A s.l.length s.ca)) :
    Calls Try.prog 61 #[.int .i64 x, .pointer (some ⟨b9, 0, none⟩), .pointer (some ⟨b7, 0, none⟩), .pointer (some ⟨b15, 0, none⟩)] w (Ret fun v w' => v = .bool (restOf s right i x) ∧ Below w.heap.size w w') := by
  obtain ⟨eg, hof⟩ := hg
  have HF : Hid (restOf s right i x = (!takenB s.l s.t x && decide (ofS s right x ≠ i))) := Lib.hid rfl
  have hfr := fun W (hW : Below w.heap.size w W) => free_any n0 jb s x W (hh.below hW) hx hli
  have hll := hh.links
  have hfo := fun W (hW : Below w.heap.size w W) => hof x W ((hh.below hW).links) (cell_below hW hc) hx
  generalize (!takenB s.l s.t x) = q at HF hfr
  generalize ofS s right x = y at HF hfo
  have HFr := Lib.hid hfr
  have HFo := Lib.hid hfo
  clear hh hli hfr hfo hof hll hc
  go_enter Try.func61, Try.ntmps61
  go_upto_region 1 with fail
  have hd1 : (y != (i : Int)) = decide (y ≠ i) := by by_cases e : y = i <;> simp [e]
  cases q
  · rw [Bool.false_and] at HF
    refine wp_region_class (C := fun W => Below w.heap.size w W) (by kernel_rfl) (by kernel_rfl) ((Below.refl _ _).drew) ?_
    repeat (first
      | go_big_quiet_skip
      | (go_big_quiet_want
         first
           | (go_big_quiet_op; go_big_quiet_on)
           | (apply Exists.intro
              refine ⟨fun W hW => ?_, ?_⟩
              · replace h9 := cell_below hW h9; replace h7 := cell_below hW h7; replace h5 := cell_below hW h5; go_simp <;> exact rfl
              simp only [Act.put, List.setIfInBounds_toArray, List.set_cons_zero, List.set_cons_succ]
              go_big_quiet_on)))
    go_big_quiet_want
    apply Exists.intro
    refine ⟨fun W hW => ?_, ?_⟩
    · go_simp
      refine (HFr.out _ hW).mono ?_
      rintro e wc ⟨v, rfl, rfl, hBc⟩
      exact ⟨rfl, below_trans' hW hBc⟩
    simp only [Act.put, List.setIfInBounds_toArray, List.set_cons_zero, List.set_cons_succ]
    go_big_quiet_on
    repeat (first
      | go_big_quiet_skip
      | (go_big_quiet_want
         first
           | (go_big_quiet_op; go_big_quiet_on)
           | (apply Exists.intro
              refine ⟨fun W hW => ?_, ?_⟩
              · replace h9 := cell_below hW h9; replace h7 := cell_below hW h7; replace h5 := cell_below hW h5; go_simp <;> exact rfl
              simp only [Act.put, List.setIfInBounds_toArray, List.set_cons_zero, List.set_cons_succ]
              go_big_quiet_on)))
    refine wpQuiet_nil ?_
    intro w5 hB5
    have HB5 := Lib.hid hB5
    clear hB5
    go_wp2
    go_ret
    exact Ret.mk' (congrArg Value.bool HF.out.symm) ⟨rfl, HB5.out⟩
  · rw [Bool.true_and] at HF
    cases hq1 : decide (y ≠ i) <;> rw [hq1] at hd1 HF
    all_goals
      refine wp_region_class (C := fun W => Below w.heap.size w W) (by kernel_rfl) (by kernel_rfl) ((Below.refl _ _).drew) ?_
      repeat (first
        | go_big_quiet_skip
        | (go_big_quiet_want
           first
             | (go_big_quiet_op; go_big_quiet_on)
             | (apply Exists.intro
                refine ⟨fun W hW => ?_, ?_⟩
                · replace h9 := cell_below hW h9; replace h7 := cell_below hW h7; replace h5 := cell_below hW h5; go_simp <;> exact rfl
                simp only [Act.put, List.setIfInBounds_toArray, List.set_cons_zero, List.set_cons_succ]
                go_big_quiet_on)))
      go_big_quiet_want
      apply Exists.intro
      refine ⟨fun W hW => ?_, ?_⟩
      · go_simp
        refine (HFr.out _ hW).mono ?_
        rintro e wc ⟨v, rfl, rfl, hBc⟩
        exact ⟨rfl, below_trans' hW hBc⟩
      simp only [Act.put, List.setIfInBounds_toArray, List.set_cons_zero, List.set_cons_succ]
      go_big_quiet_on
      repeat (first
        | go_big_quiet_skip
        | (go_big_quiet_want
           first
             | (go_big_quiet_op; go_big_quiet_on)
             | (apply Exists.intro
                refine ⟨fun W hW => ?_, ?_⟩
                · replace h9 := cell_below hW h9; replace h7 := cell_below hW h7; replace h5 := cell_below hW h5; go_simp <;> exact rfl
                simp only [Act.put, List.setIfInBounds_toArray, List.set_cons_zero, List.set_cons_succ]
                go_big_quiet_on)))
      go_big_quiet_want
      apply Exists.intro
      refine ⟨fun W hW => ?_, ?_⟩
      · go_simp
        refine (HFo.out _ hW).mono ?_
        rintro e wc ⟨v, rfl, rfl, hBc⟩
        exact ⟨rfl, below_trans' hW hBc⟩
      simp only [Act.put, List.setIfInBounds_toArray, List.set_cons_zero, List.set_cons_succ]
      go_big_quiet_on
      repeat (first
        | go_big_quiet_skip
        | (go_big_quiet_want
           first
             | (go_big_quiet_op; go_big_quiet_on)
             | (apply Exists.intro
                refine ⟨fun W hW => ?_, ?_⟩
                · replace h9 := cell_below hW h9; replace h7 := cell_below hW h7; replace h5 := cell_below hW h5; go_simp <;> exact rfl
                simp only [Act.put, List.setIfInBounds_toArray, List.set_cons_zero, List.set_cons_succ]
                go_big_quiet_on)))
      refine wpQuiet_nil ?_
      intro w5 hB5
      have HB5 := Lib.hid hB5
      clear hB5
      go_wp2
      go_ret
      exact Ret.mk' (congrArg Value.bool HF.out.symm) ⟨rfl, HB5.out⟩
end Go.Proofs.Ytoogfdicmpkkgaa
