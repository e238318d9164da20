/- What the laws of the chapter rest on, part 35. -/
import Derived.Test.YtkpmmgeffbhngaaGreatDoorC19
import Derived.Test.YtkpmmgeffbhngaaGreatDoorC34
set_option linter.unusedSimpArgs false
set_option linter.unusedVariables false
set_option linter.unnecessarySimpa false
namespace Prot
end Prot
namespace Go.Shelf
end Go.Shelf
namespace Go.Maps
end Go.Maps
namespace Go.Proofs.YtkpmmgeffbhngaaGreatDoor
open Go.RowKit Go.Shelf Prot Go.Lib Go.Maps
theorem jn_start_at (W : World) : JAt ((W.alloc (.map #[] 0)).alloc (.cells (Tryz.zeroCells161.setIfInBounds 2 (.map (some W.heap.size))) 161)) (W.heap.size + 1) W.heap.size 0 Jn.start := by
  have hs : (W.alloc (.map #[] 0)).heap.size = W.heap.size + 1 := by simp
  refine ⟨?_, ?_, by omega⟩
  · exact jbox_new _ _ _ (heap_alloc_at _ _ hs)
  · exact (MapJ.made W).below (below_alloc' (Below.refl _ _) _)
/-- what a strike may touch: what lay, but the book's block and that of its cards -/
def KeepS (bb : Nat) (C : Value) (X Y : World) : Prop := Y.os = X.os ∧ Y.tape = X.tape ∧ Y.output = X.output ∧ X.heap.size ≤ Y.heap.size ∧ ∀ b, b < X.heap.size → b ≠ bb → some b ≠ C.ownBlock → Y.heap[b]? = X.heap[b]?
theorem KeepS.below {bb : Nat} {C : Value} {X Y : World} (h : Below X.heap.size X Y) : KeepS bb C X Y := ⟨h.os, h.tape, h.output, h.size, fun b hb _ _ => h.block b hb⟩
theorem below_keepC {n x y : Nat} {w W W' : World} (h : Below n w W) (k : KeepC W.heap.size x y W W') (hx : n ≤ x) (hy : n ≤ y) (hn : n ≤ W.heap.size) : Below n w W' :=
  ⟨k.os.trans h.os, k.tape.trans h.tape, k.output.trans h.output, Nat.le_trans h.size k.size, fun b hb => (k.block b (by omega) (by omega) (by omega)).trans (h.block b hb)⟩
set_option maxRecDepth 100000 in
set_option maxHeartbeats 4000000 in
theorem strike_any (B bb jb mb n i : Nat) (s : St) (ls : List (List UInt8)) (C E : Value) (w : World) (h : BookW B w bb jb mb n s C E) (hok : StOk ls s) (hb : B ≤ bb) (hi : i ≤ 100000) :
    Calls Tryz.prog 106 #[.pointer (some ⟨bb, 0, none⟩), .int .i64 (i : Nat)] w (Ret fun v w' => v = .int .i64 (strikeN s i).1 ∧ (∃ jb' mb' n', (jb' = jb ∧ mb' = mb ∨ w.heap.size ≤ jb' ∧ w.heap.size ≤ mb') ∧ n' ≤ max n s.cards.length ∧ BookW B w' bb jb' mb' n' ⟨s.errs, (strikeN s i).2.1, (strikeN s i).2.2⟩ C E) ∧ KeepS bb C w w') := by
  obtain ⟨A, c, rfl, hAc⟩ := own_form h.cards
  have H := Lib.hid h
  have HOk := Lib.hid hok
  have p1 := (blk_cell (i := 1) h.blk).trans rfl
  have hcl := h.few.1
  clear h hok
  by_cases h1 : s.cards.length ≤ i
  · have HV : Hid (strikeN s i = (3, s.cards, s.jn)) := Lib.hid (by unfold strikeN; rw [if_pos (fun k => by omega)])
    have t1 : decide ((i : Int) ≥ (s.cards.length : Int)) = true := decide_eq_true (by omega)
    have t2 : decide (s.cards.length ≤ i) = true := decide_eq_true h1
    clear h1
    go_enter Tryz.func106, Tryz.ntmps106
    go_wp2
    go_step3
    go_wp2
    (try rw [Exit.noGoto_ret])
    go_ret
    exact Ret.mk ⟨by rw [HV.out]; rfl, ⟨jb, mb, n, .inl ⟨rfl, rfl⟩, by omega, by rw [HV.out]; exact H.out⟩, KeepS.below (Below.refl _ _)⟩
  have h1 : i < s.cards.length := by omega
  obtain ⟨g, off, rfl, g0, g1, g2, g3⟩ := CardsAt.at_ (RowsAt.of_own encCd_len H.out.cards) h1
  have hoff : off = 0 := by
    obtain ⟨g', c', e, _⟩ := H.out.cards.form (by omega)
    injection e with e; injection e with e; injection e
  subst hoff
  rw [Nat.zero_add] at g0 g1 g2 g3
  have t1 : decide ((i : Int) ≥ (s.cards.length : Int)) = false := decide_eq_false (by omega)
  have t2 : decide (s.cards.length ≤ i) = false := decide_eq_false (by omega)
  have i0 : (0 : Int) ≤ (i : Int) := by omega
  have i1 : (i : Int) < (s.cards.length : Int) := by omega
  have hgd : s.cards.getD i zeroC = s.cards[i] := by rw [List.getD_eq_getElem?_getD, List.getElem?_eq_getElem h1]; rfl
  by_cases hz : s.cards.getD i zeroC = zeroC
  · have HV : Hid (strikeN s i = (3, s.cards, s.jn)) := Lib.hid (by unfold strikeN; rw [if_pos (fun k => k.2 hz)])
    rw [← hgd, hz] at g0 g1 g2 g3
    clear h1 hgd hz
    go_enter Tryz.func106, Tryz.ntmps106
    go_wp2
    go_step3
    go_wp2
    (try rw [Exit.noGoto_ret])
    go_ret
    exact Ret.mk ⟨by rw [HV.out]; rfl, ⟨jb, mb, n, .inl ⟨rfl, rfl⟩, by omega, by rw [HV.out]; exact H.out⟩, KeepS.below (Below.refl _ _)⟩
  have hc := (HOk.out.card _ (List.getElem_mem h1)).resolve_left (by rw [← hgd]; exact hz)
  have hk1 : (s.cards[i].1 == 0) = false := by have := hc.1.kind; simp; omega
  have Hz := Lib.hid hz
  have Hlt := Lib.hid h1
  clear hz hc hgd
  generalize s.cards[i] = ci at g0 g1 g2 g3 hk1
  obtain ⟨c1, c2, c3, c4⟩ := ci
  dsimp only at g0 g1 g2 g3 hk1
  have HBg := Lib.hid (begin_any w)
  go_enter Tryz.func106, Tryz.ntmps106
  go_wp2
  go_step3
  go_wp2_with fail
  refine HBg.out.mono ?_
  rintro _ w1 ⟨v, rfl, rfl, hw1⟩
  have hJ0 := jn_start_at w
  rw [← hw1] at hJ0
  have hB1 : Below w.heap.size w w1 := by rw [hw1]; exact below_alloc' (below_alloc' (Below.refl _ _) _) _
  have hs1 : w1.heap.size = w.heap.size + 2 := by rw [hw1]; simp
  have HJ0 := Lib.hid hJ0
  have H1 := Lib.hid (H.out.below hB1)
  have HB1 := Lib.hid hB1
  have p1 := (blk_cell (i := 1) H1.out.blk).trans rfl
  have HLv : Hid (∀ d ∈ s.cards, d = zeroC ∨ CardOk d ∧ d.1 ≠ 7) := Lib.hid HOk.out.card
  have hbbw : bb < w.heap.size := blk_lt H.out.blk
  have hgw : g < w.heap.size := (H.out.cards.lt g rfl).2
  clear hw1 hJ0 hB1 g0 g1 g2 g3 hk1 HBg
  go_wp2
  go_step3
  go_wp2
  go_loopw [7, 36] (fun bv iv wr => ∃ (k n' : Nat) (j : Jn), bv = .bool false ∧ k ≤ s.cards.length ∧ iv = .int .i64 k ∧ n' ≤ k ∧ Hid (replay (liveC ((butC s.cards i).take k)) Jn.start = some j) ∧ Hid (JnOk j) ∧ Hid (JAt wr (w.heap.size + 1) w.heap.size n' j) ∧ Hid (Below w.heap.size w wr)) (fun _ iv _ => s.cards.length - (intOf iv).toNat)
  case atStart => exact ⟨0, 0, Jn.start, rfl, Nat.zero_le _, rfl, Nat.le_refl _, Lib.hid rfl, Lib.hid JnOk.start, HJ0, HB1⟩
  case round =>
    clear p1 H1 HJ0 HB1
    obtain ⟨k, n', j, rfl, hk, rfl, hn', HRp, HJk, HJ, HB⟩ := hrel
    have hsw := HB.out.size
    by_cases hkl : k < s.cards.length
    · obtain ⟨g', off, eg, g0, g1, g2, g3⟩ := CardsAt.at_ (RowsAt.of_own encCd_len (own_below' H.out.cards HB.out)) hkl
      injection eg with eg; injection eg with e1 e2
      subst e1; subst e2
      rw [Nat.zero_add] at g0 g1 g2 g3
      have k0 : (0 : Int) ≤ (k : Int) := by omega
      have k1 : (k : Int) < (s.cards.length : Int) := by omega
      have hgd : s.cards.getD k zeroC = s.cards[k] := by rw [List.getD_eq_getElem?_getD, List.getElem?_eq_getElem hkl]; rfl
      have hca := HLv.out _ (List.getElem_mem hkl)
      rw [← hgd] at hca g0 g1 g2 g3
      have HSk := Lib.hid (replay_skip (at' := i) hkl HRp.out)
      have HSt := Lib.hid (replay_stop (at' := i) hkl HRp.out)
      have HGo := Lib.hid (replay_go (at' := i) hkl HRp.out)
      have HKl := Lib.hid hkl
      clear hgd
      obtain ⟨cd, hcd⟩ : ∃ cd, s.cards.getD k zeroC = cd := ⟨_, rfl⟩
      rw [hcd] at hca g0 g1 g2 g3 HSk HSt HGo
      clear hcd hkl
      obtain ⟨d1, d2, d3, d4⟩ := cd
      dsimp only at g0 g1 g2 g3
      have hba := below_alloc' (Below.refl wr.heap.size wr) (.cells #[.int .i64 d1, .int .i64 d2, .int .i64 d3, .int .i64 d4] 36)
      have hx := heap_alloc_new wr (.cells #[.int .i64 d1, .int .i64 d2, .int .i64 d3, .int .i64 d4] 36)
      have HJa := Lib.hid (HJ.out.below hba)
      have HBa := Lib.hid (below_alloc' HB.out (.cells #[.int .i64 d1, .int .i64 d2, .int .i64 d3, .int .i64 d4] 36))
      have x0 := (blk_cell (i := 0) hx).trans rfl
      have x1 := (blk_cell (i := 1) hx).trans rfl
      have x2 := (blk_cell (i := 2) hx).trans rfl
      have x3 := (blk_cell (i := 3) hx).trans rfl
      have hsa : w.heap.size ≤ (wr.alloc (.cells #[.int .i64 d1, .int .i64 d2, .int .i64 d3, .int .i64 d4] 36)).heap.size := HBa.out.size
      clear hba hx
      by_cases hki : k = i
      · have t3 : ((k : Int) == (i : Int)) = true := by simp [hki]
        have HR2 := Lib.hid (HSk.out (.inl hki))
        clear hki HSk HSt HGo hca
        go_wp2
        go_roundw
        case rel => exact ⟨k + 1, n', j, rfl, by omega, by go_num, by omega, HR2, HJk, HJa, HBa⟩
        case measure => simp [intOf]; omega
      have t3 : ((k : Int) == (i : Int)) = false := by simp; omega
      by_cases hz : ((d1, d2, d3, d4) : Card) = zeroC
      · have HR2 := Lib.hid (HSk.out (.inr hz))
        injection hz with z1 hz; injection hz with z2 hz; injection hz with z3 z4
        subst z1; subst z2; subst z3; subst z4
        clear HSk HSt HGo hca
        go_wp2
        go_roundw
        case rel => exact ⟨k + 1, n', j, rfl, by omega, by go_num, by omega, HR2, HJk, HJa, HBa⟩
        case measure => simp [intOf]; omega
      · have hc := hca.resolve_left hz
        have hk1 : (d1 == 0) = false := by have := hc.1.kind; simp; dsimp only at this; omega
        have HC := Lib.hid (do_any (w.heap.size + 1) w.heap.size n' j (d1, d2, d3, d4) _ HJa.out HJk.out (by omega) hc.1 hc.2)
        unfold vCard at HC
        dsimp only at HC
        have HJn := Lib.hid (JnOk.do HJk.out hc.1)
        have HSt2 := Lib.hid (HSt.out hki hz)
        have HGo2 := Lib.hid (HGo.out hki hz)
        clear HSk HSt HGo hca hc hz hki
        go_wp2_with fail
        refine HC.out.mono ?_
        rintro _ w3 ⟨v, rfl, rfl, ⟨n3, hn3, hJ3⟩, hK3⟩
        have HJ3 := Lib.hid hJ3
        have HB3 := Lib.hid (below_keepC HBa.out hK3 (by omega) (Nat.le_refl _) hsa)
        clear hJ3 hK3 HC x0 x1 x2 x3 g0 g1 g2 g3
        by_cases he : (doV j (d1, d2, d3, d4)).2 = 0
        · have HR2 := Lib.hid (HGo2.out he)
          rw [he]
          clear he HGo2 HSt2
          go_wp2
          go_roundw
          case rel => exact ⟨k + 1, n3, _, rfl, by omega, by go_num, by omega, HR2, HJn, HJ3, HB3⟩
          case measure => simp [intOf]; omega
        · have HV : Hid (strikeN s i = (24, s.cards, s.jn)) := Lib.hid (by
            unfold strikeN
            rw [if_neg (Classical.not_not.2 ⟨Hlt.out, Hz.out⟩), HSt2.out he])
          have hH3 := H.out.below HB3.out
          have t4 : ((doV j (d1, d2, d3, d4)).2 != 0) = true := by simpa using he
          have H3 := Lib.hid hH3
          generalize (doV j (d1, d2, d3, d4)).2 = er at *
          clear he HGo2 HSt2 hH3
          go_wp2
          (try rw [Exit.noGoto_ret])
          go_ret
          exact Ret.mk ⟨by rw [HV.out]; rfl, ⟨jb, mb, n, .inl ⟨rfl, rfl⟩, by omega, by rw [HV.out]; exact H3.out⟩, KeepS.below HB3.out⟩
    · obtain rfl : k = s.cards.length := by omega
      rw [List.take_of_length_le (by rw [butC_len]; exact Nat.le_refl _)] at HRp
      have HV : Hid (strikeN s i = (0, butC s.cards i, j)) := Lib.hid (by
        unfold strikeN
        rw [if_neg (Classical.not_not.2 ⟨Hlt.out, Hz.out⟩), HRp.out])
      have H3 := Lib.hid (H.out.below HB.out)
      have q1 := (blk_cell (i := 1) H3.out.blk).trans rfl
      have q0 := blk_frozen (i := 0) H3.out.blk
      have q2 := (blk_cell (i := 0) H3.out.blk).trans rfl
      have fz := fun m => H3.out.cards.frozenAt m
      have hgb : g ≠ bb := fun e => by
        have := own_ne_blk H3.out.cards H3.out.blk (by decide)
        exact this (by rw [e]; rfl)
      have f0 : (wr.setCell ⟨bb, 0, none⟩ (.pointer (some ⟨w.heap.size + 1, 0, none⟩))).cell? ⟨bb, 1, none⟩ = some (.slice (some ⟨g, 0, none⟩) s.cards.length c) := cell_far q1 (by intro e; injection e with _ e; omega)
      obtain ⟨g', off, eg, y0, y1, y2, y3⟩ := CardsAt.at_ (RowsAt.of_own encCd_len H3.out.cards) Hlt.out
      injection eg with eg; injection eg with e1 e2
      subst e1; subst e2
      rw [Nat.zero_add] at y0 y1 y2 y3
      generalize s.cards[i] = cx at y0 y1 y2 y3
      have fcb : ∀ m u, wr.cell? ⟨g, m, none⟩ = some u → (wr.setCell ⟨bb, 0, none⟩ (.pointer (some ⟨w.heap.size + 1, 0, none⟩))).cell? ⟨g, m, none⟩ = some u := fun m u h => cell_far h (fun e => hgb (by injection e))
      have r0 := fcb _ _ y0
      have r1 := fcb _ _ y1
      have r2 := fcb _ _ y2
      have r3 := fcb _ _ y3
      have fz4 : ∀ m, (wr.setCell ⟨bb, 0, none⟩ (.pointer (some ⟨w.heap.size + 1, 0, none⟩))).frozen? ⟨g, m, none⟩ = false := fun m => (ownsRow_setCell_other H3.out.cards (a := ⟨bb, 0, none⟩) (fun e => hgb (by injection e)) (.pointer (some ⟨w.heap.size + 1, 0, none⟩))).frozenAt m
      clear fcb y0 y1 y2 y3 fz
      have far : ∀ b, b ≠ bb → b ≠ g → (((((wr.setCell ⟨bb, 0, none⟩ (.pointer (some ⟨w.heap.size + 1, 0, none⟩))).setCell ⟨g, i * 4, none⟩ (.int .i64 0)).setCell ⟨g, i * 4 + 1, none⟩ (.int .i64 0)).setCell ⟨g, i * 4 + 2, none⟩ (.int .i64 0)).setCell ⟨g, i * 4 + 3, none⟩ (.int .i64 0)).heap[b]? = wr.heap[b]? := fun b h1 h2 =>
        (((((Below.heap_setCell _ ⟨g, i * 4 + 3, none⟩ _ b h2).trans (Below.heap_setCell _ ⟨g, i * 4 + 2, none⟩ _ b h2)).trans (Below.heap_setCell _ ⟨g, i * 4 + 1, none⟩ _ b h2)).trans (Below.heap_setCell _ ⟨g, i * 4, none⟩ _ b h2)).trans (Below.heap_setCell wr ⟨bb, 0, none⟩ _ b h1))
      have hEb : E.ownBlock ≠ some bb := fun e => own_ne_blk H3.out.errs H3.out.blk (by decide) e.symm
      have hEg : E.ownBlock ≠ some g := fun e => by
        rcases own_apart H3.out.errs H3.out.cards (by decide) with h | h
        · rw [h] at e; cases e
        · exact h e
      have hCb : (Value.slice (some ⟨g, 0, none⟩) s.cards.length c).ownBlock ≠ some bb := fun e => hgb (by injection e)
      have HNew : Hid (BookW B (((((wr.setCell ⟨bb, 0, none⟩ (.pointer (some ⟨w.heap.size + 1, 0, none⟩))).setCell ⟨g, i * 4, none⟩ (.int .i64 0)).setCell ⟨g, i * 4 + 1, none⟩ (.int .i64 0)).setCell ⟨g, i * 4 + 2, none⟩ (.int .i64 0)).setCell ⟨g, i * 4 + 3, none⟩ (.int .i64 0)) bb (w.heap.size + 1) w.heap.size n' ⟨s.errs, butC s.cards i, j⟩ (.slice (some ⟨g, 0, none⟩) s.cards.length c) E) := Lib.hid (by
        refine ⟨?_, HJ.out.same (far _ (by omega) (by omega)) (far _ (by omega) (by omega)), ?_, ?_, ?_⟩
        · exact blk_far (blk_far (blk_far (blk_far (blk_set H3.out.blk (i := 0) (.pointer (some ⟨w.heap.size + 1, 0, none⟩))) hgb.symm _) hgb.symm _) hgb.symm _) hgb.symm _
        · show World.ownsRow _ B _ 4 _ (butC s.cards i).length ((butC s.cards i).flatMap encCd)
          rw [butC_len]
          have h1 := ownsRow_setCell_other H3.out.cards (a := ⟨bb, 0, none⟩) hCb (.pointer (some ⟨w.heap.size + 1, 0, none⟩))
          have h2 := ((((h1.stored (i * 4) (.int .i64 0)).1.stored (i * 4 + 1) (.int .i64 0)).1.stored (i * 4 + 2) (.int .i64 0)).1.stored (i * 4 + 3) (.int .i64 0)).1
          rw [setCd_flat] at h2
          exact h2
        · exact ownsRow_setCell_other (ownsRow_setCell_other (ownsRow_setCell_other (ownsRow_setCell_other (ownsRow_setCell_other H3.out.errs (a := ⟨bb, 0, none⟩) hEb _) (a := ⟨g, i * 4, none⟩) hEg _) (a := ⟨g, i * 4 + 1, none⟩) hEg _) (a := ⟨g, i * 4 + 2, none⟩) hEg _) (a := ⟨g, i * 4 + 3, none⟩) hEg _
        · dsimp only; rw [butC_len]; exact ⟨hcl, by omega⟩)
      have HKs : Hid (KeepS bb (.slice (some ⟨g, 0, none⟩) s.cards.length c) w (((((wr.setCell ⟨bb, 0, none⟩ (.pointer (some ⟨w.heap.size + 1, 0, none⟩))).setCell ⟨g, i * 4, none⟩ (.int .i64 0)).setCell ⟨g, i * 4 + 1, none⟩ (.int .i64 0)).setCell ⟨g, i * 4 + 2, none⟩ (.int .i64 0)).setCell ⟨g, i * 4 + 3, none⟩ (.int .i64 0))) := Lib.hid ⟨HB.out.os, HB.out.tape, HB.out.output, by simpa using HB.out.size, fun b h1 h2 h3 => (far b h2 (fun e => h3 (by rw [e]; rfl))).trans (HB.out.block b h1)⟩
      have F := Lib.hid (And.intro f0 (And.intro r0 (And.intro r1 (And.intro r2 r3))))
      have FZ := Lib.hid fz4
      clear far hEb hEg hCb HRp HJ f0 r0 r1 r2 r3 fz4
      go_upto_region 16 with fail
      clear q0 q1 q2
      generalize (wr.setCell ⟨bb, 0, none⟩ (.pointer (some ⟨w.heap.size + 1, 0, none⟩))) = w4 at *
      obtain ⟨f0, r0, r1, r2, r3⟩ := F.out
      have fz := FZ.out
      go_wp2
      (try rw [Exit.noGoto_ret])
      go_ret
      exact Ret.mk ⟨by rw [HV.out]; rfl, ⟨w.heap.size + 1, w.heap.size, n', .inr ⟨by omega, Nat.le_refl _⟩, by omega, by rw [HV.out]; exact HNew.out⟩, HKs.out⟩
end Go.Proofs.YtkpmmgeffbhngaaGreatDoor
