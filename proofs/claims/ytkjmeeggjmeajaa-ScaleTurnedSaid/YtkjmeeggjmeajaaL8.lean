/- ScaleNarrower. -/
import Derived.Test.YtkjmeeggjmeajaaL1
import Derived.Test.YtkjmeeggjmeajaaPC
namespace Go.Proofs.Ytkjmeeggjmeajaa
open Go.RowKit Go.Shelf

theorem oneFlat {α : Type} {enc : α → List Value} (h : ∀ x, ∀ u ∈ enc x, u.oneCell' = true) (l : List α) : ∀ u ∈ l.flatMap enc, u.oneCell' = true := fun u hu => by
  obtain ⟨x, _, hx⟩ := List.mem_flatMap.1 hu
  exact h x u hx
theorem song_ok {l : List Rg} (h1 : 1 ≤ l.length) (h2 : l.length ≤ 24) (hg : GoodR l) : songErr l = 0 := by
  unfold songErr
  rw [if_neg (by omega), if_neg]
  rw [List.any_eq_true]
  rintro ⟨r, hr, hb⟩
  have := hg r hr
  simp [badR] at hb; omega
set_option maxRecDepth 100000 in
set_option maxHeartbeats 2000000 in
theorem scaleNarrower_any (A : Option Addr) (ca : Nat) (l : List Rg) (q b0 b1 m0 m1 : Int) (w : World) (hl : RangesAt w A l) (hn : l.length ≤ 9223372036854775807) (hq : 0 ≤ q ∧ q ≤ 255) (hb0 : 0 ≤ b0 ∧ b0 ≤ 65535) (hb1 : 0 ≤ b1 ∧ b1 ≤ 65535) :
    Calls Try.prog 7 #[.slice A l.length ca, .int .u8 q, .agg #[.int .u16 b0, .int .u16 b1], .agg #[.int .i64 m0, .int .i64 m1]] w (Ret fun v w' => v = .bool true ∧ Below w.heap.size w w') := by
  have Hl := Lib.hid hl; clear hl
  have hf := fine_any A ca l ((w.alloc (.cells #[.int .u16 b0, .int .u16 b1] 55)).alloc (.cells #[.int .i64 m0, .int .i64 m1] 50)) ((Hl.out.alloc _).alloc _) hn
  go_enter Try.func7, Try.ntmps7
  by_cases h0 : songErr l = 0
  · have h24 := song_len24 h0
    rw [show (decide (l.length ≤ 30) && decide (songErr l = 0)) = true by simp [h0]; omega] at hf
    have Hf := Lib.hid hf
    have H0 := Lib.hid h0
    clear hf h0 hn
    have hX0 : ((w.alloc (.cells #[.int .u16 b0, .int .u16 b1] 55)).alloc (.cells #[.int .i64 m0, .int .i64 m1] 50)).heap[w.heap.size]? = some (.cells #[.int .u16 b0, .int .u16 b1] 55 (0, 0)) := blk_alloc (heap_alloc_new _ _) _
    have hX1 : ((w.alloc (.cells #[.int .u16 b0, .int .u16 b1] 55)).alloc (.cells #[.int .i64 m0, .int .i64 m1] 50)).heap[w.heap.size + 1]? = some (.cells #[.int .i64 m0, .int .i64 m1] 50 (0, 0)) := by
      have := heap_alloc_new (w.alloc (.cells #[.int .u16 b0, .int .u16 b1] 55)) (.cells #[.int .i64 m0, .int .i64 m1] 50); rwa [World.size_alloc] at this
    have HX0 := Lib.hid hX0
    have HX1 := Lib.hid hX1
    clear hX0 hX1
    go_wp2_with fail
    refine Hf.out.mono ?_
    rintro e w1 ⟨v, rfl, rfl, hq1⟩
    have HB1 : Hid (Below w.heap.size w w1) := Lib.hid (by obtain ⟨q, rfl⟩ := hq1; exact below_drewN (below_alloc' (below_alloc' (Below.refl _ _) _) _) _)
    have HY0 : Hid (w1.heap[w.heap.size]? = some (.cells #[.int .u16 b0, .int .u16 b1] 55 (0, 0))) := Lib.hid (by obtain ⟨q, rfl⟩ := hq1; exact HX0.out)
    have HY1 : Hid (w1.heap[w.heap.size + 1]? = some (.cells #[.int .i64 m0, .int .i64 m1] 50 (0, 0))) := Lib.hid (by obtain ⟨q, rfl⟩ := hq1; exact HX1.out)
    clear hq1 HX0 HX1 Hf
    obtain ⟨i0, hi0, hz0, hz1, hz2⟩ := info_parts infoR
    obtain ⟨bl, ol, rfl, p0, _⟩ := Hl.out.at_ (i := 0) (by omega)
    have hbl := block_lt_of_cell p0
    clear p0
    have HL1 : Hid (RangesAt w1 (some ⟨bl, ol, none⟩) l) := Lib.hid (Hl.out.below HB1.out)
    have hwq : IntKind.i64.wrap q = q := IntWalk.i64_in _ (by omega)
    obtain ⟨k, hk⟩ : ∃ k : Nat, Int.tmod q (l.length : Int) = (k : Int) := by
      rw [Int.tmod_eq_emod_of_nonneg hq.1]
      exact ⟨(q % (l.length : Int)).toNat, (Int.toNat_of_nonneg (Int.emod_nonneg q (by omega))).symm⟩
    have hkn : k < l.length := by
      rw [Int.tmod_eq_emod_of_nonneg hq.1] at hk
      have := Int.emod_lt_of_pos q (show (0 : Int) < (l.length : Int) by omega)
      omega
    have hgd := song_GoodR H0.out l[k] (List.getElem_mem hkn)
    generalize hx : l[k] = x at hgd
    have Hx := Lib.hid hx
    clear hx
    obtain ⟨x1, x2⟩ := x
    dsimp only at hgd
    have hw1 : IntKind.i64.wrap b0 = b0 := IntWalk.i64_in _ (by omega)
    have hw2 : IntKind.i64.wrap (x1 + b0) = x1 + b0 := IntWalk.i64_in _ (by omega)
    have hw3 : IntKind.i64.wrap b1 = b1 := IntWalk.i64_in _ (by omega)
    have hw4 : IntKind.i64.wrap (x2 - b1) = x2 - b1 := IntWalk.i64_in _ (by omega)
    obtain ⟨z1, hz1'⟩ : ∃ z, min x2 (x1 + b0) = z := ⟨_, rfl⟩
    obtain ⟨z2, hz2'⟩ : ∃ z, max z1 (x2 - b1) = z := ⟨_, rfl⟩
    have hzz : x1 ≤ z1 ∧ z1 ≤ z2 ∧ z2 ≤ x2 := by omega
    have hlz : (l.flatMap encR).length = l.length * 2 := flatMap_len encR_len l
    have HLZ := Lib.hid hlz
    clear hlz
    go_wp2_with (at_builtin; refine wpList_append_grows _ rfl (.tmp 22) (.tmp 23) 22 rfl 50 i0 (.agg #[.int .i64 0, .int .i64 0]) 2 16 Try.underlying22 hi0 hz0 hz1 hz2 rfl (by omega) (some ⟨w1.heap.size, 0, none⟩) 0 0 [] rfl (fun h => by cases h) rfl (fun _ _ j u hj => by simp at hj) ⟨bl, ol, none⟩ l.length ca (l.flatMap encR) rfl HLZ.out (fun j u hj => cell_alloc (RowsAt.olds encR_len HL1.out _ rfl j u hj) _) (oneFlat oneR l) (by omega) (by simp only [maxLen]; omega) (by omega) ?_; intro v' w2 hown hgrow; rw [Nat.zero_add, List.nil_append] at hown; obtain ⟨g, c2, rfl, _⟩ := hown.form (by omega); have HB2 : Hid (Below w1.heap.size w1 w2) := Lib.hid ((below_alloc' (Below.refl _ _) _).grown hgrow (by simp) (fun r e => by cases e)); have Hown := Lib.hid (own_mono hown (by simp : w1.heap.size ≤ (w1.alloc (.cells #[] 50)).heap.size)); clear hown hgrow; have q1 : w2.cell? ⟨g, k * 2, none⟩ = some (.int .i64 x1) := (by rw [Hown.out.cellAt _ (by omega), flat_get1, List.getElem?_eq_getElem hkn, Hx.out]; rfl); have q2 : w2.cell? ⟨g, k * 2 + 1, none⟩ = some (.int .i64 x2) := (by rw [Hown.out.cellAt _ (by omega), flat_get2, List.getElem?_eq_getElem hkn, Hx.out]; rfl); have f1 := Hown.out.frozenAt (k * 2); have f2 := Hown.out.frozenAt (k * 2 + 1); have c0 : w2.cell? ⟨w.heap.size, 0, none⟩ = some (.int .u16 b0) := cell_below HB2.out ((blk_cell HY0.out).trans rfl); have c1 : w2.cell? ⟨w.heap.size, 1, none⟩ = some (.int .u16 b1) := cell_below HB2.out ((blk_cell HY0.out).trans rfl))
    go_big_region
    have hgb := own_base Hown.out g rfl
    obtain ⟨w3, hw3'⟩ : ∃ w3, w3 = (w2.setCell ⟨g, k * 2, none⟩ (.int .i64 z1)).drew := ⟨_, rfl⟩
    have Hown3 : Hid (w3.ownsRow w1.heap.size 50 2 (.slice (some ⟨g, 0, none⟩) l.length c2) l.length ((l.flatMap encR).set (k * 2) (.int .i64 z1))) := Lib.hid (by rw [hw3']; exact (Hown.out.stored _ _).1.drew)
    have HB3 : Hid (Below w1.heap.size w1 w3) := Lib.hid (by rw [hw3']; exact (HB2.out.setCell hgb _).drew)
    replace q1 : w3.cell? ⟨g, k * 2, none⟩ = some (.int .i64 z1) := by rw [hw3']; exact World.cell?_setCell_same _ _ _ q1
    replace q2 : w3.cell? ⟨g, k * 2 + 1, none⟩ = some (.int .i64 x2) := by rw [hw3']; exact (World.cell?_setCell_other _ _ _ _ (by simp)).trans q2
    replace f1 := Hown3.out.frozenAt (k * 2)
    replace f2 := Hown3.out.frozenAt (k * 2 + 1)
    replace c0 : w3.cell? ⟨w.heap.size, 0, none⟩ = some (.int .u16 b0) := cell_below HB3.out ((blk_cell HY0.out).trans rfl)
    replace c1 : w3.cell? ⟨w.heap.size, 1, none⟩ = some (.int .u16 b1) := cell_below HB3.out ((blk_cell HY0.out).trans rfl)
    rw [← hw3']
    clear hw3' Hown HB2
    go_wp2
    go_big_region
    have hX : ((l.flatMap encR).set (k * 2) (.int .i64 z1)).set (k * 2 + 1) (.int .i64 z2) = (l.set k (z1, z2)).flatMap encR := set_flat l k (z1, z2)
    obtain ⟨X, hXX⟩ : ∃ X, X = l.set k (z1, z2) := ⟨_, rfl⟩
    rw [← hXX] at hX
    have hXl : X.length = l.length := by rw [hXX, List.length_set]
    obtain ⟨w4, hw4'⟩ : ∃ w4, w4 = (w3.setCell ⟨g, k * 2 + 1, none⟩ (.int .i64 z2)).drew := ⟨_, rfl⟩
    have HR4 : Hid (RangesAt w4 (some ⟨g, 0, none⟩) X) := RowsAt.of_own encR_len (by rw [hXl, ← hX, hw4']; exact (Hown3.out.stored _ _).1.drew)
    have HB4 : Hid (Below w.heap.size w w4) := Lib.hid (below_trans' HB1.out (by rw [hw4']; exact (HB3.out.setCell hgb _).drew))
    have HY4 : Hid (w4.heap[w.heap.size + 1]? = some (.cells #[.int .i64 m0, .int .i64 m1] 50 (0, 0))) := Lib.hid ((by rw [hw4']; exact (HB3.out.setCell hgb _).drew : Below w1.heap.size w1 w4).block _ (blk_lt HY1.out) |>.trans HY1.out)
    rw [← hw4']
    have HXX := Lib.hid hXX
    have HXL := Lib.hid hXl
    clear hw4' hX hXX hXl q1 q2 f1 f2 c0 c1 HB3 Hown3 hw1 hw2 hw3 hw4 hz1' hz2' hwq hk
    have hXg : ∀ r ∈ X, r = (z1, z2) ∨ r ∈ l := fun r hr => by rw [HXX.out] at hr; exact (List.mem_or_eq_of_mem_set hr).elim .inr .inl
    have hXn : ∀ r ∈ l, ∃ p ∈ X, r.1 ≤ p.1 ∧ p.2 ≤ r.2 := fun r hr => by
      obtain ⟨j, hj, rfl⟩ := List.mem_iff_getElem.1 hr
      by_cases e : j = k
      · subst e
        refine ⟨(z1, z2), by rw [HXX.out]; exact by have h := List.getElem_mem (l := l.set j (z1, z2)) (n := j) (by simpa using hj); rwa [List.getElem_set_self] at h, ?_⟩
        rw [Hx.out]; dsimp only; omega
      · refine ⟨l[j], ?_, by omega, by omega⟩
        rw [HXX.out]
        have : (l.set k (z1, z2))[j]'(by simpa using hj) = l[j] := List.getElem_set_ne (Ne.symm e) _
        rw [← this]; exact List.getElem_mem _
    have hXG : GoodR X := fun r hr => by
      rcases hXg r hr with rfl | hr
      · dsimp only; omega
      · exact song_GoodR H0.out r hr
    have HX0 : Hid (songErr X = 0) := Lib.hid (song_ok (by rw [HXL.out]; omega) (by rw [HXL.out]; omega) hXG)
    have HXg := Lib.hid hXg
    have HXn := Lib.hid hXn
    have HXG := Lib.hid hXG
    clear hXg hXn hXG
    have e0 : w4.cell? ⟨w.heap.size + 1, 0, none⟩ = some (.int .i64 m0) := (blk_cell HY4.out).trans rfl
    have e1 : w4.cell? ⟨w.heap.size + 1, 1, none⟩ = some (.int .i64 m1) := (blk_cell HY4.out).trans rfl
    have Hc := Lib.hid (fewest_any (some ⟨bl, ol, none⟩) ca l w4 (Hl.out.below HB4.out) (by omega))
    go_wp2_with fail
    refine Hc.out.mono ?_
    rintro e w5 ⟨v, rfl, h5, hB5⟩
    have HB5 := Lib.hid (below_trans' HB4.out hB5)
    replace HR4 := Lib.hid (HR4.out.below hB5)
    replace e0 := cell_below hB5 e0
    replace e1 := cell_below hB5 e1
    clear hB5 Hc
    rcases h5 with h5 | ⟨_, ts, B5, c5, s5, n5, hts, rfl, hn5, ho5⟩
    · exact absurd H0.out h5.1
    have hs5 := (highGo_hi hts (song_GoodR H0.out) hn5).1
    have hsh := hiAt_short hts (song_GoodR H0.out)
    rw [← hs5] at hsh
    have hl5 : s5.length ≤ 24 := by
      have h1 := (greedy_sub ts (-1)).length_le
      rw [ts_len hts] at h1
      rw [hs5]; unfold hiAt; rw [List.length_map]; omega
    generalize s5.length = n at hsh hl5
    have Hsh := Lib.hid hsh
    clear hts hs5 hn5 ho5 hsh
    have hk1 := fewest_any (some ⟨g, 0, none⟩) c2 X w5 HR4.out (by rw [HXL.out]; omega)
    rw [HXL.out] at hk1
    have HK1 := Lib.hid hk1
    clear hk1
    have Hc := Lib.hid (HK1.out)
    go_wp2_with fail
    refine Hc.out.mono ?_
    rintro e w6 ⟨v, rfl, h6, hB6⟩
    have HB6 := Lib.hid (below_trans' HB5.out hB6)
    replace e0 := cell_below hB6 e0
    replace e1 := cell_below hB6 e1
    clear hB6 Hc
    clear HK1
    rcases h6 with h6 | ⟨_, us, B6, c6, s6, n6, hus, rfl, hn6, ho6⟩
    · exact absurd HX0.out h6.1
    have hs6 := (highGo_hi hus HXG.out hn6).1
    have hsh6 := hiAt_short hus HXG.out
    rw [← hs6] at hsh6
    have hm1 := short_mono HXn.out Hsh.out hsh6
    have hm2 := short_more HXG.out (z1, z2) HXg.out Hsh.out hsh6
    generalize s6.length = m at hsh6 hm1 hm2
    clear hus hs6 hn6 ho6 hsh6
    have d1 : ¬ (m : Int) < (n : Int) := by omega
    have d2 : ¬ (n : Int) + 1 < (m : Int) := by omega
    have hwn : IntKind.i64.wrap ((n : Int) + 1) = (n : Int) + 1 := IntWalk.i64_in _ (by omega)
    have HL6 : Hid (RangesAt w6 (some ⟨bl, ol, none⟩) l) := Lib.hid (Hl.out.below HB6.out)
    have hb6 := block_lt_of_cell e0
    go_wp2
    go_region_held3 (fun W => W.cell? ⟨w.heap.size + 1, 0, none⟩ = some (.int .i64 m0) ∧ W.cell? ⟨w.heap.size + 1, 1, none⟩ = some (.int .i64 m1))
      (first | exact ⟨e0, e1⟩ | exact ⟨cell_alloc e0 _, cell_alloc e1 _⟩ | exact ⟨cell_alloc (cell_alloc e0 _) _, cell_alloc (cell_alloc e1 _) _⟩ | exact ⟨k0, k1⟩ | exact ⟨cell_alloc k0 _, cell_alloc k1 _⟩ | exact ⟨k2, k3⟩)
      (first
        | (refine step_append_grows rfl (.tmp 99) (.tmp 100) 22 rfl 50 i0 (.agg #[.int .i64 0, .int .i64 0]) 2 16 Try.underlying22 hi0 hz0 hz1 hz2 rfl (by omega) _ 0 0 [] (by rfl) (fun h => by cases h) rfl (fun _ _ j u hj => by simp at hj) ⟨bl, ol, none⟩ l.length ca (l.flatMap encR) (by rfl) HLZ.out (fun j u hj => by first | exact cell_alloc (RowsAt.olds encR_len HL6.out _ rfl j u hj) _ | exact cell_alloc (cell_alloc (RowsAt.olds encR_len HL6.out _ rfl j u hj) _) _) (oneFlat oneR l) (by omega) (by simp only [maxLen]; omega) (by omega) ?_
           intro va wa hown hgrow
           rw [Nat.zero_add, List.nil_append] at hown
           obtain ⟨g7, c7, rfl, _⟩ := hown.form (by omega)
           have hBa : Below w6.heap.size w6 wa := by first | exact ((below_alloc' (Below.refl _ _) _).drew).grown hgrow (by simp) (fun r e => by cases e) | exact ((below_alloc' (below_alloc' (Below.refl _ _) _) _).drew).grown hgrow (by simp; omega) (fun r e => by cases e)
           have k0 := cell_below hBa e0
           have k1 := cell_below hBa e1
           first
             | have kb : wa.heap[w6.heap.size + 1]? = some (.cells #[.int .i64 m0, .int .i64 m1] 50 (0, 0)) := blk_grown hgrow (by have := heap_alloc_new (w6.alloc (.cells #[] 50)) (.cells #[.int .i64 m0, .int .i64 m1] 50); rw [World.size_alloc] at this; exact this) (by simp)
             | have kb : wa.heap[w6.heap.size]? = some (.cells #[.int .i64 m0, .int .i64 m1] 50 (0, 0)) := blk_grown hgrow (blk_alloc (heap_alloc_new w6 _) _) (by simp)
             | skip
           have hsa := hBa.size
           have hsg := hgrow.size)
        | (refine step_append_lies _ (by rfl) _ _ _ (by rfl) (w6.heap.size + 1) 50 i0 _ 2 16 Try.underlying22 hi0 hz0 hz1 hz2 rfl (by omega) _ l.length (l.flatMap encR) (by rfl) (own_mono (hown.alloc _) (by simp)) ⟨wa.heap.size, 0, none⟩ 1 1 (encR (m0, m1)) (by rfl) (by rfl) (World.news_of_block (cs := #[.int .i64 m0, .int .i64 m1]) (t := 50) (fr := (0, 0)) (heap_alloc_new wa _)) (oneR _) (by omega) (by simp only [maxLen]; omega) (by omega) (by simp at hsg ⊢; omega) (wa.heap.size + 1) (by simp) ?_
           intro g8 c8 w8 hownb hgrowb _ _
           have hBb : Below w6.heap.size w6 w8 := (below_alloc' hBa _).grown hgrowb (by simp; omega) (fun r e => by have := own_base hown r e; simp at this; omega)
           have k2 := cell_below hBb e0
           have k3 := cell_below hBb e1)
        | (refine step_append_lies _ (by rfl) _ _ _ (by rfl) (w6.heap.size + 1) 50 i0 _ 2 16 Try.underlying22 hi0 hz0 hz1 hz2 rfl (by omega) _ l.length (l.flatMap encR) (by rfl) (own_mono hown (by simp)) _ 1 1 (encR (m0, m1)) (by rfl) (by rfl) (World.news_of_block (cs := #[.int .i64 m0, .int .i64 m1]) (t := 50) (fr := (0, 0)) kb) (oneR _) (by omega) (by simp only [maxLen]; omega) (by omega) (by simp at hsg ⊢; omega) wa.heap.size rfl ?_
           intro g8 c8 w8 hownb hgrowb _ _
           have hBb : Below w6.heap.size w6 w8 := hBa.grown hgrowb (by omega) (fun r e => by have := own_base hown r e; simp at this; omega)
           have k2 := cell_below hBb e0
           have k3 := cell_below hBb e1))
    all_goals
      have hR8 : RangesAt w8 (some ⟨g8, 0, none⟩) (l ++ [(m0, m1)]) := RowsAt.of_own encR_len (by rw [len_snoc, ← push_flat]; exact hownb)
      have HR8 := Lib.hid hR8
      have HB8 := Lib.hid (below_trans' HB6.out hBb)
      have hf := fine_any (some ⟨g8, 0, none⟩) c8 (l ++ [(m0, m1)]) w8 hR8 (by rw [len_snoc]; omega)
      rw [len_snoc] at hf
      clear hR8 hownb hgrowb hBb hown hgrow hBa k0 k1 k2 k3 hsa hsg e0 e1
      try clear kb
      by_cases hy : songErr (l ++ [(m0, m1)]) = 0
    all_goals first
      | (have hy24 := song_len24 hy
         rw [show (decide (l.length + 1 ≤ 30) && decide (songErr (l ++ [(m0, m1)]) = 0)) = true by simp [hy]; omega] at hf
         have Hf := Lib.hid hf
         have HY := Lib.hid hy
         clear hf hy
         have Hc := Lib.hid (Hf.out)
         go_wp2_with fail
         refine Hc.out.mono ?_
         rintro e w9 ⟨v, rfl, rfl, hq9⟩
         have hB9 : Below w8.heap.size w8 w9 := by obtain ⟨q, rfl⟩ := hq9; exact below_drewN (Below.refl _ _) _
         clear hq9
         have HB9 := Lib.hid (below_trans' HB8.out hB9)
         replace HR8 := Lib.hid (HR8.out.below hB9)
         clear hB9 Hc
         have hk1 := fewest_any (some ⟨g8, 0, none⟩) c8 (l ++ [(m0, m1)]) w9 HR8.out (by rw [len_snoc]; omega)
         rw [len_snoc] at hk1
         have HK1 := Lib.hid hk1
         clear hk1
         have Hc := Lib.hid (HK1.out)
         go_wp2_with fail
         refine Hc.out.mono ?_
         rintro e w10 ⟨v, rfl, h10, hB10⟩
         have HB10 := Lib.hid (below_trans' HB9.out hB10)
         clear hB10 Hc
         rcases h10 with h10 | ⟨_, vs, B10, c10, s10, n10, hvs, rfl, hn10, ho10⟩
         · exact absurd HY.out h10.1
         have hs10 := (highGo_hi hvs (song_GoodR HY.out) hn10).1
         have hsh10 := hiAt_short hvs (song_GoodR HY.out)
         rw [← hs10] at hsh10
         have hm3 := short_mono (x := l ++ [(m0, m1)]) (fun r hr => ⟨r, List.mem_append_left _ hr, Int.le_refl _, Int.le_refl _⟩) Hsh.out hsh10
         have hm4 := short_more (song_GoodR HY.out) (m0, m1) (fun q hq => (List.mem_append.1 hq).elim .inr (fun e => .inl (List.mem_singleton.1 e))) Hsh.out hsh10
         generalize s10.length = m' at hsh10 hm3 hm4
         have d3 : (n : Int) ≤ (m' : Int) := by omega
         have d4 : (m' : Int) ≤ (n : Int) + 1 := by omega
         clear hvs hs10 hn10 ho10 hsh10
         go_wp2_with fail
         refine (works_any _).mono ?_
         rintro e wz ⟨v, rfl, rfl, hBz⟩
         go_wp2
         go_ret
         exact Ret.mk' rfl ⟨rfl, below_trans' HB10.out hBz⟩
        )
      | (rw [show (decide (l.length + 1 ≤ 30) && decide (songErr (l ++ [(m0, m1)]) = 0)) = false by simp [hy]] at hf
         have Hf := Lib.hid hf
         have HY := Lib.hid hy
         clear hf hy
         have Hc := Lib.hid (Hf.out)
         go_wp2_with fail
         refine Hc.out.mono ?_
         rintro e w9 ⟨v, rfl, rfl, hq9⟩
         have hB9 : Below w8.heap.size w8 w9 := by obtain ⟨q, rfl⟩ := hq9; exact below_drewN (Below.refl _ _) _
         clear hq9
         have HB9 := Lib.hid (below_trans' HB8.out hB9)
         replace HR8 := Lib.hid (HR8.out.below hB9)
         clear hB9 Hc
         go_wp2_with fail
         refine (works_any _).mono ?_
         rintro e wz ⟨v, rfl, rfl, hBz⟩
         go_wp2
         go_ret
         exact Ret.mk' rfl ⟨rfl, below_trans' HB9.out hBz⟩
        )
  · rw [show (decide (l.length ≤ 30) && decide (songErr l = 0)) = false by simp [h0]] at hf
    have Hf := Lib.hid hf
    clear hf h0 hn
    go_wp2_with fail
    refine Hf.out.mono ?_
    rintro e w1 ⟨v, rfl, rfl, hq1⟩
    have HB1 : Hid (Below w.heap.size w w1) := Lib.hid (by obtain ⟨q, rfl⟩ := hq1; exact below_drewN (below_alloc' (below_alloc' (Below.refl _ _) _) _) _)
    clear hq1 Hf
    go_wp2_with fail
    refine (works_any _).mono ?_
    rintro e wz ⟨v, rfl, rfl, hBz⟩
    go_wp2
    go_ret
    exact Ret.mk' rfl ⟨rfl, below_trans' HB1.out hBz⟩
end Go.Proofs.Ytkjmeeggjmeajaa
