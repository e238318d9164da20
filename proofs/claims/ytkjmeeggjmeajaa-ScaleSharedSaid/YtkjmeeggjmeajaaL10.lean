/- ScaleShared. -/
import Derived.Test.YtkjmeeggjmeajaaL9
import Derived.Deep.DeepCutAuto
namespace Go.Proofs.Ytkjmeeggjmeajaa
open Go.RowKit Go.Shelf

theorem run_neq37 (a b c d : Bool) (w : World) : (binOp .neq 37 (.agg #[.bool a, .bool b]) (.agg #[.bool c, .bool d])).run Try.prog w = .ok (.bool (!(a == c && b == d))) w := by
  rw [run_neq_struct, run_equal37]; rfl
theorem atL_mem {l : List Rg} {i : Nat} (h : i < l.length) : atL l (i : Int) ∈ l := by
  simp only [atL, Int.toNat_natCast, List.getD_eq_getElem?_getD, List.getElem?_eq_getElem h, Option.getD_some]
  exact List.getElem_mem h
theorem bool_iff {a b : Bool} {p : Prop} (h : a = true ↔ p) (k : b = true ↔ p) : a = b := by
  rw [Bool.eq_iff_iff, h, k]
theorem bothR_self (r : Rg) : bothR r r = r := by unfold bothR; rw [Int.max_self, Int.min_self]
theorem may_of_must {l : List Rg} (hg : GoodR l) {r : Rg} (h : MustR l r) : MayR l r := by
  obtain ⟨ts, hts⟩ := exists_tones l
  exact ⟨hiAt ts, hiAt_right hts hg, h _ (hiAt_right hts hg) (hiAt_short hts hg), hiAt_short hts hg⟩
theorem must_self {l : List Rg} {r : Rg} (hr : r ∈ l) : MustR l r := fun _ hx _ => hx.2 r hr
/-- three shares of two tones: the same in both orders; a tone with itself must -/
theorem shares_law {l : List Rg} (h0 : songErr l = 0) {i k : Nat} (hi : i < l.length) (hk : k < l.length) {a b a2 b2 a3 b3 : Bool} {e e2 e3 : Int} (h : ShareIs l i k a b e) (h2 : ShareIs l k i a2 b2 e2) (h3 : ShareIs l i i a3 b3 e3) :
    e = 0 ∧ e2 = 0 ∧ e3 = 0 ∧ a2 = a ∧ b2 = b ∧ a3 = true ∧ b3 = true ∧ (a = true ↔ MayR l (bothR (atL l i) (atL l k))) ∧ (b = true ↔ MustR l (bothR (atL l i) (atL l k))) := by
  have hI : inL l (i : Int) := ⟨by omega, by omega⟩
  have hK : inL l (k : Int) := ⟨by omega, by omega⟩
  have hg := song_GoodR h0
  obtain ⟨p1, p2, p3⟩ := share_spec h h0 hI hK
  obtain ⟨q1, q2, q3⟩ := share_spec h2 h0 hK hI
  obtain ⟨r1, r2, r3⟩ := share_spec h3 h0 hI hI
  rw [bothR_comm] at q2 q3
  rw [bothR_self] at r2 r3
  have hm := must_self (atL_mem hi)
  exact ⟨p1, q1, r1, bool_iff q2 p2, bool_iff q3 p3, r2.2 (may_of_must hg hm), r3.2 hm, p2, p3⟩

set_option maxRecDepth 100000 in
set_option maxHeartbeats 40000000 in
theorem scaleShared_any (A B C : Option Addr) (ca cb cc : Nat) (l : List Rg) (a0 a1 : Int) (u s : List Int) (w : World) (hl : RangesAt w A l) (hu : U16At w B u) (hs : IntsAt w C s) (hn : l.length ≤ 9223372036854775807) (hun : u.length ≤ 9223372036854775807) (hm : s.length ≤ 9223372036854775807) (hca : l.length ≤ ca) (hu2 : ∀ x ∈ u, 0 ≤ x ∧ x ≤ 65535) (ha0 : 0 ≤ a0 ∧ a0 ≤ 255) (ha1 : 0 ≤ a1 ∧ a1 ≤ 255) :
    Calls Try.prog 9 #[.slice A l.length ca, .agg #[.int .u8 a0, .int .u8 a1], .slice B u.length cb, .slice C s.length cc] w (Ret fun v w' => v = .bool true ∧ Below w.heap.size w w') := by
  have Hl := Lib.hid hl; clear hl
  have Hu := Lib.hid hu; clear hu
  have Hs := Lib.hid hs; clear hs
  have Hu2 := Lib.hid hu2; clear hu2
  have hf := fine_any A ca l (w.alloc (.cells #[.int .u8 a0, .int .u8 a1] 57)) (Hl.out.alloc _) hn
  have hneq := run_neq37
  go_enter Try.func9, Try.ntmps9
  by_cases h0 : songErr l = 0
  · have h24 := song_len24 h0
    rw [show (decide (l.length ≤ 30) && decide (songErr l = 0)) = true by simp [h0]; omega] at hf
    have Hf := Lib.hid hf
    have H0 := Lib.hid h0
    clear hf h0 hn
    have HX0 := Lib.hid (heap_alloc_new w (.cells #[.int .u8 a0, .int .u8 a1] 57))
    go_wp2_with fail
    refine Hf.out.mono ?_
    rintro e w1 ⟨v, rfl, rfl, hq1⟩
    have HB1 : Hid (Below w.heap.size w w1) := Lib.hid (by obtain ⟨q, rfl⟩ := hq1; exact below_drewN (below_alloc' (Below.refl _ _) _) _)
    have HY0 : Hid (w1.heap[w.heap.size]? = some (.cells #[.int .u8 a0, .int .u8 a1] 57 (0, 0))) := Lib.hid (by obtain ⟨q, rfl⟩ := hq1; exact HX0.out)
    clear hq1 HX0 Hf
    by_cases k1 : 40 < u.length
    · have d1 : (40 : Int) < (u.length : Int) := by omega
      go_wp2_with fail
      refine (works_any _).mono ?_
      rintro e wz ⟨v, rfl, rfl, hBz⟩
      go_wp2
      go_ret
      exact Ret.mk' rfl ⟨rfl, below_trans' HB1.out hBz⟩
    · have d1 : ¬ (40 : Int) < (u.length : Int) := by omega
      by_cases k2 : 40 < s.length
      · have d2 : (40 : Int) < (s.length : Int) := by omega
        go_wp2_with fail
        refine (works_any _).mono ?_
        rintro e wz ⟨v, rfl, rfl, hBz⟩
        go_wp2
        go_ret
        exact Ret.mk' rfl ⟨rfl, below_trans' HB1.out hBz⟩
      · have d2 : ¬ (40 : Int) < (s.length : Int) := by omega
        have hun' : u.length ≤ 40 := by omega
        have hm' : s.length ≤ 40 := by omega
        clear hun hm
        have HG := Lib.hid (song_GoodR H0.out)
        have c0 : w1.cell? ⟨w.heap.size, 0, none⟩ = some (.int .u8 a0) := (blk_cell HY0.out).trans rfl
        have c1 : w1.cell? ⟨w.heap.size, 1, none⟩ = some (.int .u8 a1) := (blk_cell HY0.out).trans rfl
        have hw0 : IntKind.i64.wrap a0 = a0 := IntWalk.i64_in _ (by omega)
        have hw1 : IntKind.i64.wrap a1 = a1 := IntWalk.i64_in _ (by omega)
        have hmod : ∀ q : Int, 0 ≤ q → ∃ k : Nat, Int.tmod q (l.length : Int) = (k : Int) ∧ k < l.length := fun q hq => by
          rw [Int.tmod_eq_emod_of_nonneg hq]
          have h1 := Int.emod_nonneg q (show (l.length : Int) ≠ 0 by omega)
          have h2 := Int.emod_lt_of_pos q (show (0 : Int) < (l.length : Int) by omega)
          exact ⟨(q % (l.length : Int)).toNat, (Int.toNat_of_nonneg h1).symm, by omega⟩
        obtain ⟨i, hmi, hil⟩ := hmod a0 ha0.1
        obtain ⟨k, hmk, hkl⟩ := hmod a1 ha1.1
        clear hmod
        go_wp2
        refine wp_region_quiet_lit (by kernel_rfl) (by kernel_rfl) ?_
        repeat (any_goals (first | go_big_quiet_step (fail) | quiet_step (fail) | (refine wpQuiet_step (fun K hK => ?_); go_simp; split <;> (refine hK _ ?_; clear hK K))))
        all_goals (refine wpQuiet_nil ?_; intro _ hw'; obtain ⟨nq, hw''⟩ := hw'; subst hw'')
        have HB1' : Hid (Below w.heap.size w (w1.drewN nq)) := Lib.hid (below_drewN HB1.out _)
        obtain ⟨w2, hw2⟩ : ∃ w2, w2 = w1.drewN nq := ⟨_, rfl⟩
        have HB2 : Hid (Below w.heap.size w w2) := Lib.hid (by rw [hw2]; exact HB1'.out)
        rw [← hw2]
        clear hw2 HB1' c0 c1 hw0 hw1 hmi hmk HY0
        have Hc := Lib.hid (share_any A ca l i k w2 (Hl.out.below HB2.out) (by omega) hca)
        go_wp2_with fail
        refine Hc.out.mono ?_
        rintro e w3 ⟨v, rfl, ⟨a, b, e3, rfl, hsh1⟩, hB3⟩
        have HB3 := Lib.hid (below_trans' HB2.out hB3)
        clear hB3 Hc
        have HB3' := Lib.hid (below_alloc' HB3.out (.cells #[.bool a, .bool b] 37))
        have x0 : (w3.alloc (.cells #[.bool a, .bool b] 37)).cell? ⟨w3.heap.size, 0, none⟩ = some (.bool a) := new2_0 _ _ _ _
        have x1 : (w3.alloc (.cells #[.bool a, .bool b] 37)).cell? ⟨w3.heap.size, 1, none⟩ = some (.bool b) := new2_1 _ _ _ _
        have Hc := Lib.hid (share_any A ca l k i (w3.alloc (.cells #[.bool a, .bool b] 37)) (Hl.out.below HB3'.out) (by omega) hca)
        go_wp2_with fail
        refine Hc.out.mono ?_
        rintro e w4 ⟨v, rfl, ⟨a2, b2, e4, rfl, hsh2⟩, hB4⟩
        have HB4 := Lib.hid (below_trans' HB3'.out hB4)
        replace x0 := cell_below hB4 x0
        replace x1 := cell_below hB4 x1
        clear Hc hB4 HB3'
        have HB4' := Lib.hid (below_alloc' HB4.out (.cells #[.bool a2, .bool b2] 37))
        have y0 : (w4.alloc (.cells #[.bool a2, .bool b2] 37)).cell? ⟨w4.heap.size, 0, none⟩ = some (.bool a2) := new2_0 _ _ _ _
        have y1 : (w4.alloc (.cells #[.bool a2, .bool b2] 37)).cell? ⟨w4.heap.size, 1, none⟩ = some (.bool b2) := new2_1 _ _ _ _
        replace x0 := cell_alloc x0 (.cells #[.bool a2, .bool b2] 37)
        replace x1 := cell_alloc x1 (.cells #[.bool a2, .bool b2] 37)
        have Hc := Lib.hid (share_any A ca l i i (w4.alloc (.cells #[.bool a2, .bool b2] 37)) (Hl.out.below HB4'.out) (by omega) hca)
        go_wp2_with fail
        refine Hc.out.mono ?_
        rintro e w5 ⟨v, rfl, ⟨a3, b3, e5, rfl, hsh3⟩, hB5⟩
        have HB5 := Lib.hid (below_trans' HB4'.out hB5)
        replace x0 := cell_below hB5 x0
        replace x1 := cell_below hB5 x1
        replace y0 := cell_below hB5 y0
        replace y1 := cell_below hB5 y1
        clear Hc hB5 HB4'
        obtain ⟨rfl, rfl, rfl, rfl, rfl, rfl, rfl, hA, hB⟩ := shares_law H0.out hil hkl hsh1 hsh2 hsh3
        clear hsh1 hsh2 hsh3
        have hax : atL l (i : Int) = l[i] := by simp [atL, hil]
        have hay : atL l (k : Int) = l[k] := by simp [atL, hkl]
        rw [hax, hay] at hA hB
        generalize hlx : l[i] = lx at hA hB
        generalize hlz : l[k] = lz at hA hB
        have Hlx := Lib.hid hlx
        have Hlz := Lib.hid hlz
        clear hlx hlz hax hay
        obtain ⟨lx1, lx2⟩ := lx
        obtain ⟨lz1, lz2⟩ := lz
        have hr : bothR (lx1, lx2) (lz1, lz2) = (max lx1 lz1, min lx2 lz2) := rfl
        rw [hr] at hA hB
        clear hr
        obtain ⟨r1, hr1⟩ : ∃ r1, max lx1 lz1 = r1 := ⟨_, rfl⟩
        obtain ⟨r2, hr2⟩ : ∃ r2, min lx2 lz2 = r2 := ⟨_, rfl⟩
        rw [hr1, hr2] at hA hB
        have hON : ∀ X, Right l X → ShortIs l X.length → (b2 = true → X.any (onR (r1, r2)) = true) ∧ (a2 = false → X.any (onR (r1, r2)) = false) := fun X h1 h2 => ⟨fun h => (hit_iff X _).2 (hB.1 h X h1 h2), fun h => by
          cases hq : X.any (onR (r1, r2)) with
          | false => rfl
          | true => exact absurd (hA.2 ⟨X, h1, (hit_iff _ _).1 hq, h2⟩) (by rw [h]; simp)⟩
        have hab : b2 = true → a2 = true := fun h => hA.2 (may_of_must HG.out (hB.1 h))
        have hno : r2 < r1 → a2 = false := fun h => by
          cases a2 with
          | false => rfl
          | true => obtain ⟨x, _, ⟨y, _, y1, y2⟩, _⟩ := hA.1 rfl; dsimp only at y1 y2; omega
        have hcs : (a2 = true ∧ b2 = true) ∨ (a2 = true ∧ b2 = false) ∨ (a2 = false ∧ b2 = false) := by
          cases a2 <;> cases b2 <;> simp at hab ⊢
        have HON := Lib.hid hON
        have HNO := Lib.hid hno
        have HCS := Lib.hid hcs
        have HR1 := Lib.hid hr1
        have HR2 := Lib.hid hr2
        clear hA hB hON hab hno hcs hr1 hr2
        have HB5' := Lib.hid (below_alloc' HB5.out (.cells #[.bool true, .bool true] 37))
        have z0 : (w5.alloc (.cells #[.bool true, .bool true] 37)).cell? ⟨w5.heap.size, 0, none⟩ = some (.bool true) := new2_0 _ _ _ _
        have z1 : (w5.alloc (.cells #[.bool true, .bool true] 37)).cell? ⟨w5.heap.size, 1, none⟩ = some (.bool true) := new2_1 _ _ _ _
        replace x0 := cell_alloc x0 (.cells #[.bool true, .bool true] 37)
        replace x1 := cell_alloc x1 (.cells #[.bool true, .bool true] 37)
        replace y0 := cell_alloc y0 (.cells #[.bool true, .bool true] 37)
        replace y1 := cell_alloc y1 (.cells #[.bool true, .bool true] 37)
        have Hc := Lib.hid (fewest_any A ca l (w5.alloc (.cells #[.bool true, .bool true] 37)) (Hl.out.below HB5'.out) (by omega))
        go_wp2_with fail
        refine Hc.out.mono ?_
        rintro e w6 ⟨v, rfl, h6, hB6⟩
        have HB6 := Lib.hid (below_trans' HB5'.out hB6)
        replace x0 := cell_below hB6 x0
        replace x1 := cell_below hB6 x1
        replace y0 := cell_below hB6 y0
        replace y1 := cell_below hB6 y1
        replace z0 := cell_below hB6 z0
        replace z1 := cell_below hB6 z1
        clear Hc hB6 HB5'
        rcases h6 with h6 | ⟨_, ts, B3, c3, s3, n3, hts, rfl, hn3, ho3⟩
        · exact absurd H0.out h6.1
        have hs3 := (highGo_hi hts HG.out hn3).1
        have hsc3 : scaleErr l s3 = 0 := by rw [hs3]; exact hiAt_scale H0.out hts
        have hsh3 : ShortIs l s3.length := by rw [hs3]; exact hiAt_short hts HG.out
        have HI3 : Hid (IntsAt w6 B3 s3) := Lib.hid (RowsAt.of_own encI_len ho3)
        have HSC3 := Lib.hid hsc3
        clear hts hn3 ho3 hs3 hsc3
        have Hc := Lib.hid (spans_any A ca l w6 (Hl.out.below HB6.out) (by omega))
        go_wp2_with fail
        refine Hc.out.mono ?_
        rintro e w7 ⟨v, rfl, h7, hB7⟩
        have HB7 := Lib.hid (below_trans' HB6.out hB7)
        replace HI3 := Lib.hid (HI3.out.below hB7)
        replace x0 := cell_below hB7 x0
        replace x1 := cell_below hB7 x1
        replace y0 := cell_below hB7 y0
        replace y1 := cell_below hB7 y1
        replace z0 := cell_below hB7 z0
        replace z1 := cell_below hB7 z1
        clear hB7 Hc
        rcases h7 with h7 | ⟨_, ts, us, B2, c2, sp, hts, hus, hsp, rfl, hsc, hI2⟩
        · exact absurd H0.out h7.1
        have hIS : IsSpans l sp := ⟨ts, us, hts, hus, hsp⟩
        have HIS := Lib.hid hIS
        have HI2 : Hid (RangesAt w7 B2 sp) := Lib.hid hI2
        have hsp24 : sp.length ≤ 24 := by
          obtain ⟨ts, us, ht, _, _, _, _, e⟩ := hIS.ends HG.out
          have h1 := (greedy_sub ts (-1)).length_le
          rw [ts_len ht] at h1
          rw [e]; unfold hiAt; rw [List.length_map]; omega
        have hln : s3.length = sp.length := hsh3.unique (HIS.out.short HG.out)
        have HLN := Lib.hid hln
        rw [hln]
        clear hts hus hsp hsc hI2 hIS hsh3 hln
        go_upto_region 9 with fail
        go_cut [128] (fun s wx => s = .bool false ∧ wx = w7)
        case first =>
          rcases HCS.out with ⟨rfl, rfl⟩ | ⟨rfl, rfl⟩ | ⟨rfl, rfl⟩
          all_goals (go_wp2_with fail; go_meet; exact ⟨rfl, rfl⟩)
        case rest =>
        obtain ⟨rfl, hwx⟩ := hcut
        subst hwx
        clear hneq y0 y1 z0 z1
        have XX0 := Lib.hid x0
        have XX1 := Lib.hid x1
        clear x0 x1
        have hr1 := HR1.out
        have hr2 := HR2.out
        obtain ⟨b3, o3, hbA, q1, q2⟩ := RangesAt.at_ (Hl.out.below HB7.out) hil
        obtain ⟨b4, o4, hbB, q3, q4⟩ := RangesAt.at_ (Hl.out.below HB7.out) hkl
        rw [hbA] at hbB
        injection hbB with hbB
        injection hbB with e1 e2
        subst e1 e2
        rw [Hlx.out] at q1 q2
        rw [Hlz.out] at q3 q4
        dsimp only at q1 q2 q3 q4
        have hb3 : b3 < wc.heap.size := block_lt_of_cell q1
        have hrg := rg_any
        unfold vR at hrg
        subst hbA
        obtain ⟨w7, hw7⟩ : ∃ w7, w7 = wc := ⟨_, rfl⟩
        subst hw7
        go_upto_region 11 with fail
        go_cut [21] (fun s wx => ∃ g, s = .pointer (some ⟨g, 0, none⟩) ∧ w7.heap.size ≤ g ∧ wx.cell? ⟨g, 0, none⟩ = some (.int .i64 r1) ∧ wx.cell? ⟨g, 1, none⟩ = some (.int .i64 r2) ∧ Hid (Below w7.heap.size w7 wx))
        case first =>
          as_aux_lemma =>
            go_region_held3 (fun W => W.cell? ⟨b3, o3 + i * 2, none⟩ = some (.int .i64 lx1) ∧ W.cell? ⟨b3, o3 + i * 2 + 1, none⟩ = some (.int .i64 lx2) ∧ W.cell? ⟨b3, o3 + k * 2, none⟩ = some (.int .i64 lz1) ∧ W.cell? ⟨b3, o3 + k * 2 + 1, none⟩ = some (.int .i64 lz2))
              (first | exact ⟨q1, q2, q3, q4⟩ | exact ⟨cell_alloc q1 _, cell_alloc q2 _, cell_alloc q3 _, cell_alloc q4 _⟩ | exact ⟨cell_below hBc q1, cell_below hBc q2, cell_below hBc q3, cell_below hBc q4⟩ | exact ⟨cell_below hBc (cell_alloc q1 _), cell_below hBc (cell_alloc q2 _), cell_below hBc (cell_alloc q3 _), cell_below hBc (cell_alloc q4 _)⟩ | (refine ⟨?_, ?_, ?_, ?_⟩ <;> (repeat (first | exact q1 | exact q2 | exact q3 | exact q4 | refine cell_far ?_ (addr_ne (by first | assumption | (simp; omega))) | refine cell_alloc ?_ _ | refine cell_below hBc ?_))))
              (first | (go_at_call 33; refine (hrg r1 r2 _).mono ?_; rintro e wc ⟨v, rfl, rfl, hBc⟩; (try (have g1 : wc.cell? ⟨w7.heap.size, 0, none⟩ = some (.int .i64 0) := cell_below hBc (new2_0 _ _ _ _); have g2 : wc.cell? ⟨w7.heap.size, 1, none⟩ = some (.int .i64 0) := cell_below hBc (new2_1 _ _ _ _); have g3 : wc.frozen? ⟨w7.heap.size, 0, none⟩ = false := frozen_later hBc (by simp) (new_frozen _ _ _ _); have g4 : wc.frozen? ⟨w7.heap.size, 1, none⟩ = false := frozen_later hBc (by simp) (new_frozen _ _ _ _)))))
            all_goals
              have hB5 : Below w7.heap.size w7 wc := by
                first
                  | exact below_drew_of (Below.refl w7.heap.size w7) hBc
                  | exact below_alloc_of (Below.refl w7.heap.size w7).drew hBc
            all_goals (go_wp2_with fail; go_meet)
            all_goals first
              | exact ⟨wc.heap.size, rfl, hB5.size, new2_0 _ _ _ _, new2_1 _ _ _ _, Lib.hid (below_alloc' hB5 _)⟩
              | exact ⟨w7.heap.size, rfl, Nat.le_refl _, (two_cells g1 g2).1, (two_cells g1 g2).2, Lib.hid ((hB5.setCell (p := ⟨w7.heap.size, 0, none⟩) (Nat.le_refl _) _).setCell (p := ⟨w7.heap.size, 1, none⟩) (Nat.le_refl _) _)⟩
        case rest =>
        obtain ⟨b9, rfl, hb9, e0, e1, HB8'⟩ := hcut
        obtain ⟨w8, hw8⟩ : ∃ w8, w8 = wc := ⟨_, rfl⟩
        subst hw8
        have x0 := cell_below HB8'.out XX0.out
        have x1 := cell_below HB8'.out XX1.out
        replace HI2 := Lib.hid (HI2.out.below HB8'.out)
        replace HI3 := Lib.hid (HI3.out.below HB8'.out)
        have HB8 := Lib.hid (below_trans' HB7.out HB8'.out)
        have hb8 := HB8'.out.size
        have hb9' : b9 < w8.heap.size := block_lt_of_cell e0
        generalize w3.heap.size = bx at x0 x1 ⊢
        clear q1 q2 q3 q4 hr1 hr2 hb3 hrg XX0 XX1 HR1 HR2
        go_upto_region 12 with fail
        go_cut [160] (fun s wx => s = .bool false ∧ wx = w8)
        case first =>
          by_cases hrr : r2 < r1
          · have ha := HNO.out hrr
            subst ha
            have d1 : decide (r2 < r1) = true := by simpa using hrr
            go_wp2_with fail
            go_meet
            exact ⟨rfl, rfl⟩
          · have d1 : decide (r2 < r1) = false := by simpa using hrr
            go_wp2_with fail
            go_meet
            exact ⟨rfl, rfl⟩
        case rest =>
        obtain ⟨rfl, hwx⟩ := hcut
        subst hwx
        obtain ⟨w8, hw8⟩ : ∃ w8, w8 = wc := ⟨_, rfl⟩
        subst hw8
        have X0 := Lib.hid x0
        have X1 := Lib.hid x1
        have E0 := Lib.hid e0
        have E1 := Lib.hid e1
        have HL8 : Hid (RangesAt w8 (some ⟨b3, o3, none⟩) l) := Lib.hid (Hl.out.below HB8.out)
        have HU8 : Hid (U16At w8 B u) := Lib.hid (Hu.out.below HB8.out)
        have HS8 : Hid (IntsAt w8 C s) := Lib.hid (Hs.out.below HB8.out)
        clear x0 x1 e0 e1
        obtain ⟨i0, hi0, hz0, hz1, hz2⟩ := info_parts infoI2
        go_wp2
        go_loopw [22, 23, 24] (fun v1 v2 i wr => ∃ m : Nat, m ≤ sp.length ∧ i = .int .i64 m ∧ wr.ownsRow w8.heap.size 2 1 v1 ((sp.take m).map (·.1)).length (((sp.take m).map (·.1)).flatMap encI) ∧ wr.ownsRow w8.heap.size 2 1 v2 ((sp.take m).map (·.2)).length (((sp.take m).map (·.2)).flatMap encI) ∧ Hid (v1.ownBlock = none ∨ v1.ownBlock ≠ v2.ownBlock) ∧ Below w8.heap.size w8 wr) (fun _ _ i _ => sp.length - (intOf i).toNat)
        case atStart => exact ⟨0, by omega, rfl, World.ownsRow_nil _ _ _ _, World.ownsRow_nil _ _ _ _, .inl rfl, Below.refl _ _⟩
        case round =>
          obtain ⟨m, hm, rfl, ho1, ho2, HD, hB⟩ := hrel
          have HB9 := Lib.hid hB
          have HO1 := Lib.hid ho1
          have HO2 := Lib.hid ho2
          clear hB ho1 ho2
          by_cases hmn : m < sp.length
          · obtain ⟨bs, os, hb1, p1, p2⟩ := RangesAt.at_ HI2.out hmn
            have q1 := cell_below HB9.out p1
            have q2 := cell_below HB9.out p2
            have hlo := lows_snoc hmn rfl
            have hhi := highs_snoc hmn rfl
            generalize hx : sp[m] = y at p1 p2 q1 q2 hlo hhi
            clear hx
            obtain ⟨y1, y2⟩ := y
            dsimp only at p1 p2 q1 q2 hlo hhi
            have HLO := Lib.hid hlo
            have HHI := Lib.hid hhi
            clear hlo hhi
            subst hb1
            go_wp2
            have hsr := HB9.out.size
            have hT1 : ((sp.take m).map (·.1)).length ≤ 1000 := by simp; omega
            have hT2 : ((sp.take m).map (·.2)).length ≤ 1000 := by simp; omega
            go_region_held3 (fun W => W.cell? ⟨bs, os + m * 2, none⟩ = some (.int .i64 y1) ∧ W.cell? ⟨bs, os + m * 2 + 1, none⟩ = some (.int .i64 y2))
              (first | exact ⟨q1, q2⟩ | exact ⟨cell_alloc q1 _, cell_alloc q2 _⟩ | exact ⟨cell_alloc (cell_alloc q1 _) _, cell_alloc (cell_alloc q2 _) _⟩ | exact ⟨cell_below hBb p1, cell_below hBb p2⟩ | exact ⟨cell_below hBa p1, cell_below hBa p2⟩ | exact ⟨cell_alloc (cell_below hBa p1) _, cell_alloc (cell_below hBa p2) _⟩)
              (first
                | (refine step_append_lies _ (by rfl) (.tmp 167) (.tmp 173) _ (by rfl) w8.heap.size 2 i0 _ 1 8 Try.underlying23 hi0 hz0 hz1 hz2 rfl (by omega) u22 (((sp.take m).map (·.1))).length ((((sp.take m).map (·.1))).flatMap encI) (by rfl) (by first | exact (HO1.out.alloc _).drew | exact ((HO1.out.alloc _).alloc _).drew | exact HO1.out.alloc _ | exact (HO1.out.alloc _).alloc _) _ 1 1 (encI y1) (by rfl) (by rfl) (World.news_of_block (cs := #[.int .i64 y1]) (t := 2) (fr := (0, 0)) (by first | exact heap_alloc_new wr _ | exact blk_alloc (heap_alloc_new wr _) _ | exact heap_alloc_at _ _ (World.size_alloc _ _))) (oneI _) (by omega) (by simp only [maxLen]; omega) (by omega) (by first | omega | (simp; omega)) _ rfl ?_
                   intro g1 cap1 wa hown1 hg1 hat1 hlt1
                   have hsz1 := hg1.size
                   have hrow2 := World.ownsRow.kept (v := u23) (by first | exact (HO2.out.alloc _).drew | exact ((HO2.out.alloc _).alloc _).drew | exact HO2.out.alloc _ | exact (HO2.out.alloc _).alloc _) hg1 (ne_sym HD.out)
                   have hD1 := apart_push HD.out hat1 (fun r e => by have := own_lt HO2.out r e; simp; omega)
                   have hBa : Below w8.heap.size w8 wa := by first | exact (below_alloc' HB9.out _).drew.grown hg1 (by simp; omega) (fun r e => own_base HO1.out r e) | exact (below_alloc' (below_alloc' HB9.out _) _).drew.grown hg1 (by simp; omega) (fun r e => own_base HO1.out r e)
                   first
                     | have kb : wa.heap[wr.heap.size + 1]? = some (.cells #[.int .i64 y2] 2 (0, 0)) := blk_grown hg1 (by exact heap_alloc_at (wr.alloc _) _ (World.size_alloc _ _)) (by intro e; have := own_lt HO1.out _ e.symm; omega)
                     | have kb : wa.heap[wr.heap.size]? = some (.cells #[.int .i64 y2] 2 (0, 0)) := blk_grown hg1 (blk_alloc (heap_alloc_new wr _) _) (by intro e; have := own_lt HO1.out _ e.symm; omega)
                     | skip
                   have hsa := hBa.size)
                | (refine step_append_lies _ (by rfl) (.tmp 175) (.tmp 181) _ (by rfl) w8.heap.size 2 i0 _ 1 8 Try.underlying23 hi0 hz0 hz1 hz2 rfl (by omega) u23 (((sp.take m).map (·.2))).length ((((sp.take m).map (·.2))).flatMap encI) (by rfl) (by first | exact hrow2.alloc _ | exact (hrow2.alloc _).drew) _ 1 1 (encI y2) (by rfl) (by rfl) (World.news_of_block (cs := #[.int .i64 y2]) (t := 2) (fr := (0, 0)) (by exact heap_alloc_new wa _)) (oneI _) (by omega) (by simp only [maxLen]; omega) (by omega) (by first | omega | (simp; omega)) _ rfl ?_
                   intro g2 cap2 wb hown2 hg2 hat2 hlt2
                   have hsz2 := hg2.size
                   have hrow1 := World.ownsRow.kept (v := .slice (some ⟨g1, 0, none⟩) ((((sp.take m).map (·.1))).length + 1) cap1) (by first | exact hown1.alloc _ | exact (hown1.alloc _).drew) hg2 (ne_sym hD1)
                   have hne : g1 ≠ g2 := by
                     intro e
                     rcases hat2 with h | h
                     · rcases hD1 with k | k
                       · rw [k] at h; cases h
                       · exact k (by rw [h, e])
                     · first | omega | (simp at h; omega)
                   have hBb : Below w8.heap.size w8 wb := by first | exact (below_alloc' hBa _).grown hg2 (by simp; omega) (fun r e => own_base HO2.out r e) | exact (below_alloc' hBa _).drew.grown hg2 (by simp; omega) (fun r e => own_base HO2.out r e))
                | (refine step_append_lies _ (by rfl) (.tmp 175) (.tmp 181) _ (by rfl) w8.heap.size 2 i0 _ 1 8 Try.underlying23 hi0 hz0 hz1 hz2 rfl (by omega) u23 (((sp.take m).map (·.2))).length ((((sp.take m).map (·.2))).flatMap encI) (by rfl) (by first | exact hrow2 | exact hrow2.drew) _ 1 1 (encI y2) (by rfl) (by rfl) (World.news_of_block (cs := #[.int .i64 y2]) (t := 2) (fr := (0, 0)) kb) (oneI _) (by omega) (by simp only [maxLen]; omega) (by omega) (by first | omega | (simp; omega)) _ rfl ?_
                   intro g2 cap2 wb hown2 hg2 hat2 hlt2
                   have hsz2 := hg2.size
                   have hrow1 := World.ownsRow.kept (v := .slice (some ⟨g1, 0, none⟩) ((((sp.take m).map (·.1))).length + 1) cap1) (by first | exact hown1 | exact hown1.drew) hg2 (ne_sym hD1)
                   have hne : g1 ≠ g2 := by
                     intro e
                     rcases hat2 with h | h
                     · rcases hD1 with k | k
                       · rw [k] at h; cases h
                       · exact k (by rw [h, e])
                     · first | omega | (simp at h; omega)
                   have hBb : Below w8.heap.size w8 wb := by first | exact hBa.grown hg2 (by omega) (fun r e => own_base HO2.out r e) | exact hBa.drew.grown hg2 (by simp; omega) (fun r e => own_base HO2.out r e)))

            all_goals
              have hl1 : ((sp.take m).map (·.1)).length = m := by simp; omega
              have hl2 : ((sp.take m).map (·.2)).length = m := by simp; omega
              have E1 : wb.ownsRow w8.heap.size 2 1 (.slice (some ⟨g1, 0, none⟩) (m + 1) cap1) ((sp.take (m + 1)).map (·.1)).length (((sp.take (m + 1)).map (·.1)).flatMap encI) := by
                rw [hl1] at hrow1
                rw [HLO.out, len_snoc, ← push_flat, hl1]; exact hrow1
              have E2 : wb.ownsRow w8.heap.size 2 1 (.slice (some ⟨g2, 0, none⟩) (m + 1) cap2) ((sp.take (m + 1)).map (·.2)).length (((sp.take (m + 1)).map (·.2)).flatMap encI) := by
                rw [hl2] at hown2
                rw [HHI.out, len_snoc, ← push_flat, hl2]; exact hown2
              have HE1 := Lib.hid E1
              have HE2 := Lib.hid E2
              have HNE := Lib.hid hne
              have HBb := Lib.hid hBb
              clear hown1 hg1 hat1 hlt1 hsz1 hrow2 hD1 hBa hsa hown2 hg2 hat2 hlt2 hsz2 hrow1 hne hBb E1 E2 hl1 hl2 q1 q2 p1 p2
              try clear kb
              go_wp2
              go_roundw
              case rel => exact ⟨m + 1, by omega, by go_num, HE1.out, HE2.out, .inr (by simpa [Value.ownBlock] using HNE.out), HBb.out⟩
              case measure => simp [intOf]; omega
          · have hml : m = sp.length := by omega
            subst hml
            have hown1 := HO1.out
            have hown2 := HO2.out
            rw [List.take_length, List.length_map] at hown1 hown2
            obtain ⟨A5, c5, rfl, _⟩ := own_form hown1
            obtain ⟨A6, c6, rfl, _⟩ := own_form hown2
            obtain ⟨w9, hw9⟩ : ∃ w9, w9 = wr := ⟨_, rfl⟩
            subst hw9
            replace HI2 := Lib.hid (HI2.out.below HB9.out)
            replace HI3 := Lib.hid (HI3.out.below HB9.out)
            replace HL8 := Lib.hid (HL8.out.below HB9.out)
            replace HU8 := Lib.hid (HU8.out.below HB9.out)
            replace HS8 := Lib.hid (HS8.out.below HB9.out)
            have x0 := cell_below HB9.out X0.out
            have x1 := cell_below HB9.out X1.out
            have e0 := cell_below HB9.out E0.out
            have e1 := cell_below HB9.out E1.out
            replace HB9 := Lib.hid (below_trans' HB8.out HB9.out)
            obtain ⟨lo, hlo⟩ : ∃ lo, lo = sp.map (·.1) := ⟨_, rfl⟩
            obtain ⟨hi, hhi⟩ : ∃ hi, hi = sp.map (·.2) := ⟨_, rfl⟩
            rw [← hlo] at hown1
            rw [← hhi] at hown2
            have hll : lo.length = sp.length := by rw [hlo, List.length_map]
            have hhl : hi.length = sp.length := by rw [hhi, List.length_map]
            have HI5 : Hid (IntsAt w9 A5 lo) := Lib.hid (RowsAt.of_own encI_len (by rw [hll]; exact hown1))
            have HI6 : Hid (IntsAt w9 A6 hi) := Lib.hid (RowsAt.of_own encI_len (by rw [hhl]; exact hown2))
            have HLL := Lib.hid hll
            have HHL := Lib.hid hhl
            clear hlo hhi hll hhl hown1 hown2 HO1 HO2 HD X0 X1 E0 E1
            have Hc := Lib.hid (by_any (some ⟨b3, o3, none⟩) B ca cb l u w9 HL8.out HU8.out H0.out (by omega) Hu2.out)
            go_wp2_with fail
            refine Hc.out.mono ?_
            rintro e w10 ⟨v, rfl, ⟨C9, c9, x, rfl, hx9, hI9, hR9, hC9, hl9⟩, hB10⟩
            have HB10 := Lib.hid (below_trans' HB9.out hB10)
            replace HI2 := Lib.hid (HI2.out.below hB10)
            replace HI3 := Lib.hid (HI3.out.below hB10)
            replace HI5 := Lib.hid (HI5.out.below hB10)
            replace HI6 := Lib.hid (HI6.out.below hB10)
            replace HS8 := Lib.hid (HS8.out.below hB10)
            replace HL8 := Lib.hid (HL8.out.below hB10)
            replace x0 := cell_below hB10 x0
            replace x1 := cell_below hB10 x1
            replace e0 := cell_below hB10 e0
            replace e1 := cell_below hB10 e1
            clear hB10 Hc
            have HI9 := Lib.hid hI9
            clear hx9 hR9 hC9 hI9 HU8
            go_wp2
            obtain ⟨wA, hwA⟩ : ∃ wA, wA = w10.alloc (.cells #[.slice B3 sp.length c3, .slice A5 sp.length c5, .slice A6 sp.length c6, .slice C9 x.length c9, .slice C s.length cc] 23) := ⟨_, rfl⟩
            have HLB : Hid (wA.heap[w10.heap.size]? = some (.cells #[.slice B3 sp.length c3, .slice A5 sp.length c5, .slice A6 sp.length c6, .slice C9 x.length c9, .slice C s.length cc] 23 (0, 0))) := Lib.hid (by rw [hwA]; exact heap_alloc_new _ _)
            have hB10 : Below w10.heap.size w10 wA := by rw [hwA]; exact below_alloc' (Below.refl _ _) _
            replace HI3 := Lib.hid (HI3.out.below hB10)
            replace HI5 := Lib.hid (HI5.out.below hB10)
            replace HI6 := Lib.hid (HI6.out.below hB10)
            replace HI9 := Lib.hid (HI9.out.below hB10)
            replace HS8 := Lib.hid (HS8.out.below hB10)
            replace HL8 := Lib.hid (HL8.out.below hB10)
            have X0 := Lib.hid (cell_below hB10 x0)
            have X1 := Lib.hid (cell_below hB10 x1)
            have E0 := Lib.hid (cell_below hB10 e0)
            have E1 := Lib.hid (cell_below hB10 e1)
            have HBA := Lib.hid (below_trans' HB10.out hB10)
            rw [← hwA]
            generalize w10.heap.size = lb at HLB ⊢
            clear hwA hB10 x0 x1 e0 e1
            go_loopw [26] (fun i wr => ∃ m : Nat, m ≤ 5 ∧ i = .int .i64 m ∧ Below wA.heap.size wA wr) (fun i _ => 5 - (intOf i).toNat)
            case atStart => exact ⟨0, by omega, rfl, Below.refl _ _⟩
            case round =>
              obtain ⟨m, hm, rfl, hB⟩ := hrel
              have HB := Lib.hid hB
              clear hB
              by_cases hm5 : m < 5
              · have hX : ∃ Ax X cx, wr.cell? ⟨lb, m, none⟩ = some (.slice Ax X.length cx) ∧ IntsAt wr Ax X ∧ X.length ≤ 1000 := by
                  have : m = 0 ∨ m = 1 ∨ m = 2 ∨ m = 3 ∨ m = 4 := by omega
                  rcases this with rfl | rfl | rfl | rfl | rfl
                  · exact ⟨B3, s3, c3, cell_below HB.out ((blk_cell HLB.out).trans (by rw [HLN.out]; rfl)), HI3.out.below HB.out, by rw [HLN.out]; omega⟩
                  · exact ⟨A5, lo, c5, cell_below HB.out ((blk_cell HLB.out).trans (by rw [HLL.out]; rfl)), HI5.out.below HB.out, by rw [HLL.out]; omega⟩
                  · exact ⟨A6, hi, c6, cell_below HB.out ((blk_cell HLB.out).trans (by rw [HHL.out]; rfl)), HI6.out.below HB.out, by rw [HHL.out]; omega⟩
                  · exact ⟨C9, x, c9, cell_below HB.out ((blk_cell HLB.out).trans rfl), HI9.out.below HB.out, by omega⟩
                  · exact ⟨C, s, cc, cell_below HB.out ((blk_cell HLB.out).trans rfl), HS8.out.below HB.out, by omega⟩
                obtain ⟨Ax, X, cx, g1, hIX, hXl⟩ := hX
                have HIX := Lib.hid hIX
                clear hIX
                have hk1 := refCheckScale_any (some ⟨b3, o3, none⟩) Ax ca cx l X wr (HL8.out.below HB.out) HIX.out (by omega) (by omega)
                have hR : scaleErr l X = 0 → Right l X := fun h => scaleErr_right H0.out h
                generalize scaleErr l X = ex at hk1 hR
                have HK1 := Lib.hid hk1
                have HR := Lib.hid hR
                clear hk1 hR
                by_cases e1 : X.length = sp.length
                · have d1 : ((X.length : Int) != (sp.length : Int)) = false := by simp [e1]
                  have hshX : ShortIs l X.length := by rw [e1]; exact HIS.out.short HG.out
                  have HSX := Lib.hid hshX
                  have E1' := Lib.hid e1
                  clear e1 hshX
                  go_wp2_with fail
                  refine HK1.out.mono ?_
                  rintro e w11 ⟨v, rfl, rfl, hB11⟩
                  clear HK1
                  replace g1 := cell_below hB11 g1
                  have HB11 := Lib.hid (below_trans' HB.out hB11)
                  replace HIX := Lib.hid (HIX.out.below hB11)
                  clear hB11
                  by_cases e2 : ex = 0
                  · have d2 : (ex != 0) = false := by simp [e2]
                    have hon := HON.out X (HR.out e2) HSX.out
                    have E2 := Lib.hid e2
                    have e0 := cell_below HB11.out E0.out
                    have e1 := cell_below HB11.out E1.out
                    have hme := fun W (h : IntsAt W Ax X) => meets_any (r1, r2) Ax cx X W h (by omega)
                    unfold vR at hme
                    generalize X.any (onR (r1, r2)) = on at hon hme
                    have Hon := Lib.hid hon
                    have HME := Lib.hid hme
                    clear e2 hon hme HR
                    go_wp2
                    go_region_held3 (fun W => W.cell? ⟨b9, 0, none⟩ = some (.int .i64 r1) ∧ W.cell? ⟨b9, 1, none⟩ = some (.int .i64 r2) ∧ W.cell? ⟨lb, m, none⟩ = some (.slice Ax X.length cx))
                      (first | exact ⟨e0, e1, g1⟩ | exact ⟨cell_below hB12 e0, cell_below hB12 e1, cell_below hB12 g1⟩)
                      (first | (go_at_call 34; refine (HME.out _ (by exact HIX.out)).mono ?_; rintro e w12 ⟨v, rfl, rfl, hB12⟩; replace hB12 : Below w11.heap.size w11 w12 := (by first | exact below_drew_of (Below.refl _ _) hB12 | exact hB12)))
                    all_goals
                      have HB12 := Lib.hid (below_trans' HB11.out hB12)
                      have x0 := cell_below HB12.out X0.out
                      have x1 := cell_below HB12.out X1.out
                      have hon := Hon.out
                      clear hB12 e0 e1 g1 HME
                      cases on
                      all_goals cases a2
                      all_goals cases b2
                      all_goals first
                        | (exfalso; simp at hon; done)
                        | (clear hon Hon HON HNO
                           go_wp2
                           go_roundw
                           case rel => exact ⟨m + 1, by omega, by go_num, HB12.out⟩
                           case measure => simp [intOf]; omega
                           )
                  · have d2 : (ex != 0) = true := by simp [e2]
                    have E2 := Lib.hid e2
                    clear e2
                    go_wp2
                    go_roundw
                    case rel => exact ⟨m + 1, by omega, by go_num, HB11.out⟩
                    case measure => simp [intOf]; omega
                · have d1 : ((X.length : Int) != (sp.length : Int)) = true := by simp; omega
                  have E1' := Lib.hid e1
                  clear e1
                  go_wp2
                  go_roundw
                  case rel => exact ⟨m + 1, by omega, by go_num, HB.out⟩
                  case measure => simp [intOf]; omega
              · have HBB := Lib.hid (below_trans' HBA.out HB.out)
                go_wp2_with fail
                refine (works_any _).mono ?_
                rintro e wz ⟨v, rfl, rfl, hBz⟩
                go_wp2
                go_ret
                exact Ret.mk' rfl ⟨rfl, below_trans' HBB.out hBz⟩
  · rw [show (decide (l.length ≤ 30) && decide (songErr l = 0)) = false by simp [h0]] at hf
    have Hf := Lib.hid hf
    clear hf h0 hn
    go_wp2_with fail
    refine Hf.out.mono ?_
    rintro e w1 ⟨v, rfl, rfl, hq1⟩
    have HB1 : Hid (Below w.heap.size w w1) := Lib.hid (by obtain ⟨q, rfl⟩ := hq1; exact below_drewN (below_alloc' (Below.refl _ _) _) _)
    clear hq1 Hf
    go_wp2_with fail
    refine (works_any _).mono ?_
    rintro e wz ⟨v, rfl, rfl, hBz⟩
    go_wp2
    go_ret
    exact Ret.mk' rfl ⟨rfl, below_trans' HB1.out hBz⟩
end Go.Proofs.Ytkjmeeggjmeajaa
