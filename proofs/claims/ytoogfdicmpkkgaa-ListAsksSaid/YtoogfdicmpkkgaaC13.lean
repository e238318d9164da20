/- ref: Ask. ListAsks. -/
import Derived.Test.YtoogfdicmpkkgaaC12
namespace Go.Proofs.Ytoogfdicmpkkgaa
open Go.RowKit Go.Shelf Go.Maps Match

theorem leastQ_mem : ∀ (l : List (Int × Int)) (q : Int × Int), leastQ l q = q ∨ leastQ l q ∈ l
  | [], q => .inl rfl
  | x :: l, q => by
    rcases leastQ_mem l (if x.2 < q.2 then x else q) with h | h
    · by_cases c : x.2 < q.2
      · rw [if_pos c] at h
        right
        show leastQ l (if x.2 < q.2 then x else q) ∈ x :: l
        rw [if_pos c, h]; simp
      · rw [if_neg c] at h
        left
        show leastQ l (if x.2 < q.2 then x else q) = q
        rw [if_neg c, h]
    · right
      show leastQ l (if x.2 < q.2 then x else q) ∈ x :: l
      exact List.mem_cons_of_mem _ h
/-- the best so far, as the definition keeps it -/
def refBest : List (Int × Int) → Int × Int
  | [] => (-1, 0)
  | q :: l => leastQ l q
theorem refBest_ge {l : List (Int × Int)} (h : ∀ q ∈ l, 0 ≤ q.1) (hne : l ≠ []) : 0 ≤ (refBest l).1 := by
  cases l with
  | nil => exact absurd rfl hne
  | cons q l =>
    show 0 ≤ (leastQ l q).1
    rcases leastQ_mem l q with e | e
    · rw [e]; exact h q (by simp)
    · exact h _ (List.mem_cons_of_mem _ e)
theorem refBest_snoc {l : List (Int × Int)} (h : ∀ q ∈ l, 0 ≤ q.1) (x : Int × Int) : refBest (l ++ [x]) = if (refBest l).1 < 0 ∨ x.2 < (refBest l).2 then x else refBest l := by
  cases l with
  | nil => rfl
  | cons q l =>
    have h0 := refBest_ge h (by simp)
    show leastQ (l ++ [x]) q = _
    rw [leastQ_snoc]
    show (if x.2 < (refBest (q :: l)).2 then x else refBest (q :: l)) = _
    by_cases c : x.2 < (refBest (q :: l)).2
    · rw [if_pos c, if_pos (.inr c)]
    · rw [if_neg c, if_neg (fun e => e.elim (fun e => by omega) c)]
/-- the questions about the first n links -/
def qsP (s : Sh) (n : Nat) : List (Int × Int) := ((List.range n).filter fun j => (kindsC s).getD j 0 == 1).map fun j : Nat => ((j : Int), askC s j)
theorem qsP_step (s : Sh) (n : Nat) : qsP s (n + 1) = if (kindsC s).getD n 0 = 1 then qsP s n ++ [((n : Int), askC s n)] else qsP s n := by
  unfold qsP
  rw [List.range_succ, List.filter_append, List.map_append]
  by_cases c : (kindsC s).getD n 0 = 1
  · rw [if_pos c]; simp only [List.filter_cons, c, beq_self_eq_true, if_true, List.filter_nil, List.map_cons, List.map_nil]
  · rw [if_neg c]
    have : ((kindsC s).getD n 0 == 1) = false := by simpa using c
    simp only [List.filter_cons, this, Bool.false_eq_true, if_false, List.filter_nil, List.map_nil, List.append_nil]
theorem qsP_ge (s : Sh) (n : Nat) : ∀ q ∈ qsP s n, 0 ≤ q.1 := fun q hq => by
  unfold qsP at hq
  obtain ⟨j, _, rfl⟩ := List.mem_map.1 hq
  dsimp only; omega
theorem askV_best (s : Sh) : askV (qsC s) = if (refBest (qsP s s.l.length)).1 < 0 then .tuple #[.int .i64 0, .int .i64 0, .int .i64 5] else .tuple #[.int .i64 (refBest (qsP s s.l.length)).1, .int .i64 (refBest (qsP s s.l.length)).2, .int .i64 0] := by
  show askV (qsP s s.l.length) = _
  have h := qsP_ge s s.l.length
  generalize qsP s s.l.length = qs at h
  cases qs with
  | nil => rfl
  | cons q l =>
    have h0 := refBest_ge h (by simp)
    rw [if_neg (by omega)]
    rfl
theorem refBest_bound (s : Sh) (n : Nat) (hn : n ≤ 40) : -1 ≤ (refBest (qsP s n)).1 ∧ (refBest (qsP s n)).1 ≤ 40 := by
  by_cases c : qsP s n = []
  · rw [c]; decide
  · have h0 := refBest_ge (qsP_ge s n) c
    refine ⟨by omega, ?_⟩
    have hm : refBest (qsP s n) ∈ qsP s n := by
      cases hq : qsP s n with
      | nil => exact absurd hq c
      | cons q l =>
        rcases leastQ_mem l q with e | e
        · show leastQ l q ∈ q :: l
          rw [e]; simp
        · exact List.mem_cons_of_mem _ e
    generalize refBest (qsP s n) = r at hm h0 ⊢
    unfold qsP at hm
    obtain ⟨j, hj, rfl⟩ := List.mem_map.1 hm
    have := List.mem_range.1 (List.mem_filter.1 hj).1
    dsimp only; omega

set_option maxRecDepth 100000 in
set_option maxHeartbeats 4000000 in
theorem refAskS (s : Sh) (w : World) (hs : ShAt w s) (hv : Sheet s.L s.R s.l s.t) :
    Calls Try.prog 31 #[s.v] w (Ret fun v w' => v = askV (qsC s) ∧ Below w.heap.size w w') := by
  obtain ⟨L, R, A, ca, B, cb, l, t⟩ := s
  have HA := Lib.hid hs
  have HV := Lib.hid hv
  have hmany := hv.many
  clear hs hv
  unfold Sh.v vSheet
  dsimp only at hmany ⊢
  obtain ⟨w1, hw1⟩ : ∃ w1, w1 = w.alloc (.cells #[.int .i64 L, .int .i64 R, .slice A l.length ca, .slice B t.length cb] 25) := ⟨_, rfl⟩
  have HB1 : Hid (Below w.heap.size w w1) := Lib.hid (by rw [hw1]; exact below_alloc' (Below.refl _ _) _)
  have hX : w1.heap[w.heap.size]? = some (.cells #[.int .i64 L, .int .i64 R, .slice A l.length ca, .slice B t.length cb] 25 (0, 0)) := by rw [hw1]; exact heap_alloc_new _ _
  have y0 : w1.cell? ⟨w.heap.size, 0, none⟩ = some (.int .i64 L) := (blk_cell hX).trans rfl
  have y1 : w1.cell? ⟨w.heap.size, 1, none⟩ = some (.int .i64 R) := (blk_cell hX).trans rfl
  have y2 : w1.cell? ⟨w.heap.size, 2, none⟩ = some (.slice A l.length ca) := (blk_cell hX).trans rfl
  have y3 : w1.cell? ⟨w.heap.size, 3, none⟩ = some (.slice B t.length cb) := (blk_cell hX).trans rfl
  replace HA := Lib.hid (HA.out.below HB1.out)
  go_enter Try.func31, Try.ntmps31
  go_upto_region 1 with fail
  rw [← hw1]
  clear hw1 hX
  have hc := refCheckSheetS ⟨L, R, A, ca, B, cb, l, t⟩ w1 HA.out
  dsimp only at hc
  rw [show sheetErr L R l t = 0 from sheetErr_iff.2 HV.out] at hc
  have Hc := Lib.hid (hc)
  try dsimp only at Hc
  go_wp2_with fail
  refine Hc.out.mono ?_
  rintro e w2 ⟨v, rfl, rfl, hb⟩
  have HB2 := Lib.hid (below_trans' HB1.out hb)
  replace HA := Lib.hid (HA.out.below hb)
  replace y0 := cell_below hb y0
  replace y1 := cell_below hb y1
  replace y2 := cell_below hb y2
  replace y3 := cell_below hb y3
  clear hb Hc HB1 hc
  have Hc := Lib.hid (refKindsS ⟨L, R, A, ca, B, cb, l, t⟩ w2 HA.out HV.out)
  try dsimp only at Hc
  go_wp2_with fail
  refine Hc.out.mono ?_
  rintro e w3 ⟨v, rfl, ⟨G1, c1, rfl, h1, n1⟩, hb⟩
  have HB3 := Lib.hid (below_trans' HB2.out hb)
  replace HA := Lib.hid (HA.out.below hb)
  replace y0 := cell_below hb y0
  replace y1 := cell_below hb y1
  replace y2 := cell_below hb y2
  replace y3 := cell_below hb y3
  clear hb Hc HB2 
  obtain ⟨ks, hks⟩ : ∃ ks, kindsC ⟨L, R, A, ca, B, cb, l, t⟩ = ks := ⟨_, rfl⟩
  have hkl1 := kindsC_len ⟨L, R, A, ca, B, cb, l, t⟩
  rw [hks] at h1 n1 hkl1
  rw [hks]
  try dsimp only at hkl1
  rw [hkl1]
  have HK := Lib.hid hks
  have HL1 := Lib.hid hkl1
  have H1 := Lib.hid h1
  clear h1 n1 hks hkl1
  go_upto_region 5 with fail
  go_wp2
  go_loopw [5, 6, 9] (fun bv lv iv wr => ∃ k : Nat, k ≤ l.length ∧ iv = .int .i64 k ∧ bv = .int .i64 (refBest (qsP ⟨L, R, A, ca, B, cb, l, t⟩ k)).1 ∧ lv = .int .i64 (refBest (qsP ⟨L, R, A, ca, B, cb, l, t⟩ k)).2 ∧ Hid (Below w3.heap.size w3 wr)) (fun _ _ iv _ => l.length - (intOf iv).toNat)
  case atStart => exact ⟨0, by omega, rfl, rfl, rfl, Lib.hid (Below.refl _ _)⟩
  case round =>
    obtain ⟨k, hk, rfl, rfl, rfl, HBr⟩ := hrel
    by_cases hkl : k < l.length
    · have ik0 : (0 : Int) ≤ (k : Int) := by omega
      have ik1 : (k : Int) < (l.length : Int) := by omega
      have HST := Lib.hid (qsP_step ⟨L, R, A, ca, B, cb, l, t⟩ k)
      have HSN := Lib.hid (refBest_snoc (qsP_ge ⟨L, R, A, ca, B, cb, l, t⟩ k))
      have hbd := refBest_bound ⟨L, R, A, ca, B, cb, l, t⟩ k (by omega)
      obtain ⟨q1, hG1, p1⟩ := IntsAt.get' (H1.out.below HBr.out) (show k < ks.length by rw [HL1.out]; exact hkl)
      obtain ⟨hG1, p1⟩ := p1
      subst hG1
      have HKC := Lib.hid (kindsC_at ⟨L, R, A, ca, B, cb, l, t⟩ hkl)
      rw [HK.out] at HST HKC
      obtain ⟨rb, hrb⟩ : ∃ rb, refBest (qsP ⟨L, R, A, ca, B, cb, l, t⟩ k) = rb := ⟨_, rfl⟩
      have HRB := Lib.hid hrb
      rw [hrb] at HSN hbd ⊢
      clear hrb
      obtain ⟨kv, hkv⟩ : ∃ kv, ks.getD k 0 = kv := ⟨_, rfl⟩
      rw [hkv] at p1 HST HKC
      clear hkv
      by_cases h1 : kv = 1
      · subst h1
        rw [if_pos rfl] at HST
        have hck : kindC ⟨L, R, A, ca, B, cb, l, t⟩ k = 1 := HKC.out.symm
        have hnt : (k : Int) ∉ t := fun hm => by
          have : kindC ⟨L, R, A, ca, B, cb, l, t⟩ k = 2 := by
            unfold kindC
            rw [show List.contains (Sh.t ⟨L, R, A, ca, B, cb, l, t⟩) (k : Int) = true by simpa using hm]; rfl
          omega
        have hfr : freeP ⟨L, R, A, ca, B, cb, l, t⟩ k = true := kind_free (by rw [hck]; decide) hnt
        have HFR := Lib.hid hfr
        have HYS := Lib.hid (HV.out.yes hkl hfr)
        have HYN := Lib.hid (Sheet.no (s := ⟨L, R, A, ca, B, cb, l, t⟩) HV.out hkl hnt)
        have d0 : wr.drew.cell? ⟨w.heap.size, 0, none⟩ = some (.int .i64 L) := cell_below HBr.out y0
        have d1 : wr.drew.cell? ⟨w.heap.size, 1, none⟩ = some (.int .i64 R) := cell_below HBr.out y1
        have d2 : wr.drew.cell? ⟨w.heap.size, 2, none⟩ = some (.slice A l.length ca) := cell_below HBr.out y2
        have d3 : wr.drew.cell? ⟨w.heap.size, 3, none⟩ = some (.slice B t.length cb) := cell_below HBr.out y3
        have HBv : Hid (Below wr.heap.size wr wr.drew) := Lib.hid ((Below.refl _ _).drew)
        have HAv : Hid (ShAt wr.drew ⟨L, R, A, ca, B, cb, l, t⟩) := Lib.hid ((HA.out.below HBr.out).below HBv.out)
        clear hck hnt hfr
        go_upto_region 9 with fail
        go_cut [10] (fun s10 wx => s10 = .int .i64 (askC ⟨L, R, A, ca, B, cb, l, t⟩ k) ∧ Hid (Below wr.heap.size wr wx))
        case first =>
          clear HST HSN hbd HKC p1
          refine wp_region_held (S := fun W => W.cell? ⟨w.heap.size, 0, none⟩ = some (.int .i64 L) ∧ W.cell? ⟨w.heap.size, 1, none⟩ = some (.int .i64 R) ∧ W.cell? ⟨w.heap.size, 2, none⟩ = some (.slice A l.length ca) ∧ W.cell? ⟨w.heap.size, 3, none⟩ = some (.slice B t.length cb)) (by kernel_rfl) ?_
          refine wpAnyH_take (i := 0) (v := ?_) rfl (by kernel_rfl) (by kernel_rfl) (by kernel_rfl) (fun _ _ _ h => h) (Or.inl ⟨by rfl, ?_⟩) ⟨d0, d1, d2, d3⟩ ?_
          rotate_left 1
          · intro W hW; obtain ⟨s0, s1, s2, s3⟩ := hW; go_simp <;> with_reducible rfl
          refine wpAnyH_take (i := 1) (v := ?_) rfl (by kernel_rfl) (by kernel_rfl) (by kernel_rfl) (fun _ _ _ h => h) (Or.inl ⟨by rfl, ?_⟩) ⟨d0, d1, d2, d3⟩ ?_
          rotate_left 1
          · intro W hW; obtain ⟨s0, s1, s2, s3⟩ := hW; go_simp <;> with_reducible rfl
          refine wpAnyH_take (i := 4) (v := ?_) rfl (by kernel_rfl) (by kernel_rfl) (by kernel_rfl) (fun _ _ _ h => h) (Or.inl ⟨by rfl, ?_⟩) ⟨d0, d1, d2, d3⟩ ?_
          rotate_left 1
          · intro W hW; obtain ⟨s0, s1, s2, s3⟩ := hW; go_simp <;> with_reducible rfl
          refine wpAnyH_take (i := 5) (v := ?_) rfl (by kernel_rfl) (by kernel_rfl) (by kernel_rfl) (fun _ _ _ h => h) (Or.inl ⟨by rfl, ?_⟩) ⟨d0, d1, d2, d3⟩ ?_
          rotate_left 1
          · intro W hW; obtain ⟨s0, s1, s2, s3⟩ := hW; go_simp <;> with_reducible rfl
          simp only [Act.put, List.setIfInBounds_toArray]
          refine wpAnyH_ready (rs := [2]) (by kernel_rfl) (by simp) ?_
          refine AllReadyH.cons rfl (fun K hK => ?_) AllReadyH.nil
          go_simp
          refine (knowingS ⟨L, R, A, ca, B, cb, l, t⟩ k _ HAv.out HV.out hkl HFR.out).mono ?_
          rintro e V1 ⟨v, rfl, ⟨Gx, cx, rfl, hx⟩, hb⟩
          replace HBv := Lib.hid (below_trans' HBv.out hb)
          replace HAv := Lib.hid (HAv.out.below hb)
          replace d0 := cell_below hb d0
          replace d1 := cell_below hb d1
          replace d2 := cell_below hb d2
          replace d3 := cell_below hb d3
          have HX := Lib.hid hx
          clear hx
          clear hb
          refine hK.out _ _ ⟨d0, d1, d2, d3⟩ (fun _ => ?_)
          clear hK K
          refine wpAnyH_ready (rs := [3]) (by kernel_rfl) (by simp) ?_
          refine AllReadyH.cons rfl (fun K hK => ?_) AllReadyH.nil
          go_simp
          refine (leftS ⟨L, R, A, ca, Gx, cx, l, yesT t k⟩ _ HX.out HYS.out).mono ?_
          rintro e V2 ⟨v, rfl, rfl, hb⟩
          replace HBv := Lib.hid (below_trans' HBv.out hb)
          replace HAv := Lib.hid (HAv.out.below hb)
          replace d0 := cell_below hb d0
          replace d1 := cell_below hb d1
          replace d2 := cell_below hb d2
          replace d3 := cell_below hb d3
          clear HX
          clear hb
          refine hK.out _ _ ⟨d0, d1, d2, d3⟩ (fun _ => ?_)
          clear hK K
          refine wpAnyH_ready (rs := [6]) (by kernel_rfl) (by simp) ?_
          refine AllReadyH.cons rfl (fun K hK => ?_) AllReadyH.nil
          go_simp
          refine (withoutS ⟨L, R, A, ca, B, cb, l, t⟩ k _ HAv.out HV.out).mono ?_
          rintro e V3 ⟨v, rfl, ⟨Gy, cy, Gz, cz, rfl, hy⟩, hb⟩
          replace HBv := Lib.hid (below_trans' HBv.out hb)
          replace HAv := Lib.hid (HAv.out.below hb)
          replace d0 := cell_below hb d0
          replace d1 := cell_below hb d1
          replace d2 := cell_below hb d2
          replace d3 := cell_below hb d3
          have HY := Lib.hid hy
          clear hy
          clear hb
          refine hK.out _ _ ⟨d0, d1, d2, d3⟩ (fun _ => ?_)
          clear hK K
          refine wpAnyH_ready (rs := [7]) (by kernel_rfl) (by simp) ?_
          refine AllReadyH.cons rfl (fun K hK => ?_) AllReadyH.nil
          go_simp
          refine (leftS ⟨L, R, Gy, cy, Gz, cz, l.eraseIdx k, noT t k⟩ _ HY.out HYN.out).mono ?_
          rintro e V4 ⟨v, rfl, rfl, hb⟩
          replace HBv := Lib.hid (below_trans' HBv.out hb)
          replace HAv := Lib.hid (HAv.out.below hb)
          replace d0 := cell_below hb d0
          replace d1 := cell_below hb d1
          replace d2 := cell_below hb d2
          replace d3 := cell_below hb d3
          clear HY
          clear hb
          refine hK.out _ _ ⟨d0, d1, d2, d3⟩ (fun _ => ?_)
          clear hK K
          refine wpAnyH_take (i := 8) (v := ?_) rfl (by kernel_rfl) (by kernel_rfl) (by kernel_rfl) (fun _ _ _ h => h) (Or.inl ⟨by rfl, ?_⟩) ⟨d0, d1, d2, d3⟩ ?_
          rotate_left 1
          · intro W hW; obtain ⟨s0, s1, s2, s3⟩ := hW; go_simp <;> with_reducible rfl
          refine wpAnyH_take (i := 9) (v := ?_) rfl (by kernel_rfl) (by kernel_rfl) (by kernel_rfl) (fun _ _ _ h => h) (Or.inl ⟨by rfl, ?_⟩) ⟨d0, d1, d2, d3⟩ ?_
          rotate_left 1
          · intro W hW; obtain ⟨s0, s1, s2, s3⟩ := hW; go_simp <;> with_reducible rfl
          simp only [Act.put, List.setIfInBounds_toArray]
          refine wpAnyH_done (by kernel_rfl) ?_ _
          go_simp
          try (go_wp2_with fail)
          go_meet
          exact ⟨rfl, HBv⟩
        case rest =>
          obtain ⟨rfl, HBv2⟩ := hcut
          have HB9 := Lib.hid (below_trans' HBr.out HBv2.out)
          have HSN' := Lib.hid (HSN.out ((k : Int), askC ⟨L, R, A, ca, B, cb, l, t⟩ k))
          obtain ⟨av, hav⟩ : ∃ av, askC ⟨L, R, A, ca, B, cb, l, t⟩ k = av := ⟨_, rfl⟩
          rw [hav] at HST HSN' ⊢
          dsimp only at HSN'
          clear d0 d1 d2 d3 HBv HAv HSN p1 hav HBv2
          obtain ⟨r1, r2⟩ := rb
          dsimp only at HSN' hbd ⊢
          by_cases c1 : r1 < 0
          · have e1 : decide (r1 < 0) = true := decide_eq_true c1
            replace HSN' := Lib.hid (HSN'.out.trans (if_pos (.inl c1)))
            go_wp2
            go_roundw
            case rel => exact ⟨k + 1, by omega, by go_num, by rw [HST.out, HSN'.out], by rw [HST.out, HSN'.out], HB9⟩
            case measure => simp [intOf]; omega
          · have e1 : decide (r1 < 0) = false := decide_eq_false c1
            by_cases c2 : av < r2
            · have e2 : decide (av < r2) = true := decide_eq_true c2
              replace HSN' := Lib.hid (HSN'.out.trans (if_pos (.inr c2)))
              go_wp2
              go_roundw
              case rel => exact ⟨k + 1, by omega, by go_num, by rw [HST.out, HSN'.out], by rw [HST.out, HSN'.out], HB9⟩
              case measure => simp [intOf]; omega
            · have e2 : decide (av < r2) = false := decide_eq_false c2
              replace HSN' := Lib.hid (HSN'.out.trans (if_neg (fun e => e.elim c1 c2)))
              go_wp2
              go_roundw
              case rel => exact ⟨k + 1, by omega, by go_num, by rw [HST.out, HSN'.out], by rw [HST.out, HSN'.out], HB9⟩
              case measure => simp [intOf]; omega
      · have e1 : (kv != 1) = true := by simpa using h1
        rw [if_neg h1] at HST
        go_wp2
        go_roundw
        case rel => exact ⟨k + 1, by omega, by go_num, by rw [HST.out, HRB.out], by rw [HST.out, HRB.out], HBr⟩
        case measure => simp [intOf]; omega
    · have hke : k = l.length := by omega
      subst hke
      have HAV := Lib.hid (askV_best ⟨L, R, A, ca, B, cb, l, t⟩)
      have HBE := Lib.hid (below_trans' HB3.out HBr.out)
      try dsimp only at HAV
      generalize refBest (qsP ⟨L, R, A, ca, B, cb, l, t⟩ l.length) = rb at HAV ⊢
      obtain ⟨r1, r2⟩ := rb
      dsimp only at HAV ⊢
      clear y0 y1 y2 y3
      by_cases c1 : r1 < 0
      · replace HAV := Lib.hid (HAV.out.trans (if_pos c1))
        go_wp2
        go_ret3
        exact Ret.mk ⟨HAV.out.symm, HBE.out⟩
      · replace HAV := Lib.hid (HAV.out.trans (if_neg c1))
        go_wp2
        go_ret3
        exact Ret.mk ⟨HAV.out.symm, HBE.out⟩
end Go.Proofs.Ytoogfdicmpkkgaa
