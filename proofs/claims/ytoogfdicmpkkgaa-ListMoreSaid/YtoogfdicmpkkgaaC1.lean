/- ref: Knowing. -/
import Derived.Test.YtoogfdicmpkkgaaA48
import Derived.Test.YtoogfdicmpkkgaaPH
namespace Go.Proofs.Ytoogfdicmpkkgaa
open Go.RowKit Go.Shelf Go.Maps Match

def knowS (k : Int) (st : List Int × Bool) (x : Int) : List Int × Bool := if (!st.2 && decide (k < x)) = true then ((st.1 ++ [k]) ++ [x], true) else (st.1 ++ [x], st.2)
def knowF (k : Int) (t : List Int) : List Int × Bool := t.foldl (knowS k) ([], false)
def knowT (k : Int) (t : List Int) : List Int := if (knowF k t).2 = true then (knowF k t).1 else (knowF k t).1 ++ [k]
theorem knowF_step {k : Int} {t : List Int} {i : Nat} (hi : i < t.length) : knowF k (t.take (i + 1)) = knowS k (knowF k (t.take i)) t[i] := by
  unfold knowF
  rw [List.take_succ_eq_append_getElem hi, List.foldl_append]; rfl
theorem knowF_is {k : Int} {t : List Int} (hr : t.Pairwise (· < ·)) (hk : k ∉ t) : ∀ i, i ≤ t.length → (knowF k (t.take i)).1.Pairwise (· < ·) ∧ (∀ x, x ∈ (knowF k (t.take i)).1 ↔ x ∈ t.take i ∨ (knowF k (t.take i)).2 = true ∧ x = k) ∧ ((knowF k (t.take i)).2 = true ↔ ∃ y ∈ t.take i, k < y)
  | 0, _ => by simp [knowF]
  | i + 1, hi => by
    obtain ⟨h1, h2, h3⟩ := knowF_is hr hk i (by omega)
    have hi' : i < t.length := by omega
    have hlt : ∀ y ∈ t.take i, y < t[i] := fun y hy => by
      obtain ⟨j, hj, e⟩ := List.mem_iff_getElem.1 hy
      rw [List.length_take] at hj
      rw [List.getElem_take] at e
      rw [List.pairwise_iff_getElem] at hr
      have := hr j i (by omega) hi' (by omega)
      omega
    have hm : ∀ x, x ∈ t.take (i + 1) ↔ x ∈ t.take i ∨ x = t[i] := fun x => by rw [List.take_succ_eq_append_getElem hi', List.mem_append, List.mem_singleton]
    have hki : t[i] ≠ k := fun e => hk (e ▸ List.getElem_mem hi')
    have hkt : ∀ y ∈ t.take i, y ≠ k := fun y hy e => hk (e ▸ List.mem_of_mem_take hy)
    rw [knowF_step hi']
    generalize knowF k (t.take i) = st at h1 h2 h3 ⊢
    obtain ⟨acc, dn⟩ := st
    dsimp only at h1 h2 h3
    unfold knowS
    dsimp only
    cases dn
    · have hno : ∀ y ∈ t.take i, y < k := fun y hy => by
        have h4 : ¬ ∃ y ∈ t.take i, k < y := fun h => by have := h3.2 h; simp at this
        have h5 : ¬ k < y := fun h => h4 ⟨y, hy, h⟩
        have := hkt y hy
        omega
      have hacc : ∀ x ∈ acc, x ∈ t.take i := fun x hx => by
        rcases (h2 x).1 hx with h | ⟨h, _⟩
        · exact h
        · simp at h
      by_cases c : k < t[i]
      · rw [if_pos (by simpa using c)]
        dsimp only
        refine ⟨?_, fun x => ?_, by simp only [true_iff]; exact ⟨t[i], (hm _).2 (.inr rfl), c⟩⟩
        · rw [List.pairwise_append, List.pairwise_append]
          refine ⟨⟨h1, by simp, fun a ha b hb => by simp at hb; subst hb; exact hno a (hacc a ha)⟩, by simp, fun a ha b hb => ?_⟩
          simp at hb
          rcases List.mem_append.1 ha with ha | ha
          · have := hlt a (hacc a ha); omega
          · simp at ha; omega
        · rw [hm, List.mem_append, List.mem_append, h2]
          simp
          exact or_right_comm
      · rw [if_neg (by simpa using c)]
        dsimp only
        refine ⟨?_, fun x => ?_, ?_⟩
        · rw [List.pairwise_append]
          exact ⟨h1, by simp, fun a ha b hb => by simp at hb; have := hlt a (hacc a ha); omega⟩
        · rw [hm, List.mem_append, h2]; simp
        · simp only [Bool.false_eq_true, false_iff]
          rintro ⟨y, hy, hky⟩
          rcases (hm y).1 hy with h | h
          · have := hno y h; omega
          · omega
    · rw [if_neg (by simp)]
      dsimp only
      obtain ⟨y, hy, hky⟩ := h3.1 rfl
      have hyt := hlt y hy
      refine ⟨?_, fun x => ?_, ?_⟩
      · rw [List.pairwise_append]
        refine ⟨h1, by simp, fun a ha b hb => ?_⟩
        simp at hb
        rcases (h2 a).1 ha with h | ⟨_, h⟩
        · have := hlt a h; omega
        · omega
      · rw [hm, List.mem_append, h2]
        simp
        constructor
        · rintro ((h | h) | h)
          · exact .inl (.inl h)
          · exact .inr h
          · exact .inl (.inr h)
        · rintro ((h | h) | h)
          · exact .inl (.inl h)
          · exact .inr h
          · exact .inl (.inr h)
      · simp only [true_iff]
        exact ⟨y, (hm y).2 (.inl hy), hky⟩
theorem knowT_eq {k : Nat} {t : List Int} (hr : t.Pairwise (· < ·)) (hk : (k : Int) ∉ t) : knowT k t = yesT t k := by
  obtain ⟨h1, h2, h3⟩ := knowF_is hr hk t.length (Nat.le_refl _)
  rw [List.take_length] at h1 h2 h3
  refine rising_ext ?_ (sortI_rise (by rw [List.nodup_append]; exact ⟨rise_nodup hr, by simp, fun a ha b hb e => by simp at hb; subst hb; subst e; exact hk ha⟩)) fun x => ?_
  · unfold knowT
    by_cases c : (knowF (k : Int) t).2 = true
    · rw [if_pos c]; exact h1
    · rw [if_neg c, List.pairwise_append]
      refine ⟨h1, by simp, fun a ha b hb => ?_⟩
      simp at hb
      subst hb
      rcases (h2 a).1 ha with h | ⟨h, _⟩
      · have h4 : ¬ (k : Int) < a := fun h' => c (h3.2 ⟨a, h, h'⟩)
        have : a ≠ k := fun e => hk (e ▸ h)
        omega
      · exact absurd h c
  · rw [yesT_mem]
    unfold knowT
    by_cases c : (knowF (k : Int) t).2 = true
    · rw [if_pos c, h2]; simp [c]
    · rw [if_neg c, List.mem_append, h2]; simp [c]
theorem knowF_len (k : Int) (t : List Int) : ∀ i, i ≤ t.length → (knowF k (t.take i)).1.length ≤ i + 1 ∧ ((knowF k (t.take i)).2 = false → (knowF k (t.take i)).1.length ≤ i)
  | 0, _ => by simp [knowF]
  | i + 1, hi => by
    obtain ⟨h1, h2⟩ := knowF_len k t i (by omega)
    rw [knowF_step (by omega)]
    unfold knowS
    by_cases c : (!(knowF k (t.take i)).2 && decide (k < t[i])) = true
    · rw [if_pos c]
      have : (knowF k (t.take i)).2 = false := by
        rw [Bool.and_eq_true, Bool.not_eq_true'] at c; exact c.1
      have := h2 this
      refine ⟨by simp; omega, by simp⟩
    · rw [if_neg c]
      refine ⟨by simp; omega, fun h => by simp; exact h2 h⟩

theorem fill4_blk {W : World} {b : Nat} {t : TypeId} {c0 c1 c2 c3 : Value} (h : W.heap[b]? = some (.cells #[c0, c1, c2, c3] t (0, 0))) (a0 a1 a2 a3 : Value) :
    ((((W.setCell ⟨b, 0, none⟩ a0).setCell ⟨b, 1, none⟩ a1).setCell ⟨b, 2, none⟩ a2).setCell ⟨b, 3, none⟩ a3).heap[b]? = some (.cells #[a0, a1, a2, a3] t (0, 0)) := blk_set (i := 3) (blk_set (i := 2) (blk_set (i := 1) (blk_set (i := 0) h a0) a1) a2) a3
theorem fill4_own {W : World} {b base : Nat} {e : TypeId} {size n : Nat} {v : Value} {xs : List Value} (h : W.ownsRow base e size v n xs) (hb : b < base) (a0 a1 a2 a3 : Value) :
    ((((W.setCell ⟨b, 0, none⟩ a0).setCell ⟨b, 1, none⟩ a1).setCell ⟨b, 2, none⟩ a2).setCell ⟨b, 3, none⟩ a3).ownsRow base e size v n xs :=
  ownsRow_setCell_below (a := ⟨b, 3, none⟩) (ownsRow_setCell_below (a := ⟨b, 2, none⟩) (ownsRow_setCell_below (a := ⟨b, 1, none⟩) (ownsRow_setCell_below (a := ⟨b, 0, none⟩) h hb a0) hb a1) hb a2) hb a3
theorem fill4_below {w W : World} {b B : Nat} (h : Below B w W) (hb : B ≤ b) (a0 a1 a2 a3 : Value) :
    Below B w ((((W.setCell ⟨b, 0, none⟩ a0).setCell ⟨b, 1, none⟩ a1).setCell ⟨b, 2, none⟩ a2).setCell ⟨b, 3, none⟩ a3) :=
  (((h.setCell (p := ⟨b, 0, none⟩) hb a0).setCell (p := ⟨b, 1, none⟩) hb a1).setCell (p := ⟨b, 2, none⟩) hb a2).setCell (p := ⟨b, 3, none⟩) hb a3

set_option maxRecDepth 100000 in
set_option maxHeartbeats 2000000 in
theorem knowing_any (s : Sh) (k : Int) (w : World) (hs : ShAt w s) :
    Calls Try.prog 35 #[s.v, .int .i64 k] w (Ret fun v w' => (∃ G c, v = vSheet s.L s.R s.A s.l.length s.ca G (knowT k s.t).length c ∧ IntsAt w' G (knowT k s.t) ∧ (knowT k s.t).length ≤ c) ∧ Below w.heap.size w w') := by
  obtain ⟨L, R, A, ca, B, cb, l, t⟩ := s
  have HS := Lib.hid hs
  have hfew := hs.few
  clear hs
  unfold Sh.v vSheet
  dsimp only at hfew ⊢
  obtain ⟨w1, hw1⟩ : ∃ w1, w1 = (w.alloc (.cells #[.int .i64 L, .int .i64 R, .slice A l.length ca, .slice B t.length cb] 25)).alloc (.cells #[.int .i64 0, .int .i64 0, .slice none 0 0, .slice none 0 0] 25) := ⟨_, rfl⟩
  have HB1 : Hid (Below w.heap.size w w1) := Lib.hid (by rw [hw1]; exact below_alloc' (below_alloc' (Below.refl _ _) _) _)
  have hX : w1.heap[w.heap.size]? = some (.cells #[.int .i64 L, .int .i64 R, .slice A l.length ca, .slice B t.length cb] 25 (0, 0)) := by rw [hw1]; exact blk_alloc (heap_alloc_new _ _) _
  have hX2 : w1.heap[w.heap.size + 1]? = some (.cells #[.int .i64 0, .int .i64 0, .slice none 0 0, .slice none 0 0] 25 (0, 0)) := by rw [hw1]; exact heap_alloc_at _ _ (by simp)
  have y0 : w1.cell? ⟨w.heap.size, 0, none⟩ = some (.int .i64 L) := (blk_cell hX).trans rfl
  have y1 : w1.cell? ⟨w.heap.size, 1, none⟩ = some (.int .i64 R) := (blk_cell hX).trans rfl
  have y2 : w1.cell? ⟨w.heap.size, 2, none⟩ = some (.slice A l.length ca) := (blk_cell hX).trans rfl
  have y3 : w1.cell? ⟨w.heap.size, 3, none⟩ = some (.slice B t.length cb) := (blk_cell hX).trans rfl
  replace HS := Lib.hid (HS.out.below HB1.out)
  have HX2 := Lib.hid hX2
  go_enter Try.func35, Try.ntmps35
  go_upto_region 1 with fail
  rw [← hw1]
  clear hw1 hX hX2
  go_wp2
  go_loopw [5, 6, 7] (fun tv dn i wr => ∃ (j : Nat), j ≤ t.length ∧ i = .int .i64 j ∧ dn = .bool (knowF k (t.take j)).2 ∧ wr.ownsRow w1.heap.size 3 1 tv (knowF k (t.take j)).1.length ((knowF k (t.take j)).1.flatMap encI) ∧ Hid (Below w1.heap.size w1 wr)) (fun _ _ i _ => t.length - (intOf i).toNat)
  case atStart => exact ⟨0, by omega, rfl, rfl, World.ownsRow_nil _ _ _ _, Lib.hid (Below.refl _ _)⟩
  case round =>
    obtain ⟨j, hj, rfl, rfl, hown, HBr⟩ := hrel
    have z3 := cell_below HBr.out y3
    have hkl := knowF_len k t j hj
    by_cases hjn : j < t.length
    · obtain ⟨b1, o1, rfl, p1⟩ := HS.out.known.at_ hjn
      dsimp only at p1
      have q1 := cell_below HBr.out p1
      have ij0 : (0 : Int) ≤ (j : Int) := by omega
      have ij1 : (j : Int) < (t.length : Int) := by omega
      have HN := Lib.hid (knowF_step (k := k) hjn)
      have Hown := Lib.hid hown
      clear hown
      generalize knowF k (t.take j) = st at HN Hown hkl
      obtain ⟨acc, dn⟩ := st
      dsimp only at Hown hkl ⊢
      generalize t[j] = x at p1 q1 HN
      unfold knowS at HN
      dsimp only at HN
      have hz := HBr.out.size
      cases dn
      · by_cases hlt : k < x
        · have d1 : decide (x > k) = true := decide_eq_true hlt
          replace HN := Lib.hid (HN.out.trans (if_pos (by simpa using hlt)))
          go_wp2_with (first
            | (at_builtin; refine wpList_push _ rfl (.tmp 26) (.tmp 28) 23 rfl elemI3 encI_len oneI Try.underlying23 w1.heap.size _ acc rfl (Hown.out.alloc _) (by omega) k _ rfl _ (by rfl) _ _ (heap_alloc_new _ _) (by rw [World.size_alloc]; omega) ?_; intro g cap w6 hown6 hg6; have HB6 := Lib.hid ((below_alloc' HBr.out _).grown hg6 (by rw [World.size_alloc]; omega) (fun r e => own_base Hown.out r e)); have Hown6 := Lib.hid hown6; have z36 := cell_below HB6.out y3; have q16 := cell_below HB6.out p1; have hz6 := HB6.out.size; clear hown6 hg6 Hown HBr z3 q1 hz)
            | (at_builtin; go_loud (refine wpList_push _ rfl (.tmp 30) (.tmp 36) 23 rfl elemI3 encI_len oneI Try.underlying23 w1.heap.size _ (acc ++ [k]) (by rfl) (by rw [len_snoc]; exact Hown6.out.alloc _) (by rw [len_snoc]; omega) x _ rfl _ (by rfl) _ _ (heap_alloc_new _ _) (by rw [World.size_alloc]; omega) ?_; intro g7 cap7 w7 hown7 hg7; have HB7 := Lib.hid ((below_alloc' HB6.out _).grown hg7 (by rw [World.size_alloc]; omega) (fun r e => own_base Hown6.out r e)); rw [len_snoc acc k] at hown7; have Hown7 := Lib.hid hown7; clear hown7 hg7 Hown6 HB6 z36 q16 hz6)))
          go_roundw
          case rel => exact ⟨j + 1, by omega, by go_num, by rw [HN.out], by rw [HN.out]; dsimp only; rw [len_snoc, len_snoc]; exact Hown7.out, HB7⟩
          case measure => simp [intOf]; omega
        · have d1 : decide (x > k) = false := decide_eq_false hlt
          replace HN := Lib.hid (HN.out.trans (if_neg (by simpa using hlt)))
          go_wp2_with (at_builtin; refine wpList_push _ rfl (.tmp 30) (.tmp 36) 23 rfl elemI3 encI_len oneI Try.underlying23 w1.heap.size _ acc rfl (Hown.out.alloc _) (by omega) x _ rfl _ (by rfl) _ _ (heap_alloc_new _ _) (by rw [World.size_alloc]; omega) ?_; intro g7 cap7 w7 hown7 hg7; have HB7 := Lib.hid ((below_alloc' HBr.out _).grown hg7 (by rw [World.size_alloc]; omega) (fun r e => own_base Hown.out r e)); have Hown7 := Lib.hid hown7; clear hown7 hg7 Hown HBr z3 q1 hz)
          go_roundw
          case rel => exact ⟨j + 1, by omega, by go_num, by rw [HN.out], by rw [HN.out]; rw [len_snoc]; exact Hown7.out, HB7⟩
          case measure => simp [intOf]; omega
      · replace HN := Lib.hid (HN.out.trans (if_neg (by simp)))
        go_wp2_with (at_builtin; refine wpList_push _ rfl (.tmp 30) (.tmp 36) 23 rfl elemI3 encI_len oneI Try.underlying23 w1.heap.size _ acc rfl (Hown.out.alloc _) (by omega) x _ rfl _ (by rfl) _ _ (heap_alloc_new _ _) (by rw [World.size_alloc]; omega) ?_; intro g7 cap7 w7 hown7 hg7; have HB7 := Lib.hid ((below_alloc' HBr.out _).grown hg7 (by rw [World.size_alloc]; omega) (fun r e => own_base Hown.out r e)); have Hown7 := Lib.hid hown7; clear hown7 hg7 Hown HBr z3 q1 hz)
        go_roundw
        case rel => exact ⟨j + 1, by omega, by go_num, by rw [HN.out], by rw [HN.out]; rw [len_snoc]; exact Hown7.out, HB7⟩
        case measure => simp [intOf]; omega
    · have hje : j = t.length := by omega
      subst hje
      rw [List.take_length] at hown hkl ⊢
      have HT : Hid (knowT k t = if (knowF k t).2 = true then (knowF k t).1 else (knowF k t).1 ++ [k]) := Lib.hid rfl
      have hz := HBr.out.size
      generalize knowF k t = st at HT hown hkl
      obtain ⟨acc, dn⟩ := st
      dsimp only at HT hown hkl ⊢
      have Hown := Lib.hid hown
      clear hown
      cases dn
      · replace HT := Lib.hid (HT.out.trans (if_neg (by simp)))
        go_upto_region 11 with fail
        go_upto_region 12 with (at_builtin; refine wpList_push _ rfl (.tmp 40) (.tmp 42) 23 rfl elemI3 encI_len oneI Try.underlying23 w1.heap.size _ acc rfl (Hown.out.alloc _) (by omega) k _ rfl _ (by rfl) _ _ (heap_alloc_new _ _) (by rw [World.size_alloc]; omega) ?_; intro g7 cap7 w7 hown7 hg7; have HB7 := Lib.hid ((below_alloc' HBr.out _).grown hg7 (by rw [World.size_alloc]; omega) (fun r e => own_base Hown.out r e)); rw [← len_snoc acc k] at hown7; have Hown7 := Lib.hid hown7; clear hown7 hg7 Hown HBr z3 hz)
        have hX7 := blk_below HB7.out HX2.out
        have z0 := cell_below HB7.out y0
        have z1 := cell_below HB7.out y1
        have z2 := cell_below HB7.out y2
        have hb2 := blk_lt HX2.out
        have e0 : w7.cell? ⟨w.heap.size + 1, 0, none⟩ = some (.int .i64 0) := (blk_cell hX7).trans rfl
        have e1 : w7.cell? ⟨w.heap.size + 1, 1, none⟩ = some (.int .i64 0) := (blk_cell hX7).trans rfl
        have e2 : w7.cell? ⟨w.heap.size + 1, 2, none⟩ = some (.slice none 0 0) := (blk_cell hX7).trans rfl
        have e3 : w7.cell? ⟨w.heap.size + 1, 3, none⟩ = some (.slice none 0 0) := (blk_cell hX7).trans rfl
        have f0 := blk_frozen (i := 0) hX7
        have f1 := blk_frozen (i := 1) hX7
        have f2 := blk_frozen (i := 2) hX7
        have f3 := blk_frozen (i := 3) hX7
        have HX7 := Lib.hid hX7
        have HB8 := Lib.hid (below_trans' HB1.out HB7.out)
        clear hX7
        have ho := Hown7.out
        obtain ⟨G, c, hGc, hcl⟩ := own_form ho
        injection hGc with hG1 hG2 hG3
        subst hG1; subst hG3
        clear hG2
        have HF1 := Lib.hid (fill4_blk HX7.out (.int .i64 L) (.int .i64 R) (.slice A l.length ca) (.slice (some ⟨g7, 0, none⟩) (acc.length + 1) cap7))
        have HF2 := Lib.hid (fill4_below HB8.out (Nat.le_succ w.heap.size) (.int .i64 L) (.int .i64 R) (.slice A l.length ca) (.slice (some ⟨g7, 0, none⟩) (acc.length + 1) cap7))
        have HF3 := Lib.hid (RowsAt.of_own encI_len (fill4_own ho hb2 (.int .i64 L) (.int .i64 R) (.slice A l.length ca) (.slice (some ⟨g7, 0, none⟩) (acc.length + 1) cap7)))
        clear ho HX7 HB8 HX2
        go_wp2
        generalize World.setCell _ _ _ = V at *
        clear z0 z1 z2 e0 e1 e2 e3 f0 f1 f2 f3
        have e0 := (blk_cell (i := 0) HF1.out).trans rfl
        have e1 := (blk_cell (i := 1) HF1.out).trans rfl
        have e2 := (blk_cell (i := 2) HF1.out).trans rfl
        have e3 := (blk_cell (i := 3) HF1.out).trans rfl
        exact bodyPost_ret (v := vSheet L R A l.length ca (some ⟨g7, 0, none⟩) (acc.length + 1) cap7) (by simp [vSheet, results, Try.results35, go_sem, e0, e1, e2, e3]) rfl (Ret.mk ⟨⟨some ⟨g7, 0, none⟩, cap7, by rw [HT.out, len_snoc]; rfl, by rw [HT.out]; exact HF3.out, by rw [HT.out]; exact hcl⟩, HF2.out⟩)
      · replace HT := Lib.hid (HT.out.trans (if_pos rfl))
        have hX7 := blk_below HBr.out HX2.out
        have z0 := cell_below HBr.out y0
        have z1 := cell_below HBr.out y1
        have z2 := cell_below HBr.out y2
        have hb2 := blk_lt HX2.out
        have e0 : wr.cell? ⟨w.heap.size + 1, 0, none⟩ = some (.int .i64 0) := (blk_cell hX7).trans rfl
        have e1 : wr.cell? ⟨w.heap.size + 1, 1, none⟩ = some (.int .i64 0) := (blk_cell hX7).trans rfl
        have e2 : wr.cell? ⟨w.heap.size + 1, 2, none⟩ = some (.slice none 0 0) := (blk_cell hX7).trans rfl
        have e3 : wr.cell? ⟨w.heap.size + 1, 3, none⟩ = some (.slice none 0 0) := (blk_cell hX7).trans rfl
        have f0 := blk_frozen (i := 0) hX7
        have f1 := blk_frozen (i := 1) hX7
        have f2 := blk_frozen (i := 2) hX7
        have f3 := blk_frozen (i := 3) hX7
        have HX7 := Lib.hid hX7
        have HB8 := Lib.hid (below_trans' HB1.out HBr.out)
        clear hX7
        have ho := Hown.out
        obtain ⟨G, c, hGc, hcl⟩ := own_form ho
        subst hGc
        have HF1 := Lib.hid (fill4_blk HX7.out (.int .i64 L) (.int .i64 R) (.slice A l.length ca) (.slice G acc.length c))
        have HF2 := Lib.hid (fill4_below HB8.out (Nat.le_succ w.heap.size) (.int .i64 L) (.int .i64 R) (.slice A l.length ca) (.slice G acc.length c))
        have HF3 := Lib.hid (RowsAt.of_own encI_len (fill4_own ho hb2 (.int .i64 L) (.int .i64 R) (.slice A l.length ca) (.slice G acc.length c)))
        clear ho HX7 HB8 HX2
        go_wp2
        generalize World.setCell _ _ _ = V at *
        clear z0 z1 z2 e0 e1 e2 e3 f0 f1 f2 f3
        have e0 := (blk_cell (i := 0) HF1.out).trans rfl
        have e1 := (blk_cell (i := 1) HF1.out).trans rfl
        have e2 := (blk_cell (i := 2) HF1.out).trans rfl
        have e3 := (blk_cell (i := 3) HF1.out).trans rfl
        exact bodyPost_ret (v := vSheet L R A l.length ca G acc.length c) (by simp [vSheet, results, Try.results35, go_sem, e0, e1, e2, e3]) rfl (Ret.mk ⟨⟨G, c, by rw [HT.out]; rfl, by rw [HT.out]; exact HF3.out, by rw [HT.out]; exact hcl⟩, HF2.out⟩)
end Go.Proofs.Ytoogfdicmpkkgaa
