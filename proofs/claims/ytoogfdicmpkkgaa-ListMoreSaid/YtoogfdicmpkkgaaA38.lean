/- Ask. -/
import Derived.Test.YtoogfdicmpkkgaaB6
namespace Go.Proofs.Ytoogfdicmpkkgaa
open Go.RowKit Go.Shelf Go.Maps Match

/-- how many links are left behind a question -/
def AskQ (s : Sh) (k : Nat) (m : Int) : Prop := ∃ ky kn, KindsAre (Sh.of s.L s.R s.l (yesT s.t k)) ky ∧ KindsAre (Sh.of s.L s.R (s.l.eraseIdx k) (noT s.t k)) kn ∧ m = max (openC ky : Int) (openC kn : Int)
def QsAre (s : Sh) (ks : List Int) (n : Nat) (qs : List (Int × Int)) : Prop := qs.map (·.1) = ((List.range n).filter fun j => ks.getD j 0 == 1).map (fun j : Nat => (j : Int)) ∧ ∀ q ∈ qs, AskQ s q.1.toNat q.2
theorem qs_miss {s : Sh} {ks : List Int} {n : Nat} {qs : List (Int × Int)} (h : QsAre s ks n qs) (hv : (ks.getD n 0 == 1) = false) : QsAre s ks (n + 1) qs := by
  refine ⟨?_, h.2⟩
  rw [List.range_succ, List.filter_append, List.filter_cons, hv, h.1]; simp
theorem qs_hit {s : Sh} {ks : List Int} {n : Nat} {qs : List (Int × Int)} {m : Int} (h : QsAre s ks n qs) (hv : ks.getD n 0 = 1) (hm : AskQ s n m) : QsAre s ks (n + 1) (qs ++ [((n : Int), m)]) := by
  refine ⟨?_, fun q hq => ?_⟩
  · rw [List.range_succ, List.filter_append, List.filter_cons, if_pos (by rw [hv]; rfl), List.map_append, h.1]; simp
  · rcases List.mem_append.1 hq with hq | hq
    · exact h.2 q hq
    · simp at hq; subst hq; exact hm
theorem qs_len {s : Sh} {ks : List Int} {n : Nat} {qs : List (Int × Int)} (h : QsAre s ks n qs) : qs.length ≤ n := by
  have h1 := congrArg List.length h.1
  simp only [List.length_map] at h1
  rw [h1]
  exact Nat.le_trans (List.length_filter_le _ _) (by simp)
def askV (qs : List (Int × Int)) : Value := if qs.length = 0 then .tuple #[.int .i64 0, .int .i64 0, .int .i64 5] else .tuple #[.int .i64 (leastQ (qs.drop 1) (qs.getD 0 (0, 0))).1, .int .i64 (leastQ (qs.drop 1) (qs.getD 0 (0, 0))).2, .int .i64 0]

theorem wpList_pushA (w : World) {ops : Array Oper} {rest : List Oper} {o : Oper} {a : Act} {Q : Exit → Act → World → Prop}
    (hg : o.guard = none) (s x : Operand) (hop : o.op = Op.call { callee := Callee.builtin Builtin.append, args := #[s, x], argTypes := #[23, 23] })
    (A : Option Addr) (l : List Int) (hs : a.eval s = .slice A l.length l.length) (hrow : IntsAt w A l) (hlen : l.length ≤ 100000) (y : Int) (B : Nat) (hx : a.eval x = .slice (some ⟨B, 0, none⟩) 1 1)
    (tt : TypeId) (fr : Nat × Nat) (hB : w.heap[B]? = some (.cells #[.int .i64 y] tt fr))
    (hK : ∀ g' cap w', OutS w' g' cap (l ++ [y]) → w.heap.size ≤ g' → Below w.heap.size w w' → wpList Try.prog ops Q rest (a.put o.dst (.slice (some ⟨g', 0, none⟩) (l.length + 1) cap)) w') :
    wpList Try.prog ops Q (o :: rest) a w := by
  obtain ⟨i0, hi, hz0, hz1, hz2⟩ := info_parts infoI3
  have hn : A = none → l.length = 0 ∧ l.length = 0 := fun e => by
    subst e
    cases l with
    | nil => exact ⟨rfl, rfl⟩
    | cons z r => obtain ⟨b, o, h, _⟩ := hrow 0 (by simp); cases h
  refine wpList_append_grows w hg s x 23 hop 3 i0 (.int .i64 0) 1 8 Try.underlying23 hi hz0 hz1 hz2 rfl (by omega) _ l.length l.length (l.flatMap encI) hs hn (flatMap_len encI_len l) (RowsAt.olds encI_len hrow) ⟨B, 0, none⟩ 1 1 (encI y) hx rfl (news_new hB rfl) (oneI y) (by omega) (by simp only [maxLen]; omega) (by omega) ?_
  intro v' w' hown hgrow
  rw [push_flat] at hown
  rcases hown.2 with ⟨_, h0⟩ | ⟨g', cap, cur, rfl, hb, hh, hc, hm, hsz, htk⟩
  · omega
  · refine hK g' cap w' ⟨cur, hh, by simpa using hc, hm, by simpa using hsz, ?_⟩ hb ((Below.refl _ w).grown hgrow (Nat.le_refl _) (fun k e => by cases e))
    rw [map_encI, ← htk]; simp

theorem own_block {w : World} {base : Nat} {e : TypeId} {size g n cap : Nat} {xs : List Value} (h : w.ownsRow base e size (.slice (some ⟨g, 0, none⟩) n cap) n xs) : ∃ cur, w.heap[g]? = some (.cells cur e (0, 0)) ∧ base ≤ g ∧ n ≤ cap ∧ cap ≤ maxLen ∧ cur.size = cap * size ∧ cur.toList.take (n * size) = xs := by
  rcases h.2 with ⟨h, _⟩ | ⟨g', cap', cur, hv, hb, hg, h1, h2, h3, h4⟩
  · cases h
  · injection hv with e1 e2 e3
    injection e1 with e1
    injection e1 with e1
    subst e1; subst e3
    exact ⟨cur, hg, hb, h1, h2, h3, h4⟩
theorem own_range {w : World} {base : Nat} {e : TypeId} {size g n cap : Nat} {xs : List Value} (h : w.ownsRow base e size (.slice (some ⟨g, 0, none⟩) n cap) n xs) : w.rangeAt g 0 xs := fun j v hv => by
  obtain ⟨cur, hg, _, _, _, _, h4⟩ := own_block h
  rw [blk_cell hg, Nat.zero_add, ← Array.getElem?_toList]
  rw [← h4] at hv
  have hj := (List.getElem?_eq_some_iff.1 hv).1
  rw [List.length_take] at hj
  rw [List.getElem?_take_of_lt (by omega)] at hv
  exact hv
theorem own_there {w : World} {base : Nat} {e : TypeId} {size g n cap : Nat} {xs : List Value} (h : w.ownsRow base e size (.slice (some ⟨g, 0, none⟩) n cap) n xs) : w.there g 0 (n * size) := fun j hj => by
  obtain ⟨cur, hg, _, h1, _, h3, _⟩ := own_block h
  have hlt : 0 + j < cur.size := by rw [h3]; have := Nat.mul_le_mul_right size h1; omega
  exact ⟨by rw [blk_cell hg, Array.getElem?_eq_getElem hlt]; rfl, blk_frozen hg⟩
theorem own_put {w : World} {base : Nat} {e : TypeId} {g n cap j : Nat} {xs : List Value} (h : w.ownsRow base e 1 (.slice (some ⟨g, 0, none⟩) n cap) n xs) (u : Value) : (w.setCell ⟨g, j, none⟩ u).ownsRow base e 1 (.slice (some ⟨g, 0, none⟩) n cap) n (xs.set j u) := by
  obtain ⟨cur, hg, hb, h1, h2, h3, h4⟩ := own_block h
  refine ⟨by rw [List.length_set]; exact h.1, .inr ⟨g, cap, _, rfl, hb, blk_set (i := j) hg u, h1, h2, by rw [Array.size_setIfInBounds]; exact h3, ?_⟩⟩
  rw [Array.toList_setIfInBounds, ← h4, List.take_set]
theorem rows_grown {α : Type} {enc : α → List Value} {k : Nat} {w w' : World} {row : Option Nat} {b off : Nat} {l : List α} (h : RowsAt enc k w (some ⟨b, off, none⟩) l) (hg : w.grownBy w' row) (hb : b < w.heap.size) (hne : some b ≠ row) : RowsAt enc k w' (some ⟨b, off, none⟩) l := fun i hi => by
  obtain ⟨b', o', e, hv⟩ := h i hi
  injection e with e; injection e with e1 e2
  subst e1; subst e2
  exact ⟨b, off, rfl, fun j v hj => (World.cell?_of_block (hg.block b hb hne)).trans (hv j v hj)⟩
def midT (t : List Int) (k j : Nat) : List Int := (t.take j).map (decK k) ++ t.drop j
theorem midT_zero (t : List Int) (k : Nat) : midT t k 0 = t := by simp [midT]
theorem midT_end (t : List Int) (k : Nat) : midT t k t.length = noT t k := by simp [midT, noT]
theorem midT_len {t : List Int} {k j : Nat} : (midT t k j).length = t.length := by simp [midT]; omega
theorem midT_get {t : List Int} {k j : Nat} (hj : j < t.length) : (midT t k j)[j]? = some t[j] := by
  unfold midT
  rw [List.getElem?_append_right (by simp; omega)]
  simp [Nat.min_eq_left (Nat.le_of_lt hj), hj]
theorem midT_step {t : List Int} {k j : Nat} (hj : j < t.length) : (midT t k j).set j (decK k t[j]) = midT t k (j + 1) := by
  unfold midT
  rw [List.set_append_right _ _ (by simp; omega)]
  have e : j - ((t.take j).map (decK k)).length = 0 := by simp; omega
  rw [e, List.drop_eq_getElem_cons hj, List.set_cons_zero, List.take_succ_eq_append_getElem hj, List.map_append, List.append_assoc]
  rfl
theorem midT_same {t : List Int} {k j : Nat} (hj : j < t.length) (h : decK k t[j] = t[j]) : midT t k (j + 1) = midT t k j := by
  rw [← midT_step hj, h]
  refine List.ext_getElem? fun i => ?_
  rw [List.getElem?_set]
  by_cases e : j = i
  · subst e; rw [if_pos rfl, midT_get hj, if_pos (by rw [midT_len]; exact hj)]
  · rw [if_neg e]
theorem free_of_may {s : Sh} {ks : List Int} {k : Nat} (h : KindsAre s ks) (hk : k < ks.length) (hv : ks.getD k 0 = 1) : freeP s k = true := by
  obtain ⟨n, a, b, _, _, _, e⟩ := h.2 k hk
  rw [hv] at e
  unfold kindV at e
  cases hf : freeP s k
  · rw [hf] at e
    cases hc : s.t.contains (k : Int) <;> rw [hc] at e <;> simp at e
  · rfl
theorem elemQ : ElemT 88 2 16 (.agg #[.int .i64 0, .int .i64 0]) := ⟨by kernel_rfl, rfl, by omega, by omega⟩

set_option maxRecDepth 100000 in
set_option maxHeartbeats 2000000 in
theorem ask_any (s : Sh) (w : World) (hl : RangesAt w s.A s.l) (ht : IntsAt w s.B s.t) (hn : s.l.length ≤ 100000) (hm : s.t.length ≤ 999) (hca : s.l.length ≤ s.ca) (hcm : s.ca ≤ 9223372036854775807) (hcb : s.t.length ≤ s.cb) :
    Calls Try.prog 30 #[s.v] w (Ret fun v w' => (sheetErr s.L s.R s.l s.t ≠ 0 ∧ v = .tuple #[.int .i64 0, .int .i64 0, .int .i64 (sheetErr s.L s.R s.l s.t)] ∨
      sheetErr s.L s.R s.l s.t = 0 ∧ ∃ ks qs, KindsAre s ks ∧ QsAre s ks ks.length qs ∧ v = askV qs) ∧ Below w.heap.size w w') := by
  obtain ⟨L, R, A, ca, B, cb, l, t⟩ := s
  dsimp only at hl ht hn hm hca hcm hcb ⊢
  have Hl := Lib.hid hl; clear hl
  have Ht := Lib.hid ht; clear ht
  have Hm := Lib.hid hm; clear hm
  obtain ⟨w0, hw0⟩ : ∃ w0, w0 = w.alloc (.cells #[.int .i64 L, .int .i64 R, .slice A l.length ca, .slice B t.length cb] 25) := ⟨_, rfl⟩
  have HB0 : Hid (Below w.heap.size w w0) := Lib.hid (by rw [hw0]; exact below_alloc' (Below.refl _ _) _)
  have hX : w0.heap[w.heap.size]? = some (.cells #[.int .i64 L, .int .i64 R, .slice A l.length ca, .slice B t.length cb] 25 (0, 0)) := by rw [hw0]; exact heap_alloc_new _ _
  have hs := fun W (h : Below w.heap.size w W) => checkSheet_any L R A B ca cb l t W (Hl.out.below h) (Ht.out.below h) hn (by have := Hm.out; omega) hca hcm
  have hki := fun W (h : Below w.heap.size w W) => kinds_any ⟨L, R, A, ca, B, cb, l, t⟩ W (Hl.out.below h) (Ht.out.below h) (show t.length ≤ 1000 by have := Hm.out; omega)
  unfold Sh.v at hki ⊢
  dsimp only at hki ⊢
  unfold vSheet at hs hki ⊢
  have Hs := Lib.hid hs
  have Hki := Lib.hid hki
  clear hs hki
  have y0 : w0.cell? ⟨w.heap.size, 0, none⟩ = some (.int .i64 L) := (blk_cell hX).trans rfl
  have y1 : w0.cell? ⟨w.heap.size, 1, none⟩ = some (.int .i64 R) := (blk_cell hX).trans rfl
  have y2 : w0.cell? ⟨w.heap.size, 2, none⟩ = some (.slice A l.length ca) := (blk_cell hX).trans rfl
  have y3 : w0.cell? ⟨w.heap.size, 3, none⟩ = some (.slice B t.length cb) := (blk_cell hX).trans rfl
  have hyw0 := blk_lt hX
  have HX := Lib.hid hX
  clear hX
  have Hc := Lib.hid (Hs.out w0 HB0.out)
  rw [hw0] at y0 y1 y2 y3 Hc
  have HW0 := Lib.hid hw0
  clear hw0
  go_enter Try.func30, Try.ntmps30
  go_wp2_with fail
  refine Hc.out.mono ?_
  rintro e w1 ⟨v, rfl, rfl, hB1⟩
  rw [← HW0.out] at hB1 y0 y1 y2 y3
  have HB1 := Lib.hid (below_trans' HB0.out hB1)
  have hyw := Nat.lt_of_lt_of_le hyw0 hB1.size
  replace HX := Lib.hid (blk_below hB1 HX.out)
  replace y0 := cell_below hB1 y0
  replace y1 := cell_below hB1 y1
  replace y2 := cell_below hB1 y2
  replace y3 := cell_below hB1 y3
  clear hB1 Hc HB0 HW0
  by_cases h0 : sheetErr L R l t = 0
  · have d0 : (sheetErr L R l t != 0) = false := by simp [h0]
    have HS := Lib.hid (sheet_ok h0)
    have H0 := Lib.hid h0; clear h0
    have Hc := Lib.hid (Hki.out w1 HB1.out HS.out)
    go_wp2_with fail
    refine Hc.out.mono ?_
    rintro e w2 ⟨v, rfl, ⟨Gk, ck, ks, rfl, hk1, hk2, hk3, hk4⟩, hB2⟩
    have HKS : Hid (KindsAre ⟨L, R, A, ca, B, cb, l, t⟩ ks) := Lib.hid ⟨hk2, hk4⟩
    replace HX := Lib.hid (blk_below hB2 HX.out)
    have HB2 := Lib.hid (below_trans' HB1.out hB2)
    have hsz2 := Nat.lt_of_lt_of_le hyw hB2.size
    have Hk1 := Lib.hid hk1
    have Hk2 := Lib.hid hk2
    have Hk3 := Lib.hid hk3
    have hks : ks.length ≤ 40 := by have := HS.out.many; omega
    clear Hc hB2 y0 y1 y2 y3 hk1 hk2 hk3 hk4
    go_wp2
    go_loopw [6, 22] (fun ov i wr => ∃ (k : Nat) (qs : List (Int × Int)), k ≤ ks.length ∧ i = .int .i64 k ∧ Hid (Below w2.heap.size w2 wr) ∧ Hid (wr.ownsRow w2.heap.size 88 2 ov qs.length (qs.flatMap encR)) ∧ Hid (QsAre ⟨L, R, A, ca, B, cb, l, t⟩ ks k qs)) (fun _ i _ => ks.length - (intOf i).toNat)
    case atStart => exact ⟨0, [], by omega, rfl, Lib.hid (Below.refl _ _), Lib.hid (World.ownsRow_nil w2 _ 88 2), Lib.hid ⟨rfl, fun q hq => by cases hq⟩⟩
    case round =>
      obtain ⟨k, qs, hk, rfl, HBr, HOr, HQ⟩ := hrel
      obtain ⟨wo, hwo⟩ : ∃ wo, wo = wr := ⟨_, rfl⟩
      subst hwo
      by_cases hkn : k < ks.length
      · have hkl : k < l.length := by have := Hk2.out; omega
        obtain ⟨b2, o2, rfl, hkc⟩ := (Hk1.out.below HBr.out).at_ hkn
        have hgd : ks.getD k 0 = ks[k] := by simp [List.getD_eq_getElem?_getD, hkn]
        rw [← hgd] at hkc
        have ik0 : (0 : Int) ≤ (k : Int) := by omega
        have ik1 : (k : Int) < (ks.length : Int) := by omega
        by_cases hv : ks.getD k 0 = 1
        · rw [hv] at hkc
          have HV := Lib.hid hv
          clear hv hgd
          have hXr := blk_below HBr.out HX.out
          have y0 : wo.cell? ⟨w.heap.size, 0, none⟩ = some (.int .i64 L) := (blk_cell hXr).trans rfl
          have y1 : wo.cell? ⟨w.heap.size, 1, none⟩ = some (.int .i64 R) := (blk_cell hXr).trans rfl
          have y2 : wo.cell? ⟨w.heap.size, 2, none⟩ = some (.slice A l.length ca) := (blk_cell hXr).trans rfl
          have y3 : wo.cell? ⟨w.heap.size, 3, none⟩ = some (.slice B t.length cb) := (blk_cell hXr).trans rfl
          go_upto_region 9 with fail
          have hlX : w.heap.size < wo.heap.size := blk_lt hXr
          go_cut [9, 10] (fun s9 s10 wx => ∃ b9 b10, s9 = .pointer (some ⟨b9, 0, none⟩) ∧ s10 = .pointer (some ⟨b10, 0, none⟩) ∧ b9 ≠ b10 ∧ wo.heap.size ≤ b9 ∧ wo.heap.size ≤ b10 ∧ wx.heap[b9]? = some (.cells #[.int .i64 L, .int .i64 R, .slice A l.length ca, .slice B t.length cb] 25 (0, 0)) ∧ wx.heap[b10]? = some (.cells #[.int .i64 L, .int .i64 R, .slice A l.length ca, .slice B t.length cb] 25 (0, 0)) ∧ Hid (Below wo.heap.size wo wx))
          case first =>
            go_region_held3 (fun W => W.cell? ⟨w.heap.size, 0, none⟩ = some (.int .i64 L) ∧ W.cell? ⟨w.heap.size, 1, none⟩ = some (.int .i64 R) ∧ W.cell? ⟨w.heap.size, 2, none⟩ = some (.slice A l.length ca) ∧ W.cell? ⟨w.heap.size, 3, none⟩ = some (.slice B t.length cb))
              (first | exact ⟨y0, y1, y2, y3⟩ | (refine ⟨?_, ?_, ?_, ?_⟩ <;> (repeat (first | exact y0 | exact y1 | exact y2 | exact y3 | refine cell_far ?_ (addr_ne (by first | assumption | (simp; omega))) | refine cell_alloc ?_ _)))) (fail)
            all_goals
              go_wp2_with fail
              go_meet
              refine ⟨_, _, rfl, rfl, by omega, by omega, by omega, ?_, ?_, Lib.hid (below_alloc' (below_alloc' (Below.refl _ _) _) _).drew⟩
              all_goals first
                | exact blk_alloc (heap_alloc_new _ _) _
                | exact heap_alloc_at _ _ (by simp)
          case rest =>
            obtain ⟨b9, b10, rfl, rfl, hne, hg9, hg10, hb9, hb10, HBx⟩ := hcut
            obtain ⟨w3, hw3⟩ : ∃ w3, w3 = wc := ⟨_, rfl⟩
            subst hw3
            replace y2 := cell_below HBx.out y2
            replace y3 := cell_below HBx.out y3
            have hl9 := blk_lt hb9
            have hl10 := blk_lt hb10
            have hsx := HBx.out.size
            clear y0 y1 hXr
            have hal : Below w3.heap.size w3 (w3.alloc (.cells #[.int .i64 k] 3)) := below_alloc' (Below.refl _ _) _
            have hb11 := heap_alloc_new w3 (.cells #[.int .i64 k] 3)
            have HI3 := Lib.hid ((Ht.out.below (HB2.out.trans (HBr.out.mono (by omega)))).below HBx.out |>.below hal)
            have hb9a := blk_below hal hb9
            have hb10a := blk_below hal hb10
            have hsa : (w3.alloc (.cells #[.int .i64 k] 3)).heap.size = w3.heap.size + 1 := World.size_alloc _ _
            have Hal := Lib.hid hal
            have yX2 := cell_below hal y2
            have yX3 := cell_below hal y3
            have icb : (t.length : Int) ≤ (cb : Int) := by omega
            clear hal hb9 hb10
            go_upto_region 11 with (first | (at_builtin; refine wpList_pushA _ rfl (.tmp 39) (.tmp 41) rfl B t (by rfl) HI3.out (by have := Hm.out; omega) k w3.heap.size (by rfl) 3 (0, 0) hb11 ?_; intro g cap w6 hO6 hg6 hB6; have hb96 := blk_below hB6 hb9a; have hc93 := (blk_cell (i := 3) hb96).trans rfl; have hf93 := blk_frozen (i := 3) hb96))
            have hlg := hO6.lt
            have hs6 := hB6.size
            have hb9v : (w6.setCell ⟨b9, 3, none⟩ (.slice (some ⟨g, 0, none⟩) (t.length + 1) cap)).heap[b9]? = some (.cells #[.int .i64 L, .int .i64 R, .slice A l.length ca, .slice (some ⟨g, 0, none⟩) (t.length + 1) cap] 25 (0, 0)) := blk_set (i := 3) hb96 _
            have hb10v := blk_far (p := ⟨b9, 3, none⟩) (blk_below hB6 hb10a) hne.symm (.slice (some ⟨g, 0, none⟩) (t.length + 1) cap)
            have HW6 : Hid (Below wo.heap.size wo (w6.setCell ⟨b9, 3, none⟩ (.slice (some ⟨g, 0, none⟩) (t.length + 1) cap))) := Lib.hid (((HBx.out.trans (Hal.out.mono hsx)).trans (hB6.mono (by omega))).setCell (p := ⟨b9, 3, none⟩) hg9 _)
            obtain ⟨cur, hc1, hc2, hc3, hc4, hc5⟩ := hO6
            have hc1v := blk_far (p := ⟨b9, 3, none⟩) hc1 (show g ≠ b9 by omega) (.slice (some ⟨g, 0, none⟩) (t.length + 1) cap)
            have hsv : (w6.setCell ⟨b9, 3, none⟩ (.slice (some ⟨g, 0, none⟩) (t.length + 1) cap)).heap.size = w6.heap.size := by simp
            clear hb9a hb10a hb96 hc93 hf93 hc1 hB6 yX2 yX3 y2 y3 hb11 Hal HI3 HBx
            generalize w6.setCell ⟨b9, 3, none⟩ _ = v6 at *
            have hla : (t ++ [(k : Int)]).length = t.length + 1 := len_snoc _ _
            have hss := Try.slices_Sort_int g 0 cap (t ++ [(k : Int)]) v6 (holds_of_blockI hc1v hc5) (by omega) (by rw [hla]; have := Hm.out; omega)
            rw [hla] at hss
            have Hss := Lib.hid hss
            have c93 : v6.cell? ⟨b9, 3, none⟩ = some (.slice (some ⟨g, 0, none⟩) (t.length + 1) cap) := (blk_cell hb9v).trans rfl
            clear hss
            go_wp2_with fail
            refine Hss.out.mono ?_
            rintro e w7 ⟨rfl, q, os, hw7⟩
            have hown := ownsRow_sortedI (n := q) (os := os) (base := wo.heap.size) (ss := t ++ [(k : Int)]) (ts := yesT t k) (List.length_mergeSort _) (by omega) hc1v hc2 hc3 (by rw [hc4, Nat.mul_one])
            have hgr := grownBy_sortedI (w := v6) (g := g) (n := q) (os := os) (yesT t k).toArray
            have hw7' : w7 = Sort.grow (Sort.putRow (Value.int .i64) (Sort.ahead v6 q) g 0 (yesT t k).toArray) os := hw7
            rw [← hw7'] at hown hgr
            rw [hla] at hc2
            have HIY : Hid (IntsAt w7 (some ⟨g, 0, none⟩) (yesT t k)) := Lib.hid (RowsAt.of_own (base := wo.heap.size) (e := 3) (c := cap) encI_len (by rw [yesT_len, ← hla, ← map_encI]; exact hown))
            have hb97 := blk_grown hgr hb9v (by simp; omega)
            have hb107 := blk_grown hgr hb10v (by simp; omega)
            have HW7 : Hid (Below wo.heap.size wo w7) := Lib.hid (HW6.out.grown hgr HW6.out.size (fun r e => by injection e with e; omega))
            have hs7 := hgr.size
            have hs7' : wo.heap.size ≤ w7.heap.size := HW7.out.size
            clear hown hgr hw7 hw7' hb9v hb10v c93 Hss hc1v hc3 hc4 hc5 HW6 cur
            have hBX : Hid (Below w.heap.size w wo) := Lib.hid (HB2.out.trans (HBr.out.mono (by omega)))
            have HL7 := Lib.hid ((Hl.out.below hBX.out).below HW7.out)
            have HT7 := Lib.hid ((Ht.out.below hBX.out).below HW7.out)
            have hX7 := blk_below HW7.out (blk_below HBr.out HX.out)
            have y2 : w7.cell? ⟨w.heap.size, 2, none⟩ = some (.slice A l.length ca) := (blk_cell hX7).trans rfl
            have Hcr := Lib.hid (cloneR_any A ca l w7 HL7.out hn)
            go_wp2_with fail
            refine Hcr.out.mono ?_
            rintro e w8 ⟨v, rfl, hoR, hB8⟩
            clear Hcr
            obtain ⟨gR, capR, rfl, hgR1, hgR2⟩ := hoR.form (by omega)
            have hcapR := (own_block hoR).choose_spec
            have hcR1 : l.length ≤ capR := hcapR.2.2.1
            have hcR2 : capR ≤ 9223372036854775807 := Nat.le_trans hcapR.2.2.2.1 (by simp only [maxLen]; omega)
            have hDl := Lib.hid (delete_any gR capR l k (k + 1) hkl rfl w8 (own_range hoR) (own_there hoR) hcR1 hn hcR2)
            have hb98 := blk_below hB8 hb97
            have hb108 := blk_below hB8 hb107
            have HIY8 := Lib.hid (HIY.out.below hB8)
            have HW8 := Lib.hid (HW7.out.trans (hB8.mono hs7'))
            have hwk1 : IntKind.i64.wrap ((k : Int) + 1) = (k : Int) + 1 := IntWalk.i64_in _ (by omega)
            clear hoR hcapR hB8 hX7 y2 HIY HW7 hb97 hb107
            go_wp2_with fail
            refine hDl.out.mono ?_
            rintro e w9 ⟨v, rfl, rfl, hRA, hgD⟩
            have hb99 := blk_grown hgD hb98 (by simp; omega)
            have hb109 := blk_grown hgD hb108 (by simp; omega)
            have HIY9 := Lib.hid (rows_grown HIY8.out hgD (by omega) (by simp; omega))
            have HW9 := Lib.hid (HW8.out.grown hgD HW8.out.size (fun r e => by injection e with e; omega))
            have hs9 := hgD.size
            have c10 : w9.cell? ⟨b10, 2, none⟩ = some (.slice A l.length ca) := (blk_cell hb109).trans rfl
            have f10 : w9.frozen? ⟨b10, 2, none⟩ = false := blk_frozen hb109
            have HRA := Lib.hid hRA
            clear hDl hgD hb98 hb108 HIY8 HW8 hRA
            go_upto_region 13 with fail
            have hl9' := blk_lt hb99
            have hl10' := blk_lt hb109
            have hb9a : (w9.setCell ⟨b10, 2, none⟩ (.slice (some ⟨gR, 0, none⟩) (l.length - 1) capR)).heap[b9]? = some (.cells #[.int .i64 L, .int .i64 R, .slice A l.length ca, .slice (some ⟨g, 0, none⟩) (t.length + 1) cap] 25 (0, 0)) := blk_far (p := ⟨b10, 2, none⟩) hb99 hne _
            have hb10a : (w9.setCell ⟨b10, 2, none⟩ (.slice (some ⟨gR, 0, none⟩) (l.length - 1) capR)).heap[b10]? = some (.cells #[.int .i64 L, .int .i64 R, .slice (some ⟨gR, 0, none⟩) (l.length - 1) capR, .slice B t.length cb] 25 (0, 0)) := blk_set (i := 2) hb109 _
            have HIYa : Hid (IntsAt (w9.setCell ⟨b10, 2, none⟩ (.slice (some ⟨gR, 0, none⟩) (l.length - 1) capR)) (some ⟨g, 0, none⟩) (yesT t k)) := Lib.hid (RowsAt.far HIY9.out (by dsimp only; omega) _)
            have HRAa : Hid (RangesAt (w9.setCell ⟨b10, 2, none⟩ (.slice (some ⟨gR, 0, none⟩) (l.length - 1) capR)) (some ⟨gR, 0, none⟩) (l.eraseIdx k)) := Lib.hid (RowsAt.far HRA.out (by dsimp only; omega) _)
            have HWa := Lib.hid (HW9.out.setCell (p := ⟨b10, 2, none⟩) (by dsimp only; omega) (.slice (some ⟨gR, 0, none⟩) (l.length - 1) capR))
            have hsa9 : (w9.setCell ⟨b10, 2, none⟩ (.slice (some ⟨gR, 0, none⟩) (l.length - 1) capR)).heap.size = w9.heap.size := by simp
            clear hb99 hb109 HIY9 HRA HW9 c10 f10
            generalize w9.setCell ⟨b10, 2, none⟩ _ = va at *
            have hXa := blk_below HWa.out (blk_below HBr.out HX.out)
            have y3 : va.cell? ⟨w.heap.size, 3, none⟩ = some (.slice B t.length cb) := (blk_cell hXa).trans rfl
            have Hci := Lib.hid (cloneI_any B cb t va ((Ht.out.below hBX.out).below HWa.out) (by have := Hm.out; omega))
            go_wp2_with fail
            refine Hci.out.mono ?_
            rintro e w11 ⟨v, rfl, hoI, hB11⟩
            obtain ⟨Ai, ci, rfl, hci⟩ := own_form hoI
            have hb9b := blk_below hB11 hb9a
            have hb10b := blk_below hB11 hb10a
            have HIYb := Lib.hid (HIYa.out.below hB11)
            have HRAb := Lib.hid (HRAa.out.below hB11)
            have HWb := Lib.hid (HWa.out.trans (hB11.mono (by omega)))
            have hs11 := hB11.size
            have c10 : w11.cell? ⟨b10, 3, none⟩ = some (.slice B t.length cb) := (blk_cell hb10b).trans rfl
            have f10 : w11.frozen? ⟨b10, 3, none⟩ = false := blk_frozen hb10b
            clear Hci hB11 hb9a hb10a HIYa HRAa HWa hXa y3
            go_upto_region 14 with fail
            have hb9c : (w11.setCell ⟨b10, 3, none⟩ (.slice Ai t.length ci)).heap[b9]? = some (.cells #[.int .i64 L, .int .i64 R, .slice A l.length ca, .slice (some ⟨g, 0, none⟩) (t.length + 1) cap] 25 (0, 0)) := blk_far (p := ⟨b10, 3, none⟩) hb9b hne _
            have hb10c : (w11.setCell ⟨b10, 3, none⟩ (.slice Ai t.length ci)).heap[b10]? = some (.cells #[.int .i64 L, .int .i64 R, .slice (some ⟨gR, 0, none⟩) (l.length - 1) capR, .slice Ai t.length ci] 25 (0, 0)) := blk_set (i := 3) hb10b _
            have HIYc : Hid (IntsAt (w11.setCell ⟨b10, 3, none⟩ (.slice Ai t.length ci)) (some ⟨g, 0, none⟩) (yesT t k)) := Lib.hid (RowsAt.far HIYb.out (by dsimp only; omega) _)
            have HRAc : Hid (RangesAt (w11.setCell ⟨b10, 3, none⟩ (.slice Ai t.length ci)) (some ⟨gR, 0, none⟩) (l.eraseIdx k)) := Lib.hid (RowsAt.far HRAb.out (by dsimp only; omega) _)
            have HWc := Lib.hid (HWb.out.setCell (p := ⟨b10, 3, none⟩) (by dsimp only; omega) (.slice Ai t.length ci))
            have hoIc := Lib.hid (ownsRow_setCell_below (a := ⟨b10, 3, none⟩) hoI (by dsimp only; omega) (.slice Ai t.length ci))
            have hsc : (w11.setCell ⟨b10, 3, none⟩ (.slice Ai t.length ci)).heap.size = w11.heap.size := by simp
            clear hb9b hb10b HIYb HRAb HWb hoI c10 f10
            generalize w11.setCell ⟨b10, 3, none⟩ _ = vc at *
            have c10 : vc.cell? ⟨b10, 3, none⟩ = some (.slice Ai t.length ci) := (blk_cell hb10c).trans rfl
            go_wp2
            go_loopw [62] (fun i wx => ∃ j : Nat, j ≤ t.length ∧ i = .int .i64 j ∧ Hid (wx.ownsRow va.heap.size 3 1 (.slice Ai t.length ci) t.length ((midT t k j).map (Value.int .i64))) ∧ Hid (vc.grownBy wx (Value.slice Ai t.length ci).ownBlock)) (fun i _ => t.length - (intOf i).toNat)
            case atStart => exact ⟨0, by omega, rfl, Lib.hid (by rw [midT_zero, map_encI]; exact hoIc.out), Lib.hid ⟨rfl, rfl, rfl, Nat.le_refl _, fun _ _ _ => rfl⟩⟩
            case round =>
              obtain ⟨j, hj, rfl, HOj, HGj⟩ := hrel
              by_cases hjn : j < t.length
              · obtain ⟨gI, cI, hAi, hgI1, hgI2⟩ := HOj.out.form (by omega)
                injection hAi with hAi _ hcI
                subst hAi
                clear hcI
                have htl : t.length ≤ 999 := Hm.out
                have hne10 : b10 ≠ gI := by omega
                have hb10x := blk_grown HGj.out hb10c (by simp [Value.ownBlock]; omega)
                have c10x : _ = some (Value.slice (some ⟨gI, 0, none⟩) t.length ci) := (blk_cell (i := 3) hb10x).trans rfl
                have hx0 := own_range HOj.out j (.int .i64 t[j]) (by rw [List.getElem?_map, midT_get hjn]; rfl)
                have hx1 := (own_there HOj.out j (by omega)).2
                rw [Nat.zero_add] at hx0 hx1
                have hst := midT_step (k := k) hjn
                have hsm := midT_same (k := k) hjn
                obtain ⟨x, hx⟩ : ∃ x, t[j] = x := ⟨_, rfl⟩
                rw [hx] at hx0 hst hsm
                have hxr : 0 ≤ x ∧ x < l.length := HS.out.known x (by rw [← hx]; exact List.getElem_mem hjn)
                have HST := Lib.hid hst
                have HSM := Lib.hid hsm
                have ij0 : (0 : Int) ≤ (j : Int) := by omega
                have ij1 : (j : Int) < (t.length : Int) := by omega
                clear hst hsm hx
                by_cases hgt : (k : Int) < x
                · have dgt : decide ((k : Int) < x) = true := by simpa using hgt
                  have hw1 : IntKind.i64.wrap (x - 1) = x - 1 := IntWalk.i64_in _ (by omega)
                  have HP : Hid ((wr.setCell ⟨gI, j, none⟩ (.int .i64 (x - 1))).ownsRow va.heap.size 3 1 (.slice (some ⟨gI, 0, none⟩) t.length ci) t.length ((midT t k (j + 1)).map (Value.int .i64))) := Lib.hid (by
                    have h := own_put HOj.out (j := j) (.int .i64 (x - 1))
                    rw [← HST.out, List.map_set, show decK k x = x - 1 from if_pos hgt]
                    exact h)
                  have HGp := Lib.hid (HGj.out.trans (grown_setCell wr ⟨gI, j, none⟩ (.int .i64 (x - 1))))
                  go_wp2
                  generalize World.setCell wr _ _ = wy at *
                  go_roundw
                  case rel => exact ⟨j + 1, by omega, by go_num, HP, HGp⟩
                  case measure => simp [intOf]; omega
                · have dgt : decide ((k : Int) < x) = false := by simpa using hgt
                  have hsm := HSM.out (if_neg hgt)
                  rw [← hsm] at HOj
                  clear hsm
                  go_wp2
                  go_roundw
                  case rel => exact ⟨j + 1, by omega, by go_num, HOj, HGj⟩
                  case measure => simp [intOf]; omega
              · obtain rfl : j = t.length := by omega
                rw [midT_end] at HOj
                have hoR : Hid (wr.ownsRow va.heap.size 3 1 (.slice Ai t.length ci) (noT t k).length ((noT t k).flatMap encI)) := Lib.hid (by rw [← map_encI]; have h := HOj.out; rw [show (noT t k).length = t.length by simp [noT]]; exact h)
                have hbO : ∀ r, (Value.slice Ai t.length ci).ownBlock = some r → va.heap.size ≤ r := fun r e => own_base HOj.out r e
                have hb9d := blk_grown HGj.out hb9c (fun e => by have := hbO _ e.symm; omega)
                have hb10d := blk_grown HGj.out hb10c (fun e => by have := hbO _ e.symm; omega)
                have HIYd := Lib.hid (rows_grown HIYc.out HGj.out (by omega) (fun e => by have := hbO _ e.symm; omega))
                have HRAd := Lib.hid (rows_grown HRAc.out HGj.out (by omega) (fun e => by have := hbO _ e.symm; omega))
                have HWd := Lib.hid (HWc.out.grown HGj.out HWc.out.size (fun r e => by have := hbO _ e; omega))
                have HIAd : Hid (IntsAt wr Ai (noT t k)) := Lib.hid (RowsAt.of_own (base := va.heap.size) (e := 3) (c := ci) encI_len (by have h := hoR.out; rw [show (noT t k).length = t.length by simp [noT]] at h ⊢; exact h))
                have hsd := HGj.out.size
                clear hb9c hb10c HIYc HRAc HWc HGj HOj hoIc c10 hoR
                have hfree : freeP ⟨L, R, A, ca, B, cb, l, t⟩ k = true := free_of_may HKS.out (by omega) HV.out
                have HSy := Lib.hid (yes_sheet (s := ⟨L, R, A, ca, B, cb, l, t⟩) HS.out hkl hfree)
                have HSn := Lib.hid (no_sheet (s := ⟨L, R, A, ca, B, cb, l, t⟩) HS.out hkl (free_not_known hfree))
                have HL := Lib.hid (((Hl.out.below hBX.out).below HWd.out))
                have Hyes : Hid (∀ W, Below wr.heap.size wr W → Calls Try.prog 66 #[.agg #[.int .i64 L, .int .i64 R, .slice A l.length ca, .slice (some ⟨g, 0, none⟩) (t.length + 1) cap]] W (Ret fun v w' => (∃ ky, KindsAre (Sh.of L R l (yesT t k)) ky ∧ v = .int .i64 (openC ky)) ∧ Below W.heap.size W w')) := Lib.hid (fun W hW => by
                  have h := openS_any ⟨L, R, A, ca, some ⟨g, 0, none⟩, cap, l, yesT t k⟩ W (HL.out.below hW) (HIYd.out.below hW) (by rw [yesT_len]; have := Hm.out; omega) HSy.out
                  unfold Sh.v vSheet at h
                  dsimp only at h
                  rw [yesT_len] at h
                  refine h.mono ?_
                  rintro e w' ⟨v, rfl, ⟨ky, h1, rfl⟩, h2⟩
                  exact Ret.mk ⟨⟨ky, h1.same rfl rfl, rfl⟩, h2⟩)
                have Hno : Hid (∀ W, Below wr.heap.size wr W → Calls Try.prog 66 #[.agg #[.int .i64 L, .int .i64 R, .slice (some ⟨gR, 0, none⟩) (l.length - 1) capR, .slice Ai t.length ci]] W (Ret fun v w' => (∃ kn, KindsAre (Sh.of L R (l.eraseIdx k) (noT t k)) kn ∧ v = .int .i64 (openC kn)) ∧ Below W.heap.size W w')) := Lib.hid (fun W hW => by
                  have h := openS_any ⟨L, R, some ⟨gR, 0, none⟩, capR, Ai, ci, l.eraseIdx k, noT t k⟩ W (HRAd.out.below hW) (HIAd.out.below hW) (by rw [show (noT t k).length = t.length by simp [noT]]; have := Hm.out; omega) HSn.out
                  unfold Sh.v vSheet at h
                  dsimp only at h
                  rw [show (noT t k).length = t.length by simp [noT], show (l.eraseIdx k).length = l.length - 1 by rw [List.length_eraseIdx, if_pos hkl]] at h
                  refine h.mono ?_
                  rintro e w' ⟨v, rfl, ⟨kn, h1, rfl⟩, h2⟩
                  exact Ret.mk ⟨⟨kn, h1.same rfl rfl, rfl⟩, h2⟩)
                have d0 : wr.cell? ⟨b9, 0, none⟩ = some (.int .i64 L) := (blk_cell hb9d).trans rfl
                have d1 : wr.cell? ⟨b9, 1, none⟩ = some (.int .i64 R) := (blk_cell hb9d).trans rfl
                have d2 : wr.cell? ⟨b9, 2, none⟩ = some (.slice A l.length ca) := (blk_cell hb9d).trans rfl
                have d3 : wr.cell? ⟨b9, 3, none⟩ = some (.slice (some ⟨g, 0, none⟩) (t.length + 1) cap) := (blk_cell hb9d).trans rfl
                have e0 : wr.cell? ⟨b10, 0, none⟩ = some (.int .i64 L) := (blk_cell hb10d).trans rfl
                have e1 : wr.cell? ⟨b10, 1, none⟩ = some (.int .i64 R) := (blk_cell hb10d).trans rfl
                have e2 : wr.cell? ⟨b10, 2, none⟩ = some (.slice (some ⟨gR, 0, none⟩) (l.length - 1) capR) := (blk_cell hb10d).trans rfl
                have e3 : wr.cell? ⟨b10, 3, none⟩ = some (.slice Ai t.length ci) := (blk_cell hb10d).trans rfl
                have HOw := Lib.hid (HOr.out.kept (grown_below HWd.out) (Classical.em _))
                have hlw := HWd.out.size
                go_upto_region 20 with fail
                clear HL HIYd HRAd HIAd HSy HSn hfree hb9d hb10d hbO
                refine wp_region_held (S := fun W => (W.cell? ⟨b9, 0, none⟩ = some (.int .i64 L) ∧ W.cell? ⟨b9, 1, none⟩ = some (.int .i64 R) ∧ W.cell? ⟨b9, 2, none⟩ = some (.slice A l.length ca) ∧ W.cell? ⟨b9, 3, none⟩ = some (.slice (some ⟨g, 0, none⟩) (t.length + 1) cap)) ∧ W.cell? ⟨b10, 0, none⟩ = some (.int .i64 L) ∧ W.cell? ⟨b10, 1, none⟩ = some (.int .i64 R) ∧ W.cell? ⟨b10, 2, none⟩ = some (.slice (some ⟨gR, 0, none⟩) (l.length - 1) capR) ∧ W.cell? ⟨b10, 3, none⟩ = some (.slice Ai t.length ci)) (by kernel_rfl) ?_
                refine wpAnyH_take (i := 0) (v := ?_) rfl (by kernel_rfl) (by kernel_rfl) (by kernel_rfl) (fun _ _ _ h => h) (Or.inl ⟨by rfl, ?_⟩) ⟨⟨d0, d1, d2, d3⟩, e0, e1, e2, e3⟩ ?_
                rotate_left 1
                · intro W hW; obtain ⟨⟨s0, s1, s2, s3⟩, s4, s5, s6, s7⟩ := hW; go_simp <;> with_reducible rfl
                refine wpAnyH_take (i := 1) (v := ?_) rfl (by kernel_rfl) (by kernel_rfl) (by kernel_rfl) (fun _ _ _ h => h) (Or.inl ⟨by rfl, ?_⟩) ⟨⟨d0, d1, d2, d3⟩, e0, e1, e2, e3⟩ ?_
                rotate_left 1
                · intro W hW; obtain ⟨⟨s0, s1, s2, s3⟩, s4, s5, s6, s7⟩ := hW; go_simp <;> with_reducible rfl
                refine wpAnyH_take (i := 2) (v := ?_) rfl (by kernel_rfl) (by kernel_rfl) (by kernel_rfl) (fun _ _ _ h => h) (Or.inl ⟨by rfl, ?_⟩) ⟨⟨d0, d1, d2, d3⟩, e0, e1, e2, e3⟩ ?_
                rotate_left 1
                · intro W hW; obtain ⟨⟨s0, s1, s2, s3⟩, s4, s5, s6, s7⟩ := hW; go_simp <;> with_reducible rfl
                refine wpAnyH_take (i := 4) (v := ?_) rfl (by kernel_rfl) (by kernel_rfl) (by kernel_rfl) (fun _ _ _ h => h) (Or.inl ⟨by rfl, ?_⟩) ⟨⟨d0, d1, d2, d3⟩, e0, e1, e2, e3⟩ ?_
                rotate_left 1
                · intro W hW; obtain ⟨⟨s0, s1, s2, s3⟩, s4, s5, s6, s7⟩ := hW; go_simp <;> with_reducible rfl
                simp only [Act.put, List.setIfInBounds_toArray]
                refine wpAnyH_ready (rs := [3]) (by kernel_rfl) (by simp) ?_
                refine AllReadyH.cons rfl (fun K hK => ?_) AllReadyH.nil
                go_simp
                refine (Hyes.out wr.drew (Below.refl _ _).drew).mono ?_
                rintro e V1 ⟨v, rfl, ⟨ky, hky, rfl⟩, hB1⟩
                have HB1 : Hid (Below wr.heap.size wr V1) := Lib.hid ((show Below wr.heap.size wr wr.drew from (Below.refl _ _).drew).trans hB1)
                clear hB1
                refine hK.out _ _ ⟨⟨cell_below HB1.out d0, cell_below HB1.out d1, cell_below HB1.out d2, cell_below HB1.out d3⟩, cell_below HB1.out e0, cell_below HB1.out e1, cell_below HB1.out e2, cell_below HB1.out e3⟩ (fun _ => ?_)
                clear hK K
                refine wpAnyH_ready (rs := [5]) (by kernel_rfl) (by simp) ?_
                refine AllReadyH.cons rfl (fun K hK => ?_) AllReadyH.nil
                go_simp
                refine (Hno.out V1 HB1.out).mono ?_
                rintro e V2 ⟨v, rfl, ⟨kn, hkn', rfl⟩, hB2⟩
                have HBV2 : Hid (Below wr.heap.size wr V2) := Lib.hid (below_trans' HB1.out hB2)
                have hASK : Hid (AskQ ⟨L, R, A, ca, B, cb, l, t⟩ k (max (openC ky : Int) (openC kn : Int))) := Lib.hid ⟨ky, kn, hky, hkn', rfl⟩
                replace d0 := cell_below HBV2.out d0
                replace d1 := cell_below HBV2.out d1
                replace d2 := cell_below HBV2.out d2
                replace d3 := cell_below HBV2.out d3
                replace e0 := cell_below HBV2.out e0
                replace e1 := cell_below HBV2.out e1
                replace e2 := cell_below HBV2.out e2
                replace e3 := cell_below HBV2.out e3
                have HOv := Lib.hid (HOw.out.kept (grown_below HBV2.out) (Classical.em _))
                have hlv := HBV2.out.size
                refine hK.out _ _ ⟨⟨d0, d1, d2, d3⟩, e0, e1, e2, e3⟩ (fun _ => ?_)
                clear hK K hB2 HB1 hky hkn' Hyes Hno HOw
                refine wpAnyH_take (i := 6) (v := ?_) rfl (by kernel_rfl) (by kernel_rfl) (by kernel_rfl) (fun _ _ _ h => h) (Or.inl ⟨by rfl, ?_⟩) ⟨⟨d0, d1, d2, d3⟩, e0, e1, e2, e3⟩ ?_
                rotate_left 1
                · intro W hW; obtain ⟨⟨s0, s1, s2, s3⟩, s4, s5, s6, s7⟩ := hW; go_simp <;> with_reducible rfl
                refine wpAnyH_take (i := 7) (v := ?_) rfl (by kernel_rfl) (by kernel_rfl) (by kernel_rfl) (fun _ _ _ h => h) (Or.inl ⟨by rfl, ?_⟩) ⟨⟨d0, d1, d2, d3⟩, e0, e1, e2, e3⟩ ?_
                rotate_left 1
                · intro W hW; obtain ⟨⟨s0, s1, s2, s3⟩, s4, s5, s6, s7⟩ := hW; go_simp <;> with_reducible rfl
                simp only [Act.put, List.setIfInBounds_toArray]
                refine wpAnyH_ready (rs := [8]) (by kernel_rfl) (by simp) ?_
                refine AllReadyH.cons rfl (fun K hK => ?_) AllReadyH.nil
                go_simp
                obtain ⟨mx, hmx⟩ : ∃ mx : Int, max (openC ky : Int) (openC kn : Int) = mx := ⟨_, rfl⟩
                rw [hmx] at hASK ⊢
                have hnb := heap_alloc_new V2 (.cells #[.int .i64 k, .int .i64 mx] 88)
                have HOb := Lib.hid (HOv.out.alloc (.cells #[.int .i64 k, .int .i64 mx] 88))
                have hal : Below V2.heap.size V2 (V2.alloc (.cells #[.int .i64 k, .int .i64 mx] 88)) := below_alloc' (Below.refl _ _) _
                have HBb := Lib.hid (below_trans' HBV2.out hal)
                replace d0 := cell_below hal d0
                replace d1 := cell_below hal d1
                replace d2 := cell_below hal d2
                replace d3 := cell_below hal d3
                replace e0 := cell_below hal e0
                replace e1 := cell_below hal e1
                replace e2 := cell_below hal e2
                replace e3 := cell_below hal e3
                have hsb : (V2.alloc (.cells #[.int .i64 k, .int .i64 mx] 88)).heap.size = V2.heap.size + 1 := World.size_alloc _ _
                refine hK.out _ _ ⟨⟨d0, d1, d2, d3⟩, e0, e1, e2, e3⟩ (fun _ => ?_)
                clear hK K hmx hal HOv
                generalize V2.alloc (.cells #[.int .i64 k, .int .i64 mx] 88) = V3 at *
                generalize hnbn : V2.heap.size = nb at *
                refine wpAnyH_ready (rs := [9]) (by kernel_rfl) (by simp) ?_
                refine AllReadyH.cons rfl (fun K hK => ?_) AllReadyH.nil
                obtain ⟨i0, hi, hz0, hz1, hz2⟩ := info_parts elemQ.info
                have hqs := qs_len HQ.out
                have hown := HOb.out
                have hbase := hown.2
                have hbO : ∀ r, (u6).ownBlock = some r → w2.heap.size ≤ r ∧ r < wo.heap.size := fun r e => HOr.out.lt r e
                have hw2o : w2.heap.size ≤ wo.heap.size := HBr.out.size
                refine step_append_lies V3 rfl (.tmp 78) (.tmp 86) 83 rfl w2.heap.size 88 i0 (.agg #[.int .i64 0, .int .i64 0]) 2 16 Try.underlying83 hi hz0 hz1 hz2 rfl (by omega) u6 qs.length (qs.flatMap encR) (by rfl) hown ⟨nb, 0, none⟩ 1 1 (encR ((k : Int), mx)) (by rfl) rfl (news_new hnb rfl) (oneR _) (by omega) (by simp only [maxLen]; omega) (by omega) (by omega) _ rfl ?_
                intro g' cap' V4 hown4 hg4 hat4 hlt4
                have hblk : ∀ {b i v}, wo.heap.size ≤ b → V3.cell? ⟨b, i, none⟩ = some v → V4.cell? ⟨b, i, none⟩ = some v := fun {b i v} hb h => (World.cell?_of_block (a := ⟨b, i, none⟩) (hg4.block b (block_lt_of_cell h) (fun e => by have := hbO _ e.symm; omega))).trans h
                replace d0 := hblk hg9 d0
                replace d1 := hblk hg9 d1
                replace d2 := hblk hg9 d2
                replace d3 := hblk hg9 d3
                replace e0 := hblk hg10 e0
                replace e1 := hblk hg10 e1
                replace e2 := hblk hg10 e2
                replace e3 := hblk hg10 e3
                have HO4 : Hid (V4.ownsRow w2.heap.size 88 2 (.slice (some ⟨g', 0, none⟩) (qs.length + 1) cap') (qs ++ [((k : Int), mx)]).length ((qs ++ [((k : Int), mx)]).flatMap encR)) := Lib.hid (by
                  rw [push_flat] at hown4
                  rw [len_snoc]
                  exact hown4)
                have HB4 : Hid (Below w2.heap.size w2 V4) := Lib.hid (((HBr.out.trans (HWd.out.mono hw2o)).trans (HBb.out.mono (by omega))).grown hg4 (by omega) (fun r e => (hbO r e).1))
                have HQ4 := Lib.hid (qs_hit HQ.out HV.out hASK.out)
                refine hK.out _ _ ⟨⟨d0, d1, d2, d3⟩, e0, e1, e2, e3⟩ (fun _ => ?_)
                clear hK K hown hown4 hbase hblk hbO hat4 hg4 HOb hnb
                refine wpAnyH_take (i := 10) (v := ?_) rfl (by kernel_rfl) (by kernel_rfl) (by kernel_rfl) (fun _ _ _ h => h) (Or.inl ⟨by rfl, ?_⟩) ⟨⟨d0, d1, d2, d3⟩, e0, e1, e2, e3⟩ ?_
                rotate_left 1
                · intro W hW; obtain ⟨⟨s0, s1, s2, s3⟩, s4, s5, s6, s7⟩ := hW; go_simp <;> with_reducible rfl
                simp only [Act.put, List.setIfInBounds_toArray]
                refine wpAnyH_done (by kernel_rfl) ?_ _
                go_wp2
                go_roundw
                case rel => exact ⟨k + 1, qs ++ [((k : Int), mx)], by omega, by go_num, HB4, HO4, HQ4⟩
                case measure => simp [intOf]; omega
        · obtain ⟨kv, hkv⟩ : ∃ kv, ks.getD k 0 = kv := ⟨_, rfl⟩
          rw [hkv] at hkc hv
          have d1 : (kv != 1) = true := by simpa using hv
          have HM := Lib.hid (qs_miss HQ.out (by rw [hkv]; simpa using hv))
          clear hkv hgd hv
          go_wp2
          go_roundw
          case rel => exact ⟨k + 1, qs, by omega, by go_num, HBr, HOr, HM⟩
          case measure => simp [intOf]; omega
      · have hke : k = ks.length := by omega
        subst hke
        obtain ⟨Aq, cq, rfl, hcq⟩ := own_form HOr.out
        by_cases hq0 : qs.length = 0
        · have dq : (((qs.length : Nat) : Int) == 0) = true := by simp [hq0]
          have HR : Hid (askV qs = .tuple #[.int .i64 0, .int .i64 0, .int .i64 5]) := Lib.hid (if_pos hq0)
          clear hq0
          go_wp2
          go_ret3
          exact Ret.mk ⟨.inr ⟨H0.out, ks, qs, HKS.out, HQ.out, HR.out.symm⟩, HB2.out.trans (HBr.out.mono (by omega))⟩
        · have dq : (((qs.length : Nat) : Int) == 0) = false := by simpa using hq0
          have hqs := qs_len HQ.out
          have hle := Lib.hid (least_any Aq cq qs wo (RowsAt.of_own encR_len HOr.out) (by omega) (by omega) hcq)
          have HR : Hid (askV qs = .tuple #[.int .i64 (leastQ (qs.drop 1) (qs.getD 0 (0, 0))).1, .int .i64 (leastQ (qs.drop 1) (qs.getD 0 (0, 0))).2, .int .i64 0]) := Lib.hid (if_neg hq0)
          obtain ⟨q, hq⟩ : ∃ q, leastQ (qs.drop 1) (qs.getD 0 (0, 0)) = q := ⟨_, rfl⟩
          rw [hq] at hle HR
          clear hq0 hq
          go_wp2_with fail
          refine hle.out.mono ?_
          rintro e w5 ⟨v, rfl, rfl, hB5⟩
          have HB5 := Lib.hid ((HB2.out.trans (HBr.out.mono (by omega))).trans (hB5.mono (by have := HBr.out.size; omega)))
          clear hB5 hle
          have hal : Below w5.heap.size w5 (w5.alloc (.cells #[.int .i64 q.1, .int .i64 q.2] 88)) := below_alloc' (Below.refl _ _) _
          have n0 := new2_0 w5 (.int .i64 q.1) (.int .i64 q.2) 88
          have n1 := new2_1 w5 (.int .i64 q.1) (.int .i64 q.2) 88
          have HB6 := Lib.hid (below_trans' HB5.out hal)
          go_upto_region 25 with fail
          clear hal
          generalize w5.alloc (.cells #[.int .i64 q.1, .int .i64 q.2] 88) = w6 at *
          generalize w5.heap.size = b5 at *
          refine wp_region_quiet_lit (by kernel_rfl) (by kernel_rfl) ?_
          repeat (any_goals (first | go_big_quiet_step (fail) | quiet_step (fail) | (refine wpQuiet_step (fun K hK => ?_); go_simp; split <;> (refine hK _ ?_; clear hK K))))
          all_goals (refine wpQuiet_nil ?_; intro _ hw'; obtain ⟨nq, hw''⟩ := hw'; subst hw'')
          go_wp2
          go_ret3
          exact Ret.mk ⟨.inr ⟨H0.out, ks, qs, HKS.out, HQ.out, HR.out.symm⟩, below_drewN HB6.out _⟩
  · have d0 : (sheetErr L R l t != 0) = true := by simpa using h0
    have HR0 := Lib.hid h0
    clear h0
    go_wp2
    go_ret3
    exact Ret.mk ⟨.inl ⟨HR0.out, rfl⟩, HB1.out⟩
end Go.Proofs.Ytoogfdicmpkkgaa
