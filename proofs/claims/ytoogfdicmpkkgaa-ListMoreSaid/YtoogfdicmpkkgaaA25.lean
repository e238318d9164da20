/- Greatest. -/
import Derived.Test.YtoogfdicmpkkgaaSH
namespace Go.Proofs.Ytoogfdicmpkkgaa
open Go.RowKit Go.Shelf Go.Maps Match

theorem KeepJ.toBelow {n jb mb B : Nat} {X Y : World} (h : KeepJ n jb mb X Y) (h1 : B ≤ n) (h2 : B ≤ jb) (h3 : B ≤ mb) : Below B X Y :=
  ⟨h.os, h.tape, h.output, h.size, fun k hk => h.block k (by omega) (by omega) (by omega)⟩
def sortI (l : List Int) : List Int := l.mergeSort fun x y => decide (x ≤ y)
/-- the links of a joining, by the items of the right list, as numbers -/
def linksI (P : Partners) (k : Nat) : List Int := (linksOf P k).map fun x : Nat => (x : Int)
theorem linksI_none {P : Partners} {k : Nat} (h : P k = none) : linksI P (k + 1) = linksI P k := by unfold linksI linksOf; rw [List.range_succ, List.filterMap_append]; simp [h]
theorem linksI_some {P : Partners} {k x : Nat} (h : P k = some x) : linksI P (k + 1) = linksI P k ++ [(x : Int)] := by unfold linksI linksOf; rw [List.range_succ, List.filterMap_append]; simp [h]
theorem linksI_len (P : Partners) (k : Nat) : (linksI P k).length ≤ k := by
  unfold linksI linksOf
  rw [List.length_map]
  have := List.length_filterMap_le P (List.range k)
  simpa using this
theorem results22 {tmps : Array Value} {W : World} : (results Try.f22 tmps).run Try.prog W = .ok (.tuple #[tmps.getD 2 undef, tmps.getD 3 undef]) W := results_tmp2 (fn := Try.f22) rfl _ _ _
theorem map_encI (l : List Int) : l.map (Value.int .i64) = l.flatMap encI := by induction l <;> simp_all [encI]

theorem run_indexV (f : Nat → Int) {k : Nat} (hk : k < 12) (w : World) : (Instr.index 73 (.agg (rowV f)) (.int .i64 k)).run Try.prog w = .ok (.int .i64 (f k)) w := by
  have h1 := rowV_get f hk
  have e1 : (0 : Int) ≤ (k : Int) := by omega
  unfold Instr.index
  simp [go_sem, h1, e1]
  intro h; omega
/-- a list of numbers of the call's own, in block g -/
def OutS (w : World) (g cap : Nat) (xs : List Int) : Prop := ∃ cur, w.heap[g]? = some (.cells cur 3 (0, 0)) ∧ xs.length ≤ cap ∧ cap ≤ maxLen ∧ cur.size = cap ∧ cur.toList.take xs.length = xs.map (Value.int .i64)
theorem OutS.ints {w : World} {g cap : Nat} {xs : List Int} (h : OutS w g cap xs) : IntsAt w (some ⟨g, 0, none⟩) xs := fun i hi => by
  obtain ⟨cur, h1, h2, h3, h4, h5⟩ := h
  refine ⟨g, 0, rfl, fun j v hv => ?_⟩
  have h6 : (cur.toList.take xs.length)[i * 1 + j]? = some v := by rw [h5, map_encI]; exact flatMap_at encI_len i j hi v hv
  rw [blk_cell h1, Nat.zero_add, ← Array.getElem?_toList]
  have hj := (List.getElem?_eq_some_iff.1 h6).1
  rw [List.length_take] at hj
  rw [List.getElem?_take_of_lt (by omega)] at h6
  exact h6
theorem OutS.below {w w' : World} {g cap : Nat} {xs : List Int} (h : OutS w g cap xs) (hb : Below w.heap.size w w') : OutS w' g cap xs := by
  obtain ⟨cur, h1, h2⟩ := h
  exact ⟨cur, blk_below hb h1, h2⟩
theorem OutS.lt {w : World} {g cap : Nat} {xs : List Int} (h : OutS w g cap xs) : g < w.heap.size := by obtain ⟨cur, h1, _⟩ := h; exact blk_lt h1
theorem OutS.len {w : World} {g cap : Nat} {xs : List Int} (h : OutS w g cap xs) : xs.length ≤ cap := by obtain ⟨cur, _, h1, _⟩ := h; exact h1
theorem wpList_pushr (w : World) {ops : Array Oper} {rest : List Oper} {o : Oper} {a : Act} {Q : Exit → Act → World → Prop}
    (hg : o.guard = none) (s x : Operand) (hop : o.op = Op.call { callee := Callee.builtin Builtin.append, args := #[s, x], argTypes := #[23, 23] })
    (g : Nat) (l : List Int) (hs : a.eval s = .slice (some ⟨g, 0, none⟩) l.length l.length) (hrow : IntsAt w (some ⟨g, 0, none⟩) l) (hlen : l.length ≤ 100000) (y : Int) (B : Nat) (hx : a.eval x = .slice (some ⟨B, 0, none⟩) 1 1)
    (tt : TypeId) (fr : Nat × Nat) (hB : w.heap[B]? = some (.cells #[.int .i64 y] tt fr))
    (hK : ∀ g' cap w', OutS w' g' cap (l ++ [y]) → w.heap.size ≤ g' → Below w.heap.size w w' → wpList Try.prog ops Q rest (a.put o.dst (.slice (some ⟨g', 0, none⟩) (l.length + 1) cap)) w') :
    wpList Try.prog ops Q (o :: rest) a w := by
  obtain ⟨i0, hi, hz0, hz1, hz2⟩ := info_parts infoI3
  refine wpList_append_grows w hg s x 23 hop 3 i0 (.int .i64 0) 1 8 Try.underlying23 hi hz0 hz1 hz2 rfl (by omega) _ l.length l.length (l.flatMap encI) hs (fun h => by cases h) (flatMap_len encI_len l) (RowsAt.olds encI_len hrow) ⟨B, 0, none⟩ 1 1 (encI y) hx rfl (news_new hB rfl) (oneI y) (by omega) (by simp only [maxLen]; omega) (by omega) ?_
  intro v' w' hown hgrow
  rw [push_flat] at hown
  rcases hown.2 with ⟨_, h0⟩ | ⟨g', cap, cur, rfl, hb, hh, hc, hm, hsz, htk⟩
  · omega
  · refine hK g' cap w' ⟨cur, hh, by simpa using hc, hm, by simpa using hsz, ?_⟩ hb ((Below.refl _ w).grown hgrow (Nat.le_refl _) (fun k e => by cases e))
    rw [map_encI, ← htk]; simp

set_option maxRecDepth 100000 in
set_option maxHeartbeats 1000000 in
theorem greatest_any (s : Sh) (w : World) (hl : RangesAt w s.A s.l) (ht : IntsAt w s.B s.t) (hn : s.l.length ≤ 100000) (hm : s.t.length ≤ 1000) (hca : s.l.length ≤ s.ca) (hcm : s.ca ≤ 9223372036854775807) :
    Calls Try.prog 22 #[s.v] w (Ret fun v w' => (sheetErr s.L s.R s.l s.t ≠ 0 ∧ v = .tuple #[.slice none 0 0, .int .i64 (sheetErr s.L s.R s.l s.t)] ∨
      sheetErr s.L s.R s.l s.t = 0 ∧ ∃ G c P D, v = .tuple #[.slice G (s.t.length + (linksI P 12).length) c, .int .i64 0] ∧ IntsAt w' G (sortI (s.t ++ linksI P 12)) ∧ s.t.length + (linksI P 12).length ≤ c ∧ okP s.l.length P ∧ Inv (netOf s.l) (freeP s) s.L.toNat P D) ∧ Below w.heap.size w w') := by
  obtain ⟨L, R, A, ca, B, cb, l, t⟩ := s
  dsimp only at hl ht hn hm hca hcm ⊢
  have Hl := Lib.hid hl; clear hl
  have Ht := Lib.hid ht; clear ht
  have Hm := Lib.hid hm; clear hm
  obtain ⟨w0, hw0⟩ : ∃ w0, w0 = w.alloc (.cells #[.int .i64 L, .int .i64 R, .slice A l.length ca, .slice B t.length cb] 25) := ⟨_, rfl⟩
  have HB0 : Hid (Below w.heap.size w w0) := Lib.hid (by rw [hw0]; exact below_alloc' (Below.refl _ _) _)
  have hX : w0.heap[w.heap.size]? = some (.cells #[.int .i64 L, .int .i64 R, .slice A l.length ca, .slice B t.length cb] 25 (0, 0)) := by rw [hw0]; exact heap_alloc_new _ _
  have hs := fun W (h : Below w.heap.size w W) => checkSheet_any L R A B ca cb l t W (Hl.out.below h) (Ht.out.below h) hn (by have := Hm.out; omega) hca hcm
  have hnj := fun W (h : Below w.heap.size w W) => newJoiner_any ⟨L, R, A, ca, B, cb, l, t⟩ W (Hl.out.below h) (Ht.out.below h) (show t.length ≤ 100000 by have := Hm.out; omega)
  unfold Sh.v at hnj ⊢
  dsimp only at hnj ⊢
  unfold vSheet at hs hnj ⊢
  have Hs := Lib.hid hs
  have Hnj := Lib.hid hnj
  clear hs hnj
  have y0 : w0.cell? ⟨w.heap.size, 0, none⟩ = some (.int .i64 L) := (blk_cell hX).trans rfl
  have y1 : w0.cell? ⟨w.heap.size, 1, none⟩ = some (.int .i64 R) := (blk_cell hX).trans rfl
  have y2 : w0.cell? ⟨w.heap.size, 2, none⟩ = some (.slice A l.length ca) := (blk_cell hX).trans rfl
  have y3 : w0.cell? ⟨w.heap.size, 3, none⟩ = some (.slice B t.length cb) := (blk_cell hX).trans rfl
  have hyw0 := blk_lt hX
  clear hX
  have Hc := Lib.hid (Hs.out w0 HB0.out)
  rw [hw0] at y0 y1 y2 y3 Hc
  have HW0 := Lib.hid hw0
  clear hw0
  go_enter Try.func22, Try.ntmps22
  go_wp2_with fail
  refine Hc.out.mono ?_
  rintro e w1 ⟨v, rfl, rfl, hB1⟩
  rw [← HW0.out] at hB1 y0 y1 y2 y3
  have HB1 := Lib.hid (below_trans' HB0.out hB1)
  have hyw := Nat.lt_of_lt_of_le hyw0 hB1.size
  replace y0 := cell_below hB1 y0
  replace y1 := cell_below hB1 y1
  replace y2 := cell_below hB1 y2
  replace y3 := cell_below hB1 y3
  clear hB1 Hc HB0 HW0
  by_cases h0 : sheetErr L R l t = 0
  · have d0 : (sheetErr L R l t != 0) = false := by simp [h0]
    have HS := Lib.hid (sheet_ok h0)
    have H0 := Lib.hid h0; clear h0
    have Hc := Lib.hid (Hnj.out w1 HB1.out HS.out.known HS.out.in12)
    go_wp2_with fail
    refine Hc.out.mono ?_
    rintro e w2 ⟨v, rfl, ⟨jb, rfl, hj, ha⟩, hB2⟩
    have HB2 := Lib.hid (below_trans' HB1.out hB2)
    replace y3 := cell_below hB2 y3
    have hs1 := HB1.out.size
    have hs12 := hB2.size
    have hbj := hj.base
    have hy3 := block_lt_of_cell y3
    have Hc2 := Lib.hid (join_any jb w1.heap.size ⟨L, R, A, ca, B, cb, l, t⟩ 42 #[.pointer (some ⟨jb, 0, none⟩)] #[] (freeP ⟨L, R, A, ca, B, cb, l, t⟩) w2 hj ha.there (by have := HS.out.dim; dsimp only; omega) hn HS.out.in12 enters42 (allows_free hj hB2.size hB2.size HS.out.in12))
    clear hB2 Hc hj ha y0 y1 y2
    go_wp2_with fail
    refine Hc2.out.mono ?_
    rintro e w3 ⟨v, rfl, n, P, D, rfl, hq⟩
    have hB3 := hq.keep.toBelow (B := w1.heap.size) (by omega) hbj (by omega)
    have hy1 : w.heap.size < w1.heap.size := hyw
    have y3' := (hB3.cell (p := ⟨w.heap.size, 3, none⟩) hy1).trans y3
    have HB3 : Hid (Below w.heap.size w w3) := Lib.hid (HB2.out.trans (hB3.mono (by omega)))
    have HA3 := Lib.hid hq.arr
    have HO := Lib.hid hq.ok
    have HI := Lib.hid hq.inv
    have hjl : jb < w3.heap.size := block_lt_of_cell (hq.arr 0 (by omega)).1
    have hs3 := hq.keep.size
    clear hq Hc2 y3 hB3
    have HT3 := Lib.hid (Ht.out.below HB3.out)
    obtain ⟨zs, hzs⟩ : ∃ zs : Array Value, zs = madeCells #[.int .i64 0] t.length := ⟨_, rfl⟩
    have hzl : zs.toList.length = t.length := by rw [hzs]; simp [madeCells]
    have hmk := fun w => run_make_row' (P := Try.prog) 23 3 (.int .i64 0) 8 Try.underlying23 infoI3 rfl .i64 .i64 t.length (by have := Hm.out; omega) (by have := Hm.out; omega) w
    rw [← hzs] at hmk
    have Hzs := Lib.hid hzs; clear hzs
    obtain ⟨X, hX⟩ : ∃ X : List Value, X = t.flatMap encI := ⟨_, rfl⟩
    have hXl : X.length = t.length := by rw [hX, flatMap_len encI_len]; omega
    have HX1 : Hid (∀ v ∈ X, v.oneCell' = true) := fun v hv => by
      rw [hX, List.mem_flatMap] at hv
      obtain ⟨x, _, hx⟩ := hv
      exact oneI x v hx
    have HXs : Hid (0 < X.length → ∃ ad, B = some ad ∧ ∀ j v, X[j]? = some v → (w3.alloc (.cells zs 3)).cell? (ad.add j) = some v) := fun h0 => by
      obtain ⟨b, off, hb, _⟩ := HT3.out 0 (by omega)
      exact ⟨_, hb, fun j v hj => cell_alloc (RowsAt.olds encI_len HT3.out _ hb j v (by rw [← hX]; exact hj)) _⟩
    have HXl := Lib.hid hXl
    have HX := Lib.hid hX; clear hX
    have Hzl := Lib.hid hzl
    clear hXl hzl
    have y4 := cell_alloc y3' (.cells zs 3)
    go_upto_region 7 with fail
    clear hmk
    go_upto_region 8 with (first
      | (refine wpList_copy_splice (o := ⟨some 27, _, _, _, _, _⟩) rfl (.tmp 24) (.tmp 26) 23 23 rfl 3 Try.underlying23 (by kernel_rfl) (some ⟨w3.heap.size, 0, none⟩) B t.length t.length t.length cb (by rfl) (by rfl) w3.heap.size 0 zs.toList 3 (by rw [Array.toArray_toList]; exact heap_alloc_new w3 _) X (by rw [HXl.out]; exact (Nat.min_self _).symm) (fun h => ⟨rfl, HXs.out h⟩) (by rw [HXl.out, Hzl.out, Nat.zero_add]; exact Nat.le_refl _) HX1.out w3.heap.size w3 (below_alloc' (Below.refl _ _) _) (Nat.le_refl _) ?_
         intro w4 HG4 hb4))
    have HG : Hid (w4.heap[w3.heap.size]? = some (.cells X.toArray 3 (0, 0))) := by
      show _ = _
      rw [HG4]; simp [splice, HXl.out, Hzl.out]
    have hI4 : OutS w4 w3.heap.size t.length t := ⟨X.toArray, HG.out, Nat.le_refl _, by have := Hm.out; unfold maxLen; omega, by simp [HXl.out], by show List.take t.length X = _; rw [HX.out, ← map_encI]; exact List.take_of_length_le (by rw [List.length_map]; exact Nat.le_refl _)⟩
    have hA4 := HA3.out.below hb4
    have HB4 := Lib.hid (below_trans' HB3.out hb4)
    have HR4 := Lib.hid hA4.range
    have hs4 := hb4.size
    have HB34 := Lib.hid hb4
    clear HG4 hb4 y4 hA4 HG
    clear y3'
    have hwn := linksI_len P 12
    have hwk : ∀ k, (encP P k) = 0 ∨ ∃ x : Nat, P k = some x ∧ encP P k = (x : Int) + 1 := fun k => by cases h : P k <;> simp [encP, h]
    go_upto_region 9 with (refine wpList_load_mid rfl 73 (.tmp 30) rfl jb 28 (by rfl) (rowV (encP P)).toList _ HR4.out Try.underlying73 rfl (by rw [info73, Array.length_toList, rowV_size]) ?_)
    go_loopw [6, 32] (fun ov i wr => ∃ (k G c : Nat), k ≤ 12 ∧ i = .int .i64 k ∧ ov = .slice (some ⟨G, 0, none⟩) (t.length + (linksI P k).length) c ∧ OutS wr G c (t ++ linksI P k) ∧ w3.heap.size ≤ G ∧ Below w3.heap.size w3 wr) (fun _ i _ => 12 - (intOf i).toNat)
    case atStart => exact ⟨0, w3.heap.size, t.length, by omega, rfl, by simp [linksI, linksOf], by simpa [linksI, linksOf] using hI4, Nat.le_refl _, HB34.out⟩
    case round =>
      obtain ⟨k, G, c, hk, rfl, rfl, hO, hG, hB⟩ := hrel
      by_cases hkn : k < 12
      · have hrow := run_indexV (encP P) hkn wr
        have HO2 := Lib.hid hO
        have HB2' := Lib.hid hB
        have hln : (linksI P k).length ≤ k := linksI_len P k
        clear hO hB
        rcases hwk k with h0 | ⟨x, hx, h0⟩
        · rw [h0] at hrow
          have hpn := linksI_none (encP_none.1 h0)
          go_wp2
          go_roundw
          case rel => exact ⟨k + 1, G, c, by omega, by go_num, by rw [hpn], by rw [hpn]; exact HO2.out, hG, HB2'.out⟩
          case measure => simp [intOf]; omega
        · rw [h0] at hrow
          have hps := linksI_some hx
          have hxm := HO.out k x hx
          have hw0 : IntKind.i64.wrap ((x : Int) + 1 - 1) = (x : Int) := by rw [show (x : Int) + 1 - 1 = x by omega]; exact IntWalk.i64_in _ (by omega)
          have hw1 : IntKind.i64.wrap (x : Int) = (x : Int) := IntWalk.i64_in _ (by omega)
          have hOc := HO2.out.len
          rw [List.length_append] at hOc
          have icx : ((t.length + (linksI P k).length : Nat) : Int) ≤ (c : Int) := by omega
          go_upto_region 12 with fail
          have hRi := (HO2.out.below (below_alloc' (Below.refl wr.heap.size wr) (.cells #[.int .i64 x] 3))).ints
          have hBk := heap_alloc_new wr (.cells #[.int .i64 x] 3)
          have hB5 := below_alloc' HB2'.out (.cells #[.int .i64 x] 3)
          have hla : (t ++ linksI P k).length = t.length + (linksI P k).length := List.length_append
          go_wp2_with (first | (at_builtin; refine wpList_pushr _ rfl (.tmp 42) (.tmp 45) rfl G (t ++ linksI P k) (by rw [hla]; rfl) hRi (by rw [hla]; have := Hm.out; omega) x wr.heap.size (by rfl) 3 (0, 0) hBk ?_; intro g' cap w6 hO6 hg6 hb6))
          go_roundw
          case rel => exact ⟨k + 1, g', cap, by omega, by go_num, by rw [hps, List.length_append, List.length_cons, List.length_nil, Nat.zero_add, ← Nat.add_assoc], by rw [hps, ← List.append_assoc]; exact hO6, by have := hB5.size; omega, below_trans' hB5 hb6⟩
          case measure => simp [intOf]; omega
      · obtain rfl : k = 12 := by omega
        have hla : (t ++ linksI P 12).length = t.length + (linksI P 12).length := List.length_append
        have HOc := hO.len
        have hlt := hO.lt
        obtain ⟨cur, hc1, hc2, hc3, hc4, hc5⟩ := hO
        have hb0 := below_trans' HB3.out hB
        have hss := Try.slices_Sort_int G 0 c (t ++ linksI P 12) wr (holds_of_blockI hc1 hc5) hlt (by rw [hla]; have := Hm.out; omega)
        rw [hla] at hss
        have Hss := Lib.hid hss
        clear hss
        go_wp2_with fail
        refine Hss.out.mono ?_
        rintro e w7 ⟨rfl, q, os, hw7⟩
        have HW7 := Lib.hid hw7; clear hw7
        go_wp2
        have hsl : (sortI (t ++ linksI P 12)).length = t.length + (linksI P 12).length := (List.length_mergeSort _).trans hla
        have hown := ownsRow_sortedI (n := q) (os := os) (base := w.heap.size) (ss := t ++ linksI P 12) (ts := sortI (t ++ linksI P 12)) (List.length_mergeSort _) (by have := HB3.out.size; omega) hc1 HOc hc3 (by rw [hc4, Nat.mul_one])
        have hgr := grownBy_sortedI (w := wr) (g := G) (n := q) (os := os) (sortI (t ++ linksI P 12)).toArray
        have hw7' : w7 = Sort.grow (Sort.putRow (Value.int .i64) (Sort.ahead wr q) G 0 (sortI (t ++ linksI P 12)).toArray) os := HW7.out
        rw [← hw7'] at hown hgr
        have hIA : IntsAt w7 (some ⟨G, 0, none⟩) (sortI (t ++ linksI P 12)) := RowsAt.of_own (base := w.heap.size) (e := 3) (c := c) encI_len (by rw [hsl, ← hla, ← map_encI]; exact hown)
        exact bodyPost_ret results22 rfl (Ret.mk ⟨.inr ⟨H0.out, some ⟨G, 0, none⟩, c, P, D, rfl, hIA, by rw [← hla]; exact HOc, HO.out, HI.out⟩, hb0.grown hgr hb0.size (fun k e => by injection e with e; have := HB3.out.size; omega)⟩)
  · have d0 : (sheetErr L R l t != 0) = true := by simpa using h0
    go_wp2
    exact bodyPost_ret results22 rfl (Ret.mk ⟨.inl ⟨h0, rfl⟩, HB1.out⟩)
end Go.Proofs.Ytoogfdicmpkkgaa
