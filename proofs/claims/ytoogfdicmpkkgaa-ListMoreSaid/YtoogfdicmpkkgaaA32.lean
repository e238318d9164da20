/- Items. -/
import Derived.Test.YtoogfdicmpkkgaaB5
namespace Go.Proofs.Ytoogfdicmpkkgaa
open Go.RowKit Go.Shelf Go.Maps Match

/-- the greatest kind of an item's links -/
def maxK (of : Nat → Int) (ks : List Int) : Nat → Nat → Int
  | 0, _ => 0
  | m + 1, i => if of m = i then max (maxK of ks m i) (ks.getD m 0) else maxK of ks m i
def ItemIs (s : Sh) (right : Bool) (ks : List Int) (i : Nat) (v : Int) : Prop :=
  ∃ n, IsMost (netOf s.l) (freeP s) n ∧ (maxK (ofS s right) ks s.l.length i ≠ 1 ∧ v = maxK (ofS s right) ks s.l.length i ∨
    maxK (ofS s right) ks s.l.length i = 1 ∧ ∃ a, IsMost (netOf s.l) (restOf s right i) a ∧ v = if a < n then 2 else 1)
theorem arr_snoc {w : World} {G M k : Nat} {is : List Int} {F : Nat → Int} (h : Arr w G 0 M (fun j => if j < k then is.getD j 0 else F j)) (hl : is.length = k) : Arr w G 0 M (fun j => if j < k + 1 then (is ++ [F k]).getD j 0 else F j) :=
  h.congr fun j _ => by
    rw [getD_snoc, hl]
    by_cases e : j = k
    · subst e; simp
    · by_cases e2 : j < k
      · rw [if_pos e2, if_pos (by omega), if_neg e]
      · rw [if_neg e2, if_neg (by omega)]
theorem items_snoc {s : Sh} {right : Bool} {ks is : List Int} {v : Int} {k : Nat} (hl : is.length = k) (h : ∀ j, j < k → ItemIs s right ks j (is.getD j 0)) (hv : ItemIs s right ks k v) : ∀ j, j < k + 1 → ItemIs s right ks j ((is ++ [v]).getD j 0) := fun j hj => by
  rw [getD_snoc, hl]
  by_cases e : j = k
  · rw [if_pos e, e]; exact hv
  · rw [if_neg e]; exact h j (by omega)
theorem Arr.ints {w : World} {G M : Nat} {f : Nat → Int} {is : List Int} (h : Arr w G 0 M f) (hl : is.length = M) (hf : ∀ j, j < M → f j = is.getD j 0) : IntsAt w (some ⟨G, 0, none⟩) is := fun i hi =>
  ⟨G, 0, rfl, fun j v hv => by
    have h1 := (h i (by omega)).1
    rw [hf i (by omega), show is.getD i 0 = is[i] by simp [List.getD_eq_getElem?_getD, hi]] at h1
    cases j with
    | zero => simp [encI] at hv; subst hv; simpa using h1
    | succ j => simp [encI] at hv⟩
def manyOf (s : Sh) (right : Bool) : Nat := (bif right then s.R else s.L).toNat

set_option maxRecDepth 100000 in
set_option maxHeartbeats 2000000 in
theorem itemsM_any (s : Sh) (right : Bool) (w : World) (hl : RangesAt w s.A s.l) (ht : IntsAt w s.B s.t) (hn : s.l.length ≤ 100000) (hm : s.t.length ≤ 1000) (hca : s.l.length ≤ s.ca) (hcm : s.ca ≤ 9223372036854775807) :
    Calls Try.prog 27 #[s.v, .bool right] w (Ret fun v w' => (sheetErr s.L s.R s.l s.t ≠ 0 ∧ v = .tuple #[.slice none 0 0, .int .i64 (sheetErr s.L s.R s.l s.t)] ∨
      sheetErr s.L s.R s.l s.t = 0 ∧ ∃ G is ks, v = .tuple #[.slice (some ⟨G, 0, none⟩) is.length is.length, .int .i64 0] ∧ IntsAt w' (some ⟨G, 0, none⟩) is ∧ KindsAre s ks ∧ is.length = manyOf s right ∧ ∀ i, i < is.length → ItemIs s right ks i (is.getD i 0)) ∧ Below w.heap.size w w') := by
  obtain ⟨L, R, A, ca, B, cb, l, t⟩ := s
  dsimp only at hl ht hn hm hca hcm ⊢
  have Hl := Lib.hid hl; clear hl
  have Ht := Lib.hid ht; clear ht
  have Hm := Lib.hid hm; clear hm
  obtain ⟨w0, hw0⟩ : ∃ w0, w0 = w.alloc (.cells #[.int .i64 L, .int .i64 R, .slice A l.length ca, .slice B t.length cb] 25) := ⟨_, rfl⟩
  have HB0 : Hid (Below w.heap.size w w0) := Lib.hid (by rw [hw0]; exact below_alloc' (Below.refl _ _) _)
  have hX : w0.heap[w.heap.size]? = some (.cells #[.int .i64 L, .int .i64 R, .slice A l.length ca, .slice B t.length cb] 25 (0, 0)) := by rw [hw0]; exact heap_alloc_new _ _
  have hs := fun W (h : Below w.heap.size w W) => checkSheet_any L R A B ca cb l t W (Hl.out.below h) (Ht.out.below h) hn (by have := Hm.out; omega) hca hcm
  have hnj := fun W (h : Below w.heap.size w W) => newJoiner_any ⟨L, R, A, ca, B, cb, l, t⟩ W (Hl.out.below h) (Ht.out.below h) (show t.length ≤ 100000 by have := Hm.out; omega)
  have hki := fun W (h : Below w.heap.size w W) => kinds_any ⟨L, R, A, ca, B, cb, l, t⟩ W (Hl.out.below h) (Ht.out.below h) Hm.out
  unfold Sh.v at hnj hki ⊢
  dsimp only at hnj hki ⊢
  unfold vSheet at hs hnj hki ⊢
  have Hs := Lib.hid hs
  have Hnj := Lib.hid hnj
  have Hki := Lib.hid hki
  clear hs hnj hki
  have y0 : w0.cell? ⟨w.heap.size, 0, none⟩ = some (.int .i64 L) := (blk_cell hX).trans rfl
  have y1 : w0.cell? ⟨w.heap.size, 1, none⟩ = some (.int .i64 R) := (blk_cell hX).trans rfl
  have y2 : w0.cell? ⟨w.heap.size, 2, none⟩ = some (.slice A l.length ca) := (blk_cell hX).trans rfl
  have y3 : w0.cell? ⟨w.heap.size, 3, none⟩ = some (.slice B t.length cb) := (blk_cell hX).trans rfl
  have hyw0 := blk_lt hX
  have HX := Lib.hid hX
  clear hX
  have Hc := Lib.hid (Hs.out w0 HB0.out)
  rw [hw0] at y0 y1 y2 y3 Hc
  have HW0 := Lib.hid hw0
  clear hw0
  go_enter Try.func27, Try.ntmps27
  go_wp2_with fail
  refine Hc.out.mono ?_
  rintro e w1 ⟨v, rfl, rfl, hB1⟩
  rw [← HW0.out] at hB1 y0 y1 y2 y3
  have HB1 := Lib.hid (below_trans' HB0.out hB1)
  have hyw := Nat.lt_of_lt_of_le hyw0 hB1.size
  replace HX := Lib.hid (blk_below hB1 HX.out)
  replace y0 := cell_below hB1 y0
  replace y1 := cell_below hB1 y1
  replace y2 := cell_below hB1 y2
  replace y3 := cell_below hB1 y3
  clear hB1 Hc HB0 HW0
  by_cases h0 : sheetErr L R l t = 0
  · have d0 : (sheetErr L R l t != 0) = false := by simp [h0]
    have HS := Lib.hid (sheet_ok h0)
    have H0 := Lib.hid h0; clear h0
    have hfz := fun v => (rfl : (w1.alloc (.cells #[v] 81)).frozen? ⟨w1.heap.size, 0, none⟩ = (w1.alloc (.cells #[v] 81)).frozen? ⟨w1.heap.size, 0, none⟩)
    clear hfz
    have hb7 := heap_alloc_new w1 (.cells #[.func (.func 59) #[] #[.pointer (some ⟨w.heap.size, 0, none⟩)]] 81)
    have hal : Below w1.heap.size w1 (w1.alloc (.cells #[.func (.func 59) #[] #[.pointer (some ⟨w.heap.size, 0, none⟩)]] 81)) := below_alloc' (Below.refl _ _) _
    have z1 := cell_below hal y1
    have z0 := cell_below hal y0
    have hsz2 : (w1.alloc (.cells #[.func (.func 59) #[] #[.pointer (some ⟨w.heap.size, 0, none⟩)]] 81)).heap.size = w1.heap.size + 1 := World.size_alloc _ _
    go_upto_region 5 with fail
    clear y0 y1 y2 y3
    have HB2 := Lib.hid (below_trans' HB1.out hal)
    replace HX := Lib.hid (blk_below hal HX.out)
    clear hal
    generalize w1.alloc (.cells #[.func (.func 59) #[] #[.pointer (some ⟨w.heap.size, 0, none⟩)]] 81) = w2 at *
    generalize hb7n : w1.heap.size = b7 at *
    go_upto_if 25 with fail
    go_cut [8] (fun s8 wx => s8 = .int .i64 (bif right then R else L) ∧ wx.heap[b7]? = some (.cells #[.func (.func (ofF right)) #[] #[.pointer (some ⟨w.heap.size, 0, none⟩)]] 81 (0, 0)) ∧ Hid (Below b7 w2 wx) ∧ wx.heap.size = b7 + 1)
    case first =>
      cases right
      · go_wp2_with fail
        go_meet
        exact ⟨rfl, hb7, Lib.hid (Below.refl _ _), hsz2⟩
      · go_upto_region 7 with fail
        have hfr := blk_frozen (i := 0) hb7
        have hb7c : w2.cell? ⟨b7, 0, none⟩ = some (.func (.func 59) #[] #[.pointer (some ⟨w.heap.size, 0, none⟩)]) := (blk_cell hb7).trans rfl
        have hne : w.heap.size ≠ b7 := by omega
        go_region_held3 (fun W => W.cell? ⟨w.heap.size, 1, none⟩ = some (.int .i64 R))
          (first | exact z1 | exact cell_far z1 (fun e => hne (congrArg Addr.block e))) (fail)
        all_goals
          go_wp2_with fail
          go_meet
          exact ⟨rfl, blk_set (i := 0) hb7 _, Lib.hid (((Below.refl b7 w2).setCell (p := ⟨b7, 0, none⟩) (Nat.le_refl _) _).drew), by simp; omega⟩
    case rest =>
      obtain ⟨rfl, hb7', hBw, hszw⟩ := hcut
      obtain ⟨w3, hw3⟩ : ∃ w3, w3 = wc := ⟨_, rfl⟩
      subst hw3
      have hwX : w.heap.size < b7 := by omega
      have HB3 : Hid (Below w.heap.size w w3) := Lib.hid (HB2.out.trans (hBw.out.mono (by omega)))
      have hX3 := (hBw.out.block _ hwX).trans HX.out
      have y0 : w3.cell? ⟨w.heap.size, 0, none⟩ = some (.int .i64 L) := (blk_cell hX3).trans rfl
      have y1 : w3.cell? ⟨w.heap.size, 1, none⟩ = some (.int .i64 R) := (blk_cell hX3).trans rfl
      have y2 : w3.cell? ⟨w.heap.size, 2, none⟩ = some (.slice A l.length ca) := (blk_cell hX3).trans rfl
      have y3 : w3.cell? ⟨w.heap.size, 3, none⟩ = some (.slice B t.length cb) := (blk_cell hX3).trans rfl
      clear hb7 z0 z1 HX hBw hb7n HB2 hsz2
      have hdim := HS.out.dim
      obtain ⟨M, hM, hM1, hM2, hMm⟩ : ∃ M : Nat, (bif right then R else L) = (M : Int) ∧ 1 ≤ M ∧ M ≤ 12 ∧ manyOf ⟨L, R, A, ca, B, cb, l, t⟩ right = M := by
        cases right
        · exact ⟨L.toNat, by show L = _; omega, by omega, by omega, rfl⟩
        · exact ⟨R.toNat, by show R = _; omega, by omega, by omega, rfl⟩
      have HMm := Lib.hid hMm
      rw [hM]
      have hofr : ∀ k, k < l.length → ∃ y : Nat, y < M ∧ ofS ⟨L, R, A, ca, B, cb, l, t⟩ right k = (y : Int) := fun k hk => by
        have h1 := HS.out.links l[k] (List.getElem_mem hk)
        unfold ofS
        dsimp only
        rw [atL_eq hk]
        cases right
        · exact ⟨(l[k]).1.toNat, by have : L = (M : Int) := hM; omega, by show (l[k]).1 = _; omega⟩
        · exact ⟨(l[k]).2.toNat, by have : R = (M : Int) := hM; omega, by show (l[k]).2 = _; omega⟩
      have Hofr := Lib.hid hofr
      have HOf := Lib.hid (of_any w3.heap.size w.heap.size ⟨L, R, A, ca, B, cb, l, t⟩ right)
      generalize ofF right = g at hb7' HOf
      clear hM hMm hofr hdim
      have Hc := Lib.hid (Hnj.out w3 HB3.out HS.out.known HS.out.in12)
      go_wp2_with fail
      refine Hc.out.mono ?_
      rintro e w4 ⟨v, rfl, ⟨jb, rfl, hj, ha⟩, hB4⟩
      have hX4 := blk_below hB4 hX3
      have hb74 := blk_below hB4 hb7'
      have HB4 := Lib.hid (below_trans' HB3.out hB4)
      have hs34 := hB4.size
      have hbj := hj.base
      have hjl := hj.lt
      clear hX3 hb7' hB4 Hc y0 y1 y2 y3
      have hal : Below w4.heap.size w4 (w4.alloc (.cells #[.pointer (some ⟨jb, 0, none⟩)] 62)) := below_alloc' (Below.refl _ _) _
      have hX5 := blk_below hal hX4
      have hb75 := blk_below hal hb74
      have hb95 := heap_alloc_new w4 (.cells #[.pointer (some ⟨jb, 0, none⟩)] 62)
      have hj5 := hj.below hal
      have ht5 := (ha.below hal).there
      have HB5 := Lib.hid (below_trans' HB4.out hal)
      have hsz5 : (w4.alloc (.cells #[.pointer (some ⟨jb, 0, none⟩)] 62)).heap.size = w4.heap.size + 1 := World.size_alloc _ _
      have y5 : (w4.alloc (.cells #[.pointer (some ⟨jb, 0, none⟩)] 62)).cell? ⟨w4.heap.size, 0, none⟩ = some (.pointer (some ⟨jb, 0, none⟩)) := (blk_cell hb95).trans rfl
      have hL12 : 0 ≤ L ∧ L ≤ 12 := by have := HS.out.dim; omega
      have Hc2 := Lib.hid (join_any jb w3.heap.size ⟨L, R, A, ca, B, cb, l, t⟩ 42 #[.pointer (some ⟨jb, 0, none⟩)] #[] (freeP ⟨L, R, A, ca, B, cb, l, t⟩) (w4.alloc (.cells #[.pointer (some ⟨jb, 0, none⟩)] 62)) hj5 ht5 hL12 hn HS.out.in12 enters42 (allows_free hj5 (by omega) (by omega) HS.out.in12))
      go_upto_region 9 with fail
      clear hal hX4 hb74 ha hj
      generalize w4.alloc (.cells #[.pointer (some ⟨jb, 0, none⟩)] 62) = w5 at *
      generalize hb9n : w4.heap.size = b9 at *
      go_wp2_with fail
      refine Hc2.out.mono ?_
      rintro e w6 ⟨v, rfl, n, P, D, rfl, hq⟩
      obtain ⟨hinv, _, har, hnum, hkeep⟩ := hq
      have HN := Lib.hid (most_of hinv HS.out)
      have hgk := hkeep.grown' (Nat.le_refl _)
      have hj6 := hj5.keep hkeep (by omega) (by omega)
      have ht6 := har.there
      have hX6 := blk_grown hgk hX5 (by simp; omega)
      have hb76 := blk_grown hgk hb75 (by simp; omega)
      have hb96 := blk_grown hgk hb95 (by simp; omega)
      have HB6 := Lib.hid (HB5.out.trans (hkeep.toBelow (B := w.heap.size) (by omega) (by omega) (by omega)))
      have hs6 := hkeep.size
      have hnc := countOf_le P
      subst hnum
      generalize hcn : countOf P = n at *
      clear Hc2 hinv har hkeep hgk hj5 ht5 hX5 hb75 hb95 y5 hcn
      have y0 : w6.cell? ⟨w.heap.size, 0, none⟩ = some (.int .i64 L) := (blk_cell hX6).trans rfl
      have y1 : w6.cell? ⟨w.heap.size, 1, none⟩ = some (.int .i64 R) := (blk_cell hX6).trans rfl
      have y2 : w6.cell? ⟨w.heap.size, 2, none⟩ = some (.slice A l.length ca) := (blk_cell hX6).trans rfl
      have y3 : w6.cell? ⟨w.heap.size, 3, none⟩ = some (.slice B t.length cb) := (blk_cell hX6).trans rfl
      have Hc := Lib.hid (Hki.out w6 HB6.out HS.out)
      go_wp2_with fail
      refine Hc.out.mono ?_
      rintro e w7 ⟨v, rfl, ⟨Gk, ck, ks, rfl, hk1, hk2, hk3, hk4⟩, hB7⟩
      have HKS : Hid (KindsAre ⟨L, R, A, ca, B, cb, l, t⟩ ks) := Lib.hid ⟨hk2, hk4⟩
      have hX7 := blk_below hB7 hX6
      have hb77 := blk_below hB7 hb76
      have hb97 := blk_below hB7 hb96
      have hj7 := hj6.below hB7
      have ht7 := there_grown ht6 (grown_below hB7) (by simp)
      have HB7 := Lib.hid (below_trans' HB6.out hB7)
      have hs7 := hB7.size
      have Hk1 := Lib.hid hk1
      have Hk2 := Lib.hid hk2
      clear Hc hB7 hX6 hb76 hb96 hj6 ht6 y0 y1 y2 y3 hk1 hk2 hk4
      have hmk := fun w => run_make_row' (P := Try.prog) 23 3 (.int .i64 0) 8 Try.underlying23 infoI3 rfl .i64 .i64 M (by omega) (by omega) w
      obtain ⟨zs, hzs⟩ : ∃ zs : Array Value, zs = madeCells #[.int .i64 0] M := ⟨_, rfl⟩
      rw [← hzs] at hmk
      have hzl : zs.toList.length = M := by rw [hzs]; simp [madeCells]
      have HA8 : Hid (Arr (w7.alloc (.cells zs 3)) w7.heap.size 0 M (maxK (ofS ⟨L, R, A, ca, B, cb, l, t⟩ right) ks 0)) := Lib.hid fun i hi => by
        refine ⟨(blk_cell (heap_alloc_new w7 (.cells zs 3))).trans ?_, new_frozen _ _ _ _⟩
        rw [hzs, Nat.zero_add, ← Array.getElem?_toList, toList_madeCells_one, List.getElem?_replicate, if_pos hi]
        rfl
      have hB8 : Hid (Below w7.heap.size w7 (w7.alloc (.cells zs 3))) := Lib.hid (below_alloc' (Below.refl _ _) _)
      have hsz8 : w7.heap.size < (w7.alloc (.cells zs 3)).heap.size := by rw [World.size_alloc]; omega
      clear hzs hzl
      go_upto_region 12 with fail
      clear hmk
      generalize w7.alloc (.cells zs 3) = w8 at *
      generalize hGn : w7.heap.size = G at *
      go_wp2
      go_loopw [41] (fun i wr => ∃ k : Nat, k ≤ ks.length ∧ i = .int .i64 k ∧ Hid (Below G w7 wr) ∧ G < wr.heap.size ∧ Hid (Arr wr G 0 M (maxK (ofS ⟨L, R, A, ca, B, cb, l, t⟩ right) ks k))) (fun i _ => ks.length - (intOf i).toNat)
      case atStart => exact ⟨0, by omega, rfl, hB8, hsz8, HA8⟩
      case round =>
        obtain ⟨k, hk, rfl, HBr, hGr, HAr⟩ := hrel
        by_cases hkn : k < ks.length
        · have hkl : k < l.length := by have := Hk2.out; omega
          have HB7r : Hid (Below w7.heap.size w7 wr) := Lib.hid (by rw [hGn]; exact HBr.out)
          obtain ⟨b2, o2, rfl, hkc⟩ := (Hk1.out.below HB7r.out).at_ hkn
          have hgd : ks.getD k 0 = ks[k] := by simp [List.getD_eq_getElem?_getD, hkn]
          rw [← hgd] at hkc
          generalize hkv : ks.getD k 0 = kv at hkc
          have ik0 : (0 : Int) ≤ (k : Int) := by omega
          have ik1 : (k : Int) < (ks.length : Int) := by omega
          obtain ⟨y, hyM, hy⟩ := Hofr.out k hkl
          have hb7r := blk_below HB7r.out hb77
          have c7 : wr.cell? ⟨b7, 0, none⟩ = some (.func (.func g) #[] #[.pointer (some ⟨w.heap.size, 0, none⟩)]) := (blk_cell hb7r).trans rfl
          have cX : wr.cell? ⟨w.heap.size, 2, none⟩ = some (.slice A l.length ca) := (blk_cell (blk_below HB7r.out hX7)).trans rfl
          have cL : LinksIn w3.heap.size wr A l := (hj7.below HB7r.out).links
          have iy0 : (0 : Int) ≤ (y : Int) := by omega
          have iy1 : (y : Int) < (M : Int) := by omega
          obtain ⟨eg, hof⟩ := HOf.out
          have HOfk : Hid (∀ W : World, LinksIn w3.heap.size W A l → W.cell? ⟨w.heap.size, 2, none⟩ = some (.slice A l.length ca) → Calls Try.prog g #[.int .i64 k, .pointer (some ⟨w.heap.size, 0, none⟩)] W (Ret fun v w' => v = .int .i64 (y : Int) ∧ Below W.heap.size W w')) :=
            Lib.hid (fun W h hc => by have := hof k W h hc hkl; rw [hy] at this; exact this)
          have Hy := Lib.hid hy; clear hy
          clear hof
          have hn7 : G ≠ b7 := by omega
          have hnX : G ≠ w.heap.size := by omega
          have hG3 : w3.heap.size ≤ G := by omega
          go_upto_region 15 with fail
          clear hb7r HB7r hkc
          refine wp_region_held (S := fun W => W.cell? ⟨b7, 0, none⟩ = some (.func (.func g) #[] #[.pointer (some ⟨w.heap.size, 0, none⟩)]) ∧ W.cell? ⟨w.heap.size, 2, none⟩ = some (.slice A l.length ca) ∧ LinksIn w3.heap.size W A l) (by kernel_rfl) ?_
          refine wpAnyH_take (i := 0) (v := ?_) rfl (by kernel_rfl) (by kernel_rfl) (by kernel_rfl) (fun _ _ _ h => h) (Or.inl ⟨by rfl, ?_⟩) ⟨c7, cX, cL⟩ ?_
          rotate_left 1
          · intro W hW; obtain ⟨s0, s1, s2⟩ := hW; go_simp <;> with_reducible rfl
          refine wpAnyH_take (i := 1) (v := ?_) rfl (by kernel_rfl) (by kernel_rfl) (by kernel_rfl) (fun _ _ _ h => h) (Or.inl ⟨by rfl, ?_⟩) ⟨c7, cX, cL⟩ ?_
          rotate_left 1
          · intro W hW; obtain ⟨s0, s1, s2⟩ := hW; go_simp <;> with_reducible rfl
          refine wpAnyH_take (i := 2) (v := ?_) rfl (by kernel_rfl) (by kernel_rfl) (by kernel_rfl) (fun _ _ _ h => h) (Or.inl ⟨by rfl, ?_⟩) ⟨c7, cX, cL⟩ ?_
          rotate_left 1
          · intro W hW; obtain ⟨s0, s1, s2⟩ := hW; go_simp <;> with_reducible rfl
          refine wpAnyH_take (i := 4) (v := ?_) rfl (by kernel_rfl) (by kernel_rfl) (by kernel_rfl) (fun _ _ _ h => h) (Or.inl ⟨by rfl, ?_⟩) ⟨c7, cX, cL⟩ ?_
          rotate_left 1
          · intro W hW; obtain ⟨s0, s1, s2⟩ := hW; go_simp <;> with_reducible rfl
          refine wpAnyH_take (i := 5) (v := ?_) rfl (by kernel_rfl) (by kernel_rfl) (by kernel_rfl) (fun _ _ _ h => h) (Or.inl ⟨by rfl, ?_⟩) ⟨c7, cX, cL⟩ ?_
          rotate_left 1
          · intro W hW; obtain ⟨s0, s1, s2⟩ := hW; go_simp <;> with_reducible rfl
          refine wpAnyH_take (i := 6) (v := ?_) rfl (by kernel_rfl) (by kernel_rfl) (by kernel_rfl) (fun _ _ _ h => h) (Or.inl ⟨by rfl, ?_⟩) ⟨c7, cX, cL⟩ ?_
          rotate_left 1
          · intro W hW; obtain ⟨s0, s1, s2⟩ := hW; go_simp <;> with_reducible rfl
          refine wpAnyH_take (i := 10) (v := ?_) rfl (by kernel_rfl) (by kernel_rfl) (by kernel_rfl) (fun _ _ _ h => h) (Or.inl ⟨by rfl, ?_⟩) ⟨c7, cX, cL⟩ ?_
          rotate_left 1
          · intro W hW; obtain ⟨s0, s1, s2⟩ := hW; go_simp <;> with_reducible rfl
          simp only [Act.put, List.setIfInBounds_toArray]
          refine wpAnyH_ready (rs := [3]) (by kernel_rfl) (by simp) ?_
          refine AllReadyH.cons rfl (fun K hK => ?_) AllReadyH.nil
          go_simp
          refine (HOfk.out wr.drew cL cX).mono ?_
          rintro e V1 ⟨v, rfl, rfl, hB1⟩
          have k7 := cell_below hB1 (show wr.drew.cell? _ = _ from c7)
          have kX := cell_below hB1 (show wr.drew.cell? _ = _ from cX)
          have kL := (show LinksIn w3.heap.size wr.drew A l from cL).keep (fun b hb => hB1.block b (show b < wr.heap.size by omega))
          have hA1 := (show Arr wr.drew _ _ _ _ from HAr.out).below hB1
          have hGk := (show Below G w7 wr.drew from HBr.out.drew).trans (hB1.mono (show G ≤ wr.heap.size by omega))
          have hV1 : G < V1.heap.size := Nat.lt_of_lt_of_le hGr hB1.size
          refine hK.out _ _ ⟨k7, kX, kL⟩ (fun _ => ?_)
          clear hK K c7 cX cL hB1
          refine wpAnyH_ready (rs := [7]) (by kernel_rfl) (by simp) ?_
          refine AllReadyH.cons rfl (fun K hK => ?_) AllReadyH.nil
          go_simp
          refine (HOfk.out V1 kL kX).mono ?_
          rintro e V2 ⟨v, rfl, rfl, hB2⟩
          have c7 := cell_below hB2 k7
          have cX := cell_below hB2 kX
          have cL := kL.keep (fun b hb => hB2.block b (by omega))
          have hA2 := hA1.below hB2
          have hGk2 := hGk.trans (hB2.mono (by omega))
          have hV2 : G < V2.heap.size := Nat.lt_of_lt_of_le hV1 hB2.size
          refine hK.out _ _ ⟨c7, cX, cL⟩ (fun _ => ?_)
          clear hK K k7 kX kL hB2 hA1 hGk hV1
          refine wpAnyH_take (i := 8) (v := ?_) rfl (by kernel_rfl) (by kernel_rfl) (by kernel_rfl) (fun _ _ _ h => h) (Or.inl ⟨by rfl, ?_⟩) ⟨c7, cX, cL⟩ ?_
          rotate_left 1
          · intro W hW; obtain ⟨s0, s1, s2⟩ := hW; go_simp <;> with_reducible rfl
          simp only [Act.put, List.setIfInBounds_toArray]
          have m1 := (hA2 y hyM).1
          have m2 := (hA2 y hyM).2
          rw [Nat.zero_add] at m1 m2
          obtain ⟨ov, hov⟩ : ∃ ov, maxK (ofS ⟨L, R, A, ca, B, cb, l, t⟩ right) ks k y = ov := ⟨_, rfl⟩
          rw [hov] at m1
          refine wpAnyH_ready (rs := [9]) (by kernel_rfl) (by simp) ?_
          refine AllReadyH.cons rfl (fun K hK => ?_) AllReadyH.nil
          go_simp
          refine hK.out _ _ ⟨c7, cX, cL⟩ (fun _ => ?_)
          clear hK K
          refine wpAnyH_take (i := 11) (v := ?_) rfl (by kernel_rfl) (by kernel_rfl) (by kernel_rfl) (fun _ _ _ h => h) (Or.inl ⟨by rfl, ?_⟩) ⟨c7, cX, cL⟩ ?_
          rotate_left 1
          · intro W hW; obtain ⟨s0, s1, s2⟩ := hW; go_simp <;> with_reducible rfl
          refine wpAnyH_take (i := 12) (v := ?_) rfl (by kernel_rfl) (by kernel_rfl) (by kernel_rfl) (fun _ _ _ h => h) (Or.inl ⟨by rfl, ?_⟩) ⟨c7, cX, cL⟩ ?_
          rotate_left 1
          · intro W hW; obtain ⟨s0, s1, s2⟩ := hW; go_simp <;> with_reducible rfl
          simp only [Act.put, List.setIfInBounds_toArray]
          refine wpAnyH_ready (rs := [13]) (by kernel_rfl) (by simp) ?_
          refine AllReadyH.cons rfl (fun K hK => ?_) AllReadyH.nil
          go_simp
          have hA3 := (hA2.set hyM (max ov kv)).congr (g := maxK (ofS ⟨L, R, A, ca, B, cb, l, t⟩ right) ks (k + 1)) (fun i _ => by
            show _ = if _ then _ else _
            rw [Hy.out, hkv]
            by_cases e : i = y
            · subst e; rw [if_pos rfl, if_pos rfl, hov]
            · rw [if_neg e, if_neg (by omega)])
          rw [Nat.zero_add] at hA3
          have hGk3 := hGk2.setCell (p := ⟨G, y, none⟩) (Nat.le_refl _) (.int .i64 (max ov kv))
          have hs3 : G < (V2.setCell ⟨G, y, none⟩ (.int .i64 (max ov kv))).heap.size := by simpa using hV2
          have HA3 := Lib.hid hA3
          have HG3 := Lib.hid hGk3
          refine hK.out _ _ ⟨cell_far c7 (fun e => hn7 (congrArg Addr.block e).symm), cell_far cX (fun e => hnX (congrArg Addr.block e).symm), cL.keep (fun b hb => Below.heap_setCell V2 ⟨G, y, none⟩ _ b (by dsimp only; omega))⟩ (fun _ => ?_)
          clear hK K hA3 hGk3 hA2 hGk2 c7 cX cL m1 m2 hV2
          refine wpAnyH_done (by kernel_rfl) ?_ _
          generalize World.setCell V2 _ _ = V3 at *
          go_wp2
          go_roundw
          case rel => exact ⟨k + 1, by omega, by go_num, HG3, hs3, HA3⟩
          case measure => simp [intOf]; omega
        · have hke : k = ks.length := by omega
          subst hke
          have HB7r : Hid (Below w7.heap.size w7 wr) := Lib.hid (by rw [hGn]; exact HBr.out)
          have hX8 := blk_below HB7r.out hX7
          have hb78 := blk_below HB7r.out hb77
          have hb98 := blk_below HB7r.out hb97
          have hj8 := hj7.below HB7r.out
          have ht8 := there_grown ht7 (grown_below HB7r.out) (by simp)
          have HB8 := Lib.hid (HB7.out.trans (HBr.out.mono (by omega)))
          rw [Hk2.out] at HAr
          obtain ⟨F, hF⟩ : ∃ F, F = maxK (ofS ⟨L, R, A, ca, B, cb, l, t⟩ right) ks l.length := ⟨_, rfl⟩
          have HA8' : Hid (Arr wr G 0 M F) := Lib.hid (by rw [hF]; exact HAr.out)
          have HF := Lib.hid hF
          clear hF hX7 hb77 hb97 hj7 ht7 HBr HB7r HA8 hB8 HAr
          go_wp2
          go_loopw [62] (fun i wr => ∃ (k : Nat) (is : List Int), k ≤ M ∧ i = .int .i64 k ∧ is.length = k ∧ Hid (∀ j, j < k → ItemIs ⟨L, R, A, ca, B, cb, l, t⟩ right ks j (is.getD j 0)) ∧ Hid (Below w.heap.size w wr) ∧ G < wr.heap.size ∧ Hid (Arr wr G 0 M (fun j => if j < k then is.getD j 0 else F j)) ∧ Head w3.heap.size wr jb ⟨L, R, A, ca, B, cb, l, t⟩ ∧ wr.there jb 28 12 ∧ wr.heap[w.heap.size]? = some (.cells #[.int .i64 L, .int .i64 R, .slice A l.length ca, .slice B t.length cb] 25 (0, 0)) ∧ wr.heap[b7]? = some (.cells #[.func (.func g) #[] #[.pointer (some ⟨w.heap.size, 0, none⟩)]] 81 (0, 0)) ∧ wr.heap[b9]? = some (.cells #[.pointer (some ⟨jb, 0, none⟩)] 62 (0, 0))) (fun i _ => M - (intOf i).toNat)
          case atStart => exact ⟨0, [], by omega, rfl, rfl, Lib.hid (fun j hj => absurd hj (by omega)), HB8, hGr, Lib.hid (HA8'.out.congr fun i _ => by rw [if_neg (by omega)]), hj8, ht8, hX8, hb78, hb98⟩
          case round =>
            clear hj8 ht8 hX8 hb78 hb98 HB8 HA8'
            obtain ⟨k, is, hk, rfl, hil, HI, HBr, hGr', HAr, hjr, htr, hXr, hb7r, hb9r⟩ := hrel
            by_cases hkn : k < M
            · have m0 := (HAr.out k hkn).1
              have f0 := (HAr.out k hkn).2
              dsimp only at m0
              rw [if_neg (Nat.lt_irrefl k), Nat.zero_add] at m0
              rw [Nat.zero_add] at f0
              have ik0 : (0 : Int) ≤ (k : Int) := by omega
              have ik1 : (k : Int) < (M : Int) := by omega
              have hal : Below wr.heap.size wr (wr.alloc (.cells #[.int .i64 k] 3)) := below_alloc' (Below.refl _ _) _
              have hb15 := heap_alloc_new wr (.cells #[.int .i64 k] 3)
              have hjv := hjr.below hal
              have htv := there_grown htr (grown_below hal) (by simp)
              have hXv := blk_below hal hXr
              have hb7v := blk_below hal hb7r
              have hb9v := blk_below hal hb9r
              have HAv := Lib.hid (HAr.out.below hal)
              have HBv := Lib.hid (below_trans' HBr.out hal)
              have hlG : G < (wr.alloc (.cells #[.int .i64 k] 3)).heap.size := by rw [World.size_alloc]; omega
              have hszv : (wr.alloc (.cells #[.int .i64 k] 3)).heap.size = wr.heap.size + 1 := World.size_alloc _ _
              have m1 := cell_below hal m0
              have f1 := frozen_below hal m0 f0
              clear hjr htr hXr hb7r hb9r HAr HBr hal
              obtain ⟨fk, hfk⟩ : ∃ fk, F k = fk := ⟨_, rfl⟩
              by_cases hf1 : fk = 1
              · subst hf1
                rw [hfk] at m0 m1
                go_upto_region 20 with fail
                clear m0 f0
                generalize wr.alloc (.cells #[.int .i64 k] 3) = v1 at *
                generalize hb15n : wr.heap.size = b15 at *
                have y9 : v1.cell? ⟨b9, 0, none⟩ = some (.pointer (some ⟨jb, 0, none⟩)) := (blk_cell hb9v).trans rfl
                have y7 : v1.cell? ⟨b7, 0, none⟩ = some (.func (.func g) #[] #[.pointer (some ⟨w.heap.size, 0, none⟩)]) := (blk_cell hb7v).trans rfl
                have yX : v1.cell? ⟨w.heap.size, 2, none⟩ = some (.slice A l.length ca) := (blk_cell hXv).trans rfl
                have hal1 : Allows 61 #[] #[.pointer (some ⟨b9, 0, none⟩), .pointer (some ⟨b7, 0, none⟩), .pointer (some ⟨b15, 0, none⟩)] l.length v1.heap.size jb v1.heap.size v1 (restOf ⟨L, R, A, ca, B, cb, l, t⟩ right k) := fun W x hW hx =>
                  k61_any w3.heap.size jb w.heap.size b9 b7 b15 g ⟨L, R, A, ca, B, cb, l, t⟩ right k x W (hjv.keep hW (by omega) (by omega)) hx HS.out.in12 HOf.out (hW.cell (by omega) (by omega) (by omega) y9) (hW.cell (by omega) (by omega) (by omega) y7) (hW.cell (by omega) (by omega) (by omega) ((blk_cell hb15).trans rfl)) (hW.cell (by omega) (by omega) (by omega) yX)
                have Hc1 := Lib.hid (join_any jb w3.heap.size ⟨L, R, A, ca, B, cb, l, t⟩ 61 #[] #[.pointer (some ⟨b9, 0, none⟩), .pointer (some ⟨b7, 0, none⟩), .pointer (some ⟨b15, 0, none⟩)] (restOf ⟨L, R, A, ca, B, cb, l, t⟩ right k) v1 hjv htv hL12 hn HS.out.in12 enters61 hal1)
                clear hal1 y7 yX
                go_wp2_with fail
                refine Hc1.out.mono ?_
                rintro e v2 ⟨v, rfl, na, P1, D1, rfl, hq1⟩
                obtain ⟨hinv1, _, har1, hnum1, hkeep1⟩ := hq1
                have HM1 := Lib.hid (most_of hinv1 HS.out)
                have hgk1 := hkeep1.grown' (Nat.le_refl _)
                have hj2 := hjv.keep hkeep1 (by omega) (by omega)
                have ht2 := har1.there
                have hX2 := blk_grown hgk1 hXv (by simp; omega)
                have hb72 := blk_grown hgk1 hb7v (by simp; omega)
                have hb92 := blk_grown hgk1 hb9v (by simp; omega)
                have hb152 := blk_grown hgk1 hb15 (by simp; omega)
                have hA2 := HAv.out.grown hgk1 (by simp; omega)
                have HBv2 := Lib.hid (HBv.out.trans (hkeep1.toBelow (B := w.heap.size) (by omega) (by omega) (by omega)))
                have hs2 := hkeep1.size
                have hac := countOf_le P1
                subst hnum1
                generalize hcn : countOf P1 = na at *
                clear Hc1 hinv1 har1 hkeep1 hgk1 hjv htv hXv hb7v hb9v hb15 HAv HBv y9 hcn m1 f1
                have m1 := (hA2 k hkn).1
                have f1 := (hA2 k hkn).2
                dsimp only at m1
                rw [if_neg (Nat.lt_irrefl k), Nat.zero_add, hfk] at m1
                rw [Nat.zero_add] at f1
                have y15 : v2.cell? ⟨b15, 0, none⟩ = some (.int .i64 k) := (blk_cell hb152).trans rfl
                have hn7 : G ≠ b7 := by omega
                have hnX : G ≠ w.heap.size := by omega
                have hn9 : G ≠ b9 := by omega
                have hnj : jb ≠ G := by omega
                by_cases hlt : na < n
                · have dlt : decide ((na : Int) < (n : Int)) = true := by simpa using hlt
                  have hA3 := hA2.set hkn 2
                  rw [Nat.zero_add] at hA3
                  have HA3 := Lib.hid (hA3.congr (g := fun j => if j < k + 1 then (is ++ [2]).getD j 0 else F j) (fun j _ => by
                    rw [getD_snoc, hil]
                    by_cases e : j = k
                    · subst e; simp
                    · rw [if_neg e]
                      by_cases e2 : j < k
                      · rw [if_pos e2, if_pos (by omega), if_neg e]
                      · rw [if_neg e2, if_neg (by omega)]))
                  have HIS : Hid (ItemIs ⟨L, R, A, ca, B, cb, l, t⟩ right ks k 2) := Lib.hid ⟨n, HN.out, .inr ⟨by rw [← hfk, HF.out], na, HM1.out, by rw [if_pos hlt]⟩⟩
                  have hg3 := grown_setCell v2 ⟨G, k, none⟩ (.int .i64 2)
                  have hj3 := hj2.keep (n := w3.heap.size) (mb := w3.heap.size) ((KeepJ.refl w3.heap.size jb w3.heap.size v2).setHigh (q := ⟨G, k, none⟩) (by dsimp only; omega) hnj (.int .i64 2)) (Nat.le_refl _) (Nat.le_refl _)
                  have ht3 := there_grown ht2 hg3 (by simp; omega)
                  have hX3 := blk_grown hg3 hX2 (by simp; omega)
                  have hb73 := blk_grown hg3 hb72 (by simp; omega)
                  have hb93 := blk_grown hg3 hb92 (by simp; omega)
                  have HB3' := Lib.hid (HBv2.out.setCell (p := ⟨G, k, none⟩) (by dsimp only; omega) (.int .i64 2))
                  have hs3 : G < (v2.setCell ⟨G, k, none⟩ (.int .i64 2)).heap.size := by simp; omega
                  clear hA3 hg3 hj2 ht2 hX2 hb72 hb92 hb152
                  go_wp2
                  generalize World.setCell v2 _ _ = v3 at *
                  go_roundw
                  case rel => exact ⟨k + 1, is ++ [2], by omega, by go_num, by simp; omega, Lib.hid (items_snoc hil HI.out HIS.out), HB3', hs3, HA3, hj3, ht3, hX3, hb73, hb93⟩
                  case measure => simp [intOf]; omega
                · have dlt : decide ((na : Int) < (n : Int)) = false := by simpa using hlt
                  have HA3 := Lib.hid (arr_snoc hA2 hil)
                  rw [hfk] at HA3
                  have HIS : Hid (ItemIs ⟨L, R, A, ca, B, cb, l, t⟩ right ks k 1) := Lib.hid ⟨n, HN.out, .inr ⟨by rw [← hfk, HF.out], na, HM1.out, by rw [if_neg hlt]⟩⟩
                  have hs3 : G < v2.heap.size := by omega
                  clear hA2 m1 f1
                  go_wp2
                  go_roundw
                  case rel => exact ⟨k + 1, is ++ [1], by omega, by go_num, by simp; omega, Lib.hid (items_snoc hil HI.out HIS.out), HBv2, hs3, HA3, hj2, ht2, hX2, hb72, hb92⟩
                  case measure => simp [intOf]; omega
              · rw [hfk] at m0 m1
                have d1 : (fk == 1) = false := by simpa using hf1
                have HA3 := Lib.hid (arr_snoc HAv.out hil)
                rw [hfk] at HA3
                have HIS : Hid (ItemIs ⟨L, R, A, ca, B, cb, l, t⟩ right ks k fk) := Lib.hid ⟨n, HN.out, .inl ⟨by rw [← HF.out, hfk]; exact hf1, by rw [← HF.out, hfk]⟩⟩
                clear HAv m1 f1 f0
                go_wp2
                go_roundw
                case rel => exact ⟨k + 1, is ++ [fk], by omega, by go_num, by simp; omega, Lib.hid (items_snoc hil HI.out HIS.out), HBv, hlG, HA3, hjv, htv, hXv, hb7v, hb9v⟩
                case measure => simp [intOf]; omega
            · have hke : k = M := by omega
              subst hke
              have HR := Lib.hid (HAr.out.ints hil (fun j hj => if_pos hj))
              go_wp2
              go_ret2
              rw [← hil]
              exact Ret.mk ⟨.inr ⟨H0.out, G, is, ks, rfl, HR.out, HKS.out, by rw [HMm.out, hil], by rw [hil]; exact HI.out⟩, HBr.out⟩
  · have d0 : (sheetErr L R l t != 0) = true := by simpa using h0
    have HR0 := Lib.hid h0
    clear h0
    go_wp2
    go_ret2
    exact Ret.mk ⟨.inl ⟨HR0.out, rfl⟩, HB1.out⟩
end Go.Proofs.Ytoogfdicmpkkgaa
