/- ListItems. -/
import Derived.Test.YtoogfdicmpkkgaaC5
namespace Go.Proofs.Ytoogfdicmpkkgaa
open Go.RowKit Go.Shelf Go.Maps Match

theorem item_facts (s : Sh) (right : Bool) (i : Nat) : itemC s right i = 2 ∧ (maxK (ofS s right) (kindsC s) s.l.length i = 1 ∨ maxK (ofS s right) (kindsC s) s.l.length i = 2) ∨ itemC s right i = 1 ∧ maxK (ofS s right) (kindsC s) s.l.length i = 1 ∨ itemC s right i = 0 ∧ maxK (ofS s right) (kindsC s) s.l.length i = 0 := by
  obtain ⟨m0, m1, m2⟩ := maxK_is (f := ofS s right) (i := i) (kindsC_ge s) s.l.length
  unfold itemC
  generalize maxK (ofS s right) (kindsC s) s.l.length i = v at m0 m1 m2 ⊢
  have hv : v ≤ 2 := by
    rcases m2 with e | ⟨j, h1, h2, h3⟩
    · omega
    · rw [kindsC_at s h1] at h3
      rcases kindC_vals (s := s) (k := j) with e | e | e <;> omega
  by_cases c : v = 1
  · rw [if_neg (by omega)]
    split
    · exact .inl ⟨rfl, .inl c⟩
    · exact .inr (.inl ⟨rfl, c⟩)
  · rw [if_pos c]
    omega
theorem itemsC_len (s : Sh) (right : Bool) : (itemsC s right).length = manyOf s right := by unfold itemsC; simp
theorem itemsC_at (s : Sh) (right : Bool) {i : Nat} (hi : i < manyOf s right) : (itemsC s right).getD i 0 = itemC s right i := by unfold itemsC; simp [List.getD_eq_getElem?_getD, hi]
def bareL (l : List (Int × Int)) (i : Nat) : List (Int × Int) := l.filter fun x => !(x.1 == (i : Int))
theorem bare_step {l : List (Int × Int)} {i m : Nat} (hm : m < l.length) : bareL (l.take (m + 1)) i = if l[m].1 = i then bareL (l.take m) i else bareL (l.take m) i ++ [l[m]] := by
  unfold bareL
  rw [List.take_succ_eq_append_getElem hm, List.filter_append]
  by_cases c : l[m].1 = i
  · rw [if_pos c]; simp [c]
  · rw [if_neg c]; simp [c]
theorem bare_len (l : List (Int × Int)) (i m : Nat) : (bareL (l.take m) i).length ≤ m := by
  have h1 : (bareL (l.take m) i).length ≤ (l.take m).length := List.length_filter_le _ _
  have := List.length_take_le m l
  omega
theorem own_capM {w : World} {base : Nat} {e : TypeId} {size n c : Nat} {A : Option Addr} {xs : List Value} (h : w.ownsRow base e size (.slice A n c) n xs) : c ≤ 9223372036854775807 := by
  rcases h.2 with ⟨h1, _⟩ | ⟨g, cap, cur, h1, h2⟩
  · injection h1 with _ _ h3; omega
  · injection h1 with _ _ h3
    have := h2
    unfold maxLen at this
    omega
theorem maxK_step (f : Nat → Int) (ks : List Int) (m i : Nat) : maxK f ks (m + 1) i = if f m = i then max (maxK f ks m i) (ks.getD m 0) else maxK f ks m i := rfl

set_option maxRecDepth 100000 in
set_option maxHeartbeats 4000000 in
theorem listItems_any (s : Sh) (lk : Nat) (w : World) (hs : ShIn w s) (hlk : lk ≤ 255) :
    Calls Try.prog 12 #[s.v, .int .u8 lk] w (Ret fun v w' => v = .bool true ∧ Below w.heap.size w w') := by
  obtain ⟨L, R, A, ca, B, cb, l, t0⟩ := s
  have HS : Hid (ShIn w ⟨L, R, A, ca, none, 0, l, []⟩) := Lib.hid ⟨hs.links, IntsAt.nil, hs.many, Nat.zero_le _, hs.capA, hs.capA', Nat.le_refl _⟩
  clear hs
  unfold Sh.v vSheet
  dsimp only
  obtain ⟨w1, hw1⟩ : ∃ w1, w1 = w.alloc (.cells #[.int .i64 L, .int .i64 R, .slice A l.length ca, .slice none 0 0] 25) := ⟨_, rfl⟩
  have HB1 : Hid (Below w.heap.size w w1) := Lib.hid (by rw [hw1]; exact below_alloc' (Below.refl _ _) _)
  have hX : w1.heap[w.heap.size]? = some (.cells #[.int .i64 L, .int .i64 R, .slice A l.length ca, .slice none 0 0] 25 (0, 0)) := by rw [hw1]; exact heap_alloc_new _ _
  have y0 : w1.cell? ⟨w.heap.size, 0, none⟩ = some (.int .i64 L) := (blk_cell hX).trans rfl
  have y1 : w1.cell? ⟨w.heap.size, 1, none⟩ = some (.int .i64 R) := (blk_cell hX).trans rfl
  have y2 : w1.cell? ⟨w.heap.size, 2, none⟩ = some (.slice A l.length ca) := (blk_cell hX).trans rfl
  have y3 : w1.cell? ⟨w.heap.size, 3, none⟩ = some (.slice none 0 0) := (blk_cell hX).trans rfl
  replace HS := Lib.hid (HS.out.below HB1.out)
  go_enter Try.func12, Try.ntmps12
  go_upto_region 2 with fail
  rw [← hw1]
  clear hw1 hX
  have Hc := Lib.hid (fineS ⟨L, R, A, ca, none, 0, l, []⟩ w1 HS.out)
  try dsimp only at Hc
  go_wp2_with fail
  refine Hc.out.mono ?_
  rintro e w2 ⟨v, rfl, rfl, hb⟩
  have HB2 := Lib.hid (below_trans' HB1.out hb)
  replace HS := Lib.hid (HS.out.below hb)
  replace y0 := cell_below hb y0
  replace y1 := cell_below hb y1
  replace y2 := cell_below hb y2
  replace y3 := cell_below hb y3
  clear hb Hc HB1 
  by_cases hf : fineC ⟨L, R, A, ca, none, 0, l, []⟩ = true
  rotate_left 1
  ·
    have hf : fineC ⟨L, R, A, ca, none, 0, l, []⟩ = false := by simpa using hf
    rw [hf]
    go_wp2_with fail
    refine (works_any _).mono ?_
    rintro e wz ⟨v, rfl, rfl, hBz⟩
    go_wp2
    go_ret
    exact Ret.mk' rfl ⟨rfl, below_trans' HB2.out hBz⟩
  rw [hf]
  obtain ⟨hg, hv⟩ := fine_iff.1 hf
  have HA := Lib.hid (HS.out.at hg)
  have hmany := hv.many
  have hdim := hv.dim
  try dsimp only at hmany hdim
  obtain ⟨d1, d2, d3, d4⟩ := hdim
  have HV := Lib.hid hv
  clear HS hf hg hv
  have l0 : ¬ (L = 0) := by omega
  go_upto_region 5 with fail
  obtain ⟨n, hn⟩ : ∃ n : Nat, L = (n : Int) := ⟨L.toNat, by omega⟩
  obtain ⟨i, hi, hil⟩ : ∃ i : Nat, (lk : Int) % L = (i : Int) ∧ (i : Int) < L := ⟨lk % n, by rw [hn]; norm_cast, by rw [hn]; have := Nat.mod_lt lk (show 0 < n by omega); omega⟩
  rw [hi]
  clear hi l0 hn n
  have hiL : i < L.toNat := by omega
  have ik0 : (0 : Int) ≤ (i : Int) := by omega
  have Hc := Lib.hid (itemsS ⟨L, R, A, ca, none, 0, l, []⟩ false w2 HA.out HV.out)
  try dsimp only at Hc
  go_wp2_with fail
  refine Hc.out.mono ?_
  rintro e w3 ⟨v, rfl, ⟨G1, c1, rfl, h1, n1⟩, hb⟩
  have HB3 := Lib.hid (below_trans' HB2.out hb)
  replace HA := Lib.hid (HA.out.below hb)
  replace y0 := cell_below hb y0
  replace y1 := cell_below hb y1
  replace y2 := cell_below hb y2
  replace y3 := cell_below hb y3
  clear hb Hc HB2 
  obtain ⟨ps, hps⟩ : ∃ ps, itemsC ⟨L, R, A, ca, none, 0, l, []⟩ false = ps := ⟨_, rfl⟩
  have hkl1 := itemsC_len ⟨L, R, A, ca, none, 0, l, []⟩ false
  rw [hps] at h1 n1 hkl1
  rw [hps]
  have HPA := Lib.hid (itemsC_at ⟨L, R, A, ca, none, 0, l, []⟩ false (i := i) hiL)
  rw [hps] at HPA
  have HL1 : Hid (ps.length = L.toNat) := Lib.hid hkl1
  have H1 := Lib.hid h1
  have dps : ((ps.length : Int) != L) = false := by rw [HL1.out]; simp; omega
  clear h1 n1 hps hkl1
  have Hc := Lib.hid (kindsS ⟨L, R, A, ca, none, 0, l, []⟩ w3 HA.out HV.out)
  try dsimp only at Hc
  go_wp2_with fail
  refine Hc.out.mono ?_
  rintro e w4 ⟨v, rfl, ⟨G2, c2, rfl, h2, n2⟩, hb⟩
  have HB4 := Lib.hid (below_trans' HB3.out hb)
  replace HA := Lib.hid (HA.out.below hb)
  replace H1 := Lib.hid (H1.out.below hb)
  replace y0 := cell_below hb y0
  replace y1 := cell_below hb y1
  replace y2 := cell_below hb y2
  replace y3 := cell_below hb y3
  clear hb Hc HB3 
  obtain ⟨ks, hks⟩ : ∃ ks, kindsC ⟨L, R, A, ca, none, 0, l, []⟩ = ks := ⟨_, rfl⟩
  have hkl2 := kindsC_len ⟨L, R, A, ca, none, 0, l, []⟩
  rw [hks] at h2 n2 hkl2
  rw [hks]
  try dsimp only at hkl2
  rw [hkl2]
  have HK := Lib.hid hks
  have HL2 := Lib.hid hkl2
  have H2 := Lib.hid h2
  clear h2 n2 hks hkl2
  have Hc := Lib.hid (greatestS ⟨L, R, A, ca, none, 0, l, []⟩ w4 HA.out HV.out)
  try dsimp only at Hc
  go_wp2_with fail
  refine Hc.out.mono ?_
  rintro e w5 ⟨v, rfl, ⟨G, c, j, rfl, hg, hgc, hgj, hgl⟩, hb⟩
  have HB5 := Lib.hid (below_trans' HB4.out hb)
  replace HA := Lib.hid (HA.out.below hb)
  replace H1 := Lib.hid (H1.out.below hb)
  replace H2 := Lib.hid (H2.out.below hb)
  replace y0 := cell_below hb y0
  replace y1 := cell_below hb y1
  replace y2 := cell_below hb y2
  replace y3 := cell_below hb y3
  clear hb Hc HB4 
  try dsimp only at hgl
  have HGL := Lib.hid hgl
  have hj40 := IsJ.short HV.out hgj
  clear hg hgj hgl hgc
  go_upto_region 10 with fail
  have hb : Below w5.heap.size w5 (w5.alloc (.cells #[.int .i64 L, .int .i64 R, .slice none 0 0, .slice none 0 0] 25)) := below_alloc' (Below.refl _ _) _
  have hZ := heap_alloc_new w5 (.cells #[.int .i64 L, .int .i64 R, .slice none 0 0, .slice none 0 0] 25)
  have z0 := cell_below hb y0
  have z2 := cell_below hb y2
  have HV0 := Lib.hid hb
  have hszV : (w5.alloc (.cells #[.int .i64 L, .int .i64 R, .slice none 0 0, .slice none 0 0] 25)).heap.size = w5.heap.size + 1 := World.size_alloc _ _
  clear hb
  go_upto_region 11 with fail
  generalize w5.alloc _ = w6 at *
  clear dps
  obtain ⟨i0, hi0, hz0, hz1, hz2⟩ := info_parts elemR.info
  go_wp2
  go_loopw [13, 14] (fun mv iv wr => ∃ (m : Nat) (u : Value), m ≤ l.length ∧ iv = .int .i64 m ∧ mv = .int .i64 (maxK (ofS ⟨L, R, A, ca, none, 0, l, []⟩ false) ks m i) ∧ wr.heap[w5.heap.size]? = some (.cells #[.int .i64 L, .int .i64 R, u, .slice none 0 0] 25 (0, 0)) ∧ wr.ownsRow (w5.heap.size + 1) 55 2 u (bareL (l.take m) i).length ((bareL (l.take m) i).flatMap encR) ∧ Hid (Below w5.heap.size w5 wr) ∧ w5.heap.size + 1 ≤ wr.heap.size) (fun _ iv _ => l.length - (intOf iv).toNat)
  case atStart => exact ⟨0, .slice none 0 0, by omega, rfl, rfl, hZ, by simpa [bareL] using World.ownsRow_nil w6 (w5.heap.size + 1) 55 2, HV0, by omega⟩
  case round =>
    clear hZ z0 z2
    obtain ⟨m, u, hm, rfl, rfl, hX, hown, HBr, hz⟩ := hrel
    have y2r := cell_below HBr.out y2
    have y0r := cell_below HBr.out y0
    have hle := bare_len l i m
    by_cases hmn : m < l.length
    · have ij0 : (0 : Int) ≤ (m : Int) := by omega
      have ij1 : (m : Int) < (l.length : Int) := by omega
      have HN := Lib.hid (bare_step (i := i) hmn)
      have HMK := Lib.hid (maxK_step (ofS ⟨L, R, A, ca, none, 0, l, []⟩ false) ks m i)
      have HOF : Hid (ofS ⟨L, R, A, ca, none, 0, l, []⟩ false m = l[m].1) := Lib.hid (by show (atL l m).1 = _; rw [atL_eq hmn])
      rw [HOF.out] at HMK
      generalize maxK (ofS ⟨L, R, A, ca, none, 0, l, []⟩ false) ks m i = mx at HMK ⊢
      obtain ⟨b1, o1, rfl, p1, p2⟩ := (HA.out.links.below HBr.out).at_ hmn
      try dsimp only at p1 p2
      obtain ⟨b2, o2, rfl⟩ := IntsAt.some_ H2.out (show m < ks.length by rw [HL2.out]; exact hmn)
      have q2 := IntsAt.get (H2.out.below HBr.out) (show m < ks.length by rw [HL2.out]; exact hmn)
      generalize ks.getD m 0 = km at q2 HMK
      generalize l[m] = x at p1 p2 HN HMK HOF
      obtain ⟨x1, x2⟩ := x
      dsimp only at p1 p2 HN HMK
      have Hown := Lib.hid hown
      clear hown
      generalize bareL (l.take m) i = T at HN Hown hle
      by_cases hx : x1 = (i : Int)
      · have dx : (x1 == (i : Int)) = true := by simpa using hx
        rw [if_pos hx] at HN HMK
        have HO := Lib.hid Hown.out
        go_wp2
        go_roundw
        case rel => exact ⟨m + 1, u, by omega, by go_num, by rw [HMK.out], hX, by rw [HN.out]; exact Hown.out, HBr, hz⟩
        case measure => simp [intOf]; omega
      · have dx : (x1 == (i : Int)) = false := by simpa using hx
        rw [if_neg hx] at HN HMK
        have x2c : wr.cell? ⟨w5.heap.size, 2, none⟩ = some u := (blk_cell hX).trans rfl
        have HX := Lib.hid hX
        clear hX
        have x2a := cell_alloc x2c (.cells #[.int .i64 x1, .int .i64 x2] 55)
        have y2a := cell_alloc y2r (.cells #[.int .i64 x1, .int .i64 x2] 55)
        go_upto_region 17 with fail
        go_region_law (refine step_append_lies _ rfl (.tmp 94) (.tmp 100) 22 rfl (w5.heap.size + 1) 55 i0 (.agg #[.int .i64 0, .int .i64 0]) 2 16 Try.underlying22 hi0 hz0 hz1 hz2 rfl (by omega) u T.length (T.flatMap encR) (by rfl) ((Hown.out.alloc _).drew) ⟨wr.heap.size, 0, none⟩ 1 1 (encR (x1, x2)) (by rfl) (by rfl) (World.news_of_block (cs := #[.int .i64 x1, .int .i64 x2]) (t := 55) (fr := (0, 0)) (heap_alloc_new wr _)) (oneR _) (by omega) (by simp only [maxLen]; omega) (by omega) (by simp; omega) (wr.heap.size + 1) (by simp) ?_; intro g cap w15 hown5 hg5 hat5 hlt5; have hr5 := own_base Hown.out; have hX5 := blk_grown hg5 (blk_alloc HX.out (.cells #[.int .i64 x1, .int .i64 x2] 55)) (fun e => by have := hr5 _ e.symm; omega); have e2 : w15.cell? ⟨w5.heap.size, 2, none⟩ = some u := (blk_cell hX5).trans rfl; have f2 := blk_frozen (i := 2) hX5)
        all_goals
          have hX6 := blk_set (i := 2) hX5 (.slice (some ⟨g, 0, none⟩) (T.length + 1) cap)
          rw [push_flat] at hown5
          have HO6 := Lib.hid (ownsRow_setCell_below (a := ⟨w5.heap.size, 2, none⟩) hown5 (by dsimp only; omega) (.slice (some ⟨g, 0, none⟩) (T.length + 1) cap))
          have HB6 := Lib.hid (((below_alloc' HBr.out _).drew.grown hg5 (by simp; omega) (fun r e => by have := hr5 r e; omega)).setCell (p := ⟨w5.heap.size, 2, none⟩) (Nat.le_refl _) (.slice (some ⟨g, 0, none⟩) (T.length + 1) cap))
          have hz6 := hg5.size
          have hz7 : w5.heap.size + 1 ≤ w15.heap.size := by simp at hz6; omega
          clear hX5 hown5 hg5 hr5 hat5 e2 f2 x2a y2a HBr Hown HX hz6
          go_wp2
          go_roundw
          case rel => exact ⟨m + 1, _, by omega, by go_num, by rw [HMK.out], hX6, by rw [HN.out, len_snoc]; exact HO6.out, HB6, by simp; omega⟩
          case measure => simp [intOf]; omega
    · have hme : m = l.length := by omega
      subst hme
      rw [List.take_length] at hown hle
      obtain ⟨Gx, cx, rfl, hcx⟩ := own_form hown
      have HBF := Lib.hid (below_trans' HB5.out HBr.out)
      have hcm := own_capM hown
      have hbl : (bareL l i).length ≤ 1000 := by omega
      have HXS : Hid (ShAt wr ⟨L, R, Gx, cx, none, 0, bareL l i, []⟩) := Lib.hid ⟨RowsAt.of_own encR_len hown, IntsAt.nil, hbl, Nat.zero_le _, hcx, hcm, Nat.le_refl _⟩
      have z0 : wr.cell? ⟨w5.heap.size, 0, none⟩ = some (.int .i64 L) := (blk_cell hX).trans rfl
      have z1 : wr.cell? ⟨w5.heap.size, 1, none⟩ = some (.int .i64 R) := (blk_cell hX).trans rfl
      have z2 : wr.cell? ⟨w5.heap.size, 2, none⟩ = some (.slice Gx (bareL l i).length cx) := (blk_cell hX).trans rfl
      have z3 : wr.cell? ⟨w5.heap.size, 3, none⟩ = some (.slice none 0 0) := (blk_cell hX).trans rfl
      obtain ⟨bl, hbl'⟩ : ∃ bl, bareL l i = bl := ⟨_, rfl⟩
      rw [hbl'] at HXS z2
      have HBL := Lib.hid hbl'
      have HVX : Hid (Sheet L R bl []) := Lib.hid (by rw [← HBL.out]; exact Sheet.bare (s := ⟨L, R, A, ca, none, 0, l, []⟩) HV.out i)
      have hii : (i : Int) < (ps.length : Int) := by rw [HL1.out]; omega
      have HIF := Lib.hid (item_facts ⟨L, R, A, ca, none, 0, l, []⟩ false i)
      rw [HK.out] at HIF
      have HHL := Lib.hid (Sheet.bare_most (s := ⟨L, R, A, ca, none, 0, l, []⟩) HV.out rfl i)
      obtain ⟨b1, o1, rfl⟩ := IntsAt.some_ H1.out (show i < ps.length by rw [HL1.out]; exact hiL)
      have p1 := IntsAt.get (H1.out.below HBr.out) (show i < ps.length by rw [HL1.out]; exact hiL)
      rw [HPA.out] at p1
      clear hown hX HBr hle hcx hcm hbl' hbl
      have HP := Lib.hid p1
      clear p1
      generalize itemC ⟨L, R, A, ca, none, 0, l, []⟩ false i = pv at HP HIF HHL
      generalize maxK (ofS ⟨L, R, A, ca, none, 0, l, []⟩ false) ks l.length i = mv at HIF ⊢
      clear y0 y1 y2 y3 y0r
      have Hc := Lib.hid (greatestS ⟨L, R, Gx, cx, none, 0, bl, []⟩ wr HXS.out HVX.out)
      try dsimp only at Hc
      go_wp2_with fail
      refine Hc.out.mono ?_
      rintro e w20 ⟨v, rfl, ⟨Gh, ch, jh, rfl, hg, hgc, hgj, hgl⟩, hb⟩
      have HB20 := Lib.hid (below_trans' HBF.out hb)
      have p1 := cell_below hb HP.out
      clear hb HBF Hc z0 z1 z2 z3 HP y2r
      try dsimp only at hgl
      have hjl : jh.length < j.length ↔ pv = 2 := by
        rw [← HHL.out, hgl, HGL.out, ← HBL.out]
        have e1 : mostS (bareS ⟨L, R, A, ca, none, 0, l, []⟩ i) = mostS ⟨L, R, Gx, cx, none, 0, bareL l i, []⟩ := rfl
        rw [e1]
        simp
      have HJL := Lib.hid hjl
      clear hg hgc hgj hgl hjl
      obtain ⟨lb, hlb⟩ : ∃ lb, decide (jh.length < j.length) = lb := ⟨_, rfl⟩
      have HLB : Hid (lb = decide (pv = 2)) := Lib.hid (by
        rw [← hlb]
        by_cases c : pv = 2
        · rw [decide_eq_true c]; exact decide_eq_true (by have := HJL.out.2 c; omega)
        · rw [decide_eq_false c]; exact decide_eq_false (by have h' : ¬ jh.length < j.length := fun h => c (HJL.out.1 h); omega))
      clear HJL
      rcases HIF.out with ⟨e1, e2 | e2⟩ | ⟨e1, e2⟩ | ⟨e1, e2⟩
      · subst e1
        subst e2
        obtain rfl : lb = true := HLB.out
        clear HIF HLB
        go_wp2_with fail
        refine (works_any _).mono ?_
        rintro e wz ⟨v, rfl, rfl, hBz⟩
        go_wp2
        go_ret
        exact Ret.mk' rfl ⟨rfl, below_trans' HB20.out hBz⟩
      · subst e1
        subst e2
        obtain rfl : lb = true := HLB.out
        clear HIF HLB
        go_wp2_with fail
        refine (works_any _).mono ?_
        rintro e wz ⟨v, rfl, rfl, hBz⟩
        go_wp2
        go_ret
        exact Ret.mk' rfl ⟨rfl, below_trans' HB20.out hBz⟩
      · subst e1
        subst e2
        obtain rfl : lb = false := HLB.out
        clear HIF HLB
        go_wp2_with fail
        refine (works_any _).mono ?_
        rintro e wz ⟨v, rfl, rfl, hBz⟩
        go_wp2
        go_ret
        exact Ret.mk' rfl ⟨rfl, below_trans' HB20.out hBz⟩
      · subst e1
        subst e2
        obtain rfl : lb = false := HLB.out
        clear HIF HLB
        go_wp2_with fail
        refine (works_any _).mono ?_
        rintro e wz ⟨v, rfl, rfl, hBz⟩
        go_wp2
        go_ret
        exact Ret.mk' rfl ⟨rfl, below_trans' HB20.out hBz⟩
end Go.Proofs.Ytoogfdicmpkkgaa
