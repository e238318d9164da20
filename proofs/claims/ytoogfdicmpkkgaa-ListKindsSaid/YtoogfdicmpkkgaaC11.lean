/- ref: Items. -/
import Derived.Test.YtoogfdicmpkkgaaC10
import Derived.Test.YtoogfdicmpkkgaaPT
namespace Go.Proofs.Ytoogfdicmpkkgaa
open Go.RowKit Go.Shelf Go.Maps Match

theorem hasB_item (x : Int × Int) (right : Bool) (it : Int) : hasB x right it = decide (itemOf right x = it) := by
  by_cases h : itemOf right x = it
  · rw [decide_eq_true h]
    unfold itemOf at h
    unfold hasB
    cases right <;> simp at h <;> simp [h]
  · rw [decide_eq_false h]
    unfold itemOf at h
    unfold hasB
    cases right <;> simp at h <;> simp [h]
theorem withoutF (s : Sh) (k : Nat) (w : World) (hs : ShAt w s) (hv : Sheet s.L s.R s.l s.t) :
    Calls Try.prog 36 #[s.v, .int .i64 k] w (Ret fun v w' => (∃ G c H d, v = vSheet s.L s.R G (s.l.eraseIdx k).length c H (noT s.t k).length d ∧ ShAt w' ⟨s.L, s.R, G, c, H, d, s.l.eraseIdx k, noT s.t k⟩ ∧ (∀ a, G = some a → w.heap.size ≤ a.block) ∧ ∀ a, H = some a → w.heap.size ≤ a.block) ∧ Below w.heap.size w w') := by
  refine (without_fresh s k w hs fun x hx => ?_).mono ?_
  · have := hv.bound x hx
    have := hv.many
    omega
  · rintro e w' ⟨v, rfl, ⟨G, c, H, d, rfl, h1, h2, h3, h4, h5, h6, h7⟩, hB⟩
    refine Ret.mk ⟨⟨G, c, H, d, rfl, ⟨h1, h4, ?_, ?_, h2, h3, h5⟩, h6, h7⟩, hB⟩
    · have := List.length_eraseIdx_le s.l k
      have := hs.many
      show (s.l.eraseIdx k).length ≤ 1000
      omega
    · have := hs.few
      show (noT s.t k).length ≤ 900
      rw [noT_len]
      omega
theorem RowsAt.far' {α : Type} {enc : α → List Value} {k : Nat} {w : World} {A : Option Addr} {l : List α} (h : RowsAt enc k w A l) {p : Addr} (hne : 0 < l.length → ∀ a, A = some a → a.block ≠ p.block) (u : Value) : RowsAt enc k (w.setCell p u) A l := fun i hi => by
  obtain ⟨b, off, e, _⟩ := h i hi
  subst e
  exact RowsAt.far h (hne (by omega) _ rfl) u i hi
theorem ShAt.far4 {w : World} {s : Sh} (h : ShAt w s) {b : Nat} (h1 : 0 < s.l.length → ∀ a, s.A = some a → a.block ≠ b) (h2 : 0 < s.t.length → ∀ a, s.B = some a → a.block ≠ b) (a0 a1 a2 a3 : Value) :
    ShAt ((((w.setCell ⟨b, 0, none⟩ a0).setCell ⟨b, 1, none⟩ a1).setCell ⟨b, 2, none⟩ a2).setCell ⟨b, 3, none⟩ a3) s :=
  ⟨(((h.links.far' (p := ⟨b, 0, none⟩) h1 a0).far' (p := ⟨b, 1, none⟩) h1 a1).far' (p := ⟨b, 2, none⟩) h1 a2).far' (p := ⟨b, 3, none⟩) h1 a3, (((h.known.far' (p := ⟨b, 0, none⟩) h2 a0).far' (p := ⟨b, 1, none⟩) h2 a1).far' (p := ⟨b, 2, none⟩) h2 a2).far' (p := ⟨b, 3, none⟩) h2 a3, h.many, h.few, h.capA, h.capA', h.capB⟩
theorem IntsAt.get' {w : World} {A : Option Addr} {l : List Int} (h : IntsAt w A l) {i : Nat} (hi : i < l.length) : ∃ b o, A = some ⟨b, o, none⟩ ∧ w.cell? ⟨b, o + i, none⟩ = some (.int .i64 (l.getD i 0)) := by
  obtain ⟨b, o, rfl⟩ := h.some_ hi
  exact ⟨b, o, rfl, h.get hi⟩
theorem itemsC_step (s : Sh) (right : Bool) (k : Nat) : (List.range (k + 1)).map (itemC s right) = (List.range k).map (itemC s right) ++ [itemC s right k] := by rw [List.range_succ, List.map_append]; rfl

set_option maxRecDepth 100000 in
set_option maxHeartbeats 4000000 in
theorem refItemsS (s : Sh) (right : Bool) (w : World) (hs : ShAt w s) (hv : Sheet s.L s.R s.l s.t) :
    Calls Try.prog 28 #[s.v, .bool right] w (Ret fun v w' => (∃ G c, v = .tuple #[.slice G (itemsC s right).length c, .int .i64 0] ∧ IntsAt w' G (itemsC s right) ∧ (itemsC s right).length ≤ c) ∧ Below w.heap.size w w') := by
  obtain ⟨L, R, A, ca, B, cb, l, t⟩ := s
  have HA := Lib.hid hs
  have HV := Lib.hid hv
  have hmany := hv.many
  have hfew : t.length ≤ 900 := hs.few
  have hdim := hv.dim
  clear hs hv
  unfold Sh.v vSheet
  dsimp only at hmany hdim ⊢
  obtain ⟨d1, d2, d3, d4⟩ := hdim
  obtain ⟨w1, hw1⟩ : ∃ w1, w1 = w.alloc (.cells #[.int .i64 L, .int .i64 R, .slice A l.length ca, .slice B t.length cb] 25) := ⟨_, rfl⟩
  have HB1 : Hid (Below w.heap.size w w1) := Lib.hid (by rw [hw1]; exact below_alloc' (Below.refl _ _) _)
  have hX : w1.heap[w.heap.size]? = some (.cells #[.int .i64 L, .int .i64 R, .slice A l.length ca, .slice B t.length cb] 25 (0, 0)) := by rw [hw1]; exact heap_alloc_new _ _
  have y0 : w1.cell? ⟨w.heap.size, 0, none⟩ = some (.int .i64 L) := (blk_cell hX).trans rfl
  have y1 : w1.cell? ⟨w.heap.size, 1, none⟩ = some (.int .i64 R) := (blk_cell hX).trans rfl
  have y2 : w1.cell? ⟨w.heap.size, 2, none⟩ = some (.slice A l.length ca) := (blk_cell hX).trans rfl
  have y3 : w1.cell? ⟨w.heap.size, 3, none⟩ = some (.slice B t.length cb) := (blk_cell hX).trans rfl
  replace HA := Lib.hid (HA.out.below HB1.out)
  go_enter Try.func28, Try.ntmps28
  go_upto_region 1 with fail
  rw [← hw1]
  clear hw1 hX
  have hc := refCheckSheetS ⟨L, R, A, ca, B, cb, l, t⟩ w1 HA.out
  dsimp only at hc
  rw [show sheetErr L R l t = 0 from sheetErr_iff.2 HV.out] at hc
  have Hc := Lib.hid (hc)
  try dsimp only at Hc
  go_wp2_with fail
  refine Hc.out.mono ?_
  rintro e w2 ⟨v, rfl, rfl, hb⟩
  have HB2 := Lib.hid (below_trans' HB1.out hb)
  replace HA := Lib.hid (HA.out.below hb)
  replace y0 := cell_below hb y0
  replace y1 := cell_below hb y1
  replace y2 := cell_below hb y2
  replace y3 := cell_below hb y3
  clear hb Hc HB1 hc
  obtain ⟨M, hM⟩ : ∃ M : Nat, (bif right then R else L) = (M : Int) := ⟨(bif right then R else L).toNat, by cases right <;> dsimp only [cond] <;> omega⟩
  have HMM : Hid (manyOf ⟨L, R, A, ca, B, cb, l, t⟩ right = M) := Lib.hid (by show (bif right then R else L).toNat = M; rw [hM]; omega)
  go_upto_if 22 with fail
  go_cut [6] (fun s6 wx => s6 = .int .i64 M ∧ wx = w2)
  case first =>
    cases right
    · go_wp2
      go_meet
      exact ⟨congrArg (Value.int .i64) hM, rfl⟩
    · go_wp2
      go_meet
      exact ⟨congrArg (Value.int .i64) hM, rfl⟩
  case rest =>
    obtain ⟨rfl, hwc⟩ := hcut
    subst hwc
    obtain ⟨w2, rfl⟩ : ∃ w2 : World, w2 = wc := ⟨_, rfl⟩
    clear hM
  -- WORLD
    have Hc := Lib.hid (refKindsS ⟨L, R, A, ca, B, cb, l, t⟩ w2 HA.out HV.out)
    try dsimp only at Hc
    go_wp2_with fail
    refine Hc.out.mono ?_
    rintro e w3 ⟨v, rfl, ⟨G1, c1, rfl, h1, n1⟩, hb⟩
    have HB3 := Lib.hid (below_trans' HB2.out hb)
    replace HA := Lib.hid (HA.out.below hb)
    replace y0 := cell_below hb y0
    replace y1 := cell_below hb y1
    replace y2 := cell_below hb y2
    replace y3 := cell_below hb y3
    clear hb Hc HB2 
    obtain ⟨ks, hks⟩ : ∃ ks, kindsC ⟨L, R, A, ca, B, cb, l, t⟩ = ks := ⟨_, rfl⟩
    have hkl1 := kindsC_len ⟨L, R, A, ca, B, cb, l, t⟩
    rw [hks] at h1 n1 hkl1
    rw [hks]
    try dsimp only at hkl1
    rw [hkl1]
    have HK := Lib.hid hks
    have HL1 := Lib.hid hkl1
    have H1 := Lib.hid h1
    clear h1 n1 hks hkl1
    go_upto_region 8 with fail
    go_wp2
    go_loopw [9, 10] (fun ov iv wr => ∃ it : Nat, it ≤ M ∧ iv = .int .i64 it ∧ wr.ownsRow w3.heap.size 3 1 ov ((List.range it).map (itemC ⟨L, R, A, ca, B, cb, l, t⟩ right)).length (((List.range it).map (itemC ⟨L, R, A, ca, B, cb, l, t⟩ right)).flatMap encI) ∧ Hid (Below w3.heap.size w3 wr)) (fun _ iv _ => M - (intOf iv).toNat)
    case atStart => exact ⟨0, by omega, rfl, World.ownsRow_nil _ _ _ _, Lib.hid (Below.refl _ _)⟩
    case round =>
      obtain ⟨it, hit, rfl, hown, HBo⟩ := hrel
      by_cases hin : it < M
      · have hM12 : M ≤ 12 := by
          have hmo : (M : Int) ≤ 12 := by
            rw [← HMM.out]
            show ((bif right then R else L).toNat : Int) ≤ 12
            cases right <;> dsimp only [cond] <;> omega
          omega
        have HN := Lib.hid (itemsC_step ⟨L, R, A, ca, B, cb, l, t⟩ right it)
        have hlen : ((List.range it).map (itemC ⟨L, R, A, ca, B, cb, l, t⟩ right)).length ≤ 12 := by
          rw [List.length_map, List.length_range]
          omega
        have HOW := Lib.hid hown
        clear hown
        generalize (List.range it).map (itemC ⟨L, R, A, ca, B, cb, l, t⟩ right) = T at HN HOW hlen
        obtain ⟨wo, rfl⟩ : ∃ wo : World, wo = wr := ⟨_, rfl⟩
        have z0 := cell_below HBo.out y0
        have z1 := cell_below HBo.out y1
        have z2 := cell_below HBo.out y2
        have z3 := cell_below HBo.out y3
        have HAo := Lib.hid (HA.out.below HBo.out)
        have H1o := Lib.hid (H1.out.below HBo.out)
        go_upto_region 13 with fail
        have hbx : Below wo.heap.size wo (wo.alloc (.cells #[.int .i64 L, .int .i64 R, .slice A l.length ca, .slice B t.length cb] 25)) := below_alloc' (Below.refl _ _) _
        have hZ := heap_alloc_new wo (.cells #[.int .i64 L, .int .i64 R, .slice A l.length ca, .slice B t.length cb] 25)
        have HBX := Lib.hid hbx
        have HAX := Lib.hid (HAo.out.below hbx)
        have x2 := cell_below hbx z2
        have hsx : (wo.alloc (.cells #[.int .i64 L, .int .i64 R, .slice A l.length ca, .slice B t.length cb] 25)).heap.size = wo.heap.size + 1 := World.size_alloc _ _
        generalize wo.alloc (.cells #[.int .i64 L, .int .i64 R, .slice A l.length ca, .slice B t.length cb] 25) = wx at *
        have hNA : Hid (0 < l.length → ∀ a, A = some a → a.block ≠ wo.heap.size) := Lib.hid fun h0 a e he => by
          have hl := HAo.out.links
          dsimp only at hl
          obtain ⟨b', o', e', h1, _⟩ := hl.at_ h0
          rw [e] at e'; cases e'
          have := block_lt_of_cell h1
          dsimp only at he this; omega
        have hNB : Hid (0 < t.length → ∀ a, B = some a → a.block ≠ wo.heap.size) := Lib.hid fun h0 a e he => by
          have hl := HAo.out.known
          dsimp only at hl
          obtain ⟨b', o', e', h1⟩ := hl.at_ h0
          rw [e] at e'; cases e'
          have := block_lt_of_cell h1
          dsimp only at he this; omega
        have hRS : Hid (RestIs ⟨L, R, A, ca, B, cb, l, t⟩ right it l.length ⟨L, R, A, ca, B, cb, l, t⟩) := Lib.hid (RestIs.start (s := ⟨L, R, A, ca, B, cb, l, t⟩) HV.out rfl rfl rfl rfl right it)
        have hA0 : anyFrom (someP ⟨L, R, A, ca, B, cb, l, t⟩ right it) l.length l.length = false := anyFrom_end _ _
        have hA1 : anyFrom (knownP ⟨L, R, A, ca, B, cb, l, t⟩ right it) l.length l.length = false := anyFrom_end _ _
        go_wp2
        clear x2
        go_loopw [11, 12, 14] (fun sm kn iv wr => ∃ (i : Nat) (s' : Sh), i ≤ l.length ∧ iv = .int .i64 ((i : Int) - 1) ∧ sm = .bool (anyFrom (someP ⟨L, R, A, ca, B, cb, l, t⟩ right it) l.length i) ∧ kn = .bool (anyFrom (knownP ⟨L, R, A, ca, B, cb, l, t⟩ right it) l.length i) ∧ Hid (RestIs ⟨L, R, A, ca, B, cb, l, t⟩ right it i s') ∧ Hid (ShAt wr s') ∧ Hid (0 < s'.l.length → ∀ a, s'.A = some a → a.block ≠ wo.heap.size) ∧ Hid (0 < s'.t.length → ∀ a, s'.B = some a → a.block ≠ wo.heap.size) ∧ Hid (wr.heap[wo.heap.size]? = some (.cells #[.int .i64 s'.L, .int .i64 s'.R, .slice s'.A s'.l.length s'.ca, .slice s'.B s'.t.length s'.cb] 25 (0, 0))) ∧ Hid (Below wo.heap.size wo wr) ∧ wo.heap.size < wr.heap.size) (fun _ _ iv _ => (intOf iv + 1).toNat)
        case atStart => exact ⟨l.length, ⟨L, R, A, ca, B, cb, l, t⟩, Nat.le_refl _, rfl, by rw [hA0], by rw [hA1], hRS, HAX, hNA, hNB, Lib.hid hZ, HBX, by omega⟩
        case round =>
          clear hZ HBX HAX hNA hNB hRS hA0 hA1 hsx
          obtain ⟨i, s', hi, rfl, rfl, rfl, HR, HS', HNA, HNB, HZ, HBF, hwl⟩ := hrel
          obtain ⟨L', R', A', ca', B', cb', l', t'⟩ := s'
          dsimp only at HNA HNB HZ
          have x2 := cell_below HBF.out z2
          cases i with
          | succ k =>
            rw [show (((k + 1 : Nat) : Int) - 1) = (k : Int) by omega]
            have hkl : k < l.length := by omega
            have ik0 : (0 : Int) ≤ (k : Int) := by omega
            have ik1 : (k : Int) < (l.length : Int) := by omega
            have HE := Lib.hid (atL_eq (l := l) hkl)
            have HSS := Lib.hid (anyFrom_step (p := someP ⟨L, R, A, ca, B, cb, l, t⟩ right it) hkl)
            have HSK := Lib.hid (anyFrom_step (p := knownP ⟨L, R, A, ca, B, cb, l, t⟩ right it) hkl)
            have HPS : Hid (someP ⟨L, R, A, ca, B, cb, l, t⟩ right it k = (decide (itemOf right (atL l k) = (it : Int)) && decide (0 < ks.getD k 0))) := Lib.hid (by rw [← HK.out]; rfl)
            have HPK : Hid (knownP ⟨L, R, A, ca, B, cb, l, t⟩ right it k = (decide (itemOf right (atL l k) = (it : Int)) && t.contains (k : Int))) := Lib.hid rfl
            generalize anyFrom (someP ⟨L, R, A, ca, B, cb, l, t⟩ right it) l.length (k + 1) = fs at HSS ⊢
            generalize anyFrom (knownP ⟨L, R, A, ca, B, cb, l, t⟩ right it) l.length (k + 1) = fk at HSK ⊢
            have hskip := HR.out.skip
            obtain ⟨hlt1, _, _⟩ := HR.out.lt
            rw [HE.out] at HPS HPK
            rw [show atL (Sh.l ⟨L, R, A, ca, B, cb, l, t⟩) (k : Int) = l[k] from HE.out] at hskip
            have hstrike := fun s'' => RestIs.strike (s'' := s'') HV.out HR.out
            rw [show atL (Sh.l ⟨L, R, A, ca, B, cb, l, t⟩) (k : Int) = l[k] from HE.out] at hstrike
            have HSKP := Lib.hid hskip
            have HSTR := Lib.hid hstrike
            clear hskip hstrike
            have q1 := IntsAt.get' (H1o.out.below HBF.out) (show k < ks.length by rw [HL1.out]; exact hkl)
            obtain ⟨b2, o2, rfl, q1⟩ := q1
            obtain ⟨b1, o1, rfl, p1, p2⟩ := (HAo.out.links.below HBF.out).at_ hkl
            try dsimp only at p1 p2
            generalize l[k] = x at p1 p2 HPS HPK HSKP HSTR
            have Hh := Lib.hid (has_any x right it wr)
            rw [hasB_item] at Hh
            obtain ⟨xa, xb⟩ := x
            dsimp only at p1 p2
            unfold vR at Hh
            dsimp only at Hh
            by_cases hx : itemOf right (xa, xb) = (it : Int)
            · rw [decide_eq_true hx] at Hh HPS HPK
              rw [Bool.true_and] at HPS HPK
              have x3 := cell_below HBF.out z3
              have x0 := cell_below HBF.out z0
              go_wp2_with fail
              refine Hh.out.mono ?_
              rintro e w9 ⟨v, rfl, rfl, hb⟩
              have HS9 := Lib.hid (HS'.out.below hb)
              have HZ9 := Lib.hid (blk_below hb HZ.out)
              have HB9 := Lib.hid (HBF.out.trans (hb.mono (Nat.le_of_lt hwl)))
              have hsz9 := hb.size
              have q9 := cell_below hb q1
              have x39 := cell_below hb x3
              obtain ⟨kv, hkv⟩ : ∃ kv, ks.getD k 0 = kv := ⟨_, rfl⟩
              rw [hkv] at q9 HPS
              clear hb Hh p1 p2 x2 q1 x3 x0 hkv
              go_upto_region 17 with fail
              go_cut [11] (fun s11 wx => s11 = .bool (fs || decide (0 < kv)) ∧ wx = w9)
              case first =>
                clear HSS HSK
                cases fs
                · by_cases h0 : 0 < kv
                  · have d0 : decide (kv > 0) = true := decide_eq_true h0
                    go_wp2_with fail
                    go_meet
                    exact ⟨by rw [Bool.false_or, decide_eq_true (by omega)], rfl⟩
                  · have d0 : decide (kv > 0) = false := decide_eq_false h0
                    go_wp2_with fail
                    go_meet
                    exact ⟨by rw [Bool.false_or, decide_eq_false (by omega)], rfl⟩
                · go_wp2_with fail
                  go_meet
                  exact ⟨rfl, rfl⟩
              case rest =>
                obtain ⟨rfl, hwc⟩ := hcut
                subst hwc
                obtain ⟨w9, rfl⟩ : ∃ w9 : World, w9 = wc := ⟨_, rfl⟩
                have HSS' : Hid (anyFrom (someP ⟨L, R, some ⟨b1, o1, none⟩, ca, B, cb, l, t⟩ right it) l.length k = (fs || decide (0 < kv))) := Lib.hid (by rw [HSS.out, HPS.out, Bool.or_comm])
                have HSK' : Hid (anyFrom (knownP ⟨L, R, some ⟨b1, o1, none⟩, ca, B, cb, l, t⟩ right it) l.length k = (t.contains (k : Int) || fk)) := Lib.hid (by rw [HSK.out, HPK.out])
                generalize (fs || decide (0 < kv)) = fs2 at HSS' ⊢
                clear HSS HSK HPS HPK q9
                have Hc := Lib.hid (inS B cb t k w9 ((HAo.out.known).below HB9.out) (by omega))
                go_wp2_with fail
                refine Hc.out.mono ?_
                rintro e w10 ⟨v, rfl, rfl, hb⟩
                replace HS9 := Lib.hid (HS9.out.below hb)
                replace HZ9 := Lib.hid (blk_below hb HZ9.out)
                have hsz10 := hb.size
                replace HB9 := Lib.hid (HB9.out.trans (hb.mono (by omega)))
                clear hb Hc x39
                cases hct : t.contains (k : Int)
                · have hnt : (k : Int) ∉ t := by simpa using hct
                  rw [hct, Bool.false_or] at HSK'
                  have c0 : w10.cell? ⟨wo.heap.size, 0, none⟩ = some (.int .i64 L') := (blk_cell HZ9.out).trans rfl
                  have c1 : w10.cell? ⟨wo.heap.size, 1, none⟩ = some (.int .i64 R') := (blk_cell HZ9.out).trans rfl
                  have c2 : w10.cell? ⟨wo.heap.size, 2, none⟩ = some (.slice A' l'.length ca') := (blk_cell HZ9.out).trans rfl
                  have c3 : w10.cell? ⟨wo.heap.size, 3, none⟩ = some (.slice B' t'.length cb') := (blk_cell HZ9.out).trans rfl
                  have Hc := Lib.hid (withoutF ⟨L', R', A', ca', B', cb', l', t'⟩ k w10 HS9.out HR.out.valid)
                  have HST := Lib.hid (fun s'' => HSTR.out s'' hx hnt)
                  clear HSTR HSKP hct hnt HR HNA HNB
                  try dsimp only at Hc
                  go_wp2_with fail
                  refine Hc.out.mono ?_
                  rintro e w11 ⟨v, rfl, ⟨G, c, H, d, rfl, hxS, hxG, hxH⟩, hb⟩
                  have HZ11 := blk_below hb HZ9.out
                  have HB11 := Lib.hid (HB9.out.trans (hb.mono (by omega)))
                  have hsz11 := hb.size
                  have HXS := Lib.hid hxS
                  have HXG : Hid (∀ a, G = some a → a.block ≠ wo.heap.size) := Lib.hid fun a e h => by have := hxG a e; omega
                  have HXH : Hid (∀ a, H = some a → a.block ≠ wo.heap.size) := Lib.hid fun a e h => by have := hxH a e; omega
                  unfold vSheet
                  try dsimp only
                  have e0 : w11.cell? ⟨wo.heap.size, 0, none⟩ = some (.int .i64 L') := (blk_cell HZ11).trans rfl
                  have e1 : w11.cell? ⟨wo.heap.size, 1, none⟩ = some (.int .i64 R') := (blk_cell HZ11).trans rfl
                  have e2 : w11.cell? ⟨wo.heap.size, 2, none⟩ = some (.slice A' l'.length ca') := (blk_cell HZ11).trans rfl
                  have e3 : w11.cell? ⟨wo.heap.size, 3, none⟩ = some (.slice B' t'.length cb') := (blk_cell HZ11).trans rfl
                  have f0 := blk_frozen (i := 0) HZ11
                  have f1 := blk_frozen (i := 1) HZ11
                  have f2 := blk_frozen (i := 2) HZ11
                  have f3 := blk_frozen (i := 3) HZ11
                  obtain ⟨l2, hl2⟩ : ∃ l2, l'.eraseIdx k = l2 := ⟨_, rfl⟩
                  obtain ⟨t2, ht2⟩ : ∃ t2, noT t' k = t2 := ⟨_, rfl⟩
                  rw [hl2, ht2]
                  try dsimp only at HXS
                  rw [hl2, ht2] at HXS
                  have HR2 := Lib.hid (HST.out ⟨L', R', G, c, H, d, l2, t2⟩ rfl rfl hl2.symm ht2.symm)
                  have HF1 := Lib.hid (fill4_blk HZ11 (.int .i64 L') (.int .i64 R') (.slice G l2.length c) (.slice H t2.length d))
                  have HF2 := Lib.hid (fill4_below (b := wo.heap.size) HB11.out (Nat.le_refl _) (.int .i64 L') (.int .i64 R') (.slice G l2.length c) (.slice H t2.length d))
                  have HF3 := Lib.hid (HXS.out.far4 (b := wo.heap.size) (fun _ => HXG.out) (fun _ => HXH.out) (.int .i64 L') (.int .i64 R') (.slice G l2.length c) (.slice H t2.length d))
                  clear hb Hc hxS hxG hxH HZ11 HZ9 HS9 HB9 HST c0 c1 c2 c3 hl2 ht2
                  go_wp2
                  go_roundw
                  case rel => exact ⟨k, ⟨L', R', G, c, H, d, l2, t2⟩, by omega, rfl, by rw [HSS'.out], by rw [HSK'.out], HR2, HF3, Lib.hid (fun _ => HXG.out), Lib.hid (fun _ => HXH.out), HF1, HF2, by simp; omega⟩
                  case measure => simp [intOf]
                · have hmt : (k : Int) ∈ t := by simpa using hct
                  rw [hct, Bool.true_or] at HSK'
                  have HR' := Lib.hid (HSKP.out (.inr hmt))
                  clear hct
                  go_wp2
                  go_roundw
                  case rel => exact ⟨k, _, by omega, rfl, by rw [HSS'.out], by rw [HSK'.out], HR', HS9, HNA, HNB, HZ9, HB9, by omega⟩
                  case measure => simp [intOf]
            · rw [decide_eq_false hx] at Hh HPS HPK
              have HR' := Lib.hid (HSKP.out (.inl hx))
              go_wp2_with fail
              refine Hh.out.mono ?_
              rintro e w9 ⟨v, rfl, rfl, hb⟩
              have HS9 := Lib.hid (HS'.out.below hb)
              have HZ9 := Lib.hid (blk_below hb HZ.out)
              have HB9 := Lib.hid (HBF.out.trans (hb.mono (Nat.le_of_lt hwl)))
              have hsz9 := hb.size
              clear hb Hh p1 p2 x2 q1
              go_wp2
              go_roundw
              case rel => exact ⟨k, _, by omega, rfl, by rw [HSS.out, HPS.out, Bool.false_and, Bool.false_or], by rw [HSK.out, HPK.out, Bool.false_and, Bool.false_or], HR', HS9, HNA, HNB, HZ9, HB9, by omega⟩
              case measure => simp [intOf]
          | zero =>
            rw [show (((0 : Nat) : Int) - 1) = -1 by omega]
            obtain ⟨g1, g2, g3⟩ := RestIs.item HV.out HR.out
            have HVR := Lib.hid HR.out.valid
            have hlt' := HR.out.len
            dsimp only at g1 g2 g3 hlt'
            generalize anyFrom (someP ⟨L, R, A, ca, B, cb, l, t⟩ right it) l.length 0 = fs at g1 g2 g3 ⊢
            generalize anyFrom (knownP ⟨L, R, A, ca, B, cb, l, t⟩ right it) l.length 0 = fk at g1 g2 g3 ⊢
            cases fk
            · cases fs
              · have HIC : Hid (itemC ⟨L, R, A, ca, B, cb, l, t⟩ right it = 0) := Lib.hid (g2 rfl rfl)
                clear g1 g2 g3 hlt' x2
                go_upto_region 21 with fail
                refine wp_region_quiet_lit (by kernel_rfl) (by kernel_rfl) ?_
                repeat (any_goals (first | go_big_quiet_step (fail) | quiet_step (fail) | (refine wpQuiet_step (fun K hK => ?_); go_simp; split <;> (refine hK _ ?_; clear hK K))))
                all_goals (refine wpQuiet_nil ?_; intro _ hw'; obtain ⟨nq, hw''⟩ := hw'; subst hw'')
                replace HBF := Lib.hid (below_drewN HBF.out nq)
                generalize wr.drewN nq = wr at *
                have Hown := Lib.hid (HOW.out.kept (grown_below HBF.out) (Classical.em _))
                have hzf := HBF.out.size
                have hzo := HBo.out.size
                go_wp2_with (at_builtin; refine wpList_push _ rfl (.tmp 86) (.tmp 87) 23 rfl elemI3 encI_len oneI Try.underlying23 w3.heap.size _ T rfl (Hown.out.alloc _) (by omega) (0 : Int) _ rfl _ (by rfl) _ _ (heap_alloc_new _ _) (by rw [World.size_alloc]; omega) ?_; intro g cap w6 hown6 hg6; have HB6 := Lib.hid ((below_alloc' (below_trans' HBo.out HBF.out) _).grown hg6 (by rw [World.size_alloc]; omega) (fun r e => own_base Hown.out r e)); have Hown6 := Lib.hid hown6; clear hown6 hg6 Hown HBo HBF)
                go_roundw
                case rel => exact ⟨it + 1, by omega, by go_num, by rw [HN.out, HIC.out, len_snoc]; exact Hown6.out, HB6⟩
                case measure => simp [intOf]; omega
              · have HIC' := Lib.hid (g3 rfl rfl)
                clear g1 g2 g3 x2
                have c0 : wr.cell? ⟨wo.heap.size, 0, none⟩ = some (.int .i64 L') := (blk_cell HZ.out).trans rfl
                have c1 : wr.cell? ⟨wo.heap.size, 1, none⟩ = some (.int .i64 R') := (blk_cell HZ.out).trans rfl
                have c2 : wr.cell? ⟨wo.heap.size, 2, none⟩ = some (.slice A' l'.length ca') := (blk_cell HZ.out).trans rfl
                have c3 : wr.cell? ⟨wo.heap.size, 3, none⟩ = some (.slice B' t'.length cb') := (blk_cell HZ.out).trans rfl
                have x0 := cell_below HBF.out z0
                have x1 := cell_below HBF.out z1
                have x2 := cell_below HBF.out z2
                have x3 := cell_below HBF.out z3
                have k1 := fun W (hW : Below wr.heap.size wr W) => size_any ⟨L', R', A', ca', B', cb', l', t'⟩ W (HS'.out.below hW) HVR.out
                have k2 := fun W (hW : Below wr.heap.size wr W) => size_any ⟨L, R, A, ca, B, cb, l, t⟩ W ((HAo.out.below HBF.out).below hW) HV.out
                obtain ⟨nr, hnr⟩ : ∃ nr, mostS ⟨L', R', A', ca', B', cb', l', t'⟩ = nr := ⟨_, rfl⟩
                obtain ⟨ns, hns⟩ : ∃ ns, mostS ⟨L, R, A, ca, B, cb, l, t⟩ = ns := ⟨_, rfl⟩
                rw [hnr, hns] at HIC'
                simp only [hnr] at k1
                simp only [hns] at k2
                have K1 := Lib.hid k1
                have K2 := Lib.hid k2
                clear k1 k2 hnr hns
                unfold Sh.v vSheet at K1 K2
                dsimp only at K1 K2
                rw [hlt'] at c3
                rw [hlt'] at K1
                by_cases hlt : nr < ns
                · have HIC : Hid (itemC ⟨L, R, A, ca, B, cb, l, t⟩ right it = 2) := Lib.hid (by rw [HIC'.out, if_pos hlt])
                  have dl : nr + t.length < ns + t.length := by omega
                  clear HIC' hlt'
                  go_upto_region 21 with fail
                  refine wp_region_class (C := fun W => Below wr.heap.size wr W) (by kernel_rfl) (by kernel_rfl) ((Below.refl _ _).drew) ?_
                  repeat (first
                    | go_big_quiet_skip
                    | (go_big_quiet_want
                       first
                         | (go_big_quiet_op; go_big_quiet_on)
                         | (apply Exists.intro
                            refine ⟨fun W hW => ?_, ?_⟩
                            · replace c0 := cell_below hW c0; replace c1 := cell_below hW c1; replace c2 := cell_below hW c2; replace c3 := cell_below hW c3; replace x0 := cell_below hW x0; replace x1 := cell_below hW x1; replace x2 := cell_below hW x2; replace x3 := cell_below hW x3; go_simp <;> exact rfl
                            simp only [Act.put, List.setIfInBounds_toArray, List.set_cons_zero, List.set_cons_succ]
                            go_big_quiet_on)))
                  go_big_quiet_want
                  apply Exists.intro
                  refine ⟨fun W hW => ?_, ?_⟩
                  · go_simp
                    refine (K1.out _ hW).mono ?_
                    rintro e wc ⟨v, rfl, rfl, hBc⟩
                    exact ⟨rfl, below_trans' hW hBc⟩
                  simp only [Act.put, List.setIfInBounds_toArray, List.set_cons_zero, List.set_cons_succ]
                  go_big_quiet_on
                  repeat (first
                    | go_big_quiet_skip
                    | (go_big_quiet_want
                       first
                         | (go_big_quiet_op; go_big_quiet_on)
                         | (apply Exists.intro
                            refine ⟨fun W hW => ?_, ?_⟩
                            · replace c0 := cell_below hW c0; replace c1 := cell_below hW c1; replace c2 := cell_below hW c2; replace c3 := cell_below hW c3; replace x0 := cell_below hW x0; replace x1 := cell_below hW x1; replace x2 := cell_below hW x2; replace x3 := cell_below hW x3; go_simp <;> exact rfl
                            simp only [Act.put, List.setIfInBounds_toArray, List.set_cons_zero, List.set_cons_succ]
                            go_big_quiet_on)))
                  go_big_quiet_want
                  apply Exists.intro
                  refine ⟨fun W hW => ?_, ?_⟩
                  · go_simp
                    refine (K2.out _ hW).mono ?_
                    rintro e wc ⟨v, rfl, rfl, hBc⟩
                    exact ⟨rfl, below_trans' hW hBc⟩
                  simp only [Act.put, List.setIfInBounds_toArray, List.set_cons_zero, List.set_cons_succ]
                  go_big_quiet_on
                  repeat (first
                    | go_big_quiet_skip
                    | (go_big_quiet_want
                       first
                         | (go_big_quiet_op; go_big_quiet_on)
                         | (apply Exists.intro
                            refine ⟨fun W hW => ?_, ?_⟩
                            · replace c0 := cell_below hW c0; replace c1 := cell_below hW c1; replace c2 := cell_below hW c2; replace c3 := cell_below hW c3; replace x0 := cell_below hW x0; replace x1 := cell_below hW x1; replace x2 := cell_below hW x2; replace x3 := cell_below hW x3; go_simp <;> exact rfl
                            simp only [Act.put, List.setIfInBounds_toArray, List.set_cons_zero, List.set_cons_succ]
                            go_big_quiet_on)))
                  refine wpQuiet_nil ?_
                  intro w21 hB21
                  have hbf := HBF.out.size
                  replace HBF := Lib.hid (HBF.out.trans (hB21.mono hbf))
                  clear c0 c1 c2 c3 x0 x1 x2 x3 K1 K2 hB21
                  have Hown := Lib.hid (HOW.out.kept (grown_below HBF.out) (Classical.em _))
                  have hzf := HBF.out.size
                  have hzo := HBo.out.size
                  go_wp2_with (at_builtin; refine wpList_push _ rfl (.tmp 79) (.tmp 80) 23 rfl elemI3 encI_len oneI Try.underlying23 w3.heap.size _ T rfl (Hown.out.alloc _) (by omega) (2 : Int) _ rfl _ (by rfl) _ _ (heap_alloc_new _ _) (by rw [World.size_alloc]; omega) ?_; intro g cap w6 hown6 hg6; have HB6 := Lib.hid ((below_alloc' (below_trans' HBo.out HBF.out) _).grown hg6 (by rw [World.size_alloc]; omega) (fun r e => own_base Hown.out r e)); have Hown6 := Lib.hid hown6; clear hown6 hg6 Hown HBo HBF)
                  go_roundw
                  case rel => exact ⟨it + 1, by omega, by go_num, by rw [HN.out, HIC.out, len_snoc]; exact Hown6.out, HB6⟩
                  case measure => simp [intOf]; omega
                · have HIC : Hid (itemC ⟨L, R, A, ca, B, cb, l, t⟩ right it = 1) := Lib.hid (by rw [HIC'.out, if_neg hlt])
                  have dl : ¬ nr + t.length < ns + t.length := by omega
                  clear HIC' hlt'
                  go_upto_region 21 with fail
                  refine wp_region_class (C := fun W => Below wr.heap.size wr W) (by kernel_rfl) (by kernel_rfl) ((Below.refl _ _).drew) ?_
                  repeat (first
                    | go_big_quiet_skip
                    | (go_big_quiet_want
                       first
                         | (go_big_quiet_op; go_big_quiet_on)
                         | (apply Exists.intro
                            refine ⟨fun W hW => ?_, ?_⟩
                            · replace c0 := cell_below hW c0; replace c1 := cell_below hW c1; replace c2 := cell_below hW c2; replace c3 := cell_below hW c3; replace x0 := cell_below hW x0; replace x1 := cell_below hW x1; replace x2 := cell_below hW x2; replace x3 := cell_below hW x3; go_simp <;> exact rfl
                            simp only [Act.put, List.setIfInBounds_toArray, List.set_cons_zero, List.set_cons_succ]
                            go_big_quiet_on)))
                  go_big_quiet_want
                  apply Exists.intro
                  refine ⟨fun W hW => ?_, ?_⟩
                  · go_simp
                    refine (K1.out _ hW).mono ?_
                    rintro e wc ⟨v, rfl, rfl, hBc⟩
                    exact ⟨rfl, below_trans' hW hBc⟩
                  simp only [Act.put, List.setIfInBounds_toArray, List.set_cons_zero, List.set_cons_succ]
                  go_big_quiet_on
                  repeat (first
                    | go_big_quiet_skip
                    | (go_big_quiet_want
                       first
                         | (go_big_quiet_op; go_big_quiet_on)
                         | (apply Exists.intro
                            refine ⟨fun W hW => ?_, ?_⟩
                            · replace c0 := cell_below hW c0; replace c1 := cell_below hW c1; replace c2 := cell_below hW c2; replace c3 := cell_below hW c3; replace x0 := cell_below hW x0; replace x1 := cell_below hW x1; replace x2 := cell_below hW x2; replace x3 := cell_below hW x3; go_simp <;> exact rfl
                            simp only [Act.put, List.setIfInBounds_toArray, List.set_cons_zero, List.set_cons_succ]
                            go_big_quiet_on)))
                  go_big_quiet_want
                  apply Exists.intro
                  refine ⟨fun W hW => ?_, ?_⟩
                  · go_simp
                    refine (K2.out _ hW).mono ?_
                    rintro e wc ⟨v, rfl, rfl, hBc⟩
                    exact ⟨rfl, below_trans' hW hBc⟩
                  simp only [Act.put, List.setIfInBounds_toArray, List.set_cons_zero, List.set_cons_succ]
                  go_big_quiet_on
                  repeat (first
                    | go_big_quiet_skip
                    | (go_big_quiet_want
                       first
                         | (go_big_quiet_op; go_big_quiet_on)
                         | (apply Exists.intro
                            refine ⟨fun W hW => ?_, ?_⟩
                            · replace c0 := cell_below hW c0; replace c1 := cell_below hW c1; replace c2 := cell_below hW c2; replace c3 := cell_below hW c3; replace x0 := cell_below hW x0; replace x1 := cell_below hW x1; replace x2 := cell_below hW x2; replace x3 := cell_below hW x3; go_simp <;> exact rfl
                            simp only [Act.put, List.setIfInBounds_toArray, List.set_cons_zero, List.set_cons_succ]
                            go_big_quiet_on)))
                  refine wpQuiet_nil ?_
                  intro w21 hB21
                  have hbf := HBF.out.size
                  replace HBF := Lib.hid (HBF.out.trans (hB21.mono hbf))
                  clear c0 c1 c2 c3 x0 x1 x2 x3 K1 K2 hB21
                  have Hown := Lib.hid (HOW.out.kept (grown_below HBF.out) (Classical.em _))
                  have hzf := HBF.out.size
                  have hzo := HBo.out.size
                  go_wp2_with (at_builtin; refine wpList_push _ rfl (.tmp 83) (.tmp 84) 23 rfl elemI3 encI_len oneI Try.underlying23 w3.heap.size _ T rfl (Hown.out.alloc _) (by omega) (1 : Int) _ rfl _ (by rfl) _ _ (heap_alloc_new _ _) (by rw [World.size_alloc]; omega) ?_; intro g cap w6 hown6 hg6; have HB6 := Lib.hid ((below_alloc' (below_trans' HBo.out HBF.out) _).grown hg6 (by rw [World.size_alloc]; omega) (fun r e => own_base Hown.out r e)); have Hown6 := Lib.hid hown6; clear hown6 hg6 Hown HBo HBF)
                  go_roundw
                  case rel => exact ⟨it + 1, by omega, by go_num, by rw [HN.out, HIC.out, len_snoc]; exact Hown6.out, HB6⟩
                  case measure => simp [intOf]; omega
            · have HIC : Hid (itemC ⟨L, R, A, ca, B, cb, l, t⟩ right it = 2) := Lib.hid (g1 rfl)
              clear g1 g2 g3 hlt' x2
              go_upto_region 21 with fail
              refine wp_region_quiet_lit (by kernel_rfl) (by kernel_rfl) ?_
              repeat (any_goals (first | go_big_quiet_step (fail) | quiet_step (fail) | (refine wpQuiet_step (fun K hK => ?_); go_simp; split <;> (refine hK _ ?_; clear hK K))))
              all_goals (refine wpQuiet_nil ?_; intro _ hw'; obtain ⟨nq, hw''⟩ := hw'; subst hw'')
              replace HBF := Lib.hid (below_drewN HBF.out nq)
              generalize wr.drewN nq = wr at *
              have Hown := Lib.hid (HOW.out.kept (grown_below HBF.out) (Classical.em _))
              have hzf := HBF.out.size
              have hzo := HBo.out.size
              go_wp2_with (at_builtin; refine wpList_push _ rfl (.tmp 79) (.tmp 80) 23 rfl elemI3 encI_len oneI Try.underlying23 w3.heap.size _ T rfl (Hown.out.alloc _) (by omega) (2 : Int) _ rfl _ (by rfl) _ _ (heap_alloc_new _ _) (by rw [World.size_alloc]; omega) ?_; intro g cap w6 hown6 hg6; have HB6 := Lib.hid ((below_alloc' (below_trans' HBo.out HBF.out) _).grown hg6 (by rw [World.size_alloc]; omega) (fun r e => own_base Hown.out r e)); have Hown6 := Lib.hid hown6; clear hown6 hg6 Hown HBo HBF)
              go_roundw
              case rel => exact ⟨it + 1, by omega, by go_num, by rw [HN.out, HIC.out, len_snoc]; exact Hown6.out, HB6⟩
              case measure => simp [intOf]; omega
      · have hie : it = M := by omega
        subst hie
        have HIE : Hid ((List.range it).map (itemC ⟨L, R, A, ca, B, cb, l, t⟩ right) = itemsC ⟨L, R, A, ca, B, cb, l, t⟩ right) := Lib.hid (by unfold itemsC; rw [HMM.out])
        rw [HIE.out] at hown
        obtain ⟨G, c, rfl, hc⟩ := own_form hown
        have HRR : Hid (IntsAt wr G (itemsC ⟨L, R, A, ca, B, cb, l, t⟩ right)) := Lib.hid (RowsAt.of_own encI_len hown)
        have HBE := Lib.hid (below_trans' HB3.out HBo.out)
        have HC := Lib.hid hc
        clear hown hc
        go_wp2
        go_ret2
        exact Ret.mk ⟨⟨G, c, rfl, HRR.out, HC.out⟩, HBE.out⟩
end Go.Proofs.Ytoogfdicmpkkgaa
