/- ref: kind, Kinds, left. -/
import Derived.Test.YtoogfdicmpkkgaaC9
namespace Go.Proofs.Ytoogfdicmpkkgaa
open Go.RowKit Go.Shelf Go.Maps Match

/-- the three numbers by which the definition says the kind of a free link -/
theorem Sheet.kind_nums {s : Sh} (h : Sheet s.L s.R s.l s.t) {k : Nat} (hk : k < s.l.length) (hf : freeP s k = true) :
    1 + mostS (yesS s k) ≤ mostS s ∧ (mostS (noS s k) < mostS s → 1 + mostS (yesS s k) = mostS s) ∧ kindC s k = if mostS (noS s k) < mostS s then 2 else if 1 + mostS (yesS s k) = mostS s then 1 else 0 := by
  have hy : mostS (yesS s k) = mostOf (netOf s.l) (farOf s k) := most_yes h hk hf
  have hno : mostS (noS s k) = mostOf (netOf s.l) (noneOf s k) := most_no h hk (free_not_known hf)
  have hx := (free_pair hk).1 hf
  have ha := (most_img h (mostOf_is (netOf s.l) (noneOf s k))).congr (img_none h hk)
  have hb := (most_img h (mostOf_is (netOf s.l) (farOf s k))).congr img_far
  have e1 := h.ps.always_iff h.most_free hx ha
  obtain ⟨e2, e3⟩ := h.ps.may_iff h.most_free hx hb
  rw [hy, hno]
  refine ⟨e2, fun hlt => e3.2 ?_, ?_⟩
  · obtain ⟨G, hG⟩ := h.gr_ex
    exact ⟨G, hG, e1.1 hlt G hG⟩
  · unfold kindC
    rw [show s.t.contains (k : Int) = false by simpa using free_not_known hf, hf]
    exact kindV_free
theorem yes_tlen (s : Sh) (k : Nat) : (yesT s.t k).length = s.t.length + 1 := yesT_len s.t k

set_option maxRecDepth 100000 in
set_option maxHeartbeats 2000000 in
theorem kindR (s : Sh) (k : Nat) (w : World) (hs : ShAt w s) (hv : Sheet s.L s.R s.l s.t) (hkl : k < s.l.length) :
    Calls Try.prog 58 #[s.v, .int .i64 k] w (Ret fun v w' => v = .int .i64 (kindC s k) ∧ Below w.heap.size w w') := by
  obtain ⟨L, R, A, ca, B, cb, l, t⟩ := s
  have HA := Lib.hid hs
  have HV := Lib.hid hv
  have hmany := hv.many
  have ht40 : t.length ≤ 900 := hs.few
  clear hs hv
  unfold Sh.v vSheet
  dsimp only at hkl hmany ⊢
  obtain ⟨w1, hw1⟩ : ∃ w1, w1 = w.alloc (.cells #[.int .i64 L, .int .i64 R, .slice A l.length ca, .slice B t.length cb] 25) := ⟨_, rfl⟩
  have HB1 : Hid (Below w.heap.size w w1) := Lib.hid (by rw [hw1]; exact below_alloc' (Below.refl _ _) _)
  have hX : w1.heap[w.heap.size]? = some (.cells #[.int .i64 L, .int .i64 R, .slice A l.length ca, .slice B t.length cb] 25 (0, 0)) := by rw [hw1]; exact heap_alloc_new _ _
  have y0 : w1.cell? ⟨w.heap.size, 0, none⟩ = some (.int .i64 L) := (blk_cell hX).trans rfl
  have y1 : w1.cell? ⟨w.heap.size, 1, none⟩ = some (.int .i64 R) := (blk_cell hX).trans rfl
  have y2 : w1.cell? ⟨w.heap.size, 2, none⟩ = some (.slice A l.length ca) := (blk_cell hX).trans rfl
  have y3 : w1.cell? ⟨w.heap.size, 3, none⟩ = some (.slice B t.length cb) := (blk_cell hX).trans rfl
  replace HA := Lib.hid (HA.out.below HB1.out)
  go_enter Try.func58, Try.ntmps58
  go_upto_region 1 with fail
  rw [← hw1]
  clear hw1 hX
  have Hc := Lib.hid (inS B cb t k w1 HA.out.known (by omega))
  try dsimp only at Hc
  go_wp2_with fail
  refine Hc.out.mono ?_
  rintro e w2 ⟨v, rfl, rfl, hb⟩
  have HB2 := Lib.hid (below_trans' HB1.out hb)
  replace HA := Lib.hid (HA.out.below hb)
  replace y0 := cell_below hb y0
  replace y1 := cell_below hb y1
  replace y2 := cell_below hb y2
  replace y3 := cell_below hb y3
  clear hb Hc HB1 
  cases hin : t.contains (k : Int)
  rotate_left 1
  ·
    have HK : Hid (kindC ⟨L, R, A, ca, B, cb, l, t⟩ k = 2) := Lib.hid (by unfold kindC; rw [show List.contains (Sh.t ⟨L, R, A, ca, B, cb, l, t⟩) (k : Int) = true from hin]; rfl)
    go_wp2
    go_ret
    exact Ret.mk' (congrArg (Value.int .i64) HK.out.symm) ⟨rfl, HB2.out⟩
  have hmo : mostS ⟨L, R, A, ca, B, cb, l, t⟩ ≤ 40 := by
    obtain ⟨G, hG⟩ := Sheet.gr_ex (s := ⟨L, R, A, ca, B, cb, l, t⟩) HV.out
    have h1 := (Sheet.gr_iff (s := ⟨L, R, A, ca, B, cb, l, t⟩) HV.out |>.1 hG).2
    have h2 := nodup_leP G l hG.jn.nodup hG.jn.links
    omega
  have hc := size_any ⟨L, R, A, ca, B, cb, l, t⟩ w2 HA.out HV.out
  obtain ⟨nn, hnn⟩ : ∃ nn, mostS ⟨L, R, A, ca, B, cb, l, t⟩ = nn := ⟨_, rfl⟩
  rw [hnn] at hmo hc
  try dsimp only at hc
  have HNN := Lib.hid hnn
  clear hnn
  have Hc := Lib.hid (hc)
  try dsimp only at Hc
  go_wp2_with fail
  refine Hc.out.mono ?_
  rintro e w3 ⟨v, rfl, rfl, hb⟩
  have HB3 := Lib.hid (below_trans' HB2.out hb)
  replace HA := Lib.hid (HA.out.below hb)
  replace y0 := cell_below hb y0
  replace y1 := cell_below hb y1
  replace y2 := cell_below hb y2
  replace y3 := cell_below hb y3
  clear hb Hc HB2 hc
  have Hc := Lib.hid (taken_any L R A B ca cb l t k w3 HA.out.links HA.out.known (by omega) (fun x hx => Sheet.bound (s := ⟨L, R, A, ca, B, cb, l, t⟩) HV.out x hx) hkl)
  try dsimp only at Hc
  go_wp2_with fail
  refine Hc.out.mono ?_
  rintro e w4 ⟨v, rfl, rfl, hb⟩
  have HB4 := Lib.hid (below_trans' HB3.out hb)
  replace HA := Lib.hid (HA.out.below hb)
  replace y0 := cell_below hb y0
  replace y1 := cell_below hb y1
  replace y2 := cell_below hb y2
  replace y3 := cell_below hb y3
  clear hb Hc HB3 
  cases htk : takenB l t k
  rotate_left 1
  ·
    have hfr : freeP ⟨L, R, A, ca, B, cb, l, t⟩ k = false := by show (!takenB l t k) = false; rw [htk]; rfl
    have HK : Hid (kindC ⟨L, R, A, ca, B, cb, l, t⟩ k = 0) := Lib.hid (by unfold kindC; rw [show List.contains (Sh.t ⟨L, R, A, ca, B, cb, l, t⟩) (k : Int) = false from hin, hfr]; rfl)
    clear htk hin hfr
    go_wp2
    go_ret
    exact Ret.mk' (congrArg (Value.int .i64) HK.out.symm) ⟨rfl, HB4.out⟩
  have hfr : freeP ⟨L, R, A, ca, B, cb, l, t⟩ k = true := by show (!takenB l t k) = true; rw [htk]; rfl
  obtain ⟨n1, n2, n3⟩ := HV.out.kind_nums hkl hfr
  obtain ⟨yy, hyy⟩ : ∃ yy, mostS (yesS ⟨L, R, A, ca, B, cb, l, t⟩ k) = yy := ⟨_, rfl⟩
  obtain ⟨zz, hzz⟩ : ∃ zz, mostS (noS ⟨L, R, A, ca, B, cb, l, t⟩ k) = zz := ⟨_, rfl⟩
  rw [HNN.out, hyy, hzz] at n2 n3
  rw [HNN.out, hyy] at n1
  have HYY := Lib.hid hyy
  have HZZ := Lib.hid hzz
  clear hyy hzz
  have HYS := Lib.hid (HV.out.yes hkl hfr)
  have HYN := Lib.hid (Sheet.no (s := ⟨L, R, A, ca, B, cb, l, t⟩) HV.out hkl (free_not_known hfr))
  have HFR := Lib.hid hfr
  have HN3 := Lib.hid n3
  have HTL := Lib.hid (yes_tlen ⟨L, R, A, ca, B, cb, l, t⟩ k)
  try dsimp only at HTL
  clear htk hin hfr n3
  have Hc := Lib.hid (knowingS ⟨L, R, A, ca, B, cb, l, t⟩ k w4 HA.out HV.out hkl HFR.out)
  try dsimp only at Hc
  go_wp2_with fail
  refine Hc.out.mono ?_
  rintro e w5 ⟨v, rfl, ⟨Gx, cx, rfl, hx⟩, hb⟩
  have HB5 := Lib.hid (below_trans' HB4.out hb)
  replace HA := Lib.hid (HA.out.below hb)
  replace y0 := cell_below hb y0
  replace y1 := cell_below hb y1
  replace y2 := cell_below hb y2
  replace y3 := cell_below hb y3
  clear hb Hc HB4 
  have HX := Lib.hid hx
  clear hx
  try dsimp only at HX
  try dsimp only
  have hc := size_any ⟨L, R, A, ca, Gx, cx, l, yesT t k⟩ w5 HX.out HYS.out
  try dsimp only at hc
  rw [HTL.out, show mostS ⟨L, R, A, ca, Gx, cx, l, yesT t k⟩ = yy from HYY.out] at hc
  have Hc := Lib.hid (hc)
  try dsimp only at Hc
  go_wp2_with fail
  refine Hc.out.mono ?_
  rintro e w6 ⟨v, rfl, rfl, hb⟩
  have HB6 := Lib.hid (below_trans' HB5.out hb)
  replace HA := Lib.hid (HA.out.below hb)
  replace HX := Lib.hid (HX.out.below hb)
  replace y0 := cell_below hb y0
  replace y1 := cell_below hb y1
  replace y2 := cell_below hb y2
  replace y3 := cell_below hb y3
  clear hb Hc HB5 hc HX HTL
  by_cases hy : 1 + yy = nn
  rotate_left 1
  ·
    have d1 : yy + (t.length + 1) < nn + t.length := by omega
    have HK : Hid (kindC ⟨L, R, A, ca, B, cb, l, t⟩ k = 0) := Lib.hid (by rw [HN3.out, if_neg (fun h => hy (n2 h)), if_neg hy])
    clear n2 hy
    go_wp2
    go_ret
    exact Ret.mk' (congrArg (Value.int .i64) HK.out.symm) ⟨rfl, HB6.out⟩
  have d1 : ¬ yy + (t.length + 1) < nn + t.length := by omega
  clear n2
  have Hc := Lib.hid (withoutS ⟨L, R, A, ca, B, cb, l, t⟩ k w6 HA.out HV.out)
  try dsimp only at Hc
  go_wp2_with fail
  refine Hc.out.mono ?_
  rintro e w7 ⟨v, rfl, ⟨Gy, cy, Gz, cz, rfl, hy2⟩, hb⟩
  have HB7 := Lib.hid (below_trans' HB6.out hb)
  replace HA := Lib.hid (HA.out.below hb)
  replace y0 := cell_below hb y0
  replace y1 := cell_below hb y1
  replace y2 := cell_below hb y2
  replace y3 := cell_below hb y3
  clear hb Hc HB6 
  have HY := Lib.hid hy2
  clear hy2
  try dsimp only at HY
  try dsimp only
  have hc := size_any ⟨L, R, Gy, cy, Gz, cz, l.eraseIdx k, noT t k⟩ w7 HY.out HYN.out
  try dsimp only at hc
  rw [noT_len, show mostS ⟨L, R, Gy, cy, Gz, cz, l.eraseIdx k, noT t k⟩ = zz from HZZ.out] at hc
  have Hc := Lib.hid (hc)
  try dsimp only at Hc
  go_wp2_with fail
  refine Hc.out.mono ?_
  rintro e w8 ⟨v, rfl, rfl, hb⟩
  have HB8 := Lib.hid (below_trans' HB7.out hb)
  replace HA := Lib.hid (HA.out.below hb)
  replace HY := Lib.hid (HY.out.below hb)
  replace y0 := cell_below hb y0
  replace y1 := cell_below hb y1
  replace y2 := cell_below hb y2
  replace y3 := cell_below hb y3
  clear hb Hc HB7 hc HY
  by_cases hz : zz < nn
  ·
    have d2 : zz + t.length < nn + t.length := by omega
    have HK : Hid (kindC ⟨L, R, A, ca, B, cb, l, t⟩ k = 2) := Lib.hid (by rw [HN3.out, if_pos hz])
    go_wp2
    go_ret
    exact Ret.mk' (congrArg (Value.int .i64) HK.out.symm) ⟨rfl, HB8.out⟩
  have d2 : ¬ zz + t.length < nn + t.length := by omega
  have HK : Hid (kindC ⟨L, R, A, ca, B, cb, l, t⟩ k = 1) := Lib.hid (by rw [HN3.out, if_neg hz, if_pos hy])
  go_wp2
  go_ret
  exact Ret.mk' (congrArg (Value.int .i64) HK.out.symm) ⟨rfl, HB8.out⟩

theorem kindsC_step (s : Sh) (k : Nat) : (List.range (k + 1)).map (kindC s) = (List.range k).map (kindC s) ++ [kindC s k] := by rw [List.range_succ, List.map_append]; rfl
set_option maxRecDepth 100000 in
set_option maxHeartbeats 2000000 in
theorem refKindsS (s : Sh) (w : World) (hs : ShAt w s) (hv : Sheet s.L s.R s.l s.t) :
    Calls Try.prog 26 #[s.v] w (Ret fun v w' => (∃ G c, v = .tuple #[.slice G (kindsC s).length c, .int .i64 0] ∧ IntsAt w' G (kindsC s) ∧ (kindsC s).length ≤ c) ∧ Below w.heap.size w w') := by
  obtain ⟨L, R, A, ca, B, cb, l, t⟩ := s
  have HA := Lib.hid hs
  have HV := Lib.hid hv
  have hmany := hv.many
  clear hs hv
  unfold Sh.v vSheet
  dsimp only at hmany ⊢
  obtain ⟨w1, hw1⟩ : ∃ w1, w1 = w.alloc (.cells #[.int .i64 L, .int .i64 R, .slice A l.length ca, .slice B t.length cb] 25) := ⟨_, rfl⟩
  have HB1 : Hid (Below w.heap.size w w1) := Lib.hid (by rw [hw1]; exact below_alloc' (Below.refl _ _) _)
  have hX : w1.heap[w.heap.size]? = some (.cells #[.int .i64 L, .int .i64 R, .slice A l.length ca, .slice B t.length cb] 25 (0, 0)) := by rw [hw1]; exact heap_alloc_new _ _
  have y0 : w1.cell? ⟨w.heap.size, 0, none⟩ = some (.int .i64 L) := (blk_cell hX).trans rfl
  have y1 : w1.cell? ⟨w.heap.size, 1, none⟩ = some (.int .i64 R) := (blk_cell hX).trans rfl
  have y2 : w1.cell? ⟨w.heap.size, 2, none⟩ = some (.slice A l.length ca) := (blk_cell hX).trans rfl
  have y3 : w1.cell? ⟨w.heap.size, 3, none⟩ = some (.slice B t.length cb) := (blk_cell hX).trans rfl
  replace HA := Lib.hid (HA.out.below HB1.out)
  go_enter Try.func26, Try.ntmps26
  go_upto_region 1 with fail
  rw [← hw1]
  clear hw1 hX
  have hc := refCheckSheetS ⟨L, R, A, ca, B, cb, l, t⟩ w1 HA.out
  dsimp only at hc
  rw [show sheetErr L R l t = 0 from sheetErr_iff.2 HV.out] at hc
  have Hc := Lib.hid (hc)
  try dsimp only at Hc
  go_wp2_with fail
  refine Hc.out.mono ?_
  rintro e w2 ⟨v, rfl, rfl, hb⟩
  have HB2 := Lib.hid (below_trans' HB1.out hb)
  replace HA := Lib.hid (HA.out.below hb)
  replace y0 := cell_below hb y0
  replace y1 := cell_below hb y1
  replace y2 := cell_below hb y2
  replace y3 := cell_below hb y3
  clear hb Hc HB1 hc
  go_upto_region 4 with fail
  go_wp2
  go_loopw [4, 5] (fun ov iv wr => ∃ k : Nat, k ≤ l.length ∧ iv = .int .i64 k ∧ wr.ownsRow w2.heap.size 3 1 ov ((List.range k).map (kindC ⟨L, R, A, ca, B, cb, l, t⟩)).length (((List.range k).map (kindC ⟨L, R, A, ca, B, cb, l, t⟩)).flatMap encI) ∧ Hid (Below w2.heap.size w2 wr)) (fun _ iv _ => l.length - (intOf iv).toNat)
  case atStart => exact ⟨0, by omega, rfl, World.ownsRow_nil _ _ _ _, Lib.hid (Below.refl _ _)⟩
  case round =>
    obtain ⟨k, hk, rfl, hown, HBr⟩ := hrel
    have z0 := cell_below HBr.out y0
    have z1 := cell_below HBr.out y1
    have z2 := cell_below HBr.out y2
    have z3 := cell_below HBr.out y3
    by_cases hkn : k < l.length
    · have HN := Lib.hid (kindsC_step ⟨L, R, A, ca, B, cb, l, t⟩ k)
      have hlen : ((List.range k).map (kindC ⟨L, R, A, ca, B, cb, l, t⟩)).length ≤ 40 := by rw [List.length_map, List.length_range]; omega
      have Hown := Lib.hid hown
      clear hown
      generalize (List.range k).map (kindC ⟨L, R, A, ca, B, cb, l, t⟩) = T at HN Hown hlen
      have Hc := Lib.hid (kindR ⟨L, R, A, ca, B, cb, l, t⟩ k wr (HA.out.below HBr.out) HV.out hkn)
      try dsimp only at Hc
      go_wp2_with fail
      refine Hc.out.mono ?_
      rintro e w5 ⟨v, rfl, rfl, hb⟩
      have HB5 := Lib.hid (below_trans' HBr.out hb)
      have Hown5 := Lib.hid (Hown.out.kept (grown_below hb) (Classical.em _))
      generalize kindC ⟨L, R, A, ca, B, cb, l, t⟩ k = kv at HN ⊢
      have hz5 := HB5.out.size
      clear hb Hc Hown HBr z0 z1 z2 z3
      go_wp2_with (at_builtin; refine wpList_push _ rfl (.tmp 18) (.tmp 22) 23 rfl elemI3 encI_len oneI Try.underlying23 w2.heap.size _ T rfl (Hown5.out.alloc _) (by omega) kv _ rfl _ (by rfl) _ _ (heap_alloc_new _ _) (by rw [World.size_alloc]; omega) ?_; intro g cap w6 hown6 hg6; have HB6 := Lib.hid ((below_alloc' HB5.out _).grown hg6 (by rw [World.size_alloc]; omega) (fun r e => own_base Hown5.out r e)); have Hown6 := Lib.hid hown6; clear hown6 hg6 Hown5 HB5)
      go_roundw
      case rel => exact ⟨k + 1, by omega, by go_num, by rw [HN.out, len_snoc]; exact Hown6.out, HB6⟩
      case measure => simp [intOf]; omega
    · have hke : k = l.length := by omega
      subst hke
      have HOW : Hid (wr.ownsRow w2.heap.size 3 1 _ (kindsC ⟨L, R, A, ca, B, cb, l, t⟩).length ((kindsC ⟨L, R, A, ca, B, cb, l, t⟩).flatMap encI)) := Lib.hid hown
      have hkl := kindsC_len ⟨L, R, A, ca, B, cb, l, t⟩
      have HKE : Hid ((List.range l.length).map (kindC ⟨L, R, A, ca, B, cb, l, t⟩) = kindsC ⟨L, R, A, ca, B, cb, l, t⟩) := Lib.hid rfl
      obtain ⟨G, c, rfl, hc⟩ := own_form HOW.out
      have HR : Hid (IntsAt wr G (kindsC ⟨L, R, A, ca, B, cb, l, t⟩)) := Lib.hid (RowsAt.of_own encI_len HOW.out)
      have HBE := Lib.hid (below_trans' HB2.out HBr.out)
      have HC := Lib.hid hc
      clear hown HOW hkl hc
      go_wp2
      go_ret2
      exact Ret.mk ⟨⟨G, c, rfl, HR.out, HC.out⟩, HBE.out⟩
set_option maxRecDepth 100000 in
set_option maxHeartbeats 2000000 in
theorem refKindsE (s : Sh) (w : World) (hs : ShAt w s) (hv : sheetErr s.L s.R s.l s.t ≠ 0) :
    Calls Try.prog 26 #[s.v] w (Ret fun v w' => v = .tuple #[.slice none 0 0, .int .i64 (sheetErr s.L s.R s.l s.t)] ∧ Below w.heap.size w w') := by
  obtain ⟨L, R, A, ca, B, cb, l, t⟩ := s
  have HA := Lib.hid hs
  clear hs
  have HV := Lib.hid hv
  unfold Sh.v vSheet
  dsimp only at hv ⊢
  have hd : (sheetErr L R l t != 0) = true := by simpa using hv
  clear hv
  obtain ⟨w1, hw1⟩ : ∃ w1, w1 = w.alloc (.cells #[.int .i64 L, .int .i64 R, .slice A l.length ca, .slice B t.length cb] 25) := ⟨_, rfl⟩
  have HB1 : Hid (Below w.heap.size w w1) := Lib.hid (by rw [hw1]; exact below_alloc' (Below.refl _ _) _)
  have hX : w1.heap[w.heap.size]? = some (.cells #[.int .i64 L, .int .i64 R, .slice A l.length ca, .slice B t.length cb] 25 (0, 0)) := by rw [hw1]; exact heap_alloc_new _ _
  have y0 : w1.cell? ⟨w.heap.size, 0, none⟩ = some (.int .i64 L) := (blk_cell hX).trans rfl
  have y1 : w1.cell? ⟨w.heap.size, 1, none⟩ = some (.int .i64 R) := (blk_cell hX).trans rfl
  have y2 : w1.cell? ⟨w.heap.size, 2, none⟩ = some (.slice A l.length ca) := (blk_cell hX).trans rfl
  have y3 : w1.cell? ⟨w.heap.size, 3, none⟩ = some (.slice B t.length cb) := (blk_cell hX).trans rfl
  replace HA := Lib.hid (HA.out.below HB1.out)
  go_enter Try.func26, Try.ntmps26
  go_upto_region 1 with fail
  rw [← hw1]
  clear hw1 hX
  have hc := refCheckSheetS ⟨L, R, A, ca, B, cb, l, t⟩ w1 HA.out
  dsimp only at hc
  have Hc := Lib.hid (hc)
  try dsimp only at Hc
  go_wp2_with fail
  refine Hc.out.mono ?_
  rintro e w2 ⟨v, rfl, rfl, hb⟩
  have HB2 := Lib.hid (below_trans' HB1.out hb)
  replace HA := Lib.hid (HA.out.below hb)
  replace y0 := cell_below hb y0
  replace y1 := cell_below hb y1
  replace y2 := cell_below hb y2
  replace y3 := cell_below hb y3
  clear hb Hc HB1 hc
  have hc := refCheckSheetS ⟨L, R, A, ca, B, cb, l, t⟩ w2 HA.out
  dsimp only at hc
  have Hc := Lib.hid (hc)
  try dsimp only at Hc
  go_wp2_with fail
  refine Hc.out.mono ?_
  rintro e w3 ⟨v, rfl, rfl, hb⟩
  have HB3 := Lib.hid (below_trans' HB2.out hb)
  replace HA := Lib.hid (HA.out.below hb)
  replace y0 := cell_below hb y0
  replace y1 := cell_below hb y1
  replace y2 := cell_below hb y2
  replace y3 := cell_below hb y3
  clear hb Hc HB2 hc
  go_wp2
  go_ret2
  exact Ret.mk ⟨rfl, HB3.out⟩

set_option maxRecDepth 100000 in
set_option maxHeartbeats 2000000 in
theorem leftS (s : Sh) (w : World) (hs : ShAt w s) (hv : Sheet s.L s.R s.l s.t) :
    Calls Try.prog 69 #[s.v] w (Ret fun v w' => v = .int .i64 (openC (kindsC s)) ∧ Below w.heap.size w w') := by
  obtain ⟨L, R, A, ca, B, cb, l, t⟩ := s
  have HA := Lib.hid hs
  have HV := Lib.hid hv
  have hmany := hv.many
  clear hs hv
  unfold Sh.v vSheet
  dsimp only at hmany ⊢
  obtain ⟨w1, hw1⟩ : ∃ w1, w1 = w.alloc (.cells #[.int .i64 L, .int .i64 R, .slice A l.length ca, .slice B t.length cb] 25) := ⟨_, rfl⟩
  have HB1 : Hid (Below w.heap.size w w1) := Lib.hid (by rw [hw1]; exact below_alloc' (Below.refl _ _) _)
  have hX : w1.heap[w.heap.size]? = some (.cells #[.int .i64 L, .int .i64 R, .slice A l.length ca, .slice B t.length cb] 25 (0, 0)) := by rw [hw1]; exact heap_alloc_new _ _
  have y0 : w1.cell? ⟨w.heap.size, 0, none⟩ = some (.int .i64 L) := (blk_cell hX).trans rfl
  have y1 : w1.cell? ⟨w.heap.size, 1, none⟩ = some (.int .i64 R) := (blk_cell hX).trans rfl
  have y2 : w1.cell? ⟨w.heap.size, 2, none⟩ = some (.slice A l.length ca) := (blk_cell hX).trans rfl
  have y3 : w1.cell? ⟨w.heap.size, 3, none⟩ = some (.slice B t.length cb) := (blk_cell hX).trans rfl
  replace HA := Lib.hid (HA.out.below HB1.out)
  go_enter Try.func69, Try.ntmps69
  go_upto_region 1 with fail
  rw [← hw1]
  clear hw1 hX
  have Hc := Lib.hid (refKindsS ⟨L, R, A, ca, B, cb, l, t⟩ w1 HA.out HV.out)
  try dsimp only at Hc
  go_wp2_with fail
  refine Hc.out.mono ?_
  rintro e w2 ⟨v, rfl, ⟨G, c, rfl, h1, h2⟩, hb⟩
  have HB2 := Lib.hid (below_trans' HB1.out hb)
  replace HA := Lib.hid (HA.out.below hb)
  replace y0 := cell_below hb y0
  replace y1 := cell_below hb y1
  replace y2 := cell_below hb y2
  replace y3 := cell_below hb y3
  clear hb Hc HB1 
  obtain ⟨ks, hks⟩ : ∃ ks, kindsC ⟨L, R, A, ca, B, cb, l, t⟩ = ks := ⟨_, rfl⟩
  have hkl := kindsC_len ⟨L, R, A, ca, B, cb, l, t⟩
  rw [hks] at h1 hkl
  rw [hks]
  try dsimp only at hkl
  have HK := Lib.hid hks
  have H1 := Lib.hid h1
  have hk40 : ks.length ≤ 40 := by omega
  clear h1 h2 hks hkl y0 y1 y2 y3
  go_upto_region 3 with fail
  go_wp2
  go_loopw [3, 6] (fun nv iv wr => ∃ k : Nat, k ≤ ks.length ∧ iv = .int .i64 k ∧ nv = .int .i64 (openC (ks.take k)) ∧ Hid (Below w2.heap.size w2 wr)) (fun _ iv _ => ks.length - (intOf iv).toNat)
  case atStart => exact ⟨0, by omega, rfl, rfl, Lib.hid (Below.refl _ _)⟩
  case round =>
    obtain ⟨k, hk, rfl, rfl, HBr⟩ := hrel
    by_cases hkn : k < ks.length
    · have ik0 : (0 : Int) ≤ (k : Int) := by omega
      have ik1 : (k : Int) < (ks.length : Int) := by omega
      obtain ⟨b1, o1, rfl, p1⟩ := (H1.out.below HBr.out).at_ hkn
      have HS := Lib.hid (openC_step hkn)
      have hle := openC_le (ks.take k)
      rw [List.length_take] at hle
      generalize openC (ks.take k) = n at HS hle ⊢
      generalize ks[k] = x at p1 HS
      by_cases hx : x = 1
      · have d1 : (x == 1) = true := by simpa using hx
        rw [if_pos hx] at HS
        go_wp2
        go_roundw
        case rel => exact ⟨k + 1, by omega, by go_num, by rw [HS.out]; go_num, HBr⟩
        case measure => simp [intOf]; omega
      · have d1 : (x == 1) = false := by simpa using hx
        rw [if_neg hx] at HS
        go_wp2
        go_roundw
        case rel => exact ⟨k + 1, by omega, by go_num, by rw [HS.out]; go_num, HBr⟩
        case measure => simp [intOf]; omega
    · have hke : k = ks.length := by omega
      subst hke
      rw [List.take_length]
      have HBE := Lib.hid (below_trans' HB2.out HBr.out)
      go_wp2
      go_ret
      exact Ret.mk' (congrArg (fun x : List Int => Value.int .i64 (openC x : Int)) HK.out.symm) ⟨rfl, HBE.out⟩
end Go.Proofs.Ytoogfdicmpkkgaa
