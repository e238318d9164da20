/- What the laws of the chapter rest on, part 26. -/
import Derived.Test.YtkpmmgeffbhngaaGreatDoorC07
import Derived.Test.YtkpmmgeffbhngaaGreatDoorC25
set_option linter.unusedSimpArgs false
set_option linter.unusedVariables false
set_option linter.unnecessarySimpa false
namespace Prot
end Prot
namespace Go.Shelf
end Go.Shelf
namespace Go.Maps
end Go.Maps
namespace Go.Proofs.YtkpmmgeffbhngaaGreatDoor
open Go.RowKit Prot Go.Lib Go.Maps
theorem isKind_at {w0 wd : List UInt8} {ms : List Nat} {i : Nat} (h : shapeL ((i : Int) + 1) = some (wd, ms)) : isKind w0 (i + 1) = decide (wd = w0) := by
  have e : ((i + 1 : Nat) : Int) = (i : Int) + 1 := by omega
  unfold isKind
  rw [e, h]
set_option maxRecDepth 100000 in
set_option maxHeartbeats 1000000 in
theorem Parse1_any (k0 : Int) (wd w0 : List UInt8) (mb n B b off m ca : Nat) (w : World) (hB : w.cell? ⟨B, 0, none⟩ = some (.slice (some ⟨b, off, none⟩) m ca)) (hm : 0 < m) (h0 : w.cell? ⟨b, off, none⟩ = some (.string (bs w0))) :
    Calls Tryz.prog 69 #[vKind k0 wd mb n, .pointer (some ⟨B, 0, none⟩)] w (Ret fun v w' => v = .bool (decide (wd = w0)) ∧ Below w.heap.size w w') := by
  unfold vKind
  have y1 := cell_alloc hB (.cells #[.int .i64 k0, .string (bs wd), .slice (some ⟨mb, 0, none⟩) n n] 93)
  have y2 := cell_alloc h0 (.cells #[.int .i64 k0, .string (bs wd), .slice (some ⟨mb, 0, none⟩) n n] 93)
  have hX := heap_alloc_new w (.cells #[.int .i64 k0, .string (bs wd), .slice (some ⟨mb, 0, none⟩) n n] 93)
  have n1 := (blk_cell (i := 1) hX).trans rfl
  have hB := below_alloc' (Below.refl w.heap.size w) (.cells #[.int .i64 k0, .string (bs wd), .slice (some ⟨mb, 0, none⟩) n n] 93)
  have HB := Lib.hid hB
  have hm1 : (0 : Int) < (m : Int) := by omega
  clear hX h0 hB
  by_cases e : wd = w0
  · subst e
    have HV : Hid (decide (wd = wd) = true) := Lib.hid (by simp)
    generalize bs wd = s at *
    go_enter Tryz.func69, Tryz.ntmps69
    go_upto_region 1 with fail
    generalize w.alloc (.cells #[.int .i64 k0, .string s, .slice (some ⟨mb, 0, none⟩) n n] 93) = w1 at *
    go_quiet (fail)
    go_wp2
    go_ret
    exact Ret.mk ⟨by first | rfl | (rw [HV.out]; rfl), below_drewN HB.out _⟩
  · have HV : Hid (decide (wd = w0) = false) := Lib.hid (by simp [e])
    have d3 := toList_ne (m := bs wd) (s := bs w0) (fun q => e (bs_inj.1 q))
    generalize bs wd = s at *
    generalize bs w0 = s0 at *
    go_enter Tryz.func69, Tryz.ntmps69
    go_upto_region 1 with fail
    generalize w.alloc (.cells #[.int .i64 k0, .string s, .slice (some ⟨mb, 0, none⟩) n n] 93) = w1 at *
    go_quiet (fail)
    go_wp2
    go_ret
    exact Ret.mk ⟨by first | rfl | (rw [HV.out]; rfl), below_drewN HB.out _⟩
theorem enters69 : ∀ args w, (callFunc 69 args).run Tryz.prog w = .ok (.enter 69 args) w := fun args w => by simp [go_sem]
/-- the numbers read so far -/
def arrP (ws : List (List UInt8)) (j i : Nat) : Int := if i < j then numP (ws.getD i []) else 0
theorem arrP_end {ws : List (List UInt8)} {n i : Nat} (h : ws.length = n) : arrP ws n i = (ws.map numP).getD i 0 := by
  unfold arrP
  by_cases hi : i < n
  · rw [if_pos hi, List.getD_eq_getElem?_getD, List.getD_eq_getElem?_getD, List.getElem?_map, List.getElem?_eq_getElem (by omega)]; rfl
  · rw [if_neg hi, List.getD_eq_getElem?_getD, List.getElem?_map, List.getElem?_eq_none (by omega)]; rfl
theorem arrP_set {ws : List (List UInt8)} {j : Nat} (h : j < 3) : (#[Value.int .i64 (arrP ws j 0), .int .i64 (arrP ws j 1), .int .i64 (arrP ws j 2)] : Array Value).setIfInBounds j (.int .i64 (numP (ws.getD j []))) =
    #[Value.int .i64 (arrP ws (j + 1) 0), .int .i64 (arrP ws (j + 1) 1), .int .i64 (arrP ws (j + 1) 2)] := by
  have : j = 0 ∨ j = 1 ∨ j = 2 := by omega
  rcases this with rfl | rfl | rfl <;> rfl
theorem split_lens (l : List UInt8) : (∀ x ∈ splitSp l, x.length ≤ l.length) ∧ (splitSp l).length ≤ l.length + 1 := by
  have hj := congrArg List.length (join_split l)
  constructor
  · intro x hx
    have key : ∀ (ws : List (List UInt8)) (x : List UInt8), x ∈ ws → x.length ≤ (joinSp ws).length := fun ws => by
      induction ws with
      | nil => intro x hx; cases hx
      | cons y ws ih =>
        intro x hx
        by_cases e : ws = []
        · subst e; rw [List.mem_singleton] at hx; subst hx; exact Nat.le_refl _
        · rw [joinSp_cons e, List.length_append, List.length_cons]
          rcases List.mem_cons.1 hx with rfl | hx
          · omega
          · have := ih x hx; omega
    have := key _ x hx
    omega
  · have key : ∀ ws : List (List UInt8), ws.length ≤ (joinSp ws).length + 1 := fun ws => by
      induction ws with
      | nil => exact Nat.zero_le _
      | cons y ws ih =>
        by_cases e : ws = []
        · subst e; show 1 ≤ _; omega
        · rw [joinSp_cons e, List.length_append, List.length_cons, List.length_cons]; omega
    have := key (splitSp l)
    omega
set_option maxRecDepth 100000 in
set_option maxHeartbeats 4000000 in
theorem Parse_any (s : ByteArray) (w : World) (hT : Tab w) (hs : s.size ≤ 90000) : Calls Tryz.prog 27 #[.string s] w (Ret fun v w' => v = parseT s.data.toList ∧ Below w.heap.size w w') := by
  have hsz : s.data.toList.length = s.size := (Lib.size_eq s).symm
  obtain ⟨l, hl⟩ : ∃ l, l = s.data.toList := ⟨_, rfl⟩
  have HT := Lib.hid hT
  obtain ⟨hlen, hcnt⟩ := split_lens l
  rw [hl, hsz, ← hl] at hcnt
  have hlen2 : ∀ x ∈ splitSp l, x.length ≤ 90000 := fun x hx => by have := hlen x hx; rw [hl, hsz] at this; omega
  have hw0 := heap_alloc_new w (.cells #[.int .i64 0, .int .i64 0, .int .i64 0, .int .i64 0] 36)
  have hw0 := blk_alloc hw0 (.cells #[.int .i64 0, .int .i64 0, .int .i64 0, .int .i64 0] 36)
  have hw1 : ((w.alloc (.cells #[.int .i64 0, .int .i64 0, .int .i64 0, .int .i64 0] 36)).alloc (.cells #[.int .i64 0, .int .i64 0, .int .i64 0, .int .i64 0] 36)).heap[w.heap.size + 1]? = _ := heap_alloc_at _ _ (by simp)
  have hB0 := below_alloc' (below_alloc' (Below.refl w.heap.size w) (.cells #[.int .i64 0, .int .i64 0, .int .i64 0, .int .i64 0] 36)) (.cells #[.int .i64 0, .int .i64 0, .int .i64 0, .int .i64 0] 36)
  have Hno : Hid (parseV l = noCard → parseT l = .tuple #[.agg #[.int .i64 0, .int .i64 0, .int .i64 0, .int .i64 0], .int .i64 8]) := Lib.hid fun h => parseT_of h
  have HC : Hid (∀ w, Tab w → Calls Tryz.prog 68 #[.string s] w (Ret (WordsQ (splitSp l) w))) := Lib.hid fun w hw => by rw [hl]; exact fields_any s w hw (by omega)
  rw [← hl]
  cases hsp : splitSp l with
  | nil => exact absurd hsp (splitSp_ne l)
  | cons w0 ws =>
    rw [hsp] at HC hlen2 hcnt
    have Hlen := Lib.hid hlen2
    have HSp := Lib.hid hsp
    have hcnt : ws.length ≤ 90000 := by simp at hcnt; omega
    clear hl hsz hs hlen hlen2 hsp hT
    go_enter Tryz.func27, Tryz.ntmps27
    go_wp2_with fail
    refine (HC.out _ (HT.out.below hB0)).mono ?_
    rintro _ w2 ⟨v, rfl, A, ca, rfl, hca, hS2, hB2⟩
    have H2 := Lib.hid (blk_below hB2 hw0)
    have H2' := Lib.hid (blk_below hB2 hw1)
    have HB2 := Lib.hid (below_trans' hB0 hB2)
    have HS2 := Lib.hid hS2
    rw [List.length_cons] at hca ⊢
    clear hB2 hB0 hw0 hw1 hS2 HC
    obtain ⟨b, off, rfl, g0⟩ := HS2.out.at_ (i := 0) (by simp)
    have g0 : w2.cell? ⟨b, off, none⟩ = some (.string (bs w0)) := g0
    have G0 := Lib.hid (cell_alloc g0 (.cells #[.slice (some ⟨b, off, none⟩) (ws.length + 1) ca] 55))
    clear g0
    go_wp2_with fail
    have H3 := Lib.hid (blk_alloc H2.out (.cells #[.slice (some ⟨b, off, none⟩) (ws.length + 1) ca] 55))
    have H3' := Lib.hid (blk_alloc H2'.out (.cells #[.slice (some ⟨b, off, none⟩) (ws.length + 1) ca] 55))
    have HF3 := Lib.hid (heap_alloc_new w2 (.cells #[.slice (some ⟨b, off, none⟩) (ws.length + 1) ca] 55))
    have HB3 := Lib.hid (below_alloc' HB2.out (.cells #[.slice (some ⟨b, off, none⟩) (ws.length + 1) ca] 55))
    have HS3 := Lib.hid (HS2.out.alloc (.cells #[.slice (some ⟨b, off, none⟩) (ws.length + 1) ca] 55))
    have hbF : w.heap.size + 1 < w2.heap.size := blk_lt H2'.out
    clear H2 H2' HB2 HS2
    generalize w2.alloc (.cells #[.slice (some ⟨b, off, none⟩) (ws.length + 1) ca] 55) = w3 at *
    generalize w2.heap.size = F at *
    refine (kinds_any w3).mono ?_
    rintro _ w4 ⟨v, rfl, ⟨g, rfl, hg, hK⟩, hB4⟩
    have HK4 := Lib.hid hK
    have H4 := Lib.hid (blk_below hB4 H3.out)
    have H4' := Lib.hid (blk_below hB4 H3'.out)
    have HF4 := Lib.hid (blk_below hB4 HF3.out)
    have HB4 := Lib.hid (below_trans' HB3.out hB4)
    have HS4 := Lib.hid (HS3.out.below hB4)
    have G4 := Lib.hid (cell_below hB4 G0.out)
    clear hK hB4 H3 H3' HF3 HB3 HS3 G0
    have HA : Hid (AsksK 69 #[.pointer (some ⟨F, 0, none⟩)] (fun i => isKind w0 (i + 1)) w4) := Lib.hid fun W i wd ms mb hW hi hs => by
      show Calls Tryz.prog 69 _ W (Ret fun v w' => v = .bool (isKind w0 (i + 1)) ∧ Below W.heap.size W w')
      rw [isKind_at hs]
      exact Parse1_any _ wd w0 mb ms.length F b off (ws.length + 1) ca W (cell_below hW ((blk_cell HF4.out).trans rfl)) (by omega) (cell_below hW G4.out)
    go_wp2_with fail
    refine (first_any g 69 _ enters69 _ w4 HK4.out HA.out).mono ?_
    rintro _ w5 ⟨v, rfl, hq, hB5⟩
    have HK5 := Lib.hid (HK4.out.below hB5)
    have H5 := Lib.hid (blk_below hB5 H4.out)
    have H5' := Lib.hid (blk_below hB5 H4'.out)
    have HF5 := Lib.hid (blk_below hB5 HF4.out)
    have HB5 := Lib.hid (below_trans' HB4.out hB5)
    have HS5 := Lib.hid (HS4.out.below hB5)
    clear hB5 H4 H4' HF4 HB4 HS4 G4 HA HK4
    have f0 : w5.cell? ⟨F, 0, none⟩ = some (.slice (some ⟨b, off, none⟩) (ws.length + 1) ca) := (blk_cell HF5.out).trans rfl
    obtain ⟨z0, z1, z2, z3, -, -, -, -⟩ := four_cells H5'.out
    obtain ⟨x0, x1, x2, x3, y0, y1, y2, y3⟩ := four_cells H5.out
    rcases hq with ⟨i, hi, rfl, hik, -⟩ | ⟨rfl, hno⟩
    · obtain ⟨wd, ms, mb, hkd⟩ := HK5.out i hi
      have hik : isKind w0 (i + 1) = true := hik
      rw [isKind_at hkd.shape] at hik
      obtain rfl : wd = w0 := by simpa using hik
      have e1 : ((i + 1 : Nat) : Int) = (i : Int) + 1 := by omega
      have hs := hkd.shape
      rw [← e1] at hs
      have HP := Lib.hid (parse_hit (num := numP) HSp.out hs)
      have Hsh := Lib.hid hs
      have hm1 := (shape_sp hs).2.2.1
      have hm3 := (shape_sp hs).2.2.2.1
      have HK0 := Lib.hid hkd.c0
      have p2 := hkd.c2
      have i0 : (0 : Int) ≤ (i : Int) := by omega
      have i7 : (i : Int) < 7 := by omega
      have t0 : decide ((i : Int) < 0) = false := decide_eq_false (by omega)
      obtain ⟨n, hn⟩ : ∃ n, n = ms.length := ⟨_, rfl⟩
      rw [← hn] at p2 hm1 hm3
      have Hn := Lib.hid hn
      have e2 : IntKind.i64.wrap ((n : Int) + 1) = (n : Int) + 1 := IntWalk.i64_in _ (by omega)
      clear hs hkd hik e1 hn
      by_cases hlen : ws.length = n
      · have c1 : (((ws.length + 1 : Nat) : Int) != (n : Int) + 1) = false := by simp; omega
        have c2 : ((ws.length : Int) + 1 != (n : Int) + 1) = false := by simp; omega
        subst hlen
        have hP2 : parseV l = if (lineV (cardOf (i + 1 : Nat) (ws.map numP))).2 = 0 then (cardOf (i + 1 : Nat) (ws.map numP), 0) else noCard := by
          show parseW numP l = _
          rw [HP.out, if_neg (by rw [← Hn.out]; simp)]
        have HP2 := Lib.hid hP2
        clear HP hP2
        go_upto_region 5 with fail
        go_quiet (fail)
        have H6 : Hid ((w5.drewN nq).heap[w.heap.size]? = some (.cells #[.int .i64 0, .int .i64 0, .int .i64 0, .int .i64 0] 36 (0, 0))) := H5
        have H6' : Hid ((w5.drewN nq).heap[w.heap.size + 1]? = some (.cells #[.int .i64 0, .int .i64 0, .int .i64 0, .int .i64 0] 36 (0, 0))) := H5'
        have HB6 : Hid (Below w.heap.size w (w5.drewN nq)) := Lib.hid (below_drewN HB5.out _)
        have HS6 : Hid (StrsAt (w5.drewN nq) (some ⟨b, off, none⟩) (wd :: ws)) := HS5
        have HK6 : Hid ((w5.drewN nq).cell? ⟨g, i * 3, none⟩ = some (.int .i64 ((i : Int) + 1))) := HK0
        have f6 : (w5.drewN nq).cell? ⟨F, 0, none⟩ = some (.slice (some ⟨b, off, none⟩) (ws.length + 1) ca) := f0
        clear H5 H5' HB5 HS5 HK5 HK0 f0 HF5 z0 z1 z2 z3 x0 x1 x2 x3 y0 y1 y2 y3 p2
        generalize w5.drewN nq = w6 at *
        have f7 := cell_alloc f6 (.cells #[.int .i64 0, .int .i64 0, .int .i64 0] 96)
        have s1 : (1 : Int) ≤ ((ws.length + 1 : Nat) : Int) := by omega
        have s2 : ¬ ca = 1 := by omega
        clear f6
        go_wp2
        clear f7
        go_loopw [38] (fun i' wr => ∃ j : Nat, j ≤ ws.length ∧ i' = .int .i64 j ∧ Hid (wr.heap[w6.heap.size]? = some (.cells #[.int .i64 (arrP ws j 0), .int .i64 (arrP ws j 1), .int .i64 (arrP ws j 2)] 96 (0, 0))) ∧ Hid (Below w6.heap.size w6 wr)) (fun i' _ => ws.length - (intOf i').toNat)
        case atStart => exact ⟨0, by omega, rfl, Lib.hid (heap_alloc_new _ _), Lib.hid (below_alloc' (Below.refl _ _) _)⟩
        case round =>
          obtain ⟨j, hj, rfl, HAr, HB⟩ := hrel
          by_cases hjn : j < ws.length
          · obtain ⟨b', off', hA', g1⟩ := (HS6.out.below HB.out).at_ (i := j + 1) (by simpa using hjn)
            injection hA' with hA'
            injection hA' with hb ho
            subst hb; subst ho
            rw [List.getElem_cons_succ, show off + (j + 1) = off + 1 + j by omega] at g1
            have hgd : ws.getD j [] = ws[j] := by rw [List.getD_eq_getElem?_getD, List.getElem?_eq_getElem hjn]; rfl
            have t1 : decide ((j : Int) < (ws.length : Int)) = true := by simp; omega
            have hl9 := Hlen.out ws[j] (by simp)
            have HC : Hid (Calls Tryz.prog 53 #[.string (bs ws[j])] wr (Ret fun v w' => v = .int .i64 (numP ws[j]) ∧ Below wr.heap.size wr w')) := Lib.hid (number_any (bs ws[j]) wr (HT.out.below (below_trans' HB6.out HB.out)) (by rw [bs_size]; omega))
            have HAS := Lib.hid (arrP_set (ws := ws) (j := j) (by omega))
            rw [hgd] at HAS
            have i3 : (j : Int) < 3 := by omega
            have k0 : (0 : Int) ≤ (j : Int) := by omega
            clear hgd hl9
            generalize ws[j] = x at *
            generalize numP x = v at *
            go_wp2_with fail
            refine HC.out.mono ?_
            rintro _ w7 ⟨v7, rfl, rfl, hB7⟩
            have HA7 := Lib.hid (blk_below hB7 HAr.out)
            have HB7 := Lib.hid (below_trans' HB.out hB7)
            have c9 : w7.cell? ⟨w6.heap.size, j, none⟩ = some (.int .i64 (arrP ws j j)) := (blk_cell HA7.out).trans (by
              have : j = 0 ∨ j = 1 ∨ j = 2 := by omega
              rcases this with rfl | rfl | rfl <;> rfl)
            have f9 : w7.frozen? ⟨w6.heap.size, j, none⟩ = false := blk_frozen HA7.out
            have HAn := Lib.hid (blk_set HA7.out (i := j) (.int .i64 v))
            rw [HAS.out] at HAn
            clear hB7 HAr HB HAS HC
            go_wp2
            go_roundw
            case rel => exact ⟨j + 1, by omega, by go_num, HAn, Lib.hid (HB7.out.setCell (p := ⟨w6.heap.size, j, none⟩) (Nat.le_refl _) (.int .i64 v))⟩
            case measure => simp [intOf]; omega
          · obtain rfl : j = ws.length := by omega
            rw [arrP_end rfl, arrP_end rfl, arrP_end rfl] at HAr
            have HCard : Hid (cardOf ((i + 1 : Nat) : Int) (ws.map numP) = ((i : Int) + 1, (ws.map numP).getD 0 0, (ws.map numP).getD 1 0, (ws.map numP).getD 2 0)) := Lib.hid (by rw [show ((i + 1 : Nat) : Int) = (i : Int) + 1 by omega]; rfl)
            rw [HCard.out] at HP2
            generalize (ws.map numP).getD 0 0 = x at *
            generalize (ws.map numP).getD 1 0 = y at *
            generalize (ws.map numP).getD 2 0 = z at *
            have v0 : wr.cell? ⟨w6.heap.size, 0, none⟩ = some (.int .i64 x) := (blk_cell HAr.out).trans rfl
            have v1 : wr.cell? ⟨w6.heap.size, 1, none⟩ = some (.int .i64 y) := (blk_cell HAr.out).trans rfl
            have v2 : wr.cell? ⟨w6.heap.size, 2, none⟩ = some (.int .i64 z) := (blk_cell HAr.out).trans rfl
            have v3 : wr.cell? ⟨g, i * 3, none⟩ = some (.int .i64 ((i : Int) + 1)) := cell_below HB.out HK6.out
            have HW := Lib.hid (blk_below HB.out H6.out)
            have HW' := Lib.hid (blk_below HB.out H6'.out)
            have HBw := Lib.hid (below_trans' HB6.out HB.out)
            clear HAr HB H6 H6' HB6 HS6 HK6
            go_upto_region 13 with fail
            go_region_held3 (fun W => W.cell? ⟨w6.heap.size, 0, none⟩ = some (.int .i64 x) ∧ W.cell? ⟨w6.heap.size, 1, none⟩ = some (.int .i64 y) ∧ W.cell? ⟨w6.heap.size, 2, none⟩ = some (.int .i64 z) ∧ W.cell? ⟨g, i * 3, none⟩ = some (.int .i64 ((i : Int) + 1))) (first | exact ⟨v0, v1, v2, v3⟩ | exact ⟨cell_alloc v0 _, cell_alloc v1 _, cell_alloc v2 _, cell_alloc v3 _⟩) (fail)
            have h8 : ((wr.alloc (.cells #[.int .i64 ((i : Int) + 1), .int .i64 x, .int .i64 y, .int .i64 z] 36)).drew).heap[wr.heap.size]? = some (.cells #[.int .i64 ((i : Int) + 1), .int .i64 x, .int .i64 y, .int .i64 z] 36 (0, 0)) := heap_alloc_new wr _
            have hW8 : ((wr.alloc (.cells #[.int .i64 ((i : Int) + 1), .int .i64 x, .int .i64 y, .int .i64 z] 36)).drew).heap[w.heap.size]? = some (.cells #[.int .i64 0, .int .i64 0, .int .i64 0, .int .i64 0] 36 (0, 0)) := blk_alloc HW.out _
            have hW8' : ((wr.alloc (.cells #[.int .i64 ((i : Int) + 1), .int .i64 x, .int .i64 y, .int .i64 z] 36)).drew).heap[w.heap.size + 1]? = some (.cells #[.int .i64 0, .int .i64 0, .int .i64 0, .int .i64 0] 36 (0, 0)) := blk_alloc HW'.out _
            have HB8 : Hid (Below w.heap.size w ((wr.alloc (.cells #[.int .i64 ((i : Int) + 1), .int .i64 x, .int .i64 y, .int .i64 z] 36)).drew)) := Lib.hid (below_alloc' HBw.out _).drew
            have H8 := Lib.hid h8
            have HW8 := Lib.hid hW8
            have HW8' := Lib.hid hW8'
            clear h8 hW8 hW8' HW HW' HBw v0 v1 v2 v3
            generalize (wr.alloc (.cells #[.int .i64 ((i : Int) + 1), .int .i64 x, .int .i64 y, .int .i64 z] 36)).drew = w8 at *
            generalize wr.heap.size = G at *
            obtain ⟨p0, p1, p2, p3, -, -, -, -⟩ := four_cells H8.out
            have HC : Hid (Calls Tryz.prog 25 #[.agg #[.int .i64 ((i : Int) + 1), .int .i64 x, .int .i64 y, .int .i64 z]] w8 (Ret fun v w' => v = lineT ((i : Int) + 1, x, y, z) ∧ Below w8.heap.size w8 w')) := Lib.hid (Line_any ((i : Int) + 1, x, y, z) w8 (HT.out.below HB8.out))
            go_wp2_with fail
            refine HC.out.mono ?_
            rintro _ w9 ⟨v9, rfl, rfl, hB9⟩
            have HW9 := Lib.hid (blk_below hB9 HW8.out)
            have HW9' := Lib.hid (blk_below hB9 HW8'.out)
            have H9 := Lib.hid (blk_below hB9 H8.out)
            have HB9 := Lib.hid (below_trans' HB8.out hB9)
            clear hB9 p0 p1 p2 p3 HW8 HW8' H8 HB8 HC
            obtain ⟨p0, p1, p2, p3, -, -, -, -⟩ := four_cells H9.out
            obtain ⟨z0, z1, z2, z3, -, -, -, -⟩ := four_cells HW9'.out
            obtain ⟨x0, x1, x2, x3, y0, y1, y2, y3⟩ := four_cells HW9.out
            unfold lineT
            dsimp only
            generalize bs (lineV ((i : Int) + 1, x, y, z)).1 = L
            by_cases he : (lineV ((i : Int) + 1, x, y, z)).2 = 0
            · have HV := Lib.hid (parseT_of (l := l) (by rw [HP2.out, if_pos he]))
              rw [he]
              clear HP2 he
              go_wp2
              (try simp only [Exit.inBlock, Exit.then])
              refine bodyPost_ret (results_row_tmp rfl _ _ w.heap.size _ _ _ _ rfl (four_put HW9.out _ _ _ _) Tryz.underlying36 rfl rfl) rfl ?_
              exact Ret.mk' HV.out.symm ⟨rfl, four_below HB9.out (Nat.le_refl _) _ _ _ _⟩
            · have HV := Lib.hid (Hno.out (by rw [HP2.out, if_neg he]))
              generalize (lineV ((i : Int) + 1, x, y, z)).2 = e at *
              have q1 : (e != 0) = true := by simpa using he
              clear HP2 he
              go_wp2
              (try simp only [Exit.inBlock, Exit.then])
              refine bodyPost_ret (results_row_tmp rfl _ _ w.heap.size _ _ _ _ rfl (four_put HW9.out _ _ _ _) Tryz.underlying36 rfl rfl) rfl ?_
              exact Ret.mk' HV.out.symm ⟨rfl, four_below HB9.out (Nat.le_refl _) _ _ _ _⟩
      · have c1 : (((ws.length + 1 : Nat) : Int) != (n : Int) + 1) = true := by simp; omega
        have c2 : ((ws.length : Int) != (n : Int)) = true := by simp; omega
        have HV := Lib.hid (Hno.out (by show parseW numP l = _; rw [HP.out, if_pos (by rw [← Hn.out]; exact hlen)]))
        clear HP hlen
        go_upto_region 5 with fail
        go_quiet (fail)
        go_wp2
        (try simp only [Exit.inBlock, Exit.then])
        refine bodyPost_ret (results_row_tmp rfl _ _ w.heap.size _ _ _ _ rfl (four_put H5.out _ _ _ _) Tryz.underlying36 rfl rfl) rfl ?_
        exact Ret.mk' HV.out.symm ⟨rfl, four_below (below_drewN HB5.out _) (Nat.le_refl _) _ _ _ _⟩
    · have HV := Lib.hid (Hno.out (parse_none HSp.out fun k h1 h7 ms hk => by
        exfalso
        have h : isKind w0 (k - 1 + 1) = false := hno (k - 1) (by omega)
        have e1 : ((k - 1 : Nat) : Int) + 1 = (k : Int) := by omega
        rw [isKind_at (by rw [e1]; exact hk)] at h
        simp at h))
      clear hno
      go_upto_region 5 with fail
      go_quiet (fail)
      go_wp2
      (try simp only [Exit.inBlock, Exit.then])
      refine bodyPost_ret (results_row_tmp rfl _ _ w.heap.size _ _ _ _ rfl (four_put H5.out _ _ _ _) Tryz.underlying36 rfl rfl) rfl ?_
      exact Ret.mk' HV.out.symm ⟨rfl, four_below (below_drewN HB5.out _) (Nat.le_refl _) _ _ _ _⟩
end Go.Proofs.YtkpmmgeffbhngaaGreatDoor
