/- What the laws of the chapter rest on, part 25. -/
import Derived.Test.YtkpmmgeffbhngaaGreatDoorC19
set_option linter.unusedSimpArgs false
set_option linter.unusedVariables false
set_option linter.unnecessarySimpa false
namespace Prot
end Prot
namespace Go.Shelf
end Go.Shelf
namespace Go.Maps
end Go.Maps
namespace Go.Proofs.YtkpmmgeffbhngaaGreatDoor
open Go.RowKit Prot Go.Lib Go.Maps
theorem joinSp_any (A : Option Addr) (c : Nat) (ws : List (List UInt8)) (w : World) (hl : StrsAt w A ws) (hne : ws ≠ []) (hc : ws.length ≤ c) (hn : ws.length ≤ 1000) (hlen : (joinSp ws).length ≤ 1000000) :
    Calls Tryz.prog 66 #[.slice A ws.length c, .string ⟨#[32]⟩] w (Ret fun v w' => v = .string (bs (joinSp ws)) ∧ Below w.heap.size w w') := by
  obtain ⟨b, o, rfl, h0⟩ := hl.at_ (i := 0) (by cases ws with | nil => exact absurd rfl hne | cons x l => simp)
  have e1 : (ws.map bs).map (·.data.toList) = ws := by
    rw [List.map_map]
    exact (List.map_congr_left fun x _ => bs_list x).trans (List.map_id _)
  have hC := Tryz.strings_Join b o c (ws.map bs) ⟨#[32]⟩ w (fun j x hj => by
    rw [List.getElem?_map] at hj
    cases e : ws[j]? with
    | none => rw [e] at hj; cases hj
    | some y =>
      rw [e] at hj
      injection hj with hj
      obtain ⟨h1, h2⟩ := List.getElem?_eq_some_iff.1 e
      obtain ⟨b', o', e3, h3⟩ := hl.at_ h1
      injection e3 with e3; injection e3 with e4 e5
      subst e4; subst e5
      rw [h3, h2, hj]) (block_lt_of_cell h0) (by rw [List.length_map]; omega) (by rw [List.length_map]; exact hc) (by rw [e1, show (⟨#[32]⟩ : ByteArray).data.toList = [32] from rfl, join_sp]; omega)
  rw [e1, show (⟨#[32]⟩ : ByteArray).data.toList = [32] from rfl, join_sp, List.length_map] at hC
  refine hC.mono ?_
  rintro _ w2 ⟨rfl, hB⟩
  exact Ret.mk ⟨rfl, hB⟩
set_option maxRecDepth 100000 in
theorem Line1_any (k0 : Int) (wd : List UInt8) (mb n N : Nat) (k : Int) (w : World) (hk : w.cell? ⟨N, 0, none⟩ = some (.int .i64 k)) :
    Calls Tryz.prog 65 #[vKind k0 wd mb n, .pointer (some ⟨N, 0, none⟩)] w (Ret fun v w' => v = .bool (k0 == k) ∧ Below w.heap.size w w') := by
  unfold vKind
  have hk2 := cell_alloc hk (.cells #[.int .i64 k0, .string (bs wd), .slice (some ⟨mb, 0, none⟩) n n] 93)
  have hX := heap_alloc_new w (.cells #[.int .i64 k0, .string (bs wd), .slice (some ⟨mb, 0, none⟩) n n] 93)
  have n0 := (blk_cell (i := 0) hX).trans rfl
  have hB := below_alloc' (Below.refl w.heap.size w) (.cells #[.int .i64 k0, .string (bs wd), .slice (some ⟨mb, 0, none⟩) n n] 93)
  clear hX hk
  go_enter Tryz.func65, Tryz.ntmps65
  go_wp2
  go_ret
  exact Ret.mk ⟨rfl, hB⟩
theorem enters65 : ∀ args w, (callFunc 65 args).run Tryz.prog w = .ok (.enter 65 args) w := fun args w => by simp [go_sem]
theorem shape_seven {k : Int} (h : ∀ j : Nat, j < 7 → (((j : Int) + 1) == k) = false) : shapeL k = none := by
  have h0 := h 0 (by omega)
  have h1 := h 1 (by omega)
  have h2 := h 2 (by omega)
  have h3 := h 3 (by omega)
  have h4 := h 4 (by omega)
  have h5 := h 5 (by omega)
  have h6 := h 6 (by omega)
  rw [beq_eq_false_iff_ne] at h0 h1 h2 h3 h4 h5 h6
  unfold shapeL
  rw [if_neg (by omega), if_neg (by omega), if_neg (by omega), if_neg (by omega), if_neg (by omega), if_neg (by omega), if_neg (by omega)]
theorem wordsOf_step {wd : List UInt8} {xs : List Int} {n k : Nat} (h : k < n) (hk : k < xs.length) : wordsOf wd xs (min (k + 1) n) = wordsOf wd xs (min k n) ++ [decDigits (xAt xs k).toNat] := by
  unfold xAt
  rw [show min (k + 1) n = k + 1 by omega, show min k n = k by omega]
  unfold wordsOf
  rw [List.take_succ_eq_append_getElem hk, List.map_append, ← List.cons_append, List.map_cons, List.map_nil, List.getD_eq_getElem?_getD, List.getElem?_eq_getElem hk]; rfl
theorem wordsOf_len (wd : List UInt8) (xs : List Int) (k : Nat) (h : k ≤ xs.length) : (wordsOf wd xs k).length = k + 1 := by unfold wordsOf; simp; omega
set_option maxRecDepth 100000 in
set_option maxHeartbeats 4000000 in
theorem Line_any (c : Card) (w : World) (hT : Tab w) : Calls Tryz.prog 25 #[vCard c] w (Ret fun v w' => v = lineT c ∧ Below w.heap.size w w') := by
  obtain ⟨k, x, y, z⟩ := c
  have HT := Lib.hid hT; clear hT
  have hB0 := below_alloc' (Below.refl w.heap.size w) (.cells #[.int .i64 k, .int .i64 x, .int .i64 y, .int .i64 z] 36)
  have hw0 := heap_alloc_new w (.cells #[.int .i64 k, .int .i64 x, .int .i64 y, .int .i64 z] 36)
  have HB0 := Lib.hid hB0
  have HW0 := Lib.hid hw0
  clear hB0 hw0
  unfold vCard
  dsimp only
  go_enter Tryz.func25, Tryz.ntmps25
  go_wp2_with fail
  generalize w.alloc (.cells #[.int .i64 k, .int .i64 x, .int .i64 y, .int .i64 z] 36) = w0 at *
  refine (kinds_any w0).mono ?_
  rintro _ w1 ⟨v, rfl, ⟨g, rfl, hg, hK⟩, hB1⟩
  have HK1 := Lib.hid hK
  have HB1 := Lib.hid (below_trans' HB0.out hB1)
  have HW1 := Lib.hid (blk_below hB1 HW0.out)
  clear hK hB1
  have HA : Hid (AsksK 65 #[.pointer (some ⟨w.heap.size, 0, none⟩)] (fun i => ((i : Int) + 1) == k) w1) := Lib.hid fun W i wd ms mb hW hi hs =>
    Line1_any _ wd mb ms.length w.heap.size k W (cell_below hW ((blk_cell HW1.out).trans rfl))
  go_wp2_with fail
  refine (first_any g 65 _ enters65 _ w1 HK1.out HA.out).mono ?_
  rintro _ w2 ⟨v, rfl, hq, hB2⟩
  have HB2 := Lib.hid (below_trans' HB1.out hB2)
  have HW2 := Lib.hid (blk_below hB2 HW1.out)
  have HK2 := Lib.hid (HK1.out.below hB2)
  clear HA hB2
  rcases hq with ⟨i, hi, rfl, hik, -⟩ | ⟨rfl, hno⟩
  · obtain ⟨wd, ms, mb, hkd⟩ := HK2.out i hi
    have hik : (i : Int) + 1 = k := by simpa using hik
    have hs := hkd.shape
    rw [hik] at hs
    have HKd := Lib.hid hkd
    obtain ⟨_, hne, hm1, hm3, hmm, hw6⟩ := shape_sp hs
    have hmd : ∀ i, mAt ms i ≤ 1099511627776 := fun i => by
      unfold mAt
      rw [List.getD_eq_getElem?_getD]
      cases e : ms[i]? with
      | none => simp
      | some m =>
        have := hmm m (List.mem_of_getElem? e)
        have e2 : maxN = 1099511627776 := rfl
        simp; omega
    have HMd := Lib.hid hmd
    have HV1 : Hid (∀ i, i < 3 → ¬ okAt [x, y, z] ms i → lineT (k, x, y, z) = .tuple #[.string (bs []), .int .i64 3]) := Lib.hid fun i hi hn => lineT_of (by
      unfold lineV; dsimp only; rw [hs]; dsimp only; rw [show numsOf (k, x, y, z) = [x, y, z] from rfl]
      rw [if_neg (fun h => hn ((numsOk_iff [x, y, z] ms).1 h i hi))])
    have hv2 : (∀ i, i < 3 → okAt [x, y, z] ms i) → lineV (k, x, y, z) = (joinSp (wordsOf wd [x, y, z] ms.length), 0) := fun h => by
      unfold lineV; dsimp only; rw [hs]; dsimp only; rw [show numsOf (k, x, y, z) = [x, y, z] from rfl]
      rw [if_pos ((numsOk_iff [x, y, z] ms).2 h)]
    have HV2 := Lib.hid hv2
    have HMs : Hid (∀ W, Below w2.heap.size w2 W → ∀ j, j < ms.length → W.cell? ⟨mb, j, none⟩ = some (.int .i64 (mAt ms j))) := Lib.hid fun W hW j hj => cell_below hW (hkd.ms j hj)
    have p1 := hkd.c1
    have p2 := hkd.c2
    obtain ⟨n, hn⟩ : ∃ n, n = ms.length := ⟨_, rfl⟩
    rw [← hn] at HV2 hm1 hm3 HMs p2
    have HLn := Lib.hid hn
    have q1 : ∀ o, (w2.alloc o).cell? ⟨w.heap.size, 1, none⟩ = some (.int .i64 x) := fun o => (blk_cell (blk_alloc HW2.out o)).trans rfl
    have q2 : ∀ o, (w2.alloc o).cell? ⟨w.heap.size, 2, none⟩ = some (.int .i64 y) := fun o => (blk_cell (blk_alloc HW2.out o)).trans rfl
    have q3 : ∀ o, (w2.alloc o).cell? ⟨w.heap.size, 3, none⟩ = some (.int .i64 z) := fun o => (blk_cell (blk_alloc HW2.out o)).trans rfl
    have i0 : (0 : Int) ≤ (i : Int) := by omega
    have i7 : (i : Int) < 7 := by omega
    have t0 : decide ((i : Int) < 0) = false := decide_eq_false (by omega)
    clear hs hmm hmd hne hw6 hv2 hn hkd hik
    go_wp2
    clear q1 q2 q3
    go_loopw [6, 29] (fun u i' wr => ∃ j : Nat, j ≤ 3 ∧ i' = .int .i64 j ∧ Hid (∀ q, q < j → okAt [x, y, z] ms q) ∧
      Hid (wr.ownsRow w2.heap.size 9 1 u (wordsOf wd [x, y, z] (min j n)).length ((wordsOf wd [x, y, z] (min j n)).flatMap encS)) ∧
      Hid (wr.heap[w2.heap.size + 1]? = some (.cells #[.int .i64 x, .int .i64 y, .int .i64 z] 2 (0, 0))) ∧ Hid (Below w2.heap.size w2 wr)) (fun _ i' _ => 3 - (intOf i').toNat)
    case atStart => exact ⟨0, by omega, rfl, Lib.hid fun q hq => by omega, Lib.hid ((World.ownsRow_lit w2 #[.string (bs wd)] 1 (Nat.le_refl _) (by simp [maxLen]) rfl).alloc _), Lib.hid (heap_alloc_at _ _ (by simp)), Lib.hid (below_alloc' (below_alloc' (Below.refl _ _) _) _)⟩
    case round =>
      obtain ⟨j, hj, rfl, HP, HO, H8, HB⟩ := hrel
      have HBt := Lib.hid (below_trans' HB2.out HB.out)
      by_cases hj3 : j < 3
      · have c8 : wr.cell? ⟨w2.heap.size + 1, j, none⟩ = some (.int .i64 (xAt [x, y, z] j)) := (blk_cell H8.out).trans (three hj3)
        have p2 := cell_below HB.out p2
        have i3 : (j : Int) < 3 := by omega
        have j0 : (0 : Int) ≤ (j : Int) := by omega
        have t1 : decide ((j : Int) < 3) = true := by simp; omega
        by_cases hok : okAt [x, y, z] ms j
        · have HPn : Hid (∀ q, q < j + 1 → okAt [x, y, z] ms q) := Lib.hid fun q hq => by
            by_cases e : q = j
            · subst e; exact hok
            · exact HP.out q (by omega)
          by_cases hjn : j < n
          · have hstep := wordsOf_step (wd := wd) (xs := [x, y, z]) hjn hj3
            have HWl := Lib.hid (wordsOf_len wd [x, y, z] (min j n) (by show min j n ≤ 3; omega))
            have hm := HMd.out j
            have c9 := HMs.out wr HB.out j hjn
            unfold okAt at hok
            rw [if_pos (by rw [← HLn.out]; exact hjn)] at hok
            obtain ⟨o1, o2⟩ := hok
            generalize xAt [x, y, z] j = v at *
            obtain ⟨d, rfl⟩ : ∃ d : Nat, v = (d : Int) := ⟨v.toNat, by omega⟩
            rw [Int.toNat_natCast] at hstep
            have HC : Hid (Calls Tryz.prog 49 #[.int .i64 (d : Int)] wr (Ret fun v w' => v = .string (bs (decDigits d)) ∧ Below wr.heap.size wr w')) := Lib.hid (dec_nat d wr (HT.out.below HBt.out) (by omega))
            have HSt := Lib.hid hstep
            generalize wordsOf wd [x, y, z] (min j n) = ws at *
            generalize decDigits d = D at *
            have jn : (j : Int) < (n : Int) := by omega
            have t2 : decide ((d : Int) < 1) = false := by simp; omega
            have t3 : decide ((d : Int) > mAt ms j) = false := by simp; omega
            have t3' : decide (mAt ms j < (d : Int)) = false := by simp; omega
            have t4 : decide ((j : Int) ≥ (n : Int)) = false := by simp; omega
            have t4' : decide ((n : Int) ≤ (j : Int)) = false := by simp; omega
            have t4n : decide (n ≤ j) = false := by simp; omega
            have t4m : ¬ n ≤ j := by omega
            have hsw := HB.out.size
            clear hstep o1 o2 hm
            generalize mAt ms j = m at *
            go_wp2_with fail
            refine HC.out.mono ?_
            rintro _ w5 ⟨v5, rfl, rfl, hB5⟩
            have hbk := heap_alloc_new w5 (.cells #[.string (bs D)] 9)
            have HO5 := Lib.hid (own_below' HO.out hB5)
            have HOA := Lib.hid (HO5.out.alloc (.cells #[.string (bs D)] 9))
            have hr6 := own_base HO5.out
            have HB5 := Lib.hid (below_trans' HB.out hB5)
            have H85 := Lib.hid (blk_below hB5 H8.out)
            have hs5 := hB5.size
            clear hB5
            go_wp2_with (at_builtin; refine wpList_push _ rfl (.tmp 34) (.tmp 37) 55 rfl elemS encS_len oneS Tryz.underlying55 w2.heap.size _ ws rfl HOA.out (by have := HWl.out; omega) D w5.heap.size (by rfl) _ rfl _ _ hbk (by rw [World.size_alloc]; omega) ?_; intro g2 cap w6 hO6 hg6)
            have HB6 := Lib.hid ((below_alloc' HB5.out (.cells #[.string (bs D)] 9)).grown hg6 (by rw [World.size_alloc]; omega) (fun r e => by have := hr6 r e; omega))
            have H86 := Lib.hid (blk_grown hg6 (blk_alloc H85.out _) (own_ne_blk HOA.out (blk_alloc H85.out _) (by decide)))
            have HO6 := Lib.hid hO6
            clear hO6 hg6 hr6 HO HOA hbk HB
            go_roundw
            case rel => exact ⟨j + 1, by omega, by go_num, HPn, Lib.hid (by rw [HSt.out, len_snoc]; exact HO6.out), H86, HB6⟩
            case measure => simp [intOf]; omega
          · have hsame : wordsOf wd [x, y, z] (min (j + 1) n) = wordsOf wd [x, y, z] (min j n) := by rw [show min (j + 1) n = min j n by omega]
            have HSt := Lib.hid hsame
            unfold okAt at hok
            rw [if_neg (by rw [← HLn.out]; exact hjn)] at hok
            generalize xAt [x, y, z] j = v at *
            have t5 : (v != 0) = false := by simpa using hok
            have t5' : (v == 0) = true := by simpa using hok
            have t4 : decide ((j : Int) ≥ (n : Int)) = true := by simp; omega
            have t4' : decide ((n : Int) ≤ (j : Int)) = true := by simp; omega
            have t4n : decide (n ≤ j) = true := by simp; omega
            have t4m : n ≤ j := by omega
            clear hsame hok
            go_wp2
            go_roundw
            case rel => exact ⟨j + 1, by omega, by go_num, HPn, by rw [HSt.out]; exact HO, H8, HB⟩
            case measure => simp [intOf]; omega
        · have HV := Lib.hid (HV1.out j hj3 hok)
          unfold okAt at hok
          rw [← HLn.out] at hok
          by_cases hjn : j < n
          · rw [if_pos hjn] at hok
            have c9 := HMs.out wr HB.out j hjn
            generalize xAt [x, y, z] j = v at *
            have jn : (j : Int) < (n : Int) := by omega
            have t4 : decide ((j : Int) ≥ (n : Int)) = false := by simp; omega
            have t4' : decide ((n : Int) ≤ (j : Int)) = false := by simp; omega
            have t4n : decide (n ≤ j) = false := by simp; omega
            have t4m : ¬ n ≤ j := by omega
            generalize mAt ms j = m at *
            by_cases hv : v < 1
            · have t2 : decide (v < 1) = true := by simpa using hv
              clear hok
              go_wp2
              go_ret2
              exact Ret.mk' HV.out.symm ⟨rfl, HBt.out⟩
            · have t2 : decide (v < 1) = false := by simp; omega
              have t3 : decide (v > m) = true := by simp; omega
              have t3' : decide (m < v) = true := by simp; omega
              clear hok
              go_wp2
              go_ret2
              exact Ret.mk' HV.out.symm ⟨rfl, HBt.out⟩
          · rw [if_neg hjn] at hok
            generalize xAt [x, y, z] j = v at *
            have t5 : (v != 0) = true := by simpa using hok
            have t5' : (v == 0) = false := by simpa using hok
            have t4 : decide ((j : Int) ≥ (n : Int)) = true := by simp; omega
            have t4' : decide ((n : Int) ≤ (j : Int)) = true := by simp; omega
            have t4n : decide (n ≤ j) = true := by simp; omega
            have t4m : n ≤ j := by omega
            clear hok
            go_wp2
            go_ret2
            exact Ret.mk' HV.out.symm ⟨rfl, HBt.out⟩
      · obtain rfl : j = 3 := by omega
        have hv := HV2.out fun i hi => HP.out i hi
        have HV := Lib.hid (lineT_of hv)
        have hll := line_len hv
        rw [show min 3 n = n by omega] at HO
        have hwl := wordsOf_len wd [x, y, z] n (by show n ≤ 3; omega)
        have hwe : wordsOf wd [x, y, z] n ≠ [] := by unfold wordsOf; simp
        generalize wordsOf wd [x, y, z] n = ws at *
        obtain ⟨A, cc, rfl, hcc⟩ := own_form HO.out
        have HJ := Lib.hid (joinSp_any A cc ws wr (RowsAt.of_own encS_len HO.out) hwe hcc (by omega) (by omega))
        clear HP H8 HO hwe hcc hll hv hwl
        go_wp2_with fail
        refine HJ.out.mono ?_
        rintro _ w5 ⟨v5, rfl, rfl, hB5⟩
        go_wp2
        go_ret2
        exact Ret.mk' HV.out.symm ⟨rfl, below_trans' HBt.out hB5⟩
  · have HV : Hid (lineT (k, x, y, z) = .tuple #[.string (bs []), .int .i64 2]) := Lib.hid (lineT_of (by unfold lineV; dsimp only; rw [shape_seven hno]))
    clear hno
    go_wp2
    go_ret2
    exact Ret.mk' HV.out.symm ⟨rfl, HB2.out⟩
end Go.Proofs.YtkpmmgeffbhngaaGreatDoor
