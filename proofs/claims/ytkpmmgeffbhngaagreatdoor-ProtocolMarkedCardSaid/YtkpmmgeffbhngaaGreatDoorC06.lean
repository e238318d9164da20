/- What the laws of the chapter rest on, part 06. -/
import Derived.Test.YtkpmmgeffbhngaaGreatDoorC05
set_option linter.unusedSimpArgs false
set_option linter.unusedVariables false
set_option linter.unnecessarySimpa false
namespace Prot
end Prot
namespace Go.Shelf
end Go.Shelf
namespace Go.Maps
end Go.Maps
namespace Go.Proofs.YtkpmmgeffbhngaaGreatDoor
open Go.RowKit Prot Go.Lib Go.Maps
def vCard (c : Card) : Value := .agg #[.int .i64 c.1, .int .i64 c.2.1, .int .i64 c.2.2.1, .int .i64 c.2.2.2]
/-- the greatest number i, the number i -/
def mAt (ms : List Nat) (i : Nat) : Int := ((ms.getD i 0 : Nat) : Int)
def xAt (xs : List Int) (i : Nat) : Int := xs.getD i 0
theorem bs_empty : (bs []).toList.isEmpty = true := by rw [ByteArray.toList_eq]; rfl
theorem bs_full {l : List UInt8} (h : l ≠ []) : (bs l).toList.isEmpty = false := by
  rw [ByteArray.toList_eq, bs_list]
  cases l with
  | nil => exact absurd rfl h
  | cons a r => rfl
def lineT (c : Card) : Value := .tuple #[.string (bs (lineV c).1), .int .i64 (lineV c).2]
theorem lineT_of {c : Card} {l : List UInt8} {e : Int} (h : lineV c = (l, e)) : lineT c = .tuple #[.string (bs l), .int .i64 e] := by unfold lineT; rw [h]
theorem shape_none {k : Int} (h : shapeL k = none) : shapeT k = .tuple #[.string (bs []), .int .i64 0, .agg #[.int .i64 0, .int .i64 0, .int .i64 0]] := by
  unfold shapeL at h
  repeat' split at h
  all_goals first | cases h | skip
  unfold shapeT shapeN
  simp_all
theorem shape_some {k : Int} {w : List UInt8} {ms : List Nat} (h : shapeL k = some (w, ms)) : shapeT k = .tuple #[.string (bs w), .int .i64 ms.length, .agg #[.int .i64 (mAt ms 0), .int .i64 (mAt ms 1), .int .i64 (mAt ms 2)]] := by
  rcases shape_cases h with ⟨rfl, rfl, rfl⟩ | ⟨rfl, rfl, rfl⟩ | ⟨rfl, rfl, rfl⟩ | ⟨rfl, rfl, rfl⟩ | ⟨rfl, rfl, rfl⟩ | ⟨rfl, rfl, rfl⟩ | ⟨rfl, rfl, rfl⟩ <;> rfl
/-- the number i is as it should be -/
def okAt (xs : List Int) (ms : List Nat) (i : Nat) : Prop := if i < ms.length then 1 ≤ xAt xs i ∧ xAt xs i ≤ mAt ms i else xAt xs i = 0
theorem numsOk_iff : ∀ (xs : List Int) (ms : List Nat), numsOk xs ms = true ↔ ∀ i, i < xs.length → okAt xs ms i
  | [], _ => ⟨fun _ i hi => by simp at hi, fun _ => rfl⟩
  | x :: xs, [] => by
    show (decide (x = 0) && numsOk xs []) = true ↔ _
    rw [Bool.and_eq_true, numsOk_iff xs []]
    constructor
    · rintro ⟨h1, h2⟩ i hi
      cases i with
      | zero => unfold okAt xAt mAt; rw [if_neg (by simp)]; simpa using h1
      | succ i =>
        have := h2 i (by simpa using hi)
        unfold okAt xAt mAt at this ⊢
        rw [if_neg (by simp)] at this ⊢
        simpa using this
    · intro h
      refine ⟨?_, fun i hi => ?_⟩
      · have := h 0 (by simp)
        unfold okAt xAt mAt at this
        rw [if_neg (by simp)] at this
        simpa using this
      · have := h (i + 1) (by simpa using hi)
        unfold okAt xAt mAt at this ⊢
        rw [if_neg (by simp)] at this ⊢
        simpa using this
  | x :: xs, m :: ms => by
    show (decide (1 ≤ x) && decide (x ≤ (m : Int)) && numsOk xs ms) = true ↔ _
    rw [Bool.and_eq_true, Bool.and_eq_true, numsOk_iff xs ms]
    have key : ∀ i, okAt (x :: xs) (m :: ms) (i + 1) ↔ okAt xs ms i := fun i => by
      unfold okAt xAt mAt
      simp
    constructor
    · rintro ⟨⟨h1, h3⟩, h2⟩ i hi
      cases i with
      | zero => unfold okAt xAt mAt; rw [if_pos (by simp)]; exact ⟨by simpa using h1, by simpa using h3⟩
      | succ i => exact (key i).2 (h2 i (by simpa using hi))
    · intro h
      have h0 := h 0 (by simp)
      unfold okAt xAt mAt at h0
      rw [if_pos (by simp)] at h0
      exact ⟨⟨by simpa using h0.1, by simpa using h0.2⟩, fun i hi => (key i).1 (h (i + 1) (by simpa using hi))⟩
theorem joinSp_snoc {ws : List (List UInt8)} (h : ws ≠ []) (x : List UInt8) : joinSp (ws ++ [x]) = joinSp ws ++ 32 :: x := by
  induction ws with
  | nil => exact absurd rfl h
  | cons w ws ih =>
    by_cases e : ws = []
    · subst e; rfl
    · rw [List.cons_append, joinSp_cons (by simp), joinSp_cons e, ih e]; simp
/-- the line up to the number k -/
def lineTo (w : List UInt8) (xs : List Int) (n k : Nat) : List UInt8 := joinSp (wordsOf w xs (min k n))
theorem lineTo_zero (w : List UInt8) (xs : List Int) (n : Nat) : lineTo w xs n 0 = w := by unfold lineTo wordsOf; simp [joinSp]
theorem lineTo_step {w : List UInt8} {xs : List Int} {n k : Nat} (h : k < n) (hk : k < xs.length) : lineTo w xs n (k + 1) = lineTo w xs n k ++ 32 :: decDigits (xAt xs k).toNat := by
  unfold lineTo xAt
  rw [show min (k + 1) n = k + 1 by omega, show min k n = k by omega]
  unfold wordsOf
  rw [List.take_succ_eq_append_getElem hk, List.map_append, ← List.cons_append, List.map_cons, List.map_nil, joinSp_snoc (by simp), List.getD_eq_getElem?_getD, List.getElem?_eq_getElem hk]; rfl
theorem lineTo_same {w : List UInt8} {xs : List Int} {n k : Nat} (h : n ≤ k) : lineTo w xs n (k + 1) = lineTo w xs n k := by
  unfold lineTo
  rw [show min (k + 1) n = n by omega, show min k n = n by omega]
theorem three {x y z : Int} {k : Nat} (h : k < 3) : (#[Value.int .i64 x, .int .i64 y, .int .i64 z] : Array Value)[k]? = some (.int .i64 (xAt [x, y, z] k)) := by
  have : k = 0 ∨ k = 1 ∨ k = 2 := by omega
  rcases this with rfl | rfl | rfl <;> rfl
theorem threeN {ms : List Nat} {k : Nat} (h : k < 3) : (#[Value.int .i64 (mAt ms 0), .int .i64 (mAt ms 1), .int .i64 (mAt ms 2)] : Array Value)[k]? = some (.int .i64 (mAt ms k)) := by
  have : k = 0 ∨ k = 1 ∨ k = 2 := by omega
  rcases this with rfl | rfl | rfl <;> rfl
set_option maxRecDepth 100000 in
set_option maxHeartbeats 1000000 in
theorem rLine_any (c : Card) (w : World) : Calls Tryz.prog 26 #[vCard c] w (Ret fun v w' => v = lineT c ∧ Below w.heap.size w w') := by
  obtain ⟨k, x, y, z⟩ := c
  have hB0 := below_alloc' (Below.refl w.heap.size w) (.cells #[.int .i64 k, .int .i64 x, .int .i64 y, .int .i64 z] 36)
  have hw0 := heap_alloc_new w (.cells #[.int .i64 k, .int .i64 x, .int .i64 y, .int .i64 z] 36)
  unfold vCard
  dsimp only
  cases hs : shapeL k with
  | none =>
    have HV : Hid (lineT (k, x, y, z) = .tuple #[.string (bs []), .int .i64 2]) := Lib.hid (lineT_of (by unfold lineV; dsimp only; rw [hs]))
    have HN := Lib.hid (shape_none hs)
    have d3 := bs_empty
    clear hs
    go_enter Tryz.func26, Tryz.ntmps26
    go_wp2_with fail
    refine (rshape_any k _).mono ?_
    rintro _ w2 ⟨v, rfl, rfl, hB⟩
    rw [HN.out]
    go_wp2
    go_ret2
    exact Ret.mk' HV.out.symm ⟨rfl, below_alloc' (below_trans' hB0 hB) _⟩
  | some p =>
    obtain ⟨wd, ms⟩ := p
    have HN := Lib.hid (shape_some hs)
    obtain ⟨_, hne, hm1, hm3, hmm, hw6⟩ := shape_sp hs
    have hmd : ∀ i, mAt ms i ≤ 1099511627776 := fun i => by
      unfold mAt
      rw [List.getD_eq_getElem?_getD]
      cases e : ms[i]? with
      | none => simp
      | some m =>
        have := hmm m (List.mem_of_getElem? e)
        have e2 : maxN = 1099511627776 := rfl
        simp; omega
    have HMd := Lib.hid hmd
    have HV1 : Hid (∀ i, i < 3 → ¬ okAt [x, y, z] ms i → lineT (k, x, y, z) = .tuple #[.string (bs []), .int .i64 3]) := Lib.hid fun i hi hn => lineT_of (by
      unfold lineV; dsimp only; rw [hs]; dsimp only; rw [show numsOf (k, x, y, z) = [x, y, z] from rfl]
      rw [if_neg (fun h => hn ((numsOk_iff [x, y, z] ms).1 h i hi))])
    have HV2 : Hid ((∀ i, i < 3 → okAt [x, y, z] ms i) → lineT (k, x, y, z) = .tuple #[.string (bs (lineTo wd [x, y, z] ms.length 3)), .int .i64 0]) := Lib.hid fun h => lineT_of (by
      unfold lineV; dsimp only; rw [hs]; dsimp only; rw [show numsOf (k, x, y, z) = [x, y, z] from rfl]
      rw [if_pos ((numsOk_iff [x, y, z] ms).2 h)]
      unfold lineTo
      rw [show min 3 ms.length = ms.length by omega])
    have hz := lineTo_zero wd [x, y, z] ms.length
    have Hz := Lib.hid hz
    have Hw6 := Lib.hid hw6
    have d3 := bs_full hne
    obtain ⟨n, hn⟩ : ∃ n, n = ms.length := ⟨_, rfl⟩
    rw [← hn] at HN HV2 hm1 hm3 Hz
    have HLn := Lib.hid hn
    clear hs hmm hmd hne hz hn hw6
    go_enter Tryz.func26, Tryz.ntmps26
    go_wp2_with fail
    refine (rshape_any k _).mono ?_
    rintro _ w2 ⟨v, rfl, rfl, hB⟩
    rw [HN.out]
    have HB2 := Lib.hid (below_trans' hB0 hB)
    have g0 := blk_below hB hw0
    have q1 : ∀ o, (w2.alloc o).cell? ⟨w.heap.size, 1, none⟩ = some (.int .i64 x) := fun o => (blk_cell (blk_alloc g0 o)).trans rfl
    have q2 : ∀ o, (w2.alloc o).cell? ⟨w.heap.size, 2, none⟩ = some (.int .i64 y) := fun o => (blk_cell (blk_alloc g0 o)).trans rfl
    have q3 : ∀ o, (w2.alloc o).cell? ⟨w.heap.size, 3, none⟩ = some (.int .i64 z) := fun o => (blk_cell (blk_alloc g0 o)).trans rfl
    clear g0 hB hB0 hw0
    go_wp2
    go_loopw [9, 7] (fun i o wr => ∃ j : Nat, j ≤ 3 ∧ i = .int .i64 j ∧ o = .string (bs (lineTo wd [x, y, z] n j)) ∧ Hid ((lineTo wd [x, y, z] n j).length ≤ 6 + 14 * j) ∧ Hid (∀ q, q < j → okAt [x, y, z] ms q) ∧
      Hid (wr.heap[w2.heap.size]? = some (.cells #[.int .i64 (mAt ms 0), .int .i64 (mAt ms 1), .int .i64 (mAt ms 2)] 96 (0, 0))) ∧
      Hid (wr.heap[w2.heap.size + 1]? = some (.cells #[.int .i64 x, .int .i64 y, .int .i64 z] 96 (0, 0))) ∧ Hid (Below w.heap.size w wr)) (fun i _ _ => 3 - (intOf i).toNat)
    case atStart => exact ⟨0, by omega, rfl, by rw [Hz.out], by rw [Hz.out]; exact Lib.hid (by have := Hw6.out; omega), Lib.hid fun q hq => by omega, Lib.hid (blk_alloc (heap_alloc_new _ _) _), Lib.hid (heap_alloc_at _ _ (by simp)), Lib.hid (below_alloc' (below_alloc' HB2.out _) _)⟩
    case round =>
      obtain ⟨j, hj, rfl, rfl, HL, HP, H6, H8, HB⟩ := hrel
      by_cases hj3 : j < 3
      · have c6 : wr.cell? ⟨w2.heap.size, j, none⟩ = some (.int .i64 (mAt ms j)) := (blk_cell H6.out).trans (threeN hj3)
        have c8 : wr.cell? ⟨w2.heap.size + 1, j, none⟩ = some (.int .i64 (xAt [x, y, z] j)) := (blk_cell H8.out).trans (three hj3)
        have i3 : (j : Int) < 3 := by omega
        have i0 : (0 : Int) ≤ (j : Int) := by omega
        by_cases hok : okAt [x, y, z] ms j
        · have HPn : Hid (∀ q, q < j + 1 → okAt [x, y, z] ms q) := Lib.hid fun q hq => by
            by_cases e : q = j
            · subst e; exact hok
            · exact HP.out q (by omega)
          by_cases hjn : j < n
          · have hstep := lineTo_step (w := wd) (xs := [x, y, z]) hjn hj3
            have hm := HMd.out j
            unfold okAt at hok
            rw [if_pos (by rw [← HLn.out]; exact hjn)] at hok
            obtain ⟨o1, o2⟩ := hok
            generalize xAt [x, y, z] j = v at *
            obtain ⟨d, rfl⟩ : ∃ d : Nat, v = (d : Int) := ⟨v.toNat, by omega⟩
            rw [Int.toNat_natCast] at hstep
            have hd13 := dec_len13 (n := d) (by show d ≤ 1099511627776; omega)
            have HLn2 : Hid ((lineTo wd [x, y, z] n (j + 1)).length ≤ 6 + 14 * (j + 1)) := Lib.hid (by rw [hstep, List.length_append, List.length_cons]; have := HL.out; omega)
            have HSt := Lib.hid hstep
            have hl1 := HL.out
            have HC : Hid (∀ w, Calls Tryz.prog 52 #[.int .i64 (d : Int)] w (Ret fun v w' => v = .string (bs (decDigits d)) ∧ w' = w)) := Lib.hid fun w => rtext_any d w (by omega)
            generalize lineTo wd [x, y, z] n j = L at *
            generalize decDigits d = D at *
            have hadd1 : ∀ W : World, (Op.stringOp .add ⟨#[32]⟩ (bs D)).run Tryz.prog W = .ok (.string (bs (32 :: D))) W := fun W => by
              have e : bs (32 :: D) = (⟨#[32]⟩ : ByteArray) ++ bs D := by rw [show (⟨#[32]⟩ : ByteArray) = bs [32] from rfl, bs_append]; rfl
              rw [e]
              exact run_string_add_sum W _ _ (by rw [bs_size, show (⟨#[32]⟩ : ByteArray).size = 1 from rfl]; omega)
            have hadd2 : ∀ W : World, (Op.stringOp .add (bs L) (bs (32 :: D))).run Tryz.prog W = .ok (.string (bs (L ++ 32 :: D))) W := fun W => by
              rw [← bs_append]
              exact run_string_add_sum W _ _ (by rw [bs_size, bs_size, List.length_cons]; omega)
            have t1 : decide ((j : Int) < (n : Int)) = true := by simp; omega
            have t2 : decide ((d : Int) < 1) = false := by simp; omega
            have t3 : decide ((d : Int) > mAt ms j) = false := by simp; omega
            have t3' : decide (mAt ms j < (d : Int)) = false := by simp; omega
            have t4 : decide ((j : Int) ≥ (n : Int)) = false := by simp; omega
            have t4' : decide ((n : Int) ≤ (j : Int)) = false := by simp; omega
            have t4n : decide (n ≤ j) = false := by simp; omega
            have t4m : ¬ n ≤ j := by omega
            clear hstep hd13 hl1 o1 o2 hm
            generalize mAt ms j = m at *
            go_upto_region 9 with fail
            go_quiet (fail)
            go_wp2_with fail
            refine (HC.out _).mono ?_
            rintro _ w5 ⟨v5, rfl, rfl, rfl⟩
            go_wp2
            go_roundw
            case rel => exact ⟨j + 1, by omega, by go_num, by rw [HSt.out], HLn2, HPn, H6, H8, Lib.hid (below_drewN HB.out _)⟩
            case measure => simp [intOf]; omega
          · have hstep := lineTo_same (w := wd) (xs := [x, y, z]) (n := n) (k := j) (by omega)
            unfold okAt at hok
            rw [if_neg (by rw [← HLn.out]; exact hjn)] at hok
            rw [hok] at c8
            have t1 : decide ((j : Int) < (n : Int)) = false := by simp; omega
            have t4 : decide ((j : Int) ≥ (n : Int)) = true := by simp; omega
            have t4' : decide ((n : Int) ≤ (j : Int)) = true := by simp; omega
            have t4n : decide (n ≤ j) = true := by simp; omega
            have t4m : n ≤ j := by omega
            have HLn2 : Hid ((lineTo wd [x, y, z] n (j + 1)).length ≤ 6 + 14 * (j + 1)) := Lib.hid (by rw [hstep]; have := HL.out; omega)
            have HSt := Lib.hid hstep
            clear hstep hok
            go_upto_region 9 with fail
            go_quiet (fail)
            go_wp2
            go_roundw
            case rel => exact ⟨j + 1, by omega, by go_num, by rw [HSt.out], HLn2, HPn, H6, H8, Lib.hid (below_drewN HB.out _)⟩
            case measure => simp [intOf]; omega
        · have HV := Lib.hid (HV1.out j hj3 hok)
          unfold okAt at hok
          rw [← HLn.out] at hok
          by_cases hjn : j < n
          · rw [if_pos hjn] at hok
            have t1 : decide ((j : Int) < (n : Int)) = true := by simp; omega
            generalize xAt [x, y, z] j = v at *
            generalize mAt ms j = m at *
            by_cases hv : v < 1
            · have t2 : decide (v < 1) = true := by simpa using hv
              clear hok
              go_upto_region 9 with fail
              go_quiet (fail)
              go_wp2
              go_ret2
              exact Ret.mk' HV.out.symm ⟨rfl, below_drewN HB.out _⟩
            · have t2 : decide (v < 1) = false := by simp; omega
              have t3 : decide (v > m) = true := by simp; omega
              have t3' : decide (m < v) = true := by simp; omega
              clear hok
              go_upto_region 9 with fail
              go_quiet (fail)
              go_wp2
              go_ret2
              exact Ret.mk' HV.out.symm ⟨rfl, below_drewN HB.out _⟩
          · rw [if_neg hjn] at hok
            have t1 : decide ((j : Int) < (n : Int)) = false := by simp; omega
            have t4 : decide ((j : Int) ≥ (n : Int)) = true := by simp; omega
            have t4' : decide ((n : Int) ≤ (j : Int)) = true := by simp; omega
            have t4n : decide (n ≤ j) = true := by simp; omega
            have t4m : n ≤ j := by omega
            generalize xAt [x, y, z] j = v at *
            have t5 : (v != 0) = true := by simpa using hok
            have t5' : (v == 0) = false := by simpa using hok
            clear hok
            go_upto_region 9 with fail
            go_quiet (fail)
            go_wp2
            go_ret2
            exact Ret.mk' HV.out.symm ⟨rfl, below_drewN HB.out _⟩
      · obtain rfl : j = 3 := by omega
        have HV := Lib.hid (HV2.out fun i hi => HP.out i hi)
        clear HL HP H6 H8
        go_wp2
        go_ret2
        exact Ret.mk' HV.out.symm ⟨rfl, HB.out⟩
end Go.Proofs.YtkpmmgeffbhngaaGreatDoor
