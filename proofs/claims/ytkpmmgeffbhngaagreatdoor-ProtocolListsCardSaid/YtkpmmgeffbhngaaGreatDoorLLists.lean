/- The walk of ProtocolLists and what it rests on. -/
import Derived.Test.YtkpmmgeffbhngaaGreatDoorC11
import Derived.Test.YtkpmmgeffbhngaaGreatDoorC43
import Derived.Test.YtkpmmgeffbhngaaGreatDoorC44
import Derived.Test.YtkpmmgeffbhngaaGreatDoorC45
set_option linter.unusedSimpArgs false
set_option linter.unusedVariables false
set_option linter.unnecessarySimpa false
namespace Prot
end Prot
namespace Go.Shelf
end Go.Shelf
namespace Go.Maps
end Go.Maps
namespace Prot
open Go.Lib
theorem mark_take {l : List UInt8} {n : Nat} (_h3 : 3 ≤ l.length) (h : l.take (l.length - 2) = decDigits n) : markL n = l ↔ chkL n = l.drop (l.length - 2) := by
  have e := List.take_append_drop (l.length - 2) l
  unfold markL
  rw [← h]
  constructor
  · intro k
    exact List.append_cancel_left (k.trans e.symm)
  · intro k
    rw [k, e]
/-- what is accepted -/
theorem cmV_ok {l : List UInt8} {n : Int} (h : cmV l = (n, 0)) : ∃ m : Nat, n = m ∧ 1 ≤ m ∧ m ≤ maxN ∧ l = markL m := by
  unfold cmV at h
  split at h
  · injection h with _ h; cases h
  · rename_i h3
    split at h
    · injection h with _ h; cases h
    · rename_i m hm
      split at h
      · injection h with _ h; cases h
      · rename_i hc
        split at h
        · injection h with _ h; cases h
        · rename_i he
          injection h with h _
          have he' : chkL m = l.drop (l.length - 2) := Classical.byContradiction he
          exact ⟨m, h.symm, by omega, by omega, ((mark_take (by omega) (numR_iff.1 hm).1).2 he').symm⟩
end Prot
namespace Prot
open Go.Lib
theorem readV_same {R R' : ReadW} (hR : ReadOk R) (hR' : ReadOk R') (t : List UInt8) : readV R t = readV R' t := by
  rcases readV_cases R t with h | ⟨l, h⟩
  · rcases readV_cases R' t with k | ⟨l, k⟩
    · rw [h, k]
    · obtain ⟨h1, h2⟩ := readV_ok k
      have h3 := readV_list hR h1
      rw [h2, h] at h3
      have := congrArg Prod.snd h3
      simp at this
  · obtain ⟨h1, h2⟩ := readV_ok h
    rw [h, ← h2, readV_list hR' h1]
end Prot
namespace Prot
open Go.Lib
theorem numI_dec {n : Nat} (h : n ≤ maxN) : numI (decDigits n) = n := by
  have : numR (decDigits n) = some n := (num_same (by have : maxN = 1099511627776 := rfl; omega)).1 (numP_dec h)
  unfold numI; rw [this]
theorem bit_num (k : Bool) : bitL k = decDigits (if k = true then 1 else 0) := by
  cases k
  · rw [if_neg (by simp), decDigits_small (by omega)]; rfl
  · rw [if_pos rfl, decDigits_small (by omega)]; rfl
theorem waysR_ok : ReadOk waysR where
  num := fun _ h => numI_dec h
  mark := fun n h1 h2 => by show (if (cmV (markL n)).2 = 0 then some (cmV (markL n)).1 else none) = _; rw [cmV_mark h1 h2, if_pos rfl]
  head := fun b h1 h2 => by
    show (numR (decDigits b)).map _ = _
    rw [(num_same (by omega)).1 (numP_dec (n := b) (by have : maxN = 1099511627776 := rfl; omega))]; rfl
  item := fun n a b c d k => by
    have hk : numI (bitL k) = ((if k = true then 1 else 0 : Nat) : Int) := by
      rw [bit_num]
      exact numI_dec (by have : maxN = 1099511627776 := rfl; split <;> omega)
    show (if (a : Int) < 0 ∨ (b : Int) < 0 ∨ (c : Int) < 0 ∨ (d : Int) < 0 ∨ numI (bitL k) < 0 then none else some (decide (numI (bitL k) = 1))) = _
    rw [hk, if_neg (by rintro (h | h | h | h | h) <;> omega)]
    cases k <;> rfl
/-- the definition's looks at the length change nothing -/
def readR (t : List UInt8) : List It × Int := if 65536 < t.length then ([], 7) else if 4800 < t.length then ([], 8) else readV waysR t
theorem readR_eq (t : List UInt8) : readR t = readA t := by
  unfold readR readA
  split
  · rfl
  · rw [readV_same waysP_ok waysR_ok t]
    split
    · rename_i h
      rcases readV_cases waysR t with e | ⟨l, e⟩
      · exact e.symm
      · obtain ⟨h1, h2⟩ := readV_ok e
        have := shelf_len h1
        rw [h2] at this
        omega
    · rfl
end Prot
namespace Go.Proofs.YtkpmmgeffbhngaaGreatDoor
open Go.RowKit Prot Go.Lib Go.Maps
theorem add_bs (a b : List UInt8) (h : a.length + b.length ≤ 1000000) (W : World) : (Op.stringOp .add (bs a) (bs b)).run Tryz.prog W = .ok (.string (bs (a ++ b))) W := by
  rw [← bs_append]
  exact run_string_add_sum W _ _ (by rw [bs_size, bs_size]; omega)
def boxesTo (b : Nat) : List Nat := (List.range b).map (· + 1)
theorem boxesTo_next (b : Nat) : boxesTo (b + 1) = boxesTo b ++ [b + 1] := by unfold boxesTo; rw [List.range_succ, List.map_append]; rfl
theorem boxesTo_le {l : List It} (h : itemsErr l = 0) {b : Nat} (hb : b ≤ 999) : (textL ((boxesTo b).flatMap (boxLs l))).length ≤ 4800 := by
  have h1 := shelf_len h
  obtain ⟨rest, e⟩ : ∃ rest, boxesN = boxesTo b ++ rest := by
    obtain ⟨m, hm⟩ : ∃ m, 999 = b + m := ⟨999 - b, by omega⟩
    unfold boxesN boxesTo
    rw [hm, List.range_add, List.map_append]
    exact ⟨_, rfl⟩
  unfold shelfT shelfLs at h1
  rw [e, List.flatMap_append, textL_append, List.length_append] at h1
  omega
/-- the lines of one box, up to cylinder i -/
def boxTo (l : List It) (b i : Nat) : List (List UInt8) := (if inBox l b = [] then [] else [joinSp (headW b)]) ++ ((l.take i).filter fun x => decide (x.box = (b : Int))).map fun x => joinSp (itemW x)
theorem boxTo_end (l : List It) (b : Nat) : boxTo l b l.length = boxLs l b := by
  unfold boxTo boxLs
  rw [List.take_length]
  by_cases h : inBox l b = []
  · rw [if_pos h, if_pos h]
    unfold inBox at h
    rw [h]; rfl
  · rw [if_neg h, if_neg h]; rfl
theorem boxTo_zero (l : List It) (b : Nat) : boxTo l b 0 = if inBox l b = [] then [] else [joinSp (headW b)] := by unfold boxTo; simp
theorem boxTo_in {l : List It} {b i : Nat} (hi : i < l.length) (h : l[i].box = (b : Int)) : boxTo l b (i + 1) = boxTo l b i ++ [joinSp (itemW l[i])] := by
  unfold boxTo
  rw [List.take_succ_eq_append_getElem hi, List.filter_append, List.filter_cons_of_pos (by simpa using h), List.map_append, List.append_assoc]; rfl
theorem boxTo_out {l : List It} {b i : Nat} (hi : i < l.length) (h : l[i].box ≠ (b : Int)) : boxTo l b (i + 1) = boxTo l b i := by
  unfold boxTo
  rw [List.take_succ_eq_append_getElem hi, List.filter_append, List.filter_cons_of_neg (by simpa using h)]; simp
theorem boxTo_len {l : List It} (hl : ∀ x ∈ l, ItOk x) {b : Nat} (hb : b ≤ 999) (i : Nat) : (textL (boxTo l b i)).length ≤ 8 + 51 * l.length := by
  unfold boxTo
  rw [textL_append, List.length_append]
  have h1 : (textL (if inBox l b = [] then [] else [joinSp (headW b)])).length ≤ 8 := by
    split
    · exact Nat.zero_le _
    · have := head_len hb
      rw [textL_cons, List.length_append, List.length_cons]
      show _ + (0 + 1) ≤ 8
      omega
  have h2 := items_len (xs := (l.take i).filter fun x => decide (x.box = (b : Int))) (fun x hx => hl x (List.mem_of_mem_take (List.mem_filter.1 hx).1))
  have h3 : ((l.take i).filter fun x => decide (x.box = (b : Int))).length ≤ l.length := Nat.le_trans (List.length_filter_le _ _) (by rw [List.length_take]; omega)
  omega
theorem room_inBox (l : List It) (b : Nat) : room l (b : Int) = (inBox l b).length := rfl
theorem item_line (x : It) : joinSp (itemW x) ++ [10] = markL x.num.toNat ++ [32] ++ decDigits x.day.toNat ++ [32] ++ decDigits x.voice.toNat ++ [32] ++ decDigits x.turns.toNat ++ [32] ++ decDigits x.src.toNat ++ [32] ++ bitL x.cracked ++ [10] := by
  unfold itemW
  simp [joinSp]
theorem listA_err {l : List It} (h : itemsErr l ≠ 0) : listA l = ([], itemsErr l) := by unfold listA; rw [if_pos h]
theorem listA_ok {l : List It} (h : itemsErr l = 0) : listA l = (shelfT l, 0) := by unfold listA; rw [if_neg (by rw [h]; simp)]
theorem mark_len {n : Nat} (h : n ≤ maxN) : (markL n).length ≤ 15 := by
  unfold markL
  rw [List.length_append, chkL_len]
  have := dec_len13 h
  omega
set_option maxRecDepth 100000 in
set_option maxHeartbeats 2000000 in
theorem rList_any (A : Option Addr) (ca : Nat) (l : List It) (w : World) (hl : ItemsAt w A l) (hn : l.length ≤ 100000) : Calls Tryz.prog 38 #[.slice A l.length ca] w (Ret fun v w' => v = textT (listA l) ∧ Below w.heap.size w w') := by
  have Hl := Lib.hid hl
  have HC : Hid (∀ W, Below w.heap.size w W → Calls Tryz.prog 43 #[.slice A l.length ca] W (Ret fun v w' => v = .int .i64 (itemsErr l) ∧ Below W.heap.size W w')) := Lib.hid fun W hb => rCheckItems_any A ca l W (Hl.out.below hb) hn
  clear hl
  by_cases he : itemsErr l = 0
  rotate_left 1
  · have HV := Lib.hid (listA_err he)
    generalize itemsErr l = er at *
    have t1 : (er != 0) = true := by simpa using he
    clear he
    go_enter Tryz.func38, Tryz.ntmps38
    go_wp2_with fail
    refine (HC.out _ (Below.refl _ _)).mono ?_
    rintro _ w2 ⟨v, rfl, rfl, hB2⟩
    have HB2 := Lib.hid hB2
    clear hB2
    go_wp2_with fail
    refine (HC.out _ HB2.out).mono ?_
    rintro _ w3 ⟨v, rfl, rfl, hB3⟩
    go_wp2
    go_ret2
    exact Ret.mk ⟨by rw [HV.out]; rfl, below_trans' HB2.out hB3⟩
  · have HV := Lib.hid (listA_ok he)
    have hok := itemsErr_iff.1 he
    have hfew := hok.few
    have HOk := Lib.hid hok.ok
    have HLen : Hid (∀ b, b ≤ 999 → (textL ((boxesTo b).flatMap (boxLs l))).length ≤ 4800) := Lib.hid fun b hb => boxesTo_le he hb
    have HSh : Hid (textL ((boxesTo 999).flatMap (boxLs l)) = shelfT l) := Lib.hid rfl
    rw [he] at HC
    clear he hok
    go_enter Tryz.func38, Tryz.ntmps38
    go_wp2_with fail
    refine (HC.out _ (Below.refl _ _)).mono ?_
    rintro _ w2 ⟨v, rfl, rfl, hB2⟩
    have HB2 := Lib.hid hB2
    clear hB2 HC
    go_wp2
    go_loopw [4, 5] (fun u i wr => ∃ b : Nat, b ≤ 999 ∧ i = .int .i64 ((b : Int) + 1) ∧ u = .string (bs (textL ((boxesTo b).flatMap (boxLs l)))) ∧ Hid (Below w.heap.size w wr)) (fun _ i _ => 1000 - (intOf i).toNat)
    case atStart => exact ⟨0, by omega, rfl, rfl, HB2⟩
    case round =>
      obtain ⟨b, hb, rfl, rfl, HB⟩ := hrel
      by_cases hb9 : b < 999
      · have t0 : decide ((b : Int) + 1 ≤ 999) = true := decide_eq_true (by omega)
        have hT4 := HLen.out b (by omega)
        obtain ⟨T, hT⟩ : ∃ T, T = textL ((boxesTo b).flatMap (boxLs l)) := ⟨_, rfl⟩
        have HNext : Hid (textL ((boxesTo (b + 1)).flatMap (boxLs l)) = T ++ textL (boxTo l (b + 1) l.length)) := Lib.hid (by
          rw [boxesTo_next, List.flatMap_append, textL_append, ← hT, List.flatMap_cons, List.flatMap_nil, List.append_nil, boxTo_end])
        have HBl : Hid (∀ i, (textL (boxTo l (b + 1) i)).length ≤ 8 + 51 * l.length) := Lib.hid fun i => boxTo_len HOk.out (by omega) i
        have hr := room_inBox l (b + 1)
        rw [← hT] at hT4 ⊢
        have e1 : IntKind.i64.wrap ((b : Int) + 1 + 1) = (b : Int) + 1 + 1 := IntWalk.i64_in _ (by omega)
        obtain ⟨wo, hwo⟩ : ∃ x, x = wr := ⟨_, rfl⟩
        subst hwo
        have HI := Lib.hid (Hl.out.below HB.out)
        have HCr : Hid (Calls Tryz.prog 85 #[.slice A l.length ca, .int .i64 ((b : Int) + 1)] wo (Ret fun v w' => v = .int .i64 (room l ((b : Int) + 1)) ∧ ∃ q, w' = wo.drewN q)) := Lib.hid (rroom_any A ca l ((b : Int) + 1) wo HI.out hn)
        have hr2 : room l ((b : Int) + 1) = (inBox l (b + 1)).length := hr
        clear hT hr
        go_wp2_with fail
        refine HCr.out.mono ?_
        rintro _ w5 ⟨v, rfl, rfl, q, rfl⟩
        have HZ := Lib.hid (boxTo_zero l (b + 1))
        have HBq := Lib.hid (below_drewN HB.out q)
        generalize wo.drewN q = w6 at HBq ⊢
        by_cases hem : inBox l (b + 1) = []
        · have hr0 : room l ((b : Int) + 1) = 0 := by rw [hr2, hem]; rfl
          rw [hr0]
          rw [if_pos hem] at HZ
          have HZ2 : Hid (T = T ++ textL (boxTo l (b + 1) 0)) := Lib.hid (by rw [HZ.out]; show T = T ++ []; rw [List.append_nil])
          have t1 : decide ((((0 : Nat) : Int)) > 0) = false := decide_eq_false (by omega)
          clear hr0 hr2 hem HZ
          go_wp2
          go_loopw [4, 6] (fun u i wr => ∃ k : Nat, k ≤ l.length ∧ i = .int .i64 k ∧ u = .string (bs (T ++ textL (boxTo l (b + 1) k))) ∧ Hid (Below w.heap.size w wr)) (fun _ i _ => l.length - (intOf i).toNat)
          case atStart => exact ⟨0, by omega, rfl, by rw [← HZ2.out], HBq⟩
          case round =>
            obtain ⟨k, hk, rfl, rfl, HBi⟩ := hrel
            by_cases hkl : k < l.length
            · obtain ⟨ib, io, rfl, g0, g1, g2, g3, g4, g5, g6⟩ := (Hl.out.below HBi.out).at_ hkl
              have i0 : (0 : Int) ≤ (k : Int) := by omega
              have i1 : (k : Int) < (l.length : Int) := by omega
              have hitok := HOk.out l[k] (List.getElem_mem hkl)
              have hlenk := HBl.out k
              have HIn : Hid (l[k].box = ((b + 1 : Nat) : Int) → T ++ textL (boxTo l (b + 1) (k + 1)) = T ++ textL (boxTo l (b + 1) k) ++ (joinSp (itemW l[k]) ++ [10])) := Lib.hid fun h => by
                rw [boxTo_in hkl h, textL_append, textL_cons]
                show _ = _ ++ (_ ++ 10 :: [])
                rw [List.append_assoc]; rfl
              have HOut : Hid (l[k].box ≠ ((b + 1 : Nat) : Int) → boxTo l (b + 1) (k + 1) = boxTo l (b + 1) k) := Lib.hid fun h => boxTo_out hkl h
              generalize l[k] = it at *
              by_cases hbx : it.box = (b : Int) + 1
              rotate_left 1
              · have t5 : (it.box != (b : Int) + 1) = true := by simpa using hbx
                have HS := Lib.hid (HOut.out (by intro h; apply hbx; rw [h]; omega))
                clear HIn HOut hbx hitok g0 g2 g3 g4 g5 g6 hlenk
                go_wp2
                go_roundw
                case rel => exact ⟨k + 1, by omega, by go_num, by rw [HS.out], HBi⟩
                case measure => simp [intOf]; omega
              · have t5 : (it.box != (b : Int) + 1) = false := by simpa using hbx
                have hS := HIn.out (by rw [hbx]; omega)
                rw [item_line] at hS
                obtain ⟨y1, y2, y3, y4, y5, y6⟩ := hitok
                obtain ⟨n, hnn⟩ : ∃ n : Nat, it.num = (n : Int) := ⟨it.num.toNat, by omega⟩
                obtain ⟨d1, hd1⟩ : ∃ n : Nat, it.day = (n : Int) := ⟨it.day.toNat, by omega⟩
                obtain ⟨d2, hd2⟩ : ∃ n : Nat, it.voice = (n : Int) := ⟨it.voice.toNat, by omega⟩
                obtain ⟨d3, hd3'⟩ : ∃ n : Nat, it.turns = (n : Int) := ⟨it.turns.toNat, by omega⟩
                obtain ⟨d4, hd4⟩ : ∃ n : Nat, it.src = (n : Int) := ⟨it.src.toNat, by omega⟩
                rw [hnn, hd1, hd2, hd3', hd4, Int.toNat_natCast, Int.toNat_natCast, Int.toNat_natCast, Int.toNat_natCast, Int.toNat_natCast] at hS
                have hmx : (maxN : Int) = 1099511627776 := rfl
                have hmx2 : maxN = 1099511627776 := rfl
                have HM : Hid (∀ W, Calls Tryz.prog 17 #[.int .i64 (n : Int)] W (Ret fun v w' => v = .tuple #[.string (bs (markL n)), .int .i64 0] ∧ w' = W)) := Lib.hid fun W => by
                  have := rMark_any (n : Int) W
                  unfold markT at this
                  rw [if_pos (by omega), Int.toNat_natCast] at this
                  exact this
                obtain ⟨d5, hd5⟩ : ∃ d5 : Nat, (it.cracked = true ∧ d5 = 1 ∨ it.cracked = false ∧ d5 = 0) ∧ bitL it.cracked = decDigits d5 := by
                  cases hcr : it.cracked
                  · exact ⟨0, .inr ⟨rfl, rfl⟩, by rw [bit_num]; rfl⟩
                  · exact ⟨1, .inl ⟨rfl, rfl⟩, by rw [bit_num]; rfl⟩
                obtain ⟨hcr, hbit⟩ := hd5
                rw [hbit] at hS
                have HQ1 : Hid (∀ (W : World) (a : Nat), Calls Tryz.prog 52 #[.int .i64 (d1 : Int)] (W.drewN a) fun e w' => e = .returned (.string (bs (decDigits d1))) ∧ ∃ m, w' = W.drewN m) := Lib.hid fun W a => (rtext_any d1 _ (by omega)).mono (by rintro e w' ⟨v, rfl, rfl, rfl⟩; exact ⟨rfl, a, rfl⟩)
                have HQ2 : Hid (∀ (W : World) (a : Nat), Calls Tryz.prog 52 #[.int .i64 (d2 : Int)] (W.drewN a) fun e w' => e = .returned (.string (bs (decDigits d2))) ∧ ∃ m, w' = W.drewN m) := Lib.hid fun W a => (rtext_any d2 _ (by omega)).mono (by rintro e w' ⟨v, rfl, rfl, rfl⟩; exact ⟨rfl, a, rfl⟩)
                have HQ3 : Hid (∀ (W : World) (a : Nat), Calls Tryz.prog 52 #[.int .i64 (d3 : Int)] (W.drewN a) fun e w' => e = .returned (.string (bs (decDigits d3))) ∧ ∃ m, w' = W.drewN m) := Lib.hid fun W a => (rtext_any d3 _ (by omega)).mono (by rintro e w' ⟨v, rfl, rfl, rfl⟩; exact ⟨rfl, a, rfl⟩)
                have HQ4 : Hid (∀ (W : World) (a : Nat), Calls Tryz.prog 52 #[.int .i64 (d4 : Int)] (W.drewN a) fun e w' => e = .returned (.string (bs (decDigits d4))) ∧ ∃ m, w' = W.drewN m) := Lib.hid fun W a => (rtext_any d4 _ (by omega)).mono (by rintro e w' ⟨v, rfl, rfl, rfl⟩; exact ⟨rfl, a, rfl⟩)
                have HQ5 : Hid (∀ (W : World) (a : Nat), Calls Tryz.prog 52 #[.int .i64 (d5 : Int)] (W.drewN a) fun e w' => e = .returned (.string (bs (decDigits d5))) ∧ ∃ m, w' = W.drewN m) := Lib.hid fun W a => (rtext_any d5 _ (by omega)).mono (by rintro e w' ⟨v, rfl, rfl, rfl⟩; exact ⟨rfl, a, rfl⟩)
                have lM := mark_len (n := n) (by omega)
                have lD1 := dec_len13 (n := d1) (by omega)
                have lD2 := dec_len13 (n := d2) (by omega)
                have lD3 := dec_len13 (n := d3) (by omega)
                have lD4 := dec_len13 (n := d4) (by omega)
                have lD5 := dec_len13 (n := d5) (by omega)
                rw [hnn] at g0
                rw [hd1] at g2
                rw [hd2] at g3
                rw [hd3'] at g4
                rw [hd4] at g5
                have HBx := Lib.hid (below_alloc' HBi.out (.cells #[.int .i64 (n : Int), .int .i64 it.box, .int .i64 (d1 : Int), .int .i64 (d2 : Int), .int .i64 (d3 : Int), .int .i64 (d4 : Int), .bool it.cracked] 67))
                have HXx := Lib.hid (heap_alloc_new wr (.cells #[.int .i64 (n : Int), .int .i64 it.box, .int .i64 (d1 : Int), .int .i64 (d2 : Int), .int .i64 (d3 : Int), .int .i64 (d4 : Int), .bool it.cracked] 67))
                clear hbx HIn HOut hnn hd1 hd2 hd3' hd4 y1 y2 y3 y4 y5 y6 hbit hmx hmx2
                generalize markL n = M at *
                generalize decDigits d1 = D1 at *
                generalize decDigits d2 = D2 at *
                generalize decDigits d3 = D3 at *
                generalize decDigits d4 = D4 at *
                generalize decDigits d5 = D5 at *
                generalize it.box = bx at *
                obtain ⟨X1, hX1⟩ : ∃ X, X = M ++ [32] := ⟨_, rfl⟩
                have lX1 : X1.length ≤ 43 := by rw [hX1, List.length_append]; show _ + 1 ≤ _; omega
                have add1 : ∀ W : World, (Op.stringOp .add (bs M) ⟨#[32]⟩).run Tryz.prog W = .ok (.string (bs X1)) W := fun W => by rw [hX1]; exact add_bs _ _ (by show _ + 1 ≤ _; omega) W
                obtain ⟨X2, hX2⟩ : ∃ X, X = X1 ++ D1 := ⟨_, rfl⟩
                have lX2 : X2.length ≤ 56 := by rw [hX2, List.length_append]; omega
                have add2 : ∀ W : World, (Op.stringOp .add (bs X1) (bs D1)).run Tryz.prog W = .ok (.string (bs X2)) W := fun W => by rw [hX2]; exact add_bs _ _ (by omega) W
                obtain ⟨X3, hX3⟩ : ∃ X, X = X2 ++ [32] := ⟨_, rfl⟩
                have lX3 : X3.length ≤ 69 := by rw [hX3, List.length_append]; show _ + 1 ≤ _; omega
                have add3 : ∀ W : World, (Op.stringOp .add (bs X2) ⟨#[32]⟩).run Tryz.prog W = .ok (.string (bs X3)) W := fun W => by rw [hX3]; exact add_bs _ _ (by show _ + 1 ≤ _; omega) W
                obtain ⟨X4, hX4⟩ : ∃ X, X = X3 ++ D2 := ⟨_, rfl⟩
                have lX4 : X4.length ≤ 82 := by rw [hX4, List.length_append]; omega
                have add4 : ∀ W : World, (Op.stringOp .add (bs X3) (bs D2)).run Tryz.prog W = .ok (.string (bs X4)) W := fun W => by rw [hX4]; exact add_bs _ _ (by omega) W
                obtain ⟨X5, hX5⟩ : ∃ X, X = X4 ++ [32] := ⟨_, rfl⟩
                have lX5 : X5.length ≤ 95 := by rw [hX5, List.length_append]; show _ + 1 ≤ _; omega
                have add5 : ∀ W : World, (Op.stringOp .add (bs X4) ⟨#[32]⟩).run Tryz.prog W = .ok (.string (bs X5)) W := fun W => by rw [hX5]; exact add_bs _ _ (by show _ + 1 ≤ _; omega) W
                obtain ⟨X6, hX6⟩ : ∃ X, X = X5 ++ D3 := ⟨_, rfl⟩
                have lX6 : X6.length ≤ 108 := by rw [hX6, List.length_append]; omega
                have add6 : ∀ W : World, (Op.stringOp .add (bs X5) (bs D3)).run Tryz.prog W = .ok (.string (bs X6)) W := fun W => by rw [hX6]; exact add_bs _ _ (by omega) W
                obtain ⟨X7, hX7⟩ : ∃ X, X = X6 ++ [32] := ⟨_, rfl⟩
                have lX7 : X7.length ≤ 121 := by rw [hX7, List.length_append]; show _ + 1 ≤ _; omega
                have add7 : ∀ W : World, (Op.stringOp .add (bs X6) ⟨#[32]⟩).run Tryz.prog W = .ok (.string (bs X7)) W := fun W => by rw [hX7]; exact add_bs _ _ (by show _ + 1 ≤ _; omega) W
                obtain ⟨X8, hX8⟩ : ∃ X, X = X7 ++ D4 := ⟨_, rfl⟩
                have lX8 : X8.length ≤ 134 := by rw [hX8, List.length_append]; omega
                have add8 : ∀ W : World, (Op.stringOp .add (bs X7) (bs D4)).run Tryz.prog W = .ok (.string (bs X8)) W := fun W => by rw [hX8]; exact add_bs _ _ (by omega) W
                obtain ⟨X9, hX9⟩ : ∃ X, X = X8 ++ [32] := ⟨_, rfl⟩
                have lX9 : X9.length ≤ 147 := by rw [hX9, List.length_append]; show _ + 1 ≤ _; omega
                have add9 : ∀ W : World, (Op.stringOp .add (bs X8) ⟨#[32]⟩).run Tryz.prog W = .ok (.string (bs X9)) W := fun W => by rw [hX9]; exact add_bs _ _ (by show _ + 1 ≤ _; omega) W
                obtain ⟨X10, hX10⟩ : ∃ X, X = X9 ++ D5 := ⟨_, rfl⟩
                have lX10 : X10.length ≤ 160 := by rw [hX10, List.length_append]; omega
                have add10 : ∀ W : World, (Op.stringOp .add (bs X9) (bs D5)).run Tryz.prog W = .ok (.string (bs X10)) W := fun W => by rw [hX10]; exact add_bs _ _ (by omega) W
                obtain ⟨X11, hX11⟩ : ∃ X, X = X10 ++ [10] := ⟨_, rfl⟩
                have lX11 : X11.length ≤ 173 := by rw [hX11, List.length_append]; show _ + 1 ≤ _; omega
                have add11 : ∀ W : World, (Op.stringOp .add (bs X10) ⟨#[10]⟩).run Tryz.prog W = .ok (.string (bs X11)) W := fun W => by rw [hX11]; exact add_bs _ _ (by show _ + 1 ≤ _; omega) W
                have HS : Hid (T ++ textL (boxTo l (b + 1) (k + 1)) = T ++ textL (boxTo l (b + 1) k) ++ X11) := Lib.hid (by rw [hS, hX11, hX10, hX9, hX8, hX7, hX6, hX5, hX4, hX3, hX2, hX1])
                obtain ⟨Y, hY⟩ : ∃ Y, Y = T ++ textL (boxTo l (b + 1) k) := ⟨_, rfl⟩
                have addY : ∀ W : World, (Op.stringOp .add (bs Y) (bs X11)).run Tryz.prog W = .ok (.string (bs (Y ++ X11))) W := add_bs Y X11 (by rw [hY, List.length_append]; omega)
                rw [← hY] at HS ⊢
                clear hS hY hX1 lX1 hX2 lX2 hX3 lX3 hX4 lX4 hX5 lX5 hX6 lX6 hX7 lX7 hX8 lX8 hX9 lX9 hX10 lX10 hX11 lX11 lM lD1 lD2 lD3 lD4 lD5 hlenk
                generalize hYX : Y ++ X11 = YX at *
                clear hYX
                rcases hcr with ⟨hc1, hc2⟩ | ⟨hc1, hc2⟩
                · rw [hc1] at g6 HXx HBx
                  subst hc2
                  have HQ6 : Hid (∀ (W : World) (a : Nat), Calls Tryz.prog 52 #[.int .i64 1] (W.drewN a) fun e w' => e = .returned (.string (bs D5)) ∧ ∃ m, w' = W.drewN m) := HQ5
                  clear hc1 HQ5
                  go_upto_region 14 with fail
                  generalize wr.alloc (.cells #[.int .i64 (n : Int), .int .i64 bx, .int .i64 (d1 : Int), .int .i64 (d2 : Int), .int .i64 (d3 : Int), .int .i64 (d4 : Int), .bool true] 67) = w8 at HBx HXx ⊢
                  generalize wr.heap.size = xb at HXx ⊢
                  have x0 : w8.cell? ⟨xb, 0, none⟩ = some (.int .i64 (n : Int)) := (blk_cell HXx.out).trans rfl
                  have x2 : w8.cell? ⟨xb, 2, none⟩ = some (.int .i64 (d1 : Int)) := (blk_cell HXx.out).trans rfl
                  have x3 : w8.cell? ⟨xb, 3, none⟩ = some (.int .i64 (d2 : Int)) := (blk_cell HXx.out).trans rfl
                  have x4 : w8.cell? ⟨xb, 4, none⟩ = some (.int .i64 (d3 : Int)) := (blk_cell HXx.out).trans rfl
                  have x5 : w8.cell? ⟨xb, 5, none⟩ = some (.int .i64 (d4 : Int)) := (blk_cell HXx.out).trans rfl
                  have x6 := (blk_cell HXx.out (i := 6)).trans rfl
                  clear g0 g1 g2 g3 g4 g5 g6
                  go_wp2_with fail
                  refine (HM.out _).mono ?_
                  rintro _ w9 ⟨v, rfl, rfl, rfl⟩
                  go_upto_region 18 with fail
                  go_quiet (first | with_reducible exact HQ1.out _ _ | with_reducible exact HQ2.out _ _ | with_reducible exact HQ3.out _ _ | with_reducible exact HQ4.out _ _ | with_reducible exact HQ6.out _ _)
                  go_wp2
                  go_roundw
                  case rel => exact ⟨k + 1, by omega, by go_num, by rw [HS.out], Lib.hid (below_drewN HBx.out _)⟩
                  case measure => simp [intOf]; omega
                · rw [hc1] at g6 HXx HBx
                  subst hc2
                  have HQ6 : Hid (∀ (W : World) (a : Nat), Calls Tryz.prog 52 #[.int .i64 0] (W.drewN a) fun e w' => e = .returned (.string (bs D5)) ∧ ∃ m, w' = W.drewN m) := HQ5
                  clear hc1 HQ5
                  go_upto_region 14 with fail
                  generalize wr.alloc (.cells #[.int .i64 (n : Int), .int .i64 bx, .int .i64 (d1 : Int), .int .i64 (d2 : Int), .int .i64 (d3 : Int), .int .i64 (d4 : Int), .bool false] 67) = w8 at HBx HXx ⊢
                  generalize wr.heap.size = xb at HXx ⊢
                  have x0 : w8.cell? ⟨xb, 0, none⟩ = some (.int .i64 (n : Int)) := (blk_cell HXx.out).trans rfl
                  have x2 : w8.cell? ⟨xb, 2, none⟩ = some (.int .i64 (d1 : Int)) := (blk_cell HXx.out).trans rfl
                  have x3 : w8.cell? ⟨xb, 3, none⟩ = some (.int .i64 (d2 : Int)) := (blk_cell HXx.out).trans rfl
                  have x4 : w8.cell? ⟨xb, 4, none⟩ = some (.int .i64 (d3 : Int)) := (blk_cell HXx.out).trans rfl
                  have x5 : w8.cell? ⟨xb, 5, none⟩ = some (.int .i64 (d4 : Int)) := (blk_cell HXx.out).trans rfl
                  have x6 := (blk_cell HXx.out (i := 6)).trans rfl
                  clear g0 g1 g2 g3 g4 g5 g6
                  go_wp2_with fail
                  refine (HM.out _).mono ?_
                  rintro _ w9 ⟨v, rfl, rfl, rfl⟩
                  go_upto_region 18 with fail
                  go_quiet (first | with_reducible exact HQ1.out _ _ | with_reducible exact HQ2.out _ _ | with_reducible exact HQ3.out _ _ | with_reducible exact HQ4.out _ _ | with_reducible exact HQ6.out _ _)
                  go_wp2
                  go_roundw
                  case rel => exact ⟨k + 1, by omega, by go_num, by rw [HS.out], Lib.hid (below_drewN HBx.out _)⟩
                  case measure => simp [intOf]; omega
            · obtain rfl : k = l.length := by omega
              rw [← HNext.out]
              go_wp2
              go_roundw
              case rel => exact ⟨b + 1, by omega, by go_num, rfl, HBi⟩
              case measure => simp [intOf]; omega
        · have hr0 : 0 < room l ((b : Int) + 1) := by rw [hr2]; exact Nat.pos_of_ne_zero fun e => hem (List.eq_nil_of_length_eq_zero e)
          rw [if_neg hem] at HZ
          generalize room l ((b : Int) + 1) = rm at *
          have t1 : decide ((rm : Int) > 0) = true := decide_eq_true (by omega)
          have t2 : decide ((0 : Int) < (rm : Int)) = true := decide_eq_true (by omega)
          have t3 : decide (0 < rm) = true := decide_eq_true hr0
          have hd3 := dec_len3 (n := b + 1) (by omega)
          have HRt : Hid (∀ W, Calls Tryz.prog 52 #[.int .i64 ((b : Int) + 1)] W (Ret fun v w' => v = .string (bs (decDigits (b + 1))) ∧ w' = W)) := Lib.hid fun W => rtext_any (b + 1) W (by omega)
          have HT1 : Hid (T ++ ([98, 111, 120, 32] ++ decDigits (b + 1) ++ [10]) = T ++ textL (boxTo l (b + 1) 0)) := Lib.hid (by
            rw [HZ.out]
            show _ = T ++ (joinSp (headW (b + 1)) ++ [10] ++ [])
            rw [List.append_nil]; rfl)
          generalize decDigits (b + 1) = D at *
          have a1 : ∀ W : World, (Op.stringOp .add ⟨#[98, 111, 120, 32]⟩ (bs D)).run Tryz.prog W = .ok (.string (bs ([98, 111, 120, 32] ++ D))) W := add_bs [98, 111, 120, 32] D (by show 4 + _ ≤ _; omega)
          have a2 : ∀ W : World, (Op.stringOp .add (bs ([98, 111, 120, 32] ++ D)) ⟨#[10]⟩).run Tryz.prog W = .ok (.string (bs ([98, 111, 120, 32] ++ D ++ [10]))) W := add_bs ([98, 111, 120, 32] ++ D) [10] (by rw [List.length_append]; show 4 + _ + 1 ≤ _; omega)
          have a3 : ∀ W : World, (Op.stringOp .add (bs T) (bs ([98, 111, 120, 32] ++ D ++ [10]))).run Tryz.prog W = .ok (.string (bs (T ++ textL (boxTo l (b + 1) 0)))) W := by
            rw [← HT1.out]
            exact add_bs _ _ (by rw [List.length_append, List.length_append]; show _ + (4 + _ + 1) ≤ _; omega)
          generalize hh : ([98, 111, 120, 32] ++ D : List UInt8) = H1 at a1 a2 a3
          generalize hh2 : (H1 ++ [10] : List UInt8) = H2 at a2 a3
          clear hr0 hr2 hem HZ HT1 hh hh2
          go_wp2_with fail
          refine (HRt.out _).mono ?_
          rintro _ w7 ⟨v, rfl, rfl, rfl⟩
          go_wp2
          go_loopw [4, 6] (fun u i wr => ∃ k : Nat, k ≤ l.length ∧ i = .int .i64 k ∧ u = .string (bs (T ++ textL (boxTo l (b + 1) k))) ∧ Hid (Below w.heap.size w wr)) (fun _ i _ => l.length - (intOf i).toNat)
          case atStart => exact ⟨0, by omega, rfl, rfl, HBq⟩
          case round =>
            obtain ⟨k, hk, rfl, rfl, HBi⟩ := hrel
            by_cases hkl : k < l.length
            · obtain ⟨ib, io, rfl, g0, g1, g2, g3, g4, g5, g6⟩ := (Hl.out.below HBi.out).at_ hkl
              have i0 : (0 : Int) ≤ (k : Int) := by omega
              have i1 : (k : Int) < (l.length : Int) := by omega
              have hitok := HOk.out l[k] (List.getElem_mem hkl)
              have hlenk := HBl.out k
              have HIn : Hid (l[k].box = ((b + 1 : Nat) : Int) → T ++ textL (boxTo l (b + 1) (k + 1)) = T ++ textL (boxTo l (b + 1) k) ++ (joinSp (itemW l[k]) ++ [10])) := Lib.hid fun h => by
                rw [boxTo_in hkl h, textL_append, textL_cons]
                show _ = _ ++ (_ ++ 10 :: [])
                rw [List.append_assoc]; rfl
              have HOut : Hid (l[k].box ≠ ((b + 1 : Nat) : Int) → boxTo l (b + 1) (k + 1) = boxTo l (b + 1) k) := Lib.hid fun h => boxTo_out hkl h
              generalize l[k] = it at *
              by_cases hbx : it.box = (b : Int) + 1
              rotate_left 1
              · have t5 : (it.box != (b : Int) + 1) = true := by simpa using hbx
                have HS := Lib.hid (HOut.out (by intro h; apply hbx; rw [h]; omega))
                clear HIn HOut hbx hitok g0 g2 g3 g4 g5 g6 hlenk
                go_wp2
                go_roundw
                case rel => exact ⟨k + 1, by omega, by go_num, by rw [HS.out], HBi⟩
                case measure => simp [intOf]; omega
              · have t5 : (it.box != (b : Int) + 1) = false := by simpa using hbx
                have hS := HIn.out (by rw [hbx]; omega)
                rw [item_line] at hS
                obtain ⟨y1, y2, y3, y4, y5, y6⟩ := hitok
                obtain ⟨n, hnn⟩ : ∃ n : Nat, it.num = (n : Int) := ⟨it.num.toNat, by omega⟩
                obtain ⟨d1, hd1⟩ : ∃ n : Nat, it.day = (n : Int) := ⟨it.day.toNat, by omega⟩
                obtain ⟨d2, hd2⟩ : ∃ n : Nat, it.voice = (n : Int) := ⟨it.voice.toNat, by omega⟩
                obtain ⟨d3, hd3'⟩ : ∃ n : Nat, it.turns = (n : Int) := ⟨it.turns.toNat, by omega⟩
                obtain ⟨d4, hd4⟩ : ∃ n : Nat, it.src = (n : Int) := ⟨it.src.toNat, by omega⟩
                rw [hnn, hd1, hd2, hd3', hd4, Int.toNat_natCast, Int.toNat_natCast, Int.toNat_natCast, Int.toNat_natCast, Int.toNat_natCast] at hS
                have hmx : (maxN : Int) = 1099511627776 := rfl
                have hmx2 : maxN = 1099511627776 := rfl
                have HM : Hid (∀ W, Calls Tryz.prog 17 #[.int .i64 (n : Int)] W (Ret fun v w' => v = .tuple #[.string (bs (markL n)), .int .i64 0] ∧ w' = W)) := Lib.hid fun W => by
                  have := rMark_any (n : Int) W
                  unfold markT at this
                  rw [if_pos (by omega), Int.toNat_natCast] at this
                  exact this
                obtain ⟨d5, hd5⟩ : ∃ d5 : Nat, (it.cracked = true ∧ d5 = 1 ∨ it.cracked = false ∧ d5 = 0) ∧ bitL it.cracked = decDigits d5 := by
                  cases hcr : it.cracked
                  · exact ⟨0, .inr ⟨rfl, rfl⟩, by rw [bit_num]; rfl⟩
                  · exact ⟨1, .inl ⟨rfl, rfl⟩, by rw [bit_num]; rfl⟩
                obtain ⟨hcr, hbit⟩ := hd5
                rw [hbit] at hS
                have HQ1 : Hid (∀ (W : World) (a : Nat), Calls Tryz.prog 52 #[.int .i64 (d1 : Int)] (W.drewN a) fun e w' => e = .returned (.string (bs (decDigits d1))) ∧ ∃ m, w' = W.drewN m) := Lib.hid fun W a => (rtext_any d1 _ (by omega)).mono (by rintro e w' ⟨v, rfl, rfl, rfl⟩; exact ⟨rfl, a, rfl⟩)
                have HQ2 : Hid (∀ (W : World) (a : Nat), Calls Tryz.prog 52 #[.int .i64 (d2 : Int)] (W.drewN a) fun e w' => e = .returned (.string (bs (decDigits d2))) ∧ ∃ m, w' = W.drewN m) := Lib.hid fun W a => (rtext_any d2 _ (by omega)).mono (by rintro e w' ⟨v, rfl, rfl, rfl⟩; exact ⟨rfl, a, rfl⟩)
                have HQ3 : Hid (∀ (W : World) (a : Nat), Calls Tryz.prog 52 #[.int .i64 (d3 : Int)] (W.drewN a) fun e w' => e = .returned (.string (bs (decDigits d3))) ∧ ∃ m, w' = W.drewN m) := Lib.hid fun W a => (rtext_any d3 _ (by omega)).mono (by rintro e w' ⟨v, rfl, rfl, rfl⟩; exact ⟨rfl, a, rfl⟩)
                have HQ4 : Hid (∀ (W : World) (a : Nat), Calls Tryz.prog 52 #[.int .i64 (d4 : Int)] (W.drewN a) fun e w' => e = .returned (.string (bs (decDigits d4))) ∧ ∃ m, w' = W.drewN m) := Lib.hid fun W a => (rtext_any d4 _ (by omega)).mono (by rintro e w' ⟨v, rfl, rfl, rfl⟩; exact ⟨rfl, a, rfl⟩)
                have HQ5 : Hid (∀ (W : World) (a : Nat), Calls Tryz.prog 52 #[.int .i64 (d5 : Int)] (W.drewN a) fun e w' => e = .returned (.string (bs (decDigits d5))) ∧ ∃ m, w' = W.drewN m) := Lib.hid fun W a => (rtext_any d5 _ (by omega)).mono (by rintro e w' ⟨v, rfl, rfl, rfl⟩; exact ⟨rfl, a, rfl⟩)
                have lM := mark_len (n := n) (by omega)
                have lD1 := dec_len13 (n := d1) (by omega)
                have lD2 := dec_len13 (n := d2) (by omega)
                have lD3 := dec_len13 (n := d3) (by omega)
                have lD4 := dec_len13 (n := d4) (by omega)
                have lD5 := dec_len13 (n := d5) (by omega)
                rw [hnn] at g0
                rw [hd1] at g2
                rw [hd2] at g3
                rw [hd3'] at g4
                rw [hd4] at g5
                have HBx := Lib.hid (below_alloc' HBi.out (.cells #[.int .i64 (n : Int), .int .i64 it.box, .int .i64 (d1 : Int), .int .i64 (d2 : Int), .int .i64 (d3 : Int), .int .i64 (d4 : Int), .bool it.cracked] 67))
                have HXx := Lib.hid (heap_alloc_new wr (.cells #[.int .i64 (n : Int), .int .i64 it.box, .int .i64 (d1 : Int), .int .i64 (d2 : Int), .int .i64 (d3 : Int), .int .i64 (d4 : Int), .bool it.cracked] 67))
                clear hbx HIn HOut hnn hd1 hd2 hd3' hd4 y1 y2 y3 y4 y5 y6 hbit hmx hmx2
                generalize markL n = M at *
                generalize decDigits d1 = D1 at *
                generalize decDigits d2 = D2 at *
                generalize decDigits d3 = D3 at *
                generalize decDigits d4 = D4 at *
                generalize decDigits d5 = D5 at *
                generalize it.box = bx at *
                obtain ⟨X1, hX1⟩ : ∃ X, X = M ++ [32] := ⟨_, rfl⟩
                have lX1 : X1.length ≤ 43 := by rw [hX1, List.length_append]; show _ + 1 ≤ _; omega
                have add1 : ∀ W : World, (Op.stringOp .add (bs M) ⟨#[32]⟩).run Tryz.prog W = .ok (.string (bs X1)) W := fun W => by rw [hX1]; exact add_bs _ _ (by show _ + 1 ≤ _; omega) W
                obtain ⟨X2, hX2⟩ : ∃ X, X = X1 ++ D1 := ⟨_, rfl⟩
                have lX2 : X2.length ≤ 56 := by rw [hX2, List.length_append]; omega
                have add2 : ∀ W : World, (Op.stringOp .add (bs X1) (bs D1)).run Tryz.prog W = .ok (.string (bs X2)) W := fun W => by rw [hX2]; exact add_bs _ _ (by omega) W
                obtain ⟨X3, hX3⟩ : ∃ X, X = X2 ++ [32] := ⟨_, rfl⟩
                have lX3 : X3.length ≤ 69 := by rw [hX3, List.length_append]; show _ + 1 ≤ _; omega
                have add3 : ∀ W : World, (Op.stringOp .add (bs X2) ⟨#[32]⟩).run Tryz.prog W = .ok (.string (bs X3)) W := fun W => by rw [hX3]; exact add_bs _ _ (by show _ + 1 ≤ _; omega) W
                obtain ⟨X4, hX4⟩ : ∃ X, X = X3 ++ D2 := ⟨_, rfl⟩
                have lX4 : X4.length ≤ 82 := by rw [hX4, List.length_append]; omega
                have add4 : ∀ W : World, (Op.stringOp .add (bs X3) (bs D2)).run Tryz.prog W = .ok (.string (bs X4)) W := fun W => by rw [hX4]; exact add_bs _ _ (by omega) W
                obtain ⟨X5, hX5⟩ : ∃ X, X = X4 ++ [32] := ⟨_, rfl⟩
                have lX5 : X5.length ≤ 95 := by rw [hX5, List.length_append]; show _ + 1 ≤ _; omega
                have add5 : ∀ W : World, (Op.stringOp .add (bs X4) ⟨#[32]⟩).run Tryz.prog W = .ok (.string (bs X5)) W := fun W => by rw [hX5]; exact add_bs _ _ (by show _ + 1 ≤ _; omega) W
                obtain ⟨X6, hX6⟩ : ∃ X, X = X5 ++ D3 := ⟨_, rfl⟩
                have lX6 : X6.length ≤ 108 := by rw [hX6, List.length_append]; omega
                have add6 : ∀ W : World, (Op.stringOp .add (bs X5) (bs D3)).run Tryz.prog W = .ok (.string (bs X6)) W := fun W => by rw [hX6]; exact add_bs _ _ (by omega) W
                obtain ⟨X7, hX7⟩ : ∃ X, X = X6 ++ [32] := ⟨_, rfl⟩
                have lX7 : X7.length ≤ 121 := by rw [hX7, List.length_append]; show _ + 1 ≤ _; omega
                have add7 : ∀ W : World, (Op.stringOp .add (bs X6) ⟨#[32]⟩).run Tryz.prog W = .ok (.string (bs X7)) W := fun W => by rw [hX7]; exact add_bs _ _ (by show _ + 1 ≤ _; omega) W
                obtain ⟨X8, hX8⟩ : ∃ X, X = X7 ++ D4 := ⟨_, rfl⟩
                have lX8 : X8.length ≤ 134 := by rw [hX8, List.length_append]; omega
                have add8 : ∀ W : World, (Op.stringOp .add (bs X7) (bs D4)).run Tryz.prog W = .ok (.string (bs X8)) W := fun W => by rw [hX8]; exact add_bs _ _ (by omega) W
                obtain ⟨X9, hX9⟩ : ∃ X, X = X8 ++ [32] := ⟨_, rfl⟩
                have lX9 : X9.length ≤ 147 := by rw [hX9, List.length_append]; show _ + 1 ≤ _; omega
                have add9 : ∀ W : World, (Op.stringOp .add (bs X8) ⟨#[32]⟩).run Tryz.prog W = .ok (.string (bs X9)) W := fun W => by rw [hX9]; exact add_bs _ _ (by show _ + 1 ≤ _; omega) W
                obtain ⟨X10, hX10⟩ : ∃ X, X = X9 ++ D5 := ⟨_, rfl⟩
                have lX10 : X10.length ≤ 160 := by rw [hX10, List.length_append]; omega
                have add10 : ∀ W : World, (Op.stringOp .add (bs X9) (bs D5)).run Tryz.prog W = .ok (.string (bs X10)) W := fun W => by rw [hX10]; exact add_bs _ _ (by omega) W
                obtain ⟨X11, hX11⟩ : ∃ X, X = X10 ++ [10] := ⟨_, rfl⟩
                have lX11 : X11.length ≤ 173 := by rw [hX11, List.length_append]; show _ + 1 ≤ _; omega
                have add11 : ∀ W : World, (Op.stringOp .add (bs X10) ⟨#[10]⟩).run Tryz.prog W = .ok (.string (bs X11)) W := fun W => by rw [hX11]; exact add_bs _ _ (by show _ + 1 ≤ _; omega) W
                have HS : Hid (T ++ textL (boxTo l (b + 1) (k + 1)) = T ++ textL (boxTo l (b + 1) k) ++ X11) := Lib.hid (by rw [hS, hX11, hX10, hX9, hX8, hX7, hX6, hX5, hX4, hX3, hX2, hX1])
                obtain ⟨Y, hY⟩ : ∃ Y, Y = T ++ textL (boxTo l (b + 1) k) := ⟨_, rfl⟩
                have addY : ∀ W : World, (Op.stringOp .add (bs Y) (bs X11)).run Tryz.prog W = .ok (.string (bs (Y ++ X11))) W := add_bs Y X11 (by rw [hY, List.length_append]; omega)
                rw [← hY] at HS ⊢
                clear hS hY hX1 lX1 hX2 lX2 hX3 lX3 hX4 lX4 hX5 lX5 hX6 lX6 hX7 lX7 hX8 lX8 hX9 lX9 hX10 lX10 hX11 lX11 lM lD1 lD2 lD3 lD4 lD5 hlenk
                generalize hYX : Y ++ X11 = YX at *
                clear hYX
                rcases hcr with ⟨hc1, hc2⟩ | ⟨hc1, hc2⟩
                · rw [hc1] at g6 HXx HBx
                  subst hc2
                  have HQ6 : Hid (∀ (W : World) (a : Nat), Calls Tryz.prog 52 #[.int .i64 1] (W.drewN a) fun e w' => e = .returned (.string (bs D5)) ∧ ∃ m, w' = W.drewN m) := HQ5
                  clear hc1 HQ5
                  go_upto_region 14 with fail
                  generalize wr.alloc (.cells #[.int .i64 (n : Int), .int .i64 bx, .int .i64 (d1 : Int), .int .i64 (d2 : Int), .int .i64 (d3 : Int), .int .i64 (d4 : Int), .bool true] 67) = w8 at HBx HXx ⊢
                  generalize wr.heap.size = xb at HXx ⊢
                  have x0 : w8.cell? ⟨xb, 0, none⟩ = some (.int .i64 (n : Int)) := (blk_cell HXx.out).trans rfl
                  have x2 : w8.cell? ⟨xb, 2, none⟩ = some (.int .i64 (d1 : Int)) := (blk_cell HXx.out).trans rfl
                  have x3 : w8.cell? ⟨xb, 3, none⟩ = some (.int .i64 (d2 : Int)) := (blk_cell HXx.out).trans rfl
                  have x4 : w8.cell? ⟨xb, 4, none⟩ = some (.int .i64 (d3 : Int)) := (blk_cell HXx.out).trans rfl
                  have x5 : w8.cell? ⟨xb, 5, none⟩ = some (.int .i64 (d4 : Int)) := (blk_cell HXx.out).trans rfl
                  have x6 := (blk_cell HXx.out (i := 6)).trans rfl
                  clear g0 g1 g2 g3 g4 g5 g6
                  go_wp2_with fail
                  refine (HM.out _).mono ?_
                  rintro _ w9 ⟨v, rfl, rfl, rfl⟩
                  go_upto_region 18 with fail
                  go_quiet (first | with_reducible exact HQ1.out _ _ | with_reducible exact HQ2.out _ _ | with_reducible exact HQ3.out _ _ | with_reducible exact HQ4.out _ _ | with_reducible exact HQ6.out _ _)
                  go_wp2
                  go_roundw
                  case rel => exact ⟨k + 1, by omega, by go_num, by rw [HS.out], Lib.hid (below_drewN HBx.out _)⟩
                  case measure => simp [intOf]; omega
                · rw [hc1] at g6 HXx HBx
                  subst hc2
                  have HQ6 : Hid (∀ (W : World) (a : Nat), Calls Tryz.prog 52 #[.int .i64 0] (W.drewN a) fun e w' => e = .returned (.string (bs D5)) ∧ ∃ m, w' = W.drewN m) := HQ5
                  clear hc1 HQ5
                  go_upto_region 14 with fail
                  generalize wr.alloc (.cells #[.int .i64 (n : Int), .int .i64 bx, .int .i64 (d1 : Int), .int .i64 (d2 : Int), .int .i64 (d3 : Int), .int .i64 (d4 : Int), .bool false] 67) = w8 at HBx HXx ⊢
                  generalize wr.heap.size = xb at HXx ⊢
                  have x0 : w8.cell? ⟨xb, 0, none⟩ = some (.int .i64 (n : Int)) := (blk_cell HXx.out).trans rfl
                  have x2 : w8.cell? ⟨xb, 2, none⟩ = some (.int .i64 (d1 : Int)) := (blk_cell HXx.out).trans rfl
                  have x3 : w8.cell? ⟨xb, 3, none⟩ = some (.int .i64 (d2 : Int)) := (blk_cell HXx.out).trans rfl
                  have x4 : w8.cell? ⟨xb, 4, none⟩ = some (.int .i64 (d3 : Int)) := (blk_cell HXx.out).trans rfl
                  have x5 : w8.cell? ⟨xb, 5, none⟩ = some (.int .i64 (d4 : Int)) := (blk_cell HXx.out).trans rfl
                  have x6 := (blk_cell HXx.out (i := 6)).trans rfl
                  clear g0 g1 g2 g3 g4 g5 g6
                  go_wp2_with fail
                  refine (HM.out _).mono ?_
                  rintro _ w9 ⟨v, rfl, rfl, rfl⟩
                  go_upto_region 18 with fail
                  go_quiet (first | with_reducible exact HQ1.out _ _ | with_reducible exact HQ2.out _ _ | with_reducible exact HQ3.out _ _ | with_reducible exact HQ4.out _ _ | with_reducible exact HQ6.out _ _)
                  go_wp2
                  go_roundw
                  case rel => exact ⟨k + 1, by omega, by go_num, by rw [HS.out], Lib.hid (below_drewN HBx.out _)⟩
                  case measure => simp [intOf]; omega
            · obtain rfl : k = l.length := by omega
              rw [← HNext.out]
              go_wp2
              go_roundw
              case rel => exact ⟨b + 1, by omega, by go_num, rfl, HBi⟩
              case measure => simp [intOf]; omega
      · obtain rfl : b = 999 := by omega
        have t0 : decide (((999 : Nat) : Int) + 1 ≤ 999) = false := by decide
        rw [HSh.out]
        go_wp2
        go_ret2
        exact Ret.mk ⟨by rw [HV.out]; rfl, HB.out⟩
end Go.Proofs.YtkpmmgeffbhngaaGreatDoor
namespace Go.Proofs.YtkpmmgeffbhngaaGreatDoor
open Go.RowKit Prot Go.Lib Go.Maps
theorem line_box {l v : List UInt8} (h : splitSp l = [boxWord, v]) (s : RSt) : readLine waysR s l = (numR v).map fun n : Nat => ((n : Int), s.2) := by
  unfold readLine
  rw [h]
  dsimp only
  rw [if_pos rfl]
  show ((numR v).map fun n : Nat => (n : Int)).map _ = _
  rw [Option.map_map]; rfl
theorem line_other {l : List UInt8} (s : RSt) (h6 : (splitSp l).length ≠ 6) (h2 : ∀ v, splitSp l ≠ [boxWord, v]) : readLine waysR s l = none := by
  unfold readLine
  generalize splitSp l = ws at *
  match ws, h6, h2 with
  | [], _, _ => rfl
  | [a], _, _ => rfl
  | [a, b], _, h2 =>
    dsimp only
    rw [if_neg]
    intro e
    subst e
    exact h2 b rfl
  | [a, b, c], _, _ => rfl
  | [a, b, c, d], _, _ => rfl
  | [a, b, c, d, e], _, _ => rfl
  | [a, b, c, d, e, f], h6, _ => exact absurd rfl h6
  | a :: b :: c :: d :: e :: f :: g :: r, _, _ => rfl
theorem six_of {ws : List (List UInt8)} (h : ws.length = 6) : ∃ m a b c d e, ws = [m, a, b, c, d, e] := by
  match ws, h with
  | [m, a, b, c, d, e], _ => exact ⟨m, a, b, c, d, e, rfl⟩
theorem line_mark {l m a b c d e : List UInt8} (h : splitSp l = [m, a, b, c, d, e]) (s : RSt) (hm : (cmV m).2 ≠ 0) : readLine waysR s l = none := by
  unfold readLine
  rw [h]
  have hk : waysR.mark m = none := by show (if (cmV m).2 = 0 then some (cmV m).1 else none) = none; rw [if_neg hm]
  simp [hk]
theorem line_item {l m a b c d e : List UInt8} (h : splitSp l = [m, a, b, c, d, e]) (s : RSt) (hm : (cmV m).2 = 0) : readLine waysR s l =
    if numI a < 0 ∨ numI b < 0 ∨ numI c < 0 ∨ numI d < 0 ∨ numI e < 0 then none else some (s.1, s.2 ++ [⟨(cmV m).1, s.1, numI a, numI b, numI c, numI d, decide (numI e = 1)⟩]) := by
  unfold readLine
  rw [h]
  have hk : waysR.mark m = some (cmV m).1 := by show (if (cmV m).2 = 0 then some (cmV m).1 else none) = _; rw [if_pos hm]
  simp only [hk]
  show (if numI a < 0 ∨ numI b < 0 ∨ numI c < 0 ∨ numI d < 0 ∨ numI e < 0 then none else some (decide (numI e = 1))).map _ = _
  split
  · rfl
  · rfl
theorem read_bad {t : List UInt8} {k f : Nat} {ls : List (List UInt8)} {s : RSt} (h : RowSt t k f ls) (hk : k < t.length) (hc : t[k] = 10) (hg : readGo waysR ls (0, []) = some s) (hl : readLine waysR s (seg t f k) = none) : readV waysR t = ([], 8) := by
  have h2 := (h.cut hk hc).rows
  have e : readGo waysR (rowsL t) (0, []) = none := by
    rw [h2, readGo_append, readGo_snoc, hg, Option.bind_some, hl]; rfl
  unfold readV
  rw [e]
theorem read_unended {t : List UInt8} (h : ¬ Prot.Ends t) : readV waysR t = ([], 8) := by
  rcases readV_cases waysR t with e | ⟨l, e⟩
  · exact e
  · obtain ⟨_, h2⟩ := readV_ok e
    rw [← h2] at h
    exact absurd (text_ends _) h
theorem numI_pos {l : List UInt8} {n : Nat} (h : numR l = some n) : numI l = (n : Int) := by unfold numI; rw [h]
theorem numI_neg {l : List UInt8} (h : numR l = none) : numI l < 0 := by unfold numI; rw [h]; decide
/-- five numbers, read so far -/
def arr5 (xs : List (List UInt8)) (j i : Nat) : Int := if i < j then numI (xs.getD i []) else 0
def arr5A (xs : List (List UInt8)) (j : Nat) : Array Value := #[.int .i64 (arr5 xs j 0), .int .i64 (arr5 xs j 1), .int .i64 (arr5 xs j 2), .int .i64 (arr5 xs j 3), .int .i64 (arr5 xs j 4)]
theorem arr5_set {xs : List (List UInt8)} {j : Nat} (h : j < 5) : (arr5A xs j).setIfInBounds j (.int .i64 (numI (xs.getD j []))) = arr5A xs (j + 1) := by
  have : j = 0 ∨ j = 1 ∨ j = 2 ∨ j = 3 ∨ j = 4 := by omega
  rcases this with rfl | rfl | rfl | rfl | rfl <;> rfl
theorem arr5_at {xs : List (List UInt8)} {j i : Nat} (h : i < 5) : (arr5A xs j)[i]? = some (.int .i64 (arr5 xs j i)) := by
  have : i = 0 ∨ i = 1 ∨ i = 2 ∨ i = 3 ∨ i = 4 := by omega
  rcases this with rfl | rfl | rfl | rfl | rfl <;> rfl
theorem cmV_pos {l : List UInt8} (h : (cmV l).2 = 0) : 1 ≤ (cmV l).1 := by
  obtain ⟨m, e, h1, _⟩ := cmV_ok (l := l) (n := (cmV l).1) (by rw [← h])
  omega
/-- each is found where it is: numbers are not given twice -/
theorem found_once {l : List It} (h : ∀ k (hk : k < l.length), ∀ x ∈ l.take k, x.num ≠ l[k].num) : (l.map It.num).Nodup := by
  rw [List.Nodup, List.pairwise_map, List.pairwise_iff_getElem]
  intro i j hi hj hij e
  refine h j hj l[i] ?_ e
  rw [List.mem_take_iff_getElem]
  exact ⟨i, by omega, rfl⟩
/-- what find answers, more precisely -/
def FindR (l : List It) (n : Int) (v : Value) : Prop := (∃ (k : Nat) (h : k < l.length), v = .int .i64 k ∧ l[k].num = n ∧ ∀ x ∈ l.take k, x.num ≠ n) ∨ (v = .int .i64 (-1) ∧ ∀ x ∈ l, x.num ≠ n)
set_option maxRecDepth 100000 in
set_option maxHeartbeats 400000 in
theorem rfind_more (A : Option Addr) (ca : Nat) (l : List It) (n : Int) (w : World) (hl : ItemsAt w A l) (hn : l.length ≤ 100000) :
    Calls Tryz.prog 88 #[.slice A l.length ca, .int .i64 n] w (Ret fun v w' => FindR l n v ∧ ∃ q, w' = w.drewN q) := by
  have Hl := Lib.hid hl; clear hl
  go_enter Tryz.func88, Tryz.ntmps88
  go_wp2
  go_loopw [5] (fun i wr => ∃ k q : Nat, k ≤ l.length ∧ i = .int .i64 k ∧ wr = w.drewN q ∧ Hid (∀ x ∈ l.take k, x.num ≠ n)) (fun i _ => l.length - (intOf i).toNat)
  case atStart => exact ⟨0, 0, by omega, rfl, rfl, Lib.hid fun x hx => by simp at hx⟩
  case round =>
    obtain ⟨k, q, hk, rfl, rfl, HM⟩ := hrel
    by_cases hkn : k < l.length
    · obtain ⟨bb, off, rfl, g1, -⟩ := Hl.out.at_ hkn
      have HN := Lib.hid (fun e => none_next hkn HM.out e)
      have HF : Hid (l[k].num = n → FindR l n (.int .i64 k)) := Lib.hid (fun e => .inl ⟨k, hkn, rfl, e, HM.out⟩)
      generalize hy : l[k].num = y at g1 HN HF
      clear hy HM
      have g1 : (w.drewN q).cell? ⟨bb, off + k * 7, none⟩ = some (.int .i64 y) := g1
      by_cases e : y = n
      · have e1 : (y == n) = true := by simpa using e
        have HR := Lib.hid (HF.out e)
        clear e HF HN
        go_wp2
        go_ret
        exact Ret.mk ⟨HR.out, q, rfl⟩
      · have e1 : (y == n) = false := by simpa using e
        have HN2 := Lib.hid (HN.out e)
        clear e HF HN
        go_wp2
        go_roundw
        case rel => exact ⟨k + 1, _, by omega, by go_num, rfl, HN2⟩
        case measure => simp [intOf]; omega
    · have hkl : k = l.length := by omega
      subst hkl
      have HR : Hid (FindR l n (.int .i64 (-1))) := Lib.hid (.inr ⟨rfl, by have := HM.out; rwa [List.take_length] at this⟩)
      clear HM
      go_wp2
      go_ret
      exact Ret.mk ⟨HR.out, q, rfl⟩
end Go.Proofs.YtkpmmgeffbhngaaGreatDoor
namespace Go.Proofs.YtkpmmgeffbhngaaGreatDoor
open Go.RowKit Prot Go.Lib Go.Maps
theorem seg_len (t : List UInt8) (f k : Nat) : (seg t f k).length ≤ t.length := by
  unfold seg
  rw [List.length_take, List.length_drop]; omega
set_option maxRecDepth 100000 in
set_option maxHeartbeats 1500000 in
theorem rReadList_any (s : ByteArray) (w : World) (hs : s.size ≤ 9223372036854775807) : Calls Tryz.prog 40 #[.string s] w (Ret (ItQ (readA s.data.toList) w)) := by
  have hsz : s.data.toList.length = s.size := (Lib.size_eq s).symm
  obtain ⟨t, ht⟩ : ∃ t, t = s.data.toList := ⟨_, rfl⟩
  rw [← readR_eq, ← ht]
  rw [← ht] at hsz
  by_cases h1 : 65536 < s.size
  · have HR : Hid (readR t = ([], 7)) := Lib.hid (by unfold readR; rw [if_pos (by omega)])
    have d1 : decide ((s.size : Int) > 65536) = true := decide_eq_true (by omega)
    have d2 : decide ((65536 : Int) < (s.size : Int)) = true := decide_eq_true (by omega)
    clear h1 ht hsz hs
    go_enter Tryz.func40, Tryz.ntmps40
    go_wp2
    go_ret2
    exact Ret.mk (by rw [HR.out]; exact ItErr.mk (Below.refl _ _))
  have d1 : decide ((s.size : Int) > 65536) = false := decide_eq_false (by omega)
  have d2 : decide ((65536 : Int) < (s.size : Int)) = false := decide_eq_false (by omega)
  by_cases h2 : 4800 < s.size
  · have HR : Hid (readR t = ([], 8)) := Lib.hid (by unfold readR; rw [if_neg (by omega), if_pos (by omega)])
    have d3 : decide ((s.size : Int) > 4800) = true := decide_eq_true (by omega)
    have d4 : decide ((4800 : Int) < (s.size : Int)) = true := decide_eq_true (by omega)
    clear h1 h2 ht hsz hs
    go_enter Tryz.func40, Tryz.ntmps40
    go_wp2
    go_ret2
    exact Ret.mk (by rw [HR.out]; exact ItErr.mk (Below.refl _ _))
  have d3 : decide ((s.size : Int) > 4800) = false := decide_eq_false (by omega)
  have d4 : decide ((4800 : Int) < (s.size : Int)) = false := decide_eq_false (by omega)
  have HRV : Hid (readR t = readV waysR t) := Lib.hid (by unfold readR; rw [if_neg (by omega), if_neg (by omega)])
  have hb : s.size ≤ 4800 := by omega
  have Ht : Hid (∀ k (h : k < s.size), ∃ h' : k < t.length, t[k]'h' = s[k]) := Lib.hid fun k h => by
    have h1 := at_list s k h
    rw [← ht] at h1
    exact ⟨by omega, by rw [List.getElem?_eq_getElem (by omega)] at h1; exact Option.some.inj h1⟩
  have HX : Hid (∀ f k, s.extract f k = bs (seg t f k)) := Lib.hid fun f k => by
    rw [ht]
    conv => lhs; rw [bs_of s]
    exact bs_extract _ _ _
  have HSb : Hid (s = bs t) := Lib.hid (by rw [ht]; exact bs_of s)
  have HTl := Lib.hid hsz
  clear h1 h2 ht hsz hs
  go_enter Tryz.func40, Tryz.ntmps40
  go_wp2
  go_loopw [4, 5, 6, 7] (fun u bx f i wr => ∃ (k fr : Nat) (ls : List (List UInt8)) (box : Int) (its : List It), k ≤ s.size ∧ fr ≤ k ∧ its.length ≤ k ∧ i = .int .i64 k ∧ f = .int .i64 fr ∧ bx = .int .i64 box ∧ Hid (RowSt t k fr ls) ∧ Hid (readGo waysR ls (0, []) = some (box, its)) ∧ Hid (∀ x ∈ its, 1 ≤ x.num) ∧
    Hid (wr.ownsRow w.heap.size 67 7 u its.length (its.flatMap encIt)) ∧ Hid (Below w.heap.size w wr)) (fun _ _ _ i _ => s.size - (intOf i).toNat)
  case atStart => exact ⟨0, 0, [], 0, [], by omega, by omega, by simp, rfl, rfl, rfl, Lib.hid (RowSt.start t), Lib.hid rfl, Lib.hid (fun x hx => by cases hx), Lib.hid (World.ownsRow_nil _ _ _ _), Lib.hid (Below.refl _ _)⟩
  case round =>
    obtain ⟨k, fr, ls, box, its, hk, hf, hil, rfl, rfl, rfl, HR, HG, HP, HO, HB⟩ := hrel
    by_cases hkn : k < s.size
    · obtain ⟨hkt, hkc⟩ := Ht.out k hkn
      by_cases hc : s[k] = 10
      rotate_left 1
      · have HN := Lib.hid (HR.out.on hkt (by rw [hkc]; exact hc))
        have t1 : ((s[k].toNat : Int) != 10) = true := by
          simp only [bne_iff_ne, ne_eq]
          intro e
          exact hc (UInt8.toNat_inj.1 (by show s[k].toNat = 10; omega))
        clear hc hkc hkt HR
        go_wp2
        go_roundw
        case rel => exact ⟨k + 1, fr, ls, box, its, by omega, by omega, by omega, by go_num, rfl, rfl, HN, HG, HP, HO, HB⟩
        case measure => simp [intOf]; omega
      · have HN := Lib.hid (HR.out.cut hkt (hkc.trans hc))
        have HBad : Hid (readLine waysR (box, its) (seg t fr k) = none → readR t = ([], 8)) := Lib.hid fun h => by rw [HRV.out]; exact read_bad HR.out hkt (hkc.trans hc) HG.out h
        have HGo : Hid (∀ s', readLine waysR (box, its) (seg t fr k) = some s' → readGo waysR (ls ++ [seg t fr k]) (0, []) = some s') := Lib.hid fun s' h => by rw [readGo_snoc, HG.out]; exact h
        have t1 : ((s[k].toNat : Int) != 10) = false := by rw [hc]; rfl
        have hx := HX.out fr k
        have hxl := seg_len t fr k
        rw [HTl.out] at hxl
        obtain ⟨x, hxx⟩ : ∃ x, x = seg t fr k := ⟨_, rfl⟩
        rw [← hxx] at HN HBad HGo hx hxl
        have e1 : IntKind.i64.wrap ((k : Int) + 1) = ((k + 1 : Nat) : Int) := by rw [show ((k : Int) + 1) = ((k + 1 : Nat) : Int) by omega]; exact IntWalk.i64_in _ (by omega)
        have HC : Hid (∀ W, Calls Tryz.prog 70 #[.string (bs x)] W (Ret (WordsQ (splitSp x) W))) := Lib.hid fun W => by
          have := rwords_any (bs x) W (by rw [bs_size]; omega)
          rw [bs_list] at this
          exact this
        have hwl := split_len x
        have HWl := Lib.hid (split_word_len x)
        obtain ⟨ws, hws⟩ : ∃ ws, ws = splitSp x := ⟨_, rfl⟩
        have HWs := Lib.hid hws.symm
        rw [← hws] at HC hwl HWl
        clear hxx hc hkc hkt HR hws
        go_wp2_with fail
        refine (HC.out _).mono ?_
        rintro _ w2 ⟨v, rfl, A, ca, rfl, hca, hS2, hB2⟩
        have HO2 := Lib.hid (own_below' HO.out hB2)
        have HB2 := Lib.hid (below_trans' HB.out hB2)
        have HS2 := Lib.hid hS2
        clear hB2 hS2 HO HB HC hx
        by_cases hbox : ∃ v, ws = [boxWord, v]
        · obtain ⟨v, rfl⟩ := hbox
          obtain ⟨b, off, rfl, hcs⟩ := HS2.out.cells (by simp)
          have g0 := hcs 0 (by simp)
          have g1 := hcs 1 (by simp)
          rw [show [boxWord, v][0] = boxWord from rfl, Nat.add_zero] at g0
          rw [show [boxWord, v][1] = v from rfl] at g1
          have HL := Lib.hid (line_box HWs.out (box, its))
          have hv := HWl.out v (by simp)
          have HNm : Hid (∀ W, Calls Tryz.prog 55 #[.string (bs v)] W (Ret fun r w' => r = numT (numR v) ∧ w' = W)) := Lib.hid fun W => rnumber_any (bs v) W (by rw [bs_size]; omega)
          have dq : ((bs boxWord).toList == [98, 111, 120]) = true := by rw [ByteArray.toList_eq]; rfl
          clear hcs hv
          cases hn : numR v with
          | none =>
            rw [hn] at HNm HL
            have HV := Lib.hid (HBad.out HL.out)
            clear hn HL
            go_wp2_with fail
            refine (HNm.out _).mono ?_
            rintro _ w3 ⟨v3, rfl, rfl, rfl⟩
            unfold numT
            dsimp only
            go_wp2
            go_ret2
            exact Ret.mk (by rw [HV.out]; exact ItErr.mk HB2.out)
          | some n =>
            rw [hn] at HNm HL
            have HG2 := Lib.hid (HGo.out _ HL.out)
            clear hn HL
            go_wp2_with fail
            refine (HNm.out _).mono ?_
            rintro _ w3 ⟨v3, rfl, rfl, rfl⟩
            unfold numT
            dsimp only
            go_wp2
            go_roundw
            case rel => exact ⟨k + 1, k + 1, ls ++ [x], (n : Int), its, by omega, by omega, by omega, by go_num, by go_num, rfl, HN, HG2, HP, HO2, HB2⟩
            case measure => simp [intOf]; omega
        · by_cases h6 : ws.length = 6
          · obtain ⟨m, a1, a2, a3, a4, a5, rfl⟩ := six_of h6
            obtain ⟨b, off, rfl, hcs⟩ := HS2.out.cells (by simp)
            have g0 := hcs 0 (by simp)
            rw [show [m, a1, a2, a3, a4, a5][0] = m from rfl, Nat.add_zero] at g0
            have HCs : Hid (∀ W, Below w2.heap.size w2 W → ∀ i (hi : i < 5), W.cell? ⟨b, off + (i + 1), none⟩ = some (.string (bs ([a1, a2, a3, a4, a5].getD i [])))) := Lib.hid fun W hb i hi => by
              have : i = 0 ∨ i = 1 ∨ i = 2 ∨ i = 3 ∨ i = 4 := by omega
              rcases this with rfl | rfl | rfl | rfl | rfl
              · exact cell_below hb (hcs 1 (by simp))
              · exact cell_below hb (hcs 2 (by simp))
              · exact cell_below hb (hcs 3 (by simp))
              · exact cell_below hb (hcs 4 (by simp))
              · exact cell_below hb (hcs 5 (by simp))
            have hbl : b < w2.heap.size := block_lt_of_cell g0
            have HXl : Hid (∀ i, i < 5 → ([a1, a2, a3, a4, a5].getD i []).length ≤ 4800) := Lib.hid fun i hi => by
              have : i = 0 ∨ i = 1 ∨ i = 2 ∨ i = 3 ∨ i = 4 := by omega
              rcases this with rfl | rfl | rfl | rfl | rfl
              · exact Nat.le_trans (HWl.out a1 (by simp)) (by omega)
              · exact Nat.le_trans (HWl.out a2 (by simp)) (by omega)
              · exact Nat.le_trans (HWl.out a3 (by simp)) (by omega)
              · exact Nat.le_trans (HWl.out a4 (by simp)) (by omega)
              · exact Nat.le_trans (HWl.out a5 (by simp)) (by omega)
            have hml := HWl.out m (by simp)
            have HCm : Hid (∀ W, Calls Tryz.prog 19 #[.string (bs m)] W (Ret fun v w' => v = cmT m ∧ w' = W)) := Lib.hid fun W => rCheckMark_any m W (by omega)
            by_cases he : (cmV m).2 = 0
            rotate_left 1
            · have HV := Lib.hid (HBad.out (line_mark HWs.out (box, its) he))
              unfold cmT at HCm
              generalize (cmV m).1 = n at *
              generalize (cmV m).2 = er at *
              have t2 : (er != 0) = true := by simpa using he
              clear he hcs hbox h6 hml
              go_wp2_with fail
              refine (HCm.out _).mono ?_
              rintro _ w3 ⟨v3, rfl, rfl, rfl⟩
              go_wp2
              go_ret2
              exact Ret.mk (by rw [HV.out]; exact ItErr.mk HB2.out)
            · have HLi := line_item HWs.out (box, its) he
              have hpos := cmV_pos he
              have HLi := Lib.hid HLi
              unfold cmT at HCm
              rw [he] at HCm
              generalize (cmV m).1 = n at *
              clear he hcs hbox h6 hml HWl
              go_wp2_with fail
              refine (HCm.out _).mono ?_
              rintro _ w3 ⟨v3, rfl, rfl, rfl⟩
              obtain ⟨xs, hxs⟩ : ∃ xs, xs = [a1, a2, a3, a4, a5] := ⟨_, rfl⟩
              rw [← hxs] at HCs HXl
              have h5 : ∀ i, i < 5 → arr5 xs 5 i = numI (xs.getD i []) := fun i hi => by unfold arr5; rw [if_pos hi]
              have HBads : Hid (∀ i, i < 5 → numI (xs.getD i []) < 0 → readR t = ([], 8)) := Lib.hid fun i hi hlt => HBad.out (by
                rw [HLi.out, if_pos]
                have : i = 0 ∨ i = 1 ∨ i = 2 ∨ i = 3 ∨ i = 4 := by omega
                subst hxs
                rcases this with rfl | rfl | rfl | rfl | rfl
                · exact .inl hlt
                · exact .inr (.inl hlt)
                · exact .inr (.inr (.inl hlt))
                · exact .inr (.inr (.inr (.inl hlt)))
                · exact .inr (.inr (.inr (.inr hlt))))
              have HGood : Hid ((∀ i, i < 5 → 0 ≤ numI (xs.getD i [])) → readGo waysR (ls ++ [x]) (0, []) = some (box, its ++ [⟨n, box, arr5 xs 5 0, arr5 xs 5 1, arr5 xs 5 2, arr5 xs 5 3, decide (arr5 xs 5 4 = 1)⟩])) := Lib.hid fun h => HGo.out _ (by
                rw [HLi.out, if_neg, h5 0 (by omega), h5 1 (by omega), h5 2 (by omega), h5 3 (by omega), h5 4 (by omega)]
                · subst hxs; rfl
                · have k0 := h 0 (by omega)
                  have k1 := h 1 (by omega)
                  have k2 := h 2 (by omega)
                  have k3 := h 3 (by omega)
                  have k4 := h 4 (by omega)
                  subst hxs
                  dsimp only [List.getD] at k0 k1 k2 k3 k4
                  simp at k0 k1 k2 k3 k4
                  omega)
              clear hxs h5 HLi HBad HGo HWs HS2 g0
              go_upto_region 25 with fail
              have H5 : Hid ((w3.alloc (.cells (arr5A xs 0) 127)).heap[w3.heap.size]? = some (.cells (arr5A xs 0) 127 (0, 0))) := Lib.hid (heap_alloc_new _ _)
              have hB5 := (Below.refl _ w3).alloc (Nat.le_refl _) (.cells (arr5A xs 0) 127)
              have HO5 := Lib.hid (own_below' HO2.out hB5)
              have HB5 := Lib.hid (below_trans' HB2.out hB5)
              have HBw := Lib.hid hB5
              have HBs3 := Lib.hid HB2.out.size
              clear hB5 HO2 HB2
              have ha0 : arr5A xs 0 = #[.int .i64 0, .int .i64 0, .int .i64 0, .int .i64 0, .int .i64 0] := rfl
              rw [ha0] at HO5 HB5 HBw
              have H5 : Hid ((w3.alloc (.cells #[.int .i64 0, .int .i64 0, .int .i64 0, .int .i64 0, .int .i64 0] 127)).heap[w3.heap.size]? = some (.cells (arr5A xs 0) 127 (0, 0))) := H5
              clear ha0
              generalize w3.alloc (.cells #[.int .i64 0, .int .i64 0, .int .i64 0, .int .i64 0, .int .i64 0] 127) = w5 at H5 HO5 HB5 HBw ⊢
              go_wp2
              go_loopw [14] (fun i wr => ∃ j : Nat, j ≤ 5 ∧ i = .int .i64 j ∧ Hid (∀ i, i < j → 0 ≤ numI (xs.getD i [])) ∧ Hid (wr.heap[w3.heap.size]? = some (.cells (arr5A xs j) 127 (0, 0))) ∧ Hid (wr.ownsRow w.heap.size 67 7 u4 its.length (its.flatMap encIt)) ∧ Hid (Below w.heap.size w wr) ∧ Hid (Below w3.heap.size w3 wr)) (fun i _ => 5 - (intOf i).toNat)
              case atStart => exact ⟨0, by omega, rfl, Lib.hid fun i hi => by omega, H5, HO5, HB5, HBw⟩
              case round =>
                obtain ⟨j, hj, rfl, HNn, HA, HO, HB, HBv⟩ := hrel
                by_cases hj5 : j < 5
                · have gc := HCs.out wr HBv.out j hj5
                  have hxl5 := HXl.out j hj5
                  have HSt := Lib.hid (arr5_set (xs := xs) hj5)
                  have HBj := Lib.hid (HBads.out j hj5)
                  have HNj : Hid (0 ≤ numI (xs.getD j []) → ∀ i, i < j + 1 → 0 ≤ numI (xs.getD i [])) := Lib.hid fun h i hi => by
                    by_cases e : i = j
                    · subst e; exact h
                    · exact HNn.out i (by omega)
                  have c5 : wr.cell? ⟨w3.heap.size, j, none⟩ = some (.int .i64 (arr5 xs j j)) := (blk_cell HA.out).trans (arr5_at hj5)
                  have f5 : wr.frozen? ⟨w3.heap.size, j, none⟩ = false := blk_frozen HA.out
                  generalize xs.getD j [] = y at *
                  have HNm : Hid (∀ W, Calls Tryz.prog 55 #[.string (bs y)] W (Ret fun r w' => r = numT (numR y) ∧ w' = W)) := Lib.hid fun W => rnumber_any (bs y) W (by rw [bs_size]; omega)
                  have e2 : IntKind.i64.wrap ((j : Int) + 1) = ((j + 1 : Nat) : Int) := by rw [show ((j : Int) + 1) = ((j + 1 : Nat) : Int) by omega]; exact IntWalk.i64_in _ (by omega)
                  have j0 : (0 : Int) ≤ ((j + 1 : Nat) : Int) := by omega
                  have j1 : ((j + 1 : Nat) : Int) < 6 := by omega
                  have i0 : (0 : Int) ≤ (j : Int) := by omega
                  have i5 : (j : Int) < 5 := by omega
                  clear hxl5
                  cases hn : numR y with
                  | none =>
                    rw [hn] at HNm
                    have HV := Lib.hid (HBj.out (numI_neg hn))
                    clear hn
                    go_wp2_with fail
                    refine (HNm.out _).mono ?_
                    rintro _ w6 ⟨v6, rfl, rfl, rfl⟩
                    unfold numT
                    dsimp only
                    go_wp2
                    go_ret2
                    exact Ret.mk (by rw [HV.out]; exact ItErr.mk HB.out)
                  | some d =>
                    rw [hn] at HNm
                    have hd := numI_pos hn
                    rw [hd] at HSt HNj
                    have HNk := Lib.hid (HNj.out (by omega))
                    have HAn := Lib.hid (blk_set HA.out (i := j) (.int .i64 (d : Int)))
                    rw [HSt.out] at HAn
                    have HOn := Lib.hid (ownsRow_setCell_other HO.out (a := ⟨w3.heap.size, j, none⟩) (fun e => own_ne_blk HO.out HA.out (by decide) e.symm) (.int .i64 (d : Int)))
                    have hw3 : w.heap.size ≤ w3.heap.size := HBs3.out
                    have HBn := Lib.hid (HB.out.setCell (p := ⟨w3.heap.size, j, none⟩) (by dsimp only; omega) (.int .i64 (d : Int)))
                    have HBvn := Lib.hid (HBv.out.setCell (p := ⟨w3.heap.size, j, none⟩) (by dsimp only; omega) (.int .i64 (d : Int)))
                    clear hn hd HSt HNj HBj
                    go_wp2_with fail
                    refine (HNm.out _).mono ?_
                    rintro _ w6 ⟨v6, rfl, rfl, rfl⟩
                    unfold numT
                    dsimp only
                    go_wp2
                    go_roundw
                    case rel => exact ⟨j + 1, by omega, by go_num, HNk, HAn, HOn, HBn, HBvn⟩
                    case measure => simp [intOf]; omega
                · obtain rfl : j = 5 := by omega
                  have HG2 := Lib.hid (HGood.out fun i hi => HNn.out i hi)
                  have c0 : wr.cell? ⟨w3.heap.size, 0, none⟩ = some (.int .i64 (arr5 xs 5 0)) := (blk_cell HA.out).trans (arr5_at (by omega))
                  have c1 : wr.cell? ⟨w3.heap.size, 1, none⟩ = some (.int .i64 (arr5 xs 5 1)) := (blk_cell HA.out).trans (arr5_at (by omega))
                  have c2 : wr.cell? ⟨w3.heap.size, 2, none⟩ = some (.int .i64 (arr5 xs 5 2)) := (blk_cell HA.out).trans (arr5_at (by omega))
                  have c3 : wr.cell? ⟨w3.heap.size, 3, none⟩ = some (.int .i64 (arr5 xs 5 3)) := (blk_cell HA.out).trans (arr5_at (by omega))
                  have c4 : wr.cell? ⟨w3.heap.size, 4, none⟩ = some (.int .i64 (arr5 xs 5 4)) := (blk_cell HA.out).trans (arr5_at (by omega))
                  obtain ⟨wz, hwz⟩ : ∃ x, x = wr := ⟨_, rfl⟩
                  subst hwz
                  generalize arr5 xs 5 0 = y0 at *
                  generalize arr5 xs 5 1 = y1 at *
                  generalize arr5 xs 5 2 = y2 at *
                  generalize arr5 xs 5 3 = y3 at *
                  generalize arr5 xs 5 4 = y4 at *
                  obtain ⟨cr, hcr⟩ : ∃ cr, cr = decide (y4 = 1) := ⟨_, rfl⟩
                  rw [← hcr] at HG2
                  have tcr : (y4 == 1) = cr := by rw [hcr]; rfl
                  have hbk := heap_alloc_new wz (.cells #[.int .i64 n, .int .i64 box, .int .i64 y0, .int .i64 y1, .int .i64 y2, .int .i64 y3, .bool cr] 67)
                  have HOA := Lib.hid (HO.out.alloc (.cells #[.int .i64 n, .int .i64 box, .int .i64 y0, .int .i64 y1, .int .i64 y2, .int .i64 y3, .bool cr] 67))
                  have hr6 := own_base HO.out
                  have hsw := HB.out.size
                  have HPn : Hid (∀ x ∈ its ++ [⟨n, box, y0, y1, y2, y3, cr⟩], 1 ≤ x.num) := Lib.hid fun x hx => by
                    rcases List.mem_append.1 hx with hx | hx
                    · exact HP.out x hx
                    · rw [List.mem_singleton] at hx; subst hx; exact hpos
                  clear hcr HNn HA
                  go_wp2_with (at_builtin; go_must (refine wpList_push _ rfl (.tmp 93) (.tmp 108) 44 rfl elemIt encIt_len oneIt Tryz.underlying44 w.heap.size u4 its (by rfl) HOA.out (by omega) ⟨n, box, y0, y1, y2, y3, cr⟩ wz.heap.size (by rfl) _ rfl _ _ hbk (by rw [World.size_alloc]; omega) ?_); intro g9 cap9 w9 hO9 hg9)
                  have HB9 := Lib.hid ((below_alloc' HB.out (.cells #[.int .i64 n, .int .i64 box, .int .i64 y0, .int .i64 y1, .int .i64 y2, .int .i64 y3, .bool cr] 67)).grown hg9 (by rw [World.size_alloc]; omega) (fun r e => by have := hr6 r e; omega))
                  have HO9 := Lib.hid hO9
                  clear hO9 hg9 hr6 HO HOA hbk HB
                  go_roundw
                  case rel => exact ⟨k + 1, k + 1, ls ++ [x], box, its ++ [⟨n, box, y0, y1, y2, y3, cr⟩], by omega, by omega, by rw [len_snoc]; omega, by go_num, by go_num, rfl, HN, HG2, HPn, by rw [len_snoc]; exact HO9, HB9⟩
                  case measure => simp [intOf]; omega
          · have HL := Lib.hid (line_other (l := x) (box, its) (by rw [HWs.out]; exact h6) (fun v e => hbox ⟨v, by rw [← HWs.out]; exact e⟩))
            have HV := Lib.hid (HBad.out HL.out)
            have q6 : ((ws.length : Int) != 6) = true := by simp; omega
            by_cases hl2 : ws.length = 2
            · obtain ⟨b, off, rfl, hcs⟩ := HS2.out.cells (by omega)
              have g0 := hcs 0 (by omega)
              rw [Nat.add_zero] at g0
              have hne : ws[0] ≠ boxWord := fun e => hbox (by
                match ws, hl2, e with
                | [a, v], _, e => exact ⟨v, by rw [show a = boxWord from e]⟩)
              have hne2 : ¬ bs ws[0] = ⟨#[98, 111, 120]⟩ := fun e => hne (bs_inj.1 (by rw [e]; rfl))
              have dq := toList_ne hne2
              rw [show ByteArray.toList ⟨#[98, 111, 120]⟩ = [98, 111, 120] by rw [ByteArray.toList_eq]] at dq
              have q2 : ((ws.length : Int) == 2) = true := by simp; omega
              have l0 : (0 : Int) < (ws.length : Int) := by omega
              generalize bs ws[0] = y at *
              clear hcs hne hne2 hl2 h6 hbox
              go_wp2
              go_ret2
              exact Ret.mk (by rw [HV.out]; exact ItErr.mk HB2.out)
            · have q2 : ((ws.length : Int) == 2) = false := by rw [beq_eq_false_iff_ne]; omega
              clear hl2 h6 hbox
              go_wp2
              go_ret2
              exact Ret.mk (by rw [HV.out]; exact ItErr.mk HB2.out)
    · obtain rfl : k = s.size := by omega
      have HFin : Hid (readR t = if itemsErr (toldL its) = 0 ∧ shelfT (toldL its) = t then (toldL its, 0) else ([], 8)) := Lib.hid (by
        rw [HRV.out]
        by_cases he : Prot.Ends t
        · have h1 := HR.out
          rw [← HTl.out] at h1
          have h2 := h1.done he
          unfold readV
          rw [h2, HG.out]
        · rw [read_unended he, if_neg]
          rintro ⟨_, h⟩
          exact he (by rw [← h]; exact text_ends _))
      have HTw : Hid (¬ (its.map It.num).Nodup → readR t = ([], 8)) := Lib.hid fun h => by
        rw [HFin.out, if_neg]
        rintro ⟨h1, _⟩
        refine h ?_
        have h2 : ((toldL its).map It.num).Nodup := by
          rw [List.Nodup, List.pairwise_map]
          exact (itemsErr_iff.1 h1).rise.imp fun k e => by omega
        exact ((told_perm its).map _).nodup_iff.1 h2
      obtain ⟨G, gc, rfl, hgc⟩ := own_form HO.out
      have HI := Lib.hid (RowsAt.of_own encIt_len HO.out)
      obtain ⟨wo, hwo⟩ : ∃ x, x = wr := ⟨_, rfl⟩
      subst hwo
      clear HG HR HO
      go_wp2
      go_loopw [17] (fun i wr => ∃ k q : Nat, k ≤ its.length ∧ i = .int .i64 k ∧ wr = wo.drewN q ∧ Hid (∀ j (hj : j < its.length), j < k → ∀ x ∈ its.take j, x.num ≠ its[j].num)) (fun i _ => its.length - (intOf i).toNat)
      case atStart => exact ⟨0, 0, by omega, rfl, rfl, Lib.hid fun j hj h => by omega⟩
      case round =>
        obtain ⟨i, q, hi, rfl, rfl, HM⟩ := hrel
        by_cases hin : i < its.length
        · obtain ⟨b, off, rfl, g0, -⟩ := ItemsAt.at_ HI.out hin
          have i0 : (0 : Int) ≤ (i : Int) := by omega
          have i1 : (i : Int) < (its.length : Int) := by omega
          have HCf : Hid (Calls Tryz.prog 88 #[.slice (some ⟨b, off, none⟩) its.length gc, .int .i64 its[i].num] (wo.drewN q) (Ret fun v w' => FindR its its[i].num v ∧ ∃ q2, w' = (wo.drewN q).drewN q2)) := Lib.hid (rfind_more _ gc its its[i].num _ (ItemsAt.drewN HI.out q) (by omega))
          have HQ : Hid (∀ v, FindR its its[i].num v → ∃ d : Nat, v = .int .i64 d ∧ (d = i ∧ (∀ x ∈ its.take i, x.num ≠ its[i].num) ∨ d ≠ i ∧ ¬ (its.map It.num).Nodup)) := Lib.hid fun v h => by
            rcases h with ⟨d, hd, rfl, h1, h2⟩ | ⟨_, h2⟩
            · refine ⟨d, rfl, ?_⟩
              by_cases e : d = i
              · subst e; exact .inl ⟨rfl, h2⟩
              · refine .inr ⟨e, fun hnd => ?_⟩
                rw [List.Nodup, List.pairwise_map, List.pairwise_iff_getElem] at hnd
                rcases Nat.lt_or_gt_of_ne e with h | h
                · exact hnd d i hd hin h h1
                · exact hnd i d hin hd h h1.symm
            · exact absurd rfl (h2 its[i] (List.getElem_mem hin))
          have HMn : Hid ((∀ x ∈ its.take i, x.num ≠ its[i].num) → ∀ j (hj : j < its.length), j < i + 1 → ∀ x ∈ its.take j, x.num ≠ its[j].num) := Lib.hid fun h j hj h2 => by
            by_cases e : j = i
            · subst e; exact h
            · exact HM.out j hj (by omega)
          generalize its[i].num = y at HCf HQ HMn g0
          have g0 : (wo.drewN q).cell? ⟨b, off + i * 7, none⟩ = some (.int .i64 y) := g0
          clear HM
          go_wp2_with fail
          refine HCf.out.mono ?_
          rintro _ w3 ⟨v, rfl, hv, q2, rfl⟩
          obtain ⟨d, rfl, ⟨rfl, hd⟩ | ⟨hne, hnd⟩⟩ := HQ.out v hv
          · have HM2 := Lib.hid (HMn.out hd)
            clear HMn HCf HQ hd hv
            go_wp2
            go_roundw
            case rel => exact ⟨d + 1, _, by omega, by go_num, rfl, HM2⟩
            case measure => simp [intOf]; omega
          · have HV := Lib.hid (HTw.out hnd)
            have t1 : ((d : Int) != (i : Int)) = true := by simp; omega
            have t2 : (d != i) = true := by simpa using hne
            clear HMn HCf HQ hv hne hnd
            go_wp2
            go_ret2
            exact Ret.mk (by rw [HV.out]; exact ItErr.mk (below_drewN HB.out _))
        · obtain rfl : i = its.length := by omega
          have honce := found_once fun k hk => HM.out k hk hk
          have hT := told_rise honce
          have HCs : Hid (∀ W, ItemsAt W G its → Calls Tryz.prog 74 #[.slice G its.length gc] W (Ret (ItemsQ (toldL its) W))) := Lib.hid fun W h => rsorted_any G gc its W h (by omega) honce HP.out
          have hlen : (toldL its).length ≤ 100000 := by rw [(told_perm its).length_eq]; omega
          have HIq := Lib.hid (ItemsAt.drewN HI.out q)
          have HBq := Lib.hid (below_drewN HB.out q)
          clear HM honce hT HTw
          generalize toldL its = T at *
          go_wp2_with fail
          refine (HCs.out _ HIq.out).mono ?_
          rintro _ w3 ⟨v, rfl, TA, tc, rfl, htc, hTI, hB3⟩
          have hLi := rList_any TA tc T w3 hTI hlen
          have HB3 := Lib.hid (below_trans' HBq.out hB3)
          have HTI := Lib.hid hTI
          clear hB3 hTI HCs HIq HBq HB HI
          go_wp2_with fail
          refine hLi.mono ?_
          rintro _ w4 ⟨v, rfl, rfl, hB4⟩
          have HB4 := Lib.hid (below_trans' HB3.out hB4)
          have HTI4 := Lib.hid (ItemsAt.below HTI.out hB4)
          clear hB4 hLi HB3 HTI
          by_cases he : itemsErr T = 0
          rotate_left 1
          · have HV : Hid (readR t = ([], 8)) := Lib.hid (by rw [HFin.out, if_neg (fun h => he h.1)])
            rw [listA_err he]
            unfold textT
            dsimp only
            generalize itemsErr T = er at *
            have t1 : (er != 0) = true := by simpa using he
            clear he
            go_wp2
            go_ret2
            exact Ret.mk (by rw [HV.out]; exact ItErr.mk HB4.out)
          · rw [listA_ok he]
            unfold textT
            dsimp only
            by_cases heq : shelfT T = t
            · have HV : Hid (readR t = (T, 0)) := Lib.hid (by rw [HFin.out, if_pos ⟨he, heq⟩])
              have hs0 : bs (shelfT T) = s := by rw [heq]; exact HSb.out.symm
              rw [hs0]
              clear he heq hs0 HFin
              go_wp2
              go_ret2
              exact Ret.mk (by rw [HV.out]; exact ⟨TA, tc, rfl, htc, HTI4.out, HB4.out⟩)
            · have HV : Hid (readR t = ([], 8)) := Lib.hid (by rw [HFin.out, if_neg (fun h => heq h.2)])
              have hs0 : ¬ bs (shelfT T) = s := by rw [HSb.out]; exact fun h => heq (bs_inj.1 h)
              have d5 := toList_ne hs0
              generalize bs (shelfT T) = z at *
              clear he heq hs0 HFin
              go_wp2
              go_ret2
              exact Ret.mk (by rw [HV.out]; exact ItErr.mk HB4.out)
end Go.Proofs.YtkpmmgeffbhngaaGreatDoor
namespace Go.Proofs.YtkpmmgeffbhngaaGreatDoor
open Go.RowKit Go.Shelf Prot Go.Lib Go.Maps
set_option maxRecDepth 100000 in
set_option maxHeartbeats 4000000 in
theorem protocolLists_any (A : Option Addr) (ca : Nat) (its : List It) (l : List UInt8) (w : World) (hT : Tab w) (hl : ItemsAt w A its) (hca : its.length ≤ ca) : Calls Tryz.prog 7 #[.slice A its.length ca, .string (bs l)] w (Ret fun v w' => v = .bool true ∧ Below w.heap.size w w') := by
  have HB0 := Lib.hid (Below.refl w.heap.size w)
  have HT := Lib.hid hT
  clear hT
  have HL := Lib.hid hl
  clear hl
  obtain ⟨z, hz⟩ : ∃ z, (bs l).size = z := ⟨_, rfl⟩
  have hzl : l.length = z := by rw [← hz, bs_size]
  by_cases h0 : 70 < its.length
  · have d1 : decide ((its.length : Int) > 70) = true := decide_eq_true (by omega)
    have d2 : decide ((70 : Int) < (its.length : Int)) = true := decide_eq_true (by omega)
    clear h0
    go_enter Tryz.func7, Tryz.ntmps7
    go_wp2_with fail
    refine (works_any _ HT.out).mono ?_
    rintro e wz ⟨v, rfl, rfl, hBz⟩
    go_wp2
    go_ret
    exact Ret.mk ⟨rfl, below_trans' HB0.out hBz⟩
  have m1 : decide ((its.length : Int) > 70) = false := decide_eq_false (by omega)
  have m2 : decide ((70 : Int) < (its.length : Int)) = false := decide_eq_false (by omega)
  by_cases g2 : 5000 < z ∧ z ≤ 65536
  · have d1 : decide (((bs l).size : Int) > 5000) = true := decide_eq_true (by omega)
    have d2 : decide ((5000 : Int) < ((bs l).size : Int)) = true := decide_eq_true (by omega)
    have d3 : decide (((bs l).size : Int) ≤ 65536) = true := decide_eq_true (by omega)
    clear g2 hz hzl
    go_enter Tryz.func7, Tryz.ntmps7
    go_wp2_with fail
    refine (works_any _ HT.out).mono ?_
    rintro e wz ⟨v, rfl, rfl, hBz⟩
    go_wp2
    go_ret
    exact Ret.mk ⟨rfl, below_trans' HB0.out hBz⟩
  by_cases g1 : 70000 < z
  · have d1 : decide (((bs l).size : Int) > 5000) = true := decide_eq_true (by omega)
    have d2 : decide ((5000 : Int) < ((bs l).size : Int)) = true := decide_eq_true (by omega)
    have d3 : decide (((bs l).size : Int) ≤ 65536) = false := decide_eq_false (by omega)
    have d5 : decide (((bs l).size : Int) > 70000) = true := decide_eq_true (by omega)
    have d6 : decide ((70000 : Int) < ((bs l).size : Int)) = true := decide_eq_true (by omega)
    clear g1 g2 hz hzl
    go_enter Tryz.func7, Tryz.ntmps7
    go_wp2_with fail
    refine (works_any _ HT.out).mono ?_
    rintro e wz ⟨v, rfl, rfl, hBz⟩
    go_wp2
    go_ret
    exact Ret.mk ⟨rfl, below_trans' HB0.out hBz⟩
  have hl9 : l.length ≤ 100000 := by omega
  have hsz : (bs l).size ≤ 9223372036854775807 := by omega
  have hn : its.length ≤ 100000 := by omega
  have HCRead : Hid (∀ W, Tab W → Calls Tryz.prog 39 #[.string (bs l)] W (Ret (ItQ (readA l) W))) := Lib.hid fun W hW => ReadList_any l W hW hl9
  have HCrRead : Hid (∀ W, Calls Tryz.prog 40 #[.string (bs l)] W (Ret (ItQ (readA l) W))) := Lib.hid fun W => by
    have := rReadList_any (bs l) W hsz
    rw [bs_list] at this
    exact this
  have hsl : (readA l).1.length ≤ 1000000 := Nat.le_trans (readA_len l) (by omega)
  have HCl : Hid (∀ W, Tab W → ItemsAt W A its → Calls Tryz.prog 37 #[.slice A its.length ca] W (Ret fun v w' => v = .tuple #[.string (bs (listA its).1), .int .i64 (listA its).2] ∧ Below W.heap.size W w')) := Lib.hid fun W hW hI => List_any A ca its W hW hI hca hn
  have HCr : Hid (∀ W, ItemsAt W A its → Calls Tryz.prog 38 #[.slice A its.length ca] W (Ret fun v w' => v = .tuple #[.string (bs (listA its).1), .int .i64 (listA its).2] ∧ Below W.heap.size W w')) := Lib.hid fun W hI => rList_any A ca its W hI hn
  generalize readA l = ra at *
  generalize listA its = la at *
  clear hl9 hsz hzl h0 hn
  by_cases g3 : z ≤ 5000
  · have d1 : decide (((bs l).size : Int) > 5000) = false := decide_eq_false (by omega)
    have d2 : decide ((5000 : Int) < ((bs l).size : Int)) = false := decide_eq_false (by omega)
    have d5 : decide (((bs l).size : Int) > 70000) = false := decide_eq_false (by omega)
    have d6 : decide ((70000 : Int) < ((bs l).size : Int)) = false := decide_eq_false (by omega)
    clear g1 g2 g3 hz
    go_enter Tryz.func7, Tryz.ntmps7
    have Hc := Lib.hid (HCl.out w HT.out HL.out)
    go_wp2_with fail
    refine Hc.out.mono ?_
    rintro e w1 ⟨v, rfl, rfl, hb⟩
    have HB1 := Lib.hid (below_trans' HB0.out hb)
    replace HT := Lib.hid (HT.out.below hb)
    replace HL := Lib.hid (HL.out.below hb)
    clear hb Hc HB0
    have Hc := Lib.hid (HCr.out w1 HL.out)
    go_wp2_with fail
    refine Hc.out.mono ?_
    rintro e w2 ⟨v, rfl, rfl, hb⟩
    have HB2 := Lib.hid (below_trans' HB1.out hb)
    replace HT := Lib.hid (HT.out.below hb)
    replace HL := Lib.hid (HL.out.below hb)
    clear hb Hc HB1
    generalize bs la.1 = fs at *
    generalize la.2 = fe at *
    have Hc := Lib.hid (HCRead.out w2 HT.out)
    go_wp2_with fail
    refine Hc.out.mono ?_
    rintro e w3 ⟨v, rfl, A7, c7, rfl, h5, h6, hb⟩
    have HB3 := Lib.hid (below_trans' HB2.out hb)
    replace HT := Lib.hid (HT.out.below hb)
    replace HL := Lib.hid (HL.out.below hb)
    clear hb Hc HB2
    have HR7 := Lib.hid h6
    clear h5 h6
    have Hc := Lib.hid (HCrRead.out w3)
    go_wp2_with fail
    refine Hc.out.mono ?_
    rintro e w4 ⟨v, rfl, A8, c8, rfl, h5, h6, hb⟩
    have HB4 := Lib.hid (below_trans' HB3.out hb)
    replace HT := Lib.hid (HT.out.below hb)
    replace HL := Lib.hid (HL.out.below hb)
    replace HR7 := Lib.hid (HR7.out.below hb)
    clear hb Hc HB3
    have HR8 := Lib.hid h6
    clear h5 h6
    have Hc := Lib.hid (items_same A7 A8 c7 c8 ra.1 w4 HR7.out HR8.out hsl)
    go_wp2_with fail
    refine Hc.out.mono ?_
    rintro e w5 ⟨v, rfl, rfl, hb⟩
    have HB5 := Lib.hid (below_trans' HB4.out hb)
    replace HT := Lib.hid (HT.out.below hb)
    replace HL := Lib.hid (HL.out.below hb)
    replace HR7 := Lib.hid (HR7.out.below hb)
    replace HR8 := Lib.hid (HR8.out.below hb)
    clear hb Hc HB4
    go_wp2_with fail
    refine (works_any _ HT.out).mono ?_
    rintro e wz ⟨v, rfl, rfl, hBz⟩
    go_wp2
    go_ret
    exact Ret.mk ⟨rfl, below_trans' HB5.out hBz⟩
  · have d1 : decide (((bs l).size : Int) > 5000) = true := decide_eq_true (by omega)
    have d2 : decide ((5000 : Int) < ((bs l).size : Int)) = true := decide_eq_true (by omega)
    have d3 : decide (((bs l).size : Int) ≤ 65536) = false := decide_eq_false (by omega)
    have d5 : decide (((bs l).size : Int) > 70000) = false := decide_eq_false (by omega)
    have d6 : decide ((70000 : Int) < ((bs l).size : Int)) = false := decide_eq_false (by omega)
    clear g1 g2 g3 hz
    go_enter Tryz.func7, Tryz.ntmps7
    have Hc := Lib.hid (HCl.out w HT.out HL.out)
    go_wp2_with fail
    refine Hc.out.mono ?_
    rintro e w1 ⟨v, rfl, rfl, hb⟩
    have HB1 := Lib.hid (below_trans' HB0.out hb)
    replace HT := Lib.hid (HT.out.below hb)
    replace HL := Lib.hid (HL.out.below hb)
    clear hb Hc HB0
    have Hc := Lib.hid (HCr.out w1 HL.out)
    go_wp2_with fail
    refine Hc.out.mono ?_
    rintro e w2 ⟨v, rfl, rfl, hb⟩
    have HB2 := Lib.hid (below_trans' HB1.out hb)
    replace HT := Lib.hid (HT.out.below hb)
    replace HL := Lib.hid (HL.out.below hb)
    clear hb Hc HB1
    generalize bs la.1 = fs at *
    generalize la.2 = fe at *
    have Hc := Lib.hid (HCRead.out w2 HT.out)
    go_wp2_with fail
    refine Hc.out.mono ?_
    rintro e w3 ⟨v, rfl, A7, c7, rfl, h5, h6, hb⟩
    have HB3 := Lib.hid (below_trans' HB2.out hb)
    replace HT := Lib.hid (HT.out.below hb)
    replace HL := Lib.hid (HL.out.below hb)
    clear hb Hc HB2
    have HR7 := Lib.hid h6
    clear h5 h6
    have Hc := Lib.hid (HCrRead.out w3)
    go_wp2_with fail
    refine Hc.out.mono ?_
    rintro e w4 ⟨v, rfl, A8, c8, rfl, h5, h6, hb⟩
    have HB4 := Lib.hid (below_trans' HB3.out hb)
    replace HT := Lib.hid (HT.out.below hb)
    replace HL := Lib.hid (HL.out.below hb)
    replace HR7 := Lib.hid (HR7.out.below hb)
    clear hb Hc HB3
    have HR8 := Lib.hid h6
    clear h5 h6
    have Hc := Lib.hid (items_same A7 A8 c7 c8 ra.1 w4 HR7.out HR8.out hsl)
    go_wp2_with fail
    refine Hc.out.mono ?_
    rintro e w5 ⟨v, rfl, rfl, hb⟩
    have HB5 := Lib.hid (below_trans' HB4.out hb)
    replace HT := Lib.hid (HT.out.below hb)
    replace HL := Lib.hid (HL.out.below hb)
    replace HR7 := Lib.hid (HR7.out.below hb)
    replace HR8 := Lib.hid (HR8.out.below hb)
    clear hb Hc HB4
    go_wp2_with fail
    refine (works_any _ HT.out).mono ?_
    rintro e wz ⟨v, rfl, rfl, hBz⟩
    go_wp2
    go_ret
    exact Ret.mk ⟨rfl, below_trans' HB5.out hBz⟩
end Go.Proofs.YtkpmmgeffbhngaaGreatDoor
