/- What the laws of the chapter rest on, part 41. -/
import Derived.Test.YtkpmmgeffbhngaaGreatDoorC23
import Derived.Test.YtkpmmgeffbhngaaGreatDoorC37
import Derived.Test.YtkpmmgeffbhngaaGreatDoorC38
import Derived.Test.YtkpmmgeffbhngaaGreatDoorC39
set_option linter.unusedSimpArgs false
set_option linter.unusedVariables false
set_option linter.unnecessarySimpa false
namespace Prot
end Prot
namespace Go.Shelf
end Go.Shelf
namespace Go.Maps
end Go.Maps
namespace Go.Proofs.YtkpmmgeffbhngaaGreatDoor
open Go.RowKit Go.Shelf Prot Go.Lib Go.Maps
theorem cloneI_any (A : Option Addr) (ca : Nat) (l : List It) (w : World) (hl : ItemsAt w A l) (h0 : 0 < l.length) (hn : l.length ≤ 1000) :
    Calls Tryz.prog 81 #[.slice A l.length ca] w (Ret fun v w' => w'.ownsRow w.heap.size 67 7 v l.length (l.flatMap encIt) ∧ Below w.heap.size w w') := by
  obtain ⟨b, off, rfl, _⟩ := hl 0 h0
  obtain ⟨i0, hi, hz0, hz1, hz2⟩ := info_parts elemIt.info
  refine (AnyE.slices_Clone Tryz.laysCloneI i0 _ 7 56 hi hz0 hz1 hz2 rfl (by omega) (by intro w; kernel_rfl) b off l.length ca (l.flatMap encIt) w (flatMap_len encIt_len l) (by unfold maxLen; omega) (by omega) (fun j u hj => ?_) (fun u hu => ?_)).mono ?_
  · have := RowsAt.olds encIt_len hl _ rfl j u hj
    have hadd : (⟨b, off, none⟩ : Addr).add j = ⟨b, off + j, none⟩ := by unfold Addr.add; split <;> simp_all
    rw [hadd] at this; exact this
  · rw [List.mem_flatMap] at hu
    obtain ⟨x, _, hx⟩ := hu
    exact oneIt x u hx
  · rintro _ w' ⟨v', rfl, h1, _, h2⟩
    exact Ret.mk ⟨h1, h2⟩
set_option maxRecDepth 100000 in
set_option maxHeartbeats 400000 in
theorem clone0 (A : Option Addr) (ca : Nat) (w : World) :
    Calls Tryz.prog 81 #[.slice A 0 ca] w (Ret fun v w' => w'.ownsRow w.heap.size 67 7 v 0 ([] : List Value) ∧ Below w.heap.size w w') := by
  cases A with
  | none =>
    refine (AnyE.slices_Clone_nil Tryz.laysCloneI 0 ca w).mono ?_
    rintro _ _ ⟨rfl, rfl⟩
    exact Ret.mk ⟨World.ownsRow_nil _ _ _ _, Below.refl _ _⟩
  | some a =>
    obtain ⟨i0, hi, hz0, hz1, hz2⟩ := info_parts elemIt.info
    have q44 : ∀ (w : World) (a : Option Addr) (n c n' c' : Nat), (binOp .eql 44 (.slice a n c) (.slice none n' c')).run Tryz.prog w = .ok (.bool a.isNone) w := fun w a n c n' c' => Lib.run_eql_slice_nil w _ _ a n c n' c' Tryz.laysCloneI.t22
    go_enter Tryz.func81, Tryz.ntmps81
    go_wp2_with (at_builtin; refine wpList_append_own _ rfl _ _ 44 rfl w.heap.size 67 i0 _ 7 56 (by kernel_rfl) hi hz0 hz1 hz2 rfl (by omega) _ _ _ rfl (World.ownsRow_made w #[] 0 (Nat.le_refl _) (Nat.zero_le _) (by simp)) a 0 ca [] rfl rfl (by simp) (by simp) (by unfold maxLen; omega) (by omega) (by simp) ?_)
    intro v' w1 hown hgrow hnil
    go_wp2
    go_ret
    exact Ret.mk ⟨hown, ((Below.refl _ w).alloc (Nat.le_refl _) _).grown hgrow (by simp) (by intro k hk; simp [Value.ownBlock] at hk; omega)⟩
theorem clone_any (A : Option Addr) (ca : Nat) (l : List It) (w : World) (hl : ItemsAt w A l) (hn : l.length ≤ 1000) :
    Calls Tryz.prog 81 #[.slice A l.length ca] w (Ret fun v w' => w'.ownsRow w.heap.size 67 7 v l.length (l.flatMap encIt) ∧ Below w.heap.size w w') := by
  cases l with
  | nil => exact clone0 A ca w
  | cons x l => exact cloneI_any A ca (x :: l) w hl (by simp) hn
theorem item_nat {x : It} (h : ItOk x) : ∃ n1 n2 n3 n4 n5 n6 : Nat, x = ⟨n1, n2, n3, n4, n5, n6, x.cracked⟩ ∧ n1 ≤ 1099511627776 ∧ 1 ≤ n2 ∧ n2 ≤ 999 ∧ n3 ≤ 100000 ∧ n4 ≤ 99 ∧ n5 ≤ 400 ∧ n6 ≤ 1099511627776 := by
  have hm : (maxN : Int) = 1099511627776 := rfl
  obtain ⟨a, b, c, d, e, f⟩ := h
  refine ⟨x.num.toNat, x.box.toNat, x.day.toNat, x.voice.toNat, x.turns.toNat, x.src.toNat, ?_, by omega, by omega, by omega, by omega, by omega, by omega, by omega⟩
  cases x with
  | mk a1 a2 a3 a4 a5 a6 a7 =>
    dsimp only at *
    congr 1 <;> omega
/-- what is written up to cylinder k, with its box's line -/
def headT (out : List UInt8) (box : Int) (x : It) : List UInt8 := if x.box ≠ box then out ++ (joinSp (headW x.box.toNat) ++ [10]) else out
theorem write_at {Z : List It} {k : Nat} (hk : k < Z.length) {x : It} (hx : Z[k] = x) (box : Int) (out : List UInt8) : writeGo (Z.drop k) box out = writeGo (Z.drop (k + 1)) x.box (headT out box x ++ (joinSp (itemW x) ++ [10])) := by
  rw [List.drop_eq_getElem_cons hk, hx]
  unfold headT
  show (if x.box ≠ box then _ else _) = _
  split
  · rfl
  · rename_i h
    have h : x.box = box := by simpa using h
    rw [h]
theorem five_cells {V : World} {N : Nat} {a1 a2 a3 a4 a5 a6 : Int} {a7 : Bool} {t : TypeId} {f : Nat × Nat} (h : V.heap[N]? = some (.cells #[.int .i64 a1, .int .i64 a2, .int .i64 a3, .int .i64 a4, .int .i64 a5, .int .i64 a6, .bool a7] t f)) :
    V.cell? ⟨N, 0, none⟩ = some (.int .i64 a1) ∧ V.cell? ⟨N, 2, none⟩ = some (.int .i64 a3) ∧ V.cell? ⟨N, 3, none⟩ = some (.int .i64 a4) ∧ V.cell? ⟨N, 4, none⟩ = some (.int .i64 a5) ∧ V.cell? ⟨N, 5, none⟩ = some (.int .i64 a6) :=
  ⟨(blk_cell h).trans rfl, (blk_cell h).trans rfl, (blk_cell h).trans rfl, (blk_cell h).trans rfl, (blk_cell h).trans rfl⟩
theorem any_notOk (l : List It) : (l.any fun x => !okB x) = !l.all okB := by
  induction l with
  | nil => rfl
  | cons x l ih => rw [List.any_cons, List.all_cons, ih]; cases okB x <;> rfl
theorem listA_e {l : List It} {e : Int} (h : itemsErr l = e) (he : e ≠ 0) : listA l = ([], e) := by unfold listA; rw [h, if_pos he]
set_option maxRecDepth 100000 in
set_option maxHeartbeats 1000000 in
theorem List_any (A : Option Addr) (ca : Nat) (l : List It) (w : World) (hT : Tab w) (hl : ItemsAt w A l) (hca : l.length ≤ ca) (hn : l.length ≤ 100000) :
    Calls Tryz.prog 37 #[.slice A l.length ca] w (Ret fun v w' => v = textT (listA l) ∧ Below w.heap.size w w') := by
  have HT := Lib.hid hT
  have Hl := Lib.hid hl
  have HCb := Lib.hid (containsBadI_any A ca l w hl hn)
  clear hl hT
  by_cases h60 : 60 < l.length
  · have HR := Lib.hid (listA_e (l := l) (e := 6) (by unfold itemsErr; rw [if_pos h60]) (by omega))
    have t1 : decide ((l.length : Int) > 60) = true := decide_eq_true (by omega)
    have t2 : decide (60 < l.length) = true := decide_eq_true h60
    clear h60
    go_enter Tryz.func37, Tryz.ntmps37
    go_wp2
    go_ret2
    exact Ret.mk ⟨by rw [HR.out]; rfl, Below.refl _ _⟩
  have t1 : decide ((l.length : Int) > 60) = false := decide_eq_false (by omega)
  have t2 : decide (60 < l.length) = false := decide_eq_false h60
  have hn60 : l.length ≤ 60 := by omega
  rw [any_notOk] at HCb
  cases hall : l.all okB with
  | false =>
    rw [hall] at HCb
    have HR := Lib.hid (listA_e (l := l) (e := 3) (by unfold itemsErr; rw [if_neg h60, if_pos hall]) (by omega))
    clear hall h60
    go_enter Tryz.func37, Tryz.ntmps37
    go_wp2_with fail
    refine HCb.out.mono ?_
    rintro _ w1 ⟨v, rfl, rfl, hB1⟩
    go_wp2
    go_ret2
    exact Ret.mk ⟨by rw [HR.out]; rfl, hB1⟩
  | true =>
    rw [hall] at HCb
    have HOk : Hid (∀ x ∈ l, ItOk x) := Lib.hid fun x hx => okB_iff.1 (List.all_eq_true.1 hall x hx)
    have HE3 : Hid (riseB l = false → listA l = ([], 15)) := Lib.hid fun h => listA_e (by unfold itemsErr; rw [if_neg h60, if_neg (by rw [hall]; simp), if_pos h]) (by omega)
    have HE4 : Hid (riseB l = true → (l.any fun x => decide (12 < room l x.box)) = true → listA l = ([], 10)) := Lib.hid fun h h2 => listA_e (by unfold itemsErr; rw [if_neg h60, if_neg (by rw [hall]; simp), if_neg (by rw [h]; simp), if_pos h2]) (by omega)
    have HE5 : Hid (riseB l = true → (l.any fun x => decide (12 < room l x.box)) = false → listA l = (shelfT l, 0) ∧ ListOk l ∧ itemsErr l = 0) := Lib.hid fun h h2 => by
      have e : itemsErr l = 0 := by unfold itemsErr; rw [if_neg h60, if_neg (by rw [hall]; simp), if_neg (by rw [h]; simp), if_neg (by rw [h2]; simp)]
      exact ⟨by unfold listA; rw [e, if_neg (by simp)], itemsErr_iff.1 e, e⟩
    clear hall h60
    go_enter Tryz.func37, Tryz.ntmps37
    go_wp2_with fail
    refine HCb.out.mono ?_
    rintro _ w1 ⟨v, rfl, rfl, hB1⟩
    have HB1 := Lib.hid hB1
    have Hl1 := Lib.hid (Hl.out.below hB1)
    clear hB1 HCb
    go_wp2
    go_loopw [4] (fun i wr => ∃ k q : Nat, 1 ≤ k ∧ (k ≤ l.length ∨ k = 1) ∧ i = .int .i64 k ∧ wr = w1.drewN q ∧ Hid (Rise (l.take k))) (fun i _ => l.length - (intOf i).toNat)
    case atStart => exact ⟨1, 0, Nat.le_refl _, .inr rfl, rfl, rfl, Lib.hid (by cases l with | nil => exact List.Pairwise.nil | cons x l => exact List.pairwise_singleton _ _)⟩
    case round =>
      obtain ⟨k, q, hk1, hk2, rfl, rfl, HRi⟩ := hrel
      by_cases hkl : k < l.length
      · obtain ⟨k', hk'⟩ : ∃ k', k = k' + 1 := ⟨k - 1, by omega⟩
        subst hk'
        obtain ⟨b, off, rfl, g0, -⟩ := Hl1.out.at_ hkl
        obtain ⟨b', off', e', y0, -⟩ := Hl1.out.at_ (i := k') (by omega)
        injection e' with e'; injection e' with e1 e2
        subst e1; subst e2
        have hnx := rise_next (k := k' + 1) HRi.out (by omega) hkl
        have hst := rise_stop (k := k' + 1) (by omega) hkl
        simp only [Nat.add_sub_cancel] at hnx hst
        have HNx := Lib.hid hnx
        have HSt := Lib.hid hst
        clear hnx hst
        have g0 : (w1.drewN q).cell? ⟨b, off + (k' + 1) * 7, none⟩ = some (.int .i64 l[k' + 1].num) := g0
        have y0 : (w1.drewN q).cell? ⟨b, off + k' * 7, none⟩ = some (.int .i64 l[k'].num) := y0
        have f1 : (k' : Int) + 1 < (l.length : Int) := by omega
        have f8 : IntKind.i64.wrap ((k' : Int) + 1 + 1) = (k' : Int) + 1 + 1 := IntWalk.i64_in _ (by omega)
        have f2 : IntKind.i64.wrap ((k' : Int) + 1 - 1) = (k' : Int) := by rw [show (k' : Int) + 1 - 1 = k' by omega]; exact IntWalk.i64_in _ (by omega)
        have f7 : IntKind.i64.wrap (k' : Int) = (k' : Int) := IntWalk.i64_in _ (by omega)
        have f3 : (0 : Int) ≤ (k' : Int) := by omega
        have f4 : (k' : Int) < (l.length : Int) := by omega
        have f5 : (0 : Int) ≤ (k' : Int) + 1 := by omega
        have f6 : ((k' : Int) + 1).toNat = k' + 1 := by omega
        generalize l[k' + 1].num = x at *
        generalize l[k'].num = y at *
        by_cases hlt : y < x
        · have t3 : decide (x ≤ y) = false := decide_eq_false (by omega)
          have HR2 := Lib.hid (HNx.out hlt)
          clear hlt HNx HSt
          go_upto_region 8 with fail
          go_quiet (fail)
          go_wp2
          go_roundw
          case rel => exact ⟨k' + 1 + 1, _, by omega, .inl (by omega), by go_num, (by first | rfl | exact World.drewN_drewN _ _ _), HR2⟩
          case measure => simp [intOf]; omega
        · have t3 : decide (x ≤ y) = true := decide_eq_true (by omega)
          have HR2 := Lib.hid (HE3.out (HSt.out hlt))
          clear hlt HNx HSt
          go_upto_region 8 with fail
          go_quiet (fail)
          go_wp2
          go_ret2
          exact Ret.mk ⟨by rw [HR2.out]; rfl, below_drewN HB1.out _⟩
      · have hri : riseB l = true := riseB_iff.2 (by have h := HRi.out; rw [List.take_of_length_le (by omega)] at h; exact h)
        have f1 : ¬ (k : Int) < (l.length : Int) := by omega
        have HB2 := Lib.hid (below_drewN HB1.out q)
        have Hl2 := Lib.hid (Hl1.out.drewN q)
        have hbox : ∀ x ∈ l, 0 ≤ x.box ∧ x.box < 1000 := fun x hx => by have := (HOk.out x hx).box; omega
        have HE4' := Lib.hid (HE4.out hri)
        have HE5' := Lib.hid (HE5.out hri)
        have HMx : Hid (decide (12 < Lib.maxOf (roomsL l)) = l.any fun x => decide (12 < room l x.box)) := Lib.hid (max_rooms hbox)
        have HT2 := Lib.hid (HT.out.below HB2.out)
        generalize w1.drewN q = w2 at *
        have HS := Lib.hid (shelve_any A ca l w2 Hl2.out (by omega) hbox)
        obtain ⟨S, hS⟩ : ∃ S, shelfC l = S := ⟨_, rfl⟩
        have HI : Hid ((Tryz.prog.info? 120).map (·.size) = some S.size) := Lib.hid (by rw [info120, ← hS, shelfC_size])
        have HO : Hid (S.all (·.oneCell') = true) := Lib.hid (by rw [← hS]; exact shelfC_one l)
        have HZs : Hid (Tryz.zeroCells120.size = S.size) := Lib.hid (by rw [zero120, ← hS, shelfC_size]; simp)
        have HSat : Hid (∀ j, j < (roomsL l).length → S[j]? = some (.int .i64 ((roomsL l).getD j 0))) := Lib.hid fun j hj => by
          rw [roomsL_len] at hj
          rw [← hS, shelfC_at l hj, roomsL_at l hj]
        rw [hS] at HS
        clear hS hri HE4 HE5 HE3 hk1 hk2 HRi hkl hbox
        go_wp2_with fail
        refine HS.out.mono ?_
        rintro _ w3 ⟨v, rfl, rfl, hB3⟩
        have HB3 := Lib.hid (below_trans' HB2.out hB3)
        have Hl3 := Lib.hid (Hl2.out.below hB3)
        have HT3 := Lib.hid (HT2.out.below hB3)
        have HX3 := Lib.hid (heap_alloc_new w3 (.cells Tryz.zeroCells120 120))
        clear hB3 HS HT2 Hl2 HB2 HB1 Hl1 Hl HT f1
        go_upto_region 11 with (first
          | (refine wpList_store_row rfl 120 (.tmp 5) (.tmp 36) rfl w3.heap.size S (by rfl) (by rfl) 120 Tryz.zeroCells120 HX3.out HI.out HZs.out HO.out ?_))
        go_frame
        have HX4 : Hid (((w3.alloc (.cells Tryz.zeroCells120 120)).setRow w3.heap.size S).heap[w3.heap.size]? = some (.cells S 120 (0, 0))) := Lib.hid (setRow_heap _ _ _ _ _ _ HX3.out)
        have hB4 : Below w3.heap.size w3 ((w3.alloc (.cells Tryz.zeroCells120 120)).setRow w3.heap.size S) := below_setRow (below_alloc' (Below.refl _ _) _) (Nat.le_refl _) S
        have HB4 := Lib.hid (below_trans' HB3.out hB4)
        have Hl4 := Lib.hid (Hl3.out.below hB4)
        have HT4 := Lib.hid (HT3.out.below hB4)
        clear hB4 HX3 HB3 Hl3 HT3
        generalize (w3.alloc (.cells Tryz.zeroCells120 120)).setRow w3.heap.size S = w4 at *
        generalize w3.heap.size = sb at *
        have HMa := Lib.hid (Tryz.slices_Max_int sb 0 1000 1000 (roomsL l) w4 (by omega) (by rw [roomsL_len]; exact Nat.le_refl _) (by omega) (fun j hj => by rw [Nat.zero_add, blk_cell HX4.out]; exact HSat.out j hj))
        rw [List.take_of_length_le (by rw [roomsL_len]; exact Nat.le_refl _)] at HMa
        generalize Lib.maxOf (roomsL l) = mx at *
        go_wp2_with fail
        refine HMa.out.mono ?_
        rintro _ w5 ⟨rfl, rfl⟩
        cases hmx : l.any fun x => decide (12 < room l x.box) with
        | true =>
          rw [hmx] at HMx
          have t5 : decide (mx > 12) = true := HMx.out
          have t6 : decide (12 < mx) = true := HMx.out
          have HR := Lib.hid (HE4'.out hmx)
          clear hmx HMa HMx
          go_wp2
          go_ret2
          exact Ret.mk ⟨by rw [HR.out]; rfl, HB4.out⟩
        | false =>
          rw [hmx] at HMx
          have t5 : decide (mx > 12) = false := HMx.out
          have t6 : decide (12 < mx) = false := HMx.out
          obtain ⟨hla, hlo, hie⟩ := HE5'.out hmx
          have HR := Lib.hid hla
          have HLo := Lib.hid hlo
          have HLen := Lib.hid (shelf_len hie)
          clear hmx HMa HMx hla hlo hie HE4' HE5'
          have HZ81 := Lib.hid (clone_any A ca l w5 Hl4.out (by omega))
          clear HX4 HI HO HZs HSat
          go_wp2_with fail
          refine HZ81.out.mono ?_
          rintro _ w6 ⟨v, rfl, hO5, hB5⟩
          obtain ⟨A5, c5, rfl, hc5⟩ := own_form hO5
          have HSo := Lib.hid (sortStable_any _ _ l w6 hO5 (by omega) (fun t ht => (HLo.out.ok t ht).num) HLo.out.rise)
          have HB5 := Lib.hid (below_trans' HB4.out hB5)
          have hb45 := hB5.size
          have HT5 := Lib.hid (HT4.out.below hB5)
          have HB45 := Lib.hid hB5
          have hs5 := HB4.out.size
          clear HZ81 hO5 hB5 HB4 Hl4
          go_wp2_with fail
          refine HSo.out.mono ?_
          rintro _ w7 ⟨v, rfl, ⟨Z, hperm, hhi, hO6⟩, hg6⟩
          have HF := Lib.hid (write_shelf l)
          rw [← sorted_is HLo.out hperm hhi] at HF
          have HZo : Hid (∀ x ∈ Z, ItOk x) := Lib.hid fun x hx => HLo.out.ok x (hperm.subset hx)
          have hZn : Z.length = l.length := hperm.length_eq
          have HIZ : Hid (ItemsAt w7 A5 Z) := Lib.hid (RowsAt.of_own (c := c5) encIt_len (by rw [hZn] at hO6 ⊢; exact hO6))
          have HB7 := Lib.hid (HB5.out.grown hg6 (by have := HB5.out.size; omega) (fun k e => by have := (hO6.lt k e).1; omega))
          have HT7 := Lib.hid (HT4.out.below (HB45.out.grown hg6 hb45 (fun k e => (hO6.lt k e).1)))
          rw [← HF.out] at HR
          have HLZ : Hid ((writeGo Z 0 []).length ≤ 4800) := Lib.hid (by rw [HF.out]; exact HLen.out)
          clear hO6 hg6 HB5 HT5 HB45 HF HSo HLo HOk hperm hhi HLen HT4 hb45
          go_wp2_with fail
          go_loopw [7, 8, 46] (fun o b i wr => ∃ (k : Nat) (out : List UInt8) (box : Int), k ≤ Z.length ∧ o = .string (bs out) ∧ b = .int .i64 box ∧ i = .int .i64 k ∧ Hid (writeGo (Z.drop k) box out = writeGo Z 0 []) ∧ Hid (Below w7.heap.size w7 wr)) (fun _ _ i _ => Z.length - (intOf i).toNat)
          case atStart => exact ⟨0, [], 0, Nat.zero_le _, rfl, rfl, rfl, Lib.hid rfl, Lib.hid (Below.refl _ _)⟩
          case round =>
            obtain ⟨k, out, box, hk, rfl, rfl, rfl, HG, HBr⟩ := hrel
            have HTr := Lib.hid (HT7.out.below HBr.out)
            by_cases hkz : k < Z.length
            · obtain ⟨b, off, rfl, g0, g1, g2, g3, g4, g5, g6⟩ := (ItemsAt.below HIZ.out HBr.out).at_ hkz
              obtain ⟨x, hx⟩ : ∃ x, Z[k] = x := ⟨_, rfl⟩
              rw [hx] at g0 g1 g2 g3 g4 g5 g6
              obtain ⟨n1, n2, n3, n4, n5, n6, hxe, m1, m2, m3, m4, m5, m6, m7⟩ := item_nat (HZo.out x (hx ▸ List.getElem_mem hkz))
              have HG2 := Lib.hid (write_at hkz hx box out)
              rw [HG.out] at HG2
              have HL2 : Hid ((headT out box x ++ (joinSp (itemW x) ++ [10])).length ≤ 4800) := Lib.hid (Nat.le_trans (writeGo_len (Z.drop (k + 1)) x.box _) (by rw [← HG2.out]; exact HLZ.out))
              have f1 : (k : Int) < (Z.length : Int) := by omega
              have f2 : (k : Int) < (l.length : Int) := by omega
              have f3 : (0 : Int) ≤ (k : Int) := by omega
              have f4 : ((k : Int)).toNat = k := by omega
              have f8 : IntKind.i64.wrap ((k : Int) + 1) = (k : Int) + 1 := IntWalk.i64_in _ (by omega)
              generalize x.cracked = cr at hxe g6
              subst hxe
              dsimp only at g0 g1 g2 g3 g4 g5
              clear hx
              go_upto_if 53 with fail
              have HX := Lib.hid (heap_alloc_new wr (.cells #[.int .i64 (n1 : Int), .int .i64 (n2 : Int), .int .i64 (n3 : Int), .int .i64 (n4 : Int), .int .i64 (n5 : Int), .int .i64 (n6 : Int), .bool cr] 67))
              have HBa := Lib.hid (below_alloc' (Below.refl wr.heap.size wr) (.cells #[.int .i64 (n1 : Int), .int .i64 (n2 : Int), .int .i64 (n3 : Int), .int .i64 (n4 : Int), .int .i64 (n5 : Int), .int .i64 (n6 : Int), .bool cr] 67))
              have x1 := (blk_cell (i := 1) HX.out).trans rfl
              have HTa := Lib.hid (HTr.out.below HBa.out)
              clear g0 g1 g2 g3 g4 g5 g6
              generalize wr.alloc (.cells #[.int .i64 (n1 : Int), .int .i64 (n2 : Int), .int .i64 (n3 : Int), .int .i64 (n4 : Int), .int .i64 (n5 : Int), .int .i64 (n6 : Int), .bool cr] 67) = wa at *
              go_cut [7, 8] (fun s7 s8 wx => s7 = .string (bs (headT out box ⟨n1, n2, n3, n4, n5, n6, cr⟩)) ∧ s8 = .int .i64 (n2 : Int) ∧ wx.heap[wr.heap.size]? = some (.cells #[.int .i64 (n1 : Int), .int .i64 (n2 : Int), .int .i64 (n3 : Int), .int .i64 (n4 : Int), .int .i64 (n5 : Int), .int .i64 (n6 : Int), .bool cr] 67 (0, 0)) ∧ Hid (Below wr.heap.size wr wx))
              case first =>
                by_cases hbx : (n2 : Int) = box
                · have t1 : ((n2 : Int) != box) = false := by simpa using hbx
                  have he : headT out box ⟨n1, n2, n3, n4, n5, n6, cr⟩ = out := by unfold headT; rw [if_neg (by simpa using hbx)]
                  go_wp2_with fail
                  go_meet
                  case rel => exact ⟨by rw [he], by rw [hbx], HX.out, HBa⟩
                · have t1 : ((n2 : Int) != box) = true := by simpa using hbx
                  have he : headT out box ⟨n1, n2, n3, n4, n5, n6, cr⟩ = out ++ (([98, 111, 120, 32] : List UInt8) ++ (decDigits n2 ++ [10])) := by
                    unfold headT; rw [if_pos (by simpa using hbx)]; simp [headW, joinSp, boxWord]
                  have hln : (out ++ (([98, 111, 120, 32] : List UInt8) ++ (decDigits n2 ++ [10]))).length ≤ 4800 := by
                    have h := HL2.out
                    rw [he, List.length_append] at h; omega
                  have HD := Lib.hid (dec_nat n2 wa HTa.out (by omega))
                  go_wp2_with fail
                  refine HD.out.mono ?_
                  rintro _ wb ⟨v, rfl, rfl, hBb⟩
                  have hP := put_new [out, [98, 111, 120, 32], decDigits n2, [10]] wb 4 rfl (by omega) (by show (out ++ (([98, 111, 120, 32] : List UInt8) ++ (decDigits n2 ++ ([10] ++ [])))).length ≤ 1000000; rw [List.append_nil]; omega)
                  simp only [List.map_cons, List.map_nil, List.flatten_cons, List.flatten_nil, List.append_nil] at hP
                  have HP := Lib.hid hP
                  have HXb := Lib.hid (blk_below hBb HX.out)
                  have HBb := Lib.hid (below_trans' HBa.out hBb)
                  clear hP hBb HD HX HBa HTa
                  go_wp2_with fail
                  refine HP.out.mono ?_
                  rintro _ wc ⟨v, rfl, rfl, hBc⟩
                  go_wp2_with fail
                  go_meet
                  case rel => exact ⟨by rw [he]; rfl, rfl, blk_below hBc HXb.out, Lib.hid (below_trans' HBb.out hBc)⟩
              case rest =>
                obtain ⟨rfl, rfl, HX2, HBx⟩ := hcut
                clear x1 HX HBa HTa HG
                have x6 := (blk_cell (i := 6) HX2).trans rfl
                generalize headT out box ⟨n1, n2, n3, n4, n5, n6, cr⟩ = o2 at *
                go_upto_if 62 with fail
                go_cut [11] (fun s wx => s = .string (bs (bitL cr)) ∧ wx = wc)
                case first =>
                  cases cr with
                  | false =>
                    go_wp2_with fail
                    go_meet
                    case rel => exact ⟨rfl, rfl⟩
                  | true =>
                    go_wp2_with fail
                    go_meet
                    case rel => exact ⟨rfl, rfl⟩
                case rest =>
                  obtain ⟨rfl, hwc⟩ := hcut
                  obtain ⟨W0, hW0⟩ : ∃ W0, W0 = wc := ⟨_, rfl⟩
                  rw [← hwc] at HX2 HBx
                  clear hwc x6 hW0 W0
                  have HT9 := Lib.hid (HTr.out.below (HBx.out.drew))
                  have HX9 : Hid (wc.drew.heap[wr.heap.size]? = some (.cells #[.int .i64 (n1 : Int), .int .i64 (n2 : Int), .int .i64 (n3 : Int), .int .i64 (n4 : Int), .int .i64 (n5 : Int), .int .i64 (n6 : Int), .bool cr] 67 (0, 0))) := Lib.hid HX2
                  have HB9 := Lib.hid (HBx.out.drew)
                  go_upto_region 26 with fail
                  refine wp_region_held_drew (S := fun V => V.cell? ⟨wr.heap.size, 0, none⟩ = some (.int .i64 (n1 : Int)) ∧ V.cell? ⟨wr.heap.size, 2, none⟩ = some (.int .i64 (n3 : Int)) ∧ V.cell? ⟨wr.heap.size, 3, none⟩ = some (.int .i64 (n4 : Int)) ∧ V.cell? ⟨wr.heap.size, 4, none⟩ = some (.int .i64 (n5 : Int)) ∧ V.cell? ⟨wr.heap.size, 5, none⟩ = some (.int .i64 (n6 : Int))) (by kernel_rfl) (five_cells HX9.out) (fun hS9 => ?_)
                  clear hS9 HX2 HBx
                  generalize wc.drew = V0 at HT9 HX9 HB9 ⊢
                  refine wpAnyH_take (i := 0) (v := ?_) rfl (by kernel_rfl) (by kernel_rfl) (by kernel_rfl) (fun _ _ _ h => h) (Or.inl ⟨by rfl, ?_⟩) (five_cells HX9.out) ?_
                  rotate_left 1
                  · intro W hW; obtain ⟨s0, s1, s2, s3, s4⟩ := hW; go_simp <;> with_reducible rfl
                  refine wpAnyH_take (i := 1) (v := ?_) rfl (by kernel_rfl) (by kernel_rfl) (by kernel_rfl) (fun _ _ _ h => h) (Or.inl ⟨by rfl, ?_⟩) (five_cells HX9.out) ?_
                  rotate_left 1
                  · intro W hW; obtain ⟨s0, s1, s2, s3, s4⟩ := hW; go_simp <;> with_reducible rfl
                  refine wpAnyH_take (i := 2) (v := ?_) rfl (by kernel_rfl) (by kernel_rfl) (by kernel_rfl) (fun _ _ _ h => h) (Or.inl ⟨by rfl, ?_⟩) (five_cells HX9.out) ?_
                  rotate_left 1
                  · intro W hW; obtain ⟨s0, s1, s2, s3, s4⟩ := hW; go_simp <;> with_reducible rfl
                  refine wpAnyH_take (i := 4) (v := ?_) rfl (by kernel_rfl) (by kernel_rfl) (by kernel_rfl) (fun _ _ _ h => h) (Or.inl ⟨by rfl, ?_⟩) (five_cells HX9.out) ?_
                  rotate_left 1
                  · intro W hW; obtain ⟨s0, s1, s2, s3, s4⟩ := hW; go_simp <;> with_reducible rfl
                  refine wpAnyH_take (i := 5) (v := ?_) rfl (by kernel_rfl) (by kernel_rfl) (by kernel_rfl) (fun _ _ _ h => h) (Or.inl ⟨by rfl, ?_⟩) (five_cells HX9.out) ?_
                  rotate_left 1
                  · intro W hW; obtain ⟨s0, s1, s2, s3, s4⟩ := hW; go_simp <;> with_reducible rfl
                  refine wpAnyH_take (i := 7) (v := ?_) rfl (by kernel_rfl) (by kernel_rfl) (by kernel_rfl) (fun _ _ _ h => h) (Or.inl ⟨by rfl, ?_⟩) (five_cells HX9.out) ?_
                  rotate_left 1
                  · intro W hW; obtain ⟨s0, s1, s2, s3, s4⟩ := hW; go_simp <;> with_reducible rfl
                  refine wpAnyH_take (i := 8) (v := ?_) rfl (by kernel_rfl) (by kernel_rfl) (by kernel_rfl) (fun _ _ _ h => h) (Or.inl ⟨by rfl, ?_⟩) (five_cells HX9.out) ?_
                  rotate_left 1
                  · intro W hW; obtain ⟨s0, s1, s2, s3, s4⟩ := hW; go_simp <;> with_reducible rfl
                  refine wpAnyH_take (i := 10) (v := ?_) rfl (by kernel_rfl) (by kernel_rfl) (by kernel_rfl) (fun _ _ _ h => h) (Or.inl ⟨by rfl, ?_⟩) (five_cells HX9.out) ?_
                  rotate_left 1
                  · intro W hW; obtain ⟨s0, s1, s2, s3, s4⟩ := hW; go_simp <;> with_reducible rfl
                  refine wpAnyH_take (i := 11) (v := ?_) rfl (by kernel_rfl) (by kernel_rfl) (by kernel_rfl) (fun _ _ _ h => h) (Or.inl ⟨by rfl, ?_⟩) (five_cells HX9.out) ?_
                  rotate_left 1
                  · intro W hW; obtain ⟨s0, s1, s2, s3, s4⟩ := hW; go_simp <;> with_reducible rfl
                  refine wpAnyH_take (i := 13) (v := ?_) rfl (by kernel_rfl) (by kernel_rfl) (by kernel_rfl) (fun _ _ _ h => h) (Or.inl ⟨by rfl, ?_⟩) (five_cells HX9.out) ?_
                  rotate_left 1
                  · intro W hW; obtain ⟨s0, s1, s2, s3, s4⟩ := hW; go_simp <;> with_reducible rfl
                  refine wpAnyH_take (i := 14) (v := ?_) rfl (by kernel_rfl) (by kernel_rfl) (by kernel_rfl) (fun _ _ _ h => h) (Or.inl ⟨by rfl, ?_⟩) (five_cells HX9.out) ?_
                  rotate_left 1
                  · intro W hW; obtain ⟨s0, s1, s2, s3, s4⟩ := hW; go_simp <;> with_reducible rfl
                  refine wpAnyH_take (i := 16) (v := ?_) rfl (by kernel_rfl) (by kernel_rfl) (by kernel_rfl) (fun _ _ _ h => h) (Or.inl ⟨by rfl, ?_⟩) (five_cells HX9.out) ?_
                  rotate_left 1
                  · intro W hW; obtain ⟨s0, s1, s2, s3, s4⟩ := hW; go_simp <;> with_reducible rfl
                  refine wpAnyH_take (i := 17) (v := ?_) rfl (by kernel_rfl) (by kernel_rfl) (by kernel_rfl) (fun _ _ _ h => h) (Or.inl ⟨by rfl, ?_⟩) (five_cells HX9.out) ?_
                  rotate_left 1
                  · intro W hW; obtain ⟨s0, s1, s2, s3, s4⟩ := hW; go_simp <;> with_reducible rfl
                  refine wpAnyH_take (i := 19) (v := ?_) rfl (by kernel_rfl) (by kernel_rfl) (by kernel_rfl) (fun _ _ _ h => h) (Or.inl ⟨by rfl, ?_⟩) (five_cells HX9.out) ?_
                  rotate_left 1
                  · intro W hW; obtain ⟨s0, s1, s2, s3, s4⟩ := hW; go_simp <;> with_reducible rfl
                  simp only [Act.put, List.setIfInBounds_toArray]
                  have HT0 := HT9; have HX0 := HX9; have HB0 := HB9
                  clear HT9 HX9 HB9
                  have HD0 := Lib.hid (dec_nat n1 V0 HT0.out (by omega))
                  refine wpAnyH_ready (rs := [3]) (by kernel_rfl) (by simp) ?_
                  refine AllReadyH.cons rfl (fun K hK => ?_) AllReadyH.nil
                  go_simp
                  refine HD0.out.mono ?_
                  rintro _ V1 ⟨v, rfl, rfl, hBV⟩
                  have HX1 := Lib.hid (blk_below hBV HX0.out)
                  have HT1 := Lib.hid (HT0.out.below hBV)
                  have HB1 := Lib.hid (below_trans' HB0.out hBV)
                  refine hK.out _ _ (five_cells HX1.out) (fun _ => ?_)
                  clear hK K hBV HX0 HT0 HB0 HD0
                  have HD1 := Lib.hid (check_any n1 V1 HT1.out (by omega))
                  refine wpAnyH_ready (rs := [6]) (by kernel_rfl) (by simp) ?_
                  refine AllReadyH.cons rfl (fun K hK => ?_) AllReadyH.nil
                  go_simp
                  refine HD1.out.mono ?_
                  rintro _ V2 ⟨v, rfl, rfl, hBV⟩
                  have HX2 := Lib.hid (blk_below hBV HX1.out)
                  have HT2 := Lib.hid (HT1.out.below hBV)
                  have HB2 := Lib.hid (below_trans' HB1.out hBV)
                  refine hK.out _ _ (five_cells HX2.out) (fun _ => ?_)
                  clear hK K hBV HX1 HT1 HB1 HD1
                  have HD2 := Lib.hid (dec_nat n3 V2 HT2.out (by omega))
                  refine wpAnyH_ready (rs := [9]) (by kernel_rfl) (by simp) ?_
                  refine AllReadyH.cons rfl (fun K hK => ?_) AllReadyH.nil
                  go_simp
                  refine HD2.out.mono ?_
                  rintro _ V3 ⟨v, rfl, rfl, hBV⟩
                  have HX3 := Lib.hid (blk_below hBV HX2.out)
                  have HT3 := Lib.hid (HT2.out.below hBV)
                  have HB3 := Lib.hid (below_trans' HB2.out hBV)
                  refine hK.out _ _ (five_cells HX3.out) (fun _ => ?_)
                  clear hK K hBV HX2 HT2 HB2 HD2
                  have HD3 := Lib.hid (dec_nat n4 V3 HT3.out (by omega))
                  refine wpAnyH_ready (rs := [12]) (by kernel_rfl) (by simp) ?_
                  refine AllReadyH.cons rfl (fun K hK => ?_) AllReadyH.nil
                  go_simp
                  refine HD3.out.mono ?_
                  rintro _ V4 ⟨v, rfl, rfl, hBV⟩
                  have HX4 := Lib.hid (blk_below hBV HX3.out)
                  have HT4 := Lib.hid (HT3.out.below hBV)
                  have HB4 := Lib.hid (below_trans' HB3.out hBV)
                  refine hK.out _ _ (five_cells HX4.out) (fun _ => ?_)
                  clear hK K hBV HX3 HT3 HB3 HD3
                  have HD4 := Lib.hid (dec_nat n5 V4 HT4.out (by omega))
                  refine wpAnyH_ready (rs := [15]) (by kernel_rfl) (by simp) ?_
                  refine AllReadyH.cons rfl (fun K hK => ?_) AllReadyH.nil
                  go_simp
                  refine HD4.out.mono ?_
                  rintro _ V5 ⟨v, rfl, rfl, hBV⟩
                  have HX5 := Lib.hid (blk_below hBV HX4.out)
                  have HT5 := Lib.hid (HT4.out.below hBV)
                  have HB5 := Lib.hid (below_trans' HB4.out hBV)
                  refine hK.out _ _ (five_cells HX5.out) (fun _ => ?_)
                  clear hK K hBV HX4 HT4 HB4 HD4
                  have HD5 := Lib.hid (dec_nat n6 V5 HT5.out (by omega))
                  refine wpAnyH_ready (rs := [18]) (by kernel_rfl) (by simp) ?_
                  refine AllReadyH.cons rfl (fun K hK => ?_) AllReadyH.nil
                  go_simp
                  refine HD5.out.mono ?_
                  rintro _ V6 ⟨v, rfl, rfl, hBV⟩
                  have HX6 := Lib.hid (blk_below hBV HX5.out)
                  have HT6 := Lib.hid (HT5.out.below hBV)
                  have HB6 := Lib.hid (below_trans' HB5.out hBV)
                  refine hK.out _ _ (five_cells HX6.out) (fun _ => ?_)
                  clear hK K hBV HX5 HT5 HB5 HD5
                  have hE : o2 ++ (decDigits n1 ++ (chkL n1 ++ (([32] : List UInt8) ++ (decDigits n3 ++ (([32] : List UInt8) ++ (decDigits n4 ++ (([32] : List UInt8) ++ (decDigits n5 ++ (([32] : List UInt8) ++ (decDigits n6 ++ (([32] : List UInt8) ++ (bitL cr ++ ([10] : List UInt8))))))))))))) = o2 ++ (joinSp (itemW ⟨n1, n2, n3, n4, n5, n6, cr⟩) ++ [10]) := by simp [itemW, joinSp, markL]
                  have hP := put_new [o2, decDigits n1, chkL n1, [32], decDigits n3, [32], decDigits n4, [32], decDigits n5, [32], decDigits n6, [32], bitL cr, [10]] V6 14 rfl (by omega) (by show (o2 ++ (decDigits n1 ++ (chkL n1 ++ (([32] : List UInt8) ++ (decDigits n3 ++ (([32] : List UInt8) ++ (decDigits n4 ++ (([32] : List UInt8) ++ (decDigits n5 ++ (([32] : List UInt8) ++ (decDigits n6 ++ (([32] : List UInt8) ++ (bitL cr ++ (([10] : List UInt8) ++ [])))))))))))))).length ≤ 1000000; rw [List.append_nil, hE]; have h := HL2.out; omega)
                  simp only [List.map_cons, List.map_nil, List.flatten_cons, List.flatten_nil, List.append_nil] at hP
                  rw [hE] at hP
                  generalize o2 ++ (joinSp (itemW ⟨n1, n2, n3, n4, n5, n6, cr⟩) ++ [10]) = o3 at *
                  have HP := Lib.hid hP
                  clear hP hE
                  refine wpAnyH_ready (rs := [20]) (by kernel_rfl) (by simp) ?_
                  refine AllReadyH.cons rfl (fun K hK => ?_) AllReadyH.nil
                  go_simp
                  refine hK.out _ _ (five_cells (blk_alloc HX6.out _)) (fun _ => ?_)
                  clear hK K
                  refine wpAnyH_ready (rs := [21]) (by kernel_rfl) (by simp) ?_
                  refine AllReadyH.cons rfl (fun K hK => ?_) AllReadyH.nil
                  go_simp
                  refine HP.out.mono ?_
                  rintro _ V7 ⟨v, rfl, rfl, hBV⟩
                  have HX7 := Lib.hid (blk_below hBV HX6.out)
                  have HB7' := Lib.hid (below_trans' HB6.out hBV)
                  refine hK.out _ _ (five_cells HX7.out) (fun _ => ?_)
                  clear hK K hBV HX6 HT6 HB6 HP
                  refine wpAnyH_ready (rs := [22]) (by kernel_rfl) (by simp) ?_
                  refine AllReadyH.cons rfl (fun K hK => ?_) AllReadyH.nil
                  go_simp
                  refine hK.out _ _ (five_cells HX7.out) (fun _ => ?_)
                  clear hK K HX7
                  refine wpAnyH_done (by kernel_rfl) ?_ _
                  have HBz := Lib.hid (below_trans' HBr.out HB7'.out)
                  clear HB7' HBr
                  go_wp2
                  go_roundw
                  case rel => exact ⟨k + 1, o3, (n2 : Int), by omega, rfl, rfl, by go_num, Lib.hid HG2.out.symm, HBz⟩
                  case measure => simp [intOf]; omega
            · obtain rfl : k = Z.length := by omega
              have f1 : ¬ (Z.length : Int) < (Z.length : Int) := by omega
              have f2 : ¬ (Z.length : Int) < (l.length : Int) := by omega
              have HE := Lib.hid HG.out
              rw [List.drop_length] at HE
              have HBz := Lib.hid (below_trans' HB7.out HBr.out)
              clear HG HBr
              go_wp2
              go_ret2
              exact Ret.mk ⟨by rw [HR.out, ← HE.out]; rfl, HBz.out⟩
end Go.Proofs.YtkpmmgeffbhngaaGreatDoor
