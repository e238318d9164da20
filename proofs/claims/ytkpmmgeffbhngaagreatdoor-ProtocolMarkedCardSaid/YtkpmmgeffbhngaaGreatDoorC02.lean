/- What the laws of the chapter rest on, part 02. -/
import Derived.Test.YtkpmmgeffbhngaaGreatDoorC01
set_option linter.unusedSimpArgs false
set_option linter.unusedVariables false
set_option linter.unnecessarySimpa false
namespace Prot
end Prot
namespace Go.Shelf
end Go.Shelf
namespace Go.Maps
end Go.Maps
namespace Go.Proofs.YtkpmmgeffbhngaaGreatDoor
open Go.RowKit Prot Go.Lib
/-- what Mark answers -/
def markT (n : Int) : Value := if 1 ≤ n ∧ n ≤ 1099511627776 then .tuple #[.string (bs (markL n.toNat)), .int .i64 0] else .tuple #[.string (bs []), .int .i64 3]
theorem chk_not {n k : Nat} (hn : 1 ≤ n) (hk : k < chk n) : ¬ (n * 100 + k - 1) % 97 = 0 := fun h => by
  have := chk_is hn (Nat.lt_trans hk (chk_lt n)) h
  omega
set_option maxRecDepth 100000 in
theorem rMark_any (n : Int) (w : World) : Calls Tryz.prog 17 #[.int .i64 n] w (Ret fun v w' => v = markT n ∧ w' = w) := by
  by_cases hv : 1 ≤ n ∧ n ≤ 1099511627776
  · have dv : (decide (1 ≤ n) && decide (n ≤ 1099511627776)) = true := by simp [hv.1, hv.2]
    obtain ⟨h1, h2⟩ := hv
    obtain ⟨m, rfl⟩ : ∃ m : Nat, n = m := ⟨n.toNat, by omega⟩
    have hm1 : 1 ≤ m := by omega
    have hm2 : m ≤ 1099511627776 := by omega
    have HM : Hid (markT m = .tuple #[.string (bs (markL m)), .int .i64 0]) := Lib.hid (by unfold markT; rw [if_pos ⟨h1, h2⟩]; rfl)
    have HNo := Lib.hid (fun k (h : k < chk m) => chk_not hm1 h)
    have HHit := Lib.hid (chk_hit hm1)
    have hc := chk_lt m
    have HD : Hid (markL m = decDigits m ++ (decDigits (chk m / 10) ++ decDigits (chk m % 10))) := Lib.hid rfl
    have hl1 := dec_len13 (n := m) hm2
    have hl2 := dec_len13 (n := chk m / 10) (by show chk m / 10 ≤ 1099511627776; omega)
    have hl3 := dec_len13 (n := chk m % 10) (by show chk m % 10 ≤ 1099511627776; omega)
    generalize hcc : chk m = c at *
    clear hcc
    obtain ⟨q, hq⟩ : ∃ q : Nat, q = c / 10 := ⟨_, rfl⟩
    obtain ⟨z, hz⟩ : ∃ z : Nat, z = c % 10 := ⟨_, rfl⟩
    rw [← hq] at hl2 HD
    rw [← hz] at hl3 HD
    have q1 : (c : Int) / 10 = (q : Int) := by omega
    have q2 : (c : Int).tdiv 10 = (q : Int) := by rw [Int.tdiv_eq_ediv_of_nonneg (by omega)]; exact q1
    have q3 : IntKind.i64.wrap (q : Int) = (q : Int) := IntWalk.i64_in _ (by omega)
    have z1 : (c : Int) % 10 = (z : Int) := by omega
    have z2 : (c : Int).tmod 10 = (z : Int) := by rw [Int.tmod_eq_emod_of_nonneg (by omega)]; exact z1
    have z3 : IntKind.i64.wrap (z : Int) = (z : Int) := IntWalk.i64_in _ (by omega)
    have hqs : q ≤ 9 := by omega
    have hzs : z ≤ 9 := by omega
    clear hq hz
    have hadd : ∀ w, (Op.stringOp .add (bs (decDigits m)) (bs (decDigits (q)))).run Tryz.prog w = .ok (.string (bs (decDigits m ++ decDigits (q)))) w := fun w => by
      rw [← bs_append]
      exact run_string_add_sum w _ _ (by rw [bs_size, bs_size]; omega)
    have hadd2 : ∀ w, (Op.stringOp .add (bs (decDigits m ++ decDigits (q))) (bs (decDigits (z)))).run Tryz.prog w = .ok (.string (bs (markL m))) w := fun w => by
      rw [HD.out, ← List.append_assoc, ← bs_append (decDigits m ++ decDigits (q)) (decDigits (z))]
      exact run_string_add_sum w _ _ (by rw [bs_size, bs_size, List.length_append]; omega)
    clear hl1 hl2 hl3 HD
    clear h1 h2
    go_enter Tryz.func17, Tryz.ntmps17
    go_wp2_with fail
    refine (risNumber_any _ w).mono ?_
    rintro e w1 ⟨v, rfl, rfl, rfl⟩
    go_wp2
    go_loop [4] (fun i => ∃ k : Nat, k ≤ c ∧ i = .int .i64 k) (fun i => c - (intOf i).toNat)
    case atStart => exact ⟨0, by omega, rfl⟩
    case round =>
      obtain ⟨k, hk, rfl⟩ := hrel
      by_cases hlt : k < c
      · have HN := HNo.out k hlt
        obtain ⟨r, hr⟩ : ∃ r : Nat, r = (m * 100 + k - 1) % 97 := ⟨_, rfl⟩
        rw [← hr] at HN
        have hrl : r < 97 := by omega
        have r1 : ((m : Int) * 100 + (k : Int) - 1) % 97 = (r : Int) := by omega
        have r2 : ((m : Int) * 100 + (k : Int) - 1).tmod 97 = (r : Int) := by rw [Int.tmod_eq_emod_of_nonneg (by omega)]; exact r1
        have hwA : IntKind.i64.wrap ((m : Int) * 100) = (m : Int) * 100 := IntWalk.i64_in _ (by omega)
        have hwB : IntKind.i64.wrap ((m : Int) * 100 + (k : Int)) = (m : Int) * 100 + (k : Int) := IntWalk.i64_in _ (by omega)
        have hwC : IntKind.i64.wrap ((m : Int) * 100 + (k : Int) - 1) = (m : Int) * 100 + (k : Int) - 1 := IntWalk.i64_in _ (by omega)
        have hwD : IntKind.i64.wrap (r : Int) = (r : Int) := IntWalk.i64_in _ (by omega)
        have d1 : ((r : Int) != 0) = true := by simp; omega
        have d2 : ((r : Int) == 0) = false := by simp; omega
        clear HN hadd hadd2 HNo hr hc
        go_wp2
        go_round
        case rel => exact ⟨k + 1, by omega, by go_num⟩
        case measure => simp [intOf]; omega
      · have ek : k = c := by omega
        subst ek
        have HN := HHit.out
        obtain ⟨r, hr⟩ : ∃ r : Nat, r = 0 := ⟨_, rfl⟩
        have hrl : r < 97 := by omega
        have r1 : ((m : Int) * 100 + (k : Int) - 1) % 97 = (r : Int) := by omega
        have r2 : ((m : Int) * 100 + (k : Int) - 1).tmod 97 = (r : Int) := by rw [Int.tmod_eq_emod_of_nonneg (by omega)]; exact r1
        have hwA : IntKind.i64.wrap ((m : Int) * 100) = (m : Int) * 100 := IntWalk.i64_in _ (by omega)
        have hwB : IntKind.i64.wrap ((m : Int) * 100 + (k : Int)) = (m : Int) * 100 + (k : Int) := IntWalk.i64_in _ (by omega)
        have hwC : IntKind.i64.wrap ((m : Int) * 100 + (k : Int) - 1) = (m : Int) * 100 + (k : Int) - 1 := IntWalk.i64_in _ (by omega)
        have hwD : IntKind.i64.wrap (r : Int) = (r : Int) := IntWalk.i64_in _ (by omega)
        have d1 : ((r : Int) != 0) = false := by simp; omega
        have d2 : ((r : Int) == 0) = true := by simp; omega
        clear HN HNo HHit hr
        go_wp2_with fail
        refine (rtext_any m _ hm2).mono ?_
        rintro e w2 ⟨v, rfl, rfl, rfl⟩
        go_wp2_with fail
        refine (rtext_any q _ (by omega)).mono ?_
        rintro e w3 ⟨v, rfl, rfl, rfl⟩
        go_wp2_with fail
        refine (rtext_any z _ (by omega)).mono ?_
        rintro e w4 ⟨v, rfl, rfl, rfl⟩
        go_wp2
        go_ret2
        exact Ret.mk' HM.out.symm ⟨rfl, rfl⟩
  · have dv : (decide (1 ≤ n) && decide (n ≤ 1099511627776)) = false := by simp; omega
    have HM : Hid (markT n = .tuple #[.string (bs []), .int .i64 3]) := Lib.hid (by unfold markT; rw [if_neg hv])
    clear hv
    go_enter Tryz.func17, Tryz.ntmps17
    go_wp2_with fail
    refine (risNumber_any _ w).mono ?_
    rintro e w1 ⟨v, rfl, rfl, rfl⟩
    go_wp2
    go_ret2
    exact Ret.mk' HM.out.symm ⟨rfl, rfl⟩
end Go.Proofs.YtkpmmgeffbhngaaGreatDoor
namespace Go.Proofs.YtkpmmgeffbhngaaGreatDoor
open Go.RowKit Prot Go.Lib
theorem bs_extract (l : List UInt8) (a b : Nat) : (bs l).extract a b = bs ((l.drop a).take (b - a)) := ByteArray.extract_mk l a b
def cmT (l : List UInt8) : Value := .tuple #[.int .i64 (cmV l).1, .int .i64 (cmV l).2]
theorem cmT_of {l : List UInt8} {a b : Int} (h : cmV l = (a, b)) : cmT l = .tuple #[.int .i64 a, .int .i64 b] := by unfold cmT; rw [h]
theorem numT_any (o : Option Nat) : ∃ (a : Int) (b : Bool), numT o = .tuple #[.int .i64 a, .bool b] := by
  cases o with
  | none => exact ⟨_, _, rfl⟩
  | some n => exact ⟨_, _, rfl⟩
theorem numR_one {e : List UInt8} (h2 : e.length ≤ 17) : (e.all isD = true → ∃ n, numR (49 :: e) = some n) ∧ (e.all isD = false → numR (49 :: e) = none) := by
  constructor
  · intro h
    unfold numR
    exact ⟨_, if_pos ⟨by simp, by simp; omega, by unfold leadB; simp, by simp only [List.all_cons, h]; rfl⟩⟩
  · intro h
    unfold numR
    rw [if_neg]
    intro q
    have := q.2.2.2
    rw [List.all_cons, h] at this
    simp at this
theorem toList_ne {m s : ByteArray} (h : ¬ m = s) : (m.toList == s.toList) = false := by
  rw [beq_eq_false_iff_ne]
  intro q
  rw [ByteArray.toList_eq, ByteArray.toList_eq] at q
  exact h (by rw [bs_of m, bs_of s, q])
set_option maxRecDepth 100000 in
theorem rCheckMark_any (l : List UInt8) (w : World) (hs : l.length ≤ 9223372036854775807) : Calls Tryz.prog 19 #[.string (bs l)] w (Ret fun v w' => v = cmT l ∧ w' = w) := by
  have hsz := bs_size l
  by_cases h3 : l.length < 3
  · have HC := Lib.hid (cmT_of (l := l) (a := 0) (b := 8) (by unfold cmV; rw [if_pos h3]))
    generalize hS : bs l = s at *
    clear hS
    have d1 : decide ((s.size : Int) < 3) = true := by simp; omega
    clear hsz hs
    go_enter Tryz.func19, Tryz.ntmps19
    go_wp2
    go_ret2
    exact Ret.mk' HC.out.symm ⟨rfl, rfl⟩
  obtain ⟨d, hd⟩ : ∃ d, d = l.take (l.length - 2) := ⟨_, rfl⟩
  obtain ⟨e, he⟩ : ∃ e, e = l.drop (l.length - 2) := ⟨_, rfl⟩
  have hl : l = d ++ e := by rw [hd, he, List.take_append_drop]
  have hel : e.length = 2 := by rw [he, List.length_drop]; omega
  have x1 : (bs l).extract 0 ((bs l).size - 2) = bs d := by rw [bs_extract, hsz, hd]; simp
  have x2 : (bs l).extract ((bs l).size - 2) (bs l).size = bs e := by
    rw [bs_extract, hsz, he]
    rw [show l.length - (l.length - 2) = 2 from by omega]
    congr 1
    exact List.take_of_length_le (by rw [List.length_drop]; omega)
  have hdl : d.length ≤ l.length := by rw [hd, List.length_take]; omega
  have hadd : ∀ w, (Op.stringOp .add ⟨#[49]⟩ ((bs l).extract ((bs l).size - 2) (bs l).size)).run Tryz.prog w = .ok (.string (bs (49 :: e))) w := fun w => by
    rw [x2]
    have := run_string_add_sum (P := Tryz.prog) w (bs [49]) (bs e) (by rw [bs_size, bs_size]; simp; omega)
    rw [bs_append] at this
    exact this
  have C1 : Hid (∀ w, Calls Tryz.prog 55 #[.string ((bs l).extract 0 ((bs l).size - 2))] w (Ret fun v w' => v = numT (numR d) ∧ w' = w)) := Lib.hid fun w => by
    rw [x1]; exact rnumber_any (bs d) w (by rw [bs_size]; omega)
  have C2 : Hid (∀ w, Calls Tryz.prog 55 #[.string (bs (49 :: e))] w (Ret fun v w' => v = numT (numR (49 :: e)) ∧ w' = w)) := Lib.hid fun w => rnumber_any (bs (49 :: e)) w (by rw [bs_size]; simp; omega)
  have HV : Hid (cmV l = match numR d with
    | none => (0, 8)
    | some n => if n < 1 ∨ maxN < n ∨ e.all isD = false then (0, 8) else if chkL n ≠ e then (0, 14) else ((n : Int), 0)) := Lib.hid (by unfold cmV; rw [if_neg h3, ← hd, ← he]; rfl)
  have HK : Hid (∀ n, numR d = some n → (markL n = l ↔ chkL n = e)) := Lib.hid fun n hn => by
    have := (numR_iff.1 hn).1
    unfold markL
    rw [hl, this]
    exact ⟨List.append_cancel_left, fun q => by rw [q]⟩
  have d1 : decide (((bs l).size : Int) < 3) = false := by simp; omega
  have hs3 : 3 ≤ (bs l).size := by omega
  have hs4 : (bs l).size ≤ 9223372036854775807 := by omega
  have N1 := numR_one (e := e) (by omega)
  clear hd he hl hel x1 x2 hdl hs hsz h3
  have HS : Hid (∀ n, (bs (markL n) = bs l ↔ markL n = l)) := Lib.hid fun n => bs_inj
  generalize bs l = s at *
  generalize hone : bs (49 :: e) = s1 at *
  clear hone
  cases hn : numR d with
  | none =>
    rw [hn] at HV C1
    have HC := Lib.hid (cmT_of HV.out)
    obtain ⟨a2, b2, e2⟩ := numT_any (numR (49 :: e))
    rw [e2] at C2
    clear N1 e2 HK hn HV HS
    go_enter Tryz.func19, Tryz.ntmps19
    go_wp2_with fail
    refine (C1.out _).mono ?_
    rintro _ w1 ⟨v, rfl, rfl, rfl⟩
    unfold numT
    go_wp2_with fail
    refine (C2.out _).mono ?_
    rintro _ w1 ⟨v, rfl, rfl, rfl⟩
    go_wp2
    go_ret2
    exact Ret.mk' HC.out.symm ⟨rfl, rfl⟩
  | some n =>
    rw [hn] at HV C1
    by_cases he : e.all isD = false
    · have HC := Lib.hid (cmT_of (l := l) (a := 0) (b := 8) (by rw [HV.out]; exact if_pos (.inr (.inr he))))
      rw [N1.2 he] at C2
      clear N1 HK hn HV HS he
      go_enter Tryz.func19, Tryz.ntmps19
      go_wp2_with fail
      refine (C1.out _).mono ?_
      rintro _ w1 ⟨v, rfl, rfl, rfl⟩
      unfold numT
      go_wp2_with fail
      refine (C2.out _).mono ?_
      rintro _ w1 ⟨v, rfl, rfl, rfl⟩
      unfold numT
      go_wp2
      go_ret2
      exact Ret.mk' HC.out.symm ⟨rfl, rfl⟩
    have he' : e.all isD = true := by simpa using he
    obtain ⟨n2, e2⟩ := N1.1 he'
    rw [e2] at C2
    by_cases hv : 1 ≤ n ∧ n ≤ 1099511627776
    · have hb : n ≤ 999999999999999999 := by omega
      have dv : (decide ((1 : Int) ≤ (n : Int)) && decide ((n : Int) ≤ 1099511627776)) = true := by simp; omega
      have HM : Hid (∀ w, Calls Tryz.prog 17 #[.int .i64 (n : Int)] w (Ret fun v w' => v = .tuple #[.string (bs (markL n)), .int .i64 0] ∧ w' = w)) := Lib.hid fun w => by
        have := rMark_any (n : Int) w
        unfold markT at this
        rw [if_pos (by omega)] at this
        exact this
      have HV2 : Hid (cmV l = if chkL n ≠ e then (0, 14) else ((n : Int), 0)) := Lib.hid (by
        rw [HV.out]
        exact if_neg (by rw [he']; simp only [maxN]; simp; omega))
      have HK2 := HK.out n hn
      have HS2 := HS.out n
      clear HV HK HS N1 e2 he he' hn hv
      by_cases hc : chkL n = e
      · have HC := Lib.hid (cmT_of (l := l) (a := (n : Int)) (b := 0) (by rw [HV2.out]; exact if_neg (fun q => q hc)))
        have ec := HS2.2 (HK2.2 hc)
        rw [ec] at HM
        clear HS2 HK2 HV2 ec hc
        go_enter Tryz.func19, Tryz.ntmps19
        go_wp2_with fail
        refine (C1.out _).mono ?_
        rintro _ w1 ⟨v, rfl, rfl, rfl⟩
        unfold numT
        go_wp2_with fail
        refine (C2.out _).mono ?_
        rintro _ w1 ⟨v, rfl, rfl, rfl⟩
        unfold numT
        go_wp2_with fail
        refine (risNumber_any _ _).mono ?_
        rintro _ w1 ⟨v, rfl, rfl, rfl⟩
        go_wp2_with fail
        refine (HM.out _).mono ?_
        rintro _ w1 ⟨v, rfl, rfl, rfl⟩
        go_wp2
        go_ret2
        exact Ret.mk' HC.out.symm ⟨rfl, rfl⟩
      · have HC := Lib.hid (cmT_of (l := l) (a := 0) (b := 14) (by rw [HV2.out]; exact if_pos hc))
        have ec : ¬ bs (markL n) = s := fun q => hc (HK2.1 (HS2.1 q))
        clear HS2 HK2 HV2 hc
        generalize bs (markL n) = m at *
        have d2 : (m.toList == s.toList) = false := toList_ne ec
        clear ec
        go_enter Tryz.func19, Tryz.ntmps19
        go_wp2_with fail
        refine (C1.out _).mono ?_
        rintro _ w1 ⟨v, rfl, rfl, rfl⟩
        unfold numT
        go_wp2_with fail
        refine (C2.out _).mono ?_
        rintro _ w1 ⟨v, rfl, rfl, rfl⟩
        unfold numT
        go_wp2_with fail
        refine (risNumber_any _ _).mono ?_
        rintro _ w1 ⟨v, rfl, rfl, rfl⟩
        go_wp2_with fail
        refine (HM.out _).mono ?_
        rintro _ w1 ⟨v, rfl, rfl, rfl⟩
        go_wp2
        go_ret2
        exact Ret.mk' HC.out.symm ⟨rfl, rfl⟩
    · have dv : (decide ((1 : Int) ≤ (n : Int)) && decide ((n : Int) ≤ 1099511627776)) = false := by simp; omega
      have HC := Lib.hid (cmT_of (l := l) (a := 0) (b := 8) (by rw [HV.out]; exact if_pos (by simp only [maxN]; omega)))
      clear HV HK HS N1 e2 he he' hn hv
      go_enter Tryz.func19, Tryz.ntmps19
      go_wp2_with fail
      refine (C1.out _).mono ?_
      rintro _ w1 ⟨v, rfl, rfl, rfl⟩
      unfold numT
      go_wp2_with fail
      refine (C2.out _).mono ?_
      rintro _ w1 ⟨v, rfl, rfl, rfl⟩
      unfold numT
      go_wp2_with fail
      refine (risNumber_any _ _).mono ?_
      rintro _ w1 ⟨v, rfl, rfl, rfl⟩
      go_wp2
      go_ret2
      exact Ret.mk' HC.out.symm ⟨rfl, rfl⟩
end Go.Proofs.YtkpmmgeffbhngaaGreatDoor
