/- What the laws of the chapter rest on, part 11. -/
import Derived.Test.YtkpmmgeffbhngaaGreatDoorC10
set_option linter.unusedSimpArgs false
set_option linter.unusedVariables false
set_option linter.unnecessarySimpa false
namespace Prot
end Prot
namespace Go.Shelf
end Go.Shelf
namespace Go.Maps
end Go.Maps
namespace Go.Proofs.YtkpmmgeffbhngaaGreatDoor
open Go.RowKit Prot Go.Lib Go.Maps
theorem rise_adj : ∀ {l : List It}, riseB l = true ↔ ∀ j (h : j + 1 < l.length), (l[j]'(by omega)).num < l[j + 1].num
  | [] => ⟨fun _ j h => by simp at h, fun _ => rfl⟩
  | [x] => ⟨fun _ j h => by simp at h, fun _ => rfl⟩
  | x :: y :: l => by
    show (decide (x.num < y.num) && riseB (y :: l)) = true ↔ _
    rw [Bool.and_eq_true, decide_eq_true_eq, rise_adj (l := y :: l)]
    constructor
    · rintro ⟨h1, h2⟩ j h
      cases j with
      | zero => exact h1
      | succ j => exact h2 j (by simpa using h)
    · intro h
      exact ⟨h 0 (by simp), fun j hj => h (j + 1) (by simpa using hj)⟩
theorem all_okB {l : List It} (h : ∀ i (hi : i < l.length), okB l[i] = true) : l.all okB = true := List.all_eq_true.2 fun x hx => by
  obtain ⟨i, hi, rfl⟩ := List.getElem_of_mem hx
  exact h i hi
theorem not_okB {l : List It} {i : Nat} (hi : i < l.length) (h : okB l[i] = false) : l.all okB = false := by
  cases e : l.all okB with
  | false => rfl
  | true => rw [List.all_eq_true.1 e _ (List.getElem_mem hi)] at h; cases h
set_option maxRecDepth 100000 in
set_option maxHeartbeats 2000000 in
theorem rCheckItems_any (A : Option Addr) (ca : Nat) (l : List It) (w : World) (hl : ItemsAt w A l) (hn : l.length ≤ 100000) : Calls Tryz.prog 43 #[.slice A l.length ca] w (Ret fun v w' => v = .int .i64 (itemsErr l) ∧ Below w.heap.size w w') := by
  by_cases h60 : 60 < l.length
  · have HE : Hid (itemsErr l = 6) := Lib.hid (by unfold itemsErr; rw [if_pos h60])
    have d1 : decide ((l.length : Int) > 60) = true := decide_eq_true (by omega)
    have d2 : decide ((60 : Int) < (l.length : Int)) = true := decide_eq_true (by omega)
    have d3 : decide (60 < l.length) = true := decide_eq_true h60
    clear h60 hl hn
    go_enter Tryz.func43, Tryz.ntmps43
    go_wp2
    go_ret
    exact Ret.mk ⟨by rw [HE.out]; rfl, Below.refl _ _⟩
  have d1 : decide ((l.length : Int) > 60) = false := decide_eq_false (by omega)
  have d2 : decide ((60 : Int) < (l.length : Int)) = false := decide_eq_false (by omega)
  have d3 : decide (60 < l.length) = false := decide_eq_false h60
  have Hl := Lib.hid hl
  have HE3 : Hid (l.all okB = false → itemsErr l = 3) := Lib.hid fun h => by unfold itemsErr; rw [if_neg h60, if_pos h]
  have HE15 : Hid (l.all okB = true → riseB l = false → itemsErr l = 15) := Lib.hid fun h h2 => by unfold itemsErr; rw [if_neg h60, if_neg (by rw [h]; simp), if_pos h2]
  have HE10 : Hid (l.all okB = true → riseB l = true → (l.any fun x => decide (12 < room l x.box)) = true → itemsErr l = 10) := Lib.hid fun h h2 h3 => by unfold itemsErr; rw [if_neg h60, if_neg (by rw [h]; simp), if_neg (by rw [h2]; simp), if_pos h3]
  have HE0 : Hid (l.all okB = true → riseB l = true → (l.any fun x => decide (12 < room l x.box)) = false → itemsErr l = 0) := Lib.hid fun h h2 h3 => by unfold itemsErr; rw [if_neg h60, if_neg (by rw [h]; simp), if_neg (by rw [h2]; simp), if_neg (by rw [h3]; simp)]
  clear hl
  go_enter Tryz.func43, Tryz.ntmps43
  go_wp2
  go_loopw [3] (fun i wr => ∃ k : Nat, k ≤ l.length ∧ i = .int .i64 k ∧ Hid (∀ q (hq : q < l.length), q < k → okB l[q] = true) ∧ Hid (Below w.heap.size w wr)) (fun i _ => l.length - (intOf i).toNat)
  case atStart => exact ⟨0, by omega, rfl, Lib.hid fun q hq h => by omega, Lib.hid (Below.refl _ _)⟩
  case round =>
    obtain ⟨k, hk, rfl, HK, HB⟩ := hrel
    by_cases hkl : k < l.length
    · obtain ⟨b, off, rfl, g0, g1, g2, g3, g4, g5, g6⟩ := (ItemsAt.below Hl.out HB.out).at_ hkl
      have i0 : (0 : Int) ≤ (k : Int) := by omega
      have i1 : (k : Int) < (l.length : Int) := by omega
      have HBn := Lib.hid (below_alloc' HB.out (.cells #[.int .i64 l[k].num, .int .i64 l[k].box, .int .i64 l[k].day, .int .i64 l[k].voice, .int .i64 l[k].turns, .int .i64 l[k].src, .bool l[k].cracked] 67))
      have HKn : Hid (okB l[k] = true → ∀ q (hq : q < l.length), q < k + 1 → okB l[q] = true) := Lib.hid fun h q hq h2 => by
        by_cases e : q = k
        · subst e; exact h
        · exact HK.out q hq (by omega)
      have HKb : Hid (okB l[k] = false → itemsErr l = 3) := Lib.hid fun h => HE3.out (not_okB hkl h)
      generalize l[k] = it at *
      by_cases hok : okB it = true
      · have HKt := Lib.hid (HKn.out hok)
        obtain ⟨k1, k2, k3, k4, k5, k6⟩ := okB_iff.1 hok
        have hmx : (maxN : Int) = 1099511627776 := rfl
        have c0 : 1 ≤ it.num ∧ it.num ≤ 1099511627776 := by omega
        have n1 : decide ((1 : Int) ≤ it.num) = true := decide_eq_true c0.1
        have n2 : decide (it.num ≤ (1099511627776 : Int)) = true := decide_eq_true c0.2
        have n3 : (decide ((1 : Int) ≤ it.num) && decide (it.num ≤ (1099511627776 : Int))) = true := by rw [n1, n2]; rfl
        have t1 : decide (it.box < 1) = false := decide_eq_false (by omega)
        have t2 : decide (it.box > 999) = false := decide_eq_false (by omega)
        have s2 : decide ((999 : Int) < it.box) = false := decide_eq_false (by omega)
        have t3 : decide (it.day < 1) = false := decide_eq_false (by omega)
        have t4 : decide (it.day > 100000) = false := decide_eq_false (by omega)
        have s4 : decide ((100000 : Int) < it.day) = false := decide_eq_false (by omega)
        have t5 : decide (it.voice < 1) = false := decide_eq_false (by omega)
        have t6 : decide (it.voice > 99) = false := decide_eq_false (by omega)
        have s6 : decide ((99 : Int) < it.voice) = false := decide_eq_false (by omega)
        have t7 : decide (it.turns < 1) = false := decide_eq_false (by omega)
        have t8 : decide (it.turns > 400) = false := decide_eq_false (by omega)
        have s8 : decide ((400 : Int) < it.turns) = false := decide_eq_false (by omega)
        have t9 : decide (it.src < 0) = false := decide_eq_false (by omega)
        have t10 : decide (it.src > 1099511627776) = false := decide_eq_false (by omega)
        have s10 : decide ((1099511627776 : Int) < it.src) = false := decide_eq_false (by omega)
        clear k1 k2 k3 k4 k5 k6 hmx c0 HK HKn HKb hok
        go_wp2_with fail
        refine (risNumber_any it.num _).mono ?_
        rintro _ w3 ⟨v, rfl, rfl, rfl⟩
        rw [n3]
        go_wp2
        go_roundw
        case rel => exact ⟨k + 1, by omega, by go_num, HKt, HBn⟩
        case measure => simp [intOf]; omega
      · have HV := Lib.hid (HKb.out (by simpa using hok))
        have hno : ¬ ItOk it := fun h => hok (okB_iff.2 h)
        have hmx : (maxN : Int) = 1099511627776 := rfl
        clear HK HKn HKb hok
        by_cases c0 : 1 ≤ it.num ∧ it.num ≤ 1099511627776
        rotate_left 1
        · have n3 : (decide ((1 : Int) ≤ it.num) && decide (it.num ≤ (1099511627776 : Int))) = false := by rw [Bool.and_eq_false_iff, decide_eq_false_iff_not, decide_eq_false_iff_not]; omega
          clear hno hmx c0
          go_wp2_with fail
          refine (risNumber_any it.num _).mono ?_
          rintro _ w3 ⟨v, rfl, rfl, rfl⟩
          rw [n3]
          go_wp2
          go_ret
          exact Ret.mk ⟨by rw [HV.out]; rfl, HBn.out⟩
        have n1 : decide ((1 : Int) ≤ it.num) = true := decide_eq_true c0.1
        have n2 : decide (it.num ≤ (1099511627776 : Int)) = true := decide_eq_true c0.2
        have n3 : (decide ((1 : Int) ≤ it.num) && decide (it.num ≤ (1099511627776 : Int))) = true := by rw [n1, n2]; rfl
        by_cases c1 : ¬ it.box < 1
        rotate_left 1
        · have t1 : decide (it.box < 1) = true := decide_eq_true (by omega)
          clear hno hmx c0 c1
          go_wp2_with fail
          refine (risNumber_any it.num _).mono ?_
          rintro _ w3 ⟨v, rfl, rfl, rfl⟩
          rw [n3]
          go_wp2
          go_ret
          exact Ret.mk ⟨by rw [HV.out]; rfl, HBn.out⟩
        have t1 : decide (it.box < 1) = false := decide_eq_false (by omega)
        by_cases c2 : ¬ it.box > 999
        rotate_left 1
        · have t2 : decide (it.box > 999) = true := decide_eq_true (by omega)
          have s2 : decide ((999 : Int) < it.box) = true := decide_eq_true (by omega)
          clear hno hmx c0 c1 c2
          go_wp2_with fail
          refine (risNumber_any it.num _).mono ?_
          rintro _ w3 ⟨v, rfl, rfl, rfl⟩
          rw [n3]
          go_wp2
          go_ret
          exact Ret.mk ⟨by rw [HV.out]; rfl, HBn.out⟩
        have t2 : decide (it.box > 999) = false := decide_eq_false (by omega)
        have s2 : decide ((999 : Int) < it.box) = false := decide_eq_false (by omega)
        by_cases c3 : ¬ it.day < 1
        rotate_left 1
        · have t3 : decide (it.day < 1) = true := decide_eq_true (by omega)
          clear hno hmx c0 c1 c2 c3
          go_wp2_with fail
          refine (risNumber_any it.num _).mono ?_
          rintro _ w3 ⟨v, rfl, rfl, rfl⟩
          rw [n3]
          go_wp2
          go_ret
          exact Ret.mk ⟨by rw [HV.out]; rfl, HBn.out⟩
        have t3 : decide (it.day < 1) = false := decide_eq_false (by omega)
        by_cases c4 : ¬ it.day > 100000
        rotate_left 1
        · have t4 : decide (it.day > 100000) = true := decide_eq_true (by omega)
          have s4 : decide ((100000 : Int) < it.day) = true := decide_eq_true (by omega)
          clear hno hmx c0 c1 c2 c3 c4
          go_wp2_with fail
          refine (risNumber_any it.num _).mono ?_
          rintro _ w3 ⟨v, rfl, rfl, rfl⟩
          rw [n3]
          go_wp2
          go_ret
          exact Ret.mk ⟨by rw [HV.out]; rfl, HBn.out⟩
        have t4 : decide (it.day > 100000) = false := decide_eq_false (by omega)
        have s4 : decide ((100000 : Int) < it.day) = false := decide_eq_false (by omega)
        by_cases c5 : ¬ it.voice < 1
        rotate_left 1
        · have t5 : decide (it.voice < 1) = true := decide_eq_true (by omega)
          clear hno hmx c0 c1 c2 c3 c4 c5
          go_wp2_with fail
          refine (risNumber_any it.num _).mono ?_
          rintro _ w3 ⟨v, rfl, rfl, rfl⟩
          rw [n3]
          go_wp2
          go_ret
          exact Ret.mk ⟨by rw [HV.out]; rfl, HBn.out⟩
        have t5 : decide (it.voice < 1) = false := decide_eq_false (by omega)
        by_cases c6 : ¬ it.voice > 99
        rotate_left 1
        · have t6 : decide (it.voice > 99) = true := decide_eq_true (by omega)
          have s6 : decide ((99 : Int) < it.voice) = true := decide_eq_true (by omega)
          clear hno hmx c0 c1 c2 c3 c4 c5 c6
          go_wp2_with fail
          refine (risNumber_any it.num _).mono ?_
          rintro _ w3 ⟨v, rfl, rfl, rfl⟩
          rw [n3]
          go_wp2
          go_ret
          exact Ret.mk ⟨by rw [HV.out]; rfl, HBn.out⟩
        have t6 : decide (it.voice > 99) = false := decide_eq_false (by omega)
        have s6 : decide ((99 : Int) < it.voice) = false := decide_eq_false (by omega)
        by_cases c7 : ¬ it.turns < 1
        rotate_left 1
        · have t7 : decide (it.turns < 1) = true := decide_eq_true (by omega)
          clear hno hmx c0 c1 c2 c3 c4 c5 c6 c7
          go_wp2_with fail
          refine (risNumber_any it.num _).mono ?_
          rintro _ w3 ⟨v, rfl, rfl, rfl⟩
          rw [n3]
          go_wp2
          go_ret
          exact Ret.mk ⟨by rw [HV.out]; rfl, HBn.out⟩
        have t7 : decide (it.turns < 1) = false := decide_eq_false (by omega)
        by_cases c8 : ¬ it.turns > 400
        rotate_left 1
        · have t8 : decide (it.turns > 400) = true := decide_eq_true (by omega)
          have s8 : decide ((400 : Int) < it.turns) = true := decide_eq_true (by omega)
          clear hno hmx c0 c1 c2 c3 c4 c5 c6 c7 c8
          go_wp2_with fail
          refine (risNumber_any it.num _).mono ?_
          rintro _ w3 ⟨v, rfl, rfl, rfl⟩
          rw [n3]
          go_wp2
          go_ret
          exact Ret.mk ⟨by rw [HV.out]; rfl, HBn.out⟩
        have t8 : decide (it.turns > 400) = false := decide_eq_false (by omega)
        have s8 : decide ((400 : Int) < it.turns) = false := decide_eq_false (by omega)
        by_cases c9 : ¬ it.src < 0
        rotate_left 1
        · have t9 : decide (it.src < 0) = true := decide_eq_true (by omega)
          clear hno hmx c0 c1 c2 c3 c4 c5 c6 c7 c8 c9
          go_wp2_with fail
          refine (risNumber_any it.num _).mono ?_
          rintro _ w3 ⟨v, rfl, rfl, rfl⟩
          rw [n3]
          go_wp2
          go_ret
          exact Ret.mk ⟨by rw [HV.out]; rfl, HBn.out⟩
        have t9 : decide (it.src < 0) = false := decide_eq_false (by omega)
        by_cases c10 : ¬ it.src > 1099511627776
        rotate_left 1
        · have t10 : decide (it.src > 1099511627776) = true := decide_eq_true (by omega)
          have s10 : decide ((1099511627776 : Int) < it.src) = true := decide_eq_true (by omega)
          clear hno hmx c0 c1 c2 c3 c4 c5 c6 c7 c8 c9 c10
          go_wp2_with fail
          refine (risNumber_any it.num _).mono ?_
          rintro _ w3 ⟨v, rfl, rfl, rfl⟩
          rw [n3]
          go_wp2
          go_ret
          exact Ret.mk ⟨by rw [HV.out]; rfl, HBn.out⟩
        have t10 : decide (it.src > 1099511627776) = false := decide_eq_false (by omega)
        have s10 : decide ((1099511627776 : Int) < it.src) = false := decide_eq_false (by omega)
        exact absurd ⟨by omega, by omega, by omega, by omega, by omega, by omega⟩ hno
    · obtain rfl : k = l.length := by omega
      have HAll := Lib.hid (all_okB fun i hi => HK.out i hi hi)
      have HI := Lib.hid (ItemsAt.below Hl.out HB.out)
      obtain ⟨wo, hwo⟩ : ∃ x, x = wr := ⟨_, rfl⟩
      subst hwo
      clear HK Hl
      go_wp2
      go_loopw [5] (fun i wr => ∃ k q : Nat, 1 ≤ k ∧ (k ≤ l.length ∨ k = 1) ∧ i = .int .i64 k ∧ wr = wo.drewN q ∧ Hid (∀ j (h : j + 1 < l.length), j + 1 < k → (l[j]'(by omega)).num < l[j + 1].num)) (fun i _ => l.length - (intOf i).toNat)
      case atStart => exact ⟨1, 0, by omega, .inr rfl, rfl, rfl, Lib.hid fun j h h2 => by omega⟩
      case round =>
        obtain ⟨k, q, hk1, hk, rfl, rfl, HK⟩ := hrel
        by_cases hkl : k < l.length
        · obtain ⟨b, off, rfl, g0, -⟩ := HI.out.at_ hkl
          obtain ⟨b', off', hA, g1, -⟩ := HI.out.at_ (i := k - 1) (by omega)
          injection hA with hA
          injection hA with hA1 hA2
          subst hA1; subst hA2
          have g0 : (wo.drewN q).cell? ⟨b, off + k * 7, none⟩ = some (.int .i64 l[k].num) := g0
          have HKn : Hid (l[k - 1].num < l[k].num → ∀ j (h : j + 1 < l.length), j + 1 < k + 1 → (l[j]'(by omega)).num < l[j + 1].num) := Lib.hid fun h j hj h2 => by
            by_cases e : j + 1 = k
            · subst e; exact h
            · exact HK.out j hj (by omega)
          have HKb : Hid (¬ l[k - 1].num < l[k].num → itemsErr l = 15) := Lib.hid fun h => HE15.out HAll.out (by
            cases e : riseB l with
            | false => rfl
            | true =>
              obtain ⟨m, rfl⟩ : ∃ m, k = m + 1 := ⟨k - 1, by omega⟩
              exact absurd (rise_adj.1 e m hkl) h)
          obtain ⟨m, hm⟩ : ∃ m, m = k - 1 := ⟨_, rfl⟩
          have e1 : IntKind.i64.wrap ((k : Int) - 1) = (m : Int) := by rw [show (k : Int) - 1 = (m : Int) by omega]; exact IntWalk.i64_in _ (by omega)
          generalize hy : l[k - 1].num = y at *
          rw [← hm] at g1
          generalize hz : l[k].num = z at *
          have k0 : (0 : Int) ≤ (k : Int) := by omega
          have k1 : (k : Int) < (l.length : Int) := by omega
          have m0 : (0 : Int) ≤ (m : Int) := by omega
          have m1 : (m : Int) < (l.length : Int) := by omega
          clear HK hm hy hz
          by_cases hlt : y < z
          · have t1 : decide (z ≤ y) = false := decide_eq_false (by omega)
            have HKt := Lib.hid (HKn.out hlt)
            clear HKn HKb hlt
            go_upto_region 12 with fail
            go_quiet (fail)
            go_wp2
            go_roundw
            case rel => exact ⟨k + 1, _, by omega, .inl (by omega), by go_num, rfl, HKt⟩
            case measure => simp [intOf]; omega
          · have t1 : decide (z ≤ y) = true := decide_eq_true (by omega)
            have HV := Lib.hid (HKb.out hlt)
            clear HKn HKb hlt
            go_upto_region 12 with fail
            go_quiet (fail)
            go_wp2
            go_ret
            exact Ret.mk ⟨by rw [HV.out]; rfl, below_drewN HB.out _⟩
        · have HRise := Lib.hid (rise_adj.2 fun j h => HK.out j h (by omega))
          have hkk : decide ((k : Int) < (l.length : Int)) = false := decide_eq_false (by omega)
          have hkn : decide (k < l.length) = false := decide_eq_false hkl
          clear HK
          go_wp2
          go_loopw [6] (fun i wr => ∃ k q : Nat, k ≤ l.length ∧ i = .int .i64 k ∧ wr = wo.drewN q ∧ Hid (∀ x ∈ l.take k, room l x.box ≤ 12)) (fun i _ => l.length - (intOf i).toNat)
          case atStart => exact ⟨0, _, by omega, rfl, rfl, Lib.hid fun x hx => by simp at hx⟩
          case round =>
            obtain ⟨i, q2, hi, rfl, rfl, HM⟩ := hrel
            by_cases hil : i < l.length
            · obtain ⟨b, off, rfl, -, g1, -⟩ := HI.out.at_ hil
              have g1 : (wo.drewN q2).cell? ⟨b, off + i * 7 + 1, none⟩ = some (.int .i64 l[i].box) := g1
              have i0 : (0 : Int) ≤ (i : Int) := by omega
              have i1 : (i : Int) < (l.length : Int) := by omega
              have HKn : Hid (room l l[i].box ≤ 12 → ∀ x ∈ l.take (i + 1), room l x.box ≤ 12) := Lib.hid fun h x hx => by
                rw [List.take_succ_eq_append_getElem hil] at hx
                rcases List.mem_append.1 hx with hx | hx
                · exact HM.out x hx
                · rw [List.mem_singleton] at hx; subst hx; exact h
              have HKb : Hid (12 < room l l[i].box → itemsErr l = 10) := Lib.hid fun h => HE10.out HAll.out HRise.out (List.any_eq_true.2 ⟨l[i], List.getElem_mem hil, by simpa using h⟩)
              generalize l[i].box = y at *
              clear HM
              go_wp2_with fail
              refine (rroom_any _ ca l y _ (HI.out.drewN q2) (by omega)).mono ?_
              rintro _ w5 ⟨v, rfl, rfl, q3, rfl⟩
              by_cases h12 : 12 < room l y
              · have HV := Lib.hid (HKb.out h12)
                have t1 : decide (((room l y : Nat) : Int) > 12) = true := decide_eq_true (by omega)
                have t2 : decide ((12 : Int) < ((room l y : Nat) : Int)) = true := decide_eq_true (by omega)
                have t3 : decide (12 < room l y) = true := decide_eq_true h12
                clear HKn HKb h12
                go_wp2
                go_ret
                exact Ret.mk ⟨by rw [HV.out]; rfl, below_drewN HB.out _⟩
              · have HKt := Lib.hid (HKn.out (by omega))
                have t1 : decide (((room l y : Nat) : Int) > 12) = false := decide_eq_false (by omega)
                have t2 : decide ((12 : Int) < ((room l y : Nat) : Int)) = false := decide_eq_false (by omega)
                have t3 : decide (12 < room l y) = false := decide_eq_false h12
                clear HKn HKb h12
                go_wp2
                go_roundw
                case rel => exact ⟨i + 1, _, by omega, by go_num, rfl, HKt⟩
                case measure => simp [intOf]; omega
            · obtain rfl : i = l.length := by omega
              have hM := HM.out
              rw [List.take_length] at hM
              have HV := Lib.hid (HE0.out HAll.out HRise.out (by
                cases e : (l.any fun x => decide (12 < room l x.box)) with
                | false => rfl
                | true =>
                  obtain ⟨x, hx, h⟩ := List.any_eq_true.1 e
                  have := hM x hx
                  have : 12 < room l x.box := by simpa using h
                  omega))
              clear HM hM
              go_wp2
              go_ret
              exact Ret.mk ⟨by rw [HV.out]; rfl, below_drewN HB.out _⟩
end Go.Proofs.YtkpmmgeffbhngaaGreatDoor
