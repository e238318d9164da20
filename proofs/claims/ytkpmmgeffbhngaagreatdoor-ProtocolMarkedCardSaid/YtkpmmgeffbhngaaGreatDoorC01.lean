/- What the laws of the chapter rest on, part 01. -/
import Derived.Test.YtkpmmgeffbhngaaGreatDoorC00
import Derived.WalkKit
import Derived.WalkSpells
import Derived.WalkLawsBesides
import Derived.BigQuiet
import Derived.Deep.QuietTactic
import Derived.Lib.Hide
import Derived.Test.YtkpmmgeffbhngaaGreatDoorProg
import Derived.Deep.DeepCutAuto
import Derived.Laws.Concat
set_option linter.unusedSimpArgs false
set_option linter.unusedVariables false
set_option linter.unnecessarySimpa false
namespace Prot
end Prot
namespace Go.Shelf
end Go.Shelf
namespace Go.Maps
end Go.Maps
namespace Go.Proofs.YtkpmmgeffbhngaaGreatDoor
open Go.RowKit Prot Go.Lib
/-- a call returns a value and leaves a world that meets Q -/
def Ret (Q : Value → World → Prop) (e : Ending) (w' : World) : Prop := ∃ v, e = .returned v ∧ Q v w'
theorem Ret.mk {Q : Value → World → Prop} {v : Value} {w' : World} (h : Q v w') : Ret Q (.returned v) w' := ⟨v, rfl, h⟩
theorem Ret.mk' {Q : Value → World → Prop} {u v : Value} {w' : World} (e : u = v) (h : Q v w') : Ret Q (.returned u) w' := ⟨v, by rw [e], h⟩
/-- a text as a value -/
def bs (l : List UInt8) : ByteArray := ⟨l.toArray⟩
theorem bs_append (a b : List UInt8) : bs a ++ bs b = bs (a ++ b) := by
  unfold bs
  apply ByteArray.ext
  simp
theorem bs_of (s : ByteArray) : s = bs s.data.toList := by
  obtain ⟨⟨l⟩⟩ := s; rfl
theorem bs_list (l : List UInt8) : (bs l).data.toList = l := rfl
theorem bs_size (l : List UInt8) : (bs l).size = l.length := by rw [Lib.size_eq]; rfl
theorem bs_inj {a b : List UInt8} : bs a = bs b ↔ a = b := ⟨fun h => by rw [← bs_list a, h, bs_list], fun h => by rw [h]⟩
theorem enc_ascii {r : Nat} (h : r < 128) : Utf8.encode (r : Int) = bs [UInt8.ofNat r] := by
  have v : Utf8.valid (r : Int) = true := by simp [Utf8.valid]; omega
  simp [Utf8.encode, v, h, bs]
theorem enc_small {n : Nat} (h : n < 10) : Utf8.encode (48 + (n : Int)) = bs (decDigits n) := by
  rw [decDigits_small h]
  exact_mod_cast enc_ascii (r := 48 + n) (by omega)
theorem enc_last (n : Nat) : Utf8.encode (48 + (n : Int) % 10) = bs [UInt8.ofNat (48 + n % 10)] := by
  have := enc_ascii (r := 48 + n % 10) (by omega)
  push_cast at this
  exact this
theorem dec_join {n : Nat} (h : ¬ n < 10) : bs (decDigits (n / 10)) ++ Utf8.encode (48 + (n : Int) % 10) = bs (decDigits n) := by
  rw [enc_last, bs_append, ← decDigits_big h]
set_option maxRecDepth 100000 in
theorem rtext_any : ∀ (n : Nat) (w : World), n ≤ 1099511627776 → Calls Tryz.prog 52 #[.int .i64 n] w (Ret fun v w' => v = .string (bs (decDigits n)) ∧ w' = w) := fun n => by
  induction n using Nat.strongRecOn with
  | _ n ih =>
    intro w hn
    by_cases h : n < 10
    · clear ih
      go_enter Tryz.func52, Tryz.ntmps52
      go_wp2
      rw [enc_small h]
      go_ret
      exact Ret.mk ⟨rfl, rfl⟩
    · have hih := ih (n / 10) (by omega)
      have Hih : Hid (∀ w, Calls Tryz.prog 52 #[.int .i64 ((n : Int) / 10)] w (Ret fun v w' => v = .string (bs (decDigits (n / 10))) ∧ w' = w)) := Lib.hid fun w => by
        have := hih w (by omega)
        push_cast at this
        exact this
      have hl := dec_len13 (n := n / 10) (by show n / 10 ≤ 1099511627776; omega)
      have hadd : ∀ w, (Op.stringOp .add (bs (decDigits (n / 10))) (Utf8.encode (48 + (n : Int) % 10))).run Tryz.prog w = .ok (.string (bs (decDigits n))) w := fun w => by
        rw [← dec_join h]
        exact run_string_add_sum w _ _ (by rw [enc_last, bs_size, bs_size]; simp; omega)
      clear hih ih hl
      go_enter Tryz.func52, Tryz.ntmps52
      go_wp2_with fail
      refine (Hih.out _).mono ?_
      rintro e w1 ⟨v, rfl, rfl, rfl⟩
      go_wp2
      go_ret
      exact Ret.mk ⟨rfl, rfl⟩
theorem risNumber_any (n : Int) (w : World) : Calls Tryz.prog 51 #[.int .i64 n] w (Ret fun v w' => v = .bool (decide (1 ≤ n) && decide (n ≤ 1099511627776)) ∧ w' = w) := by
  by_cases h1 : 1 ≤ n
  · have d1 : decide (1 ≤ n) = true := by simpa using h1
    go_enter Tryz.func51, Tryz.ntmps51
    go_wp2
    go_ret
    exact Ret.mk ⟨by simp [d1], rfl⟩
  · have d1 : decide (1 ≤ n) = false := by simpa using h1
    go_enter Tryz.func51, Tryz.ntmps51
    go_wp2
    go_ret
    exact Ret.mk ⟨by simp [d1], rfl⟩
/-- a number, or none, as two values -/
def numT : Option Nat → Value
  | some n => .tuple #[.int .i64 n, .bool true]
  | none => .tuple #[.int .i64 0, .bool false]
theorem rnumber_none {l : List UInt8} (h : ¬ (l ≠ [] ∧ l.length ≤ 18 ∧ leadB l = true ∧ l.all isD = true)) : numT (numR l) = .tuple #[.int .i64 0, .bool false] := by
  unfold numR; rw [if_neg h]; rfl
theorem at_list (s : ByteArray) (k : Nat) (h : k < s.size) : s.data.toList[k]? = some s[k] := by
  rw [Array.getElem?_toList]
  exact Array.getElem?_eq_getElem h
set_option maxRecDepth 100000 in
theorem rnumber_any (s : ByteArray) (w : World) (hs : s.size ≤ 9223372036854775807) : Calls Tryz.prog 55 #[.string s] w (Ret fun v w' => v = numT (numR s.data.toList) ∧ w' = w) := by
  have hsz : s.data.toList.length = s.size := (Lib.size_eq s).symm
  by_cases h0 : s.size = 0
  · have HN := Lib.hid (rnumber_none (l := s.data.toList) (fun k => k.1 (List.eq_nil_of_length_eq_zero (by omega))))
    have d0 : ((s.size : Int) == 0) = true := by simp [h0]
    clear h0 hsz
    go_enter Tryz.func55, Tryz.ntmps55
    go_wp2
    go_ret2
    exact Ret.mk ⟨HN.out.symm, rfl⟩
  have d0 : ((s.size : Int) == 0) = false := by rw [beq_eq_false_iff_ne]; omega
  by_cases h18 : 18 < s.size
  · have HN := Lib.hid (rnumber_none (l := s.data.toList) (fun k => by omega))
    have d1 : decide ((18 : Int) < (s.size : Int)) = true := by simp; omega
    clear hsz
    go_enter Tryz.func55, Tryz.ntmps55
    go_wp2
    go_ret2
    exact Ret.mk ⟨HN.out.symm, rfl⟩
  have d1 : decide ((18 : Int) < (s.size : Int)) = false := by simp; omega
  have p0 : 0 < s.size := by omega
  have hs0 := at_list s 0 p0
  have hhead : s.data.toList.headD 0 = s[0] := by
    cases hl : s.data.toList with
    | nil => rw [hl] at hs0; cases hs0
    | cons c r => rw [hl] at hs0; simpa using hs0
  by_cases hz : s[0].toNat = 48 ∧ 1 < s.size
  · obtain ⟨z1, z2⟩ := hz
    have HN := Lib.hid (rnumber_none (l := s.data.toList) (fun k => by
      have := k.2.2.1
      unfold leadB at this
      rw [hhead, hsz] at this
      simp at this; omega))
    have e1 : ((s[0].toNat : Int) == 48) = true := by simp [z1]
    have d2 : decide ((1 : Int) < (s.size : Int)) = true := by simp; omega
    clear hsz hs0 hhead
    go_enter Tryz.func55, Tryz.ntmps55
    go_wp2
    go_ret2
    exact Ret.mk ⟨HN.out.symm, rfl⟩
  have HL : Hid (leadB s.data.toList = true) := Lib.hid (by
    unfold leadB
    rw [hhead, hsz]
    by_cases k : s[0].toNat = 48
    · have : s.size ≤ 1 := Classical.byContradiction fun q => hz ⟨k, by omega⟩
      simp [this]
    · simp [k])
  have hz2 : ((s[0].toNat : Int) == 48) = false ∨ ((s[0].toNat : Int) == 48) = true ∧ decide ((1 : Int) < (s.size : Int)) = false := by
    by_cases k : s[0].toNat = 48
    · have : ¬ 1 < s.size := fun q => hz ⟨k, q⟩
      exact .inr ⟨by simp [k], by simp; omega⟩
    · exact .inl (by rw [beq_eq_false_iff_ne]; omega)
  obtain ⟨l, hl⟩ : ∃ l, l = s.data.toList := ⟨_, rfl⟩
  have HAt : Hid (∀ k (h : k < s.size), l.take (k + 1) = l.take k ++ [s[k]]) := Lib.hid fun k h => by
    have h1 := at_list s k h
    rw [← hl] at h1
    rw [List.take_add_one, h1]; rfl
  have HSz : Hid (l.length = s.size) := Lib.hid (by rw [hl]; exact hsz)
  rw [← hl] at HL ⊢
  clear hl hsz hs0 hhead hz
  rcases hz2 with e1 | ⟨e1, e2⟩
  all_goals
    go_enter Tryz.func55, Tryz.ntmps55
    go_wp2
    go_loop [4, 5] (fun n i => ∃ k : Nat, k ≤ s.size ∧ i = .int .i64 k ∧ n = .int .i64 (val (l.take k)) ∧ Hid (∀ c ∈ l.take k, isD c = true)) (fun _ i => s.size - (intOf i).toNat)
    case atStart => exact ⟨0, by omega, rfl, rfl, Lib.hid fun c hc => by simp at hc⟩
    case round =>
      obtain ⟨k, hk, rfl, rfl, HD⟩ := hrel
      by_cases hlt : k < s.size
      · have HA := Lib.hid (HAt.out k hlt)
        by_cases hd : isD s[k] = true
        · obtain ⟨b1, b2⟩ := isD_iff.1 hd
          have HV : Hid (val (l.take (k + 1)) = val (l.take k) * 10 + (s[k].toNat - 48)) := Lib.hid (by rw [HA.out, val_snoc])
          have HDn : Hid (∀ c ∈ l.take (k + 1), isD c = true) := Lib.hid fun c hc => by
            rw [HA.out] at hc
            rcases List.mem_append.1 hc with hc | hc
            · exact HD.out c hc
            · rw [List.mem_singleton] at hc; subst hc; exact hd
          have hb := val_lt (l := l.take k) HD.out
          rw [List.length_take, HSz.out] at hb
          have hb2 : val (l.take k) < 10 ^ 17 := Nat.lt_of_lt_of_le hb (Nat.pow_le_pow_right (by omega) (by omega))
          have e17 : (10 : Nat) ^ 17 = 100000000000000000 := by decide
          obtain ⟨d, hdd⟩ : ∃ d : Nat, s[k].toNat = d + 48 := ⟨s[k].toNat - 48, by omega⟩
          have hw0 : IntKind.u8.wrap ((s[k].toNat : Int) - 48) = (d : Int) := by rw [show (s[k].toNat : Int) - 48 = (d : Int) from by omega]; exact IntWalk.u8_in _ (by omega)
          have hw1 : IntKind.i64.wrap (10 * ((val (l.take k) : Nat) : Int)) = 10 * ((val (l.take k) : Nat) : Int) := IntWalk.i64_in _ (by omega)
          have hw2 : IntKind.i64.wrap (10 * ((val (l.take k) : Nat) : Int) + (d : Int)) = 10 * ((val (l.take k) : Nat) : Int) + (d : Int) := IntWalk.i64_in _ (by omega)
          have hw3 : IntKind.i64.wrap (d : Int) = (d : Int) := IntWalk.i64_in _ (by omega)
          have t1 : decide ((s[k].toNat : Int) < 48) = false := by simp; omega
          have t2 : decide ((s[k].toNat : Int) > 57) = false := by simp; omega
          have t3 : decide ((57 : Int) < (s[k].toNat : Int)) = false := by simp; omega
          have HVd : Hid (val (l.take (k + 1)) = val (l.take k) * 10 + d) := Lib.hid (by rw [HV.out]; omega)
          clear hb hb2 e17 HV HA hd HD hdd
          generalize val (l.take k) = v at *
          go_wp2
          go_round
          case rel => exact ⟨k + 1, by omega, by go_num, by rw [HVd.out]; go_num, HDn⟩
          case measure => simp [intOf]; omega
        · have HB : Hid (∃ c ∈ l, isD c = false) := Lib.hid ⟨s[k], by
            have : s[k] ∈ l.take (k + 1) := by rw [HA.out]; simp
            exact List.mem_of_mem_take this, by simpa using hd⟩
          have HN := Lib.hid (rnumber_none (l := l) (fun q => by
            obtain ⟨c, hc, hc2⟩ := HB.out
            have := List.all_eq_true.1 q.2.2.2 c hc
            rw [hc2] at this; cases this))
          by_cases t : s[k].toNat < 48
          · have t1 : decide ((s[k].toNat : Int) < 48) = true := by simp; omega
            clear HA HB hd HD
            go_wp2
            go_ret2
            exact Ret.mk ⟨HN.out.symm, rfl⟩
          · have hu : 57 < s[k].toNat := by
              rw [isD_iff] at hd; omega
            have t1 : decide ((s[k].toNat : Int) < 48) = false := by simp; omega
            have t2 : decide ((s[k].toNat : Int) > 57) = true := by simp; omega
            have t3 : decide ((57 : Int) < (s[k].toNat : Int)) = true := by simp; omega
            clear HA HB hd HD
            go_wp2
            go_ret2
            exact Ret.mk ⟨HN.out.symm, rfl⟩
      · have ek : k = s.size := by omega
        have HE : Hid (numR l = some (val (l.take k))) := Lib.hid (by
          have et : l.take k = l := by rw [ek, ← HSz.out]; exact List.take_length
          rw [et] at HD ⊢
          unfold numR
          rw [if_pos ⟨fun q => by rw [q] at HSz; have := HSz.out; simp at this; omega, by rw [HSz.out]; omega, HL.out, List.all_eq_true.2 HD.out⟩])
        clear HD ek
        generalize val (l.take k) = v at *
        go_wp2
        go_ret2
        exact Ret.mk' (by rw [HE.out]; rfl) ⟨rfl, rfl⟩
end Go.Proofs.YtkpmmgeffbhngaaGreatDoor
