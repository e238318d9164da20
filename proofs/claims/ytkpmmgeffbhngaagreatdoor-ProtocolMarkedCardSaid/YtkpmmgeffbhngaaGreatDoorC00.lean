/- What the laws of the chapter rest on, part 00. -/
import Derived.Lib.ItoaMem
import Derived.Lib.ParseIntB
import Derived.Lib.SlTrimSet
set_option linter.unusedSimpArgs false
set_option linter.unusedVariables false
set_option linter.unnecessarySimpa false
namespace Prot
end Prot
namespace Go.Shelf
end Go.Shelf
namespace Go.Maps
end Go.Maps
namespace Prot
open Go.Lib
/-- a byte that is a decimal digit -/
def isD (c : UInt8) : Bool := decide (48 ≤ c.toNat) && decide (c.toNat ≤ 57)
theorem isD_iff {c : UInt8} : isD c = true ↔ 48 ≤ c.toNat ∧ c.toNat ≤ 57 := by unfold isD; simp
theorem isD_ofNat {d : Nat} (h : d < 10) : isD (UInt8.ofNat (48 + d)) = true ∧ (UInt8.ofNat (48 + d)).toNat = 48 + d := by
  have e : (UInt8.ofNat (48 + d)).toNat = 48 + d := by
    rw [UInt8.toNat_ofNat']
    exact Nat.mod_eq_of_lt (by omega)
  exact ⟨isD_iff.2 (by rw [e]; omega), e⟩
/-- the number that digits spell, behind acc -/
def valA (acc : Nat) : List UInt8 → Nat
  | [] => acc
  | c :: r => valA (acc * 10 + (c.toNat - 48)) r
def val (l : List UInt8) : Nat := valA 0 l
theorem valA_snoc (c : UInt8) : ∀ (l : List UInt8) (acc : Nat), valA acc (l ++ [c]) = valA acc l * 10 + (c.toNat - 48)
  | [], _ => rfl
  | _ :: r, _ => valA_snoc c r _
theorem val_snoc (l : List UInt8) (c : UInt8) : val (l ++ [c]) = val l * 10 + (c.toNat - 48) := valA_snoc c l 0
theorem valA_le (acc : Nat) : ∀ (l : List UInt8), acc ≤ valA acc l
  | [] => Nat.le_refl _
  | c :: r => Nat.le_trans (by omega) (valA_le (acc * 10 + (c.toNat - 48)) r)
theorem val_lt {l : List UInt8} (h : ∀ c ∈ l, isD c = true) : val l < 10 ^ l.length := by
  have key : ∀ l : List UInt8, ∀ a : Nat, (∀ c ∈ l, isD c = true) → valA a l < (a + 1) * 10 ^ l.length := fun l => by
    induction l with
    | nil => intro a _; show a < (a + 1) * 10 ^ 0; rw [Nat.pow_zero]; omega
    | cons c r ih =>
      intro a h
      have h1 := ih (a * 10 + (c.toNat - 48)) (fun d hd => h d (by simp [hd]))
      have h2 := isD_iff.1 (h c (by simp))
      show valA (a * 10 + (c.toNat - 48)) r < (a + 1) * 10 ^ (r.length + 1)
      rw [Nat.pow_succ, ← Nat.mul_assoc]
      have h3 : (a * 10 + (c.toNat - 48) + 1) * 10 ^ r.length ≤ ((a + 1) * 10) * 10 ^ r.length := Nat.mul_le_mul_right _ (by omega)
      have h4 : (a + 1) * 10 * 10 ^ r.length = (a + 1) * 10 ^ r.length * 10 := by rw [Nat.mul_assoc, Nat.mul_comm 10, ← Nat.mul_assoc]
      omega
  have := key l 0 h
  rw [Nat.zero_add, Nat.one_mul] at this
  exact this
theorem decDigits_small {n : Nat} (h : n < 10) : decDigits n = [UInt8.ofNat (48 + n)] := by rw [decDigits, dif_pos h]
theorem decDigits_big {n : Nat} (h : ¬ n < 10) : decDigits n = decDigits (n / 10) ++ [UInt8.ofNat (48 + n % 10)] := by rw [decDigits, dif_neg h]
theorem dec_val (n : Nat) : val (decDigits n) = n := by
  induction n using Nat.strongRecOn with
  | _ n ih =>
    by_cases h : n < 10
    · rw [decDigits_small h]
      show 0 * 10 + ((UInt8.ofNat (48 + n)).toNat - 48) = n
      rw [(isD_ofNat h).2]; omega
    · rw [decDigits_big h, val_snoc, ih (n / 10) (by omega), (isD_ofNat (by omega)).2]; omega
theorem dec_all (n : Nat) : ∀ c ∈ decDigits n, isD c = true := by
  induction n using Nat.strongRecOn with
  | _ n ih =>
    intro c hc
    by_cases h : n < 10
    · rw [decDigits_small h, List.mem_singleton] at hc
      subst hc; exact (isD_ofNat h).1
    · rw [decDigits_big h] at hc
      rcases List.mem_append.1 hc with hc | hc
      · exact ih _ (by omega) c hc
      · rw [List.mem_singleton] at hc
        subst hc; exact (isD_ofNat (by omega)).1
theorem dec_ne (n : Nat) : decDigits n ≠ [] := fun e => by
  have := decDigits_length n
  rw [e] at this
  have h := nDigits_pos n
  simp at this; omega
/-- no zeros in front -/
def Lead (l : List UInt8) : Prop := l.length = 1 ∨ ∃ c r, l = c :: r ∧ c.toNat ≠ 48
theorem dec_lead (n : Nat) : Lead (decDigits n) := by
  induction n using Nat.strongRecOn with
  | _ n ih =>
    by_cases h : n < 10
    · rw [decDigits_small h]; exact .inl rfl
    · rw [decDigits_big h]
      have h2 := ih (n / 10) (by omega)
      rcases h2 with h2 | ⟨c, r, e, hc⟩
      · have h3 : n / 10 < 10 := by
          rw [decDigits_length] at h2
          have := lt_pow_nDigits (n / 10)
          rw [h2] at this
          simpa using this
        rw [decDigits_small h3]
        refine .inr ⟨_, _, rfl, ?_⟩
        rw [(isD_ofNat h3).2]; omega
      · rw [e]; exact .inr ⟨c, r ++ [UInt8.ofNat (48 + n % 10)], rfl, hc⟩
theorem snoc_ind {α : Type} {P : List α → Prop} (h0 : P []) (h1 : ∀ l x, P l → P (l ++ [x])) (l : List α) : P l := by
  have key : ∀ l : List α, P l.reverse := fun l => by
    induction l with
    | nil => exact h0
    | cons x l ih => rw [List.reverse_cons]; exact h1 _ _ ih
  have := key l.reverse
  rwa [List.reverse_reverse] at this
theorem byte_of_digit {c : UInt8} (h : isD c = true) : UInt8.ofNat (48 + (c.toNat - 48)) = c := by
  have := isD_iff.1 h
  rw [show 48 + (c.toNat - 48) = c.toNat by omega]
  exact UInt8.ofNat_toNat
/-- a word of digits without zeros in front is the numeral of its number -/
theorem dec_of {l : List UInt8} (hne : l ≠ []) (hall : ∀ c ∈ l, isD c = true) (hl : Lead l) : decDigits (val l) = l := by
  induction l using snoc_ind with
  | h0 => exact absurd rfl hne
  | h1 k c ih =>
    have hc := hall c (by simp)
    have hcd := isD_iff.1 hc
    rw [val_snoc]
    by_cases hk : k = []
    · subst hk
      have e : val [] * 10 + (c.toNat - 48) = c.toNat - 48 := by show 0 * 10 + _ = _; omega
      rw [e, decDigits_small (by omega), byte_of_digit hc]; rfl
    · have hkl : Lead k := by
        rcases hl with hl | ⟨d, r, e, hd⟩
        · have h0 : k.length ≠ 0 := fun e => hk (List.eq_nil_of_length_eq_zero e)
          have e : (k ++ [c]).length = k.length + 1 := by simp
          omega
        · cases k with
          | nil => exact absurd rfl hk
          | cons x k =>
            rw [List.cons_append] at e
            injection e with e1 e2
            exact .inr ⟨x, k, rfl, by rw [e1]; exact hd⟩
      have h1 := ih hk (fun d hd => hall d (by simp [hd])) hkl
      have hpos : 1 ≤ val k := by
        rcases hkl with h2 | ⟨d, r, e, hd⟩
        · -- one digit: not nought, as the word has more
          rcases hl with hl | ⟨d, r, e, hd⟩
          · have h0 : k.length ≠ 0 := fun e => hk (List.eq_nil_of_length_eq_zero e)
            have e : (k ++ [c]).length = k.length + 1 := by simp
            omega
          · cases k with
            | nil => exact absurd rfl hk
            | cons x k =>
              rw [List.cons_append] at e
              injection e with e1 e2
              subst e1
              have hx := isD_iff.1 (hall x (by simp))
              have := valA_le (0 * 10 + (x.toNat - 48)) k
              show 1 ≤ valA (0 * 10 + (x.toNat - 48)) k
              omega
        · subst e
          have hx := isD_iff.1 (hall d (by simp))
          have := valA_le (0 * 10 + (d.toNat - 48)) r
          show 1 ≤ valA (0 * 10 + (d.toNat - 48)) r
          omega
      rw [decDigits_big (by omega), show (val k * 10 + (c.toNat - 48)) / 10 = val k by omega, show (val k * 10 + (c.toNat - 48)) % 10 = c.toNat - 48 by omega, h1, byte_of_digit hc]
theorem dec_inj {a b : Nat} (h : decDigits a = decDigits b) : a = b := by rw [← dec_val a, h, dec_val]
/-- the definition's way: digits alone, at most 18, no zeros in front -/
def leadB (l : List UInt8) : Bool := decide (l.length ≤ 1) || decide ((l.headD 0).toNat ≠ 48)
def numR (l : List UInt8) : Option Nat := if l ≠ [] ∧ l.length ≤ 18 ∧ leadB l = true ∧ l.all isD = true then some (val l) else none
theorem lead_iff {l : List UInt8} (h : l ≠ []) : leadB l = true ↔ Lead l := by
  cases l with
  | nil => exact absurd rfl h
  | cons c r =>
    unfold leadB Lead
    rw [Bool.or_eq_true]
    constructor
    · rintro (h | h)
      · have := of_decide_eq_true h
        simp only [List.length_cons] at this
        exact .inl (by simp only [List.length_cons]; omega)
      · exact .inr ⟨c, r, rfl, of_decide_eq_true h⟩
    · rintro (h | ⟨d, k, e, hd⟩)
      · exact .inl (decide_eq_true (by omega))
      · injection e with e1 _; subst e1; exact .inr (decide_eq_true hd)
theorem numR_iff {l : List UInt8} {n : Nat} : numR l = some n ↔ l = decDigits n ∧ l.length ≤ 18 := by
  unfold numR
  constructor
  · intro h
    split at h
    · rename_i hc
      injection h with h
      subst h
      exact ⟨(dec_of hc.1 (fun c hx => List.all_eq_true.1 hc.2.2.2 c hx) ((lead_iff hc.1).1 hc.2.2.1)).symm, hc.2.1⟩
    · cases h
  · rintro ⟨rfl, h⟩
    rw [if_pos ⟨dec_ne n, h, (lead_iff (dec_ne n)).2 (dec_lead n), List.all_eq_true.2 (dec_all n)⟩, dec_val]
/-- the program's way: ParseInt, and the numeral of what it gives -/
def numP (l : List UInt8) : Int :=
  match parseIntB 64 l with
  | .ok v => if v < 0 ∨ itoa v ≠ l then -1 else v
  | _ => -1
theorem parseM_ok {M : Nat} (hM : M ≤ 18446744073709551615) : ∀ (l : List UInt8) (acc : Nat), (∀ c ∈ l, isD c = true) → valA acc l ≤ M → parseUintM M acc l = .ok (valA acc l)
  | [], _, _, _ => rfl
  | c :: r, acc, hall, hle => by
    have hc := isD_iff.1 (hall c (by simp))
    have h2 : valA (acc * 10 + (c.toNat - 48)) r ≤ M := hle
    have h3 := valA_le (acc * 10 + (c.toNat - 48)) r
    unfold parseUintM
    rw [if_pos ⟨hc.1, hc.2⟩, if_neg (by omega), if_neg (by omega)]
    exact parseM_ok hM r _ (fun d hd => hall d (by simp [hd])) h2
theorem parse_dec {n : Nat} (h : n < 9223372036854775808) : parseIntB 64 (decDigits n) = .ok (n : Int) := by
  have hne := dec_ne n
  have hall := dec_all n
  have hv := dec_val n
  generalize decDigits n = l at hne hall hv
  cases l with
  | nil => exact absurd rfl hne
  | cons c r =>
    have hc := isD_iff.1 (hall c (by simp))
    have e43 : ¬ (c.toNat = 43 ∨ c.toNat = 45) := by omega
    have e45 : ¬ c.toNat = 45 := by omega
    have hp : parseUintB 64 (c :: r) = .ok n := by
      unfold parseUintB
      rw [if_neg hne, parseM_ok (by decide) _ _ hall (by show val (c :: r) ≤ _; rw [hv]; omega)]
      exact congrArg _ hv
    unfold parseIntB
    simp only [if_neg e43, hp]
    rw [if_neg (by omega), if_neg (by omega), if_neg e45]
theorem numP_iff {l : List UInt8} {n : Nat} : numP l = (n : Int) ↔ l = decDigits n ∧ n < 9223372036854775808 := by
  constructor
  · intro h
    unfold numP at h
    split at h
    · rename_i v hv
      split at h
      · omega
      · rename_i hc
        subst h
        have h1 : itoa (n : Int) = l := Classical.byContradiction fun k => hc (.inr k)
        rw [itoa_nonneg] at h1
        refine ⟨h1.symm, Classical.byContradiction fun k => ?_⟩
        unfold parseIntB at hv
        cases l with
        | nil => exact dec_ne n h1
        | cons c r =>
          dsimp only at hv
          split at hv
          · cases hv
          · cases hv
          · split at hv
            · cases hv
            · split at hv
              · cases hv
              · rename_i u _ h3 h4
                injection hv with hv
                split at hv <;> omega
    · omega
  · rintro ⟨rfl, h⟩
    unfold numP
    rw [parse_dec h]
    dsimp only
    rw [if_neg (by rw [itoa_nonneg]; rintro (h | h); omega; exact h rfl)]
theorem numP_cases (l : List UInt8) : numP l = -1 ∨ ∃ n : Nat, numP l = n := by
  unfold numP
  split
  · rename_i v hv
    split
    · exact .inl rfl
    · rename_i hc
      exact .inr ⟨v.toNat, by omega⟩
  · exact .inl rfl
/-- below the bounds that count both ways say the same -/
theorem num_same {l : List UInt8} {n : Nat} (h : n < 1000000000000000000) : numP l = (n : Int) ↔ numR l = some n := by
  rw [numP_iff, numR_iff]
  have hl : (decDigits n).length ≤ 18 := by
    rw [decDigits_length]
    by_cases h18 : nDigits n ≤ 18
    · exact h18
    · exfalso
      have key : ∀ (k u : Nat), k < nDigits u → 10 ^ k ≤ u ∨ k = 0 := fun k => by
        induction k with
        | zero => exact fun _ _ => .inr rfl
        | succ k ih =>
          intro u hu
          by_cases hs : u < 10
          · rw [nDigits_small hs] at hu; omega
          · rw [nDigits_big hs] at hu
            rcases ih (u / 10) (by omega) with e | e
            · refine .inl ?_
              rw [Nat.pow_succ]
              omega
            · subst e; exact .inl (by simp; omega)
      rcases key 18 n (by omega) with e | e
      · omega
      · omega
  constructor
  · rintro ⟨rfl, _⟩; exact ⟨rfl, hl⟩
  · rintro ⟨rfl, _⟩; exact ⟨rfl, by omega⟩
end Prot
namespace Prot
open Go.Lib
abbrev maxN : Nat := 1099511627776
/-- the number of the two digits -/
def chk (n : Nat) : Nat := (98 - (n % 97 * 100) % 97) % 97
theorem chk_lt (n : Nat) : chk n < 97 := Nat.mod_lt _ (by omega)
theorem chk_hit {n : Nat} (_h : 1 ≤ n) : (n * 100 + chk n - 1) % 97 = 0 := by unfold chk; omega
theorem chk_is {n c : Nat} (h : 1 ≤ n) (hc : c < 97) (e : (n * 100 + c - 1) % 97 = 0) : c = chk n := by unfold chk; omega
def chkL (n : Nat) : List UInt8 := decDigits (chk n / 10) ++ decDigits (chk n % 10)
theorem chkL_len (n : Nat) : (chkL n).length = 2 := by
  have := chk_lt n
  unfold chkL
  rw [List.length_append, decDigits_small (by omega), decDigits_small (by omega)]; rfl
theorem chkL_all (n : Nat) : ∀ c ∈ chkL n, isD c = true := fun c h => by
  unfold chkL at h
  rcases List.mem_append.1 h with h | h
  · exact dec_all _ c h
  · exact dec_all _ c h
def markL (n : Nat) : List UInt8 := decDigits n ++ chkL n
/-- what CheckMark answers: the number and the error -/
def cmV (l : List UInt8) : Int × Int :=
  if l.length < 3 then (0, 8)
  else match numR (l.take (l.length - 2)) with
    | none => (0, 8)
    | some n => if n < 1 ∨ maxN < n ∨ (l.drop (l.length - 2)).all isD = false then (0, 8) else if chkL n ≠ l.drop (l.length - 2) then (0, 14) else ((n : Int), 0)
def tens : List UInt8 := [48, 49, 50, 51, 52, 53, 54, 55, 56, 57]
theorem tens_iff (c : UInt8) : tens.contains c = isD c := by
  have h : ∀ n : Fin 256, tens.contains (UInt8.ofNat n.val) = isD (UInt8.ofNat n.val) := by decide +kernel
  have := h ⟨c.toNat, c.toNat_lt⟩
  simpa using this
theorem dropWhile_nil {α : Type} {p : α → Bool} {l : List α} : l.dropWhile p = [] ↔ ∀ x ∈ l, p x = true := by
  induction l with
  | nil => simp
  | cons x l ih =>
    rw [List.dropWhile_cons]
    by_cases h : p x = true
    · rw [if_pos h, ih]; simp [h]
    · rw [if_neg h]
      simp [h]
/-- a text is trimmed to nothing just if it has digits alone -/
theorem trim_nil (l : List UInt8) : trimS l tens = [] ↔ l.all isD = true := by
  have e : (fun c => tens.contains c) = isD := funext tens_iff
  have h1 : trimS l tens = [] ↔ ∀ x ∈ l, tens.contains x = true := by
    unfold trimS trimLeftS trimRightS
    rw [dropWhile_nil]
    constructor
    · intro h x hx
      by_cases k : tens.contains x = true
      · exact k
      · exfalso
        -- some byte that is none stays
        have h2 : ∃ y ∈ l.reverse.dropWhile (tens.contains ·), tens.contains y = false := by
          have hx' : x ∈ l.reverse := by simpa using hx
          clear hx h
          generalize l.reverse = r at hx'
          induction r with
          | nil => cases hx'
          | cons y r ih =>
            rw [List.dropWhile_cons]
            by_cases hy : tens.contains y = true
            · rw [if_pos hy]
              rcases List.mem_cons.1 hx' with rfl | hx'
              · exact absurd hy k
              · exact ih hx'
            · rw [if_neg hy]
              exact ⟨y, by simp, by simpa using hy⟩
        obtain ⟨y, hy, hn⟩ := h2
        have := h y (by simpa using hy)
        rw [hn] at this; cases this
    · intro h x hx
      have hx2 : x ∈ l.reverse.dropWhile (tens.contains ·) := by simpa using hx
      have := (List.dropWhile_sublist (p := (tens.contains ·)) (l := l.reverse)).mem hx2
      exact h x (by simpa using this)
  rw [h1, List.all_eq_true]
  exact ⟨fun h x hx => by rw [← tens_iff]; exact h x hx, fun h x hx => by rw [tens_iff]; exact h x hx⟩
/-- the program's way -/
def cmP (l : List UInt8) : Int × Int :=
  if l.length < 3 ∨ 18 < l.length then (0, 8)
  else if numP (l.take (l.length - 2)) < 1 ∨ (maxN : Int) < numP (l.take (l.length - 2)) ∨ trimS (l.drop (l.length - 2)) tens ≠ [] then (0, 8)
  else if chkL (numP (l.take (l.length - 2))).toNat ≠ l.drop (l.length - 2) then (0, 14)
  else (numP (l.take (l.length - 2)), 0)
theorem cmP_eq (l : List UInt8) : cmP l = cmV l := by
  unfold cmP cmV
  by_cases h3 : l.length < 3
  · rw [if_pos (.inl h3), if_pos h3]
  rw [if_neg h3]
  have hlen : (l.take (l.length - 2)).length = l.length - 2 := by rw [List.length_take]; omega
  generalize l.take (l.length - 2) = d at hlen
  generalize l.drop (l.length - 2) = e
  by_cases h18 : 18 < l.length
  · rw [if_pos (.inr h18)]
    split
    · rfl
    · rename_i n hn
      obtain ⟨h1, h2⟩ := numR_iff.1 hn
      rw [if_pos]
      refine .inr (.inl ?_)
      -- seventeen digits or more
      have h4 : 17 ≤ nDigits n := by rw [← decDigits_length, ← h1]; omega
      have key : ∀ (k u : Nat), k < nDigits u → 10 ^ k ≤ u ∨ k = 0 := fun k => by
        induction k with
        | zero => exact fun _ _ => .inr rfl
        | succ k ih =>
          intro u hu
          by_cases hs : u < 10
          · rw [nDigits_small hs] at hu; omega
          · rw [nDigits_big hs] at hu
            rcases ih (u / 10) (by omega) with e | e
            · refine .inl ?_
              rw [Nat.pow_succ]
              omega
            · subst e; exact .inl (by simp; omega)
      rcases key 16 n (by omega) with e | e
      · show 1099511627776 < n; omega
      · omega
  rw [if_neg (by omega)]
  rcases numP_cases d with h | ⟨n, h⟩
  · rw [h, if_pos (.inl (by omega))]
    split
    · rfl
    · rename_i n hn
      by_cases hb : n < 1000000000000000000
      · have := (num_same hb).2 hn
        omega
      · rw [if_pos (.inr (.inl (by show 1099511627776 < n; omega)))]
  · rw [h]
    by_cases hb : n < 1000000000000000000
    · rw [(num_same hb).1 h]
      dsimp only
      have e1 : ((n : Int) < 1 ∨ (maxN : Int) < n ∨ trimS e tens ≠ []) ↔ (n < 1 ∨ maxN < n ∨ e.all isD = false) := by
        have := trim_nil e
        constructor
        · rintro (k | k | k)
          · exact .inl (by omega)
          · exact .inr (.inl (by omega))
          · exact .inr (.inr (by
              cases hc : e.all isD
              · rfl
              · exact absurd (this.2 hc) k))
        · rintro (k | k | k)
          · exact .inl (by omega)
          · exact .inr (.inl (by omega))
          · exact .inr (.inr (fun h0 => by rw [this.1 h0] at k; cases k))
      by_cases c : n < 1 ∨ maxN < n ∨ e.all isD = false
      · rw [if_pos c, if_pos (e1.2 c)]
      · rw [if_neg c, if_neg (fun k => c (e1.1 k)), Int.toNat_natCast]
    · rw [if_pos (.inr (.inl (by show ((1099511627776 : Nat) : Int) < n; omega)))]
      split
      · rfl
      · rename_i m hm
        obtain ⟨h1, _⟩ := numR_iff.1 hm
        obtain ⟨h2, _⟩ := numP_iff.1 h
        have : m = n := dec_inj (h1.symm.trans h2)
        subst this
        rw [if_pos (.inr (.inl (by show 1099511627776 < m; omega)))]
theorem dec_len_le {n k : Nat} (h : n < 10 ^ (k + 1)) : (decDigits n).length ≤ k + 1 := by
  rw [decDigits_length]
  induction k generalizing n with
  | zero => rw [nDigits_small (by simpa using h)]; exact Nat.le_refl _
  | succ k ih =>
    by_cases hs : n < 10
    · rw [nDigits_small hs]; omega
    · rw [nDigits_big hs]
      have := ih (n := n / 10) (by rw [Nat.pow_succ] at h; omega)
      omega
theorem mark_parts (n : Nat) : (markL n).take ((markL n).length - 2) = decDigits n ∧ (markL n).drop ((markL n).length - 2) = chkL n := by
  have e : (markL n).length - 2 = (decDigits n).length := by unfold markL; rw [List.length_append, chkL_len]; omega
  rw [e]
  unfold markL
  exact ⟨List.take_left, List.drop_left⟩
/-- the mark of a number is accepted -/
theorem cmV_mark {n : Nat} (h1 : 1 ≤ n) (h2 : n ≤ maxN) : cmV (markL n) = ((n : Int), 0) := by
  have hl : 3 ≤ (markL n).length := by
    unfold markL
    rw [List.length_append, chkL_len]
    have := dec_ne n
    have : (decDigits n).length ≠ 0 := fun e => dec_ne n (List.eq_nil_of_length_eq_zero e)
    omega
  obtain ⟨e1, e2⟩ := mark_parts n
  have e3 : numR (decDigits n) = some n := numR_iff.2 ⟨rfl, dec_len_le (k := 17) (by
    have e18 : (10 : Nat) ^ (17 + 1) = 1000000000000000000 := by decide
    have : maxN = 1099511627776 := rfl
    rw [e18]; omega)⟩
  unfold cmV
  rw [if_neg (by omega), e1, e2, e3]
  dsimp only
  rw [if_neg (by rintro (h | h | h); omega; omega; exact absurd (List.all_eq_true.2 (chkL_all n)) (by rw [h]; simp)), if_neg (by simp)]
end Prot
namespace Prot
open Go.Lib
def splitSp : List UInt8 → List (List UInt8)
  | [] => [[]]
  | c :: r => if c = 32 then [] :: splitSp r else match splitSp r with
    | [] => [[c]]
    | w :: ws => (c :: w) :: ws
def joinSp : List (List UInt8) → List UInt8
  | [] => []
  | [w] => w
  | w :: x :: ws => w ++ 32 :: joinSp (x :: ws)
theorem splitSp_c (c : UInt8) (r : List UInt8) : splitSp (c :: r) = if c = 32 then [] :: splitSp r else match splitSp r with
    | [] => [[c]]
    | w :: ws => (c :: w) :: ws := rfl
theorem splitSp_ne (l : List UInt8) : splitSp l ≠ [] := by
  cases l with
  | nil => simp [splitSp]
  | cons c r =>
    unfold splitSp
    split
    · simp
    · split <;> simp
theorem joinSp_cons {w : List UInt8} {ws : List (List UInt8)} (h : ws ≠ []) : joinSp (w :: ws) = w ++ 32 :: joinSp ws := by
  cases ws with
  | nil => exact absurd rfl h
  | cons x r => rfl
theorem join_split (l : List UInt8) : joinSp (splitSp l) = l := by
  induction l with
  | nil => rfl
  | cons c r ih =>
    unfold splitSp
    split
    · rename_i h
      rw [joinSp_cons (splitSp_ne r), ih, h]; rfl
    · have hne := splitSp_ne r
      cases hs : splitSp r with
      | nil => exact absurd hs hne
      | cons w ws =>
        rw [hs] at ih
        dsimp only
        cases ws with
        | nil => rw [← ih]; rfl
        | cons x ws => rw [← ih]; rfl
theorem split_word {w : List UInt8} (h : ∀ c ∈ w, c ≠ 32) : splitSp w = [w] := by
  induction w with
  | nil => rfl
  | cons c r ih =>
    unfold splitSp
    rw [if_neg (h c (by simp)), ih (fun d hd => h d (by simp [hd]))]
theorem split_cons {w r : List UInt8} (h : ∀ c ∈ w, c ≠ 32) : splitSp (w ++ 32 :: r) = w :: splitSp r := by
  induction w with
  | nil => show splitSp (32 :: r) = _; rw [splitSp_c, if_pos rfl]
  | cons c k ih =>
    show splitSp (c :: (k ++ 32 :: r)) = _
    rw [splitSp_c, if_neg (h c (by simp)), ih (fun d hd => h d (by simp [hd]))]
theorem split_join : ∀ {ws : List (List UInt8)}, ws ≠ [] → (∀ w ∈ ws, ∀ c ∈ w, c ≠ 32) → splitSp (joinSp ws) = ws
  | [], h, _ => absurd rfl h
  | [w], _, h => split_word (h w (by simp))
  | w :: x :: ws, _, h => by
    show splitSp (w ++ 32 :: joinSp (x :: ws)) = _
    rw [split_cons (h w (by simp)), split_join (by simp) (fun v hv => h v (by simp [hv]))]
theorem dec_sp (n : Nat) : ∀ c ∈ decDigits n, c ≠ 32 := fun c hc e => by
  have := isD_iff.1 (dec_all n c hc)
  rw [e] at this
  exact absurd this.1 (by decide)
theorem dec_nl (n : Nat) : ∀ c ∈ decDigits n, c ≠ 10 := fun c hc e => by
  have := isD_iff.1 (dec_all n c hc)
  rw [e] at this
  exact absurd this.1 (by decide)
/-- kind, A, B, C -/
abbrev Card := Int × Int × Int × Int
/-- the word of a kind, and the greatest numbers of its line -/
def shapeL (k : Int) : Option (List UInt8 × List Nat) :=
  if k = 1 then some ([100, 97, 121], [100000])
  else if k = 2 then some ([98, 111, 120], [999])
  else if k = 3 then some ([115, 105, 110, 103], [maxN, 99, 400])
  else if k = 4 then some ([99, 111, 112, 121], [maxN, maxN])
  else if k = 5 then some ([99, 114, 97, 99, 107], [maxN])
  else if k = 6 then some ([109, 111, 118, 101], [maxN])
  else if k = 7 then some ([115, 116, 114, 105, 107, 101], [60])
  else none
def kindsN : List Nat := [1, 2, 3, 4, 5, 6, 7]
def numsOf (c : Card) : List Int := [c.2.1, c.2.2.1, c.2.2.2]
/-- numbers that are as they should be: so many within their bounds, the others nought -/
def numsOk : List Int → List Nat → Bool
  | [], _ => true
  | x :: xs, [] => decide (x = 0) && numsOk xs []
  | x :: xs, m :: ms => decide (1 ≤ x) && decide (x ≤ (m : Int)) && numsOk xs ms
def wordsOf (word : List UInt8) (xs : List Int) (many : Nat) : List (List UInt8) := word :: (xs.take many).map fun x => decDigits x.toNat
/-- what Line answers -/
def lineV (c : Card) : List UInt8 × Int :=
  match shapeL c.1 with
  | none => ([], 2)
  | some (w, ms) => if numsOk (numsOf c) ms = true then (joinSp (wordsOf w (numsOf c) ms.length), 0) else ([], 3)
theorem shape_cases {k : Int} {w : List UInt8} {ms : List Nat} (h : shapeL k = some (w, ms)) :
    (k = 1 ∧ w = [100, 97, 121] ∧ ms = [100000]) ∨ (k = 2 ∧ w = [98, 111, 120] ∧ ms = [999]) ∨ (k = 3 ∧ w = [115, 105, 110, 103] ∧ ms = [maxN, 99, 400]) ∨ (k = 4 ∧ w = [99, 111, 112, 121] ∧ ms = [maxN, maxN]) ∨ (k = 5 ∧ w = [99, 114, 97, 99, 107] ∧ ms = [maxN]) ∨ (k = 6 ∧ w = [109, 111, 118, 101] ∧ ms = [maxN]) ∨ (k = 7 ∧ w = [115, 116, 114, 105, 107, 101] ∧ ms = [60]) := by
  unfold shapeL at h
  repeat' split at h
  all_goals first
    | (injection h with h; injection h with h1 h2; subst h1; subst h2; simp_all)
    | cases h
theorem shape_sp {k : Int} {w : List UInt8} {ms : List Nat} (h : shapeL k = some (w, ms)) : (∀ c ∈ w, c ≠ 32 ∧ c ≠ 10) ∧ w ≠ [] ∧ 1 ≤ ms.length ∧ ms.length ≤ 3 ∧ (∀ m ∈ ms, m ≤ maxN) ∧ w.length ≤ 6 := by
  rcases shape_cases h with ⟨_, rfl, rfl⟩ | ⟨_, rfl, rfl⟩ | ⟨_, rfl, rfl⟩ | ⟨_, rfl, rfl⟩ | ⟨_, rfl, rfl⟩ | ⟨_, rfl, rfl⟩ | ⟨_, rfl, rfl⟩ <;> exact ⟨by decide, by decide, by decide, by decide, by decide, by decide⟩
/-- the kind of a word -/
def isKind (w : List UInt8) (k : Nat) : Bool := match shapeL (k : Int) with | some (v, _) => decide (v = w) | none => false
def kindOf (w : List UInt8) : Option Nat := kindsN.find? (isKind w)
theorem kindOf_iff {w : List UInt8} {k : Nat} : kindOf w = some k ↔ ∃ ms, shapeL (k : Int) = some (w, ms) := by
  constructor
  · intro h
    have h1 : isKind w k = true := List.find?_some h
    unfold isKind at h1
    split at h1
    · rename_i v ms e
      have := of_decide_eq_true h1
      subst this
      exact ⟨ms, e⟩
    · cases h1
  · rintro ⟨ms, h⟩
    rcases shape_cases h with ⟨e, rfl, rfl⟩ | ⟨e, rfl, rfl⟩ | ⟨e, rfl, rfl⟩ | ⟨e, rfl, rfl⟩ | ⟨e, rfl, rfl⟩ | ⟨e, rfl, rfl⟩ | ⟨e, rfl, rfl⟩ <;>
      (have e' : k = k := rfl
       first
        | (obtain rfl : k = 1 := by omega
           decide)
        | (obtain rfl : k = 2 := by omega
           decide)
        | (obtain rfl : k = 3 := by omega
           decide)
        | (obtain rfl : k = 4 := by omega
           decide)
        | (obtain rfl : k = 5 := by omega
           decide)
        | (obtain rfl : k = 6 := by omega
           decide)
        | (obtain rfl : k = 7 := by omega
           decide))
/-- the card of a kind with numbers -/
def cardOf (k : Int) (xs : List Int) : Card := (k, xs.getD 0 0, xs.getD 1 0, xs.getD 2 0)
/-- reading a line: the words' numbers by a way 'num' -/
def parseW (num : List UInt8 → Int) (l : List UInt8) : Card × Int :=
  match splitSp l with
  | [] => ((0, 0, 0, 0), 8)
  | w :: ws => match kindOf w with
    | none => ((0, 0, 0, 0), 8)
    | some k => match shapeL (k : Int) with
      | none => ((0, 0, 0, 0), 8)
      | some (_, ms) => if ws.length ≠ ms.length then ((0, 0, 0, 0), 8)
        else if (lineV (cardOf k (ws.map num))).2 = 0 then (cardOf k (ws.map num), 0) else ((0, 0, 0, 0), 8)
/-- what a way of numbers has to give -/
structure NumW (num : List UInt8 → Int) : Prop where
  dec : ∀ n : Nat, 1 ≤ n → n ≤ maxN → num (decDigits n) = n
  word : ∀ (w : List UInt8) (n : Nat), 1 ≤ n → n ≤ maxN → num w = n → w = decDigits n
theorem numW_P : NumW numP := ⟨fun n _ h => numP_iff.2 ⟨rfl, by have : maxN = 1099511627776 := rfl; omega⟩, fun _ _ _ _ h => (numP_iff.1 h).1⟩
/-- the definition's numbers, as the program's: none is -1 -/
def numI (l : List UInt8) : Int := match numR l with | some n => n | none => -1
theorem numW_R : NumW numI := ⟨fun n _ h => by
    have : numR (decDigits n) = some n := (num_same (by have : maxN = 1099511627776 := rfl; omega)).1 (numP_iff.2 ⟨rfl, by have : maxN = 1099511627776 := rfl; omega⟩)
    unfold numI; rw [this], fun w n _ _ h => by
    unfold numI at h
    split at h
    · rename_i m hm
      have : m = n := by omega
      subst this
      exact (numR_iff.1 hm).1
    · omega⟩
theorem numsOk_take {xs : List Int} {ms : List Nat} (h : numsOk xs ms = true) (hl : ms.length ≤ xs.length) : (∀ i (hi : i < ms.length), 1 ≤ xs.getD i 0 ∧ xs.getD i 0 ≤ (ms[i] : Int)) ∧ ∀ i, ms.length ≤ i → xs.getD i 0 = 0 := by
  induction xs generalizing ms with
  | nil => exact ⟨fun i hi => by
      have : ms.length ≤ 0 := hl
      omega, fun i _ => by simp⟩
  | cons x xs ih =>
    cases ms with
    | nil =>
      unfold numsOk at h
      rw [Bool.and_eq_true] at h
      obtain ⟨h1, h2⟩ := h
      have ih := ih h2 (by simp)
      refine ⟨fun i hi => by simp at hi, fun i _ => ?_⟩
      cases i with
      | zero => simpa using of_decide_eq_true h1
      | succ i => simpa using ih.2 i (by simp)
    | cons m ms =>
      unfold numsOk at h
      rw [Bool.and_eq_true, Bool.and_eq_true] at h
      obtain ⟨⟨h1, h3⟩, h2⟩ := h
      have ih := ih h2 (by simpa using hl)
      refine ⟨fun i hi => ?_, fun i hi => ?_⟩
      · cases i with
        | zero => exact ⟨by simpa using of_decide_eq_true h1, by simpa using of_decide_eq_true h3⟩
        | succ i => simpa using ih.1 i (by simpa using hi)
      · cases i with
        | zero => simp at hi
        | succ i => simpa using ih.2 i (by simpa using hi)
theorem lineV_ok {c : Card} {l : List UInt8} (h : lineV c = (l, 0)) : ∃ w ms, shapeL c.1 = some (w, ms) ∧ numsOk (numsOf c) ms = true ∧ l = joinSp (wordsOf w (numsOf c) ms.length) := by
  unfold lineV at h
  split at h
  · injection h with _ h; cases h
  · rename_i w ms e
    split at h
    · rename_i hn
      injection h with h _
      exact ⟨w, ms, e, hn, h.symm⟩
    · injection h with _ h; cases h
theorem wordsOf_sp {k : Int} {w : List UInt8} {ms : List Nat} (h : shapeL k = some (w, ms)) (xs : List Int) (n : Nat) : ∀ v ∈ wordsOf w xs n, ∀ c ∈ v, c ≠ 32 ∧ c ≠ 10 := fun v hv c hc => by
  unfold wordsOf at hv
  rcases List.mem_cons.1 hv with rfl | hv
  · exact (shape_sp h).1 c hc
  · obtain ⟨x, _, rfl⟩ := List.mem_map.1 hv
    exact ⟨dec_sp _ c hc, dec_nl _ c hc⟩
theorem shape_nat {k : Int} {w : List UInt8} {ms : List Nat} (h : shapeL k = some (w, ms)) : ∃ n : Nat, k = n ∧ kindOf w = some n := by
  have hk : ∃ n : Nat, k = n := by
    rcases shape_cases h with ⟨e, _⟩ | ⟨e, _⟩ | ⟨e, _⟩ | ⟨e, _⟩ | ⟨e, _⟩ | ⟨e, _⟩ | ⟨e, _⟩ <;> exact ⟨k.toNat, by omega⟩
  obtain ⟨n, rfl⟩ := hk
  exact ⟨n, rfl, kindOf_iff.2 ⟨ms, h⟩⟩
/-- what is written is read again -/
theorem parse_line {num : List UInt8 → Int} (hnum : NumW num) {c : Card} {l : List UInt8} (h : lineV c = (l, 0)) : parseW num l = (c, 0) := by
  obtain ⟨w, ms, hs, hn, rfl⟩ := lineV_ok h
  obtain ⟨k, hk, hko⟩ := shape_nat hs
  obtain ⟨_, _, hm1, hm3, hmm, _⟩ := shape_sp hs
  have hl3 : (numsOf c).length = 3 := rfl
  have hb := numsOk_take hn (by omega)
  unfold parseW
  rw [split_join (by simp [wordsOf]) (fun v hv x hx => (wordsOf_sp hs _ _ v hv x hx).1)]
  unfold wordsOf
  dsimp only
  rw [hko]
  dsimp only
  rw [← hk, hs]
  dsimp only
  have hlen : ((numsOf c).take ms.length).length = ms.length := by rw [List.length_take]; omega
  rw [if_neg (by rw [List.length_map, hlen]; simp)]
  have hmap : ((numsOf c).take ms.length |>.map fun x => decDigits x.toNat).map num = (numsOf c).take ms.length := by
    rw [List.map_map]
    refine (List.map_congr_left fun x hx => ?_).trans (List.map_id _)
    obtain ⟨i, hi, e⟩ := List.mem_iff_getElem.1 hx
    have hi' : i < ms.length := by omega
    have hxi : x = (numsOf c).getD i 0 := by
      rw [← e, List.getElem_take, List.getD_eq_getElem?_getD, List.getElem?_eq_getElem (by omega)]; rfl
    obtain ⟨b1, b2⟩ := hb.1 i hi'
    have b3 := hmm _ (List.getElem_mem hi')
    rw [← hxi] at b1 b2
    show num (decDigits x.toNat) = x
    rw [hnum.dec x.toNat (by omega) (by omega)]
    omega
  rw [hmap]
  have hc : cardOf c.1 ((numsOf c).take ms.length) = c := by
    have e : ∀ i, i < 3 → ((numsOf c).take ms.length).getD i 0 = (numsOf c).getD i 0 := fun i hi => by
      by_cases hc : i < ms.length
      · rw [List.getD_eq_getElem?_getD, List.getD_eq_getElem?_getD, List.getElem?_take, if_pos hc]
      · rw [hb.2 i (by omega), List.getD_eq_getElem?_getD, List.getElem?_eq_none (by omega)]; rfl
    unfold cardOf
    rw [e 0 (by omega), e 1 (by omega), e 2 (by omega)]
    rfl
  rw [hc, if_pos (by rw [h])]
/-- what is read is written again just so -/
theorem line_parse {num : List UInt8 → Int} (hnum : NumW num) {c : Card} {l : List UInt8} (h : parseW num l = (c, 0)) : lineV c = (l, 0) := by
  unfold parseW at h
  have hj := join_split l
  split at h
  · injection h with _ h; cases h
  · rename_i w ws hsp
    rw [hsp] at hj
    split at h
    · injection h with _ h; cases h
    · rename_i k hk
      obtain ⟨ms, hs⟩ := kindOf_iff.1 hk
      rw [hs] at h
      dsimp only at h
      split at h
      · injection h with _ h; cases h
      · rename_i hlen
        split at h
        · rename_i hok
          injection h with h _
          subst h
          have hlen : ws.length = ms.length := Classical.byContradiction hlen
          obtain ⟨x, hx⟩ : ∃ x, lineV (cardOf k (ws.map num)) = (x, 0) := ⟨_, Prod.ext rfl hok⟩
          obtain ⟨w2, ms2, hs2, hn, rfl⟩ := lineV_ok hx
          have hs2' : shapeL (k : Int) = some (w2, ms2) := hs2
          rw [hs] at hs2'
          injection hs2' with e
          injection e with e1 e2
          subst e1; subst e2
          rw [hx, ← hj]
          obtain ⟨_, _, hm1, hm3, hmm, _⟩ := shape_sp hs
          have hb := numsOk_take hn (by show ms.length ≤ 3; exact hm3)
          have hnum0 : ∀ i, i < 3 → (numsOf (cardOf k (ws.map num))).getD i 0 = (ws.map num).getD i 0 := fun i hi => by
            have : i = 0 ∨ i = 1 ∨ i = 2 := by omega
            rcases this with rfl | rfl | rfl <;> rfl
          have hws : ((numsOf (cardOf k (ws.map num))).take ms.length).map (fun x => decDigits x.toNat) = ws := by
            apply List.ext_getElem
            · rw [List.length_map, List.length_take, hlen]; show min ms.length 3 = _; omega
            · intro i h1 h2
              have hi : i < ms.length := by omega
              obtain ⟨b1, b2⟩ := hb.1 i hi
              have b3 := hmm _ (List.getElem_mem hi)
              rw [hnum0 i (by omega)] at b1 b2
              have e0 : (ws.map num).getD i 0 = num ws[i] := by rw [List.getD_eq_getElem?_getD, List.getElem?_map, List.getElem?_eq_getElem h2]; rfl
              rw [e0] at b1 b2
              rw [List.getElem_map, List.getElem_take]
              have e1 : (numsOf (cardOf k (ws.map num)))[i]'(by show i < 3; omega) = num ws[i] := by
                have := hnum0 i (by omega)
                rw [e0, List.getD_eq_getElem?_getD, List.getElem?_eq_getElem (by show i < 3; omega)] at this
                exact this
              rw [e1]
              exact (hnum.word ws[i] (num ws[i]).toNat (by omega) (by omega) (by omega)).symm
          unfold wordsOf
          rw [hws]
        · injection h with _ h; cases h
theorem parse_cases (num : List UInt8 → Int) (l : List UInt8) : parseW num l = ((0, 0, 0, 0), 8) ∨ ∃ c, parseW num l = (c, 0) := by
  unfold parseW
  split
  · exact .inl rfl
  · split
    · exact .inl rfl
    · split
      · exact .inl rfl
      · split
        · exact .inl rfl
        · split
          · exact .inr ⟨_, rfl⟩
          · exact .inl rfl
/-- both ways of numbers read the same -/
theorem parse_same {f g : List UInt8 → Int} (hf : NumW f) (hg : NumW g) (l : List UInt8) : parseW f l = parseW g l := by
  rcases parse_cases f l with h | ⟨c, h⟩
  · rcases parse_cases g l with k | ⟨d, k⟩
    · rw [h, k]
    · rw [parse_line hf (line_parse hg k)] at h
      injection h with _ h; cases h
  · rw [h, parse_line hg (line_parse hf h)]
/-- what Parse answers -/
def parseV (l : List UInt8) : Card × Int := parseW numP l
theorem line_len {c : Card} {l : List UInt8} (h : lineV c = (l, 0)) : l.length ≤ 60 := by
  obtain ⟨w, ms, hs, hn, rfl⟩ := lineV_ok h
  obtain ⟨_, _, hm1, hm3, hmm, hw6⟩ := shape_sp hs
  have hb := numsOk_take hn (by show ms.length ≤ 3; exact hm3)
  have key : ∀ (ws : List (List UInt8)), (∀ v ∈ ws, v.length ≤ 13) → (joinSp ws).length ≤ 14 * ws.length := fun ws => by
    induction ws with
    | nil => intro _; exact Nat.le_refl _
    | cons v ws ih =>
      intro h
      have h1 := h v (by simp)
      have h2 := ih (fun x hx => h x (by simp [hx]))
      by_cases e : ws = []
      · subst e; show v.length ≤ _; simp; omega
      · rw [joinSp_cons e, List.length_append, List.length_cons, List.length_cons]; omega
  have h1 := key (wordsOf w (numsOf c) ms.length) (fun v hv => by
    unfold wordsOf at hv
    rcases List.mem_cons.1 hv with rfl | hv
    · omega
    · obtain ⟨x, hx, rfl⟩ := List.mem_map.1 hv
      obtain ⟨i, hi, e⟩ := List.mem_iff_getElem.1 hx
      have hlt : i < ms.length := by rw [List.length_take] at hi; omega
      have hxi : x = (numsOf c).getD i 0 := by
        rw [← e, List.getElem_take, List.getD_eq_getElem?_getD, List.getElem?_eq_getElem (by show i < 3; omega)]; rfl
      obtain ⟨b1, b2⟩ := hb.1 i hlt
      have b3 := hmm _ (List.getElem_mem hlt)
      rw [← hxi] at b1 b2
      have e13 : (10 : Nat) ^ (12 + 1) = 10000000000000 := by decide
      have hmx : maxN = 1099511627776 := rfl
      exact dec_len_le (k := 12) (by rw [e13]; omega))
  have h2 : (wordsOf w (numsOf c) ms.length).length ≤ 4 := by
    unfold wordsOf
    rw [List.length_cons, List.length_map, List.length_take]; omega
  omega
end Prot
namespace Prot
structure It where
  num : Int
  box : Int
  day : Int
  voice : Int
  turns : Int
  src : Int
  cracked : Bool
instance : DecidableEq It := fun x y => decidable_of_iff (x.num = y.num ∧ x.box = y.box ∧ x.day = y.day ∧ x.voice = y.voice ∧ x.turns = y.turns ∧ x.src = y.src ∧ x.cracked = y.cracked) (by cases x; cases y; simp)
/-- the day, the box that is open, the cylinders in the order in which they came -/
structure Jn where
  day : Int
  opn : Int
  items : List It
def Jn.start : Jn := ⟨0, 0, []⟩
def findI (l : List It) (n : Int) : Option It := l.find? fun x => decide (x.num = n)
def room (l : List It) (b : Int) : Nat := (l.filter fun x => decide (x.box = b)).length
def freshE (j : Jn) (n : Int) : Int := if j.opn = 0 then 9 else if (findI j.items n).isSome then 11 else if 12 ≤ room j.items j.opn then 10 else 0
/-- a cylinder is another one -/
def putI (l : List It) (n : Int) (f : It → It) : List It := l.map fun x => if x.num = n then f x else x
/-- what a card that is not a strike does, and its error -/
def doV (j : Jn) (c : Card) : Jn × Int :=
  if c.1 = 1 then (if c.2.1 ≤ j.day then (j, 12) else (⟨c.2.1, j.opn, j.items⟩, 0))
  else if c.1 = 2 then (if j.day = 0 then (j, 9) else (⟨j.day, c.2.1, j.items⟩, 0))
  else if c.1 = 3 then (if freshE j c.2.1 ≠ 0 then (j, freshE j c.2.1) else (⟨j.day, j.opn, j.items ++ [⟨c.2.1, j.opn, j.day, c.2.2.1, c.2.2.2, 0, false⟩]⟩, 0))
  else if c.1 = 4 then (if freshE j c.2.1 ≠ 0 then (j, freshE j c.2.1) else match findI j.items c.2.2.1 with
    | none => (j, 5)
    | some x => if x.cracked = true then (j, 22) else (⟨j.day, j.opn, j.items ++ [⟨c.2.1, j.opn, j.day, x.voice, x.turns, c.2.2.1, false⟩]⟩, 0))
  else if c.1 = 5 then (match findI j.items c.2.1 with
    | none => (j, 5)
    | some x => if x.cracked = true then (j, 22) else (⟨j.day, j.opn, putI j.items c.2.1 fun y => { y with cracked := true }⟩, 0))
  else if c.1 = 6 then (if j.opn = 0 then (j, 9) else match findI j.items c.2.1 with
    | none => (j, 5)
    | some x => if x.box = j.opn then (j, 15) else if 12 ≤ room j.items j.opn then (j, 10) else (⟨j.day, j.opn, putI j.items c.2.1 fun y => { y with box := j.opn }⟩, 0))
  else (j, 0)
theorem doV_same {j : Jn} {c : Card} (h : (doV j c).2 ≠ 0) : (doV j c).1 = j := by
  unfold doV at h ⊢
  repeat' split
  all_goals first | rfl | (simp_all)
/-- cards one after another; none is refused -/
def replay : List Card → Jn → Option Jn
  | [], j => some j
  | c :: r, j => if (doV j c).2 = 0 then replay r (doV j c).1 else none
theorem replay_append : ∀ (a b : List Card) (j : Jn), replay (a ++ b) j = (replay a j).bind (replay b)
  | [], _, _ => rfl
  | c :: a, b, j => by
    show (if (doV j c).2 = 0 then replay (a ++ b) (doV j c).1 else none) = (if (doV j c).2 = 0 then replay a (doV j c).1 else none).bind (replay b)
    split
    · exact replay_append a b _
    · rfl
abbrev zeroC : Card := (0, 0, 0, 0)
/-- the cards that count, but for the one of a line -/
def liveC (cs : List Card) : List Card := cs.filter fun c => decide (c ≠ zeroC)
def butC (cs : List Card) (at' : Nat) : List Card := cs.set at' zeroC
/-- behind some lines: their errors, their cards (none for a line that does not count), what it came to -/
structure St where
  errs : List Int
  cards : List Card
  jn : Jn
def St.start : St := ⟨[], [], Jn.start⟩
def strikeV (s : St) (a : Int) : St :=
  if ¬ (1 ≤ a ∧ (a - 1).toNat < s.cards.length ∧ s.cards.getD (a - 1).toNat zeroC ≠ zeroC) then ⟨s.errs ++ [3], s.cards ++ [zeroC], s.jn⟩
  else match replay (liveC (butC s.cards (a - 1).toNat)) Jn.start with
    | none => ⟨s.errs ++ [24], s.cards ++ [zeroC], s.jn⟩
    | some k => ⟨s.errs ++ [0], butC s.cards (a - 1).toNat ++ [zeroC], k⟩
def stepV (s : St) (line : List UInt8) : St :=
  if (parseV line).2 ≠ 0 then ⟨s.errs ++ [(parseV line).2], s.cards ++ [zeroC], s.jn⟩
  else if (parseV line).1.1 = 7 then strikeV s (parseV line).1.2.1
  else if (doV s.jn (parseV line).1).2 ≠ 0 then ⟨s.errs ++ [(doV s.jn (parseV line).1).2], s.cards ++ [zeroC], s.jn⟩
  else ⟨s.errs ++ [0], s.cards ++ [(parseV line).1], (doV s.jn (parseV line).1).1⟩
def runV (ls : List (List UInt8)) : St := ls.foldl stepV St.start
theorem runV_snoc (ls : List (List UInt8)) (l : List UInt8) : runV (ls ++ [l]) = stepV (runV ls) l := by unfold runV; rw [List.foldl_append]; rfl
/-- a card that a line can say -/
structure CardOk (c : Card) : Prop where
  kind : 1 ≤ c.1 ∧ c.1 ≤ 7
  one : 1 ≤ c.2.1
  day : c.1 = 1 → c.2.1 ≤ 100000 ∧ c.2.2.1 = 0 ∧ c.2.2.2 = 0
  box : c.1 = 2 → c.2.1 ≤ 999 ∧ c.2.2.1 = 0 ∧ c.2.2.2 = 0
  sing : c.1 = 3 → c.2.1 ≤ (maxN : Int) ∧ (1 ≤ c.2.2.1 ∧ c.2.2.1 ≤ 99) ∧ 1 ≤ c.2.2.2 ∧ c.2.2.2 ≤ 400
  copy : c.1 = 4 → c.2.1 ≤ (maxN : Int) ∧ (1 ≤ c.2.2.1 ∧ c.2.2.1 ≤ (maxN : Int)) ∧ c.2.2.2 = 0
  rest : 5 ≤ c.1 → c.2.1 ≤ (maxN : Int) ∧ c.2.2.1 = 0 ∧ c.2.2.2 = 0
  strike : c.1 = 7 → c.2.1 ≤ 60
theorem line_card {c : Card} {l : List UInt8} (h : lineV c = (l, 0)) : CardOk c := by
  obtain ⟨w, ms, hs, hn, _⟩ := lineV_ok h
  obtain ⟨k, x, y, z⟩ := c
  have hmx : (maxN : Int) = 1099511627776 := rfl
  rcases shape_cases hs with ⟨rfl, _, rfl⟩ | ⟨rfl, _, rfl⟩ | ⟨rfl, _, rfl⟩ | ⟨rfl, _, rfl⟩ | ⟨rfl, _, rfl⟩ | ⟨rfl, _, rfl⟩ | ⟨rfl, _, rfl⟩ <;>
    (simp only [numsOf, numsOk, Bool.and_eq_true, decide_eq_true_eq, Bool.and_true] at hn
     constructor <;> dsimp only <;> omega)
theorem parse_card {l : List UInt8} (h : (parseV l).2 = 0) : CardOk (parseV l).1 := line_card (line_parse numW_P (c := (parseV l).1) (l := l) (Prod.ext rfl h))
theorem CardOk.ne {c : Card} (h : CardOk c) : c ≠ zeroC := fun e => by
  have := h.kind.1
  rw [e] at this
  exact absurd this (by decide)
/-- what cylinders and the state of a journey keep -/
structure JnOk (j : Jn) : Prop where
  day : 0 ≤ j.day ∧ j.day ≤ 100000
  opn : 0 ≤ j.opn ∧ j.opn ≤ 999
  both : j.opn ≠ 0 → j.day ≠ 0
  once : (j.items.map It.num).Nodup
  num : ∀ x ∈ j.items, 1 ≤ x.num ∧ x.num ≤ (maxN : Int)
  box : ∀ x ∈ j.items, 1 ≤ x.box ∧ x.box ≤ 999
  days : ∀ x ∈ j.items, 1 ≤ x.day ∧ x.day ≤ j.day
  voice : ∀ x ∈ j.items, 1 ≤ x.voice ∧ x.voice ≤ 99
  turns : ∀ x ∈ j.items, 1 ≤ x.turns ∧ x.turns ≤ 400
  src : ∀ x ∈ j.items, 0 ≤ x.src ∧ x.src ≤ (maxN : Int)
  few : ∀ b, room j.items b ≤ 12
  from' : ∀ x ∈ j.items, x.src = 0 ∨ ∃ y ∈ j.items, y.num = x.src ∧ y.voice = x.voice ∧ y.turns = x.turns ∧ y.day ≤ x.day
theorem findI_some {l : List It} {n : Int} {x : It} (h : findI l n = some x) : x ∈ l ∧ x.num = n := by
  unfold findI at h
  exact ⟨List.mem_of_find?_eq_some h, by have := List.find?_some h; simpa using this⟩
theorem findI_none {l : List It} {n : Int} : findI l n = none ↔ ∀ x ∈ l, x.num ≠ n := by
  unfold findI
  rw [List.find?_eq_none]
  simp
theorem JnOk.start : JnOk Jn.start := ⟨by decide, by decide, by decide, by decide, by simp [Jn.start], by simp [Jn.start], by simp [Jn.start], by simp [Jn.start], by simp [Jn.start], by simp [Jn.start], by simp [Jn.start, room], by simp [Jn.start]⟩
theorem room_snoc (l : List It) (x : It) (b : Int) : room (l ++ [x]) b = room l b + if x.box = b then 1 else 0 := by
  unfold room
  rw [List.filter_append, List.length_append]
  by_cases h : x.box = b
  · rw [if_pos h, List.filter_cons_of_pos (by simpa using h)]; rfl
  · rw [if_neg h, List.filter_cons_of_neg (by simpa using h)]; rfl
theorem freshE_ok {j : Jn} {n : Int} (h : freshE j n = 0) : j.opn ≠ 0 ∧ findI j.items n = none ∧ room j.items j.opn < 12 := by
  unfold freshE at h
  split at h
  · omega
  · rename_i h1
    split at h
    · omega
    · rename_i h2
      split at h
      · omega
      · rename_i h3
        refine ⟨h1, ?_, by omega⟩
        cases hf : findI j.items n with
        | none => rfl
        | some x => rw [hf] at h2; exact absurd rfl h2
/-- one cylinder more -/
theorem JnOk.add {j : Jn} (h : JnOk j) {x : It} (h1 : freshE j x.num = 0) (hn : 1 ≤ x.num ∧ x.num ≤ (maxN : Int)) (hb : x.box = j.opn) (hd : x.day = j.day) (hv : 1 ≤ x.voice ∧ x.voice ≤ 99) (ht : 1 ≤ x.turns ∧ x.turns ≤ 400) (hs : 0 ≤ x.src ∧ x.src ≤ (maxN : Int)) (hf : x.src = 0 ∨ ∃ y ∈ j.items, y.num = x.src ∧ y.voice = x.voice ∧ y.turns = x.turns) : JnOk ⟨j.day, j.opn, j.items ++ [x]⟩ := by
  obtain ⟨ho, hno, hr⟩ := freshE_ok h1
  have hd0 := h.both ho
  have hdd := h.day
  have hoo := h.opn
  have mem : ∀ {P : It → Prop}, (∀ y ∈ j.items, P y) → P x → ∀ y ∈ j.items ++ [x], P y := fun hP hx y hy => by
    rcases List.mem_append.1 hy with hy | hy
    · exact hP y hy
    · rw [List.mem_singleton] at hy; subst hy; exact hx
  refine ⟨h.day, h.opn, h.both, ?_, mem h.num hn, mem h.box (by rw [hb]; omega), mem h.days (by rw [hd]; dsimp only; omega), mem h.voice hv, mem h.turns ht, mem h.src hs, fun b => ?_, mem (fun y hy => ?_) ?_⟩
  · rw [List.map_append, List.nodup_append]
    refine ⟨h.once, by simp, fun a ha b hb' e => ?_⟩
    rw [List.map_cons, List.map_nil, List.mem_singleton] at hb'
    obtain ⟨y, hy, rfl⟩ := List.mem_map.1 ha
    exact findI_none.1 hno y hy (by omega)
  · dsimp only
    rw [room_snoc]
    have := h.few b
    split
    · rename_i e
      rw [← e, hb]; omega
    · omega
  · rcases h.from' y hy with e | ⟨z, hz, e1, e2⟩
    · exact .inl e
    · exact .inr ⟨z, by simp [hz], e1, e2⟩
  · rcases hf with e | ⟨y, hy, e1, e2, e3⟩
    · exact .inl e
    · exact .inr ⟨y, by simp [hy], e1, e2, e3, by rw [hd]; exact (h.days y hy).2⟩
theorem putI_map {α : Type} {l : List It} {n : Int} {f : It → It} {g : It → α} (h : ∀ x, g (f x) = g x) : (putI l n f).map g = l.map g := by
  unfold putI
  rw [List.map_map]
  refine List.map_congr_left fun x _ => ?_
  show g (if x.num = n then f x else x) = g x
  split
  · exact h x
  · rfl
theorem mem_putI {l : List It} {n : Int} {f : It → It} {y : It} : y ∈ putI l n f ↔ ∃ x ∈ l, y = if x.num = n then f x else x := by
  unfold putI
  rw [List.mem_map]
  exact ⟨fun ⟨x, hx, e⟩ => ⟨x, hx, e.symm⟩, fun ⟨x, hx, e⟩ => ⟨x, hx, e.symm⟩⟩
theorem once_mem {l : List It} (h : (l.map It.num).Nodup) {x y : It} (hx : x ∈ l) (hy : y ∈ l) (e : x.num = y.num) : x = y := by
  induction l with
  | nil => cases hx
  | cons z l ih =>
    rw [List.map_cons, List.nodup_cons] at h
    rcases List.mem_cons.1 hx with rfl | hx'
    · rcases List.mem_cons.1 hy with rfl | hy'
      · rfl
      · exact absurd (List.mem_map.2 ⟨y, hy', e.symm⟩) h.1
    · rcases List.mem_cons.1 hy with rfl | hy'
      · exact absurd (List.mem_map.2 ⟨x, hx', e⟩) h.1
      · exact ih h.2 hx' hy'
theorem findI_mem {l : List It} (h : (l.map It.num).Nodup) {x : It} (hx : x ∈ l) : findI l x.num = some x := by
  cases e : findI l x.num with
  | none => exact absurd rfl (findI_none.1 e x hx)
  | some y =>
    obtain ⟨hy, e2⟩ := findI_some e
    rw [once_mem h hy hx e2]
/-- where a cylinder goes into another box -/
theorem room_move {l : List It} (h : (l.map It.num).Nodup) {x : It} (hx : x ∈ l) {o : Int} (hne : x.box ≠ o) (b : Int) : room (putI l x.num fun y => { y with box := o }) b + (if b = x.box then 1 else 0) = room l b + (if b = o then 1 else 0) := by
  induction l with
  | nil => cases hx
  | cons z l ih =>
    rw [List.map_cons, List.nodup_cons] at h
    have hcons : ∀ (y : It) (k : List It), room (y :: k) b = (if y.box = b then 1 else 0) + room k b := fun y k => by
      unfold room
      by_cases c : y.box = b
      · rw [List.filter_cons_of_pos (by simpa using c), if_pos c, List.length_cons]; omega
      · rw [List.filter_cons_of_neg (by simpa using c), if_neg c]; omega
    have hput : putI (z :: l) x.num (fun y => { y with box := o }) = (if z.num = x.num then { z with box := o } else z) :: putI l x.num (fun y => { y with box := o }) := rfl
    rw [hput, hcons, hcons]
    by_cases e : z.num = x.num
    · have hzx : z = x := by
        rcases List.mem_cons.1 hx with rfl | hx'
        · rfl
        · exact absurd (List.mem_map.2 ⟨x, hx', e.symm⟩) h.1
      subst hzx
      rw [if_pos rfl]
      have hsame : putI l z.num (fun y => { y with box := o }) = l := by
        unfold putI
        refine (List.map_congr_left fun y hy => ?_).trans (List.map_id _)
        rw [if_neg (fun e2 => h.1 (List.mem_map.2 ⟨y, hy, e2⟩))]
        rfl
      rw [hsame]
      dsimp only
      by_cases c1 : o = b
      · have c2 : ¬ b = z.box := fun k => hne (k.symm.trans c1.symm)
        have c4 : ¬ z.box = b := fun k => c2 k.symm
        rw [if_pos c1, if_neg c2, if_neg c4, if_pos c1.symm]; omega
      · have c3 : ¬ b = o := fun k => c1 k.symm
        rw [if_neg c1, if_neg c3]
        by_cases c2 : z.box = b
        · have c4 : b = z.box := c2.symm
          rw [if_pos c2, if_pos c4]; omega
        · have c4 : ¬ b = z.box := fun k => c2 k.symm
          rw [if_neg c2, if_neg c4]
    · rw [if_neg e]
      have hx' : x ∈ l := by
        rcases List.mem_cons.1 hx with rfl | hx'
        · exact absurd rfl e
        · exact hx'
      have := ih h.2 hx'
      omega
theorem JnOk.crack {j : Jn} (h : JnOk j) (n : Int) : JnOk ⟨j.day, j.opn, putI j.items n fun y => { y with cracked := true }⟩ := by
  have all : ∀ {P : It → Prop}, (∀ x ∈ j.items, P x) → (∀ x, P x → P { x with cracked := true }) → ∀ y ∈ putI j.items n (fun y => { y with cracked := true }), P y := fun hP hk y hy => by
    obtain ⟨x, hx, rfl⟩ := mem_putI.1 hy
    split
    · exact hk x (hP x hx)
    · exact hP x hx
  refine ⟨h.day, h.opn, h.both, ?_, all h.num (fun _ k => k), all h.box (fun _ k => k), all h.days (fun _ k => k), all h.voice (fun _ k => k), all h.turns (fun _ k => k), all h.src (fun _ k => k), fun b => ?_, fun y hy => ?_⟩
  · dsimp only
    rw [putI_map (g := It.num)]
    · exact h.once
    · exact fun _ => rfl
  · have e : room (putI j.items n fun y => { y with cracked := true }) b = room j.items b := by
      have h1 : ∀ l : List It, room l b = ((l.map It.box).filter fun z => decide (z = b)).length := fun l => by
        unfold room
        rw [List.filter_map, List.length_map]; rfl
      rw [h1, h1, putI_map (g := It.box)]
      exact fun _ => rfl
    dsimp only
    rw [e]; exact h.few b
  · obtain ⟨x, hx, rfl⟩ := mem_putI.1 hy
    have k := h.from' x hx
    have k2 : x.src = 0 ∨ ∃ y ∈ putI j.items n (fun y => { y with cracked := true }), y.num = x.src ∧ y.voice = x.voice ∧ y.turns = x.turns ∧ y.day ≤ x.day := by
      rcases k with e | ⟨z, hz, e⟩
      · exact .inl e
      · refine .inr ⟨_, mem_putI.2 ⟨z, hz, rfl⟩, ?_⟩
        split <;> exact e
    split <;> exact k2
theorem JnOk.move {j : Jn} (h : JnOk j) {x : It} (hx : x ∈ j.items) (hne : x.box ≠ j.opn) (ho : j.opn ≠ 0) (hr : room j.items j.opn < 12) : JnOk ⟨j.day, j.opn, putI j.items x.num fun y => { y with box := j.opn }⟩ := by
  have hoo := h.opn
  have all : ∀ {P : It → Prop}, (∀ x ∈ j.items, P x) → (∀ x, P x → P { x with box := j.opn }) → ∀ y ∈ putI j.items x.num (fun y => { y with box := j.opn }), P y := fun hP hk y hy => by
    obtain ⟨z, hz, rfl⟩ := mem_putI.1 hy
    split
    · exact hk z (hP z hz)
    · exact hP z hz
  refine ⟨h.day, h.opn, h.both, ?_, all h.num (fun _ k => k), all h.box (fun _ _ => by dsimp only; omega), all h.days (fun _ k => k), all h.voice (fun _ k => k), all h.turns (fun _ k => k), all h.src (fun _ k => k), fun b => ?_, fun y hy => ?_⟩
  · dsimp only
    rw [putI_map (g := It.num)]
    · exact h.once
    · exact fun _ => rfl
  · have e := room_move h.once hx hne b
    have k := h.few b
    dsimp only
    by_cases c : b = j.opn
    · subst c
      rw [if_neg (fun k => hne k.symm), if_pos rfl] at e
      omega
    · rw [if_neg c] at e
      omega
  · obtain ⟨z, hz, rfl⟩ := mem_putI.1 hy
    have k := h.from' z hz
    have k2 : z.src = 0 ∨ ∃ y ∈ putI j.items x.num (fun y => { y with box := j.opn }), y.num = z.src ∧ y.voice = z.voice ∧ y.turns = z.turns ∧ y.day ≤ z.day := by
      rcases k with e | ⟨v, hv, e⟩
      · exact .inl e
      · refine .inr ⟨_, mem_putI.2 ⟨v, hv, rfl⟩, ?_⟩
        split <;> exact e
    split <;> exact k2
theorem JnOk.do {j : Jn} (h : JnOk j) {c : Card} (hc : CardOk c) : JnOk (doV j c).1 := by
  by_cases he : (doV j c).2 = 0
  · unfold doV at he ⊢
    by_cases k1 : c.1 = 1
    · rw [if_pos k1] at he ⊢
      by_cases hd : c.2.1 ≤ j.day
      · rw [if_pos hd] at he; simp at he
      · rw [if_neg hd]
        have := hc.day k1
        have h1 := h.day
        exact ⟨⟨by dsimp only; omega, by dsimp only; omega⟩, h.opn, fun _ => by dsimp only; omega, h.once, h.num, h.box, fun x hx => ⟨(h.days x hx).1, by have := (h.days x hx).2; dsimp only; omega⟩, h.voice, h.turns, h.src, h.few, h.from'⟩
    rw [if_neg k1] at he ⊢
    by_cases k2 : c.1 = 2
    · rw [if_pos k2] at he ⊢
      by_cases hd : j.day = 0
      · rw [if_pos hd] at he; simp at he
      · rw [if_neg hd]
        have := hc.box k2
        have h1 := hc.one
        exact ⟨h.day, ⟨by dsimp only; omega, by dsimp only; omega⟩, fun _ => hd, h.once, h.num, h.box, h.days, h.voice, h.turns, h.src, h.few, h.from'⟩
    rw [if_neg k2] at he ⊢
    by_cases k3 : c.1 = 3
    · rw [if_pos k3] at he ⊢
      by_cases hf : freshE j c.2.1 ≠ 0
      · rw [if_pos hf] at he; exact absurd he hf
      · rw [if_neg hf]
        have hs := hc.sing k3
        exact h.add (x := ⟨c.2.1, j.opn, j.day, c.2.2.1, c.2.2.2, 0, false⟩) (Classical.byContradiction hf) ⟨hc.one, hs.1⟩ rfl rfl hs.2.1 hs.2.2 ⟨Int.le_refl _, by show (0 : Int) ≤ 1099511627776; omega⟩ (.inl rfl)
    rw [if_neg k3] at he ⊢
    by_cases k4 : c.1 = 4
    · rw [if_pos k4] at he ⊢
      by_cases hf : freshE j c.2.1 ≠ 0
      · rw [if_pos hf] at he; exact absurd he hf
      · rw [if_neg hf] at he ⊢
        have hs := hc.copy k4
        cases e : findI j.items c.2.2.1 with
        | none => rw [e] at he; simp at he
        | some x =>
          rw [e] at he
          dsimp only at he ⊢
          by_cases hk : x.cracked = true
          · rw [if_pos hk] at he; simp at he
          · rw [if_neg hk]
            obtain ⟨hx, hxn⟩ := findI_some e
            exact h.add (x := ⟨c.2.1, j.opn, j.day, x.voice, x.turns, c.2.2.1, false⟩) (Classical.byContradiction hf) ⟨hc.one, hs.1⟩ rfl rfl (h.voice x hx) (h.turns x hx) ⟨by dsimp only; omega, hs.2.1.2⟩ (.inr ⟨x, hx, hxn, rfl, rfl⟩)
    rw [if_neg k4] at he ⊢
    by_cases k5 : c.1 = 5
    · rw [if_pos k5] at he ⊢
      cases e : findI j.items c.2.1 with
      | none => rw [e] at he; simp at he
      | some x =>
        rw [e] at he
        dsimp only at he ⊢
        by_cases hk : x.cracked = true
        · rw [if_pos hk] at he; simp at he
        · rw [if_neg hk]; exact h.crack _
    rw [if_neg k5] at he ⊢
    by_cases k6 : c.1 = 6
    · rw [if_pos k6] at he ⊢
      by_cases ho : j.opn = 0
      · rw [if_pos ho] at he; simp at he
      · rw [if_neg ho] at he ⊢
        cases e : findI j.items c.2.1 with
        | none => rw [e] at he; simp at he
        | some x =>
          rw [e] at he
          dsimp only at he ⊢
          by_cases hb : x.box = j.opn
          · rw [if_pos hb] at he; simp at he
          · rw [if_neg hb] at he ⊢
            by_cases hr : 12 ≤ room j.items j.opn
            · rw [if_pos hr] at he; simp at he
            · rw [if_neg hr]
              obtain ⟨hx, hxn⟩ := findI_some e
              rw [← hxn]
              exact h.move hx hb ho (by omega)
    rw [if_neg k6] at he ⊢
    exact h
  · rw [doV_same he]; exact h
theorem JnOk.replay : ∀ {cs : List Card} {j k : Jn}, JnOk j → (∀ c ∈ cs, CardOk c) → Prot.replay cs j = some k → JnOk k
  | [], _, _, h, _, e => by injection e with e; subst e; exact h
  | c :: cs, j, k, h, hc, e => by
    have e' : (if (doV j c).2 = 0 then Prot.replay cs (doV j c).1 else none) = some k := e
    split at e'
    · exact JnOk.replay (h.do (hc c (by simp))) (fun d hd => hc d (by simp [hd])) e'
    · cases e'
end Prot
namespace Prot
theorem liveC_append (a b : List Card) : liveC (a ++ b) = liveC a ++ liveC b := by unfold liveC; rw [List.filter_append]
theorem liveC_zero (a : List Card) : liveC (a ++ [zeroC]) = liveC a := by
  rw [liveC_append]
  have : liveC [zeroC] = [] := by unfold liveC; simp
  rw [this, List.append_nil]
theorem liveC_card (a : List Card) {c : Card} (h : c ≠ zeroC) : liveC (a ++ [c]) = liveC a ++ [c] := by
  rw [liveC_append]
  have : liveC [c] = [c] := by unfold liveC; rw [List.filter_cons_of_pos (by simpa using h)]; rfl
  rw [this]
theorem mem_liveC {cs : List Card} {c : Card} : c ∈ liveC cs ↔ c ∈ cs ∧ c ≠ zeroC := by
  unfold liveC
  rw [List.mem_filter]
  simp
theorem butC_len (cs : List Card) (a : Nat) : (butC cs a).length = cs.length := by unfold butC; simp
theorem butC_at {cs : List Card} {a i : Nat} (hi : i < cs.length) : (butC cs a).getD i zeroC = if i = a then zeroC else cs.getD i zeroC := by
  unfold butC
  rw [List.getD_eq_getElem?_getD, List.getD_eq_getElem?_getD, List.getElem?_set]
  by_cases e : i = a
  · subst e; rw [if_pos rfl, if_pos hi, if_pos rfl]; rfl
  · rw [if_neg (fun k => e k.symm), if_neg e]
theorem mem_butC {cs : List Card} {a : Nat} {c : Card} (h : c ∈ butC cs a) : c ∈ cs ∨ c = zeroC := by
  unfold butC at h
  exact (List.mem_or_eq_of_mem_set h)
/-- what the lines so far keep -/
structure StOk (ls : List (List UInt8)) (s : St) : Prop where
  errs : s.errs.length = ls.length
  len : s.cards.length = ls.length
  card : ∀ c ∈ s.cards, c = zeroC ∨ CardOk c ∧ c.1 ≠ 7
  line : ∀ i (h : i < ls.length), s.cards.getD i zeroC ≠ zeroC → parseV ls[i] = (s.cards.getD i zeroC, 0)
  jn : replay (liveC s.cards) Jn.start = some s.jn
  ok : JnOk s.jn
theorem StOk.start : StOk [] St.start := ⟨rfl, rfl, fun c h => (by cases h), fun i h => by simp at h, rfl, JnOk.start⟩
theorem getD_snoc_lt {cs : List Card} {c : Card} {i : Nat} (h : i < cs.length) : (cs ++ [c]).getD i zeroC = cs.getD i zeroC := by
  rw [List.getD_eq_getElem?_getD, List.getD_eq_getElem?_getD, List.getElem?_append_left h]
theorem getD_snoc_eq (cs : List Card) (c : Card) : (cs ++ [c]).getD cs.length zeroC = c := by
  rw [List.getD_eq_getElem?_getD, List.getElem?_append_right (Nat.le_refl _)]; simp
theorem line_snoc {ls : List (List UInt8)} {l : List UInt8} {cs : List Card} {c : Card} (hlen : cs.length = ls.length) (h : ∀ i (h : i < ls.length), cs.getD i zeroC ≠ zeroC → parseV ls[i] = (cs.getD i zeroC, 0)) (hc : c ≠ zeroC → parseV l = (c, 0)) :
    ∀ i (h : i < (ls ++ [l]).length), (cs ++ [c]).getD i zeroC ≠ zeroC → parseV (ls ++ [l])[i] = ((cs ++ [c]).getD i zeroC, 0) := fun i hi hne => by
  by_cases e : i < ls.length
  · rw [getD_snoc_lt (by omega)] at hne ⊢
    rw [List.getElem_append_left e]
    exact h i e hne
  · have hi2 : i = ls.length := by simp at hi; omega
    subst hi2
    have e2 : (cs ++ [c]).getD ls.length zeroC = c := by rw [← hlen]; exact getD_snoc_eq cs c
    rw [e2] at hne ⊢
    rw [List.getElem_append_right (Nat.le_refl _)]
    simpa using hc hne
theorem card_snoc {cs : List Card} {c : Card} (h : ∀ d ∈ cs, d = zeroC ∨ CardOk d ∧ d.1 ≠ 7) (hc : c = zeroC ∨ CardOk c ∧ c.1 ≠ 7) : ∀ d ∈ cs ++ [c], d = zeroC ∨ CardOk d ∧ d.1 ≠ 7 := fun d hd => by
  rcases List.mem_append.1 hd with hd | hd
  · exact h d hd
  · rw [List.mem_singleton] at hd; subst hd; exact hc
/-- a line that changes nothing -/
theorem StOk.refused {ls : List (List UInt8)} {s : St} (h : StOk ls s) (l : List UInt8) (e : Int) : StOk (ls ++ [l]) ⟨s.errs ++ [e], s.cards ++ [zeroC], s.jn⟩ :=
  ⟨by simp [h.errs], by simp [h.len], card_snoc h.card (.inl rfl), line_snoc h.len h.line (fun k => absurd rfl k), by dsimp only; rw [liveC_zero]; exact h.jn, h.ok⟩
theorem StOk.step {ls : List (List UInt8)} {s : St} (h : StOk ls s) (l : List UInt8) : StOk (ls ++ [l]) (stepV s l) := by
  unfold stepV
  by_cases he : (parseV l).2 ≠ 0
  · rw [if_pos he]; exact h.refused l _
  rw [if_neg he]
  have he0 : (parseV l).2 = 0 := Classical.byContradiction he
  have hc := parse_card he0
  have hp : parseV l = ((parseV l).1, 0) := Prod.ext rfl he0
  generalize (parseV l).1 = c at hc hp
  by_cases h7 : c.1 = 7
  · rw [if_pos h7]
    unfold strikeV
    by_cases hs : ¬ (1 ≤ c.2.1 ∧ (c.2.1 - 1).toNat < s.cards.length ∧ s.cards.getD (c.2.1 - 1).toNat zeroC ≠ zeroC)
    · rw [if_pos hs]; exact h.refused l _
    · rw [if_neg hs]
      generalize (c.2.1 - 1).toNat = a
      have hlive : ∀ d ∈ liveC (butC s.cards a), CardOk d := fun d hd => by
        obtain ⟨h1, h2⟩ := mem_liveC.1 hd
        rcases mem_butC h1 with h3 | h3
        · exact ((h.card d h3).resolve_left h2).1
        · exact absurd h3 h2
      cases e : replay (liveC (butC s.cards a)) Jn.start with
      | none => exact h.refused l _
      | some k =>
        dsimp only
        refine ⟨by simp [h.errs], by simp [butC_len, h.len], card_snoc (fun d hd => ?_) (.inl rfl), line_snoc (by rw [butC_len]; exact h.len) (fun i hi hne => ?_) (fun k => absurd rfl k), by dsimp only; rw [liveC_zero]; exact e, JnOk.start.replay hlive e⟩
        · rcases mem_butC hd with h3 | h3
          · exact h.card d h3
          · exact .inl h3
        · rw [butC_at (by rw [h.len]; exact hi)] at hne ⊢
          split at hne
          · exact absurd rfl hne
          · rename_i hia
            rw [if_neg hia]
            exact h.line i hi hne
  · rw [if_neg h7]
    by_cases hd : (doV s.jn c).2 ≠ 0
    · rw [if_pos hd]; exact h.refused l _
    · rw [if_neg hd]
      have hd0 : (doV s.jn c).2 = 0 := Classical.byContradiction hd
      refine ⟨by simp [h.errs], by simp [h.len], card_snoc h.card (.inr ⟨hc, h7⟩), line_snoc h.len h.line (fun _ => hp), ?_, h.ok.do hc⟩
      dsimp only
      rw [liveC_card _ hc.ne, replay_append, h.jn]
      show (if (doV s.jn c).2 = 0 then replay [] (doV s.jn c).1 else none) = _
      rw [if_pos hd0]; rfl
theorem runV_ok (ls : List (List UInt8)) : StOk ls (runV ls) := by
  induction ls using snoc_ind with
  | h0 => exact StOk.start
  | h1 ls l ih => rw [runV_snoc]; exact ih.step l
def fairL (ls : List (List UInt8)) (cs : List Card) : List (List UInt8) := ((ls.zip cs).filter fun p => decide (p.2 ≠ zeroC)).map Prod.fst
end Prot
namespace Prot
open Go.Lib
def rowsA : List UInt8 → List UInt8 → List (List UInt8)
  | acc, [] => if acc = [] then [] else [acc]
  | acc, c :: r => if c = 10 then acc :: rowsA [] r else rowsA (acc ++ [c]) r
/-- the lines of a text, as they are cut off at line feeds -/
def rowsL (t : List UInt8) : List (List UInt8) := rowsA [] t
def textL (ls : List (List UInt8)) : List UInt8 := ls.flatMap fun l => l ++ [10]
def NoNl (l : List UInt8) : Prop := ∀ c ∈ l, c ≠ 10
theorem rowsA_acc : ∀ (l acc r : List UInt8), NoNl l → rowsA acc (l ++ 10 :: r) = (acc ++ l) :: rowsL r
  | [], acc, r, _ => by
    show (if (10 : UInt8) = 10 then acc :: rowsA [] r else rowsA (acc ++ [10]) r) = _
    rw [if_pos rfl, List.append_nil]; rfl
  | c :: l, acc, r, h => by
    show (if c = 10 then acc :: rowsA [] (l ++ 10 :: r) else rowsA (acc ++ [c]) (l ++ 10 :: r)) = _
    rw [if_neg (h c (by simp)), rowsA_acc l _ r (fun d hd => h d (by simp [hd])), List.append_assoc]; rfl
theorem rows_cut {l r : List UInt8} (h : NoNl l) : rowsL (l ++ 10 :: r) = l :: rowsL r := rowsA_acc l [] r h
theorem rowsA_rest : ∀ (l acc : List UInt8), NoNl l → rowsA acc l = if acc ++ l = [] then [] else [acc ++ l]
  | [], acc, _ => by rw [List.append_nil]; rfl
  | c :: l, acc, h => by
    show (if c = 10 then acc :: rowsA [] l else rowsA (acc ++ [c]) l) = _
    rw [if_neg (h c (by simp)), rowsA_rest l _ (fun d hd => h d (by simp [hd])), List.append_assoc]; rfl
theorem rows_rest {l : List UInt8} (h : NoNl l) (hne : l ≠ []) : rowsL l = [l] := by
  unfold rowsL
  rw [rowsA_rest l [] h, if_neg (by simpa using hne)]; rfl
theorem rows_nil : rowsL [] = [] := rfl
theorem rows_text {ls : List (List UInt8)} (h : ∀ l ∈ ls, NoNl l) (t : List UInt8) : rowsL (textL ls ++ t) = ls ++ rowsL t := by
  induction ls with
  | nil => rfl
  | cons l ls ih =>
    have e : textL (l :: ls) ++ t = l ++ 10 :: (textL ls ++ t) := by unfold textL; simp
    rw [e, rows_cut (h l (by simp)), ih (fun k hk => h k (by simp [hk]))]; rfl
theorem rows_of {ls : List (List UInt8)} (h : ∀ l ∈ ls, NoNl l) : rowsL (textL ls) = ls := by
  have := rows_text h []
  rwa [List.append_nil, rows_nil, List.append_nil] at this
theorem rowsA_nl : ∀ (t acc : List UInt8), NoNl acc → ∀ l ∈ rowsA acc t, NoNl l
  | [], acc, h, l, hl => by
    have hl' : l ∈ (if acc = [] then [] else [acc]) := hl
    split at hl'
    · cases hl'
    · rw [List.mem_singleton] at hl'; subst hl'; exact h
  | c :: t, acc, h, l, hl => by
    have hl' : l ∈ (if c = 10 then acc :: rowsA [] t else rowsA (acc ++ [c]) t) := hl
    split at hl'
    · rcases List.mem_cons.1 hl' with rfl | hl'
      · exact h
      · exact rowsA_nl t [] (fun d hd => by cases hd) l hl'
    · rename_i hc
      refine rowsA_nl t _ (fun d hd => ?_) l hl'
      rcases List.mem_append.1 hd with hd | hd
      · exact h d hd
      · rw [List.mem_singleton] at hd; subst hd; exact hc
theorem rows_nl (t : List UInt8) : ∀ l ∈ rowsL t, NoNl l := rowsA_nl t [] (fun d hd => by cases hd)
def Ends (t : List UInt8) : Prop := t = [] ∨ t.getLast? = some 10
theorem text_rowsA : ∀ (t acc : List UInt8), (acc ++ t = [] ∨ (acc ++ t).getLast? = some 10) → NoNl acc → textL (rowsA acc t) = acc ++ t
  | [], acc, h, ha => by
    show textL (if acc = [] then [] else [acc]) = _
    rw [List.append_nil] at h ⊢
    split
    · rename_i e; rw [e]; rfl
    · rename_i e
      exfalso
      rcases h with h | h
      · exact e h
      · exact ha 10 (List.mem_of_getLast? h) rfl
  | c :: t, acc, h, ha => by
    show textL (if c = 10 then acc :: rowsA [] t else rowsA (acc ++ [c]) t) = _
    split
    · rename_i e
      subst e
      have e2 : textL (acc :: rowsA [] t) = acc ++ [10] ++ textL (rowsA [] t) := by unfold textL; simp
      rw [e2, text_rowsA t [] ?_ (fun d hd => by cases hd)]
      · simp
      · by_cases ht : t = []
        · exact .inl (by simpa using ht)
        · refine .inr ?_
          rcases h with h | h
          · simp at h
          · rw [List.nil_append]
            rw [List.getLast?_append, List.getLast?_cons] at h
            cases hl : t.getLast? with
            | none => exact absurd (List.getLast?_eq_none_iff.1 hl) ht
            | some x => rw [hl] at h; simpa using h
    · rename_i e
      rw [text_rowsA t (acc ++ [c]) (by rw [List.append_assoc]; exact h) (fun d hd => by
        rcases List.mem_append.1 hd with hd | hd
        · exact ha d hd
        · rw [List.mem_singleton] at hd; subst hd; exact e), List.append_assoc]; rfl
theorem text_rows {t : List UInt8} (h : Ends t) : textL (rowsL t) = t := text_rowsA t [] (by simpa [Ends] using h) (fun d hd => by cases hd)
theorem text_ends (ls : List (List UInt8)) : Ends (textL ls) := by
  induction ls using snoc_ind with
  | h0 => exact .inl rfl
  | h1 ls l _ => exact .inr (by unfold textL; rw [List.flatMap_append]; simp)
theorem text_count {ls : List (List UInt8)} (h : ∀ l ∈ ls, NoNl l) : (textL ls).count 10 = ls.length := by
  induction ls with
  | nil => rfl
  | cons l ls ih =>
    have e : textL (l :: ls) = l ++ ([10] ++ textL ls) := by unfold textL; simp
    have h0 : l.count 10 = 0 := List.count_eq_zero.2 (fun k => h l (by simp) 10 k rfl)
    rw [e, List.count_append, List.count_append, ih (fun k hk => h k (by simp [hk])), h0]
    simp; omega
/-- the error of a protocol -/
def textErr (t : List UInt8) : Int := if 65536 < t.length then 7 else if t ≠ [] ∧ t.getLast? ≠ some 10 then 8 else if 60 < t.count 10 then 6 else 0
theorem textErr_ok {t : List UInt8} (h : textErr t = 0) : t.length ≤ 65536 ∧ Ends t ∧ (rowsL t).length ≤ 60 := by
  unfold textErr at h
  split at h
  · omega
  · split at h
    · omega
    · split at h
      · omega
      · rename_i h1 h2 h3
        have he : Ends t := by
          by_cases k : t = []
          · exact .inl k
          · exact .inr (Classical.byContradiction fun q => h2 ⟨k, q⟩)
        refine ⟨by omega, he, ?_⟩
        have := text_count (rows_nl t)
        rw [text_rows he] at this
        omega
/-- what Run, State and Fair answer -/
def runA (t : List UInt8) : List Int × Int := if textErr t ≠ 0 then ([], textErr t) else ((runV (rowsL t)).errs, 0)
/-- cylinders by rising numbers -/
def toldL (l : List It) : List It := l.mergeSort fun a b => decide (a.num ≤ b.num)
def Rise (l : List It) : Prop := l.Pairwise fun a b => a.num < b.num
theorem told_perm (l : List It) : (toldL l).Perm l := List.mergeSort_perm _ _
theorem told_sorted (l : List It) : (toldL l).Pairwise fun a b => a.num ≤ b.num := by
  have h := List.pairwise_mergeSort (le := fun a b : It => decide (a.num ≤ b.num)) (fun a b c h1 h2 => by simp only [decide_eq_true_eq] at *; omega) (fun a b => by simp only [Bool.or_eq_true, decide_eq_true_eq]; omega) l
  exact h.imp (fun h => by simpa using h)
theorem told_rise {l : List It} (h : (l.map It.num).Nodup) : Rise (toldL l) := by
  have h1 := told_sorted l
  have h2 : ((toldL l).map It.num).Nodup := ((told_perm l).map _).nodup_iff.2 h
  rw [List.Nodup, List.pairwise_map] at h2
  exact (h1.and h2).imp fun ⟨a, b⟩ => by omega
theorem rise_uniq {a b : List It} (ha : Rise a) (hb : Rise b) (h : ∀ x, x ∈ a ↔ x ∈ b) : a = b := by
  induction a generalizing b with
  | nil =>
    cases b with
    | nil => rfl
    | cons y b => exact absurd ((h y).2 (by simp)) (by simp)
  | cons x a ih =>
    cases b with
    | nil => exact absurd ((h x).1 (by simp)) (by simp)
    | cons y b =>
      have ha' := List.pairwise_cons.1 ha
      have hb' := List.pairwise_cons.1 hb
      have e : x = y := by
        rcases List.mem_cons.1 ((h x).1 (by simp)) with e | hx
        · exact e
        · rcases List.mem_cons.1 ((h y).2 (by simp)) with e | hy
          · exact e.symm
          · have h1 := hb'.1 x hx
            have h2 := ha'.1 y hy
            omega
      subst e
      rw [ih ha'.2 hb'.2 (fun z => ?_)]
      constructor
      · intro hz
        rcases List.mem_cons.1 ((h z).1 (by simp [hz])) with e | k
        · subst e; have := ha'.1 z hz; omega
        · exact k
      · intro hz
        rcases List.mem_cons.1 ((h z).2 (by simp [hz])) with e | k
        · subst e; have := hb'.1 z hz; omega
        · exact k
theorem told_same {l : List It} (h : Rise l) : toldL l = l := by
  have hn : (l.map It.num).Nodup := by
    rw [List.Nodup, List.pairwise_map]
    exact h.imp fun k e => by omega
  exact rise_uniq (told_rise hn) h (fun x => (told_perm l).mem_iff)
def stateA (t : List UInt8) : List It × Int := if textErr t ≠ 0 then ([], textErr t) else (toldL (runV (rowsL t)).jn.items, 0)
def fairA (t : List UInt8) : List UInt8 × Int := if textErr t ≠ 0 then ([], textErr t) else (textL (fairL (rowsL t) (runV (rowsL t)).cards), 0)
end Prot
namespace Prot
open Go.Lib
structure ItOk (x : It) : Prop where
  num : 1 ≤ x.num ∧ x.num ≤ (maxN : Int)
  box : 1 ≤ x.box ∧ x.box ≤ 999
  day : 1 ≤ x.day ∧ x.day ≤ 100000
  voice : 1 ≤ x.voice ∧ x.voice ≤ 99
  turns : 1 ≤ x.turns ∧ x.turns ≤ 400
  src : 0 ≤ x.src ∧ x.src ≤ (maxN : Int)
def okB (x : It) : Bool := decide (1 ≤ x.num ∧ x.num ≤ (maxN : Int)) && decide (1 ≤ x.box ∧ x.box ≤ 999) && decide (1 ≤ x.day ∧ x.day ≤ 100000) && decide (1 ≤ x.voice ∧ x.voice ≤ 99) && decide (1 ≤ x.turns ∧ x.turns ≤ 400) && decide (0 ≤ x.src ∧ x.src ≤ (maxN : Int))
theorem okB_iff {x : It} : okB x = true ↔ ItOk x := by
  unfold okB
  simp only [Bool.and_eq_true, decide_eq_true_eq]
  exact ⟨fun ⟨⟨⟨⟨⟨a, b⟩, c⟩, d⟩, e⟩, f⟩ => ⟨a, b, c, d, e, f⟩, fun h => ⟨⟨⟨⟨⟨h.num, h.box⟩, h.day⟩, h.voice⟩, h.turns⟩, h.src⟩⟩
def riseB : List It → Bool
  | [] => true
  | [_] => true
  | x :: y :: l => decide (x.num < y.num) && riseB (y :: l)
theorem riseB_iff : ∀ {l : List It}, riseB l = true ↔ Rise l
  | [] => ⟨fun _ => List.Pairwise.nil, fun _ => rfl⟩
  | [x] => ⟨fun _ => List.pairwise_singleton _ _, fun _ => rfl⟩
  | x :: y :: l => by
    show (decide (x.num < y.num) && riseB (y :: l)) = true ↔ _
    rw [Bool.and_eq_true, decide_eq_true_eq, riseB_iff (l := y :: l)]
    constructor
    · rintro ⟨h1, h2⟩
      refine List.pairwise_cons.2 ⟨fun z hz => ?_, h2⟩
      rcases List.mem_cons.1 hz with rfl | hz
      · exact h1
      · have := (List.pairwise_cons.1 h2).1 z hz; omega
    · intro h
      obtain ⟨h1, h2⟩ := List.pairwise_cons.1 h
      exact ⟨h1 y (by simp), h2⟩
/-- the error of cylinders -/
def itemsErr (l : List It) : Int := if 60 < l.length then 6 else if l.all okB = false then 3 else if riseB l = false then 15 else if l.any (fun x => decide (12 < room l x.box)) = true then 10 else 0
structure ListOk (l : List It) : Prop where
  few : l.length ≤ 60
  ok : ∀ x ∈ l, ItOk x
  rise : Rise l
  room : ∀ x ∈ l, room l x.box ≤ 12
theorem itemsErr_iff {l : List It} : itemsErr l = 0 ↔ ListOk l := by
  unfold itemsErr
  constructor
  · intro h
    split at h
    · omega
    · split at h
      · omega
      · split at h
        · omega
        · split at h
          · omega
          · rename_i h1 h2 h3 h4
            refine ⟨by omega, fun x hx => ?_, ?_, fun x hx => ?_⟩
            · have : l.all okB = true := by cases e : l.all okB <;> simp_all
              exact okB_iff.1 (List.all_eq_true.1 this x hx)
            · exact riseB_iff.1 (by cases e : riseB l <;> simp_all)
            · exact Classical.byContradiction fun k => h4 (List.any_eq_true.2 ⟨x, hx, by simpa using (by omega : 12 < Prot.room l x.box)⟩)
  · intro h
    rw [if_neg (by have := h.few; omega), if_neg, if_neg, if_neg]
    · intro k
      obtain ⟨x, hx, e⟩ := List.any_eq_true.1 k
      have := h.room x hx
      simp at e; omega
    · rw [riseB_iff.2 h.rise]; simp
    · rw [List.all_eq_true.2 fun x hx => okB_iff.2 (h.ok x hx)]; simp
def bitL (b : Bool) : List UInt8 := if b = true then [49] else [48]
def itemW (x : It) : List (List UInt8) := [markL x.num.toNat, decDigits x.day.toNat, decDigits x.voice.toNat, decDigits x.turns.toNat, decDigits x.src.toNat, bitL x.cracked]
def boxWord : List UInt8 := [98, 111, 120]
def headW (b : Nat) : List (List UInt8) := [boxWord, decDigits b]
def inBox (l : List It) (b : Nat) : List It := l.filter fun x => decide (x.box = (b : Int))
def boxLs (l : List It) (b : Nat) : List (List UInt8) := if inBox l b = [] then [] else joinSp (headW b) :: (inBox l b).map fun x => joinSp (itemW x)
def boxesN : List Nat := (List.range 999).map (· + 1)
/-- the lines of a shelf list -/
def shelfLs (l : List It) : List (List UInt8) := boxesN.flatMap (boxLs l)
def shelfT (l : List It) : List UInt8 := textL (shelfLs l)
/-- what List answers -/
def listA (l : List It) : List UInt8 × Int := if itemsErr l ≠ 0 then ([], itemsErr l) else (shelfT l, 0)
/-- the cylinders in the order of a shelf list -/
def byBox (l : List It) : List It := boxesN.flatMap (inBox l)
abbrev RSt := Int × List It
/-- a line of a shelf list, by a way of numbers, of marks, and a bound of boxes -/
structure ReadW where
  num : List UInt8 → Int
  mark : List UInt8 → Option Int
  head : List UInt8 → Option Int
  item : Int → Int → Int → Int → Int → List UInt8 → Option Bool
def readLine (R : ReadW) (s : RSt) (l : List UInt8) : Option RSt :=
  match splitSp l with
  | [w, v] => if w = boxWord then (R.head v).map fun b => (b, s.2) else none
  | [m, a, b, c, d, e] => match R.mark m with
    | none => none
    | some n => (R.item n (R.num a) (R.num b) (R.num c) (R.num d) e).map fun k => (s.1, s.2 ++ [⟨n, s.1, R.num a, R.num b, R.num c, R.num d, k⟩])
  | _ => none
def readGo (R : ReadW) : List (List UInt8) → RSt → Option RSt
  | [], s => some s
  | l :: ls, s => match readLine R s l with
    | none => none
    | some s' => readGo R ls s'
theorem readGo_append (R : ReadW) : ∀ (a b : List (List UInt8)) (s : RSt), readGo R (a ++ b) s = (readGo R a s).bind (readGo R b)
  | [], _, _ => rfl
  | l :: a, b, s => by
    show (match readLine R s l with | none => none | some s' => readGo R (a ++ b) s') = (match readLine R s l with | none => none | some s' => readGo R a s').bind (readGo R b)
    cases readLine R s l with
    | none => rfl
    | some s' => exact readGo_append R a b s'
/-- a way that reads what is written -/
structure ReadOk (R : ReadW) : Prop where
  num : ∀ n : Nat, n ≤ maxN → R.num (decDigits n) = n
  mark : ∀ n : Nat, 1 ≤ n → n ≤ maxN → R.mark (markL n) = some (n : Int)
  head : ∀ b : Nat, 1 ≤ b → b ≤ 999 → R.head (decDigits b) = some (b : Int)
  item : ∀ (n a b c d : Nat) (k : Bool), R.item n a b c d (bitL k) = some k
theorem mark_sp (n : Nat) : ∀ c ∈ markL n, c ≠ 32 ∧ c ≠ 10 := fun c hc => by
  unfold markL at hc
  have h : isD c = true := by
    rcases List.mem_append.1 hc with hc | hc
    · exact dec_all n c hc
    · exact chkL_all n c hc
  have := isD_iff.1 h
  exact ⟨fun e => by rw [e] at this; exact absurd this.1 (by decide), fun e => by rw [e] at this; exact absurd this.1 (by decide)⟩
theorem bit_sp (b : Bool) : ∀ c ∈ bitL b, c ≠ 32 ∧ c ≠ 10 := by cases b <;> decide
theorem itemW_sp (x : It) : ∀ w ∈ itemW x, ∀ c ∈ w, c ≠ 32 ∧ c ≠ 10 := fun w hw c hc => by
  unfold itemW at hw
  simp only [List.mem_cons, List.not_mem_nil, or_false] at hw
  rcases hw with rfl | rfl | rfl | rfl | rfl | rfl
  · exact mark_sp _ c hc
  · exact ⟨dec_sp _ c hc, dec_nl _ c hc⟩
  · exact ⟨dec_sp _ c hc, dec_nl _ c hc⟩
  · exact ⟨dec_sp _ c hc, dec_nl _ c hc⟩
  · exact ⟨dec_sp _ c hc, dec_nl _ c hc⟩
  · exact bit_sp _ c hc
theorem headW_sp (b : Nat) : ∀ w ∈ headW b, ∀ c ∈ w, c ≠ 32 ∧ c ≠ 10 := fun w hw c hc => by
  unfold headW at hw
  simp only [List.mem_cons, List.not_mem_nil, or_false] at hw
  rcases hw with rfl | rfl
  · revert c; decide
  · exact ⟨dec_sp _ c hc, dec_nl _ c hc⟩
theorem joinSp_nl : ∀ {ws : List (List UInt8)}, (∀ w ∈ ws, ∀ c ∈ w, c ≠ 32 ∧ c ≠ 10) → NoNl (joinSp ws)
  | [], _ => fun c hc => by cases hc
  | [w], h => fun c hc => (h w (by simp) c hc).2
  | w :: x :: ws, h => fun c hc => by
    have hc' : c ∈ w ++ 32 :: joinSp (x :: ws) := hc
    rcases List.mem_append.1 hc' with k | k
    · exact (h w (by simp) c k).2
    · rcases List.mem_cons.1 k with rfl | k
      · decide
      · exact joinSp_nl (fun v hv => h v (by simp [hv])) c k
theorem readLine_head {R : ReadW} (hR : ReadOk R) (s : RSt) {b : Nat} (h1 : 1 ≤ b) (h2 : b ≤ 999) : readLine R s (joinSp (headW b)) = some ((b : Int), s.2) := by
  unfold readLine
  rw [split_join (by simp [headW]) (fun w hw c hc => (headW_sp b w hw c hc).1)]
  unfold headW
  dsimp only
  rw [if_pos rfl, hR.head b h1 h2]; rfl
theorem readLine_item {R : ReadW} (hR : ReadOk R) (s : RSt) {x : It} (h : ItOk x) (hb : s.1 = x.box) : readLine R s (joinSp (itemW x)) = some (s.1, s.2 ++ [x]) := by
  unfold readLine
  rw [split_join (by simp [itemW]) (fun w hw c hc => (itemW_sp x w hw c hc).1)]
  unfold itemW
  dsimp only
  have hm : (maxN : Int) = 1099511627776 := rfl
  have h1 := h.num; have h2 := h.day; have h3 := h.voice; have h4 := h.turns; have h5 := h.src
  rw [hR.mark x.num.toNat (by omega) (by omega), hR.num x.day.toNat (by omega), hR.num x.voice.toNat (by omega), hR.num x.turns.toNat (by omega), hR.num x.src.toNat (by omega)]
  dsimp only
  rw [hR.item]
  have e : (⟨((x.num.toNat : Nat) : Int), s.1, ((x.day.toNat : Nat) : Int), ((x.voice.toNat : Nat) : Int), ((x.turns.toNat : Nat) : Int), ((x.src.toNat : Nat) : Int), x.cracked⟩ : It) = x := by
    obtain ⟨n, b, d, v, t, f, c⟩ := x
    dsimp only at h1 h2 h3 h4 h5 hb ⊢
    rw [hb]
    congr 1 <;> omega
  show some (s.1, s.2 ++ [_]) = _
  rw [e]
theorem readGo_items {R : ReadW} (hR : ReadOk R) : ∀ (xs : List It) (s : RSt), (∀ x ∈ xs, ItOk x ∧ x.box = s.1) → readGo R (xs.map fun x => joinSp (itemW x)) s = some (s.1, s.2 ++ xs)
  | [], s, _ => by rw [List.append_nil]; rfl
  | x :: xs, s, h => by
    show (match readLine R s (joinSp (itemW x)) with | none => none | some s' => readGo R (xs.map fun x => joinSp (itemW x)) s') = _
    rw [readLine_item hR s (h x (by simp)).1 (h x (by simp)).2.symm]
    dsimp only
    rw [readGo_items hR xs (s.1, s.2 ++ [x]) (fun y hy => h y (by simp [hy])), List.append_assoc]; rfl
theorem readGo_boxes {R : ReadW} (hR : ReadOk R) {l : List It} (hl : ∀ x ∈ l, ItOk x) : ∀ (bs : List Nat) (s : RSt), (∀ b ∈ bs, 1 ≤ b ∧ b ≤ 999) → ∃ b', readGo R (bs.flatMap (boxLs l)) s = some (b', s.2 ++ bs.flatMap (inBox l))
  | [], s, _ => ⟨s.1, by rw [List.flatMap_nil, List.flatMap_nil, List.append_nil]; rfl⟩
  | b :: bs, s, h => by
    rw [List.flatMap_cons, List.flatMap_cons, readGo_append]
    have hb := h b (by simp)
    have h1 : ∃ b', readGo R (boxLs l b) s = some (b', s.2 ++ inBox l b) := by
      unfold boxLs
      split
      · rename_i e
        exact ⟨s.1, by rw [e, List.append_nil]; rfl⟩
      · refine ⟨b, ?_⟩
        show (match readLine R s (joinSp (headW b)) with | none => none | some s' => readGo R ((inBox l b).map fun x => joinSp (itemW x)) s') = _
        rw [readLine_head hR s hb.1 hb.2]
        dsimp only
        rw [readGo_items hR (inBox l b) _ (fun x hx => ?_)]
        unfold inBox at hx
        obtain ⟨hx1, hx2⟩ := List.mem_filter.1 hx
        exact ⟨hl x hx1, by simpa using hx2⟩
    obtain ⟨b', e⟩ := h1
    rw [e]
    obtain ⟨b2, e2⟩ := readGo_boxes hR hl bs (b', s.2 ++ inBox l b) (fun c hc => h c (by simp [hc]))
    exact ⟨b2, by show readGo R _ _ = _; rw [e2, List.append_assoc]⟩
theorem boxesN_in : ∀ b ∈ boxesN, 1 ≤ b ∧ b ≤ 999 := fun b hb => by
  unfold boxesN at hb
  obtain ⟨i, hi, rfl⟩ := List.mem_map.1 hb
  have := List.mem_range.1 hi
  omega
theorem mem_boxesN {b : Nat} (h1 : 1 ≤ b) (h2 : b ≤ 999) : b ∈ boxesN := by
  unfold boxesN
  exact List.mem_map.2 ⟨b - 1, List.mem_range.2 (by omega), by omega⟩
theorem shelf_nl (l : List It) : ∀ k ∈ shelfLs l, NoNl k := fun k hk => by
  unfold shelfLs at hk
  obtain ⟨b, _, hk⟩ := List.mem_flatMap.1 hk
  unfold boxLs at hk
  split at hk
  · cases hk
  · rcases List.mem_cons.1 hk with rfl | hk
    · exact joinSp_nl (headW_sp b)
    · obtain ⟨x, _, rfl⟩ := List.mem_map.1 hk
      exact joinSp_nl (itemW_sp x)
theorem read_shelf {R : ReadW} (hR : ReadOk R) {l : List It} (hl : ∀ x ∈ l, ItOk x) : ∃ b, readGo R (rowsL (shelfT l)) (0, []) = some (b, byBox l) := by
  unfold shelfT
  rw [rows_of (shelf_nl l)]
  obtain ⟨b, e⟩ := readGo_boxes hR hl boxesN (0, []) boxesN_in
  refine ⟨b, ?_⟩
  unfold shelfLs byBox
  rw [e, List.nil_append]
theorem byBox_perm {l : List It} (hl : ∀ x ∈ l, ItOk x) (h : (l.map It.num).Nodup) : (byBox l).Perm l := by
  have hmem : ∀ x, x ∈ byBox l ↔ x ∈ l := fun x => by
    unfold byBox
    rw [List.mem_flatMap]
    constructor
    · rintro ⟨b, _, hx⟩
      exact (List.mem_filter.1 hx).1
    · intro hx
      have hb := (hl x hx).box
      exact ⟨x.box.toNat, mem_boxesN (by omega) (by omega), List.mem_filter.2 ⟨hx, by simp; omega⟩⟩
  have hn : l.Nodup := by
    rw [List.Nodup, List.pairwise_map] at h
    exact h.imp fun k e => k (by rw [e])
  have hb : (byBox l).Nodup := by
    unfold byBox
    rw [List.Nodup, List.pairwise_flatMap]
    refine ⟨fun b _ => (hn.sublist List.filter_sublist), ?_⟩
    unfold boxesN
    rw [List.pairwise_map]
    refine List.nodup_range.imp fun {i j} hij x hx y hy e => ?_
    have h1 := (List.mem_filter.1 hx).2
    have h2 := (List.mem_filter.1 hy).2
    rw [e] at h1
    simp at h1 h2
    omega
  exact (List.perm_ext_iff_of_nodup hb hn).2 hmem
/-- what is written is read again -/
theorem told_byBox {l : List It} (h : ListOk l) : toldL (byBox l) = l := by
  have hn : (l.map It.num).Nodup := by
    rw [List.Nodup, List.pairwise_map]
    exact h.rise.imp fun k e => by omega
  have hp := byBox_perm h.ok hn
  refine rise_uniq (told_rise ((hp.map _).nodup_iff.2 hn)) h.rise (fun x => ?_)
  rw [(told_perm _).mem_iff, hp.mem_iff]
/-- what ReadList answers: what was read, by rising numbers, if it is written just so -/
def readV (R : ReadW) (t : List UInt8) : List It × Int :=
  match readGo R (rowsL t) (0, []) with
  | none => ([], 8)
  | some s => if itemsErr (toldL s.2) = 0 ∧ shelfT (toldL s.2) = t then (toldL s.2, 0) else ([], 8)
theorem readV_list {R : ReadW} (hR : ReadOk R) {l : List It} (h : itemsErr l = 0) : readV R (shelfT l) = (l, 0) := by
  have h' := itemsErr_iff.1 h
  obtain ⟨b, e⟩ := read_shelf hR h'.ok
  unfold readV
  rw [e]
  dsimp only
  rw [told_byBox h', if_pos ⟨h, rfl⟩]
theorem readV_ok {R : ReadW} {t : List UInt8} {l : List It} (h : readV R t = (l, 0)) : itemsErr l = 0 ∧ shelfT l = t := by
  unfold readV at h
  split at h
  · injection h with _ h; cases h
  · split at h
    · rename_i hc
      injection h with h _
      rw [← h]; exact hc
    · injection h with _ h; cases h
theorem readV_cases (R : ReadW) (t : List UInt8) : readV R t = ([], 8) ∨ ∃ l, readV R t = (l, 0) := by
  unfold readV
  split
  · exact .inl rfl
  · split
    · exact .inr ⟨_, rfl⟩
    · exact .inl rfl
end Prot
namespace Prot
open Go.Lib
/-- the program's way of reading a line of a shelf list -/
def waysP : ReadW where
  num := numP
  mark := fun m => some (cmV m).1
  head := fun v => if numP v ≤ 999 then some (max 0 (numP v)) else none
  item := fun _ _ _ _ _ e => some (decide (e = [49]))
/-- the definition's -/
def waysR : ReadW where
  num := numI
  mark := fun m => if (cmV m).2 = 0 then some (cmV m).1 else none
  head := fun v => (numR v).map fun n : Nat => (n : Int)
  item := fun _ a b c d e => if a < 0 ∨ b < 0 ∨ c < 0 ∨ d < 0 ∨ numI e < 0 then none else some (decide (numI e = 1))
theorem numP_dec {n : Nat} (h : n ≤ maxN) : numP (decDigits n) = n := numP_iff.2 ⟨rfl, by have : maxN = 1099511627776 := rfl; omega⟩
theorem waysP_ok : ReadOk waysP where
  num := fun _ h => numP_dec h
  mark := fun n h1 h2 => by show some (cmV (markL n)).1 = _; rw [cmV_mark h1 h2]
  head := fun b h1 h2 => by
    have hb : numP (decDigits b) = b := numP_dec (by have : maxN = 1099511627776 := rfl; omega)
    show (if numP (decDigits b) ≤ 999 then some (max 0 (numP (decDigits b))) else none) = _
    rw [hb, if_pos (by omega), Int.max_eq_right (by omega)]
  item := fun n a b c d k => by cases k <;> rfl
/-- what ReadList answers -/
def readA (t : List UInt8) : List It × Int := if 65536 < t.length then ([], 7) else readV waysP t
theorem dec_len13 {n : Nat} (h : n ≤ maxN) : (decDigits n).length ≤ 13 := by
  have e13 : (10 : Nat) ^ (12 + 1) = 10000000000000 := by decide
  have hm : maxN = 1099511627776 := rfl
  exact dec_len_le (k := 12) (by rw [e13]; omega)
theorem dec_len6 {n : Nat} (h : n ≤ 100000) : (decDigits n).length ≤ 6 := by
  have e6 : (10 : Nat) ^ (5 + 1) = 1000000 := by decide
  exact dec_len_le (k := 5) (by rw [e6]; omega)
theorem dec_len3 {n : Nat} (h : n ≤ 999) : (decDigits n).length ≤ 3 := by
  have e3 : (10 : Nat) ^ (2 + 1) = 1000 := by decide
  exact dec_len_le (k := 2) (by rw [e3]; omega)
theorem item_len {x : It} (h : ItOk x) : (joinSp (itemW x)).length ≤ 50 := by
  have hm : (maxN : Int) = 1099511627776 := rfl
  have h1 := h.num; have h2 := h.day; have h3 := h.voice; have h4 := h.turns; have h5 := h.src
  have e1 : (markL x.num.toNat).length ≤ 15 := by
    unfold markL
    rw [List.length_append, chkL_len]
    have := dec_len13 (n := x.num.toNat) (by omega)
    omega
  have e2 := dec_len6 (n := x.day.toNat) (by omega)
  have e3 := dec_len3 (n := x.voice.toNat) (by omega)
  have e4 := dec_len3 (n := x.turns.toNat) (by omega)
  have e5 := dec_len13 (n := x.src.toNat) (by omega)
  have e6 : (bitL x.cracked).length = 1 := by cases x.cracked <;> rfl
  have e : joinSp (itemW x) = markL x.num.toNat ++ 32 :: (decDigits x.day.toNat ++ 32 :: (decDigits x.voice.toNat ++ 32 :: (decDigits x.turns.toNat ++ 32 :: (decDigits x.src.toNat ++ 32 :: bitL x.cracked)))) := rfl
  rw [e]
  simp only [List.length_append, List.length_cons]
  omega
theorem head_len {b : Nat} (h : b ≤ 999) : (joinSp (headW b)).length ≤ 7 := by
  have e3 := dec_len3 h
  have e : joinSp (headW b) = boxWord ++ 32 :: decDigits b := rfl
  rw [e]
  simp only [List.length_append, List.length_cons]
  show 3 + _ ≤ _
  omega
theorem textL_append (a b : List (List UInt8)) : textL (a ++ b) = textL a ++ textL b := by unfold textL; rw [List.flatMap_append]
theorem textL_cons (l : List UInt8) (ls : List (List UInt8)) : textL (l :: ls) = l ++ 10 :: textL ls := by unfold textL; simp
theorem items_len : ∀ {xs : List It}, (∀ x ∈ xs, ItOk x) → (textL (xs.map fun x => joinSp (itemW x))).length ≤ 51 * xs.length
  | [], _ => Nat.le_refl _
  | x :: xs, h => by
    rw [List.map_cons, textL_cons, List.length_append, List.length_cons, List.length_cons]
    have h1 := item_len (h x (by simp))
    have h2 := items_len (xs := xs) (fun y hy => h y (by simp [hy]))
    omega
theorem boxes_len {l : List It} (hl : ∀ x ∈ l, ItOk x) : ∀ bs : List Nat, (∀ b ∈ bs, b ≤ 999) → (textL (bs.flatMap (boxLs l))).length ≤ 59 * (bs.flatMap (inBox l)).length
  | [], _ => Nat.le_refl _
  | b :: bs, h => by
    rw [List.flatMap_cons, List.flatMap_cons, textL_append, List.length_append, List.length_append]
    have ih := boxes_len hl bs (fun c hc => h c (by simp [hc]))
    have h1 : (textL (boxLs l b)).length ≤ 59 * (inBox l b).length := by
      unfold boxLs
      split
      · exact Nat.zero_le _
      · rename_i hne
        rw [textL_cons, List.length_append, List.length_cons]
        have h2 := head_len (h b (by simp))
        have h3 := items_len (xs := inBox l b) (fun x hx => hl x (List.mem_filter.1 hx).1)
        have h4 : (inBox l b).length ≠ 0 := fun e => hne (List.eq_nil_of_length_eq_zero e)
        omega
    omega
theorem shelf_len {l : List It} (h : itemsErr l = 0) : (shelfT l).length ≤ 4800 := by
  have h' := itemsErr_iff.1 h
  have hn : (l.map It.num).Nodup := by
    rw [List.Nodup, List.pairwise_map]
    exact h'.rise.imp fun k e => by omega
  have e1 := boxes_len h'.ok boxesN (fun b hb => (boxesN_in b hb).2)
  have e2 := (byBox_perm h'.ok hn).length_eq
  have e3 := h'.few
  have e4 : (textL (boxesN.flatMap (boxLs l))).length ≤ 59 * (byBox l).length := e1
  show (textL (boxesN.flatMap (boxLs l))).length ≤ 4800
  omega
def writeGo : List It → Int → List UInt8 → List UInt8
  | [], _, o => o
  | x :: xs, b, o => if x.box ≠ b then writeGo xs x.box (o ++ (joinSp (headW x.box.toNat) ++ [10]) ++ (joinSp (itemW x) ++ [10])) else writeGo xs b (o ++ (joinSp (itemW x) ++ [10]))
theorem writeGo_same : ∀ (xs ys : List It) (b : Int) (o : List UInt8), (∀ x ∈ xs, x.box = b) → writeGo (xs ++ ys) b o = writeGo ys b (o ++ textL (xs.map fun x => joinSp (itemW x)))
  | [], ys, b, o, _ => by rw [List.map_nil, show textL [] = [] from rfl, List.append_nil]; rfl
  | x :: xs, ys, b, o, h => by
    show (if x.box ≠ b then _ else writeGo (xs ++ ys) b (o ++ (joinSp (itemW x) ++ [10]))) = _
    rw [if_neg (by simpa using h x (by simp)), writeGo_same xs ys b _ (fun y hy => h y (by simp [hy])), List.map_cons, textL_cons]
    simp
theorem writeGo_boxes {l : List It} : ∀ (bs : List Nat) (b : Int) (o : List UInt8), bs.Pairwise (· < ·) → (∀ c ∈ bs, b < (c : Int)) → ∃ b', ∀ ys, writeGo (bs.flatMap (inBox l) ++ ys) b o = writeGo ys b' (o ++ textL (bs.flatMap (boxLs l))) ∧ (b' = b ∨ ∃ c ∈ bs, b' = (c : Int))
  | [], b, o, _, _ => ⟨b, fun ys => ⟨by rw [List.flatMap_nil, List.flatMap_nil, show textL [] = [] from rfl, List.append_nil]; rfl, .inl rfl⟩⟩
  | c :: bs, b, o, hp, hb => by
    obtain ⟨hp1, hp2⟩ := List.pairwise_cons.1 hp
    have hbox : ∀ x ∈ inBox l c, x.box = (c : Int) := fun x hx => by simpa using (List.mem_filter.1 hx).2
    by_cases hne : inBox l c = []
    · obtain ⟨b', h⟩ := writeGo_boxes (l := l) bs b o hp2 (fun d hd => hb d (by simp [hd]))
      refine ⟨b', fun ys => ?_⟩
      obtain ⟨h1, h2⟩ := h ys
      have e : boxLs l c = [] := by unfold boxLs; rw [if_pos hne]
      rw [List.flatMap_cons, List.flatMap_cons, hne, e, List.nil_append, List.nil_append, h1]
      exact ⟨rfl, h2.imp id fun ⟨d, hd, k⟩ => ⟨d, by simp [hd], k⟩⟩
    · obtain ⟨b', h⟩ := writeGo_boxes (l := l) bs (c : Int) (o ++ textL (boxLs l c)) hp2 (fun d hd => by have := hp1 d hd; omega)
      refine ⟨b', fun ys => ?_⟩
      obtain ⟨h1, h2⟩ := h ys
      refine ⟨?_, .inr ?_⟩
      · rw [List.flatMap_cons, List.flatMap_cons, textL_append, ← List.append_assoc, ← h1]
        have e : boxLs l c = joinSp (headW c) :: (inBox l c).map fun x => joinSp (itemW x) := by unfold boxLs; rw [if_neg hne]
        rw [e, textL_cons]
        cases hi : inBox l c with
        | nil => exact absurd hi hne
        | cons x xs =>
          rw [hi] at hbox
          have hx := hbox x (by simp)
          have hbc := hb c (by simp)
          rw [List.append_assoc]
          show (if x.box ≠ b then writeGo (xs ++ (bs.flatMap (inBox l) ++ ys)) x.box (o ++ (joinSp (headW x.box.toNat) ++ [10]) ++ (joinSp (itemW x) ++ [10])) else _) = _
          rw [if_pos (by omega), hx, writeGo_same xs _ (c : Int) _ (fun y hy => hbox y (by simp [hy])), Int.toNat_natCast, List.map_cons, textL_cons]
          simp
      · rcases h2 with k | ⟨d, hd, k⟩
        · exact ⟨c, by simp, k⟩
        · exact ⟨d, by simp [hd], k⟩
theorem boxesN_rise : boxesN.Pairwise (· < ·) := by
  unfold boxesN
  rw [List.pairwise_map]
  exact List.pairwise_lt_range.imp fun h => by omega
/-- the program's way of writing -/
theorem write_shelf (l : List It) : writeGo (byBox l) 0 [] = shelfT l := by
  obtain ⟨b', h⟩ := writeGo_boxes (l := l) boxesN 0 [] boxesN_rise (fun c hc => by have := boxesN_in c hc; omega)
  have h1 := (h []).1
  rw [List.append_nil, List.nil_append] at h1
  exact h1
end Prot
