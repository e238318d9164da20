/- ProtocolMarked is true for every input: a mark that is changed in one digit, or of which two digits beside each other are exchanged, is not accepted. The package variables of the library are tied to the program's text by the given tie. -/
import Derived.Test.YtkpmmgeffbhngaaGreatDoorC11
import Derived.Test.YtkpmmgeffbhngaaGreatDoorC43
import Derived.Test.YtkpmmgeffbhngaaGreatDoorC44
import Derived.Test.YtkpmmgeffbhngaaGreatDoorC45
import Derived.Deep.RegionHeld
import Derived.Test.YtkpmmgeffbhngaaGreatDoorCards
import Derived.Test.YtkpmmgeffbhngaaGreatDoorTie
set_option linter.unusedSimpArgs false
set_option linter.unusedVariables false
set_option linter.unnecessarySimpa false
namespace Prot
end Prot
namespace Go.Shelf
end Go.Shelf
namespace Go.Maps
end Go.Maps
namespace Prot
open Go.Lib
theorem chk_one {n : Nat} (_h : 1 ≤ n) : (n * 100 + chk n) % 97 = 1 := by unfold chk; omega
theorem chkL_val (n : Nat) : val (chkL n) = chk n := by
  have := chk_lt n
  unfold chkL
  rw [decDigits_small (n := chk n % 10) (by omega), val_snoc, dec_val, (isD_ofNat (by omega)).2]; omega
theorem mark_take {l : List UInt8} {n : Nat} (_h3 : 3 ≤ l.length) (h : l.take (l.length - 2) = decDigits n) : markL n = l ↔ chkL n = l.drop (l.length - 2) := by
  have e := List.take_append_drop (l.length - 2) l
  unfold markL
  rw [← h]
  constructor
  · intro k
    exact List.append_cancel_left (k.trans e.symm)
  · intro k
    rw [k, e]
/-- what is accepted -/
theorem cmV_ok {l : List UInt8} {n : Int} (h : cmV l = (n, 0)) : ∃ m : Nat, n = m ∧ 1 ≤ m ∧ m ≤ maxN ∧ l = markL m := by
  unfold cmV at h
  split at h
  · injection h with _ h; cases h
  · rename_i h3
    split at h
    · injection h with _ h; cases h
    · rename_i m hm
      split at h
      · injection h with _ h; cases h
      · rename_i hc
        split at h
        · injection h with _ h; cases h
        · rename_i he
          injection h with h _
          have he' : chkL m = l.drop (l.length - 2) := Classical.byContradiction he
          exact ⟨m, h.symm, by omega, by omega, ((mark_take (by omega) (numR_iff.1 hm).1).2 he').symm⟩
/-- as one number: one more than a multiple of 97 -/
theorem valA_append (a : Nat) : ∀ (l k : List UInt8), valA a (l ++ k) = valA (valA a l) k := fun l => by
  induction l generalizing a with
  | nil => intro k; rfl
  | cons c l ih => intro k; exact ih _ k
theorem valA_split (a : Nat) (l : List UInt8) : valA a l = a * 10 ^ l.length + val l := by
  induction l using snoc_ind generalizing a with
  | h0 => rw [List.length_nil, Nat.pow_zero, Nat.mul_one]; rfl
  | h1 l c ih =>
    rw [valA_snoc, val_snoc, ih, List.length_append]
    show _ = a * 10 ^ (l.length + 1) + _
    rw [Nat.pow_succ, ← Nat.mul_assoc]
    generalize a * 10 ^ l.length = x
    omega
theorem mark_one {n : Nat} (h : 1 ≤ n) : val (markL n) % 97 = 1 := by
  have e : val (markL n) = n * 100 + chk n := by
    unfold markL val
    rw [valA_append, valA_split _ (chkL n), chkL_len, chkL_val]
    show valA 0 (decDigits n) * 10 ^ 2 + _ = _
    rw [show valA 0 (decDigits n) = n from dec_val n]
  rw [e]
  exact chk_one h
theorem ten_unit {d : Nat} : ∀ k : Nat, (d * 10 ^ k) % 97 = 0 → d % 97 = 0
  | 0, h => by simpa using h
  | k + 1, h => ten_unit k (by
      rw [Nat.pow_succ, ← Nat.mul_assoc] at h
      generalize d * 10 ^ k = x at h
      omega)
/-- one digit another one: no mark -/
theorem digit_other {p q : List UInt8} {a b : UInt8} (ha : isD a = true) (hb : isD b = true) (hne : a ≠ b) (h : val (p ++ [a] ++ q) % 97 = 1) : val (p ++ [b] ++ q) % 97 ≠ 1 := fun k => by
  have e : ∀ c : UInt8, val (p ++ [c] ++ q) = (val p * 10 + (c.toNat - 48)) * 10 ^ q.length + val q := fun c => by
    unfold val
    rw [valA_append, valA_split _ q]
    rw [show valA 0 (p ++ [c]) = val p * 10 + (c.toNat - 48) from val_snoc p c]
    rfl
  rw [e] at h k
  have h1 := isD_iff.1 ha
  have h2 := isD_iff.1 hb
  have hne2 : a.toNat ≠ b.toNat := fun e => hne (UInt8.toNat_inj.1 e)
  rcases Nat.lt_or_gt_of_ne hne2 with hlt | hlt
  · have := ten_unit (d := b.toNat - a.toNat) q.length (by
      rw [show val p * 10 + (b.toNat - 48) = (val p * 10 + (a.toNat - 48)) + (b.toNat - a.toNat) by omega, Nat.add_mul] at k
      generalize (val p * 10 + (a.toNat - 48)) * 10 ^ q.length = x at h k
      generalize (b.toNat - a.toNat) * 10 ^ q.length = y at k ⊢
      omega)
    omega
  · have := ten_unit (d := a.toNat - b.toNat) q.length (by
      rw [show val p * 10 + (a.toNat - 48) = (val p * 10 + (b.toNat - 48)) + (a.toNat - b.toNat) by omega, Nat.add_mul] at h
      generalize (val p * 10 + (b.toNat - 48)) * 10 ^ q.length = x at h k
      generalize (a.toNat - b.toNat) * 10 ^ q.length = y at h ⊢
      omega)
    omega
/-- two digits exchanged: no mark -/
theorem digits_swap {p q : List UInt8} {a b : UInt8} (ha : isD a = true) (hb : isD b = true) (hne : a ≠ b) (h : val (p ++ [a, b] ++ q) % 97 = 1) : val (p ++ [b, a] ++ q) % 97 ≠ 1 := fun k => by
  have e : ∀ c d : UInt8, val (p ++ [c, d] ++ q) = ((val p * 10 + (c.toNat - 48)) * 10 + (d.toNat - 48)) * 10 ^ q.length + val q := fun c d => by
    unfold val
    rw [valA_append, valA_split _ q]
    rw [show p ++ [c, d] = (p ++ [c]) ++ [d] by simp, show valA 0 ((p ++ [c]) ++ [d]) = val (p ++ [c]) * 10 + (d.toNat - 48) from val_snoc _ d, val_snoc]
    rfl
  rw [e] at h k
  have h1 := isD_iff.1 ha
  have h2 := isD_iff.1 hb
  have hne2 : a.toNat ≠ b.toNat := fun e => hne (UInt8.toNat_inj.1 e)
  rcases Nat.lt_or_gt_of_ne hne2 with hlt | hlt
  · have := ten_unit (d := 9 * (b.toNat - a.toNat)) q.length (by
      rw [show (val p * 10 + (b.toNat - 48)) * 10 + (a.toNat - 48) = ((val p * 10 + (a.toNat - 48)) * 10 + (b.toNat - 48)) + 9 * (b.toNat - a.toNat) by omega, Nat.add_mul] at k
      generalize ((val p * 10 + (a.toNat - 48)) * 10 + (b.toNat - 48)) * 10 ^ q.length = x at h k
      generalize 9 * (b.toNat - a.toNat) * 10 ^ q.length = y at k ⊢
      omega)
    omega
  · have := ten_unit (d := 9 * (a.toNat - b.toNat)) q.length (by
      rw [show (val p * 10 + (a.toNat - 48)) * 10 + (b.toNat - 48) = ((val p * 10 + (b.toNat - 48)) * 10 + (a.toNat - 48)) + 9 * (a.toNat - b.toNat) by omega, Nat.add_mul] at h
      generalize ((val p * 10 + (b.toNat - 48)) * 10 + (a.toNat - 48)) * 10 ^ q.length = x at h k
      generalize 9 * (a.toNat - b.toNat) * 10 ^ q.length = y at h ⊢
      omega)
    omega
/-- a text that is no number of the form is not accepted -/
theorem cmV_not {l : List UInt8} (h : val l % 97 ≠ 1) : (cmV l).2 ≠ 0 := fun k => by
  obtain ⟨m, _, h1, _, e⟩ := cmV_ok (l := l) (n := (cmV l).1) (by rw [← k])
  subst e
  exact h (mark_one h1)
theorem cmV_err (l : List UInt8) : (cmV l).2 = 0 ∨ (cmV l).2 = 8 ∨ (cmV l).2 = 14 := by
  unfold cmV
  split
  · exact .inr (.inl rfl)
  · split
    · exact .inr (.inl rfl)
    · split
      · exact .inr (.inl rfl)
      · split
        · exact .inr (.inr rfl)
        · exact .inl rfl
end Prot
namespace Prot
open Go.Lib
theorem mark_all (n : Nat) : ∀ c ∈ markL n, isD c = true := fun c hc => by
  unfold markL at hc
  rcases List.mem_append.1 hc with hc | hc
  · exact dec_all n c hc
  · exact chkL_all n c hc
theorem mark_len3 (n : Nat) : 3 ≤ (markL n).length := by
  unfold markL
  rw [List.length_append, chkL_len]
  have := dec_ne n
  have h : (decDigits n).length ≠ 0 := fun e => this (List.eq_nil_of_length_eq_zero e)
  omega
theorem mark_len16 {n : Nat} (h : n ≤ maxN) : (markL n).length ≤ 15 := by
  unfold markL
  rw [List.length_append, chkL_len]
  have := dec_len13 h
  omega
theorem split_one {l : List UInt8} {i : Nat} (h : i < l.length) : l.take i ++ [l[i]] ++ l.drop (i + 1) = l := by
  rw [List.append_assoc, List.singleton_append, List.getElem_cons_drop, List.take_append_drop]
theorem split_two {l : List UInt8} {i : Nat} (h : i + 1 < l.length) : l.take i ++ [l[i], l[i + 1]] ++ l.drop (i + 2) = l := by
  have e : [l[i], l[i + 1]] ++ l.drop (i + 2) = l.drop i := by
    rw [List.drop_eq_getElem_cons (by omega : i < l.length), List.drop_eq_getElem_cons h]; rfl
  rw [List.append_assoc, e, List.take_append_drop]
theorem marked_other {n : Nat} (h1 : 1 ≤ n) {i : Nat} (hi : i < (markL n).length) {d : UInt8} (hd : isD d = true) (hne : (markL n)[i] ≠ d) : (cmV ((markL n).take i ++ [d] ++ (markL n).drop (i + 1))).2 ≠ 0 := by
  refine cmV_not (digit_other (a := (markL n)[i]) (mark_all n _ (List.getElem_mem hi)) hd hne ?_)
  rw [split_one hi]
  exact mark_one h1
theorem marked_swap {n : Nat} (h1 : 1 ≤ n) {i : Nat} (hi : i + 1 < (markL n).length) (hne : (markL n)[i] ≠ (markL n)[i + 1]) : (cmV ((markL n).take i ++ [(markL n)[i + 1], (markL n)[i]] ++ (markL n).drop (i + 2))).2 ≠ 0 := by
  refine cmV_not (digits_swap (a := (markL n)[i]) (b := (markL n)[i + 1]) (mark_all n _ (List.getElem_mem _)) (mark_all n _ (List.getElem_mem _)) hne ?_)
  rw [split_two hi]
  exact mark_one h1
theorem cm_two (l : List UInt8) (h : (cmV l).2 ≠ 0) : (cmV l).2 = 8 ∨ (cmV l).2 = 14 := (cmV_err l).resolve_left h
end Prot
namespace Go.Proofs.YtkpmmgeffbhngaaGreatDoor
open Go.RowKit Go.Shelf Prot Go.Lib Go.Maps
theorem mark_fits (n : Nat) (h1 : 1 ≤ n) (h2 : n ≤ 1099511627776) : markT (n : Int) = .tuple #[.string (bs (markL n)), .int .i64 0] := by
  unfold markT
  rw [if_pos ⟨by omega, by omega⟩]; rfl
theorem mark_pack (n : Nat) (hn1 : 1 ≤ n) (hn2 : n ≤ 1099511627776) : ∃ M : List UInt8,
    (∀ W, Tab W → Calls Tryz.prog 16 #[.int .i64 (n : Int)] W (Ret fun v w' => v = .tuple #[.string (bs M), .int .i64 0] ∧ Below W.heap.size W w')) ∧
    (∀ W, Tab W → Calls Tryz.prog 18 #[.string (bs M)] W (Ret fun v w' => v = .tuple #[.int .i64 (n : Int), .int .i64 0] ∧ Below W.heap.size W w')) ∧
    3 ≤ M.length ∧ M.length ≤ 15 ∧ (∀ c ∈ M, isD c = true) ∧
    (∀ {i : Nat} (hi : i < M.length) {d : UInt8}, isD d = true → M[i] ≠ d → (cmV (M.take i ++ [d] ++ M.drop (i + 1))).2 ≠ 0) ∧
    (∀ {i : Nat} (hi : i + 1 < M.length), M[i] ≠ M[i + 1] → (cmV (M.take i ++ [M[i + 1], M[i]] ++ M.drop (i + 2))).2 ≠ 0) := by
  refine ⟨markL n, fun W hW => ?_, fun W hW => ?_, mark_len3 n, mark_len16 hn2, mark_all n, fun hi => marked_other hn1 hi, fun hi => marked_swap hn1 hi⟩
  · have := Mark_any (n : Int) W hW
    rw [mark_fits n hn1 hn2] at this
    exact this
  · have := CheckMark_any (markL n) W hW (by have := mark_len16 (n := n) hn2; omega)
    rw [cmT_of (cmV_mark hn1 hn2)] at this
    exact this
theorem byte_at (M : List UInt8) {i : Nat} (h : i < M.length) : ((bs M)[i]'(by rw [bs_size]; exact h)) = M[i] := rfl
theorem encode_byte (y : Nat) (h : y < 128) : Utf8.encode (y : Int) = bs [UInt8.ofNat y] := by
  unfold Utf8.encode
  have hv : Utf8.valid (y : Int) = true := by unfold Utf8.valid; simp; omega
  simp only [hv, if_true]
  rw [if_pos (by omega)]
  rfl
set_option maxRecDepth 100000 in
set_option maxHeartbeats 1200000 in
theorem protocolMarked_any (N m b : Nat) (w : World) (hT : Tab w) (hm : m ≤ 255) (hb8 : b ≤ 255) (hN : (N : Int) ≤ 18446744073709551615) : Calls Tryz.prog 10 #[.int .u64 (N : Int), .int .u8 (m : Int), .int .u8 (b : Int)] w (Ret fun v w' => v = .bool true ∧ Below w.heap.size w w') := by
  have HB0 := Lib.hid (Below.refl w.heap.size w)
  have HT := Lib.hid hT
  clear hT
  obtain ⟨p, hp⟩ : ∃ p : Nat, p = N % 1099511627776 := ⟨_, rfl⟩
  have hp9 : p < 1099511627776 := by rw [hp]; exact Nat.mod_lt _ (by omega)
  have a1 : (N : Int) % 1099511627776 = (p : Int) := by omega
  have a2 : (N : Int).tmod 1099511627776 = (p : Int) := by rw [Int.tmod_eq_emod_of_nonneg (by omega)]; exact a1
  have a3 : IntKind.u64.wrap (p : Int) = (p : Int) := IntWalk.u64_in _ (by omega)
  have a4 : IntKind.i64.wrap (p : Int) = (p : Int) := IntWalk.i64_in _ (by omega)
  obtain ⟨n, hn⟩ : ∃ n : Nat, n = p + 1 := ⟨_, rfl⟩
  have a5 : IntKind.i64.wrap (1 + (p : Int)) = (n : Int) := by rw [IntWalk.i64_in _ (by omega)]; omega
  have hn1 : 1 ≤ n := by omega
  have hn2 : n ≤ 1099511627776 := by omega
  obtain ⟨M, hMk, hCk, hL3, hL15, hAll, hO, hSw⟩ := mark_pack n hn1 hn2
  have HMk := Lib.hid hMk
  have HCk := Lib.hid hCk
  clear hMk hCk
  obtain ⟨L, hL⟩ : ∃ L : Nat, L = M.length := ⟨_, rfl⟩
  obtain ⟨i, hi⟩ : ∃ i : Nat, i = m % L := ⟨_, rfl⟩
  have hiL : i < M.length := by rw [hi, hL]; exact Nat.mod_lt _ (by omega)
  have b1 : IntKind.i64.wrap (m : Int) = (m : Int) := IntWalk.i64_in _ (by omega)
  have b2 : (m : Int) % ((bs M).size : Int) = (i : Int) := by rw [bs_size, ← hL, hi]; simp
  have b3 : (m : Int).tmod ((bs M).size : Int) = (i : Int) := by rw [Int.tmod_eq_emod_of_nonneg (by omega)]; exact b2
  have b4 : IntKind.i64.wrap (i : Int) = (i : Int) := IntWalk.i64_in _ (by omega)
  have b5 : ¬ ((bs M).size : Int) = 0 := by rw [bs_size]; omega
  have b6 : ¬ (bs M).size = 0 := by rw [bs_size]; omega
  have b7 : decide (((bs M).size : Int) < 3) = false := decide_eq_false (by rw [bs_size]; omega)
  have i0 : (0 : Int) ≤ (i : Int) := by omega
  have i1 : (i : Int) < ((bs M).size : Int) := by rw [bs_size]; omega
  have i2 : i < (bs M).size := by rw [bs_size]; exact hiL
  have hd := hAll M[i] (List.getElem_mem hiL)
  obtain ⟨xb, hxb⟩ : ∃ xb : Nat, M[i].toNat = xb := ⟨_, rfl⟩
  have c0 : ((bs M)[i]'i2).toNat = xb := by rw [byte_at M hiL]; exact hxb
  obtain ⟨hx1, hx2⟩ := isD_iff.1 hd
  rw [hxb] at hx1 hx2
  have c1 : decide ((xb : Int) < 48) = false := decide_eq_false (by omega)
  have c2 : decide ((xb : Int) > 57) = false := decide_eq_false (by omega)
  have c3 : decide ((57 : Int) < (xb : Int)) = false := decide_eq_false (by omega)
  obtain ⟨x0, hx0⟩ : ∃ x0 : Nat, xb = x0 + 48 := ⟨xb - 48, by omega⟩
  have c4 : IntKind.u8.wrap ((xb : Int) - 48) = (x0 : Int) := by rw [show (xb : Int) - 48 = (x0 : Int) by omega]; exact IntWalk.u8_in _ (by omega)
  have c5 : IntKind.u8.wrap ((x0 : Int) + 1) = (x0 : Int) + 1 := IntWalk.u8_in _ (by omega)
  obtain ⟨r, hr⟩ : ∃ r : Nat, r = b % 9 := ⟨_, rfl⟩
  have c6 : (b : Int) % 9 = (r : Int) := by omega
  have c7 : (b : Int).tmod 9 = (r : Int) := by rw [Int.tmod_eq_emod_of_nonneg (by omega)]; exact c6
  have c8 : IntKind.u8.wrap (r : Int) = (r : Int) := IntWalk.u8_in _ (by omega)
  have c9 : IntKind.u8.wrap ((x0 : Int) + 1 + (r : Int)) = (x0 : Int) + 1 + (r : Int) := IntWalk.u8_in _ (by omega)
  obtain ⟨y, hy⟩ : ∃ y : Nat, y = (x0 + 1 + r) % 10 := ⟨_, rfl⟩
  have e1 : ((x0 : Int) + 1 + (r : Int)) % 10 = (y : Int) := by omega
  have e2 : ((x0 : Int) + 1 + (r : Int)).tmod 10 = (y : Int) := by rw [Int.tmod_eq_emod_of_nonneg (by omega)]; exact e1
  have e3 : IntKind.u8.wrap (y : Int) = (y : Int) := IntWalk.u8_in _ (by omega)
  obtain ⟨g, hg⟩ : ∃ g : Nat, g = y + 48 := ⟨_, rfl⟩
  have e4 : IntKind.u8.wrap ((y : Int) + 48) = (g : Int) := by rw [IntWalk.u8_in _ (by omega)]; omega
  have e5 : IntKind.i32.wrap (g : Int) = (g : Int) := IntWalk.i32_in _ (by omega)
  have hgd : isD (UInt8.ofNat g) = true := isD_iff.2 (by rw [UInt8.toNat_ofNat']; omega)
  have hgx : M[i] ≠ UInt8.ofNat g := fun e => by
    have := congrArg UInt8.toNat e
    rw [hxb, UInt8.toNat_ofNat'] at this
    omega
  obtain ⟨t1, v1, hc1⟩ : ∃ t1 v1, cmV (M.take i ++ UInt8.ofNat g :: M.drop (i + 1)) = (t1, v1) := ⟨_, _, rfl⟩
  have hv1 := cm_two (M.take i ++ UInt8.ofNat g :: M.drop (i + 1)) (by have h := hO hiL hgd hgx; rw [List.append_assoc, List.singleton_append] at h; exact h)
  rw [hc1] at hv1
  dsimp only at hv1
  have HC1 : Hid (∀ W, Tab W → Calls Tryz.prog 18 #[.string (bs (M.take i ++ UInt8.ofNat g :: M.drop (i + 1)))] W (Ret fun v w' => v = .tuple #[.int .i64 t1, .int .i64 v1] ∧ Below W.heap.size W w')) := Lib.hid fun W hW => by
    have := CheckMark_any (M.take i ++ UInt8.ofNat g :: M.drop (i + 1)) W hW (by simp; omega)
    rw [cmT_of hc1] at this
    exact this
  have HE := Lib.hid (encode_byte g (by omega))
  have HX1 : Hid ((bs M).extract 0 i = bs (M.take i)) := Lib.hid (by rw [bs_extract]; simp)
  have HX2 : Hid ((bs M).extract (i + 1) (bs M).size = bs (M.drop (i + 1))) := Lib.hid (by rw [bs_extract, bs_size, List.take_of_length_le (by rw [List.length_drop]; omega)])
  have HV1 := Lib.hid hv1
  have HLn := Lib.hid (show 3 ≤ M.length ∧ M.length ≤ 15 from ⟨hL3, hL15⟩)
  have HiL := Lib.hid hiL
  have HSw := Lib.hid (@hSw i)
  have b8 : IntKind.i64.wrap ((i : Int) + 1) = (i : Int) + 1 := IntWalk.i64_in _ (by omega)
  clear hv1 hc1 hO hSw hgd hgx hg hy hr hx0 hx1 hx2 hd hxb hi hL hL3 hL15 hn1 hn2 hn hp hp9 hAll hm hb8 hN hiL
  go_enter Tryz.func10, Tryz.ntmps10
  have Hc := Lib.hid (HMk.out w HT.out)
  go_wp2_with fail
  refine Hc.out.mono ?_
  rintro e w1 ⟨v, rfl, rfl, hb⟩
  have HB1 := Lib.hid (below_trans' HB0.out hb)
  replace HT := Lib.hid (HT.out.below hb)
  clear hb Hc HB0
  have Hc := Lib.hid (HCk.out w1 HT.out)
  go_wp2_with fail
  refine Hc.out.mono ?_
  rintro e w2 ⟨v, rfl, rfl, hb⟩
  have HB2 := Lib.hid (below_trans' HB1.out hb)
  replace HT := Lib.hid (HT.out.below hb)
  clear hb Hc HB1
  go_upto_region 10 with fail
  refine wp_region_held_drew (S := fun _ => True) (by kernel_rfl) trivial (fun hS9 => ?_)
  have zT : Tab w2.drew := HT.out.below ((Below.refl w2.heap.size w2).drew)
  have zB := HB2.out.drew
  generalize w2.drew = V0 at *
  have x1 := HX1.out
  have x2 := HX2.out
  have x3 := HE.out
  have x4 : bs (M.take i) ++ bs [UInt8.ofNat g] = bs (M.take i ++ [UInt8.ofNat g]) := bs_append _ _
  have x5 : bs (M.take i ++ [UInt8.ofNat g]) ++ bs (M.drop (i + 1)) = bs (M.take i ++ [UInt8.ofNat g] ++ M.drop (i + 1)) := bs_append _ _
  have x6 : ¬ 9223372036854775807 < (bs (M.take i)).size + (bs [UInt8.ofNat g]).size := by rw [bs_size, bs_size]; have := HLn.out; simp; omega
  have x7 : ¬ 9223372036854775807 < (bs (M.take i ++ [UInt8.ofNat g])).size + (bs (M.drop (i + 1))).size := by rw [bs_size, bs_size]; have := HLn.out; simp; omega
  have x8 : (i : Int) ≤ ((bs M).size : Int) := by omega
  have x9 : (i : Int) + 1 ≤ ((bs M).size : Int) := by omega
  have x10 : (0 : Int) ≤ (i : Int) + 1 := by omega
  refine takeD (i := 0) (d := 70) (v := ?_) rfl rfl (by kernel_rfl) (by kernel_rfl) (by kernel_rfl) (fun _ _ _ h => h) (Or.inl ⟨by rfl, ?_⟩) trivial ?_
  rotate_left 1
  · intro W hW; obtain _ := hW; go_simp <;> with_reducible rfl
  simp only [List.setIfInBounds_toArray, List.set_cons_succ, List.set_cons_zero]
  refine takeD (i := 1) (d := 71) (v := ?_) rfl rfl (by kernel_rfl) (by kernel_rfl) (by kernel_rfl) (fun _ _ _ h => h) (Or.inl ⟨by rfl, ?_⟩) trivial ?_
  rotate_left 1
  · intro W hW; obtain _ := hW; go_simp <;> with_reducible rfl
  simp only [List.setIfInBounds_toArray, List.set_cons_succ, List.set_cons_zero]
  refine takeD (i := 2) (d := 72) (v := ?_) rfl rfl (by kernel_rfl) (by kernel_rfl) (by kernel_rfl) (fun _ _ _ h => h) (Or.inl ⟨by rfl, ?_⟩) trivial ?_
  rotate_left 1
  · intro W hW; obtain _ := hW; go_simp <;> with_reducible rfl
  simp only [List.setIfInBounds_toArray, List.set_cons_succ, List.set_cons_zero]
  refine takeD (i := 3) (d := 73) (v := ?_) rfl rfl (by kernel_rfl) (by kernel_rfl) (by kernel_rfl) (fun _ _ _ h => h) (Or.inl ⟨by rfl, ?_⟩) trivial ?_
  rotate_left 1
  · intro W hW; obtain _ := hW; go_simp <;> with_reducible rfl
  simp only [List.setIfInBounds_toArray, List.set_cons_succ, List.set_cons_zero]
  refine takeD (i := 4) (d := 74) (v := ?_) rfl rfl (by kernel_rfl) (by kernel_rfl) (by kernel_rfl) (fun _ _ _ h => h) (Or.inl ⟨by rfl, ?_⟩) trivial ?_
  rotate_left 1
  · intro W hW; obtain _ := hW; go_simp <;> with_reducible rfl
  simp only [List.setIfInBounds_toArray, List.set_cons_succ, List.set_cons_zero]
  refine takeD (i := 5) (d := 75) (v := ?_) rfl rfl (by kernel_rfl) (by kernel_rfl) (by kernel_rfl) (fun _ _ _ h => h) (Or.inl ⟨by rfl, ?_⟩) trivial ?_
  rotate_left 1
  · intro W hW; obtain _ := hW; go_simp <;> with_reducible rfl
  simp only [List.setIfInBounds_toArray, List.set_cons_succ, List.set_cons_zero]
  refine takeD (i := 6) (d := 76) (v := ?_) rfl rfl (by kernel_rfl) (by kernel_rfl) (by kernel_rfl) (fun _ _ _ h => h) (Or.inl ⟨by rfl, ?_⟩) trivial ?_
  rotate_left 1
  · intro W hW; obtain _ := hW; go_simp <;> with_reducible rfl
  simp only [List.setIfInBounds_toArray, List.set_cons_succ, List.set_cons_zero]
  refine takeD (i := 7) (d := 77) (v := ?_) rfl rfl (by kernel_rfl) (by kernel_rfl) (by kernel_rfl) (fun _ _ _ h => h) (Or.inl ⟨by rfl, ?_⟩) trivial ?_
  rotate_left 1
  · intro W hW; obtain _ := hW; go_simp <;> with_reducible rfl
  simp only [List.setIfInBounds_toArray, List.set_cons_succ, List.set_cons_zero]
  refine takeD (i := 8) (d := 78) (v := ?_) rfl rfl (by kernel_rfl) (by kernel_rfl) (by kernel_rfl) (fun _ _ _ h => h) (Or.inl ⟨by rfl, ?_⟩) trivial ?_
  rotate_left 1
  · intro W hW; obtain _ := hW; go_simp <;> with_reducible rfl
  simp only [List.setIfInBounds_toArray, List.set_cons_succ, List.set_cons_zero]
  refine takeD (i := 9) (d := 79) (v := ?_) rfl rfl (by kernel_rfl) (by kernel_rfl) (by kernel_rfl) (fun _ _ _ h => h) (Or.inl ⟨by rfl, ?_⟩) trivial ?_
  rotate_left 1
  · intro W hW; obtain _ := hW; go_simp <;> with_reducible rfl
  simp only [List.setIfInBounds_toArray, List.set_cons_succ, List.set_cons_zero]
  refine takeD (i := 10) (d := 80) (v := ?_) rfl rfl (by kernel_rfl) (by kernel_rfl) (by kernel_rfl) (fun _ _ _ h => h) (Or.inl ⟨by rfl, ?_⟩) trivial ?_
  rotate_left 1
  · intro W hW; obtain _ := hW; go_simp <;> with_reducible rfl
  simp only [List.setIfInBounds_toArray, List.set_cons_succ, List.set_cons_zero]
  refine takeD (i := 11) (d := 81) (v := ?_) rfl rfl (by kernel_rfl) (by kernel_rfl) (by kernel_rfl) (fun _ _ _ h => h) (Or.inl ⟨by rfl, ?_⟩) trivial ?_
  rotate_left 1
  · intro W hW; obtain _ := hW; go_simp <;> with_reducible rfl
  simp only [List.setIfInBounds_toArray, List.set_cons_succ, List.set_cons_zero]
  refine wpAnyH_ready (rs := [12]) (by kernel_rfl) (by simp) ?_
  refine AllReadyH.cons rfl (fun K hK => ?_) AllReadyH.nil
  go_simp
  refine (HC1.out V0 zT).mono ?_
  rintro _ V1 ⟨v, rfl, rfl, hB1⟩
  have HB3 := Lib.hid (below_trans' zB hB1)
  have zT1 := zT.below hB1
  clear zB hB1 zT HT HB2
  have HT := Lib.hid zT1
  clear zT1
  refine hK.out _ _ trivial (fun _ => ?_)
  clear hK K
  refine takeD (i := 13) (d := 69) (v := ?_) rfl rfl (by kernel_rfl) (by kernel_rfl) (by kernel_rfl) (fun _ _ _ h => h) (Or.inl ⟨by rfl, ?_⟩) trivial ?_
  rotate_left 1
  · intro W hW; obtain _ := hW; go_simp <;> with_reducible rfl
  simp only [List.setIfInBounds_toArray, List.set_cons_succ, List.set_cons_zero]
  refine takeD (i := 14) (d := 83) (v := ?_) rfl rfl (by kernel_rfl) (by kernel_rfl) (by kernel_rfl) (fun _ _ _ h => h) (Or.inl ⟨by rfl, ?_⟩) trivial ?_
  rotate_left 1
  · intro W hW; obtain _ := hW; go_simp <;> with_reducible rfl
  simp only [List.setIfInBounds_toArray, List.set_cons_succ, List.set_cons_zero]
  refine takeD (i := 15) (d := 84) (v := ?_) rfl rfl (by kernel_rfl) (by kernel_rfl) (by kernel_rfl) (fun _ _ _ h => h) (Or.inl ⟨by rfl, ?_⟩) trivial ?_
  rotate_left 1
  · intro W hW; obtain _ := hW; go_simp <;> with_reducible rfl
  simp only [List.setIfInBounds_toArray, List.set_cons_succ, List.set_cons_zero]
  refine takeD (i := 16) (d := 9) (v := ?_) rfl rfl (by kernel_rfl) (by kernel_rfl) (by kernel_rfl) (fun _ _ _ h => h) (Or.inl ⟨by rfl, ?_⟩) trivial ?_
  rotate_left 1
  · intro W hW; obtain _ := hW; go_simp <;> with_reducible rfl
  simp only [List.setIfInBounds_toArray, List.set_cons_succ, List.set_cons_zero]
  refine wpAnyH_done (by kernel_rfl) ?_ _
  clear x1 x2 x3 x4 x5 x6 x7 x8 x9 x10
  rename World => w3
  go_upto_region 11 with fail
  go_cut [90] (fun s wx => s = .bool false ∧ wx = w3)
  case first =>
    rcases HV1.out with rfl | rfl
    · go_wp2_with fail
      go_meet
      case rel => exact ⟨rfl, rfl⟩
    · go_wp2_with fail
      go_meet
      case rel => exact ⟨rfl, rfl⟩
  case rest =>
    obtain ⟨rfl, rfl⟩ := hcut
    rename World => w3
    clear HC1 HV1
    by_cases hj : i + 1 < M.length
    rotate_left 1
    · have d1 : decide ((i : Int) + 1 < ((bs M).size : Int)) = false := decide_eq_false (by rw [bs_size]; omega)
      clear hj
      go_upto_region 13 with fail
      go_quiet (fail)
      have hq9 := below_drewN (Below.refl w3.heap.size w3) nq
      replace HT := Lib.hid (HT.out.below hq9)
      replace HB3 := Lib.hid (below_trans' HB3.out hq9)
      clear hq9
      generalize w3.drewN nq = w3 at *
      go_wp2_with fail
      refine (works_any _ HT.out).mono ?_
      rintro e wz ⟨v, rfl, rfl, hBz⟩
      go_wp2
      go_ret
      exact Ret.mk ⟨rfl, below_trans' HB3.out hBz⟩
    have d1 : decide ((i : Int) + 1 < ((bs M).size : Int)) = true := decide_eq_true (by rw [bs_size]; omega)
    have j0 : (0 : Int) ≤ (i : Int) + 1 := by omega
    have j1 : (i : Int) + 1 < ((bs M).size : Int) := by rw [bs_size]; omega
    have j2 : i + 1 < (bs M).size := by rw [bs_size]; exact hj
    obtain ⟨xc, hxc⟩ : ∃ xc : Nat, M[i + 1].toNat = xc := ⟨_, rfl⟩
    have c0' : ((bs M)[i + 1]'j2).toNat = xc := by rw [byte_at M hj]; exact hxc
    have hiL := HiL.out
    have hln := HLn.out
    have c0'' : M[i].toNat = xb := c0
    by_cases hne : xb = xc
    · have d2 : ((xb : Int) != (xc : Int)) = false := by simp [hne]
      clear hne hxc c0'' hj hiL hln
      go_upto_region 13 with fail
      go_quiet (fail)
      have hq9 := below_drewN (Below.refl w3.heap.size w3) nq
      replace HT := Lib.hid (HT.out.below hq9)
      replace HB3 := Lib.hid (below_trans' HB3.out hq9)
      clear hq9
      generalize w3.drewN nq = w3 at *
      go_wp2_with fail
      refine (works_any _ HT.out).mono ?_
      rintro e wz ⟨v, rfl, rfl, hBz⟩
      go_wp2
      go_ret
      exact Ret.mk ⟨rfl, below_trans' HB3.out hBz⟩
    have d2 : ((xb : Int) != (xc : Int)) = true := by simp; omega
    have hMne : M[i] ≠ M[i + 1] := fun e => hne (c0''.symm.trans ((congrArg UInt8.toNat e).trans hxc))
    obtain ⟨t2, v2, hc2⟩ : ∃ t2 v2, cmV (M.take i ++ M[i + 1] :: M[i] :: M.drop (i + 2)) = (t2, v2) := ⟨_, _, rfl⟩
    have hv2 := cm_two (M.take i ++ M[i + 1] :: M[i] :: M.drop (i + 2)) (by have h := HSw.out hj hMne; rw [List.append_assoc] at h; exact h)
    rw [hc2] at hv2
    dsimp only at hv2
    have HV2 := Lib.hid hv2
    have HC2 : Hid (∀ W, Tab W → Calls Tryz.prog 18 #[.string (bs (M.take i ++ M[i + 1] :: M[i] :: M.drop (i + 2)))] W (Ret fun v w' => v = .tuple #[.int .i64 t2, .int .i64 v2] ∧ Below W.heap.size W w')) := Lib.hid fun W hW => by
      have := CheckMark_any (M.take i ++ M[i + 1] :: M[i] :: M.drop (i + 2)) W hW (by have := HLn.out; simp; omega)
      rw [cmT_of hc2] at this
      exact this
    have HY2 : Hid ((bs M).extract (i + 1) (i + 2) = bs [M[i + 1]]) := Lib.hid (by
      rw [bs_extract, List.drop_eq_getElem_cons hj, show i + 2 - (i + 1) = 1 by omega]; rfl)
    have HY3 : Hid ((bs M).extract i (i + 1) = bs [M[i]]) := Lib.hid (by
      rw [bs_extract, List.drop_eq_getElem_cons hiL, show i + 1 - i = 1 by omega]; rfl)
    have HY4 : Hid ((bs M).extract (i + 2) (bs M).size = bs (M.drop (i + 2))) := Lib.hid (by rw [bs_extract, bs_size, List.take_of_length_le (by rw [List.length_drop]; omega)])
    have b9 : IntKind.i64.wrap ((i : Int) + 2) = (i : Int) + 2 := IntWalk.i64_in _ (by omega)
    generalize M[i] = ca at *
    generalize M[i + 1] = cb at *
    clear hv2 hc2 hMne hne hxc c0'' hiL hln hj
    go_upto_region 13 with fail
    go_quiet (fail)
    have hq9 := below_drewN (Below.refl w3.heap.size w3) nq
    replace HT := Lib.hid (HT.out.below hq9)
    replace HB3 := Lib.hid (below_trans' HB3.out hq9)
    clear hq9
    generalize w3.drewN nq = w3 at *
    go_upto_region 14 with fail
    refine wp_region_held_drew (S := fun _ => True) (by kernel_rfl) trivial (fun hS9 => ?_)
    have zT : Tab w3.drew := HT.out.below ((Below.refl w3.heap.size w3).drew)
    have zB := HB3.out.drew
    generalize w3.drew = V0 at *
    have x1 := HX1.out
    have x2 := HY2.out
    have x3 := HY3.out
    have x3' := HY4.out
    have x4 : bs (M.take i) ++ bs [cb] = bs (M.take i ++ [cb]) := bs_append _ _
    have x5 : bs (M.take i ++ [cb]) ++ bs [ca] = bs (M.take i ++ [cb, ca]) := by rw [bs_append, List.append_assoc]; rfl
    have x5' : bs (M.take i ++ [cb, ca]) ++ bs (M.drop (i + 2)) = bs (M.take i ++ cb :: ca :: M.drop (i + 2)) := by rw [bs_append, List.append_assoc]; rfl
    have x6 : ¬ 9223372036854775807 < (bs (M.take i)).size + (bs [cb]).size := by rw [bs_size, bs_size]; have := HLn.out; simp; omega
    have x7 : ¬ 9223372036854775807 < (bs (M.take i ++ [cb])).size + (bs [ca]).size := by rw [bs_size, bs_size]; have := HLn.out; simp; omega
    have x7' : ¬ 9223372036854775807 < (bs (M.take i ++ [cb, ca])).size + (bs (M.drop (i + 2))).size := by rw [bs_size, bs_size]; have := HLn.out; simp; omega
    have x8 : (i : Int) ≤ ((bs M).size : Int) := by omega
    have x9 : (i : Int) + 1 ≤ ((bs M).size : Int) := by omega
    have x9' : (i : Int) + 2 ≤ ((bs M).size : Int) := by omega
    have x10 : (0 : Int) ≤ (i : Int) + 2 := by omega
    have x11 : ((i : Int) + 2).toNat = i + 2 := by omega
    have x12 : (i : Int) ≤ (i : Int) + 1 := by omega
    have x13 : (i : Int) + 1 ≤ (i : Int) + 2 := by omega
    refine takeD (i := 0) (d := 107) (v := ?_) rfl rfl (by kernel_rfl) (by kernel_rfl) (by kernel_rfl) (fun _ _ _ h => h) (Or.inl ⟨by rfl, ?_⟩) trivial ?_
    rotate_left 1
    · intro W hW; obtain _ := hW; go_simp <;> with_reducible rfl
    simp only [List.setIfInBounds_toArray, List.set_cons_succ, List.set_cons_zero]
    refine takeD (i := 1) (d := 108) (v := ?_) rfl rfl (by kernel_rfl) (by kernel_rfl) (by kernel_rfl) (fun _ _ _ h => h) (Or.inl ⟨by rfl, ?_⟩) trivial ?_
    rotate_left 1
    · intro W hW; obtain _ := hW; go_simp <;> with_reducible rfl
    simp only [List.setIfInBounds_toArray, List.set_cons_succ, List.set_cons_zero]
    refine takeD (i := 2) (d := 109) (v := ?_) rfl rfl (by kernel_rfl) (by kernel_rfl) (by kernel_rfl) (fun _ _ _ h => h) (Or.inl ⟨by rfl, ?_⟩) trivial ?_
    rotate_left 1
    · intro W hW; obtain _ := hW; go_simp <;> with_reducible rfl
    simp only [List.setIfInBounds_toArray, List.set_cons_succ, List.set_cons_zero]
    refine takeD (i := 3) (d := 110) (v := ?_) rfl rfl (by kernel_rfl) (by kernel_rfl) (by kernel_rfl) (fun _ _ _ h => h) (Or.inl ⟨by rfl, ?_⟩) trivial ?_
    rotate_left 1
    · intro W hW; obtain _ := hW; go_simp <;> with_reducible rfl
    simp only [List.setIfInBounds_toArray, List.set_cons_succ, List.set_cons_zero]
    refine takeD (i := 4) (d := 111) (v := ?_) rfl rfl (by kernel_rfl) (by kernel_rfl) (by kernel_rfl) (fun _ _ _ h => h) (Or.inl ⟨by rfl, ?_⟩) trivial ?_
    rotate_left 1
    · intro W hW; obtain _ := hW; go_simp <;> with_reducible rfl
    simp only [List.setIfInBounds_toArray, List.set_cons_succ, List.set_cons_zero]
    refine takeD (i := 5) (d := 112) (v := ?_) rfl rfl (by kernel_rfl) (by kernel_rfl) (by kernel_rfl) (fun _ _ _ h => h) (Or.inl ⟨by rfl, ?_⟩) trivial ?_
    rotate_left 1
    · intro W hW; obtain _ := hW; go_simp <;> with_reducible rfl
    simp only [List.setIfInBounds_toArray, List.set_cons_succ, List.set_cons_zero]
    refine takeD (i := 6) (d := 113) (v := ?_) rfl rfl (by kernel_rfl) (by kernel_rfl) (by kernel_rfl) (fun _ _ _ h => h) (Or.inl ⟨by rfl, ?_⟩) trivial ?_
    rotate_left 1
    · intro W hW; obtain _ := hW; go_simp <;> with_reducible rfl
    simp only [List.setIfInBounds_toArray, List.set_cons_succ, List.set_cons_zero]
    refine takeD (i := 7) (d := 114) (v := ?_) rfl rfl (by kernel_rfl) (by kernel_rfl) (by kernel_rfl) (fun _ _ _ h => h) (Or.inl ⟨by rfl, ?_⟩) trivial ?_
    rotate_left 1
    · intro W hW; obtain _ := hW; go_simp <;> with_reducible rfl
    simp only [List.setIfInBounds_toArray, List.set_cons_succ, List.set_cons_zero]
    refine takeD (i := 8) (d := 115) (v := ?_) rfl rfl (by kernel_rfl) (by kernel_rfl) (by kernel_rfl) (fun _ _ _ h => h) (Or.inl ⟨by rfl, ?_⟩) trivial ?_
    rotate_left 1
    · intro W hW; obtain _ := hW; go_simp <;> with_reducible rfl
    simp only [List.setIfInBounds_toArray, List.set_cons_succ, List.set_cons_zero]
    refine takeD (i := 9) (d := 116) (v := ?_) rfl rfl (by kernel_rfl) (by kernel_rfl) (by kernel_rfl) (fun _ _ _ h => h) (Or.inl ⟨by rfl, ?_⟩) trivial ?_
    rotate_left 1
    · intro W hW; obtain _ := hW; go_simp <;> with_reducible rfl
    simp only [List.setIfInBounds_toArray, List.set_cons_succ, List.set_cons_zero]
    refine takeD (i := 10) (d := 117) (v := ?_) rfl rfl (by kernel_rfl) (by kernel_rfl) (by kernel_rfl) (fun _ _ _ h => h) (Or.inl ⟨by rfl, ?_⟩) trivial ?_
    rotate_left 1
    · intro W hW; obtain _ := hW; go_simp <;> with_reducible rfl
    simp only [List.setIfInBounds_toArray, List.set_cons_succ, List.set_cons_zero]
    refine takeD (i := 11) (d := 118) (v := ?_) rfl rfl (by kernel_rfl) (by kernel_rfl) (by kernel_rfl) (fun _ _ _ h => h) (Or.inl ⟨by rfl, ?_⟩) trivial ?_
    rotate_left 1
    · intro W hW; obtain _ := hW; go_simp <;> with_reducible rfl
    simp only [List.setIfInBounds_toArray, List.set_cons_succ, List.set_cons_zero]
    refine takeD (i := 12) (d := 119) (v := ?_) rfl rfl (by kernel_rfl) (by kernel_rfl) (by kernel_rfl) (fun _ _ _ h => h) (Or.inl ⟨by rfl, ?_⟩) trivial ?_
    rotate_left 1
    · intro W hW; obtain _ := hW; go_simp <;> with_reducible rfl
    simp only [List.setIfInBounds_toArray, List.set_cons_succ, List.set_cons_zero]
    refine takeD (i := 13) (d := 120) (v := ?_) rfl rfl (by kernel_rfl) (by kernel_rfl) (by kernel_rfl) (fun _ _ _ h => h) (Or.inl ⟨by rfl, ?_⟩) trivial ?_
    rotate_left 1
    · intro W hW; obtain _ := hW; go_simp <;> with_reducible rfl
    simp only [List.setIfInBounds_toArray, List.set_cons_succ, List.set_cons_zero]
    refine takeD (i := 14) (d := 121) (v := ?_) rfl rfl (by kernel_rfl) (by kernel_rfl) (by kernel_rfl) (fun _ _ _ h => h) (Or.inl ⟨by rfl, ?_⟩) trivial ?_
    rotate_left 1
    · intro W hW; obtain _ := hW; go_simp <;> with_reducible rfl
    simp only [List.setIfInBounds_toArray, List.set_cons_succ, List.set_cons_zero]
    refine takeD (i := 15) (d := 122) (v := ?_) rfl rfl (by kernel_rfl) (by kernel_rfl) (by kernel_rfl) (fun _ _ _ h => h) (Or.inl ⟨by rfl, ?_⟩) trivial ?_
    rotate_left 1
    · intro W hW; obtain _ := hW; go_simp <;> with_reducible rfl
    simp only [List.setIfInBounds_toArray, List.set_cons_succ, List.set_cons_zero]
    refine takeD (i := 16) (d := 123) (v := ?_) rfl rfl (by kernel_rfl) (by kernel_rfl) (by kernel_rfl) (fun _ _ _ h => h) (Or.inl ⟨by rfl, ?_⟩) trivial ?_
    rotate_left 1
    · intro W hW; obtain _ := hW; go_simp <;> with_reducible rfl
    simp only [List.setIfInBounds_toArray, List.set_cons_succ, List.set_cons_zero]
    refine takeD (i := 17) (d := 124) (v := ?_) rfl rfl (by kernel_rfl) (by kernel_rfl) (by kernel_rfl) (fun _ _ _ h => h) (Or.inl ⟨by rfl, ?_⟩) trivial ?_
    rotate_left 1
    · intro W hW; obtain _ := hW; go_simp <;> with_reducible rfl
    simp only [List.setIfInBounds_toArray, List.set_cons_succ, List.set_cons_zero]
    refine takeD (i := 18) (d := 125) (v := ?_) rfl rfl (by kernel_rfl) (by kernel_rfl) (by kernel_rfl) (fun _ _ _ h => h) (Or.inl ⟨by rfl, ?_⟩) trivial ?_
    rotate_left 1
    · intro W hW; obtain _ := hW; go_simp <;> with_reducible rfl
    simp only [List.setIfInBounds_toArray, List.set_cons_succ, List.set_cons_zero]
    refine takeD (i := 19) (d := 126) (v := ?_) rfl rfl (by kernel_rfl) (by kernel_rfl) (by kernel_rfl) (fun _ _ _ h => h) (Or.inl ⟨by rfl, ?_⟩) trivial ?_
    rotate_left 1
    · intro W hW; obtain _ := hW; go_simp <;> with_reducible rfl
    simp only [List.setIfInBounds_toArray, List.set_cons_succ, List.set_cons_zero]
    refine takeD (i := 20) (d := 127) (v := ?_) rfl rfl (by kernel_rfl) (by kernel_rfl) (by kernel_rfl) (fun _ _ _ h => h) (Or.inl ⟨by rfl, ?_⟩) trivial ?_
    rotate_left 1
    · intro W hW; obtain _ := hW; go_simp <;> with_reducible rfl
    simp only [List.setIfInBounds_toArray, List.set_cons_succ, List.set_cons_zero]
    refine wpAnyH_ready (rs := [21]) (by kernel_rfl) (by simp) ?_
    refine AllReadyH.cons rfl (fun K hK => ?_) AllReadyH.nil
    go_simp
    refine (HC2.out V0 zT).mono ?_
    rintro _ V1 ⟨v, rfl, rfl, hB1⟩
    have HB4 := Lib.hid (below_trans' zB hB1)
    have zT1 := zT.below hB1
    clear zB hB1 zT HT HB3
    have HT := Lib.hid zT1
    clear zT1
    refine hK.out _ _ trivial (fun _ => ?_)
    clear hK K
    refine takeD (i := 22) (d := 106) (v := ?_) rfl rfl (by kernel_rfl) (by kernel_rfl) (by kernel_rfl) (fun _ _ _ h => h) (Or.inl ⟨by rfl, ?_⟩) trivial ?_
    rotate_left 1
    · intro W hW; obtain _ := hW; go_simp <;> with_reducible rfl
    simp only [List.setIfInBounds_toArray, List.set_cons_succ, List.set_cons_zero]
    refine takeD (i := 23) (d := 129) (v := ?_) rfl rfl (by kernel_rfl) (by kernel_rfl) (by kernel_rfl) (fun _ _ _ h => h) (Or.inl ⟨by rfl, ?_⟩) trivial ?_
    rotate_left 1
    · intro W hW; obtain _ := hW; go_simp <;> with_reducible rfl
    simp only [List.setIfInBounds_toArray, List.set_cons_succ, List.set_cons_zero]
    refine takeD (i := 24) (d := 130) (v := ?_) rfl rfl (by kernel_rfl) (by kernel_rfl) (by kernel_rfl) (fun _ _ _ h => h) (Or.inl ⟨by rfl, ?_⟩) trivial ?_
    rotate_left 1
    · intro W hW; obtain _ := hW; go_simp <;> with_reducible rfl
    simp only [List.setIfInBounds_toArray, List.set_cons_succ, List.set_cons_zero]
    refine takeD (i := 25) (d := 9) (v := ?_) rfl rfl (by kernel_rfl) (by kernel_rfl) (by kernel_rfl) (fun _ _ _ h => h) (Or.inl ⟨by rfl, ?_⟩) trivial ?_
    rotate_left 1
    · intro W hW; obtain _ := hW; go_simp <;> with_reducible rfl
    simp only [List.setIfInBounds_toArray, List.set_cons_succ, List.set_cons_zero]
    refine wpAnyH_done (by kernel_rfl) ?_ _
    clear x1 x2 x3 x3' x4 x5 x5' x6 x7 x7' x8 x9 x9' x10 x11 x12 x13
    rename World => w4
    go_upto_region 15 with fail
    go_cut [136] (fun s wx => s = .bool false ∧ wx = w4)
    case first =>
      rcases HV2.out with rfl | rfl
      · go_wp2_with fail
        go_meet
        case rel => exact ⟨rfl, rfl⟩
      · go_wp2_with fail
        go_meet
        case rel => exact ⟨rfl, rfl⟩
    case rest =>
      obtain ⟨rfl, rfl⟩ := hcut
      rename World => w4
      go_wp2_with fail
      refine (works_any _ HT.out).mono ?_
      rintro e wz ⟨v, rfl, rfl, hBz⟩
      go_wp2
      go_ret
      exact Ret.mk ⟨rfl, below_trans' HB4.out hBz⟩
end Go.Proofs.YtkpmmgeffbhngaaGreatDoor
namespace Go.Proofs.YtkpmmgeffbhngaaGreatDoor
open Go.ChangeShapes Go.WideShapes Go.ChangeAt Go.RowKit
set_option maxRecDepth 100000 in
theorem protocolMarked_lifted (os : Os) (started : os.Started) (H : Type) (enc : TypeId × Value → H) :
    ReturnsInHanded {} Tryz.checked os 10 .any (fun w args => (Rows.protocolMarkedSpec.pre enc Tryz.prog Tryz.f10 [] false w args ∧ laidMetH Tryz.prog laidT w) ∧ sizedMet enc Tryz.prog Tryz.f10 (OpenSpec.ofChange Rows.protocolMarkedSpec) false w args)
      (Rows.protocolMarkedSpec.post enc Tryz.prog Tryz.f10 false true false false) := by
  refine returnsInHanded_and_shaped (C := Tryz.checked) (X := fun w _ => laidMetH Tryz.prog laidT w) (fun _ _ _ hh h => h.of_heap hh) Tryz.own started (by kernel_rfl) Tryz.func10
    (ChangeSpec.witness_shaped (enc := enc) (C := Tryz.checked) (os := os) (X := fun w _ => laidMetH Tryz.prog laidT w) false (World.laidAll Tryz.prog os laidT) #[.int .u64 0, .int .u8 0, .int .u8 0] 8 (World.laidAll_os _ _ _) (laid_shaped os _) (by kernel_rfl) (by kernel_rfl) (by kernel_rfl) (laid_met os _)) ?_
  intro W base args ds gs before hval0 hW hL hsh
  have hval : ∀ (j : Nat) t v, Tryz.f10.params[j]? = some t → args[j]? = some v → Value.okWide Tryz.prog W .any base t v := hval0
  have hW' := hW
  have hlt : ∀ p ∈ before, p.block < W.heap.size := fun p hp => hW.lt p hp
  obtain ⟨p, q, hA0, hV, rfl, hfz, hnd⟩ := hW
  have hA : DataW.TrodAll enc Tryz.prog W 0 (fun _ => true) true Tryz.f10.params.toList args.toList ds p := hA0
  rw [Tryz.params10] at hA hval
  have hA1 := hA
  have hT := of_laid hL hsh
  obtain ⟨v0, v1, v2, d0, d1, d2, p0, p1, p2, rfl, rfl, rfl, h0, h1, h2⟩ := trodAll_three hA
  obtain ⟨rfl, rfl⟩ := trodVars_none hV
  obtain ⟨n0, rfl, rfl, rfl, wn0⟩ := open_int Tryz.underlying61 (hval 0 61 v0 rfl rfl) h0
  have hbn := Go.bounds_u64 wn0
  obtain ⟨n, rfl⟩ : ∃ n : Nat, n0 = (n : Int) := ⟨n0.toNat, by omega⟩
  obtain ⟨m0, rfl, rfl, rfl, wm0⟩ := open_int Tryz.underlying5 (hval 1 5 v1 rfl rfl) h1
  have hbm := Go.bounds_u8 wm0
  obtain ⟨m, rfl⟩ : ∃ m : Nat, m0 = (m : Int) := ⟨m0.toNat, by omega⟩
  obtain ⟨b0, rfl, rfl, rfl, wb0⟩ := open_int Tryz.underlying5 (hval 2 5 v2 rfl rfl) h2
  have hbb := Go.bounds_u8 wb0
  obtain ⟨b, rfl⟩ : ∃ b : Nat, b0 = (b : Int) := ⟨b0.toNat, by omega⟩
  refine (protocolMarked_any n m b W hT (by omega) (by omega) (by omega)).mono fun e W' he => ?_
  obtain ⟨v, rfl, rfl, hB⟩ := he
  exact ⟨_, rfl, post_of_below (pa := _) (pv := []) hW' (fun b sp hd => trodAll_mk1 (resTrue b sp hd W')) (fun sp hsp => all_again' hB (by kernel_rfl) hA1 (fun x hx => hlt x (by simp at hx)) (fun x hx => hsp x (by simp at hx))) (fun _ _ => rfl) rfl hB (ok_one (by kernel_rfl) rfl (okWide_bool_mk Tryz.underlying4 true))⟩
theorem protocolMarked_p : (Rows.protocolMarkedRow.inPlace == Tryz.prog.inPlace 10) = true := by kernel_rfl
theorem protocolMarked_u : (Rows.protocolMarkedRow.unfollowed == Tryz.prog.unfollowed 10) = true := by kernel_rfl
theorem protocolMarked_r : (Rows.protocolMarkedRow.recurses == Tryz.prog.recurses 10) = true := by kernel_rfl
theorem protocolMarked_n : (Rows.protocolMarkedRow.named == Tryz.prog.varsNamed 10) = true := by kernel_rfl
theorem protocolMarked_row : Rows.ProtocolMarkedSaid :=
  OpenClaim.holds_of_wide 10 Tryz.f10 rfl rfl rfl rfl rfl rfl rfl ⟨rfl, rfl, rfl, rfl, rfl⟩ rfl rfl rfl rfl rfl (by kernel_rfl) Tryz.func10
    (joined_of (by kernel_rfl) (by kernel_rfl) (by kernel_rfl) rfl rfl protocolMarked_p protocolMarked_u protocolMarked_r protocolMarked_n (by kernel_rfl) (by kernel_rfl) (by kernel_rfl) (by kernel_rfl) (by kernel_rfl) (by kernel_rfl) (by kernel_rfl) (by kernel_rfl) (by kernel_rfl) (by kernel_rfl) rfl rfl rfl (by kernel_rfl) (by kernel_rfl) (by kernel_rfl) (by kernel_rfl))
    (of_decide_eq_true (by kernel_rfl)) (by unfold Func.isWrapper; first | (rw [if_pos (by decide +kernel)]; kernel_rfl) | (rw [if_neg (by decide +kernel)]; exact ⟨rfl, rfl⟩))
    (fun os started H enc _ => protocolMarked_lifted os started H enc)
theorem protocolMarked_holds : Rows.ProtocolMarkedCardSaid :=
  Claim7.holds_tied_plain_at .later [] [.data, .data, .data, .data, .sentinel, .sentinel, .pinned] true (true, "056ceee57fb0345663cf018f0cf66ba5b95e362946dcabdfc5afb17e57de19a5") true
    protocolMarked_row (fun _ h => by cases h) (by kernel_rfl) (fun _ h => by cases h) protocolMarked_row_tie rfl ⟨rfl, rfl⟩ (by kernel_rfl) rfl
    (no_stand (show Tryz.prog.funcNamed "mandrel/mandrellaw12.ProtocolMarked" = some 10 by kernel_rfl) Tryz.func10 Tryz.jlooks (by kernel_rfl))
    (by kernel_rfl)
end Go.Proofs.YtkpmmgeffbhngaaGreatDoor
