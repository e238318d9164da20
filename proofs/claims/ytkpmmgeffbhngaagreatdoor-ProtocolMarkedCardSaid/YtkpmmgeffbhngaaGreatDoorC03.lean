/- What the laws of the chapter rest on, part 03. -/
import Derived.Test.YtkpmmgeffbhngaaGreatDoorC00
import Derived.Lib.Split
import Derived.Lib.Join
import Derived.Lib.CountLaws
set_option linter.unusedSimpArgs false
set_option linter.unusedVariables false
set_option linter.unnecessarySimpa false
namespace Prot
end Prot
namespace Go.Shelf
end Go.Shelf
namespace Go.Maps
end Go.Maps
namespace Prot
open Go.Lib
/-- the digits of a number in the base 16, as capital letters; none for nought -/
def capL (z : Nat) : List UInt8 := if h : z = 0 then [] else capL (z / 16) ++ [UInt8.ofNat (65 + z % 16)]
termination_by z
decreasing_by omega
def letL (z : Nat) : List UInt8 := capL (z / 16) ++ [UInt8.ofNat (97 + z % 16)]
theorem capL_zero : capL 0 = [] := by rw [capL, dif_pos rfl]
theorem capL_pos {z : Nat} (h : z ≠ 0) : capL z = capL (z / 16) ++ [UInt8.ofNat (65 + z % 16)] := by rw [capL, dif_neg h]
theorem capL_len {z k : Nat} (h : z < 16 ^ k) : (capL z).length ≤ k := by
  induction k generalizing z with
  | zero => have : z = 0 := by simpa using h
            subst this; rw [capL_zero]; exact Nat.le_refl _
  | succ k ih =>
    by_cases h0 : z = 0
    · subst h0; rw [capL_zero]; exact Nat.zero_le _
    · rw [capL_pos h0, List.length_append]
      have := ih (z := z / 16) (by rw [Nat.pow_succ] at h; omega)
      show _ + 1 ≤ _
      omega
/-- a difference as a number from 0 on -/
def zz (d : Int) : Nat := if 0 ≤ d then (2 * d).toNat else (-2 * d - 1).toNat
def unzz (z : Nat) : Int := if z % 2 = 0 then ((z / 2 : Nat) : Int) else -(((z + 1) / 2 : Nat) : Int)
theorem unzz_zz (d : Int) : unzz (zz d) = d := by
  unfold unzz zz
  split
  · rename_i h
    have : (2 * d).toNat % 2 = 0 := by omega
    rw [if_pos this]; omega
  · rename_i h
    have : ¬ (-2 * d - 1).toNat % 2 = 0 := by omega
    rw [if_neg this]; omega
theorem zz_lt {d : Int} (h1 : -1000 ≤ d) (h2 : d ≤ 1000) : zz d ≤ 2000 := by unfold zz; split <;> omega
def prevAt (ds : List Int) (i : Nat) : Int := if i = 0 then 0 else ds.getD (i - 1) 0
/-- what is written behind i depths -/
def encTo (ds : List Int) : Nat → List UInt8
  | 0 => []
  | i + 1 => encTo ds i ++ letL (zz (ds.getD i 0 - prevAt ds i)) ++ (if i % 20 = 19 ∨ i + 1 = ds.length then [10] else [])
def encL (ds : List Int) : List UInt8 := encTo ds ds.length
def dOk (d : Int) : Bool := decide (0 ≤ d) && decide (d ≤ 1000)
/-- the error of depths -/
def encErr (ds : List Int) : Int := if 200 < ds.length then 6 else if ds.all dOk = true then 0 else 3
def encV (ds : List Int) : List UInt8 × Int := if encErr ds = 0 then (encL ds, 0) else ([], encErr ds)
theorem encErr_iff {ds : List Int} : encErr ds = 0 ↔ ds.length ≤ 200 ∧ ∀ d ∈ ds, 0 ≤ d ∧ d ≤ 1000 := by
  unfold encErr
  constructor
  · intro h
    split at h
    · omega
    · split at h
      · rename_i h1 h2
        refine ⟨by omega, fun d hd => ?_⟩
        have := List.all_eq_true.1 h2 d hd
        unfold dOk at this
        simpa using this
      · omega
  · rintro ⟨h1, h2⟩
    rw [if_neg (by omega), if_pos]
    exact List.all_eq_true.2 fun d hd => by unfold dOk; simpa using h2 d hd
/-- reading: what was read, the number that is begun, the depth -/
abbrev DSt := List Int × Nat × Int
def decStep (b : Nat) (s : DSt) (c : UInt8) : Option DSt :=
  if 65 ≤ c.toNat ∧ c.toNat ≤ 80 ∧ s.2.1 < b then some (s.1, 16 * (s.2.1 + (c.toNat - 65)), s.2.2)
  else if 97 ≤ c.toNat ∧ c.toNat ≤ 112 then some (s.1 ++ [s.2.2 + unzz (s.2.1 + (c.toNat - 97))], 0, s.2.2 + unzz (s.2.1 + (c.toNat - 97)))
  else if c.toNat = 10 then some s
  else none
def decGo (b : Nat) : List UInt8 → DSt → Option DSt
  | [], s => some s
  | c :: r, s => match decStep b s c with
    | none => none
    | some s' => decGo b r s'
theorem decGo_append (b : Nat) : ∀ (l k : List UInt8) (s : DSt), decGo b (l ++ k) s = (match decGo b l s with | none => none | some s' => decGo b k s')
  | [], _, _ => rfl
  | c :: l, k, s => by
    show (match decStep b s c with | none => none | some s' => decGo b (l ++ k) s') = (match (match decStep b s c with | none => none | some s' => decGo b l s') with | none => none | some s' => decGo b k s')
    cases decStep b s c with
    | none => rfl
    | some s' => exact decGo_append b l k s'
theorem ofNat_le {n : Nat} (h : n < 256) : (UInt8.ofNat n).toNat = n := by rw [UInt8.toNat_ofNat']; exact Nat.mod_eq_of_lt h
theorem decGo_cap {b : Nat} (o : List Int) (x : Int) : ∀ (z : Nat), z < b → decGo b (capL z) (o, 0, x) = some (o, 16 * z, x) := fun z => by
  induction z using Nat.strongRecOn with
  | _ z ih =>
    intro hb
    by_cases h0 : z = 0
    · subst h0; rw [capL_zero]; rfl
    · rw [capL_pos h0, decGo_append, ih (z / 16) (by omega) (by omega)]
      dsimp only
      have hc := ofNat_le (n := 65 + z % 16) (by omega)
      show (match decStep b (o, 16 * (z / 16), x) (UInt8.ofNat (65 + z % 16)) with | none => none | some s' => some s') = _
      unfold decStep
      rw [hc]
      dsimp only
      rw [if_pos ⟨by omega, by omega, by omega⟩]
      have e : 16 * (16 * (z / 16) + (65 + z % 16 - 65)) = 16 * z := by omega
      rw [e]
theorem decGo_let {b : Nat} (o : List Int) (x : Int) {z : Nat} (h : z / 16 < b) : decGo b (letL z) (o, 0, x) = some (o ++ [x + unzz z], 0, x + unzz z) := by
  unfold letL
  rw [decGo_append, decGo_cap o x _ h]
  have hc := ofNat_le (n := 97 + z % 16) (by omega)
  show (match decStep b (o, 16 * (z / 16), x) (UInt8.ofNat (97 + z % 16)) with | none => none | some s' => some s') = _
  unfold decStep
  rw [hc]
  dsimp only
  rw [if_neg (by omega), if_pos ⟨by omega, by omega⟩]
  have e : 16 * (z / 16) + (97 + z % 16 - 97) = z := by omega
  rw [e]
theorem take_snoc {ds : List Int} {i : Nat} (h : i < ds.length) : ds.take (i + 1) = ds.take i ++ [ds.getD i 0] := by
  rw [List.take_succ_eq_append_getElem h, List.getD_eq_getElem?_getD, List.getElem?_eq_getElem h]; rfl
theorem getD_bound {ds : List Int} (h : ∀ d ∈ ds, 0 ≤ d ∧ d ≤ 1000) (i : Nat) : 0 ≤ ds.getD i 0 ∧ ds.getD i 0 ≤ 1000 := by
  by_cases hi : i < ds.length
  · rw [List.getD_eq_getElem?_getD, List.getElem?_eq_getElem hi]
    exact h _ (List.getElem_mem hi)
  · rw [List.getD_eq_getElem?_getD, List.getElem?_eq_none (by omega)]
    exact ⟨Int.le_refl _, by show (0 : Int) ≤ 1000; omega⟩
theorem prev_bound {ds : List Int} (h : ∀ d ∈ ds, 0 ≤ d ∧ d ≤ 1000) (i : Nat) : 0 ≤ prevAt ds i ∧ prevAt ds i ≤ 1000 := by
  unfold prevAt
  split
  · omega
  · exact getD_bound h _
theorem decGo_enc {b : Nat} (hb : 126 ≤ b) {ds : List Int} (h : ∀ d ∈ ds, 0 ≤ d ∧ d ≤ 1000) : ∀ i, i ≤ ds.length → decGo b (encTo ds i) ([], 0, 0) = some (ds.take i, 0, prevAt ds i)
  | 0, _ => rfl
  | i + 1, hi => by
    have h1 := getD_bound h i
    have h2 := prev_bound h i
    have h3 := zz_lt (d := ds.getD i 0 - prevAt ds i) (by omega) (by omega)
    show decGo b (encTo ds i ++ letL (zz (ds.getD i 0 - prevAt ds i)) ++ (if i % 20 = 19 ∨ i + 1 = ds.length then [10] else [])) ([], 0, 0) = _
    rw [decGo_append, decGo_append, decGo_enc hb h i (by omega)]
    dsimp only
    rw [decGo_let _ _ (by omega), unzz_zz]
    have e : prevAt ds i + (ds.getD i 0 - prevAt ds i) = ds.getD i 0 := by omega
    have e2 : prevAt ds (i + 1) = ds.getD i 0 := by unfold prevAt; rw [if_neg (by omega)]; rfl
    rw [e, e2, take_snoc (by omega)]
    dsimp only
    split
    · show (match decStep b _ 10 with | none => none | some s' => some s') = _
      unfold decStep
      rw [if_neg (fun k => absurd k.1 (by decide)), if_neg (fun k => absurd k.1 (by decide)), if_pos (by decide)]
    · rfl
theorem encTo_len {ds : List Int} (h : ∀ d ∈ ds, 0 ≤ d ∧ d ≤ 1000) : ∀ i, (encTo ds i).length ≤ 4 * i
  | 0 => Nat.le_refl _
  | i + 1 => by
    have ih := encTo_len h i
    have h1 := getD_bound h i
    have h2 := prev_bound h i
    have h3 := zz_lt (d := ds.getD i 0 - prevAt ds i) (by omega) (by omega)
    have h4 : (letL (zz (ds.getD i 0 - prevAt ds i))).length ≤ 3 := by
      unfold letL
      rw [List.length_append]
      have := capL_len (z := zz (ds.getD i 0 - prevAt ds i) / 16) (k := 2) (by
        have e16 : (16 : Nat) ^ 2 = 256 := by decide
        omega)
      show _ + 1 ≤ _
      omega
    show (encTo ds i ++ letL (zz (ds.getD i 0 - prevAt ds i)) ++ (if i % 20 = 19 ∨ i + 1 = ds.length then [10] else [])).length ≤ _
    rw [List.length_append, List.length_append]
    have h5 : (if i % 20 = 19 ∨ i + 1 = ds.length then ([10] : List UInt8) else []).length ≤ 1 := by split <;> simp
    omega
/-- reading and looking whether it is written just so -/
def decW (b : Nat) (l : List UInt8) : List Int × Int :=
  match decGo b l ([], 0, 0) with
  | none => ([], 8)
  | some s => if encErr s.1 = 0 ∧ encL s.1 = l then (s.1, 0) else ([], 8)
theorem decW_enc {b : Nat} (hb : 126 ≤ b) {ds : List Int} (h : encErr ds = 0) : decW b (encL ds) = (ds, 0) := by
  obtain ⟨h1, h2⟩ := encErr_iff.1 h
  unfold decW
  have e := decGo_enc hb h2 ds.length (Nat.le_refl _)
  rw [List.take_length] at e
  rw [show encL ds = encTo ds ds.length from rfl, e]
  dsimp only
  rw [if_pos ⟨h, rfl⟩]
theorem decW_ok {b : Nat} {l : List UInt8} {ds : List Int} (h : decW b l = (ds, 0)) : encErr ds = 0 ∧ encL ds = l := by
  unfold decW at h
  split at h
  · injection h with _ h; cases h
  · split at h
    · rename_i hc
      injection h with h _
      rw [← h]; exact hc
    · injection h with _ h; cases h
theorem decW_cases (b : Nat) (l : List UInt8) : decW b l = ([], 8) ∨ ∃ ds, decW b l = (ds, 0) := by
  unfold decW
  split
  · exact .inl rfl
  · split
    · exact .inr ⟨_, rfl⟩
    · exact .inl rfl
/-- what Decode answers -/
def decV (l : List UInt8) : List Int × Int := decW 1048576 l
def decR (l : List UInt8) : List Int × Int := if 1000 < l.length then ([], 8) else decW 1000000 l
theorem decR_eq (l : List UInt8) : decR l = decV l := by
  unfold decR decV
  rcases decW_cases 1048576 l with h | ⟨ds, h⟩
  · rw [h]
    split
    · rfl
    · rcases decW_cases 1000000 l with k | ⟨ds, k⟩
      · exact k
      · obtain ⟨h1, h2⟩ := decW_ok k
        rw [← h2, decW_enc (by omega) h1] at h
        injection h with _ h; cases h
  · obtain ⟨h1, h2⟩ := decW_ok h
    obtain ⟨h3, h4⟩ := encErr_iff.1 h1
    have hl : l.length ≤ 1000 := by
      rw [← h2]
      have := encTo_len h4 ds.length
      unfold encL
      omega
    rw [if_neg (by omega), h, ← h2]
    exact decW_enc (by omega) h1
end Prot
namespace Prot
open Go.Lib
theorem occ1 (c : UInt8) (p r : List UInt8) : occAt (p ++ c :: r) [c] p.length = true := by
  unfold occAt
  rw [List.drop_left]
  simp [List.isPrefixOf]
theorem occ1_not {c : UInt8} {s : List UInt8} {j : Nat} (h : ∀ d, s[j]? = some d → d ≠ c) : occAt s [c] j = false := by
  unfold occAt
  cases e : s.drop j with
  | nil => rfl
  | cons d r =>
    have h1 : s[j]? = some d := by
      have := congrArg (fun l => l[0]?) e
      simpa using this
    have h2 := h d h1
    simp [List.isPrefixOf]
    exact fun k => h2 k.symm
theorem index_hit {c : UInt8} {p : List UInt8} (h : c ∉ p) (r : List UInt8) : index (p ++ c :: r) [c] = (p.length : Int) := by
  refine index_first (by simp) (occ1 c p r) (fun j hj => occ1_not fun d hd e => h ?_)
  rw [List.getElem?_append_left hj] at hd
  subst e
  exact List.mem_of_getElem? hd
theorem index_no {c : UInt8} {s : List UInt8} (h : c ∉ s) : index s [c] = -1 :=
  index_none fun j _ => occ1_not fun d hd e => h (by subst e; exact List.mem_of_getElem? hd)
theorem first_of {c : UInt8} {s : List UInt8} (h : c ∈ s) : ∃ p r, s = p ++ c :: r ∧ c ∉ p := List.eq_append_cons_of_mem h
theorem drop_at (c : UInt8) (p r : List UInt8) : (p ++ c :: r).drop (p.length + 1) = r := by
  rw [show p ++ c :: r = (p ++ [c]) ++ r by simp, show p.length + 1 = (p ++ [c]).length by simp, List.drop_left]
theorem count_hit1 {c : UInt8} {p : List UInt8} (h : c ∉ p) (r : List UInt8) : count (p ++ c :: r) [c] = 1 + count r [c] := by
  rw [count_hit (by simp) (index_hit h r)]
  show 1 + count ((p ++ c :: r).drop (p.length + 1)) [c] = _
  rw [drop_at]
theorem count_one (c : UInt8) : ∀ (n : Nat) (s : List UInt8), s.length ≤ n → count s [c] = s.count c := fun n => by
  induction n with
  | zero =>
    intro s hs
    have : s = [] := List.eq_nil_of_length_eq_zero (by omega)
    subst this
    rw [count_miss (index_no (by simp))]; rfl
  | succ n ih =>
    intro s hs
    by_cases h : c ∈ s
    · obtain ⟨p, r, rfl, hp⟩ := first_of h
      rw [count_hit1 hp, ih r (by simp at hs; omega), List.count_append, List.count_eq_zero_of_not_mem hp, List.count_cons_self]; omega
    · rw [count_miss (index_no h), List.count_eq_zero_of_not_mem h]
theorem split_eq : ∀ (n : Nat) (s : List UInt8), s.length ≤ n → split s [32] = splitSp s := fun n => by
  induction n with
  | zero =>
    intro s hs
    have : s = [] := List.eq_nil_of_length_eq_zero (by omega)
    subst this
    unfold split
    rw [count_miss (index_no (by simp))]; rfl
  | succ n ih =>
    intro s hs
    by_cases h : (32 : UInt8) ∈ s
    · obtain ⟨p, r, rfl, hp⟩ := first_of h
      rw [split_cons (fun c hc e => hp (e ▸ hc)), ← ih r (by simp at hs; omega)]
      show splitK [32] 0 (count (p ++ 32 :: r) [32]) (p ++ 32 :: r) = p :: splitK [32] 0 (count r [32]) r
      rw [count_hit1 hp, Nat.add_comm]
      conv => lhs; unfold splitK
      rw [index_hit hp]
      have : ((p.length : Int) == -1) = false := by rw [beq_eq_false_iff_ne]; omega
      rw [this]
      simp only [Bool.false_eq_true, if_false, Int.toNat_natCast, Nat.add_zero, List.length_singleton]
      rw [drop_at, List.take_left]
    · rw [split_word (fun c hc e => h (e ▸ hc))]
      unfold split
      rw [count_miss (index_no h)]; rfl
theorem split_sp (s : List UInt8) : split s [32] = splitSp s := split_eq _ s (Nat.le_refl _)
theorem cut_hit {c : UInt8} {p : List UInt8} (h : c ∉ p) (r : List UInt8) : cut (p ++ c :: r) [c] = (p, r, true) := by
  unfold cut
  rw [index_hit h, if_pos (by omega)]
  simp only [Int.toNat_natCast, List.length_singleton]
  rw [drop_at, List.take_left]
theorem cut_no {c : UInt8} {s : List UInt8} (h : c ∉ s) : cut s [c] = (s, [], false) := by
  unfold cut
  rw [index_no h, if_neg (by omega)]
theorem join_sp (ws : List (List UInt8)) : join ws [32] = joinSp ws := by
  cases ws with
  | nil => rfl
  | cons w ws =>
    rw [join_cons]
    induction ws generalizing w with
    | nil => show w ++ (List.map _ []).flatten = w; simp
    | cons x ws ih =>
      show w ++ joinTail [32] (x :: ws) = w ++ 32 :: joinSp (x :: ws)
      rw [← ih x]
      unfold joinTail
      simp
theorem join_flat (ws : List (List UInt8)) : join ws [] = ws.flatten := by
  cases ws with
  | nil => rfl
  | cons w ws =>
    rw [join_cons]
    unfold joinTail
    simp
/-- words, letter by letter -/
theorem split_space (l : List UInt8) : splitSp (l ++ [32]) = splitSp l ++ [[]] := by
  induction l with
  | nil => rfl
  | cons d l ih =>
    rw [List.cons_append, splitSp_c, splitSp_c, ih]
    by_cases h : d = 32
    · rw [if_pos h, if_pos h]; rfl
    · rw [if_neg h, if_neg h]
      have hne := splitSp_ne l
      cases e : splitSp l with
      | nil => exact absurd e hne
      | cons w ws => rfl
theorem split_letter {c : UInt8} (hc : c ≠ 32) (l : List UInt8) : ∃ ws w, splitSp l = ws ++ [w] ∧ splitSp (l ++ [c]) = ws ++ [w ++ [c]] := by
  induction l with
  | nil => exact ⟨[], [], rfl, by show splitSp [c] = _; rw [splitSp_c, if_neg hc]; rfl⟩
  | cons d l ih =>
    obtain ⟨ws, w, h1, h2⟩ := ih
    rw [List.cons_append, splitSp_c, splitSp_c, h1, h2]
    by_cases h : d = 32
    · rw [if_pos h, if_pos h]; exact ⟨[] :: ws, w, rfl, rfl⟩
    · rw [if_neg h, if_neg h]
      cases ws with
      | nil => exact ⟨[], d :: w, rfl, rfl⟩
      | cons x ws => exact ⟨(d :: x) :: ws, w, rfl, rfl⟩
end Prot
namespace Prot
/-- what one piece writes, behind the depth p -/
def pieceR : List Int → Int → List UInt8
  | [], _ => []
  | d :: r, p => letL (zz (d - p)) ++ pieceR r d
def lastR (p : Int) (r : List Int) : Int := r.getLastD p
theorem lastR_snoc (p : Int) (r : List Int) (d : Int) : lastR p (r ++ [d]) = d := by unfold lastR; simp
theorem pieceR_snoc (r : List Int) (d : Int) : ∀ p, pieceR (r ++ [d]) p = pieceR r p ++ letL (zz (d - lastR p r)) := by
  induction r with
  | nil => intro p; show letL _ ++ [] = [] ++ letL _; rw [List.append_nil]; rfl
  | cons x r ih =>
    intro p
    show letL _ ++ pieceR (r ++ [d]) x = (letL _ ++ pieceR r x) ++ _
    rw [ih x, List.append_assoc]
    have : lastR p (x :: r) = lastR x r := by unfold lastR; rw [List.getLastD_cons]
    rw [this]
def chunkL (ds : List Int) (j : Nat) : List Int := (ds.drop (20 * j)).take 20
def stepC (ds : List Int) (s : List UInt8 × Int) (j : Nat) : List UInt8 × Int := (s.1 ++ pieceR (chunkL ds j) s.2 ++ [10], lastR s.2 (chunkL ds j))
def rowsC (ds : List Int) (pre : List Nat) : List UInt8 × Int := pre.foldl (stepC ds) ([], 0)
theorem rowsC_snoc (ds : List Int) (pre : List Nat) (j : Nat) : rowsC ds (pre ++ [j]) = stepC ds (rowsC ds pre) j := by unfold rowsC; rw [List.foldl_append]; rfl
theorem chunkL_len (ds : List Int) (j : Nat) : (chunkL ds j).length = min 20 (ds.length - 20 * j) := by unfold chunkL; rw [List.length_take, List.length_drop]
theorem chunkL_at {ds : List Int} {j k : Nat} (h : k < (chunkL ds j).length) : ∃ h2 : 20 * j + k < ds.length, (chunkL ds j)[k] = ds[20 * j + k] := by
  have := chunkL_len ds j
  have h2 : 20 * j + k < ds.length := by omega
  refine ⟨h2, ?_⟩
  have e : (chunkL ds j)[k]? = ds[20 * j + k]? := by unfold chunkL; rw [List.getElem?_take_of_lt (by omega), List.getElem?_drop]
  rw [List.getElem?_eq_getElem h, List.getElem?_eq_getElem h2] at e
  exact Option.some.inj e
theorem chunkL_bound {ds : List Int} (h : ∀ d ∈ ds, 0 ≤ d ∧ d ≤ 1000) (j : Nat) : ∀ d ∈ chunkL ds j, 0 ≤ d ∧ d ≤ 1000 := fun d hd => h d (List.mem_of_mem_drop (List.mem_of_mem_take hd))
theorem lastR_bound {r : List Int} {p : Int} (h : ∀ d ∈ r, 0 ≤ d ∧ d ≤ 1000) (hp : 0 ≤ p ∧ p ≤ 1000) : 0 ≤ lastR p r ∧ lastR p r ≤ 1000 := by
  unfold lastR
  cases r with
  | nil => exact hp
  | cons x r =>
    rw [List.getLastD_cons]
    induction r generalizing x with
    | nil => exact h x (by simp)
    | cons y r ih => rw [List.getLastD_cons]; exact ih y (fun d hd => h d (List.mem_cons_of_mem _ hd))
theorem letL_len {z : Nat} (hz : z ≤ 2000) : (letL z).length ≤ 4 := by
  have hcl := capL_len (z := z / 16) (k := 3) (by omega)
  unfold letL; rw [List.length_append]; simp; omega
theorem pieceR_len {r : List Int} : ∀ {p : Int}, (∀ d ∈ r, 0 ≤ d ∧ d ≤ 1000) → 0 ≤ p ∧ p ≤ 1000 → (pieceR r p).length ≤ 4 * r.length := by
  induction r with
  | nil => intro p _ _; simp [pieceR]
  | cons x r ih =>
    intro p h hp
    have hx := h x (by simp)
    have := ih (p := x) (fun d hd => h d (List.mem_cons_of_mem _ hd)) hx
    have h2 := letL_len (z := zz (x - p)) (zz_lt (by omega) (by omega))
    show (letL _ ++ pieceR r x).length ≤ _
    rw [List.length_append, List.length_cons]; omega
theorem rowsC_bound {ds : List Int} (h : ∀ d ∈ ds, 0 ≤ d ∧ d ≤ 1000) (pre : List Nat) : (0 ≤ (rowsC ds pre).2 ∧ (rowsC ds pre).2 ≤ 1000) ∧ (rowsC ds pre).1.length ≤ 81 * pre.length := by
  have : ∀ (n : Nat) (pre : List Nat), pre.length = n → (0 ≤ (rowsC ds pre).2 ∧ (rowsC ds pre).2 ≤ 1000) ∧ (rowsC ds pre).1.length ≤ 81 * pre.length := fun n => by
    induction n with
    | zero => intro pre hp; rw [List.length_eq_zero_iff.1 hp]; exact ⟨⟨Int.le_refl 0, by show (0 : Int) ≤ 1000; decide⟩, by simp [rowsC]⟩
    | succ n ih =>
      intro pre hp
      obtain ⟨p', j, rfl⟩ : ∃ p' j, pre = p' ++ [j] := ⟨pre.dropLast, pre.getLast (by intro e; rw [e] at hp; cases hp), (List.dropLast_concat_getLast _).symm⟩
      have hl : p'.length = n := by simpa using hp
      obtain ⟨h1, h2⟩ := ih p' hl
      rw [rowsC_snoc]
      have hc := chunkL_bound h j
      have h3 := pieceR_len hc h1
      have h4 := chunkL_len ds j
      refine ⟨lastR_bound hc h1, ?_⟩
      show ((rowsC ds p').1 ++ pieceR (chunkL ds j) (rowsC ds p').2 ++ [10]).length ≤ _
      rw [List.length_append, List.length_append, List.length_append]
      simp only [List.length_cons, List.length_nil]
      omega
  exact this _ pre rfl
theorem encTo_piece {ds : List Int} {j : Nat} (hj : 20 * j < ds.length) : ∀ k, k ≤ (chunkL ds j).length →
    encTo ds (20 * j + k) = encTo ds (20 * j) ++ pieceR ((chunkL ds j).take k) (prevAt ds (20 * j)) ++ (if k = (chunkL ds j).length ∧ 0 < k then [10] else []) ∧ prevAt ds (20 * j + k) = lastR (prevAt ds (20 * j)) ((chunkL ds j).take k) := fun k => by
  induction k with
  | zero => intro _; simp [pieceR, lastR]
  | succ k ih =>
    intro hk
    obtain ⟨e1, e2⟩ := ih (by omega)
    obtain ⟨hlt, hat⟩ := chunkL_at (ds := ds) (j := j) (k := k) (by omega)
    have hlen := chunkL_len ds j
    have hg : ds.getD (20 * j + k) 0 = (chunkL ds j)[k] := by rw [hat]; simp [List.getD, hlt]
    have ht := List.take_succ_eq_append_getElem (l := chunkL ds j) (i := k) (by omega)
    constructor
    · show encTo ds (20 * j + k) ++ letL (zz (ds.getD (20 * j + k) 0 - prevAt ds (20 * j + k))) ++ (if (20 * j + k) % 20 = 19 ∨ 20 * j + k + 1 = ds.length then [10] else []) = _
      rw [e1, e2, hg, ht, pieceR_snoc, if_neg (by omega), List.append_nil]
      rw [List.append_assoc (encTo ds (20 * j))]
      congr 1
      by_cases c : k + 1 = (chunkL ds j).length
      · rw [if_pos (show (20 * j + k) % 20 = 19 ∨ 20 * j + k + 1 = ds.length by omega), if_pos ⟨c, by omega⟩]
      · rw [if_neg (show ¬ ((20 * j + k) % 20 = 19 ∨ 20 * j + k + 1 = ds.length) by omega), if_neg (fun q => c q.1)]
    · rw [ht, lastR_snoc, ← hg]
      show prevAt ds (20 * j + k + 1) = _
      unfold prevAt
      rw [if_neg (by omega)]; rfl
theorem rowsC_to (ds : List Int) : ∀ j, j ≤ (ds.length + 19) / 20 → rowsC ds (List.range j) = (encTo ds (min (20 * j) ds.length), prevAt ds (min (20 * j) ds.length)) := fun j => by
  induction j with
  | zero => intro _; rw [Nat.mul_zero, Nat.zero_min]; rfl
  | succ j ih =>
    intro hj
    rw [List.range_succ, rowsC_snoc, ih (by omega)]
    have hlt : 20 * j < ds.length := by omega
    rw [show min (20 * j) ds.length = 20 * j by omega]
    have hlen := chunkL_len ds j
    obtain ⟨e1, e2⟩ := encTo_piece hlt (chunkL ds j).length (Nat.le_refl _)
    rw [show min (20 * (j + 1)) ds.length = 20 * j + (chunkL ds j).length by omega, e1, e2, List.take_length, if_pos ⟨rfl, by omega⟩]
    rfl
theorem rowsC_all (ds : List Int) : (rowsC ds (List.range ((ds.length + 19) / 20))).1 = encL ds := by
  rw [rowsC_to ds _ (Nat.le_refl _), show min (20 * ((ds.length + 19) / 20)) ds.length = ds.length by omega]; rfl
end Prot
namespace Prot
open Go.Lib
def decF : Nat → Nat → List UInt8
  | 0, n => [UInt8.ofNat (48 + n)]
  | k + 1, n => if n < 10 then [UInt8.ofNat (48 + n)] else decF k (n / 10) ++ [UInt8.ofNat (48 + n % 10)]
theorem dec_fuel : ∀ (k n : Nat), n < 10 ^ (k + 1) → decDigits n = decF k n
  | 0, n, h => decDigits_small (by simpa using h)
  | k + 1, n, h => by
    by_cases h10 : n < 10
    · rw [decDigits_small h10]; exact (if_pos h10).symm
    · rw [decDigits_big h10, dec_fuel k (n / 10) (by rw [Nat.pow_succ] at h; generalize 10 ^ (k + 1) = z at *; omega)]
      exact (if_neg h10).symm
theorem dec_13 {n : Nat} (h : n < 10000000000000) : decDigits n = decF 12 n := dec_fuel 12 n (by rw [show (10 : Nat) ^ (12 + 1) = 10000000000000 by decide]; exact h)
def markF (n : Nat) : List UInt8 := decF 12 n ++ (decF 12 (chk n / 10) ++ decF 12 (chk n % 10))
theorem mark_F {n : Nat} (h : n < 10000000000000) : markL n = markF n := by
  have := chk_lt n
  unfold markL chkL markF
  rw [dec_13 h, dec_13 (n := chk n / 10) (by omega), dec_13 (n := chk n % 10) (by omega)]
def lineF (c : Card) : List UInt8 × Int :=
  match shapeL c.1 with
  | none => ([], 2)
  | some (w, ms) => if numsOk (numsOf c) ms = true then (joinSp (w :: ((numsOf c).take ms.length).map fun x => decF 12 x.toNat), 0) else ([], 3)
theorem line_F {c : Card} (h : ∀ x ∈ numsOf c, x < 10000000000000) : lineV c = lineF c := by
  unfold lineV lineF
  cases hs : shapeL c.1 with
  | none => rfl
  | some p =>
    obtain ⟨w, ms⟩ := p
    dsimp only
    split
    · unfold wordsOf
      rw [List.map_congr_left (l := (numsOf c).take ms.length) (f := fun x => decDigits x.toNat) (g := fun x => decF 12 x.toNat) (fun x hx => dec_13 (by have := h x (List.mem_of_mem_take hx); omega))]
    · rfl
theorem ex_mark : markL 123 = [49, 50, 51, 50, 48] := by rw [mark_F (by decide)]; decide +kernel
theorem ex_check : cmV [49, 50, 51, 50, 48] = (123, 0) := by rw [← ex_mark]; exact cmV_mark (by decide) (by decide)
theorem cm_sum {l e : List UInt8} {n : Nat} (h3 : 3 ≤ l.length) (hn : numR (l.take (l.length - 2)) = some n) (h1 : 1 ≤ n) (h2 : n ≤ maxN) (he : (l.drop (l.length - 2)).all isD = true) (hk : chkL n = e) (hne : e ≠ l.drop (l.length - 2)) : cmV l = (0, 14) := by
  unfold cmV
  rw [if_neg (by omega), hn]
  dsimp only
  rw [if_neg (by rintro (h | h | h); · omega
                 · omega
                 · rw [he] at h; cases h), if_pos (by rw [hk]; exact hne)]
theorem chk_F (n : Nat) : chkL n = decF 12 (chk n / 10) ++ decF 12 (chk n % 10) := by
  have := chk_lt n
  unfold chkL
  rw [dec_13 (n := chk n / 10) (by omega), dec_13 (n := chk n % 10) (by omega)]
theorem ex_sum : cmV [49, 51, 50, 50, 48] = (0, 14) := cm_sum (n := 132) (e := [57, 48]) (by decide) (by decide +kernel) (by decide) (by decide) (by decide +kernel) (by rw [chk_F]; decide +kernel) (by decide)
def fileL : List UInt8 := [107, 97, 100, 77, 99, 10]
theorem let_small {z : Nat} (h : z < 16) : letL z = [UInt8.ofNat (97 + z)] := by
  unfold letL
  rw [show z / 16 = 0 by omega, capL_zero, show z % 16 = z by omega]; rfl
theorem let_two {z : Nat} (h1 : 16 ≤ z) (h2 : z < 256) : letL z = [UInt8.ofNat (65 + z / 16), UInt8.ofNat (97 + z % 16)] := by
  unfold letL
  rw [capL_pos (by omega), show z / 16 / 16 = 0 by omega, capL_zero, show z / 16 % 16 = z / 16 by omega]; rfl
theorem ex_enc : encL [5, 5, 3, 100] = fileL := by
  show ((((([] : List UInt8) ++ letL 10 ++ []) ++ letL 0 ++ []) ++ letL 3 ++ []) ++ letL 194 ++ [10]) = fileL
  rw [let_small (z := 10) (by decide), let_small (z := 0) (by decide), let_small (z := 3) (by decide), let_two (z := 194) (by decide) (by decide)]
  decide +kernel
theorem ex_encV : encV [5, 5, 3, 100] = (fileL, 0) := by
  unfold encV
  rw [if_pos (by decide), ex_enc]
theorem ex_dec : decV fileL = ([5, 5, 3, 100], 0) := by
  rw [← ex_enc]
  exact decW_enc (by decide) (by decide)
def singL : List UInt8 := [115, 105, 110, 103, 32, 49, 49, 32, 53, 32, 57, 48]
def copyL : List UInt8 := [99, 111, 112, 121, 32, 49, 50, 32, 49, 49]
theorem ex_line : lineV (3, 11, 5, 90) = (singL, 0) := by rw [line_F (by decide)]; decide +kernel
theorem parse_I (l : List UInt8) : parseV l = parseW numI l := parse_same numW_P numW_R l
theorem ex_parse : parseV copyL = ((4, 12, 11, 0), 0) := by rw [parse_I]; decide +kernel
def stepI (s : St) (line : List UInt8) : St :=
  if (parseW numI line).2 ≠ 0 then ⟨s.errs ++ [(parseW numI line).2], s.cards ++ [zeroC], s.jn⟩
  else if (parseW numI line).1.1 = 7 then strikeV s (parseW numI line).1.2.1
  else if (doV s.jn (parseW numI line).1).2 ≠ 0 then ⟨s.errs ++ [(doV s.jn (parseW numI line).1).2], s.cards ++ [zeroC], s.jn⟩
  else ⟨s.errs ++ [0], s.cards ++ [(parseW numI line).1], (doV s.jn (parseW numI line).1).1⟩
theorem step_I (s : St) (l : List UInt8) : stepV s l = stepI s l := by
  unfold stepV stepI
  rw [parse_I l]
def runI (ls : List (List UInt8)) : St := ls.foldl stepI St.start
theorem run_I (ls : List (List UInt8)) : runV ls = runI ls := by
  unfold runV runI
  rw [show stepV = stepI from funext fun s => funext fun l => step_I s l]
def exL : List UInt8 := [100, 97, 121, 32, 51, 10, 98, 111, 120, 32, 55, 10, 115, 105, 110, 103, 32, 49, 49, 32, 53, 32, 57, 48, 10, 99, 111, 112, 121, 32, 49, 50, 32, 49, 49, 10, 100, 97, 121, 32, 50, 10, 99, 114, 97, 99, 107, 32, 49, 49, 10, 99, 111, 112, 121, 32, 49, 51, 32, 49, 49, 10, 115, 116, 114, 105, 107, 101, 32, 52, 10, 115, 116, 114, 105, 107, 101, 32, 51, 10]
def exIt : It := ⟨11, 7, 3, 5, 90, 0, true⟩
def exFair : List UInt8 := [100, 97, 121, 32, 51, 10, 98, 111, 120, 32, 55, 10, 115, 105, 110, 103, 32, 49, 49, 32, 53, 32, 57, 48, 10, 99, 114, 97, 99, 107, 32, 49, 49, 10]
theorem ex_err : textErr exL = 0 := by decide +kernel
theorem ex_run : runA exL = ([0, 0, 0, 0, 12, 0, 22, 0, 24], 0) := by
  unfold runA
  rw [if_neg (by rw [ex_err]; decide), run_I]
  decide +kernel
theorem ex_items : (runV (rowsL exL)).jn.items = [exIt] := by rw [run_I]; decide +kernel
theorem ex_state : stateA exL = ([exIt], 0) := by
  unfold stateA
  rw [if_neg (by rw [ex_err]; decide), ex_items, told_same (List.pairwise_singleton _ _)]
theorem ex_fair : fairA exL = (exFair, 0) := by
  unfold fairA
  rw [if_neg (by rw [ex_err]; decide), run_I]
  decide +kernel
def exShelf : List UInt8 := [98, 111, 120, 32, 55, 10, 49, 49, 54, 53, 32, 51, 32, 53, 32, 57, 48, 32, 48, 32, 49, 10]
theorem ex_itemsErr : itemsErr [exIt] = 0 := by decide +kernel
theorem ex_byBox : byBox [exIt] = [exIt] := by decide +kernel
theorem ex_shelf : shelfT [exIt] = exShelf := by
  rw [← write_shelf, ex_byBox]
  show (([] : List UInt8) ++ (joinSp [boxWord, decDigits 7] ++ [10]) ++ (joinSp [markL 11, decDigits 3, decDigits 5, decDigits 90, decDigits 0, [49]] ++ [10])) = exShelf
  rw [dec_13 (n := 7) (by decide), mark_F (n := 11) (by decide), dec_13 (n := 3) (by decide), dec_13 (n := 5) (by decide), dec_13 (n := 90) (by decide), dec_13 (n := 0) (by decide)]
  decide +kernel
theorem ex_list : listA [exIt] = (exShelf, 0) := by
  unfold listA
  rw [if_neg (by rw [ex_itemsErr]; decide), ex_shelf]
theorem ex_read : readA exShelf = ([exIt], 0) := by
  unfold readA
  rw [if_neg (by decide), ← ex_shelf]
  exact readV_list waysP_ok ex_itemsErr
end Prot
