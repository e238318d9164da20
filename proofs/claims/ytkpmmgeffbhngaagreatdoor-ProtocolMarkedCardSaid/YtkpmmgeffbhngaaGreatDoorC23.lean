/- What the laws of the chapter rest on, part 23. -/
import Derived.Test.YtkpmmgeffbhngaaGreatDoorC19
import Derived.Test.YtkpmmgeffbhngaaGreatDoorC22
set_option linter.unusedSimpArgs false
set_option linter.unusedVariables false
set_option linter.unnecessarySimpa false
namespace Prot
end Prot
namespace Go.Shelf
end Go.Shelf
namespace Go.Maps
end Go.Maps
namespace Go.Proofs.YtkpmmgeffbhngaaGreatDoor
open Go.RowKit Prot Go.Lib Go.Maps
theorem toList_mt : (⟨#[]⟩ : ByteArray).toList = [] := by
  unfold ByteArray.toList
  rw [ByteArray.toList.loop]
  rfl
theorem trim_tens (s : List UInt8) (hs : s.length ≤ 1000000) (w : World) : Calls Tryz.prog 54 #[.string (bs s), .string ⟨#[48, 49, 50, 51, 52, 53, 54, 55, 56, 57]⟩] w (Ret fun v w' => v = .string (bs (trimS s tens)) ∧ Below w.heap.size w w') := by
  have h := Any.strings_Trim_laid Tryz.laysTrim (by kernel_rfl) (bs s) ⟨#[48, 49, 50, 51, 52, 53, 54, 55, 56, 57]⟩ w (by rw [bs_size]; omega) (by decide) (ascii_of_all (by decide))
  refine h.mono ?_
  rintro _ w2 ⟨rfl, hB⟩
  exact Ret.mk ⟨rfl, hB⟩
set_option maxRecDepth 100000 in
set_option maxHeartbeats 4000000 in
theorem CheckMark_any (l : List UInt8) (w : World) (hT : Tab w) (hs : l.length ≤ 1000000) : Calls Tryz.prog 18 #[.string (bs l)] w (Ret fun v w' => v = cmT l ∧ Below w.heap.size w w') := by
  have hsz := bs_size l
  have hq := cmP_eq l
  unfold cmP at hq
  by_cases h3 : l.length < 3
  · have HC := Lib.hid (cmT_of (l := l) (a := 0) (b := 8) (by rw [← hq, if_pos (.inl h3)]))
    generalize hS : bs l = s at *
    clear hS
    have d1 : decide ((s.size : Int) < 3) = true := by simp; omega
    clear hsz hs hq h3 hT
    go_enter Tryz.func18, Tryz.ntmps18
    go_wp2
    go_ret2
    exact Ret.mk' HC.out.symm ⟨rfl, Below.refl _ _⟩
  by_cases h18 : 18 < l.length
  · have HC := Lib.hid (cmT_of (l := l) (a := 0) (b := 8) (by rw [← hq, if_pos (.inr h18)]))
    generalize hS : bs l = s at *
    clear hS
    have d1 : decide ((s.size : Int) < 3) = false := by simp; omega
    have d2 : decide ((s.size : Int) > 18) = true := by simp; omega
    have d3 : decide (18 < (s.size : Int)) = true := by simp; omega
    clear hsz hs hq h3 hT h18
    go_enter Tryz.func18, Tryz.ntmps18
    go_wp2
    go_ret2
    exact Ret.mk' HC.out.symm ⟨rfl, Below.refl _ _⟩
  rw [if_neg (by omega)] at hq
  obtain ⟨d, hd⟩ : ∃ d, d = l.take (l.length - 2) := ⟨_, rfl⟩
  obtain ⟨e, he⟩ : ∃ e, e = l.drop (l.length - 2) := ⟨_, rfl⟩
  rw [← hd, ← he] at hq
  have hdl : d.length ≤ 16 := by rw [hd, List.length_take]; omega
  have hel : e.length = 2 := by rw [he, List.length_drop]; omega
  have x1 : (bs l).extract 0 ((bs l).size - 2) = bs d := by rw [bs_extract, hsz, hd]; simp
  have x2 : (bs l).extract ((bs l).size - 2) (bs l).size = bs e := by
    rw [bs_extract, hsz, he]
    rw [show l.length - (l.length - 2) = 2 from by omega]
    congr 1
    exact List.take_of_length_le (by rw [List.length_drop]; omega)
  have C1 : Hid (∀ w, Tab w → Calls Tryz.prog 53 #[.string ((bs l).extract 0 ((bs l).size - 2))] w (Ret fun v w' => v = .int .i64 (numP d) ∧ Below w.heap.size w w')) := Lib.hid fun w hw => by
    rw [x1]; exact number_any (bs d) w hw (by rw [bs_size]; omega)
  have C2 : Hid (∀ w, Calls Tryz.prog 54 #[.string ((bs l).extract ((bs l).size - 2) (bs l).size), .string ⟨#[48, 49, 50, 51, 52, 53, 54, 55, 56, 57]⟩] w (Ret fun v w' => v = .string (bs (trimS e tens)) ∧ Below w.heap.size w w')) := Lib.hid fun w => by
    rw [x2]; exact trim_tens e (by omega) w
  have HX : Hid ((bs l).extract ((bs l).size - 2) (bs l).size = bs e) := Lib.hid x2
  have HT := Lib.hid hT
  have d1 : decide (((bs l).size : Int) < 3) = false := by simp; omega
  have d2 : decide (((bs l).size : Int) > 18) = false := by simp; omega
  have d2' : decide (18 < ((bs l).size : Int)) = false := by simp; omega
  have hs3 : 3 ≤ (bs l).size := by omega
  have hs4 : (bs l).size ≤ 9223372036854775807 := by omega
  clear hd he x1 x2 hdl hel hs hsz h3 h18 hT
  generalize hS : bs l = s at *
  clear hS
  generalize hn : numP d = n at *
  by_cases n1 : n < 1
  · have HC := Lib.hid (cmT_of (l := l) (a := 0) (b := 8) (by rw [← hq, if_pos (.inl n1)]))
    have t1 : decide (n < 1) = true := decide_eq_true n1
    clear hn hq n1 C2 HX
    go_enter Tryz.func18, Tryz.ntmps18
    go_upto_region 3 with fail
    go_quiet (fail)
    go_wp2_with fail
    refine (C1.out _ (HT.out.below (below_drewN (Below.refl _ _) _))).mono ?_
    rintro _ w1 ⟨v, rfl, rfl, hB⟩
    go_wp2
    go_ret2
    exact Ret.mk' HC.out.symm ⟨rfl, below_trans' (below_drewN (Below.refl _ _) _) hB⟩
  have t1 : decide (n < 1) = false := decide_eq_false n1
  by_cases n2 : (maxN : Int) < n
  · have HC := Lib.hid (cmT_of (l := l) (a := 0) (b := 8) (by rw [← hq, if_pos (.inr (.inl n2))]))
    have t2 : decide (n > 1099511627776) = true := decide_eq_true n2
    have t2' : decide (1099511627776 < n) = true := decide_eq_true n2
    clear hn hq n1 C2 HX n2
    go_enter Tryz.func18, Tryz.ntmps18
    go_upto_region 3 with fail
    go_quiet (fail)
    go_wp2_with fail
    refine (C1.out _ (HT.out.below (below_drewN (Below.refl _ _) _))).mono ?_
    rintro _ w1 ⟨v, rfl, rfl, hB⟩
    go_wp2
    go_ret2
    exact Ret.mk' HC.out.symm ⟨rfl, below_trans' (below_drewN (Below.refl _ _) _) hB⟩
  have t2 : decide (n > 1099511627776) = false := decide_eq_false n2
  have t2' : decide (1099511627776 < n) = false := decide_eq_false n2
  by_cases n3 : trimS e tens = []
  · by_cases n4 : chkL n.toNat = e
    · have HC := Lib.hid (cmT_of (l := l) (a := n) (b := 0) (by rw [← hq, if_neg (fun k => k.elim n1 fun k => k.elim n2 fun k => k n3), if_neg (fun k => k n4)]))
      have hC3 := fun w (hw : Tab w) => check_any n.toNat w hw (by simp only [maxN] at n2; omega)
      rw [n4, show ((n.toNat : Nat) : Int) = n by omega] at hC3
      rw [← HX.out] at hC3
      have HC3 := Lib.hid hC3
      have t3 := congrArg bs n3
      rw [t3] at C2
      have u : bs [] = (⟨#[]⟩ : ByteArray) := rfl
      rw [u] at C2
      clear hn hq n1 n2 n3 HX n4 hC3 t3 u
      go_enter Tryz.func18, Tryz.ntmps18
      go_upto_region 3 with fail
      go_quiet (fail)
      go_wp2_with fail
      refine (C1.out _ (HT.out.below (below_drewN (Below.refl _ _) _))).mono ?_
      rintro _ w1 ⟨v, rfl, rfl, hB⟩
      have HB := Lib.hid hB
      clear hB
      go_wp2_with fail
      refine (C2.out _).mono ?_
      rintro _ w2 ⟨v, rfl, rfl, hB2⟩
      have HB2 := Lib.hid (below_trans' (below_drewN (Below.refl _ _) _) (below_trans' HB.out hB2))
      clear HB hB2
      go_wp2_with fail
      refine (HC3.out _ (HT.out.below HB2.out)).mono ?_
      rintro _ w3 ⟨v, rfl, rfl, hB3⟩
      go_wp2
      go_ret2
      exact Ret.mk' HC.out.symm ⟨rfl, below_trans' HB2.out hB3⟩
    · have HC := Lib.hid (cmT_of (l := l) (a := 0) (b := 14) (by rw [← hq, if_neg (fun k => k.elim n1 fun k => k.elim n2 fun k => k n3), if_pos n4]))
      have hC3 := fun w (hw : Tab w) => check_any n.toNat w hw (by simp only [maxN] at n2; omega)
      rw [show ((n.toNat : Nat) : Int) = n by omega] at hC3
      have HC3 := Lib.hid hC3
      have t3 := congrArg bs n3
      rw [t3] at C2
      have u : bs [] = (⟨#[]⟩ : ByteArray) := rfl
      rw [u] at C2
      have t4 : ¬ bs (chkL n.toNat) = s.extract (s.size - 2) s.size := by rw [HX.out]; exact fun k => n4 (bs_inj.1 k)
      have t5 := toList_ne t4
      generalize bs (chkL n.toNat) = Z at *
      clear hn hq n1 n2 n3 HX n4 hC3 t3 u
      go_enter Tryz.func18, Tryz.ntmps18
      go_upto_region 3 with fail
      go_quiet (fail)
      go_wp2_with fail
      refine (C1.out _ (HT.out.below (below_drewN (Below.refl _ _) _))).mono ?_
      rintro _ w1 ⟨v, rfl, rfl, hB⟩
      have HB := Lib.hid hB
      clear hB
      go_wp2_with fail
      refine (C2.out _).mono ?_
      rintro _ w2 ⟨v, rfl, rfl, hB2⟩
      have HB2 := Lib.hid (below_trans' (below_drewN (Below.refl _ _) _) (below_trans' HB.out hB2))
      clear HB hB2
      go_wp2_with fail
      refine (HC3.out _ (HT.out.below HB2.out)).mono ?_
      rintro _ w3 ⟨v, rfl, rfl, hB3⟩
      go_wp2
      go_ret2
      exact Ret.mk' HC.out.symm ⟨rfl, below_trans' HB2.out hB3⟩
  · have HC := Lib.hid (cmT_of (l := l) (a := 0) (b := 8) (by rw [← hq, if_pos (.inr (.inr n3))]))
    have t3 : ¬ bs (trimS e tens) = (⟨#[]⟩ : ByteArray) := fun k => n3 (by have := congrArg (·.data.toList) k; exact this)
    have t5 := toList_ne t3
    generalize bs (trimS e tens) = Z at *
    have t6 : Z.toList.isEmpty = false := by
      cases h : Z.toList with
      | nil => rw [h] at t5; exact absurd t5 (by rw [toList_mt]; decide)
      | cons x l => rfl
    clear hn hq n1 n2 n3 HX
    go_enter Tryz.func18, Tryz.ntmps18
    go_upto_region 3 with fail
    go_quiet (fail)
    go_wp2_with fail
    refine (C1.out _ (HT.out.below (below_drewN (Below.refl _ _) _))).mono ?_
    rintro _ w1 ⟨v, rfl, rfl, hB⟩
    have HB := Lib.hid hB
    clear hB
    go_wp2_with fail
    refine (C2.out _).mono ?_
    rintro _ w2 ⟨v, rfl, rfl, hB2⟩
    go_wp2
    go_ret2
    exact Ret.mk' HC.out.symm ⟨rfl, below_trans' (below_drewN (Below.refl _ _) _) (below_trans' HB.out hB2)⟩
end Go.Proofs.YtkpmmgeffbhngaaGreatDoor
namespace Go.Proofs.YtkpmmgeffbhngaaGreatDoor
open Go.RowKit Prot
theorem symMerge_any (base g c n : Nat) (hn : n ≤ 1000) (hc : n ≤ c) : ∀ (N : Nat) (X Y : List It), X.length + Y.length ≤ N → 0 < X.length → 0 < Y.length → ByHi X → ByHi Y → (∀ x ∈ X, okI x) → (∀ y ∈ Y, okI y) → (∀ x ∈ X, ∀ y ∈ Y, x.num < y.num) → SymOk base g c n X Y
  | 0, X, Y, h, h1, h2, _, _, _, _, _ => by omega
  | N + 1, X, Y, h, h1, h2, o1, o2, b1, b2, hno => by
    by_cases hx : X.length = 1
    · obtain ⟨x, rfl⟩ := List.length_eq_one_iff.1 hx
      intro a m b P S w hr hP hX hY
      exact merge1_any base g c n a m b P Y S x w hr hn hc hP hX hY (b1 x (by simp)) b2 o2 (fun z hz => hno x (by simp) z hz)
    · by_cases hy : Y.length = 1
      · obtain ⟨y, rfl⟩ := List.length_eq_one_iff.1 hy
        intro a m b P S w hr hP hX hY
        refine (merge2_any base g c n a m b P X S y w hr hn hc hP hX hY (by omega) (b2 y (by simp)) b1 o1 (fun z hz => hno z hz y (by simp))).mono ?_
        rintro e w' ⟨v, rfl, ⟨Z, h1, h2, h3⟩, h4⟩
        exact Ret.mk ⟨⟨Z, h1.trans (List.perm_append_singleton y X).symm, h2, h3⟩, h4⟩
      · exact merge3_any base g c n X Y hn hc (by omega) (by omega) b1 b2 o1 o2 hno (fun X' Y' hl a1 a2 a3 a4 a5 a6 a7 => symMerge_any base g c n hn hc N X' Y' (by omega) a1 a2 a3 a4 a5 a6 a7)
/-- the insertion sort of no more than one tone -/
theorem insertion_none (v : Value) (c a b : Nat) (hv : b ≤ a + 1) (A : Option Addr) (n : Nat) (f : Value) (w : World) (hv' : v = .slice A n c) (ha : a ≤ 1000) :
    Calls Tryz.prog 141 #[v, .int .i64 a, .int .i64 b, f] w (Ret fun _ w' => w' = w) := by
  subst hv'
  have g1 : IntKind.i64.wrap ((a : Int) + 1) = (a : Int) + 1 := IntWalk.i64_in _ (by omega)
  have g2 : decide ((a : Int) + 1 < (b : Int)) = false := by simp; omega
  have g3 : ¬ ((a : Int) + 1 < (b : Int)) := by omega
  go_enter Tryz.func141, Tryz.ntmps141
  go_wp2
  go_loopw [8] (fun i wr => i = .int .i64 ((a : Int) + 1) ∧ wr = w) (fun i _ => 0)
  case atStart => exact ⟨rfl, rfl⟩
  case round =>
    obtain ⟨rfl, rfl⟩ := hrel
    go_wp2
    go_end0
    exact Ret.mk' rfl rfl
end Go.Proofs.YtkpmmgeffbhngaaGreatDoor
namespace Go.Proofs.YtkpmmgeffbhngaaGreatDoor
open Go.RowKit Prot
theorem stable_none (v : Value) (c : Nat) (A : Option Addr) (w : World) (hv : v = .slice A 0 c) : Calls Tryz.prog 117 #[v, .int .i64 0, .func (.func 83) #[] #[]] w (Ret fun _ w' => w' = w) := by
  have hi := fun f w => insertion_none (.slice A 0 c) c 0 0 (by omega) A 0 f w rfl (by omega)
  have Hi := Lib.hid hi; clear hi
  subst hv
  go_enter Tryz.func117, Tryz.ntmps117
  go_wp2
  go_loopw [7, 8] (fun a b wr => a = .int .i64 0 ∧ b = .int .i64 20 ∧ wr = w) (fun _ _ _ => 0)
  case atStart => exact ⟨rfl, rfl, rfl⟩
  case round =>
    obtain ⟨rfl, rfl, rfl⟩ := hrel
    go_wp2_with fail
    refine (Hi.out _ _).mono ?_
    rintro e w1 ⟨_, rfl, rfl⟩
    go_wp2
    go_loopw [6] (fun a wr => a = .int .i64 20 ∧ wr = w1) (fun _ _ => 0)
    case atStart => exact ⟨rfl, rfl⟩
    case round =>
      obtain ⟨rfl, rfl⟩ := hrel
      go_wp2
      go_end0
      exact Ret.mk' rfl rfl
/-- a piece of a list is the sorted piece of another one -/
def Pc (L ts : List It) (i j : Nat) : Prop := ByHi ((L.drop i).take j) ∧ ((L.drop i).take j).Perm ((ts.drop i).take j)
/-- k blocks of twenty are sorted, the rest is as it was -/
structure Blk (ts L : List It) (k : Nat) : Prop where
  len : L.length = ts.length
  done : ∀ i, i < k → Pc L ts (20 * i) 20
  rest : L.drop (20 * k) = ts.drop (20 * k)
theorem Blk.start (ts : List It) : Blk ts ts 0 := ⟨rfl, fun i h => absurd h (by omega), rfl⟩
theorem ByHi.nil : ByHi [] := List.Pairwise.nil
/-- a block more -/
theorem Blk.next {ts L Z : List It} {k m : Nat} (h : Blk ts L k) (hm : m = 20 ∨ 20 * k + m = ts.length ∧ m ≤ 20) (hk : 20 * k + m ≤ ts.length) (hp : Z.Perm ((L.drop (20 * k)).take m)) (ho : ByHi Z) : Blk ts (L.take (20 * k) ++ Z ++ L.drop (20 * k + m)) (k + 1) := by
  have hl := h.len
  have hz : Z.length = m := by rw [hp.length_eq, List.length_take, List.length_drop]; omega
  have hl1 : (L.take (20 * k)).length = 20 * k := by rw [List.length_take]; omega
  have hr : (L.drop (20 * k)).take m = (ts.drop (20 * k)).take m := by rw [h.rest]
  have hr2 : L.drop (20 * k + m) = ts.drop (20 * k + m) := by rw [← List.drop_drop, ← List.drop_drop, h.rest]
  refine ⟨by rw [List.length_append, List.length_append, hl1, hz, List.length_drop]; omega, fun i hi => ?_, ?_⟩
  · unfold Pc
    by_cases e : i = k
    · subst e
      have e1 : ((L.take (20 * i) ++ Z ++ L.drop (20 * i + m)).drop (20 * i)).take 20 = Z := by
        rw [List.append_assoc, List.drop_left' hl1]
        rcases hm with rfl | ⟨hm, hm2⟩
        · exact List.take_left' hz
        · rw [List.drop_of_length_le (by omega), List.append_nil, List.take_of_length_le (by omega)]
      have e2 : (ts.drop (20 * i)).take 20 = (ts.drop (20 * i)).take m := by
        rcases hm with rfl | ⟨hm, hm2⟩
        · rfl
        · rw [List.take_of_length_le (by rw [List.length_drop]; omega), List.take_of_length_le (by rw [List.length_drop]; omega)]
      rw [e1, e2, ← hr]; exact ⟨ho, hp⟩
    · have h1 := h.done i (by omega)
      unfold Pc at h1
      have e1 : ((L.take (20 * k) ++ Z ++ L.drop (20 * k + m)).drop (20 * i)).take 20 = (L.drop (20 * i)).take 20 := by
        rw [List.append_assoc, List.drop_append_of_le_length (by omega), List.take_append_of_le_length (by rw [List.length_drop]; omega), List.drop_take, List.take_take, Nat.min_eq_left (by omega)]
      rw [e1]; exact h1
  · rcases hm with rfl | ⟨hm, hm2⟩
    · rw [show 20 * (k + 1) = 20 * k + 20 by omega, ← hr2, List.drop_left' (by rw [List.length_append, hl1, hz])]
    · rw [List.drop_of_length_le (by rw [List.length_append, List.length_append, hl1, hz, List.length_drop]; omega), List.drop_of_length_le (by omega)]
theorem rise_cut {ts : List It} (h : Rise ts) (i : Nat) : ∀ x ∈ ts.take i, ∀ y ∈ ts.drop i, x.num < y.num := by
  unfold Rise at h
  rw [← List.take_append_drop i ts, List.pairwise_append] at h
  exact h.2.2
/-- behind all blocks: what the doubling loop finds -/
structure Two (ts L : List It) (p : Nat) : Prop where
  len : L.length = ts.length
  lo : ByHi (L.take p) ∧ (L.take p).Perm (ts.take p)
  hi : ByHi (L.drop p) ∧ (L.drop p).Perm (ts.drop p)
set_option maxRecDepth 100000 in
set_option maxHeartbeats 1000000 in
theorem stable_any (base g c n : Nat) (ts : List It) (w : World) (hrow : TRow w base g c n ts) (hn : n ≤ 60) (hc : n ≤ c) (hb : ∀ t ∈ ts, okI t) (hri : Rise ts) :
    Calls Tryz.prog 117 #[.slice (some ⟨g, 0, none⟩) n c, .int .i64 n, .func (.func 83) #[] #[]] w (Ret fun _ w' => (∃ Z, Z.Perm ts ∧ ByHi Z ∧ TRow w' base g c n Z) ∧ w.grownBy w' (some g)) := by
  have Hrow := Lib.hid hrow; clear hrow
  have Hb := Lib.hid hb; clear hb
  have Hri := Lib.hid hri; clear hri
  have Hlt := Lib.hid Hrow.out.1
  have Hins : Hid (∀ (L : List It) (k m a e : Nat) (W : World), a = 20 * k → e = 20 * k + m → Blk ts L k → (m = 20 ∨ 20 * k + m = ts.length ∧ m ≤ 20) → 20 * k + m ≤ ts.length → TRow W base g c n L →
      Calls Tryz.prog 141 #[.slice (some ⟨g, 0, none⟩) n c, .int .i64 (a : Nat), .int .i64 (e : Nat), .func (.func 83) #[] #[]] W (Ret fun _ w' => (∃ L', Blk ts L' (k + 1) ∧ TRow w' base g c n L') ∧ W.grownBy w' (some g))) := Lib.hid fun L k m a e W ha he hB hm hk hr => by
    subst ha; subst he
    have hll := hB.len
    have hbl := hB.rest
    refine (insertion_any base g c n (20 * k) (20 * k + m) (L.take (20 * k)) ((L.drop (20 * k)).take m) (L.drop (20 * k + m)) W (by
      rw [← List.drop_drop, List.append_assoc, List.take_append_drop, List.take_append_drop]; exact hr) (by omega) hc (by rw [List.length_take]; omega) (by rw [List.length_take, List.length_drop]; omega) (fun t ht => Hb.out t (by
        have h1 := List.mem_of_mem_take ht
        rw [hbl] at h1; exact List.mem_of_mem_drop h1)) (by
        rw [hbl]
        exact List.Pairwise.sublist ((List.take_sublist _ _).trans (List.drop_sublist _ _)) Hri.out)).mono ?_
    rintro e w1 ⟨v, rfl, ⟨Z, h1, h2, h3⟩, h4⟩
    exact Ret.mk ⟨⟨_, hB.next hm hk h1 h2, h3⟩, h4⟩
  have HSym : Hid (∀ (L : List It) (p e : Nat) (W : World), TRow W base g c n L → 0 < p → p < e → e ≤ n → ByHi (L.take p) → (L.take p).Perm (ts.take p) → ByHi ((L.drop p).take (e - p)) → ((L.drop p).take (e - p)).Perm ((ts.drop p).take (e - p)) →
      Calls Tryz.prog 142 #[.slice (some ⟨g, 0, none⟩) n c, .int .i64 0, .int .i64 p, .int .i64 e, .func (.func 83) #[] #[]] W (Ret fun _ w' => (∃ Z, ByHi Z ∧ Z.Perm (ts.take e) ∧ TRow w' base g c n (Z ++ L.drop e)) ∧ W.grownBy w' (some g))) := Lib.hid fun L p e W hr hp hpe hen o1 p1 o2 p2 => by
    have hll := hr.1
    have hx1 : ∀ x ∈ L.take p, x ∈ ts.take p := fun x hx => p1.subset hx
    have hx2 : ∀ x ∈ (L.drop p).take (e - p), x ∈ ts.drop p := fun x hx => List.mem_of_mem_take (p2.subset hx)
    refine (symMerge_any base g c n (by omega) hc L.length (L.take p) ((L.drop p).take (e - p)) (by rw [List.length_take, List.length_take, List.length_drop]; omega) (by rw [List.length_take]; omega) (by rw [List.length_take, List.length_drop]; omega) o1 o2
      (fun t ht => Hb.out t (List.mem_of_mem_take (hx1 t ht))) (fun t ht => Hb.out t (List.mem_of_mem_drop (hx2 t ht))) (fun x hx y hy => rise_cut Hri.out p x (hx1 x hx) y (hx2 y hy)) 0 p e [] (L.drop e) W (by
        have e1 : L.drop e = (L.drop p).drop (e - p) := by rw [List.drop_drop]; congr 1; omega
        rw [e1, List.nil_append, List.append_assoc, List.take_append_drop, List.take_append_drop]; exact hr) rfl (by rw [List.length_take]; omega) (by rw [List.length_take, List.length_drop]; omega)).mono ?_
    rintro _ w1 ⟨v, rfl, ⟨Z, h1, h2, h3⟩, h4⟩
    refine Ret.mk ⟨⟨Z, h2, h1.trans ?_, by simpa using h3⟩, h4⟩
    have e2 : ts.take e = ts.take p ++ (ts.drop p).take (e - p) := by
      conv => lhs; rw [show e = p + (e - p) by omega, List.take_add]
    rw [e2]; exact p1.append p2
  go_enter Tryz.func117, Tryz.ntmps117
  go_wp2
  go_loopw [7, 8] (fun va vb wr => ∃ (k a b : Nat) (L : List It), va = .int .i64 a ∧ vb = .int .i64 b ∧ a ≤ n ∧ Hid (a = 20 * k) ∧ Hid (b = a + 20) ∧ Hid (Blk ts L k) ∧ Hid (TRow wr base g c n L) ∧ Hid (w.grownBy wr (some g))) (fun va _ _ => 80 - (intOf va).toNat)
  case atStart => exact ⟨0, 0, 20, ts, rfl, rfl, by omega, Lib.hid rfl, Lib.hid rfl, Lib.hid (Blk.start ts), Hrow, Lib.hid (World.grownBy.refl _ _)⟩
  case round =>
    obtain ⟨k, a, b, L, rfl, rfl, hk, Ha, Hb2, HBl, Hr, Hg⟩ := hrel
    by_cases hbn : b ≤ n
    · have Hi := Lib.hid (Hins.out L k 20 a b wr Ha.out (by rw [Hb2.out, Ha.out]) HBl.out (.inl rfl) (by rw [Hlt.out, ← Ha.out, ← Hb2.out]; exact hbn) Hr.out)
      have f1 : (b : Int) ≤ (n : Int) := by omega
      have f2 : IntKind.i64.wrap ((b : Int) + 20) = ((b : Int) + 20) := IntWalk.i64_in _ (by omega)
      clear HBl Hr
      go_wp2_with fail
      refine Hi.out.mono ?_
      rintro e w1 ⟨_, rfl, ⟨L1, h1, h2⟩, h3⟩
      have H1 := Lib.hid h1
      have H2 := Lib.hid h2
      have H3 := Lib.hid (Hg.out.trans h3)
      clear h1 h2 h3 Hi Hg
      go_wp2
      go_roundw
      case rel => exact ⟨k + 1, b, b + 20, L1, rfl, by go_num, by omega, Lib.hid (by rw [Hb2.out, Ha.out]; omega), Lib.hid rfl, H1, H2, H3⟩
      case measure => have := Hb2.out; simp [intOf]; omega
    · obtain ⟨m, hm⟩ : ∃ m, 20 * k + m = n := ⟨n - 20 * k, by have := Ha.out; omega⟩
      have Hi := Lib.hid (Hins.out L k m a n wr Ha.out hm.symm HBl.out (.inr ⟨by rw [Hlt.out]; exact hm, by have := Ha.out; have := Hb2.out; omega⟩) (by rw [Hlt.out]; omega) Hr.out)
      have f1 : ¬ (b : Int) ≤ (n : Int) := by omega
      clear HBl Hr
      go_wp2_with fail
      refine Hi.out.mono ?_
      rintro e w1 ⟨_, rfl, ⟨L1, h1, h2⟩, h3⟩
      have H2 := Lib.hid h2
      have H3 := Lib.hid (Hg.out.trans h3)
      have HLn := Lib.hid h2.1
      -- the three blocks
      have hpc : ∀ i, i < 3 → Pc L1 ts (20 * i) 20 := fun i hi => by
        by_cases e : i < k + 1
        · exact h1.done i e
        · unfold Pc
          have hts := Hlt.out
          have h3 := Ha.out; have h4 := Hb2.out
          rw [List.drop_of_length_le (by rw [h2.1]; omega), List.drop_of_length_le (by rw [hts]; omega)]
          exact ⟨ByHi.nil, List.Perm.refl _⟩
      have HPc := Lib.hid hpc
      clear h1 h2 h3 Hi Hg hpc hk hbn f1 hm Ha Hb2 Hins
      go_wp2
      go_loopw [6] (fun v wr => ∃ (bs : Nat) (L : List It), v = .int .i64 bs ∧ Hid (bs = 20 ∧ (∀ i, i < 3 → Pc L ts (20 * i) 20) ∨ bs = 40 ∧ Two ts L 40 ∨ bs = 80 ∧ ByHi L ∧ L.Perm ts) ∧ Hid (TRow wr base g c n L) ∧ Hid (w.grownBy wr (some g))) (fun v _ => 80 - (intOf v).toNat)
      case atStart => exact ⟨20, L1, rfl, Lib.hid (.inl ⟨rfl, HPc.out⟩), H2, H3⟩
      case round =>
        clear HPc H2 H3 HLn
        obtain ⟨bs, L, rfl, Hs, Hr, Hg⟩ := hrel
        have HLn := Lib.hid Hr.out.1
        by_cases hlt : bs < n
        · have f1 : (bs : Int) < (n : Int) := by omega
          have f3 : IntKind.i64.wrap (2 * (bs : Int)) = 2 * (bs : Int) := IntWalk.i64_in _ (by have := Hs.out; omega)
          rcases id Hs.out with ⟨rfl, hpc⟩ | ⟨rfl, h2⟩ | ⟨rfl, -⟩
          · have hA := hpc 0 (by omega)
            have hB := hpc 1 (by omega)
            have hC := hpc 2 (by omega)
            unfold Pc at hA hB hC
            rw [Nat.mul_zero, List.drop_zero, List.drop_zero] at hA
            have hts := Hlt.out
            have hC2 : ByHi (L.drop 40) ∧ (L.drop 40).Perm (ts.drop 40) := by
              rw [List.take_of_length_le (by rw [List.length_drop, HLn.out]; omega), List.take_of_length_le (by rw [List.length_drop, hts]; omega)] at hC
              exact hC
            by_cases h40 : 40 ≤ n
            · have HSy := Lib.hid (HSym.out L 20 40 wr Hr.out (by omega) (by omega) h40 hA.1 hA.2 hB.1 hB.2)
              have HC2 := Lib.hid hC2
              have f4 : (40 : Int) ≤ (n : Int) := by omega
              have f5 : ¬ (80 : Int) ≤ (n : Int) := by omega
              have f6 : ¬ (60 : Int) < (n : Int) := by omega
              clear hpc hA hB hC hC2 hts Hr HSym
              go_wp2
              go_loopw [7, 8] (fun va vb wr2 => (va = .int .i64 0 ∧ vb = .int .i64 40 ∧ wr2 = wr) ∨ (va = .int .i64 40 ∧ vb = .int .i64 80 ∧ ∃ L2, Hid (Two ts L2 40) ∧ Hid (TRow wr2 base g c n L2) ∧ Hid (w.grownBy wr2 (some g)))) (fun va _ _ => 40 - (intOf va).toNat)
              case atStart => exact .inl ⟨rfl, rfl, rfl⟩
              case round =>
                rcases hrel with ⟨rfl, rfl, rfl⟩ | ⟨rfl, rfl, L2, HT2, HR2, HG2⟩
                · go_wp2_with fail
                  refine HSy.out.mono ?_
                  rintro e w2 ⟨_, rfl, ⟨Z2, h1, h2, h3⟩, h4⟩
                  have HT2 : Hid (Two ts (Z2 ++ L.drop 40) 40) := Lib.hid (by
                    have hz : Z2.length = 40 := by rw [h2.length_eq, List.length_take, Hlt.out]; omega
                    refine ⟨by rw [h3.1, Hlt.out], ?_, ?_⟩
                    · rw [List.take_left' hz]; exact ⟨h1, h2⟩
                    · rw [List.drop_left' hz]; exact HC2.out)
                  have HR2 := Lib.hid h3
                  have HG2 := Lib.hid (Hg.out.trans h4)
                  clear h1 h2 h3 h4 HSy
                  go_wp2
                  go_roundw
                  case rel => exact .inr ⟨rfl, rfl, _, HT2, HR2, HG2⟩
                  case measure => simp [intOf]
                · go_wp2
                  go_roundw
                  case rel => exact ⟨40, L2, rfl, Lib.hid (.inr (.inl ⟨rfl, HT2.out⟩)), HR2, HG2⟩
                  case measure => simp [intOf]
            · have HSy := Lib.hid (HSym.out L 20 n wr Hr.out (by omega) hlt (Nat.le_refl _) hA.1 hA.2 (by
                have e := hB.1
                rw [List.take_of_length_le (by rw [List.length_drop, HLn.out]; omega)] at e
                rw [List.take_of_length_le (by rw [List.length_drop, HLn.out]; omega)]; exact e) (by
                have e := hB.2
                rw [List.take_of_length_le (by rw [List.length_drop, HLn.out]; omega), List.take_of_length_le (by rw [List.length_drop, hts]; omega)] at e
                rw [List.take_of_length_le (by rw [List.length_drop, HLn.out]; omega), List.take_of_length_le (by rw [List.length_drop, hts]; omega)]; exact e))
              have f4 : ¬ (40 : Int) ≤ (n : Int) := by omega
              clear hpc hA hB hC hC2 hts Hr HSym
              go_wp2
              go_loopw [7, 8] (fun va vb wr2 => va = .int .i64 0 ∧ vb = .int .i64 40 ∧ wr2 = wr) (fun _ _ _ => 0)
              case atStart => exact ⟨rfl, rfl, rfl⟩
              case round =>
                obtain ⟨rfl, rfl, rfl⟩ := hrel
                go_wp2_with fail
                refine HSy.out.mono ?_
                rintro e w2 ⟨_, rfl, ⟨Z2, h1, h2, h3⟩, h4⟩
                have HT2 : Hid (Two ts (Z2 ++ L.drop n) 40) := Lib.hid (by
                  rw [List.drop_of_length_le (by rw [HLn.out]; omega), List.append_nil]
                  rw [List.take_of_length_le (by rw [Hlt.out]; omega)] at h2
                  have hz : Z2.length = n := by rw [h2.length_eq, Hlt.out]
                  refine ⟨by rw [hz, Hlt.out], ?_, ?_⟩
                  · rw [List.take_of_length_le (by omega), List.take_of_length_le (by rw [Hlt.out]; omega)]; exact ⟨h1, h2⟩
                  · rw [List.drop_of_length_le (by omega), List.drop_of_length_le (by rw [Hlt.out]; omega)]; exact ⟨ByHi.nil, List.Perm.refl _⟩)
                have HR2 := Lib.hid h3
                have HG2 := Lib.hid (Hg.out.trans h4)
                clear h1 h2 h3 h4 HSy
                go_wp2
                go_roundw
                case rel => exact ⟨40, _, rfl, Lib.hid (.inr (.inl ⟨rfl, HT2.out⟩)), HR2, HG2⟩
                case measure => simp [intOf]
          · have hts := Hlt.out
            have HSy := Lib.hid (HSym.out L 40 n wr Hr.out (by omega) hlt (Nat.le_refl _) h2.lo.1 h2.lo.2 (by
              rw [List.take_of_length_le (by rw [List.length_drop, HLn.out]; omega)]; exact h2.hi.1) (by
              rw [List.take_of_length_le (by rw [List.length_drop, HLn.out]; omega), List.take_of_length_le (by rw [List.length_drop, hts]; omega)]; exact h2.hi.2))
            have f4 : ¬ (80 : Int) ≤ (n : Int) := by omega
            clear h2 hts Hr HSym
            go_wp2
            go_loopw [7, 8] (fun va vb wr2 => va = .int .i64 0 ∧ vb = .int .i64 80 ∧ wr2 = wr) (fun _ _ _ => 0)
            case atStart => exact ⟨rfl, rfl, rfl⟩
            case round =>
              obtain ⟨rfl, rfl, rfl⟩ := hrel
              go_wp2_with fail
              refine HSy.out.mono ?_
              rintro e w2 ⟨_, rfl, ⟨Z2, h1, h2, h3⟩, h4⟩
              have HE : Hid (ByHi (Z2 ++ L.drop n) ∧ (Z2 ++ L.drop n).Perm ts) := Lib.hid (by
                rw [List.drop_of_length_le (by rw [HLn.out]; omega), List.append_nil]
                rw [List.take_of_length_le (by rw [Hlt.out]; omega)] at h2
                exact ⟨h1, h2⟩)
              have HR2 := Lib.hid h3
              have HG2 := Lib.hid (Hg.out.trans h4)
              clear h1 h2 h3 h4 HSy
              go_wp2
              go_roundw
              case rel => exact ⟨80, _, rfl, Lib.hid (.inr (.inr ⟨rfl, HE.out⟩)), HR2, HG2⟩
              case measure => simp [intOf]
          · exfalso; omega
        · have f1 : ¬ (bs : Int) < (n : Int) := by omega
          have HE : Hid (ByHi L ∧ L.Perm ts) := Lib.hid (by
            have hl := HLn.out
            have hts := Hlt.out
            rcases Hs.out with ⟨rfl, hpc⟩ | ⟨rfl, h2⟩ | ⟨rfl, h2⟩
            · have hA := hpc 0 (by omega)
              unfold Pc at hA
              rw [Nat.mul_zero, List.drop_zero, List.drop_zero, List.take_of_length_le (by omega), List.take_of_length_le (by omega)] at hA
              exact hA
            · have h3 := h2.lo
              rw [List.take_of_length_le (by omega), List.take_of_length_le (by omega)] at h3
              exact h3
            · exact h2)
          go_wp2
          go_end0
          exact Ret.mk' rfl ⟨⟨L, HE.out.2, HE.out.1, Hr.out⟩, Hg.out⟩
end Go.Proofs.YtkpmmgeffbhngaaGreatDoor
namespace Go.Proofs.YtkpmmgeffbhngaaGreatDoor
open Go.RowKit Prot
theorem sortStable_any (base : Nat) (v : Value) (ts : List It) (w : World) (hown : w.ownsRow base 67 7 v ts.length (ts.flatMap encIt)) (hn : ts.length ≤ 60) (hb : ∀ t ∈ ts, okI t) (hri : Rise ts) :
    Calls Tryz.prog 82 #[v, .func (.func 83) #[] #[]] w (Ret fun _ w' => (∃ ts' : List It, ts'.Perm ts ∧ ByHi ts' ∧ w'.ownsRow base 67 7 v ts'.length (ts'.flatMap encIt)) ∧ w.grownBy w' v.ownBlock) := by
  by_cases h0 : ts.length = 0
  · have hts := List.length_eq_zero_iff.1 h0
    subst hts
    obtain ⟨A, c, rfl, _⟩ := own_form hown
    have Hown := Lib.hid hown; clear hown
    have hs := Lib.hid (stable_none (.slice A 0 c) c A w rfl)
    go_enter Tryz.func82, Tryz.ntmps82
    go_wp2_with fail
    refine hs.out.mono ?_
    rintro e w1 ⟨_, rfl, rfl⟩
    go_wp2
    go_end0
    exact Ret.mk' rfl ⟨⟨[], List.Perm.refl _, List.Pairwise.nil, Hown.out⟩, World.grownBy.refl _ _⟩
  · obtain ⟨g, c, rfl, _⟩ := hown.form (by omega)
    have hc : ts.length ≤ c := by
      obtain ⟨A, c', e, h⟩ := own_form hown
      injection e with _ _ e; omega
    have hs := stable_any base g c ts.length ts w ⟨rfl, hown⟩ hn hc hb hri
    obtain ⟨n, hnn⟩ : ∃ n, n = ts.length := ⟨_, rfl⟩
    rw [← hnn] at hs ⊢
    have Hs := Lib.hid hs
    have Hn := Lib.hid hnn
    clear hs hnn hown hn hc h0
    go_enter Tryz.func82, Tryz.ntmps82
    go_wp2_with fail
    refine Hs.out.mono ?_
    rintro e w1 ⟨_, rfl, ⟨Z, h1, h2, h3⟩, h4⟩
    have H1 := Lib.hid h1
    have H2 := Lib.hid h2
    have H3 := Lib.hid h3
    have H4 := Lib.hid h4
    clear h1 h2 h3 h4 Hs
    go_wp2
    go_end0
    exact Ret.mk' rfl ⟨⟨Z, H1.out, H2.out, by rw [H3.out.1]; exact H3.out.2⟩, H4.out⟩
end Go.Proofs.YtkpmmgeffbhngaaGreatDoor
