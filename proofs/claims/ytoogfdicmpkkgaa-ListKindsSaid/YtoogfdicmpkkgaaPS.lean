/- Plain: how many links a greatest joining has, by sets of right items, as numbers of bits. -/
import Derived.Test.YtoogfdicmpkkgaaPI
import Derived.Laws.Entries
import Derived.Laws.Wrap64
import Derived.IntWalk
namespace Go.Proofs.Ytoogfdicmpkkgaa
open Match

/-! bits -/
def bit (m r : Nat) : Bool := decide (m / 2 ^ r % 2 = 1)
theorem bit_eq (m r : Nat) : bit m r = m.testBit r := by unfold bit; rw [Nat.testBit_eq_decide_div_mod_eq]
theorem testBit_put {m r : Nat} (h : bit m r = false) (j : Nat) : (m + 2 ^ r).testBit j = (decide (j = r) || m.testBit j) := by
  have hq : m / 2 ^ r % 2 = 0 := by unfold bit at h; simp at h; omega
  have e1 : m = 2 ^ r * (m / 2 ^ r) + m % 2 ^ r := (Nat.div_add_mod m (2 ^ r)).symm
  have e2 : m + 2 ^ r = 2 ^ r * (m / 2 ^ r + 1) + m % 2 ^ r := by rw [Nat.mul_add, Nat.mul_one]; omega
  have hb : m % 2 ^ r < 2 ^ r := Nat.mod_lt _ (Nat.two_pow_pos r)
  rw [e2]
  conv => rhs; rw [e1]
  rw [Nat.testBit_two_pow_mul_add _ hb, Nat.testBit_two_pow_mul_add _ hb]
  generalize m / 2 ^ r = q at hq
  by_cases c : j < r
  · rw [if_pos c, if_pos c]
    have : ¬ j = r := by omega
    simp [this]
  · rw [if_neg c, if_neg c]
    by_cases e : j = r
    · subst e
      rw [Nat.sub_self, Nat.testBit_zero]
      simp; omega
    · obtain ⟨k, hk⟩ : ∃ k, j - r = k + 1 := ⟨j - r - 1, by omega⟩
      rw [hk, Nat.testBit_succ, Nat.testBit_succ, show (q + 1) / 2 = q / 2 by omega]
      simp [e]
theorem put_or {m r : Nat} (h : bit m r = false) : m ||| 2 ^ r = m + 2 ^ r := by
  refine Nat.eq_of_testBit_eq fun j => ?_
  rw [testBit_put h, Nat.testBit_or, Nat.testBit_two_pow, Bool.or_comm]
  congr 1
  exact decide_eq_decide.2 eq_comm
theorem put_lt {m r R : Nat} (h : bit m r = false) (hr : r < R) (hm : m < 2 ^ R) : m + 2 ^ r < 2 ^ R := by
  rw [← put_or h]
  exact Nat.or_lt_two_pow hm (Nat.pow_lt_pow_right (by omega) hr)
theorem bit_put {m r : Nat} (h : bit m r = false) (j : Nat) : bit (m + 2 ^ r) j = (decide (j = r) || bit m j) := by rw [bit_eq, bit_eq, testBit_put h]
theorem take_bit {m r : Nat} (h : bit m r = true) : 2 ^ r ≤ m ∧ bit (m - 2 ^ r) r = false := by
  have hq : m / 2 ^ r % 2 = 1 := by unfold bit at h; simpa using h
  have hp := Nat.two_pow_pos r
  have h1 : 1 ≤ m / 2 ^ r := by
    generalize m / 2 ^ r = q at hq
    omega
  have h2 : 2 ^ r ≤ m := (Nat.one_le_div_iff hp).1 h1
  refine ⟨h2, ?_⟩
  have h3 : (m - 2 ^ r) / 2 ^ r = m / 2 ^ r - 1 := by
    rw [show m - 2 ^ r = m - 2 ^ r * 1 by omega, Nat.sub_mul_div]
  unfold bit
  rw [h3]
  simp; omega
theorem bits_or_i64 (m r : Nat) (hm : m < 4096) (hr : r < 12) (h : bit m r = false) : bits .or .i64 (m : Int) ((2 ^ r : Nat) : Int) = ((m + 2 ^ r : Nat) : Int) := by
  have hp : 2 ^ r < 4096 := by
    have : 2 ^ r ≤ 2 ^ 11 := Nat.pow_le_pow_right (by omega) (by omega)
    omega
  have ofi : ∀ a : Nat, a < 4096 → (BitVec.ofInt 64 (a : Int)).toNat = a := fun a ha => by
    rw [BitVec.ofInt_natCast, BitVec.toNat_ofNat]; exact Nat.mod_eq_of_lt (by omega)
  show IntKind.i64.wrap ((BitVec.ofInt 64 (m : Int) ||| BitVec.ofInt 64 ((2 ^ r : Nat) : Int)).toNat : Int) = _
  rw [BitVec.toNat_or, ofi m hm, ofi _ hp, put_or h]
  generalize 2 ^ r = p at hp ⊢
  exact IntWalk.i64_in _ (by omega)

/-! which right items a joining has -/
def Msk (R m : Nat) (M : List Pr) : Prop := ∀ r : Nat, r < R → (bit m r = true ↔ ∃ x ∈ M, x.2 = (r : Int))
/-- the lists of links of E, and how many they are, for each set of right items -/
def BestF (R : Nat) (E : Pr → Prop) (f : Nat → Int) : Prop := ∀ m, m < 2 ^ R → (∃ M, Jn E Nil M ∧ Msk R m M ∧ f m = (M.length : Int)) ∨ f m = -1 ∧ ∀ M, Jn E Nil M → ¬ Msk R m M
theorem nodup_leI : ∀ (a b : List Int), a.Pairwise (· ≠ ·) → (∀ x ∈ a, x ∈ b) → a.length ≤ b.length
  | [], _, _, _ => by simp
  | x :: a, b, h, hs => by
    rw [List.pairwise_cons] at h
    have hx := hs x (by simp)
    have := nodup_leI a (b.erase x) h.2 (fun y hy => (List.mem_erase_of_ne (fun e => h.1 y hy e.symm)).2 (hs y (by simp [hy])))
    rw [List.length_erase_of_mem hx] at this
    have := List.length_pos_of_mem hx
    simp only [List.length_cons]; omega
theorem msk_le {R m : Nat} {E : Pr → Prop} {M M' : List Pr} (hE : ∀ x, E x → 0 ≤ x.2 ∧ x.2 < R) (h : Jn E Nil M) (h2 : Msk R m M) (h' : Msk R m M') : M.length ≤ M'.length := by
  have := nodup_leI (M.map (·.2)) (M'.map (·.2)) (by rw [List.pairwise_map]; exact h.apart.imp fun h => h.2) fun y hy => by
    obtain ⟨x, hx, rfl⟩ := List.mem_map.1 hy
    have hb := hE x (h.links x hx)
    obtain ⟨z, hz, e⟩ := (h' x.2.toNat (by omega)).1 ((h2 x.2.toNat (by omega)).2 ⟨x, hx, by omega⟩)
    exact List.mem_map.2 ⟨z, hz, by omega⟩
  rwa [List.length_map, List.length_map] at this
theorem BestF.val {R : Nat} {E : Pr → Prop} {f : Nat → Int} (h : BestF R E f) (hE : ∀ x, E x → 0 ≤ x.2 ∧ x.2 < R) {m : Nat} (hm : m < 2 ^ R) {M : List Pr} (hM : Jn E Nil M) (hk : Msk R m M) : f m = (M.length : Int) := by
  rcases h m hm with ⟨M', h1, h2, h3⟩ | ⟨_, h1⟩
  · rw [h3, Nat.le_antisymm (msk_le hE h1 h2 hk) (msk_le hE hM hk h2)]
  · exact absurd hk (h1 M hM)
theorem BestF.ge {R : Nat} {E : Pr → Prop} {f : Nat → Int} (h : BestF R E f) {m : Nat} (hm : m < 2 ^ R) : -1 ≤ f m := by
  rcases h m hm with ⟨M', _, _, h3⟩ | ⟨h1, _⟩ <;> omega
theorem BestF.congr {R : Nat} {E E' : Pr → Prop} {f g : Nat → Int} (h : BestF R E f) (he : ∀ x, E x ↔ E' x) (hf : ∀ m, m < 2 ^ R → f m = g m) : BestF R E' g := fun m hm => by
  have : E = E' := funext fun x => propext (he x)
  subst this
  rw [← hf m hm]; exact h m hm
theorem BestF.start (R : Nat) : BestF R (fun _ => False) (fun m => if m = 0 then 0 else -1) := fun m hm => by
  have hnil : ∀ M, Jn (fun _ => False) Nil M → M = [] := fun M h => by
    cases M with
    | nil => rfl
    | cons x M => exact (h.links x (by simp)).elim
  by_cases c : m = 0
  · subst c
    refine .inl ⟨[], ⟨List.Pairwise.nil, by simp, fun _ h => h.elim⟩, fun r _ => ?_, rfl⟩
    unfold bit; simp
  · refine .inr ⟨if_neg c, fun M hM hk => c ?_⟩
    rw [hnil M hM] at hk
    refine Nat.eq_of_testBit_eq fun j => ?_
    rw [Nat.zero_testBit, ← bit_eq]
    by_cases hj : j < R
    · have := hk j hj
      cases hb : bit m j
      · rfl
      · obtain ⟨x, hx, _⟩ := this.1 hb; simp at hx
    · rw [bit_eq]
      exact Nat.testBit_lt_two_pow (Nat.lt_of_lt_of_le hm (Nat.pow_le_pow_right (by omega) (by omega)))
/-- one link more: what the round over the sets has made so far -/
def stepM (f0 : Nat → Int) (r n : Nat) (f : Nat → Int) (m : Nat) : Int :=
  if bit m r = true ∧ m - 2 ^ r < n ∧ 0 ≤ f0 (m - 2 ^ r) then max (f m) (f0 (m - 2 ^ r) + 1) else f m
theorem stepM_zero (f0 : Nat → Int) (r : Nat) (f : Nat → Int) (m : Nat) : stepM f0 r 0 f m = f m := if_neg (by omega)
theorem stepM_hit {f0 : Nat → Int} {r n : Nat} {f : Nat → Int} (h0 : 0 ≤ f0 n) (hb : bit n r = false) (m : Nat) : stepM f0 r (n + 1) f m = if m = n + 2 ^ r then max (f (n + 2 ^ r)) (f0 n + 1) else stepM f0 r n f m := by
  unfold stepM
  have hp := Nat.two_pow_pos r
  by_cases c : m = n + 2 ^ r
  · subst c
    rw [if_pos rfl, if_pos ⟨by rw [bit_put hb]; simp, by omega, by rw [Nat.add_sub_cancel]; exact h0⟩, Nat.add_sub_cancel]
  · rw [if_neg c]
    by_cases d : bit m r = true ∧ m - 2 ^ r < n ∧ 0 ≤ f0 (m - 2 ^ r)
    · rw [if_pos d, if_pos ⟨d.1, by omega, d.2.2⟩]
    · rw [if_neg d, if_neg]
      rintro ⟨d1, d2, d3⟩
      have := (take_bit d1).1
      exact d ⟨d1, by omega, d3⟩
theorem stepM_old {f0 : Nat → Int} {r n : Nat} {f : Nat → Int} : stepM f0 r n f (n + 2 ^ r) = f (n + 2 ^ r) := if_neg (by rintro ⟨_, h, _⟩; omega)
theorem stepM_miss {f0 : Nat → Int} {r n : Nat} {f : Nat → Int} (h : ¬ (0 ≤ f0 n ∧ bit n r = false)) (m : Nat) : stepM f0 r (n + 1) f m = stepM f0 r n f m := by
  unfold stepM
  by_cases d : bit m r = true ∧ m - 2 ^ r < n ∧ 0 ≤ f0 (m - 2 ^ r)
  · rw [if_pos d, if_pos ⟨d.1, by omega, d.2.2⟩]
  · rw [if_neg d, if_neg]
    rintro ⟨d1, d2, d3⟩
    obtain ⟨e1, e2⟩ := take_bit d1
    by_cases e : m - 2 ^ r = n
    · rw [e] at e2 d3; exact h ⟨d3, e2⟩
    · exact d ⟨d1, by omega, d3⟩
theorem BestF.more {R r : Nat} {E0 E E' : Pr → Prop} {f0 f : Nat → Int} {x : Pr} (h0 : BestF R E0 f0) (h : BestF R E f) (hx : x.2 = (r : Int)) (hr : r < R) (hE : ∀ y, E y → 0 ≤ y.2 ∧ y.2 < R) (hE0 : ∀ y, E0 y → E y ∧ y.1 ≠ x.1) (hE1 : ∀ y, E y → y.1 ≠ x.1 → E0 y) (hE' : ∀ y, E' y ↔ E y ∨ y = x) : BestF R E' (stepM f0 r (2 ^ R) f) := fun m hm => by
  have up : ∀ {M}, Jn E Nil M → Jn E' Nil M := fun hM => hM.sub fun y hy => (hE' y).2 (.inl (hM.links y hy))
  have hEb : ∀ y, E' y → 0 ≤ y.2 ∧ y.2 < R := fun y hy => by
    rcases (hE' y).1 hy with h | rfl
    · exact hE y h
    · omega
  have hE0b : ∀ y, E0 y → 0 ≤ y.2 ∧ y.2 < R := fun y hy => hE y (hE0 y hy).1
  -- a joining with x comes of one of E0
  have down : ∀ {M}, Jn E' Nil M → Msk R m M → x ∈ M → bit m r = true ∧ ∃ M0, Jn E0 Nil M0 ∧ Msk R (m - 2 ^ r) M0 ∧ M.length = M0.length + 1 := fun {M} hM hk hxM => by
    have hb := (hk r hr).2 ⟨x, hxM, hx⟩
    obtain ⟨t1, t2⟩ := take_bit hb
    refine ⟨hb, M.filter fun y => !(y == x), ⟨hM.apart.sublist List.filter_sublist, fun y hy => ?_, fun _ h => h.elim⟩, fun s hs => ?_, ?_⟩
    · obtain ⟨y1, y2⟩ := List.mem_filter.1 hy
      have hne : y ≠ x := by simpa using y2
      rcases (hE' y).1 (hM.links y y1) with h | h
      · exact hE1 y h (hM.away y1 hxM hne).1
      · exact absurd h hne
    · have hbp := bit_put t2 s
      rw [show m - 2 ^ r + 2 ^ r = m by omega] at hbp
      by_cases e : s = r
      · subst e
        rw [t2]
        simp only [Bool.false_eq_true, false_iff]
        rintro ⟨y, hy, hy2⟩
        obtain ⟨y1, y2⟩ := List.mem_filter.1 hy
        have hne : y ≠ x := by simpa using y2
        exact (hM.away y1 hxM hne).2 (by rw [hy2, hx])
      · have h1 : bit m s = bit (m - 2 ^ r) s := by rw [hbp]; simp [e]
        rw [← h1, hk s hs]
        constructor
        · rintro ⟨y, hy, hy2⟩
          refine ⟨y, List.mem_filter.2 ⟨hy, ?_⟩, hy2⟩
          have : y ≠ x := fun e2 => by rw [e2, hx] at hy2; omega
          simpa using this
        · rintro ⟨y, hy, hy2⟩
          exact ⟨y, (List.mem_filter.1 hy).1, hy2⟩
    · have h8 := filter_lenP (fun y => y == x) M
      have h9 : (M.filter fun y => y == x).length = 1 := by
        refine Nat.le_antisymm ?_ (List.length_pos_of_mem (List.mem_filter.2 ⟨hxM, by simp⟩))
        have := nodup_leP (M.filter fun y => y == x) [x] (hM.nodup.sublist List.filter_sublist) fun y hy => by simpa using (List.mem_filter.1 hy).2
        simpa using this
      omega
  by_cases c : bit m r = true ∧ m - 2 ^ r < 2 ^ R ∧ 0 ≤ f0 (m - 2 ^ r)
  · obtain ⟨c1, c2, c3⟩ := c
    obtain ⟨t1, t2⟩ := take_bit c1
    rcases h0 (m - 2 ^ r) c2 with ⟨M0, g1, g2, g3⟩ | ⟨g1, _⟩
    · have hM : Jn E' Nil (x :: M0) := ⟨List.pairwise_cons.2 ⟨fun y hy => ⟨fun e => (hE0 y (g1.links y hy)).2 e.symm, fun e => by
          have hb := hE0b y (g1.links y hy)
          have := (g2 r hr).2 ⟨y, hy, by rw [← e, hx]⟩
          rw [t2] at this; cases this⟩, g1.apart⟩, fun y hy => by
        rcases List.mem_cons.1 hy with rfl | hy
        · exact (hE' _).2 (.inr rfl)
        · exact (hE' y).2 (.inl (hE0 y (g1.links y hy)).1), fun _ h => h.elim⟩
      have hk : Msk R m (x :: M0) := fun s hs => by
        have hbp := bit_put t2 s
        rw [show m - 2 ^ r + 2 ^ r = m by omega] at hbp
        rw [hbp, Bool.or_eq_true, decide_eq_true_eq, g2 s hs]
        constructor
        · rintro (e | ⟨y, hy, hy2⟩)
          · exact ⟨x, by simp, by rw [hx, e]⟩
          · exact ⟨y, by simp [hy], hy2⟩
        · rintro ⟨y, hy, hy2⟩
          rcases List.mem_cons.1 hy with rfl | hy
          · left; rw [hx] at hy2; omega
          · exact .inr ⟨y, hy, hy2⟩
      refine .inl ⟨x :: M0, hM, hk, ?_⟩
      unfold stepM
      rw [if_pos ⟨c1, c2, c3⟩, g3, List.length_cons]
      rcases h m hm with ⟨M1, k1, k2, k3⟩ | ⟨k1, _⟩
      · have := msk_le hEb (up k1) k2 hk
        rw [List.length_cons] at this
        omega
      · omega
    · omega
  · have e : stepM f0 r (2 ^ R) f m = f m := if_neg c
    rw [e]
    rcases h m hm with ⟨M1, k1, k2, k3⟩ | ⟨k1, k2⟩
    · exact .inl ⟨M1, up k1, k2, k3⟩
    · refine .inr ⟨k1, fun M hM hk => ?_⟩
      by_cases hxM : x ∈ M
      · obtain ⟨d1, M0, d2, d3, d4⟩ := down hM hk hxM
        have d5 : m - 2 ^ r < 2 ^ R := Nat.lt_of_le_of_lt (Nat.sub_le _ _) hm
        have d6 := h0.val hE0b d5 d2 d3
        exact c ⟨d1, d5, by omega⟩
      · refine k2 M (hM.sub fun y hy => ?_) hk
        rcases (hE' y).1 (hM.links y hy) with h | rfl
        · exact h
        · exact absurd hy hxM
/-! the most of all sets -/
def topF (f : Nat → Int) : Nat → Int
  | 0 => 0
  | n + 1 => max (topF f n) (f n)
theorem topF_is (f : Nat → Int) : ∀ n, 0 ≤ topF f n ∧ (∀ m, m < n → f m ≤ topF f n) ∧ (topF f n = 0 ∨ ∃ m, m < n ∧ f m = topF f n)
  | 0 => ⟨Int.le_refl _, fun m h => by omega, .inl rfl⟩
  | n + 1 => by
    obtain ⟨h1, h2, h3⟩ := topF_is f n
    have e : topF f (n + 1) = max (topF f n) (f n) := rfl
    rw [e]
    refine ⟨by omega, fun m hm => ?_, ?_⟩
    · rcases Nat.lt_succ_iff_lt_or_eq.1 hm with hm | rfl
      · have := h2 m hm; omega
      · omega
    · by_cases c : topF f n ≤ f n
      · exact .inr ⟨n, by omega, by omega⟩
      · rcases h3 with h3 | ⟨m, h4, h5⟩
        · exact .inl (by omega)
        · exact .inr ⟨m, by omega, by omega⟩
/-- the set of a joining's right items -/
theorem msk_ex {R : Nat} {E : Pr → Prop} (hE : ∀ y, E y → 0 ≤ y.2 ∧ y.2 < R) : ∀ {M : List Pr}, Jn E Nil M → ∃ m, m < 2 ^ R ∧ Msk R m M
  | [], _ => ⟨0, Nat.two_pow_pos R, fun r _ => by unfold bit; simp⟩
  | x :: M, h => by
    obtain ⟨m, h1, h2⟩ := msk_ex hE (M := M) ⟨(List.pairwise_cons.1 h.apart).2, fun y hy => h.links y (by simp [hy]), fun _ h => h.elim⟩
    have hb := hE x (h.links x (by simp))
    obtain ⟨r, hr⟩ : ∃ r : Nat, x.2 = (r : Int) := ⟨x.2.toNat, by omega⟩
    have hrR : r < R := by omega
    have hn : bit m r = false := by
      cases hb : bit m r
      · rfl
      · obtain ⟨y, hy, e⟩ := (h2 r hrR).1 hb
        exact absurd (by rw [hr, e]) ((List.pairwise_cons.1 h.apart).1 y hy).2
    refine ⟨m + 2 ^ r, put_lt hn hrR h1, fun s hs => ?_⟩
    rw [bit_put hn, Bool.or_eq_true, decide_eq_true_eq, h2 s hs]
    constructor
    · rintro (e | ⟨y, hy, hy2⟩)
      · exact ⟨x, by simp, by rw [hr, e]⟩
      · exact ⟨y, by simp [hy], hy2⟩
    · rintro ⟨y, hy, hy2⟩
      rcases List.mem_cons.1 hy with rfl | hy
      · left; rw [hr] at hy2; omega
      · exact .inr ⟨y, hy, hy2⟩
theorem BestF.top {R n : Nat} {E : Pr → Prop} {f : Nat → Int} (h : BestF R E f) (hE : ∀ y, E y → 0 ≤ y.2 ∧ y.2 < R) (hn : MostE E n) : topF f (2 ^ R) = (n : Int) := by
  obtain ⟨t1, t2, t3⟩ := topF_is f (2 ^ R)
  obtain ⟨⟨G, g1, g2⟩, g3⟩ := hn
  obtain ⟨m, m1, m2⟩ := msk_ex hE g1
  have h1 := h.val hE m1 g1 m2
  have h2 := t2 m m1
  have h3 : topF f (2 ^ R) ≤ (n : Int) := by
    rcases t3 with e | ⟨k, k1, k2⟩
    · omega
    · rcases h k k1 with ⟨M, l1, l2, l3⟩ | ⟨l1, _⟩
      · have := g3 M l1; omega
      · omega
  omega
end Go.Proofs.Ytoogfdicmpkkgaa
