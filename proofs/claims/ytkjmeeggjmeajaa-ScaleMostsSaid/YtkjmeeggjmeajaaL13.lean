/- ScaleMosts. -/
import Derived.Test.YtkjmeeggjmeajaaL12
import Derived.Test.YtkjmeeggjmeajaaL7
namespace Go.Proofs.Ytkjmeeggjmeajaa
open Go.RowKit

theorem hits_congr (l : List Rg) {x y : List Int} (h : ∀ z, z ∈ x ↔ z ∈ y) : hits l x = hits l y := by
  unfold hits
  refine List.countP_congr fun r _ => ?_
  rw [hit_iff, hit_iff]
  unfold Hit
  simp only [h]
def riseOf : List Int → List Int
  | [] => []
  | x :: s => putM x (riseOf s)
theorem riseOf_facts : ∀ s : List Int, Rises (riseOf s) ∧ (∀ z, z ∈ riseOf s ↔ z ∈ s) ∧ (riseOf s).length ≤ s.length
  | [] => ⟨List.Pairwise.nil, fun _ => Iff.rfl, Nat.le_refl _⟩
  | x :: s => by
    obtain ⟨h1, h2, h3⟩ := riseOf_facts s
    have := putM_len x (riseOf s)
    refine ⟨putM_rises x h1, fun z => ?_, by simp only [riseOf, List.length_cons]; omega⟩
    simp only [riseOf, putM_mem, h2, List.mem_cons]
theorem nodup_le : ∀ (a b : List Nat), a.Pairwise (· ≠ ·) → (∀ x ∈ a, x ∈ b) → a.length ≤ b.length
  | [], _, _, _ => by simp
  | x :: a, b, h, hs => by
    rw [List.pairwise_cons] at h
    have hx := hs x (by simp)
    have := nodup_le a (b.erase x) h.2 (fun y hy => (List.mem_erase_of_ne (fun e => h.1 y hy e.symm)).2 (hs y (by simp [hy])))
    rw [List.length_erase_of_mem hx] at this
    have := List.length_pos_of_mem hx
    simp only [List.length_cons]; omega
theorem mask_of (p : Nat → Bool) : ∀ n : Nat, ∃ s, s < 2 ^ n ∧ ∀ i, i < n → s.testBit i = p i
  | 0 => ⟨0, by simp, fun i h => by omega⟩
  | n + 1 => by
    obtain ⟨s, h1, h2⟩ := mask_of p n
    have hp : 2 ^ (n + 1) = 2 ^ n + 2 ^ n := by rw [Nat.pow_succ]; omega
    cases hq : p n with
    | true =>
      refine ⟨2 ^ n + s, by omega, fun i hi => ?_⟩
      by_cases e : i = n
      · subst e; rw [Nat.testBit_two_pow_add_eq, Nat.testBit_lt_two_pow h1, hq]; rfl
      · rw [Nat.testBit_two_pow_add_gt (by omega)]; exact h2 i (by omega)
    | false =>
      refine ⟨s, by omega, fun i hi => ?_⟩
      by_cases e : i = n
      · subst e; rw [Nat.testBit_lt_two_pow h1, hq]
      · exact h2 i (by omega)
theorem bitS_test (s i : Nat) : bitS s i = s.testBit i := by unfold bitS; rw [Nat.testBit_eq_decide_div_mod_eq]
theorem mem_endsS {l : List Rg} {s : Nat} {z : Int} : z ∈ endsS l s l.length ↔ ∃ (i : Nat) (hi : i < l.length), bitS s i = true ∧ l[i].2 = z := by
  unfold endsS
  rw [List.mem_map]
  constructor
  · rintro ⟨i, hi, rfl⟩
    obtain ⟨h1, h2⟩ := List.mem_filter.1 hi
    have h1' := List.mem_range.1 h1
    exact ⟨i, h1', h2, by simp [List.getD_eq_getElem?_getD, List.getElem?_eq_getElem h1']⟩
  · rintro ⟨i, hi, h1, rfl⟩
    exact ⟨i, List.mem_filter.2 ⟨List.mem_range.2 hi, h1⟩, by simp [List.getD_eq_getElem?_getD, List.getElem?_eq_getElem hi]⟩
theorem best_law {l : List Rg} {ts : List Tone} (h0 : songErr l = 0) (ht : Sorted l ts) {k m : Nat} (h : BestTo l k (2 ^ l.length) m) : (bestT ts k (-1)).1 = m := by
  have hg := song_GoodR h0
  obtain ⟨a1, a2, a3, a4, a5⟩ := most_facts ht hg k
  have hge : (bestT ts k (-1)).1 ≤ m := by
    have hidx : ∀ y ∈ outT ts k (-1), ∃ i : Nat, i < l.length ∧ (l.getD i (0, 0)).2 = y := fun y hy => by
      obtain ⟨r, hr, e⟩ := a5 y hy
      obtain ⟨i, hi, rfl⟩ := List.mem_iff_getElem.1 hr
      exact ⟨i, hi, by simp [List.getD_eq_getElem?_getD, List.getElem?_eq_getElem hi, e]⟩
    let f : Int → Nat := fun y => if hy : y ∈ outT ts k (-1) then (hidx y hy).choose else 0
    have hf : ∀ y ∈ outT ts k (-1), f y < l.length ∧ (l.getD (f y) (0, 0)).2 = y := fun y hy => by
      have := (hidx y hy).choose_spec
      simp only [f, dif_pos hy]; exact this
    obtain ⟨s, hs, hb⟩ := mask_of (fun i => decide (i ∈ (outT ts k (-1)).map f)) l.length
    have hmem : ∀ z, z ∈ endsS l s l.length ↔ z ∈ outT ts k (-1) := fun z => by
      rw [mem_endsS]
      constructor
      · rintro ⟨i, hi, h1, rfl⟩
        rw [bitS_test, hb i hi] at h1
        obtain ⟨y, hy, e⟩ := List.mem_map.1 (of_decide_eq_true h1)
        have := (hf y hy).2
        rw [e] at this
        rw [show l[i].2 = y by rw [← this]; simp [List.getD_eq_getElem?_getD, List.getElem?_eq_getElem hi]]
        exact hy
      · intro hz
        obtain ⟨h1, h2⟩ := hf z hz
        refine ⟨f z, h1, ?_, ?_⟩
        · rw [bitS_test, hb _ h1]; exact decide_eq_true (List.mem_map.2 ⟨z, hz, rfl⟩)
        · rw [List.getD_eq_getElem?_getD, List.getElem?_eq_getElem h1] at h2; exact h2
    have hlen : (endsS l s l.length).length ≤ k := by
      unfold endsS
      rw [List.length_map]
      refine Nat.le_trans (nodup_le _ ((outT ts k (-1)).map f) ((List.nodup_range).sublist List.filter_sublist) (fun i hi => ?_)) (by rw [List.length_map]; exact a3)
      obtain ⟨h1, h2⟩ := List.mem_filter.1 hi
      rw [bitS_test, hb i (List.mem_range.1 h1)] at h2
      exact of_decide_eq_true h2
    have := h.1 s hs (by omega)
    rw [hits_congr l hmem] at this
    omega
  rcases h.2 with e | ⟨s, _, h2, h3⟩
  · have := (bestT_bound ts k (-1)).1; omega
  · obtain ⟨r1, r2, r3⟩ := riseOf_facts (endsS l s l.length)
    have := most_best ht hg k r1 (by omega)
    rw [hits_congr l r2] at this
    omega

set_option maxRecDepth 100000 in
set_option maxHeartbeats 2000000 in
theorem scaleMosts_any (A : Option Addr) (ca : Nat) (l : List Rg) (st : Int) (w : World) (hl : RangesAt w A l) (hn : l.length ≤ 9223372036854775807) :
    Calls Try.prog 5 #[.slice A l.length ca, .int .i64 st] w (Ret fun v w' => v = .bool true ∧ Below w.heap.size w w') := by
  have Hl := Lib.hid hl; clear hl
  have hg := great_any A ca l.length w hn
  go_enter Try.func5, Try.ntmps5
  by_cases h1 : 30 < l.length
  · rw [decide_eq_true h1] at hg
    have Hg := Lib.hid hg
    clear hg
    go_wp2_with fail
    refine Hg.out.mono ?_
    rintro e w1 ⟨v, rfl, rfl, rfl⟩
    have HB1 := Lib.hid (Below.refl w.heap.size w)
    go_wp2_with fail
    refine (works_any _).mono ?_
    rintro e wz ⟨v, rfl, rfl, hBz⟩
    go_wp2
    go_ret
    exact Ret.mk' rfl ⟨rfl, below_trans' HB1.out hBz⟩
  · rw [decide_eq_false h1] at hg
    have Hg := Lib.hid hg
    clear hg
    by_cases h2 : 9 < l.length ∧ l.length ≤ 24
    · have d1 : (9 : Int) < (l.length : Int) := by omega
      have d2 : (l.length : Int) ≤ 24 := by omega
      go_wp2_with fail
      refine Hg.out.mono ?_
      rintro e w1 ⟨v, rfl, rfl, rfl⟩
      have HB1 := Lib.hid (Below.refl w.heap.size w)
      go_wp2_with fail
      refine (works_any _).mono ?_
      rintro e wz ⟨v, rfl, rfl, hBz⟩
      go_wp2
      go_ret
      exact Ret.mk' rfl ⟨rfl, below_trans' HB1.out hBz⟩
    · have hm := mostX_any A ca l st w Hl.out (by omega)
      have Hm := Lib.hid hm
      clear hm
      by_cases h0 : songErr l = 0
      · have h24 := song_len24 h0
        have d1 : ¬ (9 : Int) < (l.length : Int) := by omega
        have H0 := Lib.hid h0
        clear h0 h1 h2
        go_wp2_with fail
        refine Hg.out.mono ?_
        rintro e w1 ⟨v, rfl, rfl, rfl⟩
        have Hc := Lib.hid (Hm.out)
        go_wp2_with fail
        refine Hc.out.mono ?_
        rintro e w1 ⟨v, rfl, h1, hB1⟩
        have HB1 := Lib.hid (hB1)
        clear hB1 Hc
        clear Hm
        have hcs := refCheckSong_any A ca l w1 (Hl.out.below HB1.out) (by omega)
        rw [H0.out] at hcs
        have HC := Lib.hid hcs
        clear hcs
        rcases h1 with h1 | ⟨_, hst, rfl⟩ | ⟨_, k, rfl, hk, ts, B, c, hts, rfl, hI⟩
        · exact absurd H0.out h1.1
        · have Hc := Lib.hid (HC.out)
          go_wp2_with fail
          refine Hc.out.mono ?_
          rintro e w2 ⟨v, rfl, rfl, hq2⟩
          have hB2 : Below w1.heap.size w1 w2 := by obtain ⟨q, rfl⟩ := hq2; exact below_drewN (Below.refl _ _) _
          clear hq2
          have HB2 := Lib.hid (below_trans' HB1.out hB2)
          clear hB2 Hc
          by_cases hs0 : st < 0
          · have d2 : decide (st < 0) = true := by simpa using hs0
            go_wp2_with fail
            refine (works_any _).mono ?_
            rintro e wz ⟨v, rfl, rfl, hBz⟩
            go_wp2
            go_ret
            exact Ret.mk' rfl ⟨rfl, below_trans' HB2.out hBz⟩
          · have d2 : decide (st < 0) = false := by simpa using hs0
            have d3 : decide (24 < st) = true := by simp; omega
            go_wp2_with fail
            refine (works_any _).mono ?_
            rintro e wz ⟨v, rfl, rfl, hBz⟩
            go_wp2
            go_ret
            exact Ret.mk' rfl ⟨rfl, below_trans' HB2.out hBz⟩
        · obtain ⟨n, m', e1, e2, e3, e4, e5, e6, e7, e8, e9, e10⟩ := kept_law H0.out hts hts (k := k) hk
          have hbl : ∀ m, BestTo l k (2 ^ l.length) m → n = m := fun m hm => by
            have := best_law H0.out hts hm
            omega
          rw [e1]
          generalize outT ts k (-1) = s2 at hI e6 e7 e8 ⊢
          have HI := Lib.hid hI
          have E7 := Lib.hid e7
          have E8 := Lib.hid e8
          have HBL := Lib.hid hbl
          clear e1 e2 e4 e5 e7 e8 e9 e10 hI hbl hts
          have Hc := Lib.hid (HC.out)
          go_wp2_with fail
          refine Hc.out.mono ?_
          rintro e w2 ⟨v, rfl, rfl, hq2⟩
          have hB2 : Below w1.heap.size w1 w2 := by obtain ⟨q, rfl⟩ := hq2; exact below_drewN (Below.refl _ _) _
          clear hq2
          have HB2 := Lib.hid (below_trans' HB1.out hB2)
          replace HI := Lib.hid (HI.out.below hB2)
          clear hB2 Hc
          have d2 : decide ((k : Int) < 0) = false := by simp
          have d3 : decide (24 < (k : Int)) = false := by simp; omega
          have hc := refMet_any A B ca c l s2 w2 (Hl.out.below HB2.out) HI.out (by omega) (by omega)
          rw [E7.out, E8.out] at hc
          have HK := Lib.hid hc
          clear hc HC
          have Hc := Lib.hid (HK.out)
          go_wp2_with fail
          refine Hc.out.mono ?_
          rintro e w3 ⟨v, rfl, ⟨C3, c3, rfl, hc3, hI3⟩, hB3⟩
          have HB3 := Lib.hid (below_trans' HB2.out hB3)
          clear hB3 Hc
          clear HK hI3 hc3
          have d4 : (s2.length : Int) ≤ (k : Int) := by omega
          have Hc := Lib.hid (best_any A ca l k w3 (Hl.out.below HB3.out) (by omega))
          go_wp2_with fail
          refine Hc.out.mono ?_
          rintro e w4 ⟨v, rfl, ⟨m4, rfl, hm4⟩, hB4⟩
          have HB4 := Lib.hid (below_trans' HB3.out hB4)
          clear hB4 Hc
          obtain rfl : n = m4 := HBL.out m4 hm4
          clear hm4 HBL
          go_wp2_with fail
          refine (works_any _).mono ?_
          rintro e wz ⟨v, rfl, rfl, hBz⟩
          go_wp2
          go_ret
          exact Ret.mk' rfl ⟨rfl, below_trans' HB4.out hBz⟩
      · have hes : (songErr l != 0) = true := by simpa using h0
        have HE := Lib.hid h0
        have hl30 : l.length ≤ 30 := by omega
        have hpre : (decide (9 < (l.length : Int)) && decide ((l.length : Int) ≤ 24)) = false := by
          by_cases h9 : 9 < l.length
          · rw [decide_eq_false (show ¬ (l.length : Int) ≤ 24 by omega), Bool.and_false]
          · rw [decide_eq_false (show ¬ (9 : Int) < (l.length : Int) by omega), Bool.false_and]
        clear h0
        by_cases h9 : 9 < l.length
        · have d1 : (9 : Int) < (l.length : Int) := by omega
          have d2 : ¬ (l.length : Int) ≤ 24 := by omega
          clear h1 h2 hpre
          go_wp2_with fail
          refine Hg.out.mono ?_
          rintro e w1 ⟨v, rfl, rfl, rfl⟩
          have Hc := Lib.hid (Hm.out)
          go_wp2_with fail
          refine Hc.out.mono ?_
          rintro e w1 ⟨v, rfl, h1, hB1⟩
          have HB1 := Lib.hid (hB1)
          clear hB1 Hc
          rcases h1 with ⟨_, rfl⟩ | h1 | h1
          rotate_left
          · exact absurd h1.1 HE.out
          · exact absurd h1.1 HE.out
          have Hc := Lib.hid (refCheckSong_any A ca l w1 (Hl.out.below HB1.out) (by omega))
          go_wp2_with fail
          refine Hc.out.mono ?_
          rintro e w2 ⟨v, rfl, rfl, hq2⟩
          have hB2 : Below w1.heap.size w1 w2 := by obtain ⟨q, rfl⟩ := hq2; exact below_drewN (Below.refl _ _) _
          clear hq2
          have HB2 := Lib.hid (below_trans' HB1.out hB2)
          clear hB2 Hc
          have Hc := Lib.hid (refCheckSong_any A ca l w2 (Hl.out.below HB2.out) (by omega))
          go_wp2_with fail
          refine Hc.out.mono ?_
          rintro e w3 ⟨v, rfl, rfl, hq3⟩
          have hB3 : Below w2.heap.size w2 w3 := by obtain ⟨q, rfl⟩ := hq3; exact below_drewN (Below.refl _ _) _
          clear hq3
          have HB3 := Lib.hid (below_trans' HB2.out hB3)
          clear hB3 Hc
          go_wp2_with fail
          refine (works_any _).mono ?_
          rintro e wz ⟨v, rfl, rfl, hBz⟩
          go_wp2
          go_ret
          exact Ret.mk' rfl ⟨rfl, below_trans' HB3.out hBz⟩
        · have d1 : ¬ (9 : Int) < (l.length : Int) := by omega
          clear h1 h2 hpre
          go_wp2_with fail
          refine Hg.out.mono ?_
          rintro e w1 ⟨v, rfl, rfl, rfl⟩
          have Hc := Lib.hid (Hm.out)
          go_wp2_with fail
          refine Hc.out.mono ?_
          rintro e w1 ⟨v, rfl, h1, hB1⟩
          have HB1 := Lib.hid (hB1)
          clear hB1 Hc
          rcases h1 with ⟨_, rfl⟩ | h1 | h1
          rotate_left
          · exact absurd h1.1 HE.out
          · exact absurd h1.1 HE.out
          have Hc := Lib.hid (refCheckSong_any A ca l w1 (Hl.out.below HB1.out) (by omega))
          go_wp2_with fail
          refine Hc.out.mono ?_
          rintro e w2 ⟨v, rfl, rfl, hq2⟩
          have hB2 : Below w1.heap.size w1 w2 := by obtain ⟨q, rfl⟩ := hq2; exact below_drewN (Below.refl _ _) _
          clear hq2
          have HB2 := Lib.hid (below_trans' HB1.out hB2)
          clear hB2 Hc
          have Hc := Lib.hid (refCheckSong_any A ca l w2 (Hl.out.below HB2.out) (by omega))
          go_wp2_with fail
          refine Hc.out.mono ?_
          rintro e w3 ⟨v, rfl, rfl, hq3⟩
          have hB3 : Below w2.heap.size w2 w3 := by obtain ⟨q, rfl⟩ := hq3; exact below_drewN (Below.refl _ _) _
          clear hq3
          have HB3 := Lib.hid (below_trans' HB2.out hB3)
          clear hB3 Hc
          go_wp2_with fail
          refine (works_any _).mono ?_
          rintro e wz ⟨v, rfl, rfl, hBz⟩
          go_wp2
          go_ret
          exact Ret.mk' rfl ⟨rfl, below_trans' HB3.out hBz⟩
end Go.Proofs.Ytkjmeeggjmeajaa
