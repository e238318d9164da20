/- ScaleKept. -/
import Derived.Test.YtkjmeeggjmeajaaL2
import Derived.Test.YtkjmeeggjmeajaaPC
namespace Go.Proofs.Ytkjmeeggjmeajaa
open Go.RowKit

theorem metM_hits {l : List Rg} {s : List Int} (h : checkErr l s = 0) : (metM l s).length = hits l s := by
  unfold metM; rw [if_neg (by simp [h])]; exact metUp_hits l s
theorem kept_law {l : List Rg} {ts us : List Tone} (h0 : songErr l = 0) (ht : Sorted l ts) (hu : Sorted l us) {k : Nat} (hk : k ≤ 24) :
    ∃ n m : Nat, (bestT ts k (-1)).1 = n ∧ (bestT us (k + 1) (-1)).1 = m ∧ n ≤ l.length ∧ n ≤ m ∧ (n < l.length → n < m) ∧ (outT ts k (-1)).length ≤ k ∧ checkErr l (outT ts k (-1)) = 0 ∧ (metM l (outT ts k (-1))).length = n ∧
      (∀ j, ShortIs l j → (n = l.length ↔ j ≤ k)) ∧ ∀ x, checkErr l x = 0 → x.length ≤ k → (metM l x).length ≤ n := by
  have hg := song_GoodR h0
  obtain ⟨a1, a2, a3, a4, _⟩ := most_facts ht hg k
  obtain ⟨b1, b2, b3, b4, _⟩ := most_facts hu hg (k + 1)
  have hc : checkErr l (outT ts k (-1)) = 0 := (checkErr_iff h0).2 ⟨by omega, a2, a1⟩
  have hle := hits_le l (outT ts k (-1))
  refine ⟨hits l (outT ts k (-1)), hits l (outT us (k + 1) (-1)), a4.symm, b4.symm, hle, ?_, fun hlt => ?_, a3, hc, metM_hits hc, fun j hj => ⟨fun he => ?_, fun hjk => ?_⟩, fun x hx hxk => ?_⟩
  · have := most_best hu hg (k + 1) a1 (by omega); omega
  · have hex : ∃ r ∈ l, ¬ Hit (outT ts k (-1)) r := Classical.byContradiction fun hno => by
      have := (hits_all (l := l) (x := outT ts k (-1))).2 (fun r hr => Classical.byContradiction fun hn => hno ⟨r, hr, hn⟩)
      omega
    obtain ⟨r, hr, hn⟩ := hex
    have h1 := hits_more (hg r hr).2.1 hr hn
    have h2 := putM_len r.2 (outT ts k (-1))
    have := most_best hu hg (k + 1) (putM_rises r.2 a1) (by omega)
    omega
  · have := short_le_right hj ⟨a1, hits_all.1 he⟩; omega
  · obtain ⟨_, x, x1, x2, x3⟩ := hj
    have h1 := most_best ht hg k x1 (by omega)
    rw [hits_all.2 x2] at h1; omega
  · have h1 := most_best ht hg k ((checkErr_iff h0).1 hx).2.2 hxk
    rw [metM_hits hx]; omega

set_option maxRecDepth 100000 in
set_option maxHeartbeats 2000000 in
theorem scaleKept_any (A C : Option Addr) (ca cc : Nat) (l : List Rg) (q : Int) (s : List Int) (w : World) (hl : RangesAt w A l) (hs : IntsAt w C s) (hn : l.length ≤ 9223372036854775807) (hm : s.length ≤ 9223372036854775807) (hq : 0 ≤ q ∧ q ≤ 255) :
    Calls Try.prog 10 #[.slice A l.length ca, .int .u8 q, .slice C s.length cc] w (Ret fun v w' => v = .bool true ∧ Below w.heap.size w w') := by
  have Hl := Lib.hid hl; clear hl
  have Hs := Lib.hid hs; clear hs
  have hf := fine_any A ca l w Hl.out hn
  go_enter Try.func10, Try.ntmps10
  by_cases h0 : songErr l = 0
  · have h24 := song_len24 h0
    rw [show (decide (l.length ≤ 30) && decide (songErr l = 0)) = true by simp [h0]; omega] at hf
    have Hf := Lib.hid hf
    have H0 := Lib.hid h0
    clear hf h0 hn
    go_wp2_with fail
    refine Hf.out.mono ?_
    rintro e w1 ⟨v, rfl, rfl, hq1⟩
    have HB1 : Hid (Below w.heap.size w w1) := Lib.hid (by obtain ⟨q, rfl⟩ := hq1; exact below_drewN (Below.refl _ _) _)
    clear hq1 Hf
    by_cases h2 : 40 < s.length
    · have d3 : (40 : Int) < (s.length : Int) := by omega
      go_wp2_with fail
      refine (works_any _).mono ?_
      rintro e w2 ⟨v, rfl, rfl, hB⟩
      go_wp2
      go_ret
      exact Ret.mk' rfl ⟨rfl, below_trans' HB1.out hB⟩
    · have d3 : ¬ (40 : Int) < (s.length : Int) := by omega
      have hm' : s.length ≤ 40 := by omega
      clear hm
      have hwq : IntKind.i64.wrap q = q := IntWalk.i64_in _ (by omega)
      obtain ⟨k, hk⟩ : ∃ k : Nat, Int.tmod q 24 = (k : Int) := by
        rw [Int.tmod_eq_emod_of_nonneg hq.1]
        exact ⟨(q % 24).toNat, (Int.toNat_of_nonneg (Int.emod_nonneg q (by omega))).symm⟩
      have hk23 : k ≤ 23 := by
        rw [Int.tmod_eq_emod_of_nonneg hq.1] at hk
        have := Int.emod_lt_of_pos q (show (0 : Int) < 24 by omega)
        omega
      have Hc := Lib.hid (mostX_any A ca l k w1 (Hl.out.below HB1.out) (by omega))
      go_wp2_with fail
      refine Hc.out.mono ?_
      rintro e w2 ⟨v, rfl, h2, hB2⟩
      have HB2 := Lib.hid (below_trans' HB1.out hB2)
      clear hB2 Hc
      rcases h2 with h2 | h2 | ⟨_, k2, hk2, _, ts, B2, c2, hts, rfl, hI2⟩
      · exact absurd H0.out h2.1
      · exact absurd h2.2.1 (by omega)
      obtain rfl : k = k2 := by omega
      have HI2 := Lib.hid hI2
      clear hI2 hk2
      have hkw : IntKind.i64.wrap ((k : Int) + 1) = (k : Int) + 1 := IntWalk.i64_in _ (by omega)
      have Hc := Lib.hid (mostX_any A ca l ((k : Int) + 1) w2 (Hl.out.below HB2.out) (by omega))
      go_wp2_with fail
      refine Hc.out.mono ?_
      rintro e w3 ⟨v, rfl, h3, hB3⟩
      have HB3 := Lib.hid (below_trans' HB2.out hB3)
      replace HI2 := Lib.hid (HI2.out.below hB3)
      clear hB3 Hc
      rcases h3 with h3 | h3 | ⟨_, k3, hk3, _, us, B3, c3, hus, rfl, hI3⟩
      · exact absurd H0.out h3.1
      · exact absurd h3.2.1 (by omega)
      obtain rfl : k3 = k + 1 := by omega
      clear hI3 hk3
      obtain ⟨n, m, e1, e2, e3, e4, e5, e6, e7, e8, e9, e10⟩ := kept_law H0.out hts hus (k := k) (by omega)
      rw [e1, e2]
      generalize (outT us (k + 1) (-1)).length = sl3
      generalize outT ts k (-1) = s2 at HI2 e6 e7 e8 ⊢
      clear e1 e2 hts hus
      have E7 := Lib.hid e7
      have E8 := Lib.hid e8
      have E9 := Lib.hid e9
      have E10 := Lib.hid e10
      clear e7 e8 e9 e10
      have Hc := Lib.hid (fewest_any A ca l w3 (Hl.out.below HB3.out) (by omega))
      go_wp2_with fail
      refine Hc.out.mono ?_
      rintro e w4 ⟨v, rfl, h4, hB4⟩
      have HB4 := Lib.hid (below_trans' HB3.out hB4)
      replace HI2 := Lib.hid (HI2.out.below hB4)
      clear hB4 Hc
      rcases h4 with h4 | ⟨_, ts, B4, c4, s4, n4, hts, rfl, hn4, ho4⟩
      · exact absurd H0.out h4.1
      have hs4 := (highGo_hi hts (song_GoodR H0.out) hn4).1
      have hsh := hiAt_short hts (song_GoodR H0.out)
      rw [← hs4] at hsh
      have hiff := E9.out _ hsh
      have hs24 : s4.length ≤ l.length := by
        have h1 := (greedy_sub ts (-1)).length_le
        rw [ts_len hts] at h1
        rw [hs4]; unfold hiAt; rw [List.length_map]; exact h1
      generalize s4.length = j at hiff hs24
      have Hiff := Lib.hid hiff
      clear ho4 hts hs4 hn4 hsh hiff
      have hc := met2_any A B2 ca c2 l s2 w4 (Hl.out.below HB4.out) HI2.out (by omega) (by omega)
      rw [E7.out, E8.out] at hc
      have HK := Lib.hid hc
      clear hc
      have Hc := Lib.hid (HK.out)
      go_wp2_with fail
      refine Hc.out.mono ?_
      rintro e w5 ⟨v, rfl, ⟨C5, c5, rfl, hc5, hI5⟩, hB5⟩
      have HB5 := Lib.hid (below_trans' HB4.out hB5)
      clear hB5 Hc
      clear HK hI5 hc5
      have d1 : ¬ (k : Int) < (s2.length : Int) := by omega
      have d2 : ¬ (l.length : Int) < (n : Int) := by omega
      have d4 : ¬ (m : Int) < (n : Int) := by omega
      have hc := met2_any A C ca cc l s w5 (Hl.out.below HB5.out) (Hs.out.below HB5.out) (by omega) (by omega)
      have hlast : checkErr l s = 0 → s.length ≤ k → (metM l s).length ≤ n := fun h h' => E10.out s h h'
      have hml := metM_len l s
      generalize (metM l s).length = ml at hc hlast hml
      generalize checkErr l s = e9 at hc hlast
      have HK := Lib.hid hc
      have Hlast := Lib.hid hlast
      clear hc hlast E10
      by_cases hnl : n < l.length
      · have d5 : (n : Int) < (l.length : Int) := by omega
        have d6 : ((m : Int) == (n : Int)) = false := by have := e5 hnl; simp; omega
        have d7 : ((n : Int) == (l.length : Int)) = false := by simp; omega
        have d8 : ¬ (j : Int) ≤ (k : Int) := by have := Hiff.out; omega
        have Hnl := Lib.hid hnl
        clear hnl
        have Hc := Lib.hid (HK.out)
        go_wp2_with fail
        refine Hc.out.mono ?_
        rintro e w6 ⟨v, rfl, ⟨C6, c6, rfl, hc6, hI6⟩, hB6⟩
        have HB6 := Lib.hid (below_trans' HB5.out hB6)
        clear hB6 Hc
        clear HK hI6 hc6
        by_cases q1 : e9 = 0
        · have d9 : (e9 != 0) = false := by simp [q1]
          by_cases q2 : k < s.length
          · have d10 : (k : Int) < (s.length : Int) := by omega
            have Q1 := Lib.hid q1
            have Q2 := Lib.hid q2
            clear q1 q2
            go_wp2_with fail
            refine (works_any _).mono ?_
            rintro e wz ⟨v, rfl, rfl, hBz⟩
            go_wp2
            go_ret
            exact Ret.mk' rfl ⟨rfl, below_trans' HB6.out hBz⟩
          · have d10 : ¬ (k : Int) < (s.length : Int) := by omega
            have d11 : (ml : Int) ≤ (n : Int) := by have := Hlast.out q1 (by omega); omega
            have Q1 := Lib.hid q1
            have Q2 := Lib.hid q2
            clear q1 q2
            go_wp2_with fail
            refine (works_any _).mono ?_
            rintro e wz ⟨v, rfl, rfl, hBz⟩
            go_wp2
            go_ret
            exact Ret.mk' rfl ⟨rfl, below_trans' HB6.out hBz⟩
        · have d9 : (e9 != 0) = true := by simp [q1]
          have Q1 := Lib.hid q1
          clear q1
          go_wp2_with fail
          refine (works_any _).mono ?_
          rintro e wz ⟨v, rfl, rfl, hBz⟩
          go_wp2
          go_ret
          exact Ret.mk' rfl ⟨rfl, below_trans' HB6.out hBz⟩
      · have d5 : ¬ (n : Int) < (l.length : Int) := by omega
        have hnl' : n = l.length := by omega
        have d7 : ((n : Int) == (l.length : Int)) = true := by simp; omega
        have d8 : (j : Int) ≤ (k : Int) := by have := Hiff.out; omega
        have Hnl := Lib.hid hnl'
        clear hnl hnl'
        have Hc := Lib.hid (HK.out)
        go_wp2_with fail
        refine Hc.out.mono ?_
        rintro e w6 ⟨v, rfl, ⟨C6, c6, rfl, hc6, hI6⟩, hB6⟩
        have HB6 := Lib.hid (below_trans' HB5.out hB6)
        clear hB6 Hc
        clear HK hI6 hc6
        by_cases q1 : e9 = 0
        · have d9 : (e9 != 0) = false := by simp [q1]
          by_cases q2 : k < s.length
          · have d10 : (k : Int) < (s.length : Int) := by omega
            have Q1 := Lib.hid q1
            have Q2 := Lib.hid q2
            clear q1 q2
            go_wp2_with fail
            refine (works_any _).mono ?_
            rintro e wz ⟨v, rfl, rfl, hBz⟩
            go_wp2
            go_ret
            exact Ret.mk' rfl ⟨rfl, below_trans' HB6.out hBz⟩
          · have d10 : ¬ (k : Int) < (s.length : Int) := by omega
            have d11 : (ml : Int) ≤ (n : Int) := by have := Hlast.out q1 (by omega); omega
            have Q1 := Lib.hid q1
            have Q2 := Lib.hid q2
            clear q1 q2
            go_wp2_with fail
            refine (works_any _).mono ?_
            rintro e wz ⟨v, rfl, rfl, hBz⟩
            go_wp2
            go_ret
            exact Ret.mk' rfl ⟨rfl, below_trans' HB6.out hBz⟩
        · have d9 : (e9 != 0) = true := by simp [q1]
          have Q1 := Lib.hid q1
          clear q1
          go_wp2_with fail
          refine (works_any _).mono ?_
          rintro e wz ⟨v, rfl, rfl, hBz⟩
          go_wp2
          go_ret
          exact Ret.mk' rfl ⟨rfl, below_trans' HB6.out hBz⟩
  · rw [show (decide (l.length ≤ 30) && decide (songErr l = 0)) = false by simp [h0]] at hf
    have Hf := Lib.hid hf
    clear hf h0 hn
    go_wp2_with fail
    refine Hf.out.mono ?_
    rintro e w1 ⟨v, rfl, rfl, hq1⟩
    have HB1 : Hid (Below w.heap.size w w1) := Lib.hid (by obtain ⟨q, rfl⟩ := hq1; exact below_drewN (Below.refl _ _) _)
    clear hq1 Hf
    go_wp2_with fail
    refine (works_any _).mono ?_
    rintro e w2 ⟨v, rfl, rfl, hB⟩
    go_wp2
    go_ret
    exact Ret.mk' rfl ⟨rfl, below_trans' HB1.out hB⟩
end Go.Proofs.Ytkjmeeggjmeajaa
