/- ScaleProved. -/
import Derived.Test.YtkjmeeggjmeajaaL4
import Derived.Test.YtkjmeeggjmeajaaL5
namespace Go.Proofs.Ytkjmeeggjmeajaa
open Go.RowKit

theorem scaleErr_right {l : List Rg} {x : List Int} (h0 : songErr l = 0) (h : scaleErr l x = 0) : Right l x := by
  obtain ⟨⟨_, _, h1⟩, h2⟩ := (scaleErr_iff h0).1 h
  exact ⟨h1, h2⟩
theorem right_scaleErr {l : List Rg} {x : List Int} (h0 : songErr l = 0) (h : Right l x) (hc : InCents x) (hn : x.length ≤ 24) : scaleErr l x = 0 := (scaleErr_iff h0).2 ⟨⟨hn, hc, h.1⟩, h.2⟩
theorem apart_names_le {l : List Rg} {t x : List Int} (h0 : songErr l = 0) (h : apartErr l t = 0) (hx : Right l x) : t.length ≤ x.length := by
  obtain ⟨_, h2, h3⟩ := (apartErr_iff h0).1 h
  have := apart_le (t.map (atL l)) x (by rw [List.pairwise_map]; exact h3.imp fun {a b} k => apartR_symm k) (fun r hr => by
    obtain ⟨i, hi, rfl⟩ := List.mem_map.1 hr
    obtain ⟨i0, i1⟩ := h2 i hi
    obtain ⟨i, rfl⟩ := Int.eq_ofNat_of_zero_le i0
    have : i < l.length := by omega
    refine hx.2 _ ?_
    simp only [atL, Int.toNat_natCast, List.getD_eq_getElem?_getD, List.getElem?_eq_getElem this, Option.getD_some]
    exact List.getElem_mem this)
  rwa [List.length_map] at this

set_option maxRecDepth 100000 in
set_option maxHeartbeats 2000000 in
theorem scaleProved_any (A B C D : Option Addr) (ca cb cc cd : Nat) (l : List Rg) (u s t : List Int) (w : World) (hl : RangesAt w A l) (hu : U16At w B u) (hs : IntsAt w C s) (ht : IntsAt w D t) (hn : l.length ≤ 9223372036854775807) (hun : u.length ≤ 9223372036854775807) (hm : s.length ≤ 9223372036854775807) (htn : t.length ≤ 9223372036854775807) (hcd : t.length ≤ cd) (hu2 : ∀ x ∈ u, 0 ≤ x ∧ x ≤ 65535) :
    Calls Try.prog 12 #[.slice A l.length ca, .slice B u.length cb, .slice C s.length cc, .slice D t.length cd] w (Ret fun v w' => v = .bool true ∧ Below w.heap.size w w') := by
  have Hl := Lib.hid hl; clear hl
  have Hu := Lib.hid hu; clear hu
  have Hs := Lib.hid hs; clear hs
  have Ht := Lib.hid ht; clear ht
  have Hu2 := Lib.hid hu2; clear hu2
  have Hcd := Lib.hid hcd; clear hcd
  have hf := fine_any A ca l w Hl.out hn
  go_enter Try.func12, Try.ntmps12
  by_cases h0 : songErr l = 0
  · have h24 := song_len24 h0
    rw [show (decide (l.length ≤ 30) && decide (songErr l = 0)) = true by simp [h0]; omega] at hf
    have Hf := Lib.hid hf
    have H0 := Lib.hid h0
    clear hf h0 hn
    have Hc := Lib.hid (Hf.out)
    go_wp2_with fail
    refine Hc.out.mono ?_
    rintro e w1 ⟨v, rfl, rfl, hq1⟩
    have hB1 : Below w.heap.size w w1 := by obtain ⟨q, rfl⟩ := hq1; exact below_drewN (Below.refl _ _) _
    clear hq1
    have HB1 := Lib.hid (hB1)
    clear hB1 Hc
    clear Hf
    by_cases k1 : 40 < u.length
    · have d1 : (40 : Int) < (u.length : Int) := by omega
      go_wp2_with fail
      refine (works_any _).mono ?_
      rintro e wz ⟨v, rfl, rfl, hBz⟩
      go_wp2
      go_ret
      exact Ret.mk' rfl ⟨rfl, below_trans' HB1.out hBz⟩
    · have d1 : ¬ (40 : Int) < (u.length : Int) := by omega
      by_cases k2 : 40 < s.length
      · have d2 : (40 : Int) < (s.length : Int) := by omega
        go_wp2_with fail
        refine (works_any _).mono ?_
        rintro e wz ⟨v, rfl, rfl, hBz⟩
        go_wp2
        go_ret
        exact Ret.mk' rfl ⟨rfl, below_trans' HB1.out hBz⟩
      · have d2 : ¬ (40 : Int) < (s.length : Int) := by omega
        by_cases k3 : 40 < t.length
        · have d3 : (40 : Int) < (t.length : Int) := by omega
          go_wp2_with fail
          refine (works_any _).mono ?_
          rintro e wz ⟨v, rfl, rfl, hBz⟩
          go_wp2
          go_ret
          exact Ret.mk' rfl ⟨rfl, below_trans' HB1.out hBz⟩
        · have d3 : ¬ (40 : Int) < (t.length : Int) := by omega
          have hun' : u.length ≤ 40 := by omega
          have hm' : s.length ≤ 40 := by omega
          have htn' : t.length ≤ 40 := by omega
          clear hun hm htn
          have Hc := Lib.hid (fewest_any A ca l w1 (Hl.out.below HB1.out) (by omega))
          go_wp2_with fail
          refine Hc.out.mono ?_
          rintro e w2 ⟨v, rfl, h4, hB2⟩
          have HB2 := Lib.hid (below_trans' HB1.out hB2)
          clear hB2 Hc
          rcases h4 with h4 | ⟨_, ts, B4, c4, s4, n4, hts, rfl, hn4, ho4⟩
          · exact absurd H0.out h4.1
          have hs4 := (highGo_hi hts (song_GoodR H0.out) hn4).1
          have HI4 : Hid (IntsAt w2 B4 s4) := Lib.hid (RowsAt.of_own encI_len ho4)
          have Hts := Lib.hid hts
          have Hs4 := Lib.hid hs4
          clear ho4 hts hs4 hn4
          have Hc := Lib.hid (apart_any A ca l w2 (Hl.out.below HB2.out) (by omega))
          go_wp2_with fail
          refine Hc.out.mono ?_
          rintro e w3 ⟨v, rfl, h5, hB3⟩
          have HB3 := Lib.hid (below_trans' HB2.out hB3)
          replace HI4 := Lib.hid (HI4.out.below hB3)
          clear hB3 Hc
          rcases h5 with h5 | ⟨_, ts5, g5, c5, n5, hts5, rfl, hn5, hnc5, hI5⟩
          · exact absurd H0.out h5.1
          have hn5' : n5 = sortI (namesAt ts5) := by rw [hn5, highGo_open _ _ _ _ (sorted_good hts5 (song_GoodR H0.out))]; rfl
          have hsh := hiAt_short Hts.out (song_GoodR H0.out)
          rw [← Hs4.out] at hsh
          have hnn : n5.length = s4.length := by rw [hn5', names_len]; exact (short_hi H0.out hts5 hsh).symm
          have hR4 : Right l s4 := by rw [Hs4.out]; exact hiAt_right Hts.out (song_GoodR H0.out)
          have hsc4 : scaleErr l s4 = 0 := by rw [Hs4.out]; exact hiAt_scale H0.out Hts.out
          have hap5 : apartErr l n5 = 0 := by rw [hn5']; exact names_apart H0.out hts5
          have h424 := ((scaleErr_iff H0.out).1 hsc4).1.1
          have HI5 := Lib.hid hI5
          have HC5 := Lib.hid hnc5
          have Hts5 := Lib.hid hts5
          have Hsh := Lib.hid hsh
          have HR4 := Lib.hid hR4
          have hk1 := checkScale_any A B4 ca c4 l s4 w3 (Hl.out.below HB3.out) HI4.out (by omega) (by omega)
          rw [hsc4] at hk1
          have HK1 := Lib.hid hk1
          have HSC4 := Lib.hid hsc4
          have HAP5 := Lib.hid hap5
          have HNN := Lib.hid hnn
          rw [hnn]
          clear hI5 hts5 hn5' hn5 hnc5 hsh hR4 hk1 hsc4 hap5 hnn
          obtain ⟨n, hnl⟩ : ∃ n, n = s4.length := ⟨_, rfl⟩
          have HNL := Lib.hid hnl
          rw [← hnl] at HNN HK1 h424
          rw [← hnl]
          clear hnl
          have Hc := Lib.hid (HK1.out)
          go_wp2_with fail
          refine Hc.out.mono ?_
          rintro e w4 ⟨v, rfl, rfl, hB4⟩
          have HB4 := Lib.hid (below_trans' HB3.out hB4)
          replace HI4 := Lib.hid (HI4.out.below hB4)
          replace HI5 := Lib.hid (HI5.out.below hB4)
          clear hB4 Hc
          clear HK1
          have hk1 := refCheckScale_any A B4 ca c4 l s4 w4 (Hl.out.below HB4.out) HI4.out (by omega) (by rw [← HNL.out]; omega)
          rw [HSC4.out, ← HNL.out] at hk1
          have HK1 := Lib.hid hk1
          clear hk1
          have Hc := Lib.hid (HK1.out)
          go_wp2_with fail
          refine Hc.out.mono ?_
          rintro e w5 ⟨v, rfl, rfl, hB5⟩
          have HB5 := Lib.hid (below_trans' HB4.out hB5)
          replace HI5 := Lib.hid (HI5.out.below hB5)
          clear hB5 Hc
          clear HK1
          have hk1 := checkApart_any A (some ⟨g5, 0, none⟩) ca c5 l n5 w5 (Hl.out.below HB5.out) HI5.out (by omega) (by rw [HNN.out]; omega) HC5.out
          rw [HAP5.out, HNN.out] at hk1
          have HK1 := Lib.hid hk1
          clear hk1
          have Hc := Lib.hid (HK1.out)
          go_wp2_with fail
          refine Hc.out.mono ?_
          rintro e w6 ⟨v, rfl, rfl, hB6⟩
          have HB6 := Lib.hid (below_trans' HB5.out hB6)
          replace HI5 := Lib.hid (HI5.out.below hB6)
          clear hB6 Hc
          clear HK1
          have hk1 := refCheckApart_any A (some ⟨g5, 0, none⟩) ca c5 l n5 w6 (Hl.out.below HB6.out) HI5.out (by omega) (by rw [HNN.out]; omega)
          rw [HAP5.out, HNN.out] at hk1
          have HK1 := Lib.hid hk1
          clear hk1
          have Hc := Lib.hid (HK1.out)
          go_wp2_with fail
          refine Hc.out.mono ?_
          rintro e w7 ⟨v, rfl, rfl, hB7⟩
          have HB7 := Lib.hid (below_trans' HB6.out hB7)
          clear hB7 Hc
          clear HK1
          have Hc := Lib.hid (by_any A B ca cb l u w7 (Hl.out.below HB7.out) (Hu.out.below HB7.out) H0.out (by omega) Hu2.out)
          go_wp2_with fail
          refine Hc.out.mono ?_
          rintro e w8 ⟨v, rfl, ⟨C8, c8, x, rfl, hx8, hI8, hR8, hC8, hl8⟩, hB8⟩
          have HB8 := Lib.hid (below_trans' HB7.out hB8)
          clear hB8 Hc
          have hxn : n ≤ x.length := by rw [HNL.out]; exact short_le_right Hsh.out hR8
          have hk1 := checkScale_any A C8 ca c8 l x w8 (Hl.out.below HB8.out) hI8 (by omega) (by omega)
          rw [right_scaleErr H0.out hR8 hC8 (by omega)] at hk1
          have HK1 := Lib.hid hk1
          clear hk1 hI8 hR8 hC8 hx8
          have Hc := Lib.hid (HK1.out)
          go_wp2_with fail
          refine Hc.out.mono ?_
          rintro e w9 ⟨v, rfl, rfl, hB9⟩
          have HB9 := Lib.hid (below_trans' HB8.out hB9)
          clear hB9 Hc
          clear HK1
          have d5 : ¬ (x.length : Int) < (n : Int) := by omega
          have hk1 := checkScale_any A C ca cc l s w9 (Hl.out.below HB9.out) (Hs.out.below HB9.out) (by omega) (by omega)
          have hsl : scaleErr l s = 0 → n ≤ s.length := fun h => by rw [HNL.out]; exact short_le_right Hsh.out (scaleErr_right H0.out h)
          generalize scaleErr l s = e1 at hk1 hsl
          have HK1 := Lib.hid hk1
          have Hsl := Lib.hid hsl
          clear hk1 hsl
          have Hc := Lib.hid (HK1.out)
          go_wp2_with fail
          refine Hc.out.mono ?_
          rintro e w10 ⟨v, rfl, rfl, hB10⟩
          have HB10 := Lib.hid (below_trans' HB9.out hB10)
          clear hB10 Hc
          clear HK1
          have hk1 := checkApart_any A D ca cd l t w10 (Hl.out.below HB10.out) (Ht.out.below HB10.out) (by omega) (by omega) Hcd.out
          have htl : apartErr l t = 0 → t.length ≤ n := fun h => by rw [HNL.out]; exact apart_names_le H0.out h HR4.out
          generalize apartErr l t = e2 at hk1 htl
          have HK1 := Lib.hid hk1
          have Htl := Lib.hid htl
          clear hk1 htl
          by_cases q1 : e1 = 0
          · have d6 : (e1 == 0) = true := by simp [q1]
            have d7 : ¬ (s.length : Int) < (n : Int) := by have := Hsl.out q1; omega
            have Q1 := Lib.hid q1
            clear q1
            have Hc := Lib.hid (HK1.out)
            go_wp2_with fail
            refine Hc.out.mono ?_
            rintro e w11 ⟨v, rfl, rfl, hB11⟩
            have HB11 := Lib.hid (below_trans' HB10.out hB11)
            clear hB11 Hc
            clear HK1
            by_cases q2 : e2 = 0
            · have d8 : (e2 == 0) = true := by simp [q2]
              have d9 : ¬ (n : Int) < (t.length : Int) := by have := Htl.out q2; omega
              have Q2 := Lib.hid q2
              clear q2
              go_wp2_with fail
              refine (works_any _).mono ?_
              rintro e wz ⟨v, rfl, rfl, hBz⟩
              go_wp2
              go_ret
              exact Ret.mk' rfl ⟨rfl, below_trans' HB11.out hBz⟩
            · have d8 : (e2 == 0) = false := by simp [q2]
              have Q2 := Lib.hid q2
              clear q2
              go_wp2_with fail
              refine (works_any _).mono ?_
              rintro e wz ⟨v, rfl, rfl, hBz⟩
              go_wp2
              go_ret
              exact Ret.mk' rfl ⟨rfl, below_trans' HB11.out hBz⟩
          · have d6 : (e1 == 0) = false := by simp [q1]
            have Q1 := Lib.hid q1
            clear q1
            have Hc := Lib.hid (HK1.out)
            go_wp2_with fail
            refine Hc.out.mono ?_
            rintro e w11 ⟨v, rfl, rfl, hB11⟩
            have HB11 := Lib.hid (below_trans' HB10.out hB11)
            clear hB11 Hc
            clear HK1
            by_cases q2 : e2 = 0
            · have d8 : (e2 == 0) = true := by simp [q2]
              have d9 : ¬ (n : Int) < (t.length : Int) := by have := Htl.out q2; omega
              have Q2 := Lib.hid q2
              clear q2
              go_wp2_with fail
              refine (works_any _).mono ?_
              rintro e wz ⟨v, rfl, rfl, hBz⟩
              go_wp2
              go_ret
              exact Ret.mk' rfl ⟨rfl, below_trans' HB11.out hBz⟩
            · have d8 : (e2 == 0) = false := by simp [q2]
              have Q2 := Lib.hid q2
              clear q2
              go_wp2_with fail
              refine (works_any _).mono ?_
              rintro e wz ⟨v, rfl, rfl, hBz⟩
              go_wp2
              go_ret
              exact Ret.mk' rfl ⟨rfl, below_trans' HB11.out hBz⟩
  · rw [show (decide (l.length ≤ 30) && decide (songErr l = 0)) = false by simp [h0]] at hf
    have Hf := Lib.hid hf
    clear hf h0 hn
    have Hc := Lib.hid (Hf.out)
    go_wp2_with fail
    refine Hc.out.mono ?_
    rintro e w1 ⟨v, rfl, rfl, hq1⟩
    have hB1 : Below w.heap.size w w1 := by obtain ⟨q, rfl⟩ := hq1; exact below_drewN (Below.refl _ _) _
    clear hq1
    have HB1 := Lib.hid (hB1)
    clear hB1 Hc
    go_wp2_with fail
    refine (works_any _).mono ?_
    rintro e wz ⟨v, rfl, rfl, hBz⟩
    go_wp2
    go_ret
    exact Ret.mk' rfl ⟨rfl, below_trans' HB1.out hBz⟩
end Go.Proofs.Ytkjmeeggjmeajaa
