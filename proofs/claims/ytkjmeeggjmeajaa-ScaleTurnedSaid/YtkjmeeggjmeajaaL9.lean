/- ScaleSpanned. -/
import Derived.Test.YtkjmeeggjmeajaaL6
namespace Go.Proofs.Ytkjmeeggjmeajaa
open Go.RowKit Go.Shelf

theorem ne_sym {a b : Option Nat} (h : a = none ∨ a ≠ b) : b = none ∨ b ≠ a := by
  cases b with
  | none => exact .inl rfl
  | some r => exact .inr (fun e => by rcases h with h | h; rw [h] at e; cases e; exact h e.symm)
theorem own_lt {w : World} {base : Nat} {e : TypeId} {size : Nat} {v : Value} {n : Nat} {xs : List Value} (h : w.ownsRow base e size v n xs) : ∀ r, v.ownBlock = some r → r < w.heap.size := fun r e => by
  obtain ⟨_, _, _, hc⟩ := own_cells h r e
  exact blk_lt hc
theorem apart_push {a b : Option Nat} {g H : Nat} (hD : a = none ∨ a ≠ b) (hat : a = some g ∨ g = H) (hlt : ∀ r, b = some r → r < H) : b = none ∨ b ≠ some g := by
  cases b with
  | none => exact .inl rfl
  | some r =>
    refine .inr (fun e => ?_)
    injection e with e
    subst e
    rcases hat with h | h
    · rcases hD with k | k
      · rw [k] at h; cases h
      · exact k h
    · have := hlt r rfl; omega
theorem lows_snoc {sp : List Rg} {k : Nat} (hk : k < sp.length) {x : Rg} (hx : sp[k] = x) : (sp.take (k + 1)).map (·.1) = (sp.take k).map (·.1) ++ [x.1] := by rw [take_snoc hk hx]; simp
theorem highs_snoc {sp : List Rg} {k : Nat} (hk : k < sp.length) {x : Rg} (hx : sp[k] = x) : (sp.take (k + 1)).map (·.2) = (sp.take k).map (·.2) ++ [x.2] := by rw [take_snoc hk hx]; simp

set_option maxRecDepth 100000 in
set_option maxHeartbeats 2000000 in
theorem scaleSpanned_any (A B C : Option Addr) (ca cb cc : Nat) (l : List Rg) (u s : List Int) (w : World) (hl : RangesAt w A l) (hu : U16At w B u) (hs : IntsAt w C s) (hn : l.length ≤ 9223372036854775807) (hun : u.length ≤ 9223372036854775807) (hm : s.length ≤ 9223372036854775807) (hu2 : ∀ x ∈ u, 0 ≤ x ∧ x ≤ 65535) :
    Calls Try.prog 6 #[.slice A l.length ca, .slice B u.length cb, .slice C s.length cc] w (Ret fun v w' => v = .bool true ∧ Below w.heap.size w w') := by
  have Hl := Lib.hid hl; clear hl
  have Hu := Lib.hid hu; clear hu
  have Hs := Lib.hid hs; clear hs
  have Hu2 := Lib.hid hu2; clear hu2
  have hf := fine_any A ca l w Hl.out hn
  go_enter Try.func6, Try.ntmps6
  by_cases h0 : songErr l = 0
  · have h24 := song_len24 h0
    rw [show (decide (l.length ≤ 30) && decide (songErr l = 0)) = true by simp [h0]; omega] at hf
    have Hf := Lib.hid hf
    have H0 := Lib.hid h0
    clear hf h0 hn
    have Hc := Lib.hid (Hf.out)
    go_wp2_with fail
    refine Hc.out.mono ?_
    rintro e w1 ⟨v, rfl, rfl, hq1⟩
    have hB1 : Below w.heap.size w w1 := by obtain ⟨q, rfl⟩ := hq1; exact below_drewN (Below.refl _ _) _
    clear hq1
    have HB1 := Lib.hid (hB1)
    clear hB1 Hc
    clear Hf
    by_cases k1 : 40 < u.length
    · have d1 : (40 : Int) < (u.length : Int) := by omega
      go_wp2_with fail
      refine (works_any _).mono ?_
      rintro e wz ⟨v, rfl, rfl, hBz⟩
      go_wp2
      go_ret
      exact Ret.mk' rfl ⟨rfl, below_trans' HB1.out hBz⟩
    · have d1 : ¬ (40 : Int) < (u.length : Int) := by omega
      by_cases k2 : 40 < s.length
      · have d2 : (40 : Int) < (s.length : Int) := by omega
        go_wp2_with fail
        refine (works_any _).mono ?_
        rintro e wz ⟨v, rfl, rfl, hBz⟩
        go_wp2
        go_ret
        exact Ret.mk' rfl ⟨rfl, below_trans' HB1.out hBz⟩
      · have d2 : ¬ (40 : Int) < (s.length : Int) := by omega
        have hun' : u.length ≤ 40 := by omega
        have hm' : s.length ≤ 40 := by omega
        clear hun hm
        have Hc := Lib.hid (spans_any A ca l w1 (Hl.out.below HB1.out) (by omega))
        go_wp2_with fail
        refine Hc.out.mono ?_
        rintro e w2 ⟨v, rfl, h2, hB2⟩
        have HB2 := Lib.hid (below_trans' HB1.out hB2)
        clear hB2 Hc
        rcases h2 with h2 | ⟨_, ts, us, B2, c2, sp, hts, hus, hsp, rfl, hsc, hI2⟩
        · exact absurd H0.out h2.1
        have hIS : IsSpans l sp := ⟨ts, us, hts, hus, hsp⟩
        have HIS := Lib.hid hIS
        have HI2 : Hid (RangesAt w2 B2 sp) := Lib.hid hI2
        have HG := Lib.hid (song_GoodR H0.out)
        have hsp24 : sp.length ≤ 24 := by
          obtain ⟨ts, us, ht, _, _, _, _, e⟩ := hIS.ends HG.out
          have h1 := (greedy_sub ts (-1)).length_le
          rw [ts_len ht] at h1
          rw [e]; unfold hiAt; rw [List.length_map]; omega
        clear hts hus hsp hsc hI2 hIS
        have Hc := Lib.hid (fewest_any A ca l w2 (Hl.out.below HB2.out) (by omega))
        go_wp2_with fail
        refine Hc.out.mono ?_
        rintro e w3 ⟨v, rfl, h3, hB3⟩
        have HB3 := Lib.hid (below_trans' HB2.out hB3)
        replace HI2 := Lib.hid (HI2.out.below hB3)
        clear hB3 Hc
        rcases h3 with h3 | ⟨_, ts, B3, c3, s3, n3, hts, rfl, hn3, ho3⟩
        · exact absurd H0.out h3.1
        have hs3 := (highGo_hi hts HG.out hn3).1
        have hR3 : Right l s3 := by rw [hs3]; exact hiAt_right hts HG.out
        have hsc3 : scaleErr l s3 = 0 := by rw [hs3]; exact hiAt_scale H0.out hts
        have hln : s3.length = sp.length := by rw [hs3]; exact (hiAt_short hts HG.out).unique (HIS.out.short HG.out)
        have HI3 : Hid (IntsAt w3 B3 s3) := Lib.hid (RowsAt.of_own encI_len ho3)
        have HSC3 := Lib.hid hsc3
        have HLN := Lib.hid hln
        rw [hln]
        clear hts hn3 ho3 hs3 hR3 hsc3 hln
        obtain ⟨i0, hi0, hz0, hz1, hz2⟩ := info_parts infoI2
        go_wp2
        go_loopw [11, 12, 13] (fun v1 v2 i wr => ∃ k : Nat, k ≤ sp.length ∧ i = .int .i64 k ∧ wr.ownsRow w3.heap.size 2 1 v1 ((sp.take k).map (·.1)).length (((sp.take k).map (·.1)).flatMap encI) ∧ wr.ownsRow w3.heap.size 2 1 v2 ((sp.take k).map (·.2)).length (((sp.take k).map (·.2)).flatMap encI) ∧ Hid (v1.ownBlock = none ∨ v1.ownBlock ≠ v2.ownBlock) ∧ Below w3.heap.size w3 wr) (fun _ _ i _ => sp.length - (intOf i).toNat)
        case atStart => exact ⟨0, by omega, rfl, World.ownsRow_nil _ _ _ _, World.ownsRow_nil _ _ _ _, .inl rfl, Below.refl _ _⟩
        case round =>
          obtain ⟨k, hk, rfl, ho1, ho2, HD, hB⟩ := hrel
          have HB4 := Lib.hid hB
          have HO1 := Lib.hid ho1
          have HO2 := Lib.hid ho2
          clear hB ho1 ho2
          by_cases hkn : k < sp.length
          · obtain ⟨b1, o1, hb1, p1, p2⟩ := HI2.out.at_ hkn
            have q1 := cell_below HB4.out p1
            have q2 := cell_below HB4.out p2
            have hlo := lows_snoc hkn rfl
            have hhi := highs_snoc hkn rfl
            generalize hx : sp[k] = x at p1 p2 q1 q2 hlo hhi
            clear hx
            obtain ⟨x1, x2⟩ := x
            dsimp only at p1 p2 q1 q2 hlo hhi
            have HLO := Lib.hid hlo
            have HHI := Lib.hid hhi
            clear hlo hhi
            subst hb1
            go_wp2
            have hsr := HB4.out.size
            have hT1 : ((sp.take k).map (·.1)).length ≤ 1000 := by simp; omega
            have hT2 : ((sp.take k).map (·.2)).length ≤ 1000 := by simp; omega
            go_region_held3 (fun W => W.cell? ⟨b1, o1 + k * 2, none⟩ = some (.int .i64 x1) ∧ W.cell? ⟨b1, o1 + k * 2 + 1, none⟩ = some (.int .i64 x2))
              (first | exact ⟨q1, q2⟩ | exact ⟨cell_alloc q1 _, cell_alloc q2 _⟩ | exact ⟨cell_alloc (cell_alloc q1 _) _, cell_alloc (cell_alloc q2 _) _⟩ | exact ⟨cell_below hBb p1, cell_below hBb p2⟩ | exact ⟨cell_below hBa p1, cell_below hBa p2⟩ | exact ⟨cell_alloc (cell_below hBa p1) _, cell_alloc (cell_below hBa p2) _⟩)
              (first
                | (refine step_append_lies _ (by rfl) (.tmp 61) (.tmp 67) _ (by rfl) w3.heap.size 2 i0 _ 1 8 Try.underlying23 hi0 hz0 hz1 hz2 rfl (by omega) u11 (((sp.take k).map (·.1))).length ((((sp.take k).map (·.1))).flatMap encI) (by rfl) (by first | exact (HO1.out.alloc _).drew | exact ((HO1.out.alloc _).alloc _).drew | exact HO1.out.alloc _ | exact (HO1.out.alloc _).alloc _) _ 1 1 (encI x1) (by rfl) (by rfl) (World.news_of_block (cs := #[.int .i64 x1]) (t := 2) (fr := (0, 0)) (by first | exact heap_alloc_new wr _ | exact blk_alloc (heap_alloc_new wr _) _ | exact heap_alloc_at _ _ (World.size_alloc _ _))) (oneI _) (by omega) (by simp only [maxLen]; omega) (by omega) (by first | omega | (simp; omega)) _ rfl ?_
                   intro g1 cap1 wa hown1 hg1 hat1 hlt1
                   have hsz1 := hg1.size
                   have hrow2 := World.ownsRow.kept (v := u12) (by first | exact (HO2.out.alloc _).drew | exact ((HO2.out.alloc _).alloc _).drew | exact HO2.out.alloc _ | exact (HO2.out.alloc _).alloc _) hg1 (ne_sym HD.out)
                   have hD1 := apart_push HD.out hat1 (fun r e => by have := own_lt HO2.out r e; simp; omega)
                   have hBa : Below w3.heap.size w3 wa := by first | exact (below_alloc' HB4.out _).drew.grown hg1 (by simp; omega) (fun r e => own_base HO1.out r e) | exact (below_alloc' (below_alloc' HB4.out _) _).drew.grown hg1 (by simp; omega) (fun r e => own_base HO1.out r e)
                   first
                     | have kb : wa.heap[wr.heap.size + 1]? = some (.cells #[.int .i64 x2] 2 (0, 0)) := blk_grown hg1 (by exact heap_alloc_at (wr.alloc _) _ (World.size_alloc _ _)) (by intro e; have := own_lt HO1.out _ e.symm; omega)
                     | have kb : wa.heap[wr.heap.size]? = some (.cells #[.int .i64 x2] 2 (0, 0)) := blk_grown hg1 (blk_alloc (heap_alloc_new wr _) _) (by intro e; have := own_lt HO1.out _ e.symm; omega)
                     | skip
                   have hsa := hBa.size)
                | (refine step_append_lies _ (by rfl) (.tmp 69) (.tmp 75) _ (by rfl) w3.heap.size 2 i0 _ 1 8 Try.underlying23 hi0 hz0 hz1 hz2 rfl (by omega) u12 (((sp.take k).map (·.2))).length ((((sp.take k).map (·.2))).flatMap encI) (by rfl) (by first | exact hrow2.alloc _ | exact (hrow2.alloc _).drew) _ 1 1 (encI x2) (by rfl) (by rfl) (World.news_of_block (cs := #[.int .i64 x2]) (t := 2) (fr := (0, 0)) (by exact heap_alloc_new wa _)) (oneI _) (by omega) (by simp only [maxLen]; omega) (by omega) (by first | omega | (simp; omega)) _ rfl ?_
                   intro g2 cap2 wb hown2 hg2 hat2 hlt2
                   have hsz2 := hg2.size
                   have hrow1 := World.ownsRow.kept (v := .slice (some ⟨g1, 0, none⟩) (((sp.take k).map (·.1)).length + 1) cap1) (by first | exact hown1.alloc _ | exact (hown1.alloc _).drew) hg2 (ne_sym hD1)
                   have hne : g1 ≠ g2 := by
                     intro e
                     rcases hat2 with h | h
                     · rcases hD1 with k | k
                       · rw [k] at h; cases h
                       · exact k (by rw [h, e])
                     · first | omega | (simp at h; omega)
                   have hBb : Below w3.heap.size w3 wb := by first | exact (below_alloc' hBa _).grown hg2 (by simp; omega) (fun r e => own_base HO2.out r e) | exact (below_alloc' hBa _).drew.grown hg2 (by simp; omega) (fun r e => own_base HO2.out r e))
                | (refine step_append_lies _ (by rfl) (.tmp 69) (.tmp 75) _ (by rfl) w3.heap.size 2 i0 _ 1 8 Try.underlying23 hi0 hz0 hz1 hz2 rfl (by omega) u12 (((sp.take k).map (·.2))).length ((((sp.take k).map (·.2))).flatMap encI) (by rfl) (by first | exact hrow2 | exact hrow2.drew) _ 1 1 (encI x2) (by rfl) (by rfl) (World.news_of_block (cs := #[.int .i64 x2]) (t := 2) (fr := (0, 0)) kb) (oneI _) (by omega) (by simp only [maxLen]; omega) (by omega) (by first | omega | (simp; omega)) _ rfl ?_
                   intro g2 cap2 wb hown2 hg2 hat2 hlt2
                   have hsz2 := hg2.size
                   have hrow1 := World.ownsRow.kept (v := .slice (some ⟨g1, 0, none⟩) (((sp.take k).map (·.1)).length + 1) cap1) (by first | exact hown1 | exact hown1.drew) hg2 (ne_sym hD1)
                   have hne : g1 ≠ g2 := by
                     intro e
                     rcases hat2 with h | h
                     · rcases hD1 with k | k
                       · rw [k] at h; cases h
                       · exact k (by rw [h, e])
                     · first | omega | (simp at h; omega)
                   have hBb : Below w3.heap.size w3 wb := by first | exact hBa.grown hg2 (by omega) (fun r e => own_base HO2.out r e) | exact hBa.drew.grown hg2 (by simp; omega) (fun r e => own_base HO2.out r e)))

            all_goals
              have hl1 : ((sp.take k).map (·.1)).length = k := by simp; omega
              have hl2 : ((sp.take k).map (·.2)).length = k := by simp; omega
              have E1 : wb.ownsRow w3.heap.size 2 1 (.slice (some ⟨g1, 0, none⟩) (k + 1) cap1) ((sp.take (k + 1)).map (·.1)).length (((sp.take (k + 1)).map (·.1)).flatMap encI) := by
                rw [hl1] at hrow1
                rw [HLO.out, len_snoc, ← push_flat, hl1]; exact hrow1
              have E2 : wb.ownsRow w3.heap.size 2 1 (.slice (some ⟨g2, 0, none⟩) (k + 1) cap2) ((sp.take (k + 1)).map (·.2)).length (((sp.take (k + 1)).map (·.2)).flatMap encI) := by
                rw [hl2] at hown2
                rw [HHI.out, len_snoc, ← push_flat, hl2]; exact hown2
              have HE1 := Lib.hid E1
              have HE2 := Lib.hid E2
              have HNE := Lib.hid hne
              have HBb := Lib.hid hBb
              clear hown1 hg1 hat1 hlt1 hsz1 hrow2 hD1 hBa hsa hown2 hg2 hat2 hlt2 hsz2 hrow1 hne hBb E1 E2 hl1 hl2 q1 q2 p1 p2
              try clear kb
              go_wp2
              go_roundw
              case rel => exact ⟨k + 1, by omega, by go_num, HE1.out, HE2.out, .inr (by simpa [Value.ownBlock] using HNE.out), HBb.out⟩
              case measure => simp [intOf]; omega
          · have hkl : k = sp.length := by omega
            subst hkl
            have hown1 := HO1.out
            have hown2 := HO2.out
            rw [List.take_length, List.length_map] at hown1 hown2
            obtain ⟨A5, c5, rfl, _⟩ := own_form hown1
            obtain ⟨A6, c6, rfl, _⟩ := own_form hown2
            have HR3 := HIS.out.short HG.out
            obtain ⟨w4, hw4⟩ : ∃ w4, w4 = wr := ⟨_, rfl⟩
            subst hw4
            replace HI2 := Lib.hid (HI2.out.below HB4.out)
            replace HI3 := Lib.hid (HI3.out.below HB4.out)
            replace HB4 := Lib.hid (below_trans' HB3.out HB4.out)
            obtain ⟨lo, hlo⟩ : ∃ lo, lo = sp.map (·.1) := ⟨_, rfl⟩
            obtain ⟨hi, hhi⟩ : ∃ hi, hi = sp.map (·.2) := ⟨_, rfl⟩
            rw [← hlo] at hown1
            rw [← hhi] at hown2
            have hll : lo.length = sp.length := by rw [hlo, List.length_map]
            have hhl : hi.length = sp.length := by rw [hhi, List.length_map]
            have HI5 : Hid (IntsAt w4 A5 lo) := Lib.hid (RowsAt.of_own encI_len (by rw [hll]; exact hown1))
            have HI6 : Hid (IntsAt w4 A6 hi) := Lib.hid (RowsAt.of_own encI_len (by rw [hhl]; exact hown2))
            have hce := HIS.out.cents HG.out
            have hs5 : scaleErr l lo = 0 := right_scaleErr H0.out (by rw [hlo]; exact HIS.out.lows HG.out) (fun y hy => by rw [hlo] at hy; obtain ⟨r, hr, rfl⟩ := List.mem_map.1 hy; have := hce r hr; omega) (by omega)
            have hs6 : scaleErr l hi = 0 := right_scaleErr H0.out (by rw [hhi]; exact HIS.out.highs HG.out) (fun y hy => by rw [hhi] at hy; obtain ⟨r, hr, rfl⟩ := List.mem_map.1 hy; have := hce r hr; omega) (by omega)
            have HS5 := Lib.hid hs5
            have HS6 := Lib.hid hs6
            have HLL := Lib.hid hll
            have HHL := Lib.hid hhl
            clear hlo hhi hll hhl hs5 hs6 hown1 hown2 HO1 HO2 HD hce
            have hk1 := refCheckScale_any A A5 ca c5 l lo w4 (Hl.out.below HB4.out) HI5.out (by omega) (by rw [HLL.out]; omega)
            rw [HS5.out, HLL.out] at hk1
            have HK1 := Lib.hid hk1
            clear hk1
            have Hc := Lib.hid (HK1.out)
            go_wp2_with fail
            refine Hc.out.mono ?_
            rintro e w5 ⟨v, rfl, rfl, hB5⟩
            have HB5 := Lib.hid (below_trans' HB4.out hB5)
            replace HI2 := Lib.hid (HI2.out.below hB5)
            replace HI3 := Lib.hid (HI3.out.below hB5)
            replace HI5 := Lib.hid (HI5.out.below hB5)
            replace HI6 := Lib.hid (HI6.out.below hB5)
            clear hB5 Hc
            clear HK1
            have hk1 := refCheckScale_any A A6 ca c6 l hi w5 (Hl.out.below HB5.out) HI6.out (by omega) (by rw [HHL.out]; omega)
            rw [HS6.out, HHL.out] at hk1
            have HK1 := Lib.hid hk1
            clear hk1
            have Hc := Lib.hid (HK1.out)
            go_wp2_with fail
            refine Hc.out.mono ?_
            rintro e w6 ⟨v, rfl, rfl, hB6⟩
            have HB6 := Lib.hid (below_trans' HB5.out hB6)
            replace HI2 := Lib.hid (HI2.out.below hB6)
            replace HI3 := Lib.hid (HI3.out.below hB6)
            replace HI5 := Lib.hid (HI5.out.below hB6)
            replace HI6 := Lib.hid (HI6.out.below hB6)
            clear hB6 Hc
            clear HK1
            have hk1 := checkScale_any A A5 ca c5 l lo w6 (Hl.out.below HB6.out) HI5.out (by omega) (by rw [HLL.out]; omega)
            rw [HS5.out, HLL.out] at hk1
            have HK1 := Lib.hid hk1
            clear hk1
            have Hc := Lib.hid (HK1.out)
            go_wp2_with fail
            refine Hc.out.mono ?_
            rintro e w7 ⟨v, rfl, rfl, hB7⟩
            have HB7 := Lib.hid (below_trans' HB6.out hB7)
            replace HI2 := Lib.hid (HI2.out.below hB7)
            replace HI3 := Lib.hid (HI3.out.below hB7)
            replace HI6 := Lib.hid (HI6.out.below hB7)
            clear hB7 Hc
            clear HK1 HI5
            have hk1 := checkScale_any A A6 ca c6 l hi w7 (Hl.out.below HB7.out) HI6.out (by omega) (by rw [HHL.out]; omega)
            rw [HS6.out, HHL.out] at hk1
            have HK1 := Lib.hid hk1
            clear hk1
            have Hc := Lib.hid (HK1.out)
            go_wp2_with fail
            refine Hc.out.mono ?_
            rintro e w8 ⟨v, rfl, rfl, hB8⟩
            have HB8 := Lib.hid (below_trans' HB7.out hB8)
            replace HI2 := Lib.hid (HI2.out.below hB8)
            replace HI3 := Lib.hid (HI3.out.below hB8)
            clear hB8 Hc
            clear HK1 HI6 HS5 HS6 HLL HHL
            have Hc := Lib.hid (by_any A B ca cb l u w8 (Hl.out.below HB8.out) (Hu.out.below HB8.out) H0.out (by omega) Hu2.out)
            go_wp2_with fail
            refine Hc.out.mono ?_
            rintro e w9 ⟨v, rfl, ⟨C9, c9, x, rfl, hx9, hI9, hR9, hC9, hl9⟩, hB9⟩
            have HB9 := Lib.hid (below_trans' HB8.out hB9)
            replace HI2 := Lib.hid (HI2.out.below hB9)
            replace HI3 := Lib.hid (HI3.out.below hB9)
            clear hB9 Hc
            have HI9 := Lib.hid hI9
            clear hx9 hR9 hC9 hI9
            go_wp2
            obtain ⟨wA, hwA⟩ : ∃ wA, wA = w9.alloc (.cells #[.slice B3 sp.length c3, .slice C9 x.length c9, .slice C s.length cc] 23) := ⟨_, rfl⟩
            have HLB : Hid (wA.heap[w9.heap.size]? = some (.cells #[.slice B3 sp.length c3, .slice C9 x.length c9, .slice C s.length cc] 23 (0, 0))) := Lib.hid (by rw [hwA]; exact heap_alloc_new _ _)
            have hB9 : Below w9.heap.size w9 wA := by rw [hwA]; exact below_alloc' (Below.refl _ _) _
            replace HI2 := Lib.hid (HI2.out.below hB9)
            replace HI3 := Lib.hid (HI3.out.below hB9)
            replace HI9 := Lib.hid (HI9.out.below hB9)
            have HIs : Hid (IntsAt wA C s) := Lib.hid ((Hs.out.below HB9.out).below hB9)
            have HBA := Lib.hid (below_trans' HB9.out hB9)
            rw [← hwA]
            clear hwA hB9
            go_loopw [15] (fun i wr => ∃ k : Nat, k ≤ 3 ∧ i = .int .i64 k ∧ Below wA.heap.size wA wr) (fun i _ => 3 - (intOf i).toNat)
            case atStart => exact ⟨0, by omega, rfl, Below.refl _ _⟩
            case round =>
              obtain ⟨k, hk, rfl, hB⟩ := hrel
              have HB := Lib.hid hB
              clear hB
              by_cases hk3 : k < 3
              · have hX : ∃ Ax X cx, wr.cell? ⟨w9.heap.size, k, none⟩ = some (.slice Ax X.length cx) ∧ IntsAt wr Ax X ∧ X.length ≤ 1000 ∧ (k = 0 → X.length = sp.length ∧ scaleErr l X = 0) := by
                  have : k = 0 ∨ k = 1 ∨ k = 2 := by omega
                  rcases this with rfl | rfl | rfl
                  · exact ⟨B3, s3, c3, cell_below HB.out ((blk_cell HLB.out).trans (by rw [HLN.out]; rfl)), HI3.out.below HB.out, by rw [HLN.out]; omega, fun _ => ⟨HLN.out, HSC3.out⟩⟩
                  · exact ⟨C9, x, c9, cell_below HB.out ((blk_cell HLB.out).trans rfl), HI9.out.below HB.out, by omega, fun h => by omega⟩
                  · exact ⟨C, s, cc, cell_below HB.out ((blk_cell HLB.out).trans rfl), HIs.out.below HB.out, by omega, fun h => by omega⟩
                obtain ⟨Ax, X, cx, g1, hIX, hXl, hX0⟩ := hX
                have HIX := Lib.hid hIX
                have HX0 := Lib.hid hX0
                clear hIX hX0
                have hk1 := refCheckScale_any A Ax ca cx l X wr (Hl.out.below (below_trans' HBA.out HB.out)) HIX.out (by omega) (by omega)
                have hR : scaleErr l X = 0 → Right l X := fun h => scaleErr_right H0.out h
                generalize he : scaleErr l X = ex at hk1 hR
                have HK1 := Lib.hid hk1
                have HR := Lib.hid hR
                have HE := Lib.hid he
                clear hk1 hR he
                by_cases e1 : X.length = sp.length
                · have d1 : ((X.length : Int) != (sp.length : Int)) = false := by simp [e1]
                  have E1 := Lib.hid e1
                  clear e1
                  go_wp2_with fail
                  refine HK1.out.mono ?_
                  rintro e w11 ⟨v, rfl, rfl, hB11⟩
                  clear HK1
                  have HB11 := Lib.hid (below_trans' HB.out hB11)
                  replace HIX := Lib.hid (HIX.out.below hB11)
                  clear hB11
                  by_cases e2 : ex = 0
                  · have d2 : (ex != 0) = false := by simp [e2]
                    have HRX := Lib.hid (HR.out e2)
                    have E2 := Lib.hid e2
                    clear e2
                    go_wp2
                    go_loopw [17] (fun i wr => ∃ j : Nat, j ≤ sp.length ∧ i = .int .i64 j ∧ Below w11.heap.size w11 wr) (fun i _ => sp.length - (intOf i).toNat)
                    case atStart => exact ⟨0, by omega, rfl, Below.refl _ _⟩
                    case round =>
                      obtain ⟨j, hj, rfl, hB⟩ := hrel
                      have HB12 := Lib.hid hB
                      clear hB
                      by_cases hjn : j < sp.length
                      · obtain ⟨bx, ox, hbx, y1⟩ := IntsAt.at_ (HIX.out.below HB12.out) (show j < X.length by rw [E1.out]; exact hjn)
                        obtain ⟨br, orr, hbr, y2, y3⟩ := RangesAt.at_ ((HI2.out.below HB11.out).below HB12.out) hjn
                        have hin := HIS.out.inside HG.out HRX.out E1.out j hjn
                        subst hbx
                        subst hbr
                        generalize X[j]'(by rw [E1.out]; exact hjn) = y at y1 hin
                        generalize sp[j] = r at y2 y3 hin
                        obtain ⟨r1, r2⟩ := r
                        dsimp only at y2 y3 hin
                        have d3 : decide (y < r1) = false := by simp; omega
                        have d4 : decide (r2 < y) = false := by simp; omega
                        have hjx : j < X.length := by rw [E1.out]; exact hjn
                        clear hin
                        go_wp2
                        refine wp_region_quiet_lit (by kernel_rfl) (by kernel_rfl) ?_
                        repeat (any_goals (first | go_big_quiet_step (fail) | quiet_step (fail) | (refine wpQuiet_step (fun K hK => ?_); go_simp; split <;> (refine hK _ ?_; clear hK K))))
                        all_goals (refine wpQuiet_nil ?_; intro _ hw'; obtain ⟨nq, hw''⟩ := hw'; subst hw'')
                        go_wp2
                        go_roundw
                        case rel => exact ⟨j + 1, by omega, by go_num, below_drewN HB12.out _⟩
                        case measure => simp [intOf]; omega
                      · go_wp2
                        go_roundw
                        case rel => exact ⟨k + 1, by omega, by go_num, below_trans' HB11.out HB12.out⟩
                        case measure => simp [intOf]; omega
                  · have d2 : (ex != 0) = true := by simp [e2]
                    have d3 : ((k : Int) == 0) = false := by
                      simp; intro h; exact e2 (by rw [← HE.out]; exact (HX0.out h).2)
                    have E2 := Lib.hid e2
                    clear e2
                    go_wp2
                    go_roundw
                    case rel => exact ⟨k + 1, by omega, by go_num, HB11.out⟩
                    case measure => simp [intOf]; omega
                · have d1 : ((X.length : Int) != (sp.length : Int)) = true := by simp; omega
                  have d3 : ((k : Int) == 0) = false := by simp; intro h; exact e1 (HX0.out h).1
                  have E1 := Lib.hid e1
                  clear e1
                  go_wp2
                  go_roundw
                  case rel => exact ⟨k + 1, by omega, by go_num, HB.out⟩
                  case measure => simp [intOf]; omega
              · have HBB := Lib.hid (below_trans' HBA.out HB.out)
                go_wp2_with fail
                refine (works_any _).mono ?_
                rintro e wz ⟨v, rfl, rfl, hBz⟩
                go_wp2
                go_ret
                exact Ret.mk' rfl ⟨rfl, below_trans' HBB.out hBz⟩
  · rw [show (decide (l.length ≤ 30) && decide (songErr l = 0)) = false by simp [h0]] at hf
    have Hf := Lib.hid hf
    clear hf h0 hn
    have Hc := Lib.hid (Hf.out)
    go_wp2_with fail
    refine Hc.out.mono ?_
    rintro e w1 ⟨v, rfl, rfl, hq1⟩
    have hB1 : Below w.heap.size w w1 := by obtain ⟨q, rfl⟩ := hq1; exact below_drewN (Below.refl _ _) _
    clear hq1
    have HB1 := Lib.hid (hB1)
    clear hB1 Hc
    go_wp2_with fail
    refine (works_any _).mono ?_
    rintro e wz ⟨v, rfl, rfl, hBz⟩
    go_wp2
    go_ret
    exact Ret.mk' rfl ⟨rfl, below_trans' HB1.out hBz⟩
end Go.Proofs.Ytkjmeeggjmeajaa
