/- ref: tops, Spans. -/
import Derived.Test.YtkjmeeggjmeajaaPC
import Derived.Test.YtkjmeeggjmeajaaD5
import Derived.Deep.RegionHeld3
namespace Go.Proofs.Ytkjmeeggjmeajaa
open Go.RowKit Go.Shelf

/-- m is the least upper end of the first i ranges that have k - 1 others below them, and 10000 -/
def TopAt (l : List Rg) (o : List Int) (k : Int) (m : Int) (i : Nat) : Prop :=
  m ≤ 10000 ∧ (∀ (j : Nat) (hj : j < l.length), j < i → k ≤ o.getD j 0 → m ≤ l[j].2) ∧ (m = 10000 ∨ ∃ (j : Nat) (hj : j < l.length), k ≤ o.getD j 0 ∧ m = l[j].2)
theorem TopAt.start (l : List Rg) (o : List Int) (k : Int) : TopAt l o k 10000 0 := ⟨by omega, fun j _ h => by omega, .inl rfl⟩
theorem TopAt.yes {l : List Rg} {o : List Int} {k m : Int} {i : Nat} (h : TopAt l o k m i) (hi : i < l.length) {r : Rg} (hr : l[i] = r) (hk : k ≤ o.getD i 0) : TopAt l o k (min m r.2) (i + 1) := by
  obtain ⟨h1, h2, h3⟩ := h
  refine ⟨by omega, fun j hj hji hkj => ?_, ?_⟩
  · by_cases e : j = i
    · subst e; rw [hr]; omega
    · have := h2 j hj (by omega) hkj; omega
  · by_cases hc : m ≤ r.2
    · rw [Int.min_eq_left hc]; exact h3
    · exact .inr ⟨i, hi, hk, by rw [hr]; omega⟩
theorem TopAt.no {l : List Rg} {o : List Int} {k m : Int} {i : Nat} (h : TopAt l o k m i) (hk : ¬ k ≤ o.getD i 0) : TopAt l o k m (i + 1) := by
  obtain ⟨h1, h2, h3⟩ := h
  refine ⟨h1, fun j hj hji hkj => ?_, h3⟩
  by_cases e : j = i
  · subst e; exact absurd hkj hk
  · exact h2 j hj (by omega) hkj
theorem rises_get {x : List Int} (h : Rises x) {i j : Nat} (hij : i ≤ j) (hj : j < x.length) : x[i]'(by omega) ≤ x[j] := by
  by_cases e : i = j
  · subst e; omega
  · have := List.pairwise_iff_getElem.1 h i j (by omega) hj (by omega); omega
theorem hits_below {x : List Int} (hx : Rises x) {c : List Rg} {r : Rg} (hc : Chain (c ++ [r])) (hr : r.1 ≤ r.2) (hh : ∀ q ∈ c ++ [r], Hit x q) {k : Nat} (hk : k < x.length) (hl : k + 1 ≤ c.length + 1) : x[k] ≤ r.2 := by
  refine Classical.byContradiction fun hn => ?_
  have hlt : r.2 < x[k] := by omega
  have hall : ∀ q ∈ c ++ [r], Hit (x.take k) q := fun q hq => by
    obtain ⟨y, hy, y1, y2⟩ := hh q hq
    have hq2 : q.2 ≤ r.2 := by
      rcases List.mem_append.1 hq with h | h
      · unfold Chain at hc
        have := (List.pairwise_append.1 hc).2.2 q h r (by simp); omega
      · rw [List.mem_singleton.1 h]; omega
    obtain ⟨j, hj, rfl⟩ := List.mem_iff_getElem.1 hy
    have hjk : j < k := Classical.byContradiction fun hjk => by
      have := rises_get hx (show k ≤ j by omega) hj; omega
    exact ⟨x[j], List.mem_take_iff_getElem.2 ⟨j, by omega, rfl⟩, y1, y2⟩
  have := chain_le (c ++ [r]) (x.take k) hc (List.Pairwise.sublist (List.take_sublist k x) hx) hall
  rw [List.length_append, List.length_take] at this
  simp at this; omega
theorem top_law {l : List Rg} {o : List Int} {ts : List Tone} (hts : Sorted l ts) (hg : GoodR l) (hb : BelowIs l o) {k : Nat} {m : Int} (h : TopAt l o ((k : Int) + 1) m l.length) (hk : k < (hiAt ts).length) : m = (hiAt ts)[k] := by
  obtain ⟨h1, h2, h3⟩ := h
  have hR := hiAt_right hts hg
  have hGood := sorted_good hts hg
  have hge : (hiAt ts)[k] ≤ m := by
    rcases h3 with e | ⟨j, hj, hkj, e⟩
    · have := hiAt_good hts hg _ (List.getElem_mem hk); omega
    · obtain ⟨n, e1, ⟨c, c1, c2, c3⟩, _⟩ := hb.2 j hj
      rw [e]
      refine hits_below hR.1 c2 (hg _ (List.getElem_mem hj)).2.1 (fun q hq => hR.2 q ?_) hk (by omega)
      rcases List.mem_append.1 hq with hq | hq
      · exact c1 q hq
      · rw [List.mem_singleton.1 hq]; exact List.getElem_mem hj
  have hle : m ≤ (hiAt ts)[k] := by
    have hkg : k < (greedy ts (-1)).length := by unfold hiAt at hk; rwa [List.length_map] at hk
    have e : (hiAt ts)[k] = ((greedy ts (-1))[k]).2.1 := by simp [hiAt]
    have hm : rT (greedy ts (-1))[k] ∈ l := (sorted_rT hts _).2 ⟨_, (greedy_sub ts (-1)).subset (List.getElem_mem hkg), rfl⟩
    obtain ⟨j, hj, ej⟩ := List.mem_iff_getElem.1 hm
    have hE : EndsAt l l[j] (k + 1) := by
      refine ⟨((greedy ts (-1)).take k).map rT, fun q hq => ?_, ?_, by rw [List.length_map, List.length_take]; omega⟩
      · obtain ⟨t, ht, rfl⟩ := List.mem_map.1 hq
        exact (sorted_rT hts _).2 ⟨t, (greedy_sub ts (-1)).subset (List.mem_of_mem_take ht), rfl⟩
      · rw [ej, show ((greedy ts (-1)).take k).map rT ++ [rT (greedy ts (-1))[k]] = ((greedy ts (-1)).take (k + 1)).map rT by rw [take_snoc hkg rfl, List.map_append]; rfl]
        unfold Chain
        rw [List.pairwise_map]
        exact (greedy_chain ts (-1) hGood).sublist (List.take_sublist _ _)
    obtain ⟨n, e1, _, e3⟩ := hb.2 j hj
    have := e3 _ hE
    have := h2 j hj hj (by rw [e1]; omega)
    rw [ej] at this
    rw [e]; exact this
  omega

set_option maxRecDepth 100000 in
set_option maxHeartbeats 1000000 in
theorem tops_any (A : Option Addr) (ca : Nat) (l : List Rg) (w : World) (hl : RangesAt w A l) (hn : l.length ≤ 100) (hg : GoodR l) :
    Calls Try.prog 48 #[.slice A l.length ca] w (Ret fun v w' => (∃ C c x, v = .slice C x.length c ∧ x.length ≤ c ∧ IntsAt w' C x ∧ ∀ ts, Sorted l ts → x = hiAt ts) ∧ Below w.heap.size w w') := by
  have Hl := Lib.hid hl; clear hl
  obtain ⟨ts, hts⟩ := exists_tones l
  obtain ⟨G, hG⟩ : ∃ G, G = hiAt ts := ⟨_, rfl⟩
  have hGl : G.length ≤ l.length := by
    have h1 := (greedy_sub ts (-1)).length_le
    rw [ts_len hts] at h1
    rw [hG]; unfold hiAt; rw [List.length_map]; exact h1
  have HSh : Hid (ShortIs l G.length) := Lib.hid (by rw [hG]; exact hiAt_short hts hg)
  have HG := Lib.hid hg
  have Hts := Lib.hid hts
  have HGG := Lib.hid hG
  clear hts hG
  go_enter Try.func48, Try.ntmps48
  have Hc := Lib.hid (below_any A ca l w Hl.out (by omega) HG.out)
  go_wp2_with fail
  refine Hc.out.mono ?_
  rintro e w1 ⟨v, rfl, ⟨o, rfl, hbi, hI⟩, hB1⟩
  have HB1 := Lib.hid (hB1)
  clear hB1 Hc
  have HBI := Lib.hid hbi
  have HI := Lib.hid hI
  clear hbi hI
  go_wp2
  go_loopw [4, 5] (fun v i wr => ∃ k : Nat, k ≤ G.length ∧ i = .int .i64 ((k : Int) + 1) ∧ wr.ownsRow w1.heap.size 2 1 v (G.take k).length ((G.take k).flatMap encI) ∧ Below w1.heap.size w1 wr) (fun _ i _ => G.length + 1 - (intOf i).toNat)
  case atStart => exact ⟨0, by omega, rfl, World.ownsRow_nil _ _ _ _, Below.refl _ _⟩
  case round =>
    obtain ⟨k, hk, rfl, hown, hB⟩ := hrel
    have Hown := Lib.hid hown
    have HB2 := Lib.hid hB
    clear hown hB
    go_wp2_with fail
    refine (short_any A ca l wr (Hl.out.below (below_trans' HB1.out HB2.out)) (by omega) HG.out).mono ?_
    rintro e w3 ⟨v, rfl, ⟨n, rfl, hn3, hnl⟩, hB3⟩
    obtain rfl : n = G.length := hn3.unique HSh.out
    have HB3 := Lib.hid (below_trans' HB2.out hB3)
    have Hown3 := Lib.hid (own_below Hown.out hB3)
    clear hn3 hB3 Hown
    by_cases hkn : k < G.length
    · obtain ⟨T, hT⟩ : ∃ T, T = G.take k := ⟨_, rfl⟩
      have hTl : T.length ≤ 100 := by rw [hT, List.length_take]; omega
      have hTn : G.take (k + 1) = T ++ [G[k]] := by rw [take_snoc hkn rfl, hT]
      have HTN := Lib.hid hTn
      rw [← hT] at Hown3
      clear hT hTn
      have d1 : decide ((k : Int) + 1 ≤ (G.length : Int)) = true := by simp; omega
      go_wp2
      go_loopw [6, 7] (fun t i wr => ∃ (j : Nat) (m : Int), j ≤ l.length ∧ i = .int .i64 j ∧ t = .int .i64 m ∧ Hid (TopAt l o ((k : Int) + 1) m j) ∧ ∃ q, wr = w3.drewN q) (fun _ i _ => l.length - (intOf i).toNat)
      case atStart => exact ⟨0, 10000, by omega, rfl, rfl, TopAt.start _ _ _, 0, rfl⟩
      case round =>
        obtain ⟨j, m, hj, rfl, rfl, HT, q, rfl⟩ := hrel
        by_cases hjn : j < l.length
        · obtain ⟨bo, oo, hbo, g1⟩ := IntsAt.at_ (HI.out.below HB3.out) (i := j) (by rw [HBI.out.1]; exact hjn)
          obtain ⟨bl, ol, hbl, g2, g3⟩ := (Hl.out.below (below_trans' HB1.out HB3.out)).at_ hjn
          cases hbo
          subst hbl
          rw [Nat.zero_add] at g1
          have hod : o.getD j 0 = o[j]'(by rw [HBI.out.1]; exact hjn) := by simp [List.getD_eq_getElem?_getD, show j < o.length by rw [HBI.out.1]; exact hjn]
          have hyes := fun h => HT.out.yes hjn rfl h
          have hno := HT.out.no (i := j)
          rw [hod] at hyes hno
          generalize o[j]'(by rw [HBI.out.1]; exact hjn) = z at g1 hyes hno
          generalize l[j] = r at g2 g3 hyes
          obtain ⟨r1, r2⟩ := r
          dsimp only at g2 g3 hyes
          have Hyes := Lib.hid hyes
          have Hno := Lib.hid hno
          replace g1 : (w3.drewN q).cell? ⟨w.heap.size, j, none⟩ = some (.int .i64 z) := g1
          replace g3 : (w3.drewN q).cell? ⟨bl, ol + j * 2 + 1, none⟩ = some (.int .i64 r2) := g3
          clear hod hyes hno g2
          by_cases hz : (k : Int) + 1 ≤ z
          · have HN := Lib.hid (Hyes.out hz)
            clear Hyes Hno
            go_wp2
            go_roundw
            case rel => exact ⟨j + 1, min m r2, by omega, by go_num, rfl, HN, by first | exact ⟨_, rfl⟩ | exact drewN_two _ _ _⟩
            case measure => simp [intOf]; omega
          · have HN := Lib.hid (Hno.out hz)
            clear Hyes Hno
            go_wp2
            go_roundw
            case rel => exact ⟨j + 1, m, by omega, by go_num, rfl, HN, by first | exact ⟨_, rfl⟩ | exact drewN_two _ _ _⟩
            case measure => simp [intOf]; omega
        · obtain rfl : j = l.length := by omega
          have hm : m = G[k] := by
            have := top_law Hts.out HG.out HBI.out HT.out (by rw [← HGG.out]; exact hkn)
            rw [this]; simp only [HGG.out]
          rw [hm]
          generalize G[k] = gk at HTN
          clear hm HT
          have Hown4 : Hid ((w3.drewN q).ownsRow w1.heap.size 2 1 u4 T.length (T.flatMap encI)) := Hown3
          have hz3 := HB3.out.size
          go_wp2_with (at_builtin; refine wpList_push _ rfl (.tmp 35) (.tmp 37) _ rfl elemI2 encI_len oneI Try.underlying23 w1.heap.size _ T rfl (Hown4.out.alloc _) (by omega) gk _ rfl _ (by rfl) _ _ (heap_alloc_new _ _) (by rw [World.size_alloc]; exact Nat.le_succ_of_le hz3) ?_; intro g cap w6 hown6 hg6; have HB6 := Lib.hid ((below_alloc' (below_drewN HB3.out q) _).grown hg6 (by rw [World.size_alloc]; exact Nat.le_succ_of_le hz3) (fun r e => own_base Hown4.out r e)); have Hown6 := Lib.hid hown6; clear hown6 hg6)
          go_roundw
          case rel => exact ⟨k + 1, by omega, by go_num, by rw [HTN.out, len_snoc]; exact Hown6.out, HB6.out⟩
          case measure => simp [intOf]; omega
    · obtain rfl : k = G.length := by omega
      have d1 : decide ((G.length : Int) + 1 ≤ (G.length : Int)) = false := by simp; omega
      have hown := Hown3.out
      rw [List.take_length] at hown
      obtain ⟨C, c, rfl, hc⟩ := own_form hown
      have HR : Hid (IntsAt w3 C G) := RowsAt.of_own encI_len hown
      clear hown Hown3
      go_wp2
      go_ret
      exact Ret.mk' rfl ⟨⟨C, c, G, rfl, hc, HR.out, fun us hus => by rw [HGG.out]; exact hiAt_same (fun _ => Iff.rfl) HG.out hus Hts.out⟩, below_trans' HB1.out HB3.out⟩

set_option maxRecDepth 100000 in
set_option maxHeartbeats 1000000 in
theorem refSpans_any (A : Option Addr) (ca : Nat) (l : List Rg) (w : World) (hl : RangesAt w A l) (hn : l.length ≤ 100000) :
    Calls Try.prog 24 #[.slice A l.length ca] w (Ret fun v w' => (songErr l ≠ 0 ∧ v = .tuple #[.slice none 0 0, .int .i64 (songErr l)] ∨ songErr l = 0 ∧ ∃ C c sp, v = .tuple #[.slice C sp.length c, .int .i64 0] ∧ sp.length ≤ c ∧ RangesAt w' C sp ∧ IsSpans l sp) ∧ Below w.heap.size w w') := by
  have Hl := Lib.hid hl; clear hl
  have Hcs := Lib.hid (refCheckSong_any A ca l w Hl.out hn)
  go_enter Try.func24, Try.ntmps24
  have Hc := Lib.hid (Hcs.out)
  go_wp2_with fail
  refine Hc.out.mono ?_
  rintro e w1 ⟨v, rfl, rfl, hq1⟩
  have hB1 : Below w.heap.size w w1 := by obtain ⟨q, rfl⟩ := hq1; exact below_drewN (Below.refl _ _) _
  clear hq1
  have HB1 := Lib.hid (hB1)
  clear hB1 Hc
  clear Hcs
  by_cases h0 : songErr l = 0
  · have h24 := song_len24 h0
    have d0 : (songErr l != 0) = false := by simp [h0]
    have H0 := Lib.hid h0
    have HG := Lib.hid (song_GoodR h0)
    clear h0
    have Hc := Lib.hid (tops_any A ca l w1 (Hl.out.below HB1.out) (by omega) HG.out)
    go_wp2_with fail
    refine Hc.out.mono ?_
    rintro e w2 ⟨v, rfl, ⟨C2, c2, hi, rfl, hc2, hI2, hh2⟩, hB2⟩
    have HB2 := Lib.hid (below_trans' HB1.out hB2)
    clear hB2 Hc
    have HI2 := Lib.hid hI2
    have HH2 := Lib.hid hh2
    clear hc2 hI2 hh2
    have Hc := Lib.hid (refTurned_any A ca l w2 (Hl.out.below HB2.out) (by omega) HG.out)
    go_wp2_with fail
    refine Hc.out.mono ?_
    rintro e w3 ⟨v, rfl, ⟨C3, c3, rfl, hc3, hI3⟩, hB3⟩
    have HB3 := Lib.hid (below_trans' HB2.out hB3)
    replace HI2 := Lib.hid (HI2.out.below hB3)
    clear hB3 Hc
    have HI3 := Lib.hid hI3
    clear hI3 hc3
    have ht := tops_any C3 c3 (l.map turnedR) w3 HI3.out (by rw [List.length_map]; omega) HG.out.turned
    rw [List.length_map] at ht
    have Ht := Lib.hid ht
    clear ht
    have Hc := Lib.hid (Ht.out)
    go_wp2_with fail
    refine Hc.out.mono ?_
    rintro e w4 ⟨v, rfl, ⟨C4, c4, lo, rfl, hc4, hI4, hh4⟩, hB4⟩
    have HB4 := Lib.hid (below_trans' HB3.out hB4)
    replace HI2 := Lib.hid (HI2.out.below hB4)
    clear hB4 Hc
    have HI4 := Lib.hid hI4
    obtain ⟨ts, hts⟩ := exists_tones l
    obtain ⟨us, hus⟩ := exists_tones (l.map turnedR)
    have hhi := HH2.out ts hts
    have hlo := hh4 us hus
    obtain ⟨sp, hsp⟩ : ∃ sp, sp = spansGo hi lo.reverse := ⟨_, rfl⟩
    have HIS : Hid (IsSpans l sp) := Lib.hid ⟨ts, us, hts, hus, by rw [hsp, hhi, hlo]⟩
    have hll : lo.length = hi.length := by rw [hhi, hlo]; exact (hiAt_short hus HG.out.turned).unique (hiAt_short hts HG.out).turned
    have hhl : hi.length ≤ 24 := by
      have h1 := (greedy_sub ts (-1)).length_le
      rw [ts_len hts] at h1
      rw [hhi]; unfold hiAt; rw [List.length_map]; omega
    have hlg : ∀ y ∈ lo, 0 ≤ y ∧ y ≤ 10000 := fun y hy => by rw [hlo] at hy; exact hiAt_good hus HG.out.turned y hy
    have hspl : sp.length = hi.length := by rw [hsp, spansGo_len]
    have HSP := Lib.hid hsp
    have HLL := Lib.hid hll
    have HSPL := Lib.hid hspl
    have HLG := Lib.hid hlg
    obtain ⟨i0, hi0, hz0, hz1, hz2⟩ := info_parts infoR
    rw [hll]
    clear hc4 hI4 hh4 hts hus hhi hlo hsp hll hlg hspl HH2 Ht
    go_wp2
    go_loopw [6, 7] (fun v i wr => ∃ k : Nat, k ≤ hi.length ∧ i = .int .i64 k ∧ wr.ownsRow w4.heap.size 50 2 v (sp.take k).length ((sp.take k).flatMap encR) ∧ Below w4.heap.size w4 wr) (fun _ i _ => hi.length - (intOf i).toNat)
    case atStart => exact ⟨0, by omega, rfl, World.ownsRow_nil _ _ _ _, Below.refl _ _⟩
    case round =>
      obtain ⟨k, hk, rfl, hown, hB⟩ := hrel
      have HB := Lib.hid hB
      obtain ⟨T, hT⟩ : ∃ T, T = sp.take k := ⟨_, rfl⟩
      rw [← hT] at hown
      have hTl : T.length ≤ 100 := by rw [hT, List.length_take]; omega
      have HT := Lib.hid hT
      have Hown := Lib.hid hown
      clear hB hown hT
      by_cases hkn : k < hi.length
      · obtain ⟨q, hq⟩ : ∃ q, q = hi.length - 1 := ⟨_, rfl⟩
        obtain ⟨p, hp⟩ : ∃ p, p = q - k := ⟨_, rfl⟩
        have hpl : p < lo.length := by rw [HLL.out]; omega
        have hpn : p < hi.length := by omega
        have hwq : IntKind.i64.wrap ((hi.length : Int) - 1) = (q : Int) := by rw [show (hi.length : Int) - 1 = (q : Int) by omega]; exact IntWalk.i64_in _ (by omega)
        have hwp : IntKind.i64.wrap ((q : Int) - (k : Int)) = (p : Int) := by rw [show (q : Int) - (k : Int) = (p : Int) by omega]; exact IntWalk.i64_in _ (by omega)
        obtain ⟨b1, o1, hb1, p1⟩ := IntsAt.at_ HI2.out hkn
        obtain ⟨b2, o2, hb2, p2⟩ := IntsAt.at_ HI4.out hpl
        have hyg := HLG.out _ (List.getElem_mem hpl)
        have hsk : sp[k]'(by rw [HSPL.out]; exact hkn) = (10000 - lo[p], hi[k]) := by
          have h1 : k < lo.reverse.length := by rw [List.length_reverse, HLL.out]; exact hkn
          have h2 := spansGo_get (up := hi) (down := lo.reverse) hkn h1 rfl rfl
          rw [← HSP.out] at h2
          have h3 := (List.getElem?_eq_some_iff.1 h2).2
          rw [h3, List.getElem_reverse]
          congr 2
          congr 1
          rw [HLL.out]; omega
        have htk := take_snoc (l := sp) (by rw [HSPL.out]; exact hkn) hsk
        have q1 := cell_below HB.out p1
        have q2 := cell_below HB.out p2
        have NE1 := own_ne Hown.out (b := b1) (Or.inl (block_lt_of_cell p1))
        have NE2 := own_ne Hown.out (b := b2) (Or.inl (block_lt_of_cell p2))
        generalize hi[k] = x at q1 p1 htk
        generalize lo[p] = y at q2 p2 hyg htk
        subst hb1
        subst hb2
        have Htk := Lib.hid htk
        have hwy : IntKind.i64.wrap (10000 - y) = 10000 - y := IntWalk.i64_in _ (by omega)
        have hz3 := HB.out.size
        clear htk hsk p1 p2 hp hq
        go_wp2
        go_region_held3 (fun W => W.cell? ⟨b1, o1 + k, none⟩ = some (.int .i64 x) ∧ W.cell? ⟨b2, o2 + p, none⟩ = some (.int .i64 y)) (first | exact ⟨q1, q2⟩ | exact ⟨cell_alloc q1 _, cell_alloc q2 _⟩ | exact ⟨m1, m2⟩) (first
          | (refine step_append_lies _ (by rfl) _ _ _ (by rfl) w4.heap.size 50 i0 _ 2 16 Try.underlying22 hi0 hz0 hz1 hz2 rfl (by omega) _ T.length (T.flatMap encR) (by rfl) (((Hown.out.alloc _)).drew) ⟨wr.heap.size, 0, none⟩ 1 1 (encR (10000 - y, x)) (by rfl) (by rfl) (World.news_of_block (cs := #[.int .i64 (10000 - y), .int .i64 x]) (t := 50) (fr := (0, 0)) (heap_alloc_new wr _)) (oneR _) (by omega) (by simp only [maxLen]; omega) (by omega) (by simp; omega) (wr.heap.size + 1) (by simp) ?_
             intro g cap w5 hown5 hgrow hat hlt
             have hB5 : Below w4.heap.size wr w5 := (((Below.refl w4.heap.size wr).alloc hz3 _).drew).grown hgrow (by simp; omega) (fun r e => own_base Hown.out r e)
             have m1 : w5.cell? ⟨b1, o1 + k, none⟩ = some (.int .i64 x) := hgrow.cell (cell_alloc q1 _) NE1
             have m2 : w5.cell? ⟨b2, o2 + p, none⟩ = some (.int .i64 y) := hgrow.cell (cell_alloc q2 _) NE2))
        have Hown5 := Lib.hid hown5
        have HB5 := Lib.hid (Below.trans HB.out hB5)
        clear hown5 hB5 hgrow hat hlt m1 m2 NE1 NE2 q1 q2
        go_wp2
        go_roundw
        case rel => exact ⟨k + 1, by omega, by go_num, by rw [Htk.out, ← HT.out, len_snoc, List.flatMap_append]; simpa using Hown5.out, HB5.out⟩
        case measure => simp [intOf]; omega
      · have hkl : k = hi.length := by omega
        subst hkl
        have hown := Hown.out
        rw [HT.out, List.take_of_length_le (by rw [HSPL.out]; exact Nat.le_refl _)] at hown
        obtain ⟨A3, c3', rfl, hc3⟩ := own_form hown
        have HR3 : Hid (RangesAt wr A3 sp) := RowsAt.of_own encR_len hown
        clear hown
        go_wp2
        go_ret2
        exact Ret.mk' rfl ⟨.inr ⟨H0.out, A3, c3', sp, rfl, hc3, HR3.out, HIS.out⟩, below_trans' HB4.out HB.out⟩
  · have d0 : (songErr l != 0) = true := by simpa using h0
    have H0 := Lib.hid h0
    clear h0
    have Hc := Lib.hid (refCheckSong_any A ca l w1 (Hl.out.below HB1.out) hn)
    go_wp2_with fail
    refine Hc.out.mono ?_
    rintro e w2 ⟨v, rfl, rfl, hq2⟩
    have hB2 : Below w1.heap.size w1 w2 := by obtain ⟨q, rfl⟩ := hq2; exact below_drewN (Below.refl _ _) _
    clear hq2
    have HB2 := Lib.hid (below_trans' HB1.out hB2)
    clear hB2 Hc
    go_wp2
    go_ret2
    exact Ret.mk' rfl ⟨.inl ⟨H0.out, rfl⟩, HB2.out⟩
end Go.Proofs.Ytkjmeeggjmeajaa
