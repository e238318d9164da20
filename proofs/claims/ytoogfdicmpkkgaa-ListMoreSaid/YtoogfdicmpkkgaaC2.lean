/- ref: Without. -/
import Derived.Test.YtoogfdicmpkkgaaC1
namespace Go.Proofs.Ytoogfdicmpkkgaa
open Go.RowKit Go.Shelf Go.Maps Match

theorem erase_take_hit {α : Type} {l : List α} {k : Nat} (hk : k < l.length) : (l.take (k + 1)).eraseIdx k = (l.take k).eraseIdx k := by
  have hl : (l.take k).length = k := by rw [List.length_take]; omega
  have hr : (l.take k).eraseIdx k = l.take k := List.eraseIdx_of_length_le (by omega)
  rw [hr, List.take_succ_eq_append_getElem hk, List.eraseIdx_append_of_length_le (by omega), hl, Nat.sub_self]
  exact List.append_nil _
theorem erase_take_miss {α : Type} {l : List α} {j k : Nat} (hj : j < l.length) (hne : j ≠ k) : (l.take (j + 1)).eraseIdx k = (l.take j).eraseIdx k ++ [l[j]] := by
  have hl : (l.take j).length = j := by rw [List.length_take]; omega
  rw [List.take_succ_eq_append_getElem hj]
  by_cases c : k < j
  · rw [List.eraseIdx_append_of_lt_length (by omega)]
  · rw [List.eraseIdx_of_length_le (by rw [List.length_append, hl]; simp; omega), List.eraseIdx_of_length_le (by omega)]
theorem erase_le {α : Type} (l : List α) (j k : Nat) : ((l.take j).eraseIdx k).length ≤ j := by
  have h1 : (l.take j).length ≤ j := List.length_take_le _ _
  have h2 := List.length_eraseIdx_le (l.take j) k
  omega
theorem noT_step {t : List Int} {k j : Nat} (hj : j < t.length) : noT (t.take (j + 1)) k = noT (t.take j) k ++ [decK k t[j]] := by
  unfold noT
  rw [List.take_succ_eq_append_getElem hj, List.map_append]; rfl
theorem noT_len (t : List Int) (k : Nat) : (noT t k).length = t.length := by unfold noT; simp

set_option maxRecDepth 100000 in
set_option maxHeartbeats 2000000 in
theorem without_fresh (s : Sh) (k : Nat) (w : World) (hs : ShAt w s) (ht : ∀ x ∈ s.t, 0 ≤ x ∧ x ≤ 100000) :
    Calls Try.prog 36 #[s.v, .int .i64 k] w (Ret fun v w' => (∃ G c H d, v = vSheet s.L s.R G (s.l.eraseIdx k).length c H (noT s.t k).length d ∧ RangesAt w' G (s.l.eraseIdx k) ∧ (s.l.eraseIdx k).length ≤ c ∧ c ≤ 9223372036854775807 ∧ IntsAt w' H (noT s.t k) ∧ (noT s.t k).length ≤ d ∧ (∀ a, G = some a → w.heap.size ≤ a.block) ∧ ∀ a, H = some a → w.heap.size ≤ a.block) ∧ Below w.heap.size w w') := by
  obtain ⟨L, R, A, ca, B, cb, l, t⟩ := s
  have HS := Lib.hid hs
  have hfew := hs.few
  have hmany := hs.many
  clear hs
  have HT := Lib.hid ht
  clear ht
  unfold Sh.v vSheet
  dsimp only at hfew hmany ⊢
  obtain ⟨w1, hw1⟩ : ∃ w1, w1 = ((w.alloc (.cells #[.int .i64 L, .int .i64 R, .slice A l.length ca, .slice B t.length cb] 25)).alloc (.cells #[.int .i64 0, .int .i64 0, .slice none 0 0, .slice none 0 0] 25)).alloc (.cells #[.int .i64 L, .int .i64 R, .slice none 0 0, .slice none 0 0] 25) := ⟨_, rfl⟩
  have HB1 : Hid (Below w.heap.size w w1) := Lib.hid (by rw [hw1]; exact below_alloc' (below_alloc' (below_alloc' (Below.refl _ _) _) _) _)
  have hX : w1.heap[w.heap.size]? = some (.cells #[.int .i64 L, .int .i64 R, .slice A l.length ca, .slice B t.length cb] 25 (0, 0)) := by rw [hw1]; exact blk_alloc (blk_alloc (heap_alloc_new _ _) _) _
  have hX1 : w1.heap[w.heap.size + 1]? = some (.cells #[.int .i64 0, .int .i64 0, .slice none 0 0, .slice none 0 0] 25 (0, 0)) := by rw [hw1]; exact blk_alloc (heap_alloc_at _ _ (by simp)) _
  have hX2 : w1.heap[w.heap.size + 1 + 1]? = some (.cells #[.int .i64 L, .int .i64 R, .slice none 0 0, .slice none 0 0] 25 (0, 0)) := by rw [hw1]; exact heap_alloc_at _ _ (by simp)
  have hzw : w.heap.size + 3 ≤ w1.heap.size := by rw [hw1]; simp
  go_enter Try.func36, Try.ntmps36
  go_upto_region 2 with fail
  rw [← hw1]
  clear hw1
  obtain ⟨i0, hi, hz0, hz1, hz2⟩ := info_parts elemR.info
  go_wp2
  go_loopw [6] (fun i wr => ∃ (j : Nat) (u : Value), j ≤ l.length ∧ i = .int .i64 j ∧ wr.heap[w.heap.size]? = some (.cells #[.int .i64 L, .int .i64 R, .slice A l.length ca, .slice B t.length cb] 25 (0, 0)) ∧ wr.heap[w.heap.size + 1]? = some (.cells #[.int .i64 0, .int .i64 0, .slice none 0 0, .slice none 0 0] 25 (0, 0)) ∧ wr.heap[w.heap.size + 1 + 1]? = some (.cells #[.int .i64 L, .int .i64 R, u, .slice none 0 0] 25 (0, 0)) ∧ wr.ownsRow (w.heap.size + 3) 55 2 u ((l.take j).eraseIdx k).length (((l.take j).eraseIdx k).flatMap encR) ∧ Hid (Below w.heap.size w wr) ∧ w.heap.size + 3 ≤ wr.heap.size) (fun i _ => l.length - (intOf i).toNat)
  case atStart => exact ⟨0, .slice none 0 0, by omega, rfl, hX, hX1, hX2, by simpa using World.ownsRow_nil w1 (w.heap.size + 3) 55 2, HB1, hzw⟩
  case round =>
    clear hX hX1 hX2 hzw
    obtain ⟨j, u, hj, rfl, hX, hX1, hX2, hown, HBr, hz⟩ := hrel
    have y2 : wr.cell? ⟨w.heap.size, 2, none⟩ = some (.slice A l.length ca) := (blk_cell hX).trans rfl
    have y3 : wr.cell? ⟨w.heap.size, 3, none⟩ = some (.slice B t.length cb) := (blk_cell hX).trans rfl
    have hle := erase_le l j k
    by_cases hjn : j < l.length
    · by_cases hjk : j = k
      · have HN := Lib.hid (erase_take_hit (l := l) (k := j) hjn)
        have d1 : ((j : Int) != (k : Int)) = false := by simp; omega
        rw [hjk] at HN
        rw [← hjk] at HN
        subst hjk
        go_wp2
        go_roundw
        case rel => exact ⟨j + 1, u, by omega, by go_num, hX, hX1, hX2, by rw [HN.out]; exact hown, HBr, hz⟩
        case measure => simp [intOf]; omega
      · have HN := Lib.hid (erase_take_miss hjn hjk)
        have d1 : ((j : Int) != (k : Int)) = true := by simp; omega
        obtain ⟨b1, o1, rfl, p1, p2⟩ := (HS.out.links.below HBr.out).at_ hjn
        dsimp only at p1 p2 HN
        have ij0 : (0 : Int) ≤ (j : Int) := by omega
        have ij1 : (j : Int) < (l.length : Int) := by omega
        generalize l[j] = x at p1 p2 HN
        obtain ⟨x1, x2⟩ := x
        dsimp only at p1 p2
        have Hown := Lib.hid hown
        clear hown
        generalize (l.take j).eraseIdx k = T at HN Hown hle
        have x2c : wr.cell? ⟨w.heap.size + 1 + 1, 2, none⟩ = some u := (blk_cell hX2).trans rfl
        have HX := Lib.hid hX
        have HX1 := Lib.hid hX1
        have HX2 := Lib.hid hX2
        clear hX hX1 hX2
        have x2a := cell_alloc x2c (.cells #[.int .i64 x1, .int .i64 x2] 55)
        have y2a := cell_alloc y2 (.cells #[.int .i64 x1, .int .i64 x2] 55)
        go_upto_region 6 with fail
        go_region_law (refine step_append_lies _ rfl (.tmp 25) (.tmp 31) 22 rfl (w.heap.size + 3) 55 i0 (.agg #[.int .i64 0, .int .i64 0]) 2 16 Try.underlying22 hi hz0 hz1 hz2 rfl (by omega) u T.length (T.flatMap encR) (by rfl) ((Hown.out.alloc _).drew) ⟨wr.heap.size, 0, none⟩ 1 1 (encR (x1, x2)) (by rfl) (by rfl) (World.news_of_block (cs := #[.int .i64 x1, .int .i64 x2]) (t := 55) (fr := (0, 0)) (heap_alloc_new wr _)) (oneR _) (by omega) (by simp only [maxLen]; omega) (by omega) (by simp; omega) (wr.heap.size + 1) (by simp) ?_; intro g cap w5 hown5 hg5 hat5 hlt5; have hr5 := own_base Hown.out; have hX5 := blk_grown hg5 (blk_alloc HX.out (.cells #[.int .i64 x1, .int .i64 x2] 55)) (fun e => by have := hr5 _ e.symm; omega); have hX15 := blk_grown hg5 (blk_alloc HX1.out (.cells #[.int .i64 x1, .int .i64 x2] 55)) (fun e => by have := hr5 _ e.symm; omega); have hX25 := blk_grown hg5 (blk_alloc HX2.out (.cells #[.int .i64 x1, .int .i64 x2] 55)) (fun e => by have := hr5 _ e.symm; omega); have e2 : w5.cell? ⟨w.heap.size + 1 + 1, 2, none⟩ = some u := (blk_cell hX25).trans rfl; have f2 := blk_frozen (i := 2) hX25)
        all_goals
          have hX6 := blk_far hX5 (p := ⟨w.heap.size + 1 + 1, 2, none⟩) (by dsimp only; omega) (.slice (some ⟨g, 0, none⟩) (T.length + 1) cap)
          have hX16 := blk_far hX15 (p := ⟨w.heap.size + 1 + 1, 2, none⟩) (by dsimp only; omega) (.slice (some ⟨g, 0, none⟩) (T.length + 1) cap)
          have hX26 := blk_set (i := 2) hX25 (.slice (some ⟨g, 0, none⟩) (T.length + 1) cap)
          rw [push_flat] at hown5
          have HO6 := Lib.hid (ownsRow_setCell_below (a := ⟨w.heap.size + 1 + 1, 2, none⟩) hown5 (by dsimp only; omega) (.slice (some ⟨g, 0, none⟩) (T.length + 1) cap))
          have HB6 := Lib.hid (((below_alloc' HBr.out _).drew.grown hg5 (by simp; omega) (fun r e => by have := hr5 r e; omega)).setCell (p := ⟨w.heap.size + 1 + 1, 2, none⟩) (by dsimp only; omega) (.slice (some ⟨g, 0, none⟩) (T.length + 1) cap))
          have hz6 := hg5.size
          have hz7 : w.heap.size + 3 ≤ w5.heap.size := by simp at hz6; omega
          clear hX5 hX15 hX25 hown5 hg5 hr5 hat5 e2 f2 x2a y2a HBr Hown HX HX1 HX2 hz6
          go_wp2
          go_roundw
          case rel => exact ⟨j + 1, _, by omega, by go_num, hX6, hX16, hX26, by rw [HN.out, len_snoc]; exact HO6.out, HB6, by simp; omega⟩
          case measure => simp [intOf]; omega
    · have hje : j = l.length := by omega
      subst hje
      rw [List.take_length] at hown hle
      have HoL := Lib.hid hown
      have HX := Lib.hid hX
      have HX1 := Lib.hid hX1
      have HX2 := Lib.hid hX2
      clear hown hX hX1 hX2 y3
      obtain ⟨wo, hwo⟩ : ∃ wo, wo = wr := ⟨_, rfl⟩
      subst hwo
      go_wp2
      clear y2
      go_loopw [7] (fun i wr => ∃ (j : Nat) (v : Value), j ≤ t.length ∧ i = .int .i64 j ∧ Hid (wr.heap[w.heap.size]? = some (.cells #[.int .i64 L, .int .i64 R, .slice A l.length ca, .slice B t.length cb] 25 (0, 0))) ∧ Hid (wr.heap[w.heap.size + 1]? = some (.cells #[.int .i64 0, .int .i64 0, .slice none 0 0, .slice none 0 0] 25 (0, 0))) ∧ Hid (wr.heap[w.heap.size + 1 + 1]? = some (.cells #[.int .i64 L, .int .i64 R, u, v] 25 (0, 0))) ∧ Hid (wr.ownsRow (w.heap.size + 3) 55 2 u (l.eraseIdx k).length ((l.eraseIdx k).flatMap encR)) ∧ Hid (wr.ownsRow (w.heap.size + 3) 3 1 v (noT (t.take j) k).length ((noT (t.take j) k).flatMap encI)) ∧ Hid (Below w.heap.size w wr) ∧ w.heap.size + 3 ≤ wr.heap.size) (fun i _ => t.length - (intOf i).toNat)
      case atStart => exact ⟨0, .slice none 0 0, by omega, rfl, HX, HX1, HX2, HoL, Lib.hid (by simpa [noT] using World.ownsRow_nil wo (w.heap.size + 3) 3 1), HBr, hz⟩
      case round =>
        clear HX HX1 HX2 HoL HBr hz
        obtain ⟨j, v, hj, rfl, HX, HX1, HX2, HoL, HoT, HBr, hz⟩ := hrel
        have y3 : wr.cell? ⟨w.heap.size, 3, none⟩ = some (.slice B t.length cb) := (blk_cell HX.out).trans rfl
        by_cases hjn : j < t.length
        · obtain ⟨b1, o1, rfl, p1⟩ := (HS.out.known.below HBr.out).at_ hjn
          try dsimp only at p1
          have ij0 : (0 : Int) ≤ (j : Int) := by omega
          have ij1 : (j : Int) < (t.length : Int) := by omega
          have HN := Lib.hid (noT_step (k := k) hjn)
          have hb := HT.out t[j] (List.getElem_mem hjn)
          have hlT := noT_len (t.take j) k
          rw [List.length_take, Nat.min_eq_left hj] at hlT
          have hlT := Nat.le_of_eq hlT
          generalize noT (t.take j) k = T at HN HoT hlT
          try dsimp only at hb
          generalize t[j] = x at p1 hb HN
          unfold decK at HN
          have xc : wr.cell? ⟨w.heap.size + 1 + 1, 3, none⟩ = some v := (blk_cell HX2.out).trans rfl
          by_cases hkx : (k : Int) < x
          · rw [if_pos hkx] at HN
            have d1 : decide (x > (k : Int)) = true := decide_eq_true hkx
            have hbk := heap_alloc_new wr (.cells #[.int .i64 (x - 1)] 3)
            have hXA := blk_alloc HX.out (.cells #[.int .i64 (x - 1)] 3)
            have hX1A := blk_alloc HX1.out (.cells #[.int .i64 (x - 1)] 3)
            have hX2A := blk_alloc HX2.out (.cells #[.int .i64 (x - 1)] 3)
            have HoTA := Lib.hid (HoT.out.alloc (.cells #[.int .i64 (x - 1)] 3))
            have HoLA := Lib.hid (HoL.out.alloc (.cells #[.int .i64 (x - 1)] 3))
            have HoD := Lib.hid (own_apart HoL.out HoT.out (show (55 : Nat) ≠ 3 by decide))
            have hr6 := own_base HoT.out
            go_wp2_with (at_builtin; refine wpList_push _ rfl (.tmp 52) (.tmp 54) 23 rfl elemI3 encI_len oneI Try.underlying23 (w.heap.size + 3) v T rfl HoTA.out (by omega) (x - 1) wr.heap.size (by rfl) _ rfl _ _ hbk (by rw [World.size_alloc]; omega) ?_; intro g cap w6 hO6 hg6; have hX6 := blk_grown hg6 hXA (fun e => by have := hr6 _ e.symm; omega); have hX16 := blk_grown hg6 hX1A (fun e => by have := hr6 _ e.symm; omega); have hX26 := blk_grown hg6 hX2A (fun e => by have := hr6 _ e.symm; omega); have hc6 : w6.cell? ⟨w.heap.size + 1 + 1, 3, none⟩ = some v := (blk_cell hX26).trans rfl; have hf6 : w6.frozen? ⟨w.heap.size + 1 + 1, 3, none⟩ = false := blk_frozen hX26)
            have hX7 := blk_far hX6 (p := ⟨w.heap.size + 1 + 1, 3, none⟩) (by dsimp only; omega) (.slice (some ⟨g, 0, none⟩) (T.length + 1) cap)
            have hX17 := blk_far hX16 (p := ⟨w.heap.size + 1 + 1, 3, none⟩) (by dsimp only; omega) (.slice (some ⟨g, 0, none⟩) (T.length + 1) cap)
            have hX27 := blk_set (i := 3) hX26 (.slice (some ⟨g, 0, none⟩) (T.length + 1) cap)
            have HO7 := Lib.hid (ownsRow_setCell_below (a := ⟨w.heap.size + 1 + 1, 3, none⟩) hO6 (by dsimp only; omega) (.slice (some ⟨g, 0, none⟩) (T.length + 1) cap))
            have HL7 := Lib.hid (ownsRow_setCell_below (a := ⟨w.heap.size + 1 + 1, 3, none⟩) (HoLA.out.kept hg6 HoD.out) (by dsimp only; omega) (.slice (some ⟨g, 0, none⟩) (T.length + 1) cap))
            have HB7 := Lib.hid (((below_alloc' HBr.out _).grown hg6 (by rw [World.size_alloc]; omega) (fun r e => by have := hr6 r e; omega)).setCell (p := ⟨w.heap.size + 1 + 1, 3, none⟩) (by dsimp only; omega) (.slice (some ⟨g, 0, none⟩) (T.length + 1) cap))
            have hz6 := hg6.size
            rw [World.size_alloc] at hz6
            go_roundw
            case rel => exact ⟨j + 1, _, by omega, by go_num, Lib.hid hX7, Lib.hid hX17, Lib.hid hX27, HL7, Lib.hid (by rw [HN.out, len_snoc]; exact HO7.out), HB7, by simp; omega⟩
            case measure => simp [intOf]; omega
          · rw [if_neg hkx] at HN
            have d1 : decide (x > (k : Int)) = false := decide_eq_false hkx
            have hbk := heap_alloc_new wr (.cells #[.int .i64 (x)] 3)
            have hXA := blk_alloc HX.out (.cells #[.int .i64 (x)] 3)
            have hX1A := blk_alloc HX1.out (.cells #[.int .i64 (x)] 3)
            have hX2A := blk_alloc HX2.out (.cells #[.int .i64 (x)] 3)
            have HoTA := Lib.hid (HoT.out.alloc (.cells #[.int .i64 (x)] 3))
            have HoLA := Lib.hid (HoL.out.alloc (.cells #[.int .i64 (x)] 3))
            have HoD := Lib.hid (own_apart HoL.out HoT.out (show (55 : Nat) ≠ 3 by decide))
            have hr6 := own_base HoT.out
            go_wp2_with (at_builtin; refine wpList_push _ rfl (.tmp 52) (.tmp 54) 23 rfl elemI3 encI_len oneI Try.underlying23 (w.heap.size + 3) v T rfl HoTA.out (by omega) (x) wr.heap.size (by rfl) _ rfl _ _ hbk (by rw [World.size_alloc]; omega) ?_; intro g cap w6 hO6 hg6; have hX6 := blk_grown hg6 hXA (fun e => by have := hr6 _ e.symm; omega); have hX16 := blk_grown hg6 hX1A (fun e => by have := hr6 _ e.symm; omega); have hX26 := blk_grown hg6 hX2A (fun e => by have := hr6 _ e.symm; omega); have hc6 : w6.cell? ⟨w.heap.size + 1 + 1, 3, none⟩ = some v := (blk_cell hX26).trans rfl; have hf6 : w6.frozen? ⟨w.heap.size + 1 + 1, 3, none⟩ = false := blk_frozen hX26)
            have hX7 := blk_far hX6 (p := ⟨w.heap.size + 1 + 1, 3, none⟩) (by dsimp only; omega) (.slice (some ⟨g, 0, none⟩) (T.length + 1) cap)
            have hX17 := blk_far hX16 (p := ⟨w.heap.size + 1 + 1, 3, none⟩) (by dsimp only; omega) (.slice (some ⟨g, 0, none⟩) (T.length + 1) cap)
            have hX27 := blk_set (i := 3) hX26 (.slice (some ⟨g, 0, none⟩) (T.length + 1) cap)
            have HO7 := Lib.hid (ownsRow_setCell_below (a := ⟨w.heap.size + 1 + 1, 3, none⟩) hO6 (by dsimp only; omega) (.slice (some ⟨g, 0, none⟩) (T.length + 1) cap))
            have HL7 := Lib.hid (ownsRow_setCell_below (a := ⟨w.heap.size + 1 + 1, 3, none⟩) (HoLA.out.kept hg6 HoD.out) (by dsimp only; omega) (.slice (some ⟨g, 0, none⟩) (T.length + 1) cap))
            have HB7 := Lib.hid (((below_alloc' HBr.out _).grown hg6 (by rw [World.size_alloc]; omega) (fun r e => by have := hr6 r e; omega)).setCell (p := ⟨w.heap.size + 1 + 1, 3, none⟩) (by dsimp only; omega) (.slice (some ⟨g, 0, none⟩) (T.length + 1) cap))
            have hz6 := hg6.size
            rw [World.size_alloc] at hz6
            go_roundw
            case rel => exact ⟨j + 1, _, by omega, by go_num, Lib.hid hX7, Lib.hid hX17, Lib.hid hX27, HL7, Lib.hid (by rw [HN.out, len_snoc]; exact HO7.out), HB7, by simp; omega⟩
            case measure => simp [intOf]; omega
        · have hje : j = t.length := by omega
          subst hje
          have hoT := HoT.out
          rw [List.take_length] at hoT
          have HoT' := Lib.hid hoT
          clear hoT HoT
          obtain ⟨G, c, rfl, hc⟩ := own_form HoL.out
          obtain ⟨H, d, rfl, hd⟩ := own_form HoT'.out
          have hcm : c ≤ 9223372036854775807 := by
            rcases HoL.out.2 with ⟨h1, _⟩ | ⟨g, cap, cur, h1, h2⟩
            · injection h1 with _ _ h3; omega
            · injection h1 with _ _ h3
              have := h2
              unfold maxLen at this
              omega
          have x0 : wr.cell? ⟨w.heap.size + 1 + 1, 0, none⟩ = some (.int .i64 L) := (blk_cell HX2.out).trans rfl
          have x1 : wr.cell? ⟨w.heap.size + 1 + 1, 1, none⟩ = some (.int .i64 R) := (blk_cell HX2.out).trans rfl
          have x2 : wr.cell? ⟨w.heap.size + 1 + 1, 2, none⟩ = some (.slice G (l.eraseIdx k).length c) := (blk_cell HX2.out).trans rfl
          have x3 : wr.cell? ⟨w.heap.size + 1 + 1, 3, none⟩ = some (.slice H (noT t k).length d) := (blk_cell HX2.out).trans rfl
          have e0 : wr.cell? ⟨w.heap.size + 1, 0, none⟩ = some (.int .i64 0) := (blk_cell HX1.out).trans rfl
          have e1 : wr.cell? ⟨w.heap.size + 1, 1, none⟩ = some (.int .i64 0) := (blk_cell HX1.out).trans rfl
          have e2 : wr.cell? ⟨w.heap.size + 1, 2, none⟩ = some (.slice none 0 0) := (blk_cell HX1.out).trans rfl
          have e3 : wr.cell? ⟨w.heap.size + 1, 3, none⟩ = some (.slice none 0 0) := (blk_cell HX1.out).trans rfl
          have f0 := blk_frozen (i := 0) HX1.out
          have f1 := blk_frozen (i := 1) HX1.out
          have f2 := blk_frozen (i := 2) HX1.out
          have f3 := blk_frozen (i := 3) HX1.out
          have HF1 := Lib.hid (fill4_blk HX1.out (.int .i64 L) (.int .i64 R) (.slice G (l.eraseIdx k).length c) (.slice H (noT t k).length d))
          have HF2 := Lib.hid (fill4_below (b := w.heap.size + 1) HBr.out (Nat.le_succ w.heap.size) (.int .i64 L) (.int .i64 R) (.slice G (l.eraseIdx k).length c) (.slice H (noT t k).length d))
          have HF3 := Lib.hid (RowsAt.of_own encR_len (fill4_own (b := w.heap.size + 1) HoL.out (by omega) (.int .i64 L) (.int .i64 R) (.slice G (l.eraseIdx k).length c) (.slice H (noT t k).length d)))
          have HF4 := Lib.hid (RowsAt.of_own encI_len (fill4_own (b := w.heap.size + 1) HoT'.out (by omega) (.int .i64 L) (.int .i64 R) (.slice G (l.eraseIdx k).length c) (.slice H (noT t k).length d)))
          have HN1 : Hid (∀ a, G = some a → w.heap.size ≤ a.block) := Lib.hid fun a e => by have := own_base HoL.out a.block (by rw [e]; rfl); omega
          have HN2 : Hid (∀ a, H = some a → w.heap.size ≤ a.block) := Lib.hid fun a e => by have := own_base HoT'.out a.block (by rw [e]; rfl); omega
          have HC := Lib.hid hc
          have HD := Lib.hid hd
          have HCM := Lib.hid hcm
          clear hc hd hcm HX HX1 HX2 HBr HoL HoT'
          go_wp2
          generalize World.setCell _ _ _ = V at *
          clear y3 x0 x1 x2 x3 e0 e1 e2 e3 f0 f1 f2 f3
          have e0 := (blk_cell (i := 0) HF1.out).trans rfl
          have e1 := (blk_cell (i := 1) HF1.out).trans rfl
          have e2 := (blk_cell (i := 2) HF1.out).trans rfl
          have e3 := (blk_cell (i := 3) HF1.out).trans rfl
          exact bodyPost_ret (v := vSheet L R G (l.eraseIdx k).length c H (noT t k).length d) (by simp [vSheet, results, Try.results36, go_sem, e0, e1, e2, e3]) rfl (Ret.mk ⟨⟨G, c, H, d, rfl, HF3.out, HC.out, HCM.out, HF4.out, HD.out, HN1.out, HN2.out⟩, HF2.out⟩)
theorem without_any (s : Sh) (k : Nat) (w : World) (hs : ShAt w s) (ht : ∀ x ∈ s.t, 0 ≤ x ∧ x ≤ 100000) :
    Calls Try.prog 36 #[s.v, .int .i64 k] w (Ret fun v w' => (∃ G c H d, v = vSheet s.L s.R G (s.l.eraseIdx k).length c H (noT s.t k).length d ∧ RangesAt w' G (s.l.eraseIdx k) ∧ (s.l.eraseIdx k).length ≤ c ∧ c ≤ 9223372036854775807 ∧ IntsAt w' H (noT s.t k) ∧ (noT s.t k).length ≤ d) ∧ Below w.heap.size w w') :=
  (without_fresh s k w hs ht).mono (by rintro e w' ⟨v, rfl, ⟨G, c, H, d, rfl, h1, h2, h3, h4, h5, _⟩, hB⟩; exact Ret.mk ⟨⟨G, c, H, d, rfl, h1, h2, h3, h4, h5⟩, hB⟩)
end Go.Proofs.Ytoogfdicmpkkgaa
