/- FamilyNamed: the walk. -/
import Derived.Test.YtggcooplhodocaaDoorL7
import Derived.Test.YtggcooplhodocaaDoorP2
namespace Go.Proofs.YtggcooplhodocaaDoor
open Go.RowKit Go.Shelf Go.Maps Fam
theorem step_is (a b c : Int) (w : World) : Calls Tryd.prog 30 #[.int .i64 a, .int .i64 b, .int .i64 c] w (Ret fun v w' => v = .agg #[.int .i64 a, .int .i64 b, .int .i64 c] ∧ w' = w.alloc (.cells #[.int .i64 a, .int .i64 b, .int .i64 c] 50)) := by
  go_enter Tryd.func30, Tryd.ntmps30
  go_wp2
  exact bodyPost_ret (v := .agg #[.int .i64 a, .int .i64 b, .int .i64 c]) (by simp [results, Tryd.results30, go_sem]) rfl (Ret.mk ⟨rfl, rfl⟩)
set_option maxRecDepth 100000 in
set_option maxHeartbeats 3000000 in
theorem familyNamed_any (S R : Int) (A : Option Addr) (ca : Nat) (l : List St) (a c : Int) (w : World) (hl : StepsAt w A l) (ha : 0 ≤ a ∧ a ≤ 255) (hc : 0 ≤ c ∧ c ≤ 255) (hn : l.length ≤ 9223372036854775807) (hT : Tab w) :
    Calls Tryd.prog 10 #[vBook S R A l.length ca, .int .u8 a, .int .u8 c] w (Ret fun v w' => v = .bool true ∧ Below w.heap.size w w') := by
  have HL := Lib.hid hl
  have HL0 := Lib.hid hl
  have HT := Lib.hid hT
  have HT0 := Lib.hid hT
  clear hl hT
  obtain ⟨a, rfl⟩ := Int.eq_ofNat_of_zero_le ha.1
  obtain ⟨c, rfl⟩ := Int.eq_ofNat_of_zero_le hc.1
  unfold vBook
  have hX := heap_alloc_new w (.cells #[.int .i64 S, .int .i64 R, .slice A l.length ca] 24)
  have hb := below_alloc' (Below.refl w.heap.size w) (.cells #[.int .i64 S, .int .i64 R, .slice A l.length ca] 24)
  have y0 := (blk_cell (i := 0) hX).trans rfl
  have y1 := (blk_cell (i := 1) hX).trans rfl
  have y2 := (blk_cell (i := 2) hX).trans rfl
  go_enter Tryd.func10, Tryd.ntmps10
  go_upto_region 1 with fail
  have HB1 := Lib.hid hb
  have HX0 := Lib.hid hX
  replace HL := Lib.hid (HL.out.below hb)
  replace HT := Lib.hid (HT.out.below hb)
  clear hb hX
  generalize w.alloc (.cells #[.int .i64 S, .int .i64 R, .slice A l.length ca] 24) = w1 at *
  have Hc := Lib.hid (fine_any S R A ca l w1 HL.out hn)
  go_wp2_with fail
  refine Hc.out.mono ?_
  rintro e w2 ⟨v, rfl, ⟨bf, rfl, hfb⟩, hb⟩
  have HB2 := Lib.hid (below_trans' HB1.out hb)
  replace HL := Lib.hid (HL.out.below hb)
  replace HT := Lib.hid (HT.out.below hb)
  replace y0 := cell_below hb y0
  replace y1 := cell_below hb y1
  replace y2 := cell_below hb y2
  replace HX0 := Lib.hid (blk_below hb HX0.out)
  clear hb Hc HB1
  cases bf
  · go_wp2_with fail
    refine (works_any _ HT.out).mono ?_
    rintro e wz ⟨v, rfl, rfl, hBz⟩
    go_wp2
    go_ret
    exact Ret.mk' rfl ⟨rfl, below_trans' HB2.out hBz⟩
  obtain ⟨hk, hf⟩ := hfb.1 rfl
  have HK := Lib.hid hk
  have HF := Lib.hid hf
  have hn1 : l.length ≤ 100000 := by have := hk.many; omega
  have hs16 : S ≤ 16 := by have := hk.dim; omega
  clear hfb hk hf
  have hdim := HK.out.dim
  have hroot := HK.out.root
  obtain ⟨n, rfl⟩ := Int.eq_ofNat_of_zero_le (by omega : 0 ≤ S)
  obtain ⟨r, rfl⟩ := Int.eq_ofNat_of_zero_le hroot.1
  have hrn : r < n := by omega
  have hn0 : 0 < n := by omega
  have hm200 := HK.out.many
  clear hroot hdim
  have hne : ¬ ((n : Int) = 0) := by omega
  have hne2 : ¬ (n = 0) := by omega
  obtain ⟨t, ht, htn⟩ : ∃ t : Nat, (a : Int) % (n : Int) = (t : Int) ∧ t < n := ⟨a % n, by norm_cast, Nat.mod_lt _ hn0⟩
  have hrx : ((r : Int) + (t : Int)) % (n : Int) = (((r + t) % n : Nat) : Int) := by norm_cast
  have hw1 : IntKind.i64.wrap ((r : Int) + (t : Int)) = (r : Int) + (t : Int) := IntWalk.i64_in _ (by omega)
  have HKx : Hid (BookOk (n : Int) (((r + t) % n : Nat) : Int) (namedL n t c l l.length)) := Lib.hid (named_book HK.out)
  obtain ⟨rx, hrx0⟩ : ∃ rx, rx = (r + t) % n := ⟨_, rfl⟩
  rw [← hrx0] at hrx HKx
  have hrt : ((r : Int) + (t : Int)).tmod (n : Int) = (rx : Int) := by rw [Int.tmod_eq_emod_of_nonneg (by omega)]; exact hrx
  have HRx := Lib.hid hrx0
  clear hrx0
  go_upto_region 5 with fail
  rw [ht]
  clear ht
  refine wp_region_held (S := fun W => W.cell? ⟨w.heap.size, 0, none⟩ = some (.int .i64 n) ∧ W.cell? ⟨w.heap.size, 1, none⟩ = some (.int .i64 r)) (by kernel_rfl) ?_
  refine wpAnyH_take (i := 0) (v := ?_) rfl (by kernel_rfl) (by kernel_rfl) (by kernel_rfl) (fun _ _ _ h => h) (Or.inl ⟨by rfl, ?_⟩) ⟨y0, y1⟩ ?_
  rotate_left 1
  · intro W hW; obtain ⟨s0, s1⟩ := hW; go_simp <;> with_reducible rfl
  refine wpAnyH_take (i := 1) (v := ?_) rfl (by kernel_rfl) (by kernel_rfl) (by kernel_rfl) (fun _ _ _ h => h) (Or.inl ⟨by rfl, ?_⟩) ⟨y0, y1⟩ ?_
  rotate_left 1
  · intro W hW; obtain ⟨s0, s1⟩ := hW; go_simp <;> with_reducible rfl
  refine wpAnyH_take (i := 2) (v := ?_) rfl (by kernel_rfl) (by kernel_rfl) (by kernel_rfl) (fun _ _ _ h => h) (Or.inl ⟨by rfl, ?_⟩) ⟨y0, y1⟩ ?_
  rotate_left 1
  · intro W hW; obtain ⟨s0, s1⟩ := hW; go_simp <;> with_reducible rfl
  refine wpAnyH_take (i := 3) (v := ?_) rfl (by kernel_rfl) (by kernel_rfl) (by kernel_rfl) (fun _ _ _ h => h) (Or.inl ⟨by rfl, ?_⟩) ⟨y0, y1⟩ ?_
  rotate_left 1
  · intro W hW; obtain ⟨s0, s1⟩ := hW; go_simp <;> with_reducible rfl
  refine wpAnyH_take (i := 4) (v := ?_) rfl (by kernel_rfl) (by kernel_rfl) (by kernel_rfl) (fun _ _ _ h => h) (Or.inl ⟨by rfl, ?_⟩) ⟨y0, y1⟩ ?_
  rotate_left 1
  · intro W hW; obtain ⟨s0, s1⟩ := hW; go_simp <;> with_reducible rfl
  refine wpAnyH_take (i := 5) (v := ?_) rfl (by kernel_rfl) (by kernel_rfl) (by kernel_rfl) (fun _ _ _ h => h) (Or.inl ⟨by rfl, ?_⟩) ⟨y0, y1⟩ ?_
  rotate_left 1
  · intro W hW; obtain ⟨s0, s1⟩ := hW; go_simp <;> with_reducible rfl
  refine wpAnyH_take (i := 6) (v := ?_) rfl (by kernel_rfl) (by kernel_rfl) (by kernel_rfl) (fun _ _ _ h => h) (Or.inl ⟨by rfl, ?_⟩) ⟨y0, y1⟩ ?_
  rotate_left 1
  · intro W hW; obtain ⟨s0, s1⟩ := hW; go_simp <;> with_reducible rfl
  refine wpAnyH_take (i := 7) (v := ?_) rfl (by kernel_rfl) (by kernel_rfl) (by kernel_rfl) (fun _ _ _ h => h) (Or.inl ⟨by rfl, ?_⟩) ⟨y0, y1⟩ ?_
  rotate_left 1
  · intro W hW; obtain ⟨s0, s1⟩ := hW; go_simp <;> with_reducible rfl
  refine wpAnyH_take (i := 8) (v := ?_) rfl (by kernel_rfl) (by kernel_rfl) (by kernel_rfl) (fun _ _ _ h => h) (Or.inl ⟨by rfl, ?_⟩) ⟨y0, y1⟩ ?_
  rotate_left 1
  · intro W hW; obtain ⟨s0, s1⟩ := hW; go_simp <;> with_reducible rfl
  refine wpAnyH_take (i := 9) (v := ?_) rfl (by kernel_rfl) (by kernel_rfl) (by kernel_rfl) (fun _ _ _ h => h) (Or.inl ⟨by rfl, ?_⟩) ⟨y0, y1⟩ ?_
  rotate_left 1
  · intro W hW; obtain ⟨s0, s1⟩ := hW; go_simp <;> with_reducible rfl
  simp only [Act.put, List.setIfInBounds_toArray]
  have y0a := cell_alloc y0 (.cells #[.int .i64 0, .int .i64 0, .slice none 0 0] 24)
  have y1a := cell_alloc y1 (.cells #[.int .i64 0, .int .i64 0, .slice none 0 0] 24)
  refine wpAnyH_ready (rs := [10]) (by kernel_rfl) (by simp) ?_
  refine AllReadyH.cons rfl (fun K hK => ?_) AllReadyH.nil
  go_simp
  refine hK.out _ _ ⟨y0a, y1a⟩ (fun _ => ?_)
  clear hK K
  refine wpAnyH_ready (rs := [11]) (by kernel_rfl) (by simp) ?_
  refine AllReadyH.cons rfl (fun K hK => ?_) AllReadyH.nil
  go_simp
  have BXc := cell_alloc y0 (.cells #[.int .i64 n, .int .i64 rx, .slice none 0 0] 24)
  have BXd := cell_alloc y1 (.cells #[.int .i64 n, .int .i64 rx, .slice none 0 0] 24)
  refine hK.out _ _ ⟨BXc, BXd⟩ (fun _ => ?_)
  clear hK K y0a y1a BXc BXd
  refine wpAnyH_done (by kernel_rfl) ?_ _
  have hlt := blk_lt HX0.out
  have hX := heap_alloc_new w2 (.cells #[.int .i64 n, .int .i64 rx, .slice none 0 0] 24)
  have h0 := blk_alloc HX0.out (.cells #[.int .i64 n, .int .i64 rx, .slice none 0 0] 24)
  have hb := (below_alloc' HB2.out (.cells #[.int .i64 n, .int .i64 rx, .slice none 0 0] 24)).drew
  have hsz : w2.heap.size + 1 ≤ (w2.alloc (.cells #[.int .i64 n, .int .i64 rx, .slice none 0 0] 24)).drew.heap.size := by show w2.heap.size + 1 ≤ (w2.alloc (.cells #[.int .i64 n, .int .i64 rx, .slice none 0 0] 24)).heap.size; simp
  have HXb : Hid ((w2.alloc (.cells #[.int .i64 n, .int .i64 rx, .slice none 0 0] 24)).drew.heap[w2.heap.size]? = some (.cells #[.int .i64 n, .int .i64 rx, .slice none 0 0] 24 (0, 0))) := Lib.hid hX
  replace HX0 : Hid ((w2.alloc (.cells #[.int .i64 n, .int .i64 rx, .slice none 0 0] 24)).drew.heap[w.heap.size]? = some (.cells #[.int .i64 n, .int .i64 r, .slice A l.length ca] 24 (0, 0))) := Lib.hid h0
  have HBs := Lib.hid hb
  clear hX h0 hb HB2 HL HT y0 y1 y2 hrx hrt hw1
  generalize (w2.alloc (.cells #[.int .i64 n, .int .i64 rx, .slice none 0 0] 24)).drew = w3 at *
  generalize w2.heap.size = bx at *
  have HO0 : Hid (w3.ownsRow (bx + 1) 50 3 (.slice none 0 0) (namedL n t c l 0).length ((namedL n t c l 0).flatMap encT)) := Lib.hid (World.ownsRow_nil w3 (bx + 1) 50 3)
  go_wp2
  go_loopw [10] (fun i wr => ∃ (k : Nat) (sx : Value), k ≤ l.length ∧ i = .int .i64 k ∧ Hid (wr.heap[w.heap.size]? = some (.cells #[.int .i64 n, .int .i64 r, .slice A l.length ca] 24 (0, 0))) ∧ Hid (wr.heap[bx]? = some (.cells #[.int .i64 n, .int .i64 rx, sx] 24 (0, 0))) ∧ Hid (wr.ownsRow (bx + 1) 50 3 sx (namedL n t c l k).length ((namedL n t c l k).flatMap encT)) ∧ Hid (Below w.heap.size w wr) ∧ bx + 1 ≤ wr.heap.size) (fun i _ => l.length - (intOf i).toNat)
  case atStart => exact ⟨0, _, by omega, rfl, HX0, HXb, HO0, HBs, hsz⟩
  case round =>
    clear HX0 HXb HO0 HBs hsz
    obtain ⟨k, sx, hk, rfl, HX0, HXb, HO, HB, hsz⟩ := hrel
    obtain ⟨wz, hwz⟩ : ∃ x, x = wr := ⟨_, rfl⟩
    subst hwz
    by_cases hkn : k < l.length
    · have y2 : wz.cell? ⟨w.heap.size, 2, none⟩ = some (.slice A l.length ca) := (blk_cell HX0.out).trans rfl
      have hwc : IntKind.i64.wrap (c : Int) = (c : Int) := IntWalk.i64_in _ (by omega)
      have hl0 : 0 < l.length := by omega
      have hl1 : ¬ (l.length = 0) := by omega
      have hl2 : ¬ ((l.length : Int) = 0) := by omega
      obtain ⟨j, hj⟩ : ∃ j, j = (k + c) % l.length := ⟨_, rfl⟩
      have hjl : j < l.length := by rw [hj]; exact Nat.mod_lt _ hl0
      have hm1 : ((k : Int) + (c : Int)) % (l.length : Int) = (j : Int) := by rw [hj]; norm_cast
      have hm2 : ((k : Int) + (c : Int)).tmod (l.length : Int) = (j : Int) := by rw [Int.tmod_eq_emod_of_nonneg (by omega)]; exact hm1
      have hm3 : IntKind.i64.wrap ((k : Int) + (c : Int)) = (k : Int) + (c : Int) := IntWalk.i64_in _ (by omega)
      obtain ⟨b, off, rfl, g1, g2, g3⟩ := StepsAt.at_ (HL0.out.below HB.out) hjl
      have hst := HK.out.stp _ (List.getElem_mem hjl)
      have HN := Lib.hid (namedL_succ n t c l k)
      have HS : Hid (namedS n t c l k = ((((l[j].1.toNat + t) % n : Nat) : Int), (((l[j].2.1.toNat + t) % n : Nat) : Int), l[j].2.2)) := Lib.hid (by unfold namedS; rw [← hj, stAt_eq hjl])
      generalize l[j] = x at g1 g2 g3 hst HS
      obtain ⟨x1, x2, x3⟩ := x
      dsimp only at g1 g2 g3 hst HS
      obtain ⟨p, rfl⟩ := Int.eq_ofNat_of_zero_le hst.1.1
      obtain ⟨q, rfl⟩ := Int.eq_ofNat_of_zero_le hst.2.1.1
      rw [Int.toNat_natCast, Int.toNat_natCast] at HS
      obtain ⟨pp, hpp⟩ : ∃ pp, pp = (p + t) % n := ⟨_, rfl⟩
      obtain ⟨qq, hqq⟩ : ∃ qq, qq = (q + t) % n := ⟨_, rfl⟩
      have e1 : ((p : Int) + (t : Int)) % (n : Int) = (pp : Int) := by rw [hpp]; norm_cast
      have e2 : ((p : Int) + (t : Int)).tmod (n : Int) = (pp : Int) := by rw [Int.tmod_eq_emod_of_nonneg (by omega)]; exact e1
      have e3 : IntKind.i64.wrap ((p : Int) + (t : Int)) = (p : Int) + (t : Int) := IntWalk.i64_in _ (by omega)
      have f1 : ((q : Int) + (t : Int)) % (n : Int) = (qq : Int) := by rw [hqq]; norm_cast
      have f2 : ((q : Int) + (t : Int)).tmod (n : Int) = (qq : Int) := by rw [Int.tmod_eq_emod_of_nonneg (by omega)]; exact f1
      have f3 : IntKind.i64.wrap ((q : Int) + (t : Int)) = (q : Int) + (t : Int) := IntWalk.i64_in _ (by omega)
      rw [← hpp, ← hqq] at HS
      rw [HS.out] at HN
      have hTl : (namedL n t c l k).length ≤ 200 := by rw [namedL_len]; omega
      generalize namedL n t c l k = T at HO HN hTl
      have j0 : (0 : Int) ≤ (j : Int) := by omega
      have j1 : (j : Int) < (l.length : Int) := by omega
      clear hj hst HS hpp hqq
      go_upto_region 9 with fail
      refine wp_region_held (S := fun W => W.cell? ⟨w.heap.size, 2, none⟩ = some (.slice (some ⟨b, off, none⟩) l.length ca) ∧ W.cell? ⟨b, off + j * 3, none⟩ = some (.int .i64 p) ∧ W.cell? ⟨b, off + j * 3 + 1, none⟩ = some (.int .i64 q) ∧ W.cell? ⟨b, off + j * 3 + 2, none⟩ = some (.int .i64 x3)) (by kernel_rfl) ?_
      refine wpAnyH_take (i := 0) (v := ?_) rfl (by kernel_rfl) (by kernel_rfl) (by kernel_rfl) (fun _ _ _ h => h) (Or.inl ⟨by rfl, ?_⟩) ⟨y2, g1, g2, g3⟩ ?_
      rotate_left 1
      · intro W hW; obtain ⟨s0, s1, s2, s3⟩ := hW; go_simp <;> with_reducible rfl
      refine wpAnyH_take (i := 1) (v := ?_) rfl (by kernel_rfl) (by kernel_rfl) (by kernel_rfl) (fun _ _ _ h => h) (Or.inl ⟨by rfl, ?_⟩) ⟨y2, g1, g2, g3⟩ ?_
      rotate_left 1
      · intro W hW; obtain ⟨s0, s1, s2, s3⟩ := hW; go_simp <;> with_reducible rfl
      refine wpAnyH_take (i := 2) (v := ?_) rfl (by kernel_rfl) (by kernel_rfl) (by kernel_rfl) (fun _ _ _ h => h) (Or.inl ⟨by rfl, ?_⟩) ⟨y2, g1, g2, g3⟩ ?_
      rotate_left 1
      · intro W hW; obtain ⟨s0, s1, s2, s3⟩ := hW; go_simp <;> with_reducible rfl
      refine wpAnyH_take (i := 3) (v := ?_) rfl (by kernel_rfl) (by kernel_rfl) (by kernel_rfl) (fun _ _ _ h => h) (Or.inl ⟨by rfl, ?_⟩) ⟨y2, g1, g2, g3⟩ ?_
      rotate_left 1
      · intro W hW; obtain ⟨s0, s1, s2, s3⟩ := hW; go_simp <;> with_reducible rfl
      refine wpAnyH_take (i := 4) (v := ?_) rfl (by kernel_rfl) (by kernel_rfl) (by kernel_rfl) (fun _ _ _ h => h) (Or.inl ⟨by rfl, ?_⟩) ⟨y2, g1, g2, g3⟩ ?_
      rotate_left 1
      · intro W hW; obtain ⟨s0, s1, s2, s3⟩ := hW; go_simp <;> with_reducible rfl
      refine wpAnyH_take (i := 5) (v := ?_) rfl (by kernel_rfl) (by kernel_rfl) (by kernel_rfl) (fun _ _ _ h => h) (Or.inl ⟨by rfl, ?_⟩) ⟨y2, g1, g2, g3⟩ ?_
      rotate_left 1
      · intro W hW; obtain ⟨s0, s1, s2, s3⟩ := hW; go_simp <;> with_reducible rfl
      refine wpAnyH_take (i := 6) (v := ?_) rfl (by kernel_rfl) (by kernel_rfl) (by kernel_rfl) (fun _ _ _ h => h) (Or.inl ⟨by rfl, ?_⟩) ⟨y2, g1, g2, g3⟩ ?_
      rotate_left 1
      · intro W hW; obtain ⟨s0, s1, s2, s3⟩ := hW; go_simp <;> with_reducible rfl
      refine wpAnyH_take (i := 7) (v := ?_) rfl (by kernel_rfl) (by kernel_rfl) (by kernel_rfl) (fun _ _ _ h => h) (Or.inl ⟨by rfl, ?_⟩) ⟨y2, g1, g2, g3⟩ ?_
      rotate_left 1
      · intro W hW; obtain ⟨s0, s1, s2, s3⟩ := hW; go_simp <;> with_reducible rfl
      refine wpAnyH_take (i := 8) (v := ?_) rfl (by kernel_rfl) (by kernel_rfl) (by kernel_rfl) (fun _ _ _ h => h) (Or.inl ⟨by rfl, ?_⟩) ⟨y2, g1, g2, g3⟩ ?_
      rotate_left 1
      · intro W hW; obtain ⟨s0, s1, s2, s3⟩ := hW; go_simp <;> with_reducible rfl
      refine wpAnyH_take (i := 9) (v := ?_) rfl (by kernel_rfl) (by kernel_rfl) (by kernel_rfl) (fun _ _ _ h => h) (Or.inl ⟨by rfl, ?_⟩) ⟨y2, g1, g2, g3⟩ ?_
      rotate_left 1
      · intro W hW; obtain ⟨s0, s1, s2, s3⟩ := hW; go_simp <;> with_reducible rfl
      simp only [Act.put, List.setIfInBounds_toArray]
      have y2a := cell_alloc y2 (.cells #[.int .i64 0, .int .i64 0, .int .i64 0] 50)
      have g1a := cell_alloc g1 (.cells #[.int .i64 0, .int .i64 0, .int .i64 0] 50)
      have g2a := cell_alloc g2 (.cells #[.int .i64 0, .int .i64 0, .int .i64 0] 50)
      have g3a := cell_alloc g3 (.cells #[.int .i64 0, .int .i64 0, .int .i64 0] 50)
      refine wpAnyH_ready (rs := [10]) (by kernel_rfl) (by simp) ?_
      refine AllReadyH.cons rfl (fun K hK => ?_) AllReadyH.nil
      go_simp
      refine hK.out _ _ ⟨y2a, g1a, g2a, g3a⟩ (fun _ => ?_)
      clear hK K
      refine wpAnyH_ready (rs := [11]) (by kernel_rfl) (by simp) ?_
      refine AllReadyH.cons rfl (fun K hK => ?_) AllReadyH.nil
      go_simp
      have y2b := cell_alloc y2 (.cells #[.int .i64 p, .int .i64 q, .int .i64 x3] 50)
      have g1b := cell_alloc g1 (.cells #[.int .i64 p, .int .i64 q, .int .i64 x3] 50)
      have g2b := cell_alloc g2 (.cells #[.int .i64 p, .int .i64 q, .int .i64 x3] 50)
      have g3b := cell_alloc g3 (.cells #[.int .i64 p, .int .i64 q, .int .i64 x3] 50)
      refine hK.out _ _ ⟨y2b, g1b, g2b, g3b⟩ (fun _ => ?_)
      clear hK K
      refine wpAnyH_done (by kernel_rfl) ?_ _
      clear y2 y2a y2b g1 g1a g1b g2 g2a g2b g3 g3a g3b hm1 hm2 hm3 j0 j1
      have hX := heap_alloc_new wz (.cells #[.int .i64 p, .int .i64 q, .int .i64 x3] 50)
      have hba := (below_alloc' (Below.refl wz.heap.size wz) (.cells #[.int .i64 p, .int .i64 q, .int .i64 x3] 50)).drew
      have hzz := blk_lt HXb.out
      have hol := own_lt HO.out
      replace HX0 := Lib.hid (blk_below hba HX0.out)
      replace HXb := Lib.hid (blk_below hba HXb.out)
      replace HO := Lib.hid (own_below' HO.out hba)
      replace HB := Lib.hid (below_trans' HB.out hba)
      replace hsz : bx + 1 ≤ (wz.alloc (.cells #[.int .i64 p, .int .i64 q, .int .i64 x3] 50)).drew.heap.size := by have := hba.size; omega
      have hXs : (wz.alloc (.cells #[.int .i64 p, .int .i64 q, .int .i64 x3] 50)).drew.heap[wz.heap.size]? = some (.cells #[.int .i64 p, .int .i64 q, .int .i64 x3] 50 (0, 0)) := hX
      clear hX hba
      generalize (wz.alloc (.cells #[.int .i64 p, .int .i64 q, .int .i64 x3] 50)).drew = w4 at *
      generalize wz.heap.size = sb at *
      have n0 : w4.cell? ⟨sb, 0, none⟩ = some (.int .i64 p) := (blk_cell hXs).trans rfl
      have n1 : w4.cell? ⟨sb, 1, none⟩ = some (.int .i64 q) := (blk_cell hXs).trans rfl
      have n2 : w4.cell? ⟨sb, 2, none⟩ = some (.int .i64 x3) := (blk_cell hXs).trans rfl
      have y0 : w4.cell? ⟨w.heap.size, 0, none⟩ = some (.int .i64 n) := (blk_cell HX0.out).trans rfl
      have xs : w4.cell? ⟨bx, 2, none⟩ = some sx := (blk_cell HXb.out).trans rfl
      go_upto_region 10 with fail
      refine wp_region_held (S := fun W => W.cell? ⟨sb, 0, none⟩ = some (.int .i64 p) ∧ W.cell? ⟨sb, 1, none⟩ = some (.int .i64 q) ∧ W.cell? ⟨sb, 2, none⟩ = some (.int .i64 x3) ∧ W.cell? ⟨w.heap.size, 0, none⟩ = some (.int .i64 n)) (by kernel_rfl) ?_
      refine wpAnyH_take (i := 0) (v := ?_) rfl (by kernel_rfl) (by kernel_rfl) (by kernel_rfl) (fun _ _ _ h => h) (Or.inl ⟨by rfl, ?_⟩) ⟨n0, n1, n2, y0⟩ ?_
      rotate_left 1
      · intro W hW; obtain ⟨s0, s1, s2, s3⟩ := hW; go_simp <;> with_reducible rfl
      refine wpAnyH_take (i := 2) (v := ?_) rfl (by kernel_rfl) (by kernel_rfl) (by kernel_rfl) (fun _ _ _ h => h) (Or.inl ⟨by rfl, ?_⟩) ⟨n0, n1, n2, y0⟩ ?_
      rotate_left 1
      · intro W hW; obtain ⟨s0, s1, s2, s3⟩ := hW; go_simp <;> with_reducible rfl
      refine wpAnyH_take (i := 3) (v := ?_) rfl (by kernel_rfl) (by kernel_rfl) (by kernel_rfl) (fun _ _ _ h => h) (Or.inl ⟨by rfl, ?_⟩) ⟨n0, n1, n2, y0⟩ ?_
      rotate_left 1
      · intro W hW; obtain ⟨s0, s1, s2, s3⟩ := hW; go_simp <;> with_reducible rfl
      refine wpAnyH_take (i := 4) (v := ?_) rfl (by kernel_rfl) (by kernel_rfl) (by kernel_rfl) (fun _ _ _ h => h) (Or.inl ⟨by rfl, ?_⟩) ⟨n0, n1, n2, y0⟩ ?_
      rotate_left 1
      · intro W hW; obtain ⟨s0, s1, s2, s3⟩ := hW; go_simp <;> with_reducible rfl
      refine wpAnyH_take (i := 5) (v := ?_) rfl (by kernel_rfl) (by kernel_rfl) (by kernel_rfl) (fun _ _ _ h => h) (Or.inl ⟨by rfl, ?_⟩) ⟨n0, n1, n2, y0⟩ ?_
      rotate_left 1
      · intro W hW; obtain ⟨s0, s1, s2, s3⟩ := hW; go_simp <;> with_reducible rfl
      refine wpAnyH_take (i := 6) (v := ?_) rfl (by kernel_rfl) (by kernel_rfl) (by kernel_rfl) (fun _ _ _ h => h) (Or.inl ⟨by rfl, ?_⟩) ⟨n0, n1, n2, y0⟩ ?_
      rotate_left 1
      · intro W hW; obtain ⟨s0, s1, s2, s3⟩ := hW; go_simp <;> with_reducible rfl
      refine wpAnyH_take (i := 7) (v := ?_) rfl (by kernel_rfl) (by kernel_rfl) (by kernel_rfl) (fun _ _ _ h => h) (Or.inl ⟨by rfl, ?_⟩) ⟨n0, n1, n2, y0⟩ ?_
      rotate_left 1
      · intro W hW; obtain ⟨s0, s1, s2, s3⟩ := hW; go_simp <;> with_reducible rfl
      refine wpAnyH_take (i := 8) (v := ?_) rfl (by kernel_rfl) (by kernel_rfl) (by kernel_rfl) (fun _ _ _ h => h) (Or.inl ⟨by rfl, ?_⟩) ⟨n0, n1, n2, y0⟩ ?_
      rotate_left 1
      · intro W hW; obtain ⟨s0, s1, s2, s3⟩ := hW; go_simp <;> with_reducible rfl
      refine wpAnyH_take (i := 9) (v := ?_) rfl (by kernel_rfl) (by kernel_rfl) (by kernel_rfl) (fun _ _ _ h => h) (Or.inl ⟨by rfl, ?_⟩) ⟨n0, n1, n2, y0⟩ ?_
      rotate_left 1
      · intro W hW; obtain ⟨s0, s1, s2, s3⟩ := hW; go_simp <;> with_reducible rfl
      refine wpAnyH_take (i := 10) (v := ?_) rfl (by kernel_rfl) (by kernel_rfl) (by kernel_rfl) (fun _ _ _ h => h) (Or.inl ⟨by rfl, ?_⟩) ⟨n0, n1, n2, y0⟩ ?_
      rotate_left 1
      · intro W hW; obtain ⟨s0, s1, s2, s3⟩ := hW; go_simp <;> with_reducible rfl
      refine wpAnyH_take (i := 11) (v := ?_) rfl (by kernel_rfl) (by kernel_rfl) (by kernel_rfl) (fun _ _ _ h => h) (Or.inl ⟨by rfl, ?_⟩) ⟨n0, n1, n2, y0⟩ ?_
      rotate_left 1
      · intro W hW; obtain ⟨s0, s1, s2, s3⟩ := hW; go_simp <;> with_reducible rfl
      refine wpAnyH_take (i := 12) (v := ?_) rfl (by kernel_rfl) (by kernel_rfl) (by kernel_rfl) (fun _ _ _ h => h) (Or.inl ⟨by rfl, ?_⟩) ⟨n0, n1, n2, y0⟩ ?_
      rotate_left 1
      · intro W hW; obtain ⟨s0, s1, s2, s3⟩ := hW; go_simp <;> with_reducible rfl
      refine wpAnyH_take (i := 13) (v := ?_) rfl (by kernel_rfl) (by kernel_rfl) (by kernel_rfl) (fun _ _ _ h => h) (Or.inl ⟨by rfl, ?_⟩) ⟨n0, n1, n2, y0⟩ ?_
      rotate_left 1
      · intro W hW; obtain ⟨s0, s1, s2, s3⟩ := hW; go_simp <;> with_reducible rfl
      refine wpAnyH_take (i := 14) (v := ?_) rfl (by kernel_rfl) (by kernel_rfl) (by kernel_rfl) (fun _ _ _ h => h) (Or.inl ⟨by rfl, ?_⟩) ⟨n0, n1, n2, y0⟩ ?_
      rotate_left 1
      · intro W hW; obtain ⟨s0, s1, s2, s3⟩ := hW; go_simp <;> with_reducible rfl
      refine wpAnyH_take (i := 15) (v := ?_) rfl (by kernel_rfl) (by kernel_rfl) (by kernel_rfl) (fun _ _ _ h => h) (Or.inl ⟨by rfl, ?_⟩) ⟨n0, n1, n2, y0⟩ ?_
      rotate_left 1
      · intro W hW; obtain ⟨s0, s1, s2, s3⟩ := hW; go_simp <;> with_reducible rfl
      refine wpAnyH_take (i := 16) (v := ?_) rfl (by kernel_rfl) (by kernel_rfl) (by kernel_rfl) (fun _ _ _ h => h) (Or.inl ⟨by rfl, ?_⟩) ⟨n0, n1, n2, y0⟩ ?_
      rotate_left 1
      · intro W hW; obtain ⟨s0, s1, s2, s3⟩ := hW; go_simp <;> with_reducible rfl
      refine wpAnyH_take (i := 17) (v := ?_) rfl (by kernel_rfl) (by kernel_rfl) (by kernel_rfl) (fun _ _ _ h => h) (Or.inl ⟨by rfl, ?_⟩) ⟨n0, n1, n2, y0⟩ ?_
      rotate_left 1
      · intro W hW; obtain ⟨s0, s1, s2, s3⟩ := hW; go_simp <;> with_reducible rfl
      simp only [Act.put, List.setIfInBounds_toArray]
      have n0a := cell_alloc n0 (.cells #[.int .i64 pp, .int .i64 qq, .int .i64 x3] 50)
      have n1a := cell_alloc n1 (.cells #[.int .i64 pp, .int .i64 qq, .int .i64 x3] 50)
      have n2a := cell_alloc n2 (.cells #[.int .i64 pp, .int .i64 qq, .int .i64 x3] 50)
      have y0a := cell_alloc y0 (.cells #[.int .i64 pp, .int .i64 qq, .int .i64 x3] 50)
      have xsa := cell_alloc xs (.cells #[.int .i64 pp, .int .i64 qq, .int .i64 x3] 50)
      have n0b := cell_alloc n0a (.cells #[.int .i64 pp, .int .i64 qq, .int .i64 x3] 50)
      have n1b := cell_alloc n1a (.cells #[.int .i64 pp, .int .i64 qq, .int .i64 x3] 50)
      have n2b := cell_alloc n2a (.cells #[.int .i64 pp, .int .i64 qq, .int .i64 x3] 50)
      have y0b := cell_alloc y0a (.cells #[.int .i64 pp, .int .i64 qq, .int .i64 x3] 50)
      have xsb := cell_alloc xsa (.cells #[.int .i64 pp, .int .i64 qq, .int .i64 x3] 50)
      apply joinDag
      · intro F
        refine wpAnyH_ready (rs := [1, 18]) (by kernel_rfl) (by simp) ?_
        refine AllReadyH.cons rfl (fun K hK => ?_) (AllReadyH.cons rfl (fun K hK => ?_) AllReadyH.nil)
        · go_simp
          refine hK.out _ _ ⟨n0, n1, n2, y0⟩ (fun _ => ?_)
          clear hK K
          refine wpAnyH_ready (rs := [18]) (by kernel_rfl) (by simp) ?_
          refine AllReadyH.cons rfl (fun K hK => ?_) AllReadyH.nil
          go_simp
          refine (step_is (pp : Int) (qq : Int) x3 _).mono ?_
          rintro e V1 ⟨v, rfl, rfl, rfl⟩
          refine hK.out _ _ ⟨n0a, n1a, n2a, y0a⟩ (fun _ => ?_)
          clear hK K
          refine wpAnyH_ready (rs := [19]) (by kernel_rfl) (by simp) ?_
          refine AllReadyH.cons rfl (fun K hK => ?_) AllReadyH.nil
          go_simp
          refine hK.out _ _ ⟨n0b, n1b, n2b, y0b⟩ (fun _ => ?_)
          clear hK K
          exact F.out
        · go_simp
          refine (step_is (pp : Int) (qq : Int) x3 _).mono ?_
          rintro e V1 ⟨v, rfl, rfl, rfl⟩
          refine hK.out _ _ ⟨n0a, n1a, n2a, y0a⟩ (fun _ => ?_)
          clear hK K
          refine wpAnyH_ready (rs := [1, 19]) (by kernel_rfl) (by simp) ?_
          refine AllReadyH.cons rfl (fun K hK => ?_) (AllReadyH.cons rfl (fun K hK => ?_) AllReadyH.nil)
          · go_simp
            refine hK.out _ _ ⟨n0a, n1a, n2a, y0a⟩ (fun _ => ?_)
            clear hK K
            refine wpAnyH_ready (rs := [19]) (by kernel_rfl) (by simp) ?_
            refine AllReadyH.cons rfl (fun K hK => ?_) AllReadyH.nil
            go_simp
            refine hK.out _ _ ⟨n0b, n1b, n2b, y0b⟩ (fun _ => ?_)
            clear hK K
            exact F.out
          · go_simp
            refine hK.out _ _ ⟨n0b, n1b, n2b, y0b⟩ (fun _ => ?_)
            clear hK K
            refine wpAnyH_ready (rs := [1]) (by kernel_rfl) (by simp) ?_
            refine AllReadyH.cons rfl (fun K hK => ?_) AllReadyH.nil
            go_simp
            refine hK.out _ _ ⟨n0b, n1b, n2b, y0b⟩ (fun _ => ?_)
            clear hK K
            exact F.out
      · have hnb : ((w4.alloc (.cells #[.int .i64 pp, .int .i64 qq, .int .i64 x3] 50)).alloc (.cells #[.int .i64 pp, .int .i64 qq, .int .i64 x3] 50)).drew.heap[w4.heap.size + 1]? = some (.cells #[.int .i64 pp, .int .i64 qq, .int .i64 x3] 50 (0, 0)) := heap_alloc_at (w4.alloc (.cells #[.int .i64 pp, .int .i64 qq, .int .i64 x3] 50)) (.cells #[.int .i64 pp, .int .i64 qq, .int .i64 x3] 50) (World.size_alloc _ _)
        have hba := (below_alloc' (below_alloc' (Below.refl w4.heap.size w4) (.cells #[.int .i64 pp, .int .i64 qq, .int .i64 x3] 50)) (.cells #[.int .i64 pp, .int .i64 qq, .int .i64 x3] 50)).drew
        have hr5 := own_base HO.out
        clear n0a n1a n2a y0a xsa n0b n1b n2b y0b xsb n0 n1 n2 y0 xs e1 e2 e3 f1 f2 f3
        replace HX0 := Lib.hid (blk_below hba HX0.out)
        replace HXb := Lib.hid (blk_below hba HXb.out)
        replace hXs := blk_below hba hXs
        replace HO := Lib.hid (own_below' HO.out hba)
        replace HB := Lib.hid (below_trans' HB.out hba)
        replace hsz : bx + 1 ≤ ((w4.alloc (.cells #[.int .i64 pp, .int .i64 qq, .int .i64 x3] 50)).alloc (.cells #[.int .i64 pp, .int .i64 qq, .int .i64 x3] 50)).drew.heap.size := by have := hba.size; omega
        clear hba
        generalize ((w4.alloc (.cells #[.int .i64 pp, .int .i64 qq, .int .i64 x3] 50)).alloc (.cells #[.int .i64 pp, .int .i64 qq, .int .i64 x3] 50)).drew = V2 at *
        generalize w4.heap.size + 1 = nb at *
        refine wpAnyH_ready (rs := [20]) (by kernel_rfl) (by simp) ?_
        refine AllReadyH.cons rfl (fun K hK => ?_) AllReadyH.nil
        refine step_push (w := V2) rfl (.tmp 65) (.tmp 83) 22 rfl elemT encT_len oneT Tryd.underlying22 (bx + 1) sx T (by rfl) HO.out (by omega) ((pp : Int), (qq : Int), x3) nb (by rfl) #[.int .i64 pp, .int .i64 qq, .int .i64 x3] rfl 50 (0, 0) hnb hsz ?_
        intro g2 cap2 V3 hO3 hg3
        have hs3 := hg3.size
        have hX3 := blk_grown hg3 HXb.out (fun e => by have := hr5 _ e.symm; omega)
        have h03 := blk_grown hg3 HX0.out (fun e => by have := hr5 _ e.symm; omega)
        have hXs3 := blk_grown hg3 hXs (fun e => by have := hol _ e.symm; omega)
        have hB3 := HB.out.grown hg3 (by omega) (fun r e => by have := hr5 r e; omega)
        have n0 : V3.cell? ⟨sb, 0, none⟩ = some (.int .i64 p) := (blk_cell hXs3).trans rfl
        have n1 : V3.cell? ⟨sb, 1, none⟩ = some (.int .i64 q) := (blk_cell hXs3).trans rfl
        have n2 : V3.cell? ⟨sb, 2, none⟩ = some (.int .i64 x3) := (blk_cell hXs3).trans rfl
        have y0 : V3.cell? ⟨w.heap.size, 0, none⟩ = some (.int .i64 n) := (blk_cell h03).trans rfl
        refine hK.out _ _ ⟨n0, n1, n2, y0⟩ (fun _ => ?_)
        clear hK K hnb hg3 HXb HX0 HO HB hXs hXs3
        refine wpAnyH_take (i := 21) (v := ?_) rfl (by kernel_rfl) (by kernel_rfl) (by kernel_rfl) (fun _ _ _ h => h) (Or.inl ⟨by rfl, ?_⟩) ⟨n0, n1, n2, y0⟩ ?_
        rotate_left 1
        · intro W hW; obtain ⟨s0, s1, s2, s3⟩ := hW; go_simp <;> with_reducible rfl
        simp only [Act.put, List.setIfInBounds_toArray]
        have e0 : V3.cell? ⟨bx, 2, none⟩ = some sx := (blk_cell hX3).trans rfl
        have f0 : V3.frozen? ⟨bx, 2, none⟩ = false := blk_frozen hX3
        have hd1 : sb ≠ bx := by omega
        have hd2 : w.heap.size ≠ bx := by omega
        have n0c := cell_far (p := ⟨bx, 2, none⟩) (u := .slice (some ⟨g2, 0, none⟩) (T.length + 1) cap2) n0 (fun e => by injection e with e; omega)
        have n1c := cell_far (p := ⟨bx, 2, none⟩) (u := .slice (some ⟨g2, 0, none⟩) (T.length + 1) cap2) n1 (fun e => by injection e with e; omega)
        have n2c := cell_far (p := ⟨bx, 2, none⟩) (u := .slice (some ⟨g2, 0, none⟩) (T.length + 1) cap2) n2 (fun e => by injection e with e; omega)
        have y0c := cell_far (p := ⟨bx, 2, none⟩) (u := .slice (some ⟨g2, 0, none⟩) (T.length + 1) cap2) y0 (fun e => by injection e with e; omega)
        refine wpAnyH_ready (rs := [22]) (by kernel_rfl) (by simp) ?_
        refine AllReadyH.cons rfl (fun K hK => ?_) AllReadyH.nil
        go_simp
        refine hK.out _ _ ⟨n0c, n1c, n2c, y0c⟩ (fun _ => ?_)
        clear hK K e0 f0 n0c n1c n2c y0c n0 n1 n2 y0
        refine wpAnyH_done (by kernel_rfl) ?_ _
        have HX6 : Hid ((V3.setCell ⟨bx, 2, none⟩ (.slice (some ⟨g2, 0, none⟩) (T.length + 1) cap2)).heap[bx]? = some (.cells #[.int .i64 n, .int .i64 rx, .slice (some ⟨g2, 0, none⟩) (T.length + 1) cap2] 24 (0, 0))) := Lib.hid (blk_set (i := 2) hX3 _)
        have H06 := Lib.hid (blk_far (p := ⟨bx, 2, none⟩) h03 (by dsimp only; omega) (.slice (some ⟨g2, 0, none⟩) (T.length + 1) cap2))
        have HO6 := Lib.hid (ownsRow_setCell_below (a := ⟨bx, 2, none⟩) hO3 (by dsimp only; omega) (.slice (some ⟨g2, 0, none⟩) (T.length + 1) cap2))
        have HB6 := Lib.hid (hB3.setCell (p := ⟨bx, 2, none⟩) (by dsimp only; omega) (.slice (some ⟨g2, 0, none⟩) (T.length + 1) cap2))
        have hs6 : bx + 1 ≤ (V3.setCell ⟨bx, 2, none⟩ (.slice (some ⟨g2, 0, none⟩) (T.length + 1) cap2)).heap.size := by simp; omega
        clear hO3 hX3 h03 hB3 hd1 hd2 hol hr5
        generalize V3.setCell ⟨bx, 2, none⟩ (.slice (some ⟨g2, 0, none⟩) (T.length + 1) cap2) = V4 at *
        go_wp2
        go_roundw
        case rel => exact ⟨k + 1, _, by omega, by go_num, H06, HX6, by rw [HN.out, len_snoc]; exact HO6, HB6, hs6⟩
        case measure => simp [intOf]; omega
    obtain rfl : k = l.length := by omega
    obtain ⟨Gx, cx, hvx, _⟩ := own_form HO.out
    subst hvx
    have HSx : Hid (StepsAt wz Gx (namedL n t c l l.length)) := Lib.hid (RowsAt.of_own encT_len HO.out)
    have HL := Lib.hid (HL0.out.below HB.out)
    have y0 : wz.cell? ⟨w.heap.size, 0, none⟩ = some (.int .i64 n) := (blk_cell HX0.out).trans rfl
    have y1 : wz.cell? ⟨w.heap.size, 1, none⟩ = some (.int .i64 r) := (blk_cell HX0.out).trans rfl
    have y2 : wz.cell? ⟨w.heap.size, 2, none⟩ = some (.slice A l.length ca) := (blk_cell HX0.out).trans rfl
    have a0 : wz.cell? ⟨bx, 0, none⟩ = some (.int .i64 n) := (blk_cell HXb.out).trans rfl
    have a1 : wz.cell? ⟨bx, 1, none⟩ = some (.int .i64 rx) := (blk_cell HXb.out).trans rfl
    have a2 : wz.cell? ⟨bx, 2, none⟩ = some (.slice Gx (namedL n t c l l.length).length cx) := (blk_cell HXb.out).trans rfl
    obtain ⟨HFx, HBx, HMx, HGx⟩ : Hid (Full (netB (n : Int) (rx : Int) (namedL n t c l l.length)) (allS (netB (n : Int) (rx : Int) (namedL n t c l l.length)))) ∧ Hid (∀ b, Best (netB (n : Int) (r : Int) l) b → Best (netB (n : Int) (rx : Int) (namedL n t c l l.length)) b) ∧ Hid (∀ m, MostIs (netB (n : Int) (r : Int) l) m → MostIs (netB (n : Int) (rx : Int) (namedL n t c l l.length)) m) ∧ Hid (∀ b, Best (netB (n : Int) (r : Int) l) b → ∀ j, j < l.length → ∀ x y, GradeIs (netB (n : Int) (r : Int) l) ((j + c) % l.length) x → GradeIs (netB (n : Int) (rx : Int) (namedL n t c l l.length)) j y → x = y) := by
      have e := HRx.out
      subst e
      exact ⟨Lib.hid (named_full HK.out HF.out), Lib.hid fun b hb => named_best HK.out hb, Lib.hid fun m hm => (named_iso HK.out).most hm, Lib.hid fun b hb j hj x y hx hy => named_grade HK.out hb hj hx hy⟩
    have HlX : Hid ((namedL n t c l l.length).length = l.length) := Lib.hid (namedL_len _ _ _ _ _)
    have hnx : (namedL n t c l l.length).length ≤ 100000 := by rw [HlX.out]; exact hn1
    clear HO HXb HX0 HRx hk hkn
    generalize namedL n t c l l.length = X at *
    obtain ⟨w11, hw11⟩ : ∃ x, x = wz := ⟨_, rfl⟩
    subst hw11
    have HB11 := Lib.hid HB.out
    clear HB
    have Hc := Lib.hid (cheapY (ca := ca) HK.out HF.out (HL.out : StepsAt w11 A l) hn1)
    go_wp2_with fail
    refine Hc.out.mono ?_
    rintro e w12 ⟨v, rfl, ⟨t1, G1, c1, bc, rfl, _, _, _, _, hbc⟩, hb⟩
    have HB12 := Lib.hid (below_trans' HB11.out hb)
    replace HL := Lib.hid (HL.out.below hb)
    replace HSx := Lib.hid (HSx.out.below hb)
    replace y0 := cell_below hb y0
    replace y1 := cell_below hb y1
    replace y2 := cell_below hb y2
    replace a0 := cell_below hb a0
    replace a1 := cell_below hb a1
    replace a2 := cell_below hb a2
    clear hb Hc HB11
    have HBc := Lib.hid hbc
    clear hbc
    have Hc := Lib.hid (cheapY (ca := cx) HKx.out HFx.out (HSx.out : StepsAt w12 Gx X) hnx)
    go_wp2_with fail
    refine Hc.out.mono ?_
    rintro e w13 ⟨v, rfl, ⟨t2, G2, c2, bd, rfl, _, _, _, _, hbd⟩, hb⟩
    have HB13 := Lib.hid (below_trans' HB12.out hb)
    replace HL := Lib.hid (HL.out.below hb)
    replace HSx := Lib.hid (HSx.out.below hb)
    replace y0 := cell_below hb y0
    replace y1 := cell_below hb y1
    replace y2 := cell_below hb y2
    replace a0 := cell_below hb a0
    replace a1 := cell_below hb a1
    replace a2 := cell_below hb a2
    clear hb Hc HB12
    obtain rfl := (HBx.out _ HBc.out).uniq hbd
    clear hbd
    have Hc := Lib.hid (mostY (ca := ca) HK.out HF.out (HL.out : StepsAt w13 A l) hn1)
    go_wp2_with fail
    refine Hc.out.mono ?_
    rintro e w14 ⟨v, rfl, ⟨m, rfl, hm⟩, hb⟩
    have HB14 := Lib.hid (below_trans' HB13.out hb)
    replace HL := Lib.hid (HL.out.below hb)
    replace HSx := Lib.hid (HSx.out.below hb)
    replace y0 := cell_below hb y0
    replace y1 := cell_below hb y1
    replace y2 := cell_below hb y2
    replace a0 := cell_below hb a0
    replace a1 := cell_below hb a1
    replace a2 := cell_below hb a2
    clear hb Hc HB13
    have HM := Lib.hid hm
    clear hm
    have Hc := Lib.hid (mostY (ca := cx) HKx.out HFx.out (HSx.out : StepsAt w14 Gx X) hnx)
    go_wp2_with fail
    refine Hc.out.mono ?_
    rintro e w15 ⟨v, rfl, ⟨m2, rfl, hm⟩, hb⟩
    have HB15 := Lib.hid (below_trans' HB14.out hb)
    replace HL := Lib.hid (HL.out.below hb)
    replace HSx := Lib.hid (HSx.out.below hb)
    replace y0 := cell_below hb y0
    replace y1 := cell_below hb y1
    replace y2 := cell_below hb y2
    replace a0 := cell_below hb a0
    replace a1 := cell_below hb a1
    replace a2 := cell_below hb a2
    clear hb Hc HB14
    obtain rfl := (HMx.out _ HM.out).uniq hm
    clear hm HM
    have Hc := Lib.hid (gradesY (ca := ca) HK.out HF.out (HL.out : StepsAt w15 A l) hn1)
    go_wp2_with fail
    refine Hc.out.mono ?_
    rintro e w16 ⟨v, rfl, ⟨g, Gg, cg, rfl, hg1, hg2, hg3⟩, hb⟩
    have HB16 := Lib.hid (below_trans' HB15.out hb)
    replace HL := Lib.hid (HL.out.below hb)
    replace HSx := Lib.hid (HSx.out.below hb)
    replace y0 := cell_below hb y0
    replace y1 := cell_below hb y1
    replace y2 := cell_below hb y2
    replace a0 := cell_below hb a0
    replace a1 := cell_below hb a1
    replace a2 := cell_below hb a2
    clear hb Hc HB15
    have HGi := Lib.hid hg2
    have HGr := Lib.hid hg3
    have HGn := Lib.hid hg1
    have dgl : ((g.length : Int) != (l.length : Int)) = false := by rw [hg1]; simp
    clear hg1 hg2 hg3
    have Hc := Lib.hid (gradesY (ca := cx) HKx.out HFx.out (HSx.out : StepsAt w16 Gx X) hnx)
    go_wp2_with fail
    refine Hc.out.mono ?_
    rintro e w17 ⟨v, rfl, ⟨h, Gh, ch, rfl, hg1, hg2, hg3⟩, hb⟩
    have HB17 := Lib.hid (below_trans' HB16.out hb)
    replace HL := Lib.hid (HL.out.below hb)
    replace HSx := Lib.hid (HSx.out.below hb)
    replace HGi := Lib.hid (HGi.out.below hb)
    replace y0 := cell_below hb y0
    replace y1 := cell_below hb y1
    replace y2 := cell_below hb y2
    replace a0 := cell_below hb a0
    replace a1 := cell_below hb a1
    replace a2 := cell_below hb a2
    clear hb Hc HB16
    have HHi := Lib.hid hg2
    have HHr := Lib.hid hg3
    have HHn : Hid (h.length = l.length) := Lib.hid (hg1.trans HlX.out)
    have dhl : ((h.length : Int) != (l.length : Int)) = false := by rw [HHn.out]; simp
    clear hg1 hg2 hg3
    have HEq : Hid (∀ k, k < l.length → h.getD k 0 = g.getD ((k + c) % l.length) 0) := Lib.hid fun k hk => by
      have hj : (k + c) % l.length < l.length := Nat.mod_lt _ (by omega)
      have e1 : k < h.length := by rw [HHn.out]; exact hk
      have e2 : (k + c) % l.length < g.length := by rw [HGn.out]; exact hj
      rw [getD_at e1, getD_at e2]
      exact (HGx.out _ HBc.out k hk _ _ (HGr.out _ e2) (HHr.out _ e1)).symm
    clear HGx HBc HGr HHr HBx HMx HFx HKx HSx HlX y0 y1 y2 a0 a1 a2
    obtain ⟨wq, hwq⟩ : ∃ x, x = w17 := ⟨_, rfl⟩
    subst hwq
    have HBr0 := Lib.hid (Below.refl wq.heap.size wq)
    go_wp2
    go_loopw [26] (fun i wr => ∃ k : Nat, k ≤ l.length ∧ i = .int .i64 k ∧ Hid (Below wq.heap.size wq wr)) (fun i _ => l.length - (intOf i).toNat)
    case atStart => exact ⟨0, by omega, rfl, HBr0⟩
    case round =>
      clear HBr0
      obtain ⟨k, hk, rfl, HBr⟩ := hrel
      by_cases hkn : k < l.length
      · have hl0 : 0 < l.length := by omega
        have hl1 : ¬ (l.length = 0) := by omega
        have hl2 : ¬ ((l.length : Int) = 0) := by omega
        have hwc : IntKind.i64.wrap (c : Int) = (c : Int) := IntWalk.i64_in _ (by omega)
        have heq := HEq.out k hkn
        obtain ⟨j, hj⟩ : ∃ j, j = (k + c) % l.length := ⟨_, rfl⟩
        rw [← hj] at heq
        have hjl : j < l.length := by rw [hj]; exact Nat.mod_lt _ hl0
        have hm1 : ((k : Int) + (c : Int)) % (l.length : Int) = (j : Int) := by rw [hj]; norm_cast
        have hm2 : ((k : Int) + (c : Int)).tmod (l.length : Int) = (j : Int) := by rw [Int.tmod_eq_emod_of_nonneg (by omega)]; exact hm1
        have hm3 : IntKind.i64.wrap ((k : Int) + (c : Int)) = (k : Int) + (c : Int) := IntWalk.i64_in _ (by omega)
        obtain ⟨hb1, ho1, rfl, q1⟩ := IntsAt.atE (HHi.out.below HBr.out) (by rw [HHn.out]; exact hkn)
        obtain ⟨gb1, go1, rfl, q2⟩ := IntsAt.atE (HGi.out.below HBr.out) (i := j) (by rw [HGn.out]; exact hjl)
        rw [heq] at q1
        generalize g.getD j 0 = y at q1 q2
        have k0 : (0 : Int) ≤ (k : Int) := by omega
        have k1 : (k : Int) < (h.length : Int) := by rw [HHn.out]; omega
        have j0 : (0 : Int) ≤ (j : Int) := by omega
        have j1 : (j : Int) < (g.length : Int) := by rw [HGn.out]; omega
        clear heq hj
        go_upto_region 22 with fail
        refine wp_region_held (S := fun W => W.cell? ⟨hb1, ho1 + k, none⟩ = some (.int .i64 y) ∧ W.cell? ⟨gb1, go1 + j, none⟩ = some (.int .i64 y)) (by kernel_rfl) ?_
        refine wpAnyH_take (i := 0) (v := ?_) rfl (by kernel_rfl) (by kernel_rfl) (by kernel_rfl) (fun _ _ _ h => h) (Or.inl ⟨by rfl, ?_⟩) ⟨q1, q2⟩ ?_
        rotate_left 1
        · intro W hW; obtain ⟨s0, s1⟩ := hW; go_simp <;> with_reducible rfl
        refine wpAnyH_take (i := 1) (v := ?_) rfl (by kernel_rfl) (by kernel_rfl) (by kernel_rfl) (fun _ _ _ h => h) (Or.inl ⟨by rfl, ?_⟩) ⟨q1, q2⟩ ?_
        rotate_left 1
        · intro W hW; obtain ⟨s0, s1⟩ := hW; go_simp <;> with_reducible rfl
        refine wpAnyH_take (i := 2) (v := ?_) rfl (by kernel_rfl) (by kernel_rfl) (by kernel_rfl) (fun _ _ _ h => h) (Or.inl ⟨by rfl, ?_⟩) ⟨q1, q2⟩ ?_
        rotate_left 1
        · intro W hW; obtain ⟨s0, s1⟩ := hW; go_simp <;> with_reducible rfl
        refine wpAnyH_take (i := 3) (v := ?_) rfl (by kernel_rfl) (by kernel_rfl) (by kernel_rfl) (fun _ _ _ h => h) (Or.inl ⟨by rfl, ?_⟩) ⟨q1, q2⟩ ?_
        rotate_left 1
        · intro W hW; obtain ⟨s0, s1⟩ := hW; go_simp <;> with_reducible rfl
        refine wpAnyH_take (i := 4) (v := ?_) rfl (by kernel_rfl) (by kernel_rfl) (by kernel_rfl) (fun _ _ _ h => h) (Or.inl ⟨by rfl, ?_⟩) ⟨q1, q2⟩ ?_
        rotate_left 1
        · intro W hW; obtain ⟨s0, s1⟩ := hW; go_simp <;> with_reducible rfl
        refine wpAnyH_take (i := 5) (v := ?_) rfl (by kernel_rfl) (by kernel_rfl) (by kernel_rfl) (fun _ _ _ h => h) (Or.inl ⟨by rfl, ?_⟩) ⟨q1, q2⟩ ?_
        rotate_left 1
        · intro W hW; obtain ⟨s0, s1⟩ := hW; go_simp <;> with_reducible rfl
        refine wpAnyH_take (i := 6) (v := ?_) rfl (by kernel_rfl) (by kernel_rfl) (by kernel_rfl) (fun _ _ _ h => h) (Or.inl ⟨by rfl, ?_⟩) ⟨q1, q2⟩ ?_
        rotate_left 1
        · intro W hW; obtain ⟨s0, s1⟩ := hW; go_simp <;> with_reducible rfl
        refine wpAnyH_take (i := 7) (v := ?_) rfl (by kernel_rfl) (by kernel_rfl) (by kernel_rfl) (fun _ _ _ h => h) (Or.inl ⟨by rfl, ?_⟩) ⟨q1, q2⟩ ?_
        rotate_left 1
        · intro W hW; obtain ⟨s0, s1⟩ := hW; go_simp <;> with_reducible rfl
        refine wpAnyH_take (i := 8) (v := ?_) rfl (by kernel_rfl) (by kernel_rfl) (by kernel_rfl) (fun _ _ _ h => h) (Or.inl ⟨by rfl, ?_⟩) ⟨q1, q2⟩ ?_
        rotate_left 1
        · intro W hW; obtain ⟨s0, s1⟩ := hW; go_simp <;> with_reducible rfl
        refine wpAnyH_take (i := 9) (v := ?_) rfl (by kernel_rfl) (by kernel_rfl) (by kernel_rfl) (fun _ _ _ h => h) (Or.inl ⟨by rfl, ?_⟩) ⟨q1, q2⟩ ?_
        rotate_left 1
        · intro W hW; obtain ⟨s0, s1⟩ := hW; go_simp <;> with_reducible rfl
        refine wpAnyH_take (i := 10) (v := ?_) rfl (by kernel_rfl) (by kernel_rfl) (by kernel_rfl) (fun _ _ _ h => h) (Or.inl ⟨by rfl, ?_⟩) ⟨q1, q2⟩ ?_
        rotate_left 1
        · intro W hW; obtain ⟨s0, s1⟩ := hW; go_simp <;> with_reducible rfl
        refine wpAnyH_take (i := 11) (v := ?_) rfl (by kernel_rfl) (by kernel_rfl) (by kernel_rfl) (fun _ _ _ h => h) (Or.inl ⟨by rfl, ?_⟩) ⟨q1, q2⟩ ?_
        rotate_left 1
        · intro W hW; obtain ⟨s0, s1⟩ := hW; go_simp <;> with_reducible rfl
        refine wpAnyH_take (i := 12) (v := ?_) rfl (by kernel_rfl) (by kernel_rfl) (by kernel_rfl) (fun _ _ _ h => h) (Or.inl ⟨by rfl, ?_⟩) ⟨q1, q2⟩ ?_
        rotate_left 1
        · intro W hW; obtain ⟨s0, s1⟩ := hW; go_simp <;> with_reducible rfl
        refine wpAnyH_take (i := 13) (v := ?_) rfl (by kernel_rfl) (by kernel_rfl) (by kernel_rfl) (fun _ _ _ h => h) (Or.inl ⟨by rfl, ?_⟩) ⟨q1, q2⟩ ?_
        rotate_left 1
        · intro W hW; obtain ⟨s0, s1⟩ := hW; go_simp <;> with_reducible rfl
        simp only [Act.put, List.setIfInBounds_toArray]
        refine wpAnyH_done (by kernel_rfl) ?_ _
        clear hm1 hm2 hm3 q1 q2
        go_simp
        go_wp2
        go_roundw
        case rel => exact ⟨k + 1, by omega, by go_num, Lib.hid HBr.out.drew⟩
        case measure => simp [intOf]; omega
      have HB99 := Lib.hid (below_trans' HB17.out HBr.out)
      have HT := Lib.hid (HT0.out.below HB99.out)
      obtain rfl : k = l.length := by omega
      go_wp2_with fail
      refine (works_any _ HT.out).mono ?_
      rintro e wz ⟨v, rfl, rfl, hBz⟩
      go_wp2
      go_ret
      exact Ret.mk' rfl ⟨rfl, below_trans' HB99.out hBz⟩
end Go.Proofs.YtggcooplhodocaaDoor
