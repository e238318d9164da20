/- fine; Grow: a tree of a book that has one. -/
import Derived.Test.YtggcooplhodocaaDoorL4
import Derived.Test.YtggcooplhodocaaDoorP1
namespace Go.Proofs.YtggcooplhodocaaDoor
open Go.RowKit Go.Shelf Go.Maps Fam

/-- a book that is valid, and has a tree -/
def FineB (S R : Int) (l : List St) : Prop := BookOk S R l ∧ Full (netB S R l) (allS (netB S R l))
theorem fine_any (S R : Int) (A : Option Addr) (ca : Nat) (l : List St) (w : World) (hl : StepsAt w A l) (hn : l.length ≤ 9223372036854775807) :
    Calls Tryd.prog 26 #[vBook S R A l.length ca] w (Ret fun v w' => (∃ b, v = .bool b ∧ (b = true ↔ FineB S R l)) ∧ Below w.heap.size w w') := by
  have HL := Lib.hid hl
  clear hl
  unfold vBook
  have hX := heap_alloc_new w (.cells #[.int .i64 S, .int .i64 R, .slice A l.length ca] 24)
  have hb := below_alloc' (Below.refl w.heap.size w) (.cells #[.int .i64 S, .int .i64 R, .slice A l.length ca] 24)
  have y0 := (blk_cell (i := 0) hX).trans rfl
  have y1 := (blk_cell (i := 1) hX).trans rfl
  have y2 := (blk_cell (i := 2) hX).trans rfl
  go_enter Tryd.func26, Tryd.ntmps26
  go_upto_region 1 with fail
  have HB1 := Lib.hid hb
  replace HL := Lib.hid (HL.out.below hb)
  clear hb hX
  generalize w.alloc (.cells #[.int .i64 S, .int .i64 R, .slice A l.length ca] 24) = w1 at *
  have Hc := Lib.hid (great_any S R A l.length ca w1 hn)
  go_wp2_with fail
  refine Hc.out.mono ?_
  rintro e w2 ⟨v, rfl, rfl, hb⟩
  have HB2 := Lib.hid (below_trans' HB1.out hb)
  replace HL := Lib.hid (HL.out.below hb)
  replace y0 := cell_below hb y0
  replace y1 := cell_below hb y1
  replace y2 := cell_below hb y2
  clear hb Hc HB1
  by_cases hg : 210 < l.length
  · have d1 : decide (210 < l.length) = true := by simpa using hg
    have HF : Hid (¬ FineB S R l) := Lib.hid fun h => by have := h.1.many; omega
    go_wp2
    go_ret
    exact Ret.mk ⟨⟨_, rfl, by simp [HF.out]⟩, HB2.out⟩
  have d1 : decide (210 < l.length) = false := by simpa using hg
  have Hc := Lib.hid (rPlan_any S R A ca l w2 HL.out (by omega))
  go_wp2_with fail
  refine Hc.out.mono ?_
  rintro e w3 ⟨v, rfl, rfl, hb⟩
  have HB3 := Lib.hid (below_trans' HB2.out hb)
  clear hb Hc HB2
  by_cases hp : planE S R l = 0
  · have d2 : (planE S R l == 0) = true := by simpa using hp
    have HF := Lib.hid (planE_iff.1 hp)
    clear hp
    go_wp2
    go_ret
    exact Ret.mk ⟨⟨_, rfl, by simp; exact HF.out⟩, HB3.out⟩
  · have d2 : (planE S R l == 0) = false := by simpa using hp
    have HF : Hid (¬ FineB S R l) := Lib.hid fun h => hp (planE_iff.2 h)
    clear hp
    go_wp2
    go_ret
    exact Ret.mk ⟨⟨_, rfl, by simp [HF.out]⟩, HB3.out⟩
def enc8 (x : Int) : List Value := [.int .u8 x]
def U8At (w : World) (A : Option Addr) (l : List Int) : Prop := RowsAt enc8 1 w A l
theorem U8At.at_ {w : World} {A : Option Addr} {l : List Int} (h : U8At w A l) {i : Nat} (hi : i < l.length) : ∃ b off, A = some ⟨b, off, none⟩ ∧ w.cell? ⟨b, off + i, none⟩ = some (.int .u8 l[i]) := by
  obtain ⟨b, off, hA, hc⟩ := h i hi
  exact ⟨b, off, hA, by have := hc 0 _ rfl; simpa using this⟩
theorem U8At.below {w w' : World} {A : Option Addr} {l : List Int} (h : U8At w A l) (hb : Below w.heap.size w w') : U8At w' A l := RowsAt.below h hb
set_option maxRecDepth 100000 in
set_option maxHeartbeats 8000000 in
theorem growT_any (S R : Int) (A U : Option Addr) (ca cu : Nat) (l : List St) (u : List Int) (w : World) (hl : StepsAt w A l) (hu : U8At w U u) (hu2 : ∀ x ∈ u, 0 ≤ x ∧ x ≤ 255) (hok : BookOk S R l) (hf : Full (netB S R l) (allS (netB S R l))) (hn : u.length ≤ 100000) :
    Calls Tryd.prog 27 #[vBook S R A l.length ca, .slice U u.length cu] w (Ret fun v w' => (∃ t G c, v = .slice G t.length c ∧ t.length = S.toNat ∧ IntsAt w' G t ∧ TreeL (netB S R l) t) ∧ Below w.heap.size w w') := by
  have HL := Lib.hid hl
  have HU := Lib.hid hu
  have HU2 := Lib.hid hu2
  have HK := Lib.hid hok
  have HF := Lib.hid hf
  have hdim := hok.dim
  have hroot := hok.root
  have hm200 := hok.many
  clear hl hu hu2 hok hf
  obtain ⟨n, rfl⟩ := Int.eq_ofNat_of_zero_le (by omega : 0 ≤ S)
  obtain ⟨r, rfl⟩ := Int.eq_ofNat_of_zero_le hroot.1
  have hrn : r < n := by omega
  have hn16 : n ≤ 16 := by omega
  clear hroot hdim
  unfold vBook
  obtain ⟨zs, hzs⟩ : ∃ zs : Array Value, zs = madeCells #[.int .i64 0] n := ⟨_, rfl⟩
  have hmk := fun V => run_make_row' (P := Tryd.prog) 25 3 (.int .i64 0) 8 Tryd.underlying25 infoI3 rfl .i64 .i64 n (by omega) (by omega) V
  obtain ⟨w1, hw1⟩ : ∃ w1, w1 = w.alloc (.cells #[.int .i64 n, .int .i64 r, .slice A l.length ca] 24) := ⟨_, rfl⟩
  have hX := heap_alloc_new w (.cells #[.int .i64 n, .int .i64 r, .slice A l.length ca] 24)
  have hA1 := made_arr w1 n 3
  have hA2 := made_arr (w1.alloc (.cells zs 3)) n 3
  rw [← hzs] at hmk hA1 hA2
  have z1 : w1.heap.size = w.heap.size + 1 := by rw [hw1, World.size_alloc]
  rw [World.size_alloc, z1] at hA2
  rw [z1] at hA1
  replace hA1 := hA1.below (below_alloc' (Below.refl _ _) (.cells zs 3))
  rw [← hw1] at hX
  replace hX := blk_alloc (blk_alloc hX (.cells zs 3)) (.cells zs 3)
  have hb : Below w.heap.size w ((w1.alloc (.cells zs 3)).alloc (.cells zs 3)) := below_alloc' (below_alloc' (by rw [hw1]; exact below_alloc' (Below.refl _ _) _) _) _
  have hsz : w.heap.size + 2 < ((w1.alloc (.cells zs 3)).alloc (.cells zs 3)).heap.size := by simp; omega
  rw [hw1] at hX hA1 hA2 hb hsz
  clear hzs hw1 z1
  go_enter Tryd.func27, Tryd.ntmps27
  go_upto_region 3 with fail
  clear hmk
  generalize ((w.alloc (.cells #[.int .i64 n, .int .i64 r, .slice A l.length ca] 24)).alloc (.cells zs 3)).alloc (.cells zs 3) = w0 at *
  have HX := Lib.hid hX
  have HB := Lib.hid hb
  have HA1 := Lib.hid hA1
  have HA2 := Lib.hid hA2
  clear hX hb hA1 hA2
  have y1 : w0.cell? ⟨w.heap.size, 1, none⟩ = some (.int .i64 r) := (blk_cell HX.out).trans rfl
  obtain ⟨c1, f1⟩ := HA2.out r hrn
  obtain ⟨c2, f2⟩ := HA1.out r hrn
  rw [Nat.zero_add] at c1 f1 c2 f2
  have r0 : (0 : Int) ≤ (r : Int) := by omega
  have r1 : (r : Int) < (n : Int) := by omega
  have y1b : (w0.setCell ⟨w.heap.size + 2, r, none⟩ (.int .i64 1)).cell? ⟨w.heap.size, 1, none⟩ = some (.int .i64 r) := cell_far y1 (fun e => by injection e with e; omega)
  have c2b : (w0.setCell ⟨w.heap.size + 2, r, none⟩ (.int .i64 1)).cell? ⟨w.heap.size + 1, r, none⟩ = some (.int .i64 0) := cell_far c2 (fun e => by injection e with e; omega)
  have f2b : (w0.setCell ⟨w.heap.size + 2, r, none⟩ (.int .i64 1)).frozen? ⟨w.heap.size + 1, r, none⟩ = false := (((HA1.out.far_block (p := ⟨w.heap.size + 2, r, none⟩) (by dsimp only; omega) (.int .i64 1)) r hrn).2 ▸ by rw [Nat.zero_add])
  have y1c : ((w0.setCell ⟨w.heap.size + 2, r, none⟩ (.int .i64 1)).setCell ⟨w.heap.size + 1, r, none⟩ (.int .i64 (-1))).cell? ⟨w.heap.size, 1, none⟩ = some (.int .i64 r) := cell_far y1b (fun e => by injection e with e; omega)
  refine wp_region_held (S := fun W => W.cell? ⟨w.heap.size, 1, none⟩ = some (.int .i64 r)) (by kernel_rfl) ?_
  refine wpAnyH_take (i := 0) (v := ?_) rfl (by kernel_rfl) (by kernel_rfl) (by kernel_rfl) (fun _ _ _ h => h) (Or.inl ⟨by rfl, ?_⟩) y1 ?_
  rotate_left 1
  · intro W hW; obtain s1 := hW; go_simp <;> with_reducible rfl
  refine wpAnyH_take (i := 1) (v := ?_) rfl (by kernel_rfl) (by kernel_rfl) (by kernel_rfl) (fun _ _ _ h => h) (Or.inl ⟨by rfl, ?_⟩) y1 ?_
  rotate_left 1
  · intro W hW; obtain s1 := hW; go_simp <;> with_reducible rfl
  refine wpAnyH_take (i := 2) (v := ?_) rfl (by kernel_rfl) (by kernel_rfl) (by kernel_rfl) (fun _ _ _ h => h) (Or.inl ⟨by rfl, ?_⟩) y1 ?_
  rotate_left 1
  · intro W hW; obtain s1 := hW; go_simp <;> with_reducible rfl
  refine wpAnyH_take (i := 3) (v := ?_) rfl (by kernel_rfl) (by kernel_rfl) (by kernel_rfl) (fun _ _ _ h => h) (Or.inl ⟨by rfl, ?_⟩) y1 ?_
  rotate_left 1
  · intro W hW; obtain s1 := hW; go_simp <;> with_reducible rfl
  refine wpAnyH_take (i := 4) (v := ?_) rfl (by kernel_rfl) (by kernel_rfl) (by kernel_rfl) (fun _ _ _ h => h) (Or.inl ⟨by rfl, ?_⟩) y1 ?_
  rotate_left 1
  · intro W hW; obtain s1 := hW; go_simp <;> with_reducible rfl
  refine wpAnyH_take (i := 5) (v := ?_) rfl (by kernel_rfl) (by kernel_rfl) (by kernel_rfl) (fun _ _ _ h => h) (Or.inl ⟨by rfl, ?_⟩) y1 ?_
  rotate_left 1
  · intro W hW; obtain s1 := hW; go_simp <;> with_reducible rfl
  refine wpAnyH_take (i := 6) (v := ?_) rfl (by kernel_rfl) (by kernel_rfl) (by kernel_rfl) (fun _ _ _ h => h) (Or.inl ⟨by rfl, ?_⟩) y1 ?_
  rotate_left 1
  · intro W hW; obtain s1 := hW; go_simp <;> with_reducible rfl
  simp only [Act.put, List.setIfInBounds_toArray]
  refine wpAnyH_ready (rs := [7]) (by kernel_rfl) (by simp) ?_
  refine AllReadyH.cons rfl (fun K hK => ?_) AllReadyH.nil
  go_simp
  refine hK.out _ _ y1b (fun _ => ?_)
  clear hK K
  refine wpAnyH_take (i := 8) (v := ?_) rfl (by kernel_rfl) (by kernel_rfl) (by kernel_rfl) (fun _ _ _ h => h) (Or.inl ⟨by rfl, ?_⟩) y1b ?_
  rotate_left 1
  · intro W hW; obtain s1 := hW; go_simp <;> with_reducible rfl
  simp only [Act.put, List.setIfInBounds_toArray]
  refine wpAnyH_ready (rs := [9]) (by kernel_rfl) (by simp) ?_
  refine AllReadyH.cons rfl (fun K hK => ?_) AllReadyH.nil
  go_simp
  refine hK.out _ _ y1c (fun _ => ?_)
  clear hK K
  refine wpAnyH_done (by kernel_rfl) ?_ _
  have hg1 := HA2.out.set hrn 1
  have hg2 := (HA1.out.far_block (p := ⟨w.heap.size + 2, r, none⟩) (by dsimp only; omega) (.int .i64 1)).set hrn (-1)
  rw [Nat.zero_add] at hg1 hg2
  have HA3 := Lib.hid (hg1.far_block (p := ⟨w.heap.size + 1, r, none⟩) (by dsimp only; omega) (.int .i64 (-1)))
  have HA4 := Lib.hid hg2
  have HX3 := Lib.hid (blk_far (p := ⟨w.heap.size + 1, r, none⟩) (blk_far (p := ⟨w.heap.size + 2, r, none⟩) HX.out (by dsimp only; omega) (.int .i64 1)) (by dsimp only; omega) (.int .i64 (-1)))
  have HB3 := Lib.hid ((HB.out.setCell (p := ⟨w.heap.size + 2, r, none⟩) (by dsimp only; omega) (.int .i64 1)).setCell (p := ⟨w.heap.size + 1, r, none⟩) (by dsimp only; omega) (.int .i64 (-1)))
  have hs3 : w.heap.size + 2 < ((w0.setCell ⟨w.heap.size + 2, r, none⟩ (.int .i64 1)).setCell ⟨w.heap.size + 1, r, none⟩ (.int .i64 (-1))).heap.size := by simp; omega
  clear c1 f1 c2 f2 y1 y1b y1c c2b f2b hg1 hg2 HA1 HA2 HX HB hsz
  go_simp
  generalize (w0.setCell ⟨w.heap.size + 2, r, none⟩ (.int .i64 1)).setCell ⟨w.heap.size + 1, r, none⟩ (.int .i64 (-1)) = w1 at *
  have HG0 : Hid (GrowT (netB (n : Int) (r : Int) l) (fun v => if v = r then 1 else 0) (fun v => if v = r then -1 else 0) 0) := Lib.hid (GrowT.start (N := netB (n : Int) (r : Int) l) hrn (fun v => rfl) (if_pos rfl))
  have HA3' : Hid (Arr w1 (w.heap.size + 2) 0 n (fun v => if v = r then 1 else 0)) := HA3
  have HA4' : Hid (Arr w1 (w.heap.size + 1) 0 n (fun v => if v = r then -1 else 0)) := HA4
  clear HA3 HA4
  go_wp2
  go_loopw [7] (fun i wr => ∃ (k : Nat) (f t : Nat → Int), k ≤ n ∧ i = .int .i64 k ∧ Hid (GrowT (netB (n : Int) (r : Int) l) f t k) ∧ Hid (Arr wr (w.heap.size + 2) 0 n f) ∧ Hid (Arr wr (w.heap.size + 1) 0 n t) ∧ Hid (wr.heap[w.heap.size]? = some (.cells #[.int .i64 n, .int .i64 r, .slice A l.length ca] 24 (0, 0))) ∧ Hid (Below w.heap.size w wr) ∧ w.heap.size + 2 < wr.heap.size) (fun i _ => n - (intOf i).toNat)
  case atStart => exact ⟨0, _, _, by omega, rfl, HG0, HA3', HA4', HX3, Lib.hid HB3.out.drew, hs3⟩
  case round =>
    clear HG0 HA3' HA4' HX3 HB3 hs3
    obtain ⟨k, f, t, hk, rfl, HG, HI, HO, HX, HB, hs⟩ := hrel
    have hle : k + 1 ≤ n := HG.out.le
    have y0 : wr.cell? ⟨w.heap.size, 0, none⟩ = some (.int .i64 n) := (blk_cell HX.out).trans rfl
    have y2 : wr.cell? ⟨w.heap.size, 2, none⟩ = some (.slice A l.length ca) := (blk_cell HX.out).trans rfl
    have hkn : (k : Int) < (n : Int) := by omega
    obtain ⟨w3, hw3⟩ : ∃ x, x = wr := ⟨_, rfl⟩
    subst hw3
    have HBs := Lib.hid (Below.refl w3.heap.size w3)
    go_wp2
    go_loopw [8, 9] (fun uc i wr => ∃ j : Nat, j ≤ l.length ∧ i = .int .i64 j ∧ Hid (wr.ownsRow w3.heap.size 3 1 uc (castL (outK (netB (n : Int) (r : Int) l) f j)).length ((castL (outK (netB (n : Int) (r : Int) l) f j)).flatMap encI)) ∧ Hid (Below w3.heap.size w3 wr)) (fun _ i _ => l.length - (intOf i).toNat)
    case atStart => exact ⟨0, by omega, rfl, Lib.hid (World.ownsRow_nil w3 w3.heap.size 3 1), HBs⟩
    case round =>
      clear HBs
      obtain ⟨j, hj, rfl, HC, HBr⟩ := hrel
      have z2 := cell_below HBr.out y2
      obtain ⟨wv, hwv⟩ : ∃ x, x = wr := ⟨_, rfl⟩
      subst hwv
      by_cases hjn : j < l.length
      · obtain ⟨b, off, rfl, g1, g2, g3⟩ := StepsAt.at_ (HL.out.below (below_trans' HB.out HBr.out)) hjn
        have hst := HK.out.stp _ (List.getElem_mem hjn)
        have HFr : Hid ((netB (n : Int) (r : Int) l).fr j = l[j].1.toNat) := Lib.hid (by show (stAt l j).1.toNat = _; rw [stAt_eq hjn])
        have HTo : Hid ((netB (n : Int) (r : Int) l).to j = l[j].2.1.toNat) := Lib.hid (by show (stAt l j).2.1.toNat = _; rw [stAt_eq hjn])
        generalize l[j] = x at g1 g2 g3 hst HFr HTo
        obtain ⟨x1, x2, x3⟩ := x
        dsimp only at g1 g2 g3 hst HFr HTo
        obtain ⟨a1, rfl⟩ := Int.eq_ofNat_of_zero_le hst.1.1
        obtain ⟨a2, rfl⟩ := Int.eq_ofNat_of_zero_le hst.2.1.1
        have ha1 : a1 < n := by omega
        have ha2 : a2 < n := by omega
        clear hst
        have HOut : Hid (outI (netB (n : Int) (r : Int) l) f j = (decide (f a1 = 1) && decide (f a2 = 0))) := Lib.hid (by unfold outI; rw [HFr.out, HTo.out]; rfl)
        have HP1 : Hid (outI (netB (n : Int) (r : Int) l) f j = true → castL (outK (netB (n : Int) (r : Int) l) f (j + 1)) = castL (outK (netB (n : Int) (r : Int) l) f j) ++ [(j : Int)]) := Lib.hid fun h => by unfold outK; rw [filt_put h, castL_put]
        have HS1 : Hid (outI (netB (n : Int) (r : Int) l) f j = false → castL (outK (netB (n : Int) (r : Int) l) f (j + 1)) = castL (outK (netB (n : Int) (r : Int) l) f j)) := Lib.hid fun h => by unfold outK; rw [filt_skip h]
        have hcl : (castL (outK (netB (n : Int) (r : Int) l) f j)).length ≤ 200 := by rw [castL_len]; exact Nat.le_trans (filt_len _ j) (by omega)
        generalize castL (outK (netB (n : Int) (r : Int) l) f j) = T at HC HP1 HS1 hcl
        obtain ⟨c1, _⟩ := (HI.out.below HBr.out) a1 ha1
        obtain ⟨c2, _⟩ := (HI.out.below HBr.out) a2 ha2
        rw [Nat.zero_add] at c1 c2
        have j0 : (0 : Int) ≤ (j : Int) := by omega
        have j1 : (j : Int) < (l.length : Int) := by omega
        have p1 : (0 : Int) ≤ (a1 : Int) := by omega
        have p2 : (0 : Int) ≤ (a2 : Int) := by omega
        have q1 : (a1 : Int) < (n : Int) := by omega
        have q2 : (a2 : Int) < (n : Int) := by omega
        generalize hf1 : f a1 = b1 at c1 HOut
        generalize hf2 : f a2 = b2 at c2 HOut
        clear hf1 hf2
        by_cases e1 : b1 = 1
        · have d1 : (b1 == 1) = true := by simpa using e1
          by_cases e2 : b2 = 0
          · have d2 : (b2 == 0) = true := by simpa using e2
            have HN := Lib.hid (HP1.out (by rw [HOut.out]; simp [e1, e2]))
            have hbk := heap_alloc_new wv (.cells #[.int .i64 (j : Int)] 3)
            have HCA := Lib.hid (HC.out.alloc (.cells #[.int .i64 (j : Int)] 3))
            have hz := World.size_alloc wv (.cells #[.int .i64 (j : Int)] 3)
            have hal := below_alloc' HBr.out (.cells #[.int .i64 (j : Int)] 3)
            have hsz := HBr.out.size
            clear e1 e2 HP1 HS1 HOut
            go_wp2_with (at_builtin; refine wpList_push _ rfl (.tmp 61) (.tmp 63) 25 rfl elemI encI_len oneI Tryd.underlying25 w3.heap.size _ T rfl HCA.out (by omega) (j : Int) wv.heap.size (by rfl) _ rfl _ _ hbk (by omega) ?_; intro g5 cap5 w5 hO5 hg5)
            have HO5 := Lib.hid hO5
            have HB5 := Lib.hid (hal.grown hg5 (by omega) (fun r e => own_base HCA.out r e))
            clear hO5 hg5 hbk HCA hal hz HC
            go_roundw
            case rel => exact ⟨j + 1, by omega, by go_num, by rw [HN.out, len_snoc]; exact HO5, HB5⟩
            case measure => simp [intOf]; omega
          · have d2 : (b2 == 0) = false := by simpa using e2
            have HN := Lib.hid (HS1.out (by rw [HOut.out]; simp [e2]))
            clear e1 e2 HP1 HS1 HOut
            go_wp2
            go_roundw
            case rel => exact ⟨j + 1, by omega, by go_num, by rw [HN.out]; exact HC, HBr⟩
            case measure => simp [intOf]; omega
        · have d1 : (b1 == 1) = false := by simpa using e1
          have HN := Lib.hid (HS1.out (by rw [HOut.out]; simp [e1]))
          clear e1 HP1 HS1 HOut
          go_wp2
          go_roundw
          case rel => exact ⟨j + 1, by omega, by go_num, by rw [HN.out]; exact HC, HBr⟩
          case measure => simp [intOf]; omega
      · obtain rfl : j = l.length := by omega
        obtain ⟨Gc, cc, hu1, _⟩ := own_form HC.out
        rw [hu1] at HC
        have HIc : Hid (IntsAt wv Gc (castL (outK (netB (n : Int) (r : Int) l) f l.length))) := Lib.hid (RowsAt.of_own encI_len HC.out)
        rw [castL_len] at hu1
        subst hu1
        have HBv := Lib.hid (below_trans' HB.out HBr.out)
        have HIv := Lib.hid (HI.out.below HBr.out)
        have HOv := Lib.hid (HO.out.below HBr.out)
        have HXv := Lib.hid (blk_below HBr.out HX.out)
        have hsv : w.heap.size + 2 < wv.heap.size := by have := HBr.out.size; omega
        have hTl : (outK (netB (n : Int) (r : Int) l) f l.length).length ≤ 200 := Nat.le_trans (filt_len _ l.length) (by omega)
        have HMem : Hid (∀ i ∈ outK (netB (n : Int) (r : Int) l) f l.length, i < l.length ∧ f ((netB (n : Int) (r : Int) l).fr i) = 1 ∧ f ((netB (n : Int) (r : Int) l).to i) = 0) := Lib.hid fun i hi => outK_mem.1 hi
        have HNo : Hid (outK (netB (n : Int) (r : Int) l) f l.length = [] → TreeL (netB (n : Int) (r : Int) l) ((List.range n).map t)) := Lib.hid fun he => HG.out.tree hrn HF.out (fun i hi h1 h2 => by
          have : i ∈ outK (netB (n : Int) (r : Int) l) f l.length := outK_mem.2 ⟨hi, h1, h2⟩
          rw [he] at this; cases this)
        generalize outK (netB (n : Int) (r : Int) l) f l.length = T at HIc hTl HMem HNo
        clear HC HBr HI HO HX HB y0 y2
        by_cases hT0 : T.length = 0
        · have d0 : ((T.length : Int) == 0) = true := by rw [hT0]; rfl
          have HTr := Lib.hid (HNo.out (List.length_eq_zero_iff.1 hT0))
          have HRes := Lib.hid (Arr.ints HOv.out)
          go_wp2
          go_ret
          exact Ret.mk ⟨⟨(List.range n).map t, some ⟨w.heap.size + 1, 0, none⟩, n, by simp, by simp, HRes.out, HTr.out⟩, HBv.out⟩
        · have d0 : ((T.length : Int) == 0) = false := by rw [beq_eq_false_iff_ne]; omega
          have dT : ¬ ((T.length : Int) = 0) := by omega
          go_upto_if 71 with fail
          go_cut [10] (fun s10 wx => ∃ q : Nat, q < T.length ∧ s10 = .int .i64 q ∧ wx = wv)
          case first =>
            by_cases hu0 : u.length = 0
            · have dU : decide (0 < u.length) = false := by simp [hu0]
              go_wp2_with fail
              go_meet
              exact ⟨0, by omega, rfl, rfl⟩
            · have dU : decide (0 < u.length) = true := by simp; omega
              have hU0 : ¬ ((u.length : Int) = 0) := by omega
              obtain ⟨i, hi, hil⟩ : ∃ i : Nat, (k : Int) % (u.length : Int) = (i : Int) ∧ i < u.length := ⟨k % u.length, by norm_cast, Nat.mod_lt _ (by omega)⟩
              obtain ⟨b4, o4, rfl, p1⟩ := U8At.at_ (HU.out.below HBv.out) hil
              have hq := HU2.out u[i] (List.getElem_mem hil)
              obtain ⟨y, hy⟩ := Int.eq_ofNat_of_zero_le hq.1
              rw [hy] at p1 hq
              obtain ⟨q, hq1, hq2⟩ : ∃ q : Nat, (y : Int) % (T.length : Int) = (q : Int) ∧ q < T.length := ⟨y % T.length, by norm_cast, Nat.mod_lt _ (by omega)⟩
              have i0 : (0 : Int) ≤ (i : Int) := by omega
              have i1 : (i : Int) < (u.length : Int) := by omega
              go_wp2_with fail
              go_meet
              exact ⟨q, hq2, by rw [hq1], rfl⟩
          case rest =>
            obtain ⟨q, hq, rfl, rfl⟩ := hcut
            obtain ⟨wd, hwd⟩ : ∃ x, x = wc := ⟨_, rfl⟩
            subst hwd
            obtain ⟨gb, go, rfl, g1⟩ := IntsAt.at_ HIc.out (i := q) (by rw [castL_len]; exact hq)
            rw [castL_at hq] at g1
            have hx := HMem.out _ (List.getElem_mem hq)
            generalize T[q] = x at g1 hx
            obtain ⟨hxl, hx1, hx0⟩ := hx
            have q0 : (0 : Int) ≤ (q : Int) := by omega
            have q1 : (q : Int) < (T.length : Int) := by omega
            obtain ⟨b, off, rfl, _, g2w, _⟩ := StepsAt.at_ HL.out hxl
            have hbl := block_lt_of_cell g2w
            have hst := HK.out.stp _ (List.getElem_mem hxl)
            have HTo : Hid ((netB (n : Int) (r : Int) l).to x = l[x].2.1.toNat) := Lib.hid (by show (stAt l x).2.1.toNat = _; rw [stAt_eq hxl])
            have HFr : Hid ((netB (n : Int) (r : Int) l).fr x = l[x].1.toNat) := Lib.hid (by show (stAt l x).1.toNat = _; rw [stAt_eq hxl])
            have g2 := cell_below HBv.out g2w
            generalize l[x] = y at g2w g2 hst HTo HFr
            obtain ⟨y1, y2, y3⟩ := y
            dsimp only at g2w g2 hst HTo HFr hbl
            obtain ⟨a2, rfl⟩ := Int.eq_ofNat_of_zero_le hst.2.1.1
            have ha2 : a2 < n := by omega
            have ha1 : y1.toNat < n := by omega
            rw [HTo.out] at hx0
            rw [HFr.out] at hx1
            have HGn : Hid (GrowT (netB (n : Int) (r : Int) l) (fun v => if v = a2 then 1 else f v) (fun v => if v = a2 then (x : Int) else t v) (k + 1)) := Lib.hid (by
              have h := HG.out.next (i := x) hxl (by rw [HFr.out]; exact ha1) (by rw [HTo.out]; exact ha2) (by rw [HFr.out]; exact hx1) (by rw [HTo.out]; exact hx0)
              rw [HTo.out] at h
              exact h)
            clear HTo HFr hx0 hx1 hst g2w HMem HNo HIc HG
            clear z2
            have z2 : wd.cell? ⟨w.heap.size, 2, none⟩ = some (.slice (some ⟨b, off, none⟩) l.length ca) := (blk_cell HXv.out).trans rfl
            have x0 : (0 : Int) ≤ (x : Int) := by omega
            have x1 : (x : Int) < (l.length : Int) := by omega
            have p2 : (0 : Int) ≤ (a2 : Int) := by omega
            have q2 : (a2 : Int) < (n : Int) := by omega
            go_upto_region 19 with fail
            obtain ⟨c1, f1⟩ := HIv.out a2 ha2
            obtain ⟨c2, f2⟩ := HOv.out a2 ha2
            rw [Nat.zero_add] at c1 f1 c2 f2
            have z2b : (wd.setCell ⟨w.heap.size + 2, a2, none⟩ (.int .i64 1)).cell? ⟨w.heap.size, 2, none⟩ = some (.slice (some ⟨b, off, none⟩) l.length ca) := cell_far z2 (fun e => by injection e with e; omega)
            have g2b : (wd.setCell ⟨w.heap.size + 2, a2, none⟩ (.int .i64 1)).cell? ⟨b, off + x * 3 + 1, none⟩ = some (.int .i64 a2) := cell_far g2 (fun e => by injection e with e; omega)
            have c2b : (wd.setCell ⟨w.heap.size + 2, a2, none⟩ (.int .i64 1)).cell? ⟨w.heap.size + 1, a2, none⟩ = some (.int .i64 (t a2)) := cell_far c2 (fun e => by injection e with e; omega)
            have f2b : (wd.setCell ⟨w.heap.size + 2, a2, none⟩ (.int .i64 1)).frozen? ⟨w.heap.size + 1, a2, none⟩ = false := (((HOv.out.far_block (p := ⟨w.heap.size + 2, a2, none⟩) (by dsimp only; omega) (.int .i64 1)) a2 ha2).2 ▸ by rw [Nat.zero_add])
            have z2c : ((wd.setCell ⟨w.heap.size + 2, a2, none⟩ (.int .i64 1)).setCell ⟨w.heap.size + 1, a2, none⟩ (.int .i64 (x : Int))).cell? ⟨w.heap.size, 2, none⟩ = some (.slice (some ⟨b, off, none⟩) l.length ca) := cell_far z2b (fun e => by injection e with e; omega)
            have g2c : ((wd.setCell ⟨w.heap.size + 2, a2, none⟩ (.int .i64 1)).setCell ⟨w.heap.size + 1, a2, none⟩ (.int .i64 (x : Int))).cell? ⟨b, off + x * 3 + 1, none⟩ = some (.int .i64 a2) := cell_far g2b (fun e => by injection e with e; omega)
            clear hbl
            refine wp_region_held (S := fun W => W.cell? ⟨w.heap.size, 2, none⟩ = some (.slice (some ⟨b, off, none⟩) l.length ca) ∧ W.cell? ⟨b, off + x * 3 + 1, none⟩ = some (.int .i64 a2)) (by kernel_rfl) ?_
            refine wpAnyH_take (i := 0) (v := ?_) rfl (by kernel_rfl) (by kernel_rfl) (by kernel_rfl) (fun _ _ _ h => h) (Or.inl ⟨by rfl, ?_⟩) ⟨z2, g2⟩ ?_
            rotate_left 1
            · intro W hW; obtain ⟨s1, s2⟩ := hW; go_simp <;> with_reducible rfl
            refine wpAnyH_take (i := 1) (v := ?_) rfl (by kernel_rfl) (by kernel_rfl) (by kernel_rfl) (fun _ _ _ h => h) (Or.inl ⟨by rfl, ?_⟩) ⟨z2, g2⟩ ?_
            rotate_left 1
            · intro W hW; obtain ⟨s1, s2⟩ := hW; go_simp <;> with_reducible rfl
            refine wpAnyH_take (i := 2) (v := ?_) rfl (by kernel_rfl) (by kernel_rfl) (by kernel_rfl) (fun _ _ _ h => h) (Or.inl ⟨by rfl, ?_⟩) ⟨z2, g2⟩ ?_
            rotate_left 1
            · intro W hW; obtain ⟨s1, s2⟩ := hW; go_simp <;> with_reducible rfl
            refine wpAnyH_take (i := 3) (v := ?_) rfl (by kernel_rfl) (by kernel_rfl) (by kernel_rfl) (fun _ _ _ h => h) (Or.inl ⟨by rfl, ?_⟩) ⟨z2, g2⟩ ?_
            rotate_left 1
            · intro W hW; obtain ⟨s1, s2⟩ := hW; go_simp <;> with_reducible rfl
            refine wpAnyH_take (i := 4) (v := ?_) rfl (by kernel_rfl) (by kernel_rfl) (by kernel_rfl) (fun _ _ _ h => h) (Or.inl ⟨by rfl, ?_⟩) ⟨z2, g2⟩ ?_
            rotate_left 1
            · intro W hW; obtain ⟨s1, s2⟩ := hW; go_simp <;> with_reducible rfl
            refine wpAnyH_take (i := 5) (v := ?_) rfl (by kernel_rfl) (by kernel_rfl) (by kernel_rfl) (fun _ _ _ h => h) (Or.inl ⟨by rfl, ?_⟩) ⟨z2, g2⟩ ?_
            rotate_left 1
            · intro W hW; obtain ⟨s1, s2⟩ := hW; go_simp <;> with_reducible rfl
            refine wpAnyH_take (i := 6) (v := ?_) rfl (by kernel_rfl) (by kernel_rfl) (by kernel_rfl) (fun _ _ _ h => h) (Or.inl ⟨by rfl, ?_⟩) ⟨z2, g2⟩ ?_
            rotate_left 1
            · intro W hW; obtain ⟨s1, s2⟩ := hW; go_simp <;> with_reducible rfl
            refine wpAnyH_take (i := 7) (v := ?_) rfl (by kernel_rfl) (by kernel_rfl) (by kernel_rfl) (fun _ _ _ h => h) (Or.inl ⟨by rfl, ?_⟩) ⟨z2, g2⟩ ?_
            rotate_left 1
            · intro W hW; obtain ⟨s1, s2⟩ := hW; go_simp <;> with_reducible rfl
            refine wpAnyH_take (i := 8) (v := ?_) rfl (by kernel_rfl) (by kernel_rfl) (by kernel_rfl) (fun _ _ _ h => h) (Or.inl ⟨by rfl, ?_⟩) ⟨z2, g2⟩ ?_
            rotate_left 1
            · intro W hW; obtain ⟨s1, s2⟩ := hW; go_simp <;> with_reducible rfl
            refine wpAnyH_take (i := 9) (v := ?_) rfl (by kernel_rfl) (by kernel_rfl) (by kernel_rfl) (fun _ _ _ h => h) (Or.inl ⟨by rfl, ?_⟩) ⟨z2, g2⟩ ?_
            rotate_left 1
            · intro W hW; obtain ⟨s1, s2⟩ := hW; go_simp <;> with_reducible rfl
            refine wpAnyH_take (i := 10) (v := ?_) rfl (by kernel_rfl) (by kernel_rfl) (by kernel_rfl) (fun _ _ _ h => h) (Or.inl ⟨by rfl, ?_⟩) ⟨z2, g2⟩ ?_
            rotate_left 1
            · intro W hW; obtain ⟨s1, s2⟩ := hW; go_simp <;> with_reducible rfl
            refine wpAnyH_take (i := 11) (v := ?_) rfl (by kernel_rfl) (by kernel_rfl) (by kernel_rfl) (fun _ _ _ h => h) (Or.inl ⟨by rfl, ?_⟩) ⟨z2, g2⟩ ?_
            rotate_left 1
            · intro W hW; obtain ⟨s1, s2⟩ := hW; go_simp <;> with_reducible rfl
            refine wpAnyH_take (i := 12) (v := ?_) rfl (by kernel_rfl) (by kernel_rfl) (by kernel_rfl) (fun _ _ _ h => h) (Or.inl ⟨by rfl, ?_⟩) ⟨z2, g2⟩ ?_
            rotate_left 1
            · intro W hW; obtain ⟨s1, s2⟩ := hW; go_simp <;> with_reducible rfl
            refine wpAnyH_take (i := 13) (v := ?_) rfl (by kernel_rfl) (by kernel_rfl) (by kernel_rfl) (fun _ _ _ h => h) (Or.inl ⟨by rfl, ?_⟩) ⟨z2, g2⟩ ?_
            rotate_left 1
            · intro W hW; obtain ⟨s1, s2⟩ := hW; go_simp <;> with_reducible rfl
            refine wpAnyH_take (i := 14) (v := ?_) rfl (by kernel_rfl) (by kernel_rfl) (by kernel_rfl) (fun _ _ _ h => h) (Or.inl ⟨by rfl, ?_⟩) ⟨z2, g2⟩ ?_
            rotate_left 1
            · intro W hW; obtain ⟨s1, s2⟩ := hW; go_simp <;> with_reducible rfl
            refine wpAnyH_take (i := 15) (v := ?_) rfl (by kernel_rfl) (by kernel_rfl) (by kernel_rfl) (fun _ _ _ h => h) (Or.inl ⟨by rfl, ?_⟩) ⟨z2, g2⟩ ?_
            rotate_left 1
            · intro W hW; obtain ⟨s1, s2⟩ := hW; go_simp <;> with_reducible rfl
            simp only [Act.put, List.setIfInBounds_toArray]
            refine wpAnyH_ready (rs := [16]) (by kernel_rfl) (by simp) ?_
            refine AllReadyH.cons rfl (fun K hK => ?_) AllReadyH.nil
            go_simp
            refine hK.out _ _ ⟨z2b, g2b⟩ (fun _ => ?_)
            clear hK K
            refine wpAnyH_take (i := 17) (v := ?_) rfl (by kernel_rfl) (by kernel_rfl) (by kernel_rfl) (fun _ _ _ h => h) (Or.inl ⟨by rfl, ?_⟩) ⟨z2b, g2b⟩ ?_
            rotate_left 1
            · intro W hW; obtain ⟨s1, s2⟩ := hW; go_simp <;> with_reducible rfl
            simp only [Act.put, List.setIfInBounds_toArray]
            refine wpAnyH_ready (rs := [18]) (by kernel_rfl) (by simp) ?_
            refine AllReadyH.cons rfl (fun K hK => ?_) AllReadyH.nil
            go_simp
            refine hK.out _ _ ⟨z2c, g2c⟩ (fun _ => ?_)
            clear hK K
            refine wpAnyH_done (by kernel_rfl) ?_ _
            have hg1 := HIv.out.set ha2 1
            have hg2 := (HOv.out.far_block (p := ⟨w.heap.size + 2, a2, none⟩) (by dsimp only; omega) (.int .i64 1)).set ha2 (x : Int)
            rw [Nat.zero_add] at hg1 hg2
            have HI3 := Lib.hid (hg1.far_block (p := ⟨w.heap.size + 1, a2, none⟩) (by dsimp only; omega) (.int .i64 (x : Int)))
            have HO3 := Lib.hid hg2
            have HX3 := Lib.hid (blk_far (p := ⟨w.heap.size + 1, a2, none⟩) (blk_far (p := ⟨w.heap.size + 2, a2, none⟩) HXv.out (by dsimp only; omega) (.int .i64 1)) (by dsimp only; omega) (.int .i64 (x : Int)))
            have HB3 := Lib.hid ((HBv.out.setCell (p := ⟨w.heap.size + 2, a2, none⟩) (by dsimp only; omega) (.int .i64 1)).setCell (p := ⟨w.heap.size + 1, a2, none⟩) (by dsimp only; omega) (.int .i64 (x : Int)))
            have hs3 : w.heap.size + 2 < ((wd.setCell ⟨w.heap.size + 2, a2, none⟩ (.int .i64 1)).setCell ⟨w.heap.size + 1, a2, none⟩ (.int .i64 (x : Int))).heap.size := by simp; omega
            generalize (wd.setCell ⟨w.heap.size + 2, a2, none⟩ (.int .i64 1)).setCell ⟨w.heap.size + 1, a2, none⟩ (.int .i64 (x : Int)) = we at *
            clear g1 g2 g2b g2c z2 z2b z2c c1 c2 c2b f1 f2 f2b hg1 hg2
            go_wp2
            go_roundw
            case rel => exact ⟨k + 1, _, _, hle, by go_num, HGn, HI3, HO3, HX3, Lib.hid HB3.out.drew, hs3⟩
            case measure => simp [intOf]; omega
end Go.Proofs.YtggcooplhodocaaDoor
