/- FamilyGraded: the walk. -/
import Derived.Test.YtggcooplhodocaaDoorL5
namespace Fam
/-- how many of the first k steps to v have grade x -/
def cntI (N : Net) (g : List Int) (v : Nat) (x : Int) (k : Nat) : Int := sm (fun i => if N.to i = v ∧ g.getD i 0 = x then 1 else 0) (List.range k)
theorem cntI_succ (N : Net) (g : List Int) (v : Nat) (x : Int) (k : Nat) : cntI N g v x (k + 1) = cntI N g v x k + (if N.to k = v ∧ g.getD k 0 = x then 1 else 0) := by
  unfold cntI; rw [List.range_succ, sm_append]; simp [sm]
theorem cntI_le (N : Net) (g : List Int) (v : Nat) (x : Int) (k : Nat) : 0 ≤ cntI N g v x k ∧ cntI N g v x k ≤ k := by
  induction k with
  | zero => exact ⟨Int.le_refl _, Int.le_refl _⟩
  | succ k ih => rw [cntI_succ]; split <;> omega
theorem gradeR {N : Net} {bc : Int} (hB : Best N bc) {t : List Int} (ht : TreeL N t) (hc : costL N t = bc) {i k : Nat} {x : Int} (hg : GradeIs N i x) (hk : N.to i = k) (hkn : k < N.n) : (x = 2 → t.getD k 0 = i) ∧ (x = 0 → t.getD k 0 ≠ i) := by
  have hbt : BestT N (treeF t) := hB.tree.2 ⟨ht.2.2.2, hc⟩
  constructor
  · intro e
    have h1 := hg.two e hbt
    rw [hk] at h1
    have hkr : k ≠ N.r := fun h => by have := hg.root (hk.trans h) ⟨_, hbt⟩; omega
    have h2 := ht.2.2.1 k hkn hkr
    unfold treeF at h1
    omega
  · intro e h
    by_cases hkr : k = N.r
    · have h3 := ht.2.1
      rw [← hkr] at h3
      omega
    · exact hg.none e hbt (by rw [hk]; exact hkr) (by unfold treeF; rw [hk, h]; simp)
theorem gradesE {N : Net} {bc : Int} (hB : Best N bc) {g : List Int} (hgl : g.length = N.m) (hg : ∀ i (h : i < g.length), GradeIs N i g[i]) {v : Nat} (hv : v < N.n) (hr : v ≠ N.r) :
    (cntI N g v 2 N.m = 1 ∧ cntI N g v 1 N.m = 0) ∨ (cntI N g v 2 N.m = 0 ∧ 2 ≤ cntI N g v 1 N.m) := by
  obtain ⟨⟨T, hT, hc⟩, _⟩ := id hB
  have hgr : ∀ i, i < N.m → GradeIs N i (g.getD i 0) := fun i hi => by
    have h := hg i (by omega)
    rwa [getD_at (by omega)]
  rcases grades_at hgr ⟨T, hB.tree.2 ⟨hT, hc⟩⟩ hv hr with ⟨i, hi, hto, h2, h0⟩ | ⟨⟨i, j, hi, hj, hne, hti, htj, h1, h1'⟩, h2⟩
  · refine .inl ⟨?_, ?_⟩
    · unfold cntI
      rw [sm_one (y := i) List.nodup_range (List.mem_range.2 hi) (fun x hx hxi => ?_), if_pos ⟨hto, h2⟩]
      rw [if_neg]
      rintro ⟨a, b⟩
      have := h0 x (List.mem_range.1 hx) a hxi
      omega
    · unfold cntI
      rw [sm_congr (g := fun _ => 0) (fun x hx => ?_), sm_zero]
      rw [if_neg]
      rintro ⟨a, b⟩
      by_cases e : x = i
      · subst e; omega
      · have := h0 x (List.mem_range.1 hx) a e
        omega
  · refine .inr ⟨?_, ?_⟩
    · unfold cntI
      rw [sm_congr (g := fun _ => 0) (fun x hx => ?_), sm_zero]
      rw [if_neg]
      rintro ⟨a, b⟩
      exact h2 x (List.mem_range.1 hx) a b
    · have hle : sm (fun x => (if x = i then (1 : Int) else 0) + (if x = j then 1 else 0)) (List.range N.m) ≤ cntI N g v 1 N.m := sm_le fun x _ => by
        by_cases ei : x = i
        · rw [if_pos ei, if_neg (fun e => hne (ei.symm.trans e)), if_pos (by rw [ei]; exact ⟨hti, h1⟩)]; omega
        · by_cases ej : x = j
          · rw [if_neg ei, if_pos ej, if_pos (by rw [ej]; exact ⟨htj, h1'⟩)]; omega
          · rw [if_neg ei, if_neg ej]; split <;> omega
      rw [sm_add, sm_one (y := i) List.nodup_range (List.mem_range.2 hi) (fun x _ hxi => if_neg hxi), sm_one (y := j) List.nodup_range (List.mem_range.2 hj) (fun x _ hxi => if_neg hxi), if_pos rfl, if_pos rfl] at hle
      exact hle
end Fam
namespace Go.Proofs.YtggcooplhodocaaDoor
open Go.RowKit Go.Shelf Go.Maps Fam
theorem IntsAt.atD {w : World} {A : Option Addr} {l : List Int} (h : IntsAt w A l) {i : Nat} (hi : i < l.length) : ∃ b off, A = some ⟨b, off, none⟩ ∧ w.cell? ⟨b, off + i, none⟩ = some (.int .i64 (l.getD i 0)) := by
  obtain ⟨b, off, rfl, hc⟩ := IntsAt.at_ h hi
  exact ⟨b, off, rfl, by rw [getD_at hi]; exact hc⟩
set_option maxRecDepth 100000 in
set_option maxHeartbeats 4000000 in
theorem familyGraded_any (S R : Int) (A U : Option Addr) (ca cu : Nat) (l : List St) (u : List Int) (w : World) (hl : StepsAt w A l) (hu : U8At w U u) (hu2 : ∀ x ∈ u, 0 ≤ x ∧ x ≤ 255) (hn : l.length ≤ 9223372036854775807) (hun : u.length ≤ 9223372036854775807) (hT : Tab w) :
    Calls Tryd.prog 8 #[vBook S R A l.length ca, .slice U u.length cu] w (Ret fun v w' => v = .bool true ∧ Below w.heap.size w w') := by
  have HL := Lib.hid hl
  have HU := Lib.hid hu
  have HU2 := Lib.hid hu2
  have HT := Lib.hid hT
  clear hl hT hu hu2
  unfold vBook
  have hX := heap_alloc_new w (.cells #[.int .i64 S, .int .i64 R, .slice A l.length ca] 24)
  have hb := below_alloc' (Below.refl w.heap.size w) (.cells #[.int .i64 S, .int .i64 R, .slice A l.length ca] 24)
  have y0 := (blk_cell (i := 0) hX).trans rfl
  have y1 := (blk_cell (i := 1) hX).trans rfl
  have y2 := (blk_cell (i := 2) hX).trans rfl
  go_enter Tryd.func8, Tryd.ntmps8
  go_upto_region 1 with fail
  have HB1 := Lib.hid hb
  replace HL := Lib.hid (HL.out.below hb)
  replace HU := Lib.hid (HU.out.below hb)
  replace HT := Lib.hid (HT.out.below hb)
  clear hb hX
  generalize w.alloc (.cells #[.int .i64 S, .int .i64 R, .slice A l.length ca] 24) = w1 at *
  have Hc := Lib.hid (fine_any S R A ca l w1 HL.out hn)
  go_wp2_with fail
  refine Hc.out.mono ?_
  rintro e w2 ⟨v, rfl, ⟨bf, rfl, hfb⟩, hb⟩
  have HB2 := Lib.hid (below_trans' HB1.out hb)
  replace HL := Lib.hid (HL.out.below hb)
  replace HU := Lib.hid (HU.out.below hb)
  replace HT := Lib.hid (HT.out.below hb)
  replace y0 := cell_below hb y0
  replace y1 := cell_below hb y1
  replace y2 := cell_below hb y2
  clear hb Hc HB1
  cases bf
  · go_wp2_with fail
    refine (works_any _ HT.out).mono ?_
    rintro e wz ⟨v, rfl, rfl, hBz⟩
    go_wp2
    go_ret
    exact Ret.mk' rfl ⟨rfl, below_trans' HB2.out hBz⟩
  obtain ⟨hk, hf⟩ := hfb.1 rfl
  have HK := Lib.hid hk
  have HF := Lib.hid hf
  have hn1 : l.length ≤ 100000 := by have := hk.many; omega
  have hs16 : S ≤ 16 := by have := hk.dim; omega
  clear hfb hk hf
  by_cases hg0 : 30 < u.length
  · have e0 : decide ((u.length : Int) > 30) = true := by simp; omega
    go_wp2_with fail
    refine (works_any _ HT.out).mono ?_
    rintro e wz ⟨v, rfl, rfl, hBz⟩
    go_wp2
    go_ret
    exact Ret.mk' rfl ⟨rfl, below_trans' HB2.out hBz⟩
  have e0 : decide ((u.length : Int) > 30) = false := by simp; omega
  have Hc := Lib.hid (cheapY (ca := ca) HK.out HF.out (HL.out : StepsAt w2 A l) hn1)
  go_wp2_with fail
  refine Hc.out.mono ?_
  rintro e w3 ⟨v, rfl, ⟨t, G2, c3, bc, rfl, ht1, ht2, ht3, ht4, hbc⟩, hb⟩
  have HB3 := Lib.hid (below_trans' HB2.out hb)
  replace HL := Lib.hid (HL.out.below hb)
  replace HU := Lib.hid (HU.out.below hb)
  replace HT := Lib.hid (HT.out.below hb)
  replace y0 := cell_below hb y0
  replace y1 := cell_below hb y1
  replace y2 := cell_below hb y2
  clear hb Hc HB2
  have HT2 := Lib.hid ht2
  have HTV : Hid (treeV S R l t = (bc, 0)) := Lib.hid (by rw [treeV_val HK.out ht3, ht4])
  have HBc := Lib.hid hbc
  have HTL := Lib.hid ht3
  have HTC := Lib.hid ht4
  have htl : t.length ≤ 100000 := by omega
  have HTn := Lib.hid ht1
  clear ht1 ht2 ht3 ht4 hbc
  have Hc := Lib.hid (gradesY (ca := ca) HK.out HF.out (HL.out : StepsAt w3 A l) hn1)
  go_wp2_with fail
  refine Hc.out.mono ?_
  rintro e w4 ⟨v, rfl, ⟨g, Gg, cg, rfl, hg1, hg2, hg3⟩, hb⟩
  have HB4 := Lib.hid (below_trans' HB3.out hb)
  replace HL := Lib.hid (HL.out.below hb)
  replace HU := Lib.hid (HU.out.below hb)
  replace HT := Lib.hid (HT.out.below hb)
  replace HT2 := Lib.hid (HT2.out.below hb)
  replace y0 := cell_below hb y0
  replace y1 := cell_below hb y1
  replace y2 := cell_below hb y2
  clear hb Hc HB3
  have HGi := Lib.hid hg2
  have HGr := Lib.hid hg3
  have HGn := Lib.hid hg1
  have dgl : ((g.length : Int) != (l.length : Int)) = false := by rw [hg1]; simp
  clear hg1 hg2 hg3
  have Hc := Lib.hid (rCheckTreeV (ca := ca) (cb := c3) HTV.out HL.out (HT2.out : IntsAt w4 G2 t) hn1 htl)
  go_wp2_with fail
  refine Hc.out.mono ?_
  rintro e w5 ⟨v, rfl, rfl, hb⟩
  have HB5 := Lib.hid (below_trans' HB4.out hb)
  replace HL := Lib.hid (HL.out.below hb)
  replace HU := Lib.hid (HU.out.below hb)
  replace HT := Lib.hid (HT.out.below hb)
  replace HT2 := Lib.hid (HT2.out.below hb)
  replace HGi := Lib.hid (HGi.out.below hb)
  replace y0 := cell_below hb y0
  replace y1 := cell_below hb y1
  replace y2 := cell_below hb y2
  clear hb Hc HB4
  have Hc := Lib.hid (growT_any S R A U ca cu l u w5 HL.out HU.out HU2.out HK.out HF.out (by omega))
  go_wp2_with fail
  refine Hc.out.mono ?_
  rintro e w6 ⟨v, rfl, ⟨q, GG, cG, rfl, hq1, hq2, hq3⟩, hb⟩
  have HB6 := Lib.hid (below_trans' HB5.out hb)
  replace HL := Lib.hid (HL.out.below hb)
  replace HU := Lib.hid (HU.out.below hb)
  replace HT := Lib.hid (HT.out.below hb)
  replace HT2 := Lib.hid (HT2.out.below hb)
  replace HGi := Lib.hid (HGi.out.below hb)
  replace y0 := cell_below hb y0
  replace y1 := cell_below hb y1
  replace y2 := cell_below hb y2
  clear hb Hc HB5
  have HQi := Lib.hid hq2
  have HQL := Lib.hid hq3
  have HQn := Lib.hid hq1
  have hql : q.length ≤ 100000 := by omega
  have HQV : Hid (treeV S R l q = (costL (netB S R l) q, 0)) := Lib.hid (treeV_val HK.out hq3)
  obtain ⟨kc, hkc⟩ : ∃ kc, kc = costL (netB S R l) q := ⟨_, rfl⟩
  rw [← hkc] at HQV
  have HQC := Lib.hid hkc
  clear hq1 hq2 hq3 hkc
  have Hc := Lib.hid (checkTreeV (ca := ca) (cb := cG) HQV.out HL.out (HQi.out : IntsAt w6 GG q) hn1 hql)
  go_wp2_with fail
  refine Hc.out.mono ?_
  rintro e w7 ⟨v, rfl, rfl, hb⟩
  have HB7 := Lib.hid (below_trans' HB6.out hb)
  replace HL := Lib.hid (HL.out.below hb)
  replace HU := Lib.hid (HU.out.below hb)
  replace HT := Lib.hid (HT.out.below hb)
  replace HT2 := Lib.hid (HT2.out.below hb)
  replace HGi := Lib.hid (HGi.out.below hb)
  replace HQi := Lib.hid (HQi.out.below hb)
  replace y0 := cell_below hb y0
  replace y1 := cell_below hb y1
  replace y2 := cell_below hb y2
  clear hb Hc HB6
  clear HU HU2 HTV HQV dgl
  have hdim := HK.out.dim
  have hroot := HK.out.root
  obtain ⟨n, rfl⟩ := Int.eq_ofNat_of_zero_le (by omega : 0 ≤ S)
  obtain ⟨r, rfl⟩ := Int.eq_ofNat_of_zero_le hroot.1
  have hrn : r < n := by omega
  have hm200 := HK.out.many
  clear hroot hdim
  have HLaw : Hid (∀ k i, k < n → i < l.length → (netB (n : Int) (r : Int) l).to i = k → 0 ≤ g.getD i 0 ∧ g.getD i 0 ≤ 2 ∧ (k = r → g.getD i 0 = 0) ∧ (g.getD i 0 = 2 → t.getD k 0 = i) ∧ (g.getD i 0 = 0 → t.getD k 0 ≠ i) ∧ (kc = bc → (g.getD i 0 = 2 → q.getD k 0 = i) ∧ (g.getD i 0 = 0 → q.getD k 0 ≠ i))) := Lib.hid fun k i hk hi hto => by
    have hi' : i < g.length := by rw [HGn.out]; exact hi
    have hgi := HGr.out i hi'
    rw [← getD_at hi'] at hgi
    have h1 := hgi.range
    have h2 := gradeR HBc.out HTL.out HTC.out hgi hto hk
    refine ⟨h1.1, h1.2, fun e => hgi.root (hto.trans e) ⟨_, HBc.out.tree.2 ⟨HTL.out.2.2.2, HTC.out⟩⟩, h2.1, h2.2, fun e => ?_⟩
    exact gradeR HBc.out HQL.out (by rw [← HQC.out, e]) hgi hto hk
  have HEnd : Hid (∀ k, k < n → k ≠ r → (cntI (netB (n : Int) (r : Int) l) g k 2 g.length = 1 ∧ cntI (netB (n : Int) (r : Int) l) g k 1 g.length = 0) ∨ (cntI (netB (n : Int) (r : Int) l) g k 2 g.length = 0 ∧ 2 ≤ cntI (netB (n : Int) (r : Int) l) g k 1 g.length)) := Lib.hid fun k hk hr => by
    have h := gradesE HBc.out (g := g) HGn.out HGr.out (v := k) hk hr
    rw [HGn.out]
    exact h
  have HTk : Hid (∀ k, k < n → k < t.length) := Lib.hid fun k hk => by have := HTn.out; omega
  have HQk : Hid (∀ k, k < n → k < q.length) := Lib.hid fun k hk => by have := HQn.out; omega
  have hgl2 : g.length ≤ 200 := by rw [HGn.out]; exact hm200
  clear HTL HTC HBc HQL HQC HGr HTn HQn
  obtain ⟨wq, hwq⟩ : ∃ x, x = w7 := ⟨_, rfl⟩
  subst hwq
  obtain ⟨N, hN⟩ : ∃ N, N = netB (n : Int) (r : Int) l := ⟨_, rfl⟩
  rw [← hN] at HLaw HEnd
  have HNt : Hid (∀ i, N.to i = (stAt l i).2.1.toNat) := Lib.hid fun i => by rw [hN]; rfl
  clear hN
  go_wp2
  go_loopw [15] (fun i wr => ∃ k : Nat, k ≤ n ∧ i = .int .i64 k ∧ wr = wq) (fun i _ => n - (intOf i).toNat)
  case atStart => exact ⟨0, by omega, rfl, rfl⟩
  case round =>
    obtain ⟨k, hk, rfl, rfl⟩ := hrel
    by_cases hkn : k < n
    · obtain ⟨tb, tf, rfl, tc⟩ := IntsAt.atD HT2.out (HTk.out k hkn)
      obtain ⟨qb, qo, rfl, qc⟩ := IntsAt.atD HQi.out (HQk.out k hkn)
      have k0 : (0 : Int) ≤ (k : Int) := by omega
      have k1 : (k : Int) < (t.length : Int) := by have := HTk.out k hkn; omega
      have k2 : (k : Int) < (q.length : Int) := by have := HQk.out k hkn; omega
      have HLk : Hid (∀ i, i < l.length → N.to i = k → _) := Lib.hid (fun i => HLaw.out k i hkn)
      have HEk := Lib.hid (HEnd.out k hkn)
      generalize t.getD k 0 = y at tc HLk
      generalize q.getD k 0 = z at qc HLk
      obtain ⟨wz, hwz⟩ : ∃ x, x = wr := ⟨_, rfl⟩
      subst hwz
      go_wp2
      go_loopw [16, 17, 18] (fun one two i wr => ∃ j : Nat, j ≤ g.length ∧ i = .int .i64 j ∧ one = .int .i64 (cntI N g k 1 j) ∧ two = .int .i64 (cntI N g k 2 j) ∧ wr = wz) (fun _ _ i _ => g.length - (intOf i).toNat)
      case atStart => exact ⟨0, by omega, rfl, rfl, rfl, rfl⟩
      case round =>
        obtain ⟨j, hj, rfl, rfl, rfl, rfl⟩ := hrel
        by_cases hjn : j < g.length
        · have hjl : j < l.length := by rw [← HGn.out]; exact hjn
          obtain ⟨b, off, rfl, _, p2, _⟩ := StepsAt.at_ HL.out hjl
          obtain ⟨gb, gf, rfl, gc⟩ := IntsAt.atD HGi.out hjn
          have hst := HK.out.stp _ (List.getElem_mem hjl)
          have hto : N.to j = l[j].2.1.toNat := by rw [HNt.out, stAt_eq hjl]
          generalize l[j] = x at p2 hst hto
          obtain ⟨x1, x2, x3⟩ := x
          dsimp only at p2 hst hto
          obtain ⟨a, rfl⟩ := Int.eq_ofNat_of_zero_le hst.2.1.1
          have hto : N.to j = a := hto
          have HLj := Lib.hid (HLk.out j hjl)
          have c1 := cntI_succ N g k 1 j
          have c2 := cntI_succ N g k 2 j
          have b1 := cntI_le N g k 1 j
          have b2 := cntI_le N g k 2 j
          have j0 : (0 : Int) ≤ (j : Int) := by omega
          have j1 : (j : Int) < (g.length : Int) := by omega
          have j2 : (j : Int) < (l.length : Int) := by omega
          generalize g.getD j 0 = x at gc c1 c2 HLj
          rw [hto] at c1 c2 HLj
          have HC1 := Lib.hid c1
          have HC2 := Lib.hid c2
          clear c1 c2 hto hst
          by_cases hak : a = k
          rotate_left 1
          · as_aux_lemma =>
              have dne : ((a : Int) != (k : Int)) = true := by simp; omega
              have HN1 : Hid (cntI N g k 1 (j + 1) = cntI N g k 1 j) := Lib.hid (by rw [HC1.out, if_neg (fun h => hak h.1), Int.add_zero])
              have HN2 : Hid (cntI N g k 2 (j + 1) = cntI N g k 2 j) := Lib.hid (by rw [HC2.out, if_neg (fun h => hak h.1), Int.add_zero])
              clear hak HC1 HC2 b1 b2
              go_wp2
              go_roundw
              case rel => exact ⟨j + 1, by omega, by go_num, by rw [HN1.out], by rw [HN2.out], trivial⟩
              case measure => simp [intOf]; omega
          have dne : ((a : Int) != (k : Int)) = false := by simp; omega
          obtain ⟨h0, h2, hr0, ht2, ht0, hq⟩ := HLj.out hak
          have w1 : IntKind.i64.wrap (cntI N g k 1 j + 1) = cntI N g k 1 j + 1 := IntWalk.i64_in _ (by omega)
          have w2 : IntKind.i64.wrap (cntI N g k 2 j + 1) = cntI N g k 2 j + 1 := IntWalk.i64_in _ (by omega)
          have HQ := Lib.hid hq
          have HR := Lib.hid hr0
          have H2 := Lib.hid ht2
          have H0 := Lib.hid ht0
          have hx : x = 0 ∨ x = 1 ∨ x = 2 := by omega
          clear HLj h0 h2 hr0 ht2 ht0 hq b1 b2
          rcases hx with rfl | rfl | rfl
          · have HN1 : Hid (cntI N g k 1 (j + 1) = cntI N g k 1 j) := Lib.hid (by rw [HC1.out, if_neg (fun h => absurd h.2 (by decide)), Int.add_zero])
            have HN2 : Hid (cntI N g k 2 (j + 1) = cntI N g k 2 j) := Lib.hid (by rw [HC2.out, if_neg (fun h => absurd h.2 (by decide)), Int.add_zero])
            have dy : (y == (j : Int)) = false := by simpa using H0.out rfl
            by_cases hkr : k = r
            · have dr : ((k : Int) == (r : Int)) = true := by simp; omega
              clear hkr
              by_cases hkb : kc = bc
              · as_aux_lemma =>
                  have dk : (kc == bc) = true := by simpa using hkb
                  have dz : (z == (j : Int)) = false := by simpa using (HQ.out hkb).2 rfl
                  clear hkb hak HC1 HC2 HQ HR H2 H0
                  go_wp2
                  go_roundw
                  case rel => exact ⟨j + 1, by omega, by go_num, by rw [HN1.out], by rw [HN2.out], trivial⟩
                  case measure => simp [intOf]; omega
              · as_aux_lemma =>
                  have dk : (kc == bc) = false := by simpa using hkb
                  clear hkb hak HC1 HC2 HQ HR H2 H0
                  go_wp2
                  go_roundw
                  case rel => exact ⟨j + 1, by omega, by go_num, by rw [HN1.out], by rw [HN2.out], trivial⟩
                  case measure => simp [intOf]; omega
            · have dr : ((k : Int) == (r : Int)) = false := by simp; omega
              clear hkr
              by_cases hkb : kc = bc
              · as_aux_lemma =>
                  have dk : (kc == bc) = true := by simpa using hkb
                  have dz : (z == (j : Int)) = false := by simpa using (HQ.out hkb).2 rfl
                  clear hkb hak HC1 HC2 HQ HR H2 H0
                  go_wp2
                  go_roundw
                  case rel => exact ⟨j + 1, by omega, by go_num, by rw [HN1.out], by rw [HN2.out], trivial⟩
                  case measure => simp [intOf]; omega
              · as_aux_lemma =>
                  have dk : (kc == bc) = false := by simpa using hkb
                  clear hkb hak HC1 HC2 HQ HR H2 H0
                  go_wp2
                  go_roundw
                  case rel => exact ⟨j + 1, by omega, by go_num, by rw [HN1.out], by rw [HN2.out], trivial⟩
                  case measure => simp [intOf]; omega
          · have HN1 : Hid (cntI N g k 1 (j + 1) = cntI N g k 1 j + 1) := Lib.hid (by rw [HC1.out, if_pos ⟨hak, rfl⟩])
            have HN2 : Hid (cntI N g k 2 (j + 1) = cntI N g k 2 j) := Lib.hid (by rw [HC2.out, if_neg (fun h => absurd h.2 (by decide)), Int.add_zero])
            have dr : ((k : Int) == (r : Int)) = false := by simp; intro e; exact absurd (HR.out (by omega)) (by decide)
            by_cases hkb : kc = bc
            · as_aux_lemma =>
                have dk : (kc == bc) = true := by simpa using hkb
                clear hkb hak HC1 HC2 HQ HR H2 H0
                go_wp2
                go_roundw
                case rel => exact ⟨j + 1, by omega, by go_num, by rw [HN1.out], by rw [HN2.out], trivial⟩
                case measure => simp [intOf]; omega
            · as_aux_lemma =>
                have dk : (kc == bc) = false := by simpa using hkb
                clear hkb hak HC1 HC2 HQ HR H2 H0
                go_wp2
                go_roundw
                case rel => exact ⟨j + 1, by omega, by go_num, by rw [HN1.out], by rw [HN2.out], trivial⟩
                case measure => simp [intOf]; omega
          · have HN1 : Hid (cntI N g k 1 (j + 1) = cntI N g k 1 j) := Lib.hid (by rw [HC1.out, if_neg (fun h => absurd h.2 (by decide)), Int.add_zero])
            have HN2 : Hid (cntI N g k 2 (j + 1) = cntI N g k 2 j + 1) := Lib.hid (by rw [HC2.out, if_pos ⟨hak, rfl⟩])
            have dy : (y != (j : Int)) = false := by simpa using H2.out rfl
            have dr : ((k : Int) == (r : Int)) = false := by simp; intro e; exact absurd (HR.out (by omega)) (by decide)
            by_cases hkb : kc = bc
            · as_aux_lemma =>
                have dk : (kc == bc) = true := by simpa using hkb
                have dz : (z != (j : Int)) = false := by simpa using (HQ.out hkb).1 rfl
                clear hkb hak HC1 HC2 HQ HR H2 H0
                go_wp2
                go_roundw
                case rel => exact ⟨j + 1, by omega, by go_num, by rw [HN1.out], by rw [HN2.out], trivial⟩
                case measure => simp [intOf]; omega
            · as_aux_lemma =>
                have dk : (kc == bc) = false := by simpa using hkb
                clear hkb hak HC1 HC2 HQ HR H2 H0
                go_wp2
                go_roundw
                case rel => exact ⟨j + 1, by omega, by go_num, by rw [HN1.out], by rw [HN2.out], trivial⟩
                case measure => simp [intOf]; omega
        · obtain rfl : j = g.length := by omega
          by_cases hkr : k = r
          · as_aux_lemma =>
              have dr : ((k : Int) != (r : Int)) = false := by simp; omega
              clear hkr
              go_wp2
              go_roundw
              case rel => exact ⟨k + 1, by omega, by go_num, trivial⟩
              case measure => simp [intOf]; omega
          · have dr : ((k : Int) != (r : Int)) = true := by simp; omega
            have hE := HEk.out hkr
            clear HEk hkr
            generalize cntI N g k 1 g.length = C1 at *
            generalize cntI N g k 2 g.length = C2 at *
            rcases hE with ⟨rfl, rfl⟩ | ⟨rfl, h1⟩
            · as_aux_lemma =>
                go_wp2
                go_roundw
                case rel => exact ⟨k + 1, by omega, by go_num, trivial⟩
                case measure => simp [intOf]; omega
            · as_aux_lemma =>
                have dc : decide (C1 < 2) = false := by simpa using h1
                clear h1
                go_wp2
                go_roundw
                case rel => exact ⟨k + 1, by omega, by go_num, trivial⟩
                case measure => simp [intOf]; omega
    · obtain rfl : k = n := by omega
      go_wp2_with fail
      refine (works_any _ HT.out).mono ?_
      rintro e wz ⟨v, rfl, rfl, hBz⟩
      go_wp2
      go_ret
      exact Ret.mk' rfl ⟨rfl, below_trans' HB7.out hBz⟩
end Go.Proofs.YtggcooplhodocaaDoor
