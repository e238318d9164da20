/- FamilyLargest: the walk. -/
import Derived.Test.YtggcooplhodocaaDoorL5
namespace Fam
/-- the steps with at most (with fewer than) m changes -/
def leF (m : Int) (l : List St) : List St := l.filter fun x => decide (x.2.2 ≤ m)
def ltF (m : Int) (l : List St) : List St := l.filter fun x => decide (x.2.2 < m)
theorem filt_step {p : St → Bool} {l : List St} {k : Nat} (hk : k < l.length) : (l.take (k + 1)).filter p = (l.take k).filter p ++ (if p l[k] = true then [l[k]] else []) := by
  rw [List.take_succ_eq_append_getElem hk, List.filter_append]
  by_cases h : p l[k] = true
  · rw [if_pos h, List.filter_cons_of_pos h]; rfl
  · rw [if_neg h, List.filter_cons_of_neg h]; rfl
theorem BookOk.filt {S R : Int} {l : List St} (h : BookOk S R l) (p : St → Bool) : BookOk S R (l.filter p) :=
  ⟨h.dim, Nat.le_trans (List.length_filter_le p l) h.many, h.root, fun x hx => h.stp x (List.mem_filter.1 hx).1⟩
theorem full_filt {S R : Int} {l : List St} (p : St → Bool) : Full (netB S R (l.filter p)) (allS (netB S R (l.filter p))) ↔ Full (netB S R l) (fun i => i < l.length ∧ p (stAt l i) = true) := by
  constructor
  · intro h v hv
    have k := h v hv
    clear hv
    induction k with
    | refl => exact .refl
    | step _ hi ih =>
      rename_i i hr
      have h1 := stAt_mem (l := l.filter p) (i := i) hi
      obtain ⟨h2, h3⟩ := List.mem_filter.1 h1
      obtain ⟨j, hj, e⟩ := List.mem_iff_getElem.1 h2
      have e' : stAt l j = stAt (l.filter p) i := by rw [stAt_eq hj, e]
      have ef : (netB S R l).fr j = (netB S R (l.filter p)).fr i := by show (stAt l j).1.toNat = (stAt (l.filter p) i).1.toNat; rw [e']
      have et : (netB S R l).to j = (netB S R (l.filter p)).to i := by show (stAt l j).2.1.toNat = (stAt (l.filter p) i).2.1.toNat; rw [e']
      rw [← et]
      exact .step (by rw [ef]; exact ih) ⟨hj, by rw [e']; exact h3⟩
  · intro h v hv
    have k := h v hv
    clear hv
    induction k with
    | refl => exact .refl
    | step _ hi ih =>
      rename_i j hr
      obtain ⟨hj, hp⟩ := hi
      have h2 : stAt l j ∈ l.filter p := List.mem_filter.2 ⟨stAt_mem hj, hp⟩
      obtain ⟨i, hi, e⟩ := List.mem_iff_getElem.1 h2
      have e' : stAt (l.filter p) i = stAt l j := by rw [stAt_eq hi, e]
      have ef : (netB S R (l.filter p)).fr i = (netB S R l).fr j := by show (stAt (l.filter p) i).1.toNat = (stAt l j).1.toNat; rw [e']
      have et : (netB S R (l.filter p)).to i = (netB S R l).to j := by show (stAt (l.filter p) i).2.1.toNat = (stAt l j).2.1.toNat; rw [e']
      rw [← et]
      exact .step (by rw [ef]; exact ih) hi
theorem full_le {S R m : Int} {l : List St} (h : MostIs (netB S R l) m) : Full (netB S R (leF m l)) (allS (netB S R (leF m l))) :=
  (full_filt _).2 (h.2.1.mono fun i hi => ⟨hi.1, decide_eq_true (show (stAt l i).2.2 ≤ m from hi.2)⟩)
theorem most_zero {S R m : Int} {l : List St} (h : MostIs (netB S R l) m) (hf : Full (netB S R (ltF m l)) (allS (netB S R (ltF m l)))) : m = 0 := by
  have h1 := (full_filt _).1 hf
  have h0 := h.1
  rcases Int.lt_or_le 0 m with h2 | h2
  · have := h.2.2 (m - 1) (by omega) (h1.mono fun i hi => ⟨hi.1, by
      have h3 : decide ((stAt l i).2.2 < m) = true := hi.2
      have h4 : (stAt l i).2.2 < m := by simpa using h3
      show (stAt l i).2.2 ≤ m - 1
      omega⟩)
    omega
  · omega
/-- the greatest of the first k variants' changes -/
def BigL (l : List St) (q : List Int) (r k : Nat) (L : Int) : Prop := 0 ≤ L ∧ ∀ v, v < k → v ≠ r → (stAt l (q.getD v 0).toNat).2.2 ≤ L
theorem BigL.skip {l : List St} {q : List Int} {r k : Nat} {L : Int} (h : BigL l q r k L) (e : k = r) : BigL l q r (k + 1) L := ⟨h.1, fun v hv hr => h.2 v (by omega) hr⟩
theorem BigL.next {l : List St} {q : List Int} {r k : Nat} {L : Int} (h : BigL l q r k L) {x : Nat} (e : q.getD k 0 = x) (hx : x < l.length) : BigL l q r (k + 1) (max L l[x].2.2) := by
  refine ⟨by have := h.1; omega, fun v hv hr => ?_⟩
  by_cases e2 : v = k
  · subst e2
    rw [e]
    show (stAt l x).2.2 ≤ _
    rw [stAt_eq hx]
    omega
  · have := h.2 v (by omega) hr
    omega
theorem BigL.most {S R m : Int} {l : List St} {q : List Int} {n : Nat} {L : Int} (hM : MostIs (netB S R l) m) (hq : TreeL (netB S R l) q) (hn : n = S.toNat) (h : BigL l q R.toNat n L) : m ≤ L :=
  hM.2.2 L h.1 (hq.2.2.2.full.mono fun i ⟨u, hu, hur, e⟩ => by
    subst hn
    have h1 : u < S.toNat := hu
    have h2 : u ≠ R.toNat := hur
    have h3 := h.2 u h1 h2
    have h4 := (hq.2.2.2.to u hu hur).1
    unfold treeF at e h4
    rw [e] at h3 h4
    exact ⟨h4, h3⟩)
theorem most_one {S R m : Int} {l : List St} (hok : BookOk S R l) (hM : MostIs (netB S R l) m) (h : S = 1) : m = 0 := by
  have h1 := hM.1
  have hr := hok.root
  have h2 := hM.2.2 0 (Int.le_refl _) (fun v hv => by
    have hv' : v < S.toNat := hv
    have e : v = (netB S R l).r := by show v = R.toNat; omega
    rw [e]; exact .refl)
  omega
end Fam
namespace Go.Proofs.YtggcooplhodocaaDoor
open Go.RowKit Go.Shelf Go.Maps Fam
theorem IntsAt.atE {w : World} {A : Option Addr} {l : List Int} (h : IntsAt w A l) {i : Nat} (hi : i < l.length) : ∃ b off, A = some ⟨b, off, none⟩ ∧ w.cell? ⟨b, off + i, none⟩ = some (.int .i64 (l.getD i 0)) := by
  obtain ⟨b, off, rfl, hc⟩ := IntsAt.at_ h hi
  exact ⟨b, off, rfl, by rw [getD_at hi]; exact hc⟩
section
variable {size bytes : Nat} {z : Value} {e : TypeId} {α : Type} {enc : α → List Value}
theorem step_pushL {ops : Array Oper} {o : Oper} {a : Act} {w : World} {K : Act → World → Prop} {Q : Exit → Act → World → Prop} {X : Prop}
    (hg : o.guard = none) (s x : Operand) (t : TypeId) (hop : o.op = Op.call { callee := Callee.builtin Builtin.append, args := #[s, x], argTypes := #[t, t] })
    (E : ElemT e size bytes z) (hk : ∀ x, (enc x).length = size) (h1 : ∀ x, ∀ u ∈ enc x, u.oneCell' = true) (ht : Tryd.prog.underlying t = some (.slice e)) (base : Nat)
    (v : Value) (l : List α) (hs : a.eval s = v) (hown : w.ownsRow base e size v l.length (l.flatMap enc)) (hlen : l.length ≤ 100000) (y : α) (B : Nat) (hx : a.eval x = .slice (some ⟨B, 0, none⟩) 1 1)
    (cs : Array Value) (hcs : cs.toList = enc y) (tt : TypeId) (fr : Nat × Nat) (hB : w.heap[B]? = some (.cells cs tt fr)) (b3 : base ≤ w.heap.size)
    (hK : ∀ g cap w', w'.ownsRow base e size (.slice (some ⟨g, 0, none⟩) (l.length + 1) cap) (l.length + 1) ((l ++ [y]).flatMap enc) → w.grownBy w' v.ownBlock → (v.ownBlock = some g ∨ g = w.heap.size) → K (a.put o.dst (.slice (some ⟨g, 0, none⟩) (l.length + 1) cap)) w') :
    if Region.wanted o (yielded ops a.tmps) = true then Oper.wp Tryd.prog o a w K Q else X := by
  obtain ⟨i0, hi, hz0, hz1, hz2⟩ := info_parts E.info
  have hb : (l.length + 1) * bytes ≤ 100001 * 100 := Nat.mul_le_mul (by omega) E.small
  refine step_append_lies (w := w) hg s x t hop base e i0 z size bytes ht hi hz0 hz1 hz2 E.zsz E.pos v l.length (l.flatMap enc) hs hown ⟨B, 0, none⟩ 1 1 (enc y) hx (by rw [hk]; omega) (news_new hB hcs) (h1 y) (by omega) (by simp only [maxLen]; omega) (by omega) b3 w.heap.size rfl ?_
  intro g cap w' hown' hgrow hat _
  exact hK g cap w' (by rw [← push_flat]; exact hown') hgrow hat
end
set_option maxRecDepth 100000 in
set_option maxHeartbeats 4000000 in
theorem familyLargest_any (S R : Int) (A U : Option Addr) (ca cu : Nat) (l : List St) (u : List Int) (w : World) (hl : StepsAt w A l) (hu : U8At w U u) (hu2 : ∀ x ∈ u, 0 ≤ x ∧ x ≤ 255) (hn : l.length ≤ 9223372036854775807) (hun : u.length ≤ 9223372036854775807) (hT : Tab w) :
    Calls Tryd.prog 9 #[vBook S R A l.length ca, .slice U u.length cu] w (Ret fun v w' => v = .bool true ∧ Below w.heap.size w w') := by
  have HL := Lib.hid hl
  have HL0 := Lib.hid hl
  have HU := Lib.hid hu
  have HU2 := Lib.hid hu2
  have HT := Lib.hid hT
  have HT0 := Lib.hid hT
  clear hl hT hu hu2
  unfold vBook
  have hX := heap_alloc_new w (.cells #[.int .i64 S, .int .i64 R, .slice A l.length ca] 24)
  have hb := below_alloc' (Below.refl w.heap.size w) (.cells #[.int .i64 S, .int .i64 R, .slice A l.length ca] 24)
  have y0 := (blk_cell (i := 0) hX).trans rfl
  have y1 := (blk_cell (i := 1) hX).trans rfl
  have y2 := (blk_cell (i := 2) hX).trans rfl
  go_enter Tryd.func9, Tryd.ntmps9
  go_upto_region 1 with fail
  have HB1 := Lib.hid hb
  have HX0 := Lib.hid hX
  replace HL := Lib.hid (HL.out.below hb)
  replace HU := Lib.hid (HU.out.below hb)
  replace HT := Lib.hid (HT.out.below hb)
  clear hb hX
  generalize w.alloc (.cells #[.int .i64 S, .int .i64 R, .slice A l.length ca] 24) = w1 at *
  have Hc := Lib.hid (fine_any S R A ca l w1 HL.out hn)
  go_wp2_with fail
  refine Hc.out.mono ?_
  rintro e w2 ⟨v, rfl, ⟨bf, rfl, hfb⟩, hb⟩
  have HB2 := Lib.hid (below_trans' HB1.out hb)
  replace HL := Lib.hid (HL.out.below hb)
  replace HU := Lib.hid (HU.out.below hb)
  replace HT := Lib.hid (HT.out.below hb)
  replace y0 := cell_below hb y0
  replace y1 := cell_below hb y1
  replace y2 := cell_below hb y2
  replace HX0 := Lib.hid (blk_below hb HX0.out)
  clear hb Hc HB1
  cases bf
  · go_wp2_with fail
    refine (works_any _ HT.out).mono ?_
    rintro e wz ⟨v, rfl, rfl, hBz⟩
    go_wp2
    go_ret
    exact Ret.mk' rfl ⟨rfl, below_trans' HB2.out hBz⟩
  obtain ⟨hk, hf⟩ := hfb.1 rfl
  have HK := Lib.hid hk
  have HF := Lib.hid hf
  have hn1 : l.length ≤ 100000 := by have := hk.many; omega
  have hs16 : S ≤ 16 := by have := hk.dim; omega
  clear hfb hk hf
  by_cases hg0 : 30 < u.length
  · have e0 : decide ((u.length : Int) > 30) = true := by simp; omega
    go_wp2_with fail
    refine (works_any _ HT.out).mono ?_
    rintro e wz ⟨v, rfl, rfl, hBz⟩
    go_wp2
    go_ret
    exact Ret.mk' rfl ⟨rfl, below_trans' HB2.out hBz⟩
  have e0 : decide ((u.length : Int) > 30) = false := by simp; omega
  have Hc := Lib.hid (mostY (ca := ca) HK.out HF.out (HL.out : StepsAt w2 A l) hn1)
  go_wp2_with fail
  refine Hc.out.mono ?_
  rintro e w3 ⟨v, rfl, ⟨m, rfl, hm⟩, hb⟩
  have HB3 := Lib.hid (below_trans' HB2.out hb)
  replace HL := Lib.hid (HL.out.below hb)
  replace HU := Lib.hid (HU.out.below hb)
  replace HT := Lib.hid (HT.out.below hb)
  replace y0 := cell_below hb y0
  replace y1 := cell_below hb y1
  replace y2 := cell_below hb y2
  replace HX0 := Lib.hid (blk_below hb HX0.out)
  clear hb Hc HB2
  have HM := Lib.hid hm
  have dm : decide (m < 0) = false := by have := hm.1; simpa using this
  clear hm
  have Hc := Lib.hid (growT_any S R A U ca cu l u w3 HL.out HU.out HU2.out HK.out HF.out (by omega))
  go_wp2_with fail
  refine Hc.out.mono ?_
  rintro e w4 ⟨v, rfl, ⟨q, GG, cG, rfl, hq1, hq2, hq3⟩, hb⟩
  have HB4 := Lib.hid (below_trans' HB3.out hb)
  replace HL := Lib.hid (HL.out.below hb)
  replace HU := Lib.hid (HU.out.below hb)
  replace HT := Lib.hid (HT.out.below hb)
  replace y0 := cell_below hb y0
  replace y1 := cell_below hb y1
  replace y2 := cell_below hb y2
  replace HX0 := Lib.hid (blk_below hb HX0.out)
  clear hb Hc HB3
  have HQi := Lib.hid hq2
  have HQL := Lib.hid hq3
  have HQn := Lib.hid hq1
  clear hq1 hq2 hq3 dm HU HU2
  have hdim := HK.out.dim
  have hroot := HK.out.root
  obtain ⟨n, rfl⟩ := Int.eq_ofNat_of_zero_le (by omega : 0 ≤ S)
  obtain ⟨r, rfl⟩ := Int.eq_ofNat_of_zero_le hroot.1
  have hrn : r < n := by omega
  have hm200 := HK.out.many
  clear hroot hdim
  have HQk : Hid (∀ k, k < n → k < q.length) := Lib.hid fun k hk => by have := HQn.out; omega
  have HQx : Hid (∀ k, k < n → k ≠ r → ∃ x : Nat, q.getD k 0 = x ∧ x < l.length) := Lib.hid fun k hk hr => by
    have h1 := HQL.out.2.2.1 k hk hr
    have h2 := (HQL.out.2.2.2.to k hk hr).1
    unfold treeF at h2
    exact ⟨(q.getD k 0).toNat, by omega, h2⟩
  obtain ⟨wq, hwq⟩ : ∃ x, x = w4 := ⟨_, rfl⟩
  subst hwq
  have HBr0 := Lib.hid (Below.refl wq.heap.size wq)
  go_wp2
  go_loopw [8, 9] (fun lg i wr => ∃ (k : Nat) (L : Int), k ≤ n ∧ i = .int .i64 k ∧ lg = .int .i64 L ∧ Hid (BigL l q r k L) ∧ Hid (Below wq.heap.size wq wr)) (fun _ i _ => n - (intOf i).toNat)
  case atStart => exact ⟨0, 0, by omega, rfl, rfl, Lib.hid ⟨Int.le_refl _, fun v hv _ => by omega⟩, HBr0⟩
  case round =>
    clear HBr0
    obtain ⟨k, L, hk, rfl, rfl, HG, HBr⟩ := hrel
    have z0 := cell_below HBr.out y0
    have z1 := cell_below HBr.out y1
    have z2 := cell_below HBr.out y2
    by_cases hkn : k < n
    · by_cases hkr : k = r
      · have dr : ((k : Int) != (r : Int)) = false := by simp; omega
        have HGn := Lib.hid (HG.out.skip hkr)
        clear hkr HG
        go_wp2
        go_roundw
        case rel => exact ⟨k + 1, _, by omega, by go_num, rfl, HGn, HBr⟩
        case measure => simp [intOf]; omega
      · have dr : ((k : Int) != (r : Int)) = true := by simp; omega
        obtain ⟨x, hqx, hxl⟩ := HQx.out k hkn hkr
        obtain ⟨qb, qo, rfl, qc⟩ := IntsAt.atE (HQi.out.below HBr.out) (HQk.out k hkn)
        obtain ⟨b, off, rfl, _, _, p3⟩ := StepsAt.at_ (HL.out.below HBr.out) hxl
        have HGn := Lib.hid (HG.out.next hqx hxl)
        rw [hqx] at qc
        generalize l[x].2.2 = c at p3 HGn
        have k0 : (0 : Int) ≤ (k : Int) := by omega
        have k1 : (k : Int) < (q.length : Int) := by have := HQk.out k hkn; omega
        have x0 : (0 : Int) ≤ (x : Int) := by omega
        have x1 : (x : Int) < (l.length : Int) := by omega
        clear hkr HG hqx
        go_upto_region 12 with fail
        refine wp_region_held (S := fun W => W.cell? ⟨w.heap.size, 2, none⟩ = some (.slice (some ⟨b, off, none⟩) l.length ca) ∧ W.cell? ⟨qb, qo + k, none⟩ = some (.int .i64 (x : Int)) ∧ W.cell? ⟨b, off + x * 3 + 2, none⟩ = some (.int .i64 c)) (by kernel_rfl) ?_
        refine wpAnyH_take (i := 0) (v := ?_) rfl (by kernel_rfl) (by kernel_rfl) (by kernel_rfl) (fun _ _ _ h => h) (Or.inl ⟨by rfl, ?_⟩) ⟨z2, qc, p3⟩ ?_
        rotate_left 1
        · intro W hW; obtain ⟨s1, s2, s3⟩ := hW; go_simp <;> with_reducible rfl
        refine wpAnyH_take (i := 1) (v := ?_) rfl (by kernel_rfl) (by kernel_rfl) (by kernel_rfl) (fun _ _ _ h => h) (Or.inl ⟨by rfl, ?_⟩) ⟨z2, qc, p3⟩ ?_
        rotate_left 1
        · intro W hW; obtain ⟨s1, s2, s3⟩ := hW; go_simp <;> with_reducible rfl
        refine wpAnyH_take (i := 2) (v := ?_) rfl (by kernel_rfl) (by kernel_rfl) (by kernel_rfl) (fun _ _ _ h => h) (Or.inl ⟨by rfl, ?_⟩) ⟨z2, qc, p3⟩ ?_
        rotate_left 1
        · intro W hW; obtain ⟨s1, s2, s3⟩ := hW; go_simp <;> with_reducible rfl
        refine wpAnyH_take (i := 3) (v := ?_) rfl (by kernel_rfl) (by kernel_rfl) (by kernel_rfl) (fun _ _ _ h => h) (Or.inl ⟨by rfl, ?_⟩) ⟨z2, qc, p3⟩ ?_
        rotate_left 1
        · intro W hW; obtain ⟨s1, s2, s3⟩ := hW; go_simp <;> with_reducible rfl
        refine wpAnyH_take (i := 4) (v := ?_) rfl (by kernel_rfl) (by kernel_rfl) (by kernel_rfl) (fun _ _ _ h => h) (Or.inl ⟨by rfl, ?_⟩) ⟨z2, qc, p3⟩ ?_
        rotate_left 1
        · intro W hW; obtain ⟨s1, s2, s3⟩ := hW; go_simp <;> with_reducible rfl
        refine wpAnyH_take (i := 5) (v := ?_) rfl (by kernel_rfl) (by kernel_rfl) (by kernel_rfl) (fun _ _ _ h => h) (Or.inl ⟨by rfl, ?_⟩) ⟨z2, qc, p3⟩ ?_
        rotate_left 1
        · intro W hW; obtain ⟨s1, s2, s3⟩ := hW; go_simp <;> with_reducible rfl
        refine wpAnyH_take (i := 6) (v := ?_) rfl (by kernel_rfl) (by kernel_rfl) (by kernel_rfl) (fun _ _ _ h => h) (Or.inl ⟨by rfl, ?_⟩) ⟨z2, qc, p3⟩ ?_
        rotate_left 1
        · intro W hW; obtain ⟨s1, s2, s3⟩ := hW; go_simp <;> with_reducible rfl
        refine wpAnyH_take (i := 7) (v := ?_) rfl (by kernel_rfl) (by kernel_rfl) (by kernel_rfl) (fun _ _ _ h => h) (Or.inl ⟨by rfl, ?_⟩) ⟨z2, qc, p3⟩ ?_
        rotate_left 1
        · intro W hW; obtain ⟨s1, s2, s3⟩ := hW; go_simp <;> with_reducible rfl
        refine wpAnyH_take (i := 8) (v := ?_) rfl (by kernel_rfl) (by kernel_rfl) (by kernel_rfl) (fun _ _ _ h => h) (Or.inl ⟨by rfl, ?_⟩) ⟨z2, qc, p3⟩ ?_
        rotate_left 1
        · intro W hW; obtain ⟨s1, s2, s3⟩ := hW; go_simp <;> with_reducible rfl
        refine wpAnyH_take (i := 9) (v := ?_) rfl (by kernel_rfl) (by kernel_rfl) (by kernel_rfl) (fun _ _ _ h => h) (Or.inl ⟨by rfl, ?_⟩) ⟨z2, qc, p3⟩ ?_
        rotate_left 1
        · intro W hW; obtain ⟨s1, s2, s3⟩ := hW; go_simp <;> with_reducible rfl
        simp only [Act.put, List.setIfInBounds_toArray]
        refine wpAnyH_ready (rs := [10]) (by kernel_rfl) (by simp) ?_
        refine AllReadyH.cons rfl (fun K hK => ?_) AllReadyH.nil
        go_simp
        refine hK.out _ _ ⟨z2, qc, p3⟩ (fun _ => ?_)
        clear hK K
        refine wpAnyH_take (i := 11) (v := ?_) rfl (by kernel_rfl) (by kernel_rfl) (by kernel_rfl) (fun _ _ _ h => h) (Or.inl ⟨by rfl, ?_⟩) ⟨z2, qc, p3⟩ ?_
        rotate_left 1
        · intro W hW; obtain ⟨s1, s2, s3⟩ := hW; go_simp <;> with_reducible rfl
        simp only [Act.put, List.setIfInBounds_toArray]
        refine wpAnyH_done (by kernel_rfl) ?_ _
        go_wp2
        go_roundw
        case rel => exact ⟨k + 1, _, by omega, by go_num, rfl, HGn, by first | exact HBr | exact Lib.hid HBr.out.drew⟩
        case measure => simp [intOf]; omega
    obtain rfl : n = k := by omega
    have HLm := Lib.hid (BigL.most (S := (n : Int)) (R := (r : Int)) (n := n) HM.out HQL.out (by simp) HG.out)
    obtain ⟨w9, hw9⟩ : ∃ x, x = wr := ⟨_, rfl⟩
    subst hw9
    replace HX0 := Lib.hid (blk_below HBr.out HX0.out)
    have HB9 := Lib.hid (below_trans' HB4.out HBr.out)
    clear HG HBr HB4 HQL HQn HQk HQx HQi HL HT y0 y1 y2 z2
    have hlt := blk_lt HX0.out
    have hX := blk_alloc (heap_alloc_new w9 (.cells #[.int .i64 n, .int .i64 r, .slice none 0 0] 24)) (.cells #[.int .i64 n, .int .i64 r, .slice none 0 0] 24)
    have hY : ((w9.alloc (.cells #[.int .i64 n, .int .i64 r, .slice none 0 0] 24)).alloc (.cells #[.int .i64 n, .int .i64 r, .slice none 0 0] 24)).heap[w9.heap.size + 1]? = some (.cells #[.int .i64 n, .int .i64 r, .slice none 0 0] 24) := heap_alloc_at (w9.alloc (.cells #[.int .i64 n, .int .i64 r, .slice none 0 0] 24)) (.cells #[.int .i64 n, .int .i64 r, .slice none 0 0] 24) (World.size_alloc _ _)
    have h0 := blk_alloc (blk_alloc HX0.out (.cells #[.int .i64 n, .int .i64 r, .slice none 0 0] 24)) (.cells #[.int .i64 n, .int .i64 r, .slice none 0 0] 24)
    have hb := below_alloc' (below_alloc' HB9.out (.cells #[.int .i64 n, .int .i64 r, .slice none 0 0] 24)) (.cells #[.int .i64 n, .int .i64 r, .slice none 0 0] 24)
    have hsz : w9.heap.size + 2 ≤ ((w9.alloc (.cells #[.int .i64 n, .int .i64 r, .slice none 0 0] 24)).alloc (.cells #[.int .i64 n, .int .i64 r, .slice none 0 0] 24)).heap.size := by simp
    have z0a := cell_alloc z0 (.cells #[.int .i64 n, .int .i64 r, .slice none 0 0] 24)
    have z1a := cell_alloc z1 (.cells #[.int .i64 n, .int .i64 r, .slice none 0 0] 24)
    go_upto_region 15 with fail
    clear z0 z1 z0a z1a
    generalize (w9.alloc (.cells #[.int .i64 n, .int .i64 r, .slice none 0 0] 24)).alloc (.cells #[.int .i64 n, .int .i64 r, .slice none 0 0] 24) = w10 at *
    clear HX0 HB9
    generalize w9.heap.size = bx at *
    have HX0 := Lib.hid h0
    have HBs := Lib.hid hb
    have HXb := Lib.hid hX
    have HYb := Lib.hid hY
    have HO0 : Hid (w10.ownsRow (bx + 2) 50 3 (.slice none 0 0) ([] : List St).length (([] : List St).flatMap encT)) := Lib.hid (World.ownsRow_nil w10 (bx + 2) 50 3)
    clear h0 hb hX hY
    go_wp2
    go_loopw [12] (fun i wr => ∃ (k : Nat) (sx sy : Value), k ≤ l.length ∧ i = .int .i64 k ∧ Hid (wr.heap[w.heap.size]? = some (.cells #[.int .i64 n, .int .i64 r, .slice A l.length ca] 24 (0, 0))) ∧ Hid (wr.heap[bx]? = some (.cells #[.int .i64 n, .int .i64 r, sx] 24 (0, 0))) ∧ Hid (wr.heap[bx + 1]? = some (.cells #[.int .i64 n, .int .i64 r, sy] 24 (0, 0))) ∧ Hid (wr.ownsRow (bx + 2) 50 3 sx (leF m (l.take k)).length ((leF m (l.take k)).flatMap encT)) ∧ Hid (wr.ownsRow (bx + 2) 50 3 sy (ltF m (l.take k)).length ((ltF m (l.take k)).flatMap encT)) ∧ Hid (sx.ownBlock = none ∨ sx.ownBlock ≠ sy.ownBlock) ∧ Hid (Below w.heap.size w wr) ∧ bx + 2 ≤ wr.heap.size) (fun i _ => l.length - (intOf i).toNat)
    case atStart => exact ⟨0, _, _, by omega, rfl, HX0, HXb, HYb, HO0, HO0, Lib.hid (.inl rfl), HBs, hsz⟩
    case round =>
      clear HX0 HXb HYb HO0 HBs hsz
      obtain ⟨k, sx, sy, hk, rfl, HX0, HXb, HYb, HOx, HOy, HD, HB, hsz⟩ := hrel
      obtain ⟨wz, hwz⟩ : ∃ x, x = wr := ⟨_, rfl⟩
      subst hwz
      have y2 : wz.cell? ⟨w.heap.size, 2, none⟩ = some (.slice A l.length ca) := (blk_cell HX0.out).trans rfl
      by_cases hkn : k < l.length
      · obtain ⟨b, off, rfl, g1, g2, g3⟩ := StepsAt.at_ (HL0.out.below HB.out) hkn
        have k0 : (0 : Int) ≤ (k : Int) := by omega
        have k1 : (k : Int) < (l.length : Int) := by omega
        have HP : Hid (leF m (l.take (k + 1)) = leF m (l.take k) ++ (if decide (l[k].2.2 ≤ m) = true then [l[k]] else [])) := Lib.hid (filt_step hkn)
        have HQ : Hid (ltF m (l.take (k + 1)) = ltF m (l.take k) ++ (if decide (l[k].2.2 < m) = true then [l[k]] else [])) := Lib.hid (filt_step hkn)
        have lx : (leF m (l.take k)).length ≤ 200 := Nat.le_trans (List.length_filter_le _ _) (by rw [List.length_take]; omega)
        have ly : (ltF m (l.take k)).length ≤ 200 := Nat.le_trans (List.length_filter_le _ _) (by rw [List.length_take]; omega)
        obtain ⟨x, hxk⟩ : ∃ x, l[k] = x := ⟨_, rfl⟩
        rw [hxk] at g1 g2 g3 HP HQ
        generalize leF m (l.take k) = T at HP HOx lx
        generalize ltF m (l.take k) = V at HQ HOy ly
        obtain ⟨x1, x2, x3⟩ := x
        dsimp only at g1 g2 g3 HP HQ
        by_cases h1 : x3 ≤ m
        rotate_left 1
        · have d1 : decide (x3 ≤ m) = false := decide_eq_false h1
          have d2 : decide (x3 < m) = false := decide_eq_false (by omega)
          have HPn : Hid (leF m (l.take (k + 1)) = T) := Lib.hid (by rw [HP.out, d1]; simp)
          have HQn : Hid (ltF m (l.take (k + 1)) = V) := Lib.hid (by rw [HQ.out, d2]; simp)
          clear HP HQ h1
          go_wp2
          go_roundw
          case rel => exact ⟨k + 1, sx, sy, by omega, by go_num, HX0, HXb, HYb, by rw [HPn.out]; exact HOx, by rw [HQn.out]; exact HOy, HD, HB, hsz⟩
          case measure => simp [intOf]; omega
        have d1 : decide (x3 ≤ m) = true := decide_eq_true h1
        have HPn : Hid (leF m (l.take (k + 1)) = T ++ [(x1, x2, x3)]) := Lib.hid (by rw [HP.out, d1]; simp)
        clear HP h1
        go_upto_region 19 with fail
        have xs : wz.cell? ⟨bx, 2, none⟩ = some sx := (blk_cell HXb.out).trans rfl
        have xsa := cell_alloc xs (.cells #[.int .i64 x1, .int .i64 x2, .int .i64 x3] 50)
        have y2a := cell_alloc y2 (.cells #[.int .i64 x1, .int .i64 x2, .int .i64 x3] 50)
        have g1a := cell_alloc g1 (.cells #[.int .i64 x1, .int .i64 x2, .int .i64 x3] 50)
        have g2a := cell_alloc g2 (.cells #[.int .i64 x1, .int .i64 x2, .int .i64 x3] 50)
        have g3a := cell_alloc g3 (.cells #[.int .i64 x1, .int .i64 x2, .int .i64 x3] 50)
        go_region_law (refine step_pushL rfl (.tmp 87) (.tmp 93) 22 rfl elemT encT_len oneT Tryd.underlying22 (bx + 2) sx T (by rfl) ((HOx.out.alloc _).drew) (by omega) (x1, x2, x3) wz.heap.size (by rfl) #[.int .i64 x1, .int .i64 x2, .int .i64 x3] rfl 50 (0, 0) (heap_alloc_new wz _) (by simp; omega) ?_; intro g cap w5 hO5 hg5 hat5; have hr5 := own_base HOx.out; have hX5 := blk_grown hg5 (blk_alloc HXb.out (.cells #[.int .i64 x1, .int .i64 x2, .int .i64 x3] 50)) (fun e => by have := hr5 _ e.symm; omega); have e3 : w5.cell? ⟨bx, 2, none⟩ = some sx := (blk_cell hX5).trans rfl; have f3 : w5.frozen? ⟨bx, 2, none⟩ = false := blk_frozen hX5)
        all_goals
          have hS := HOy.out.alloc (.cells #[.int .i64 x1, .int .i64 x2, .int .i64 x3] 50) |>.drew
          have hX6 : (w5.setCell ⟨bx, 2, none⟩ (.slice (some ⟨g, 0, none⟩) (T.length + 1) cap)).heap[bx]? = some (.cells #[.int .i64 n, .int .i64 r, .slice (some ⟨g, 0, none⟩) (T.length + 1) cap] 24 (0, 0)) := blk_set (i := 2) hX5 _
          have hY6 := blk_far (p := ⟨bx, 2, none⟩) (blk_grown hg5 (blk_alloc HYb.out (.cells #[.int .i64 x1, .int .i64 x2, .int .i64 x3] 50)) (fun e => by have := hr5 _ e.symm; omega)) (by dsimp only; omega) (.slice (some ⟨g, 0, none⟩) (T.length + 1) cap)
          have h06 := blk_far (p := ⟨bx, 2, none⟩) (blk_grown hg5 (blk_alloc HX0.out (.cells #[.int .i64 x1, .int .i64 x2, .int .i64 x3] 50)) (fun e => by have := hr5 _ e.symm; omega)) (by dsimp only; omega) (.slice (some ⟨g, 0, none⟩) (T.length + 1) cap)
          have hO6 := ownsRow_setCell_below (a := ⟨bx, 2, none⟩) hO5 (by dsimp only; omega) (.slice (some ⟨g, 0, none⟩) (T.length + 1) cap)
          have hP6 := ownsRow_setCell_below (a := ⟨bx, 2, none⟩) (hS.kept hg5 (ne_sym HD.out)) (by dsimp only; omega) (.slice (some ⟨g, 0, none⟩) (T.length + 1) cap)
          have hD6 := apart_push HD.out hat5 (fun r e => own_lt hS r e)
          have hB5 := (below_alloc' HB.out (.cells #[.int .i64 x1, .int .i64 x2, .int .i64 x3] 50)).drew.grown hg5 (by simp; omega) (fun r e => by have := hr5 r e; omega)
          have hB6 := hB5.setCell (p := ⟨bx, 2, none⟩) (by dsimp only; omega) (.slice (some ⟨g, 0, none⟩) (T.length + 1) cap)
          have hs6 : bx + 2 ≤ (w5.setCell ⟨bx, 2, none⟩ (.slice (some ⟨g, 0, none⟩) (T.length + 1) cap)).heap.size := by have := hg5.size; simp at this; simp; omega
          clear xs xsa y2 y2a g1 g1a g2 g2a g3 g3a HX0 HXb HYb HOx HOy HD HB hsz hS hX5 hO5 hg5 hat5 hr5 e3 f3 hB5
          generalize w5.setCell ⟨bx, 2, none⟩ (.slice (some ⟨g, 0, none⟩) (T.length + 1) cap) = wy at *
          have HX0 := Lib.hid h06
          have HXb := Lib.hid hX6
          have HYb := Lib.hid hY6
          have HOx := Lib.hid hO6
          have HOy := Lib.hid hP6
          have HB := Lib.hid hB6
          have hsz := hs6
          have HD : Hid ((Value.slice (some ⟨g, 0, none⟩) (T.length + 1) cap).ownBlock = none ∨ (Value.slice (some ⟨g, 0, none⟩) (T.length + 1) cap).ownBlock ≠ sy.ownBlock) := Lib.hid (ne_sym hD6)
          clear h06 hX6 hY6 hO6 hP6 hB6 hs6 hD6

          have y2 : wy.cell? ⟨w.heap.size, 2, none⟩ = some (.slice (some ⟨b, off, none⟩) l.length ca) := (blk_cell HX0.out).trans rfl
          obtain ⟨b2, off2, hbb, g1, g2, g3⟩ := StepsAt.at_ (HL0.out.below HB.out) hkn
          cases hbb
          rw [hxk] at g1 g2 g3
          dsimp only at g1 g2 g3
          by_cases h2 : x3 < m
          rotate_left 1
          · have d2 : decide (x3 < m) = false := decide_eq_false h2
            have HQn : Hid (ltF m (l.take (k + 1)) = V) := Lib.hid (by rw [HQ.out, d2]; simp)
            clear HQ h2
            go_wp2
            go_roundw
            case rel => exact ⟨k + 1, _, sy, by omega, by go_num, HX0, HXb, HYb, by rw [HPn.out, len_snoc]; exact HOx, by rw [HQn.out]; exact HOy, HD, HB, hsz⟩
            case measure => simp [intOf]; omega
          have d2 : decide (x3 < m) = true := decide_eq_true h2
          have HQn : Hid (ltF m (l.take (k + 1)) = V ++ [(x1, x2, x3)]) := Lib.hid (by rw [HQ.out, d2]; simp)
          clear HQ h2
          replace HOx := Lib.hid (HOx.out)
          obtain ⟨sx2, hsx2⟩ : ∃ v : Value, v = .slice (some ⟨g, 0, none⟩) (T.length + 1) cap := ⟨_, rfl⟩
          rw [← hsx2] at HXb HOx HD
          clear hsx2

          go_upto_region 21 with fail
          have xs : wy.cell? ⟨bx + 1, 2, none⟩ = some sy := (blk_cell HYb.out).trans rfl
          have xsa := cell_alloc xs (.cells #[.int .i64 x1, .int .i64 x2, .int .i64 x3] 50)
          have y2a := cell_alloc y2 (.cells #[.int .i64 x1, .int .i64 x2, .int .i64 x3] 50)
          have g1a := cell_alloc g1 (.cells #[.int .i64 x1, .int .i64 x2, .int .i64 x3] 50)
          have g2a := cell_alloc g2 (.cells #[.int .i64 x1, .int .i64 x2, .int .i64 x3] 50)
          have g3a := cell_alloc g3 (.cells #[.int .i64 x1, .int .i64 x2, .int .i64 x3] 50)
          go_region_law (refine step_pushL rfl (.tmp 105) (.tmp 111) 22 rfl elemT encT_len oneT Tryd.underlying22 (bx + 2) sy V (by rfl) ((HOy.out.alloc _).drew) (by omega) (x1, x2, x3) wy.heap.size (by rfl) #[.int .i64 x1, .int .i64 x2, .int .i64 x3] rfl 50 (0, 0) (heap_alloc_new wy _) (by simp; omega) ?_; intro g cap w5 hO5 hg5 hat5; have hr5 := own_base HOy.out; have hX5 := blk_grown hg5 (blk_alloc HYb.out (.cells #[.int .i64 x1, .int .i64 x2, .int .i64 x3] 50)) (fun e => by have := hr5 _ e.symm; omega); have e3 : w5.cell? ⟨bx + 1, 2, none⟩ = some sy := (blk_cell hX5).trans rfl; have f3 : w5.frozen? ⟨bx + 1, 2, none⟩ = false := blk_frozen hX5)
          all_goals
            have hS := HOx.out.alloc (.cells #[.int .i64 x1, .int .i64 x2, .int .i64 x3] 50) |>.drew
            have hX6 : (w5.setCell ⟨bx + 1, 2, none⟩ (.slice (some ⟨g, 0, none⟩) (V.length + 1) cap)).heap[bx + 1]? = some (.cells #[.int .i64 n, .int .i64 r, .slice (some ⟨g, 0, none⟩) (V.length + 1) cap] 24 (0, 0)) := blk_set (i := 2) hX5 _
            have hY6 := blk_far (p := ⟨bx + 1, 2, none⟩) (blk_grown hg5 (blk_alloc HXb.out (.cells #[.int .i64 x1, .int .i64 x2, .int .i64 x3] 50)) (fun e => by have := hr5 _ e.symm; omega)) (by dsimp only; omega) (.slice (some ⟨g, 0, none⟩) (V.length + 1) cap)
            have h06 := blk_far (p := ⟨bx + 1, 2, none⟩) (blk_grown hg5 (blk_alloc HX0.out (.cells #[.int .i64 x1, .int .i64 x2, .int .i64 x3] 50)) (fun e => by have := hr5 _ e.symm; omega)) (by dsimp only; omega) (.slice (some ⟨g, 0, none⟩) (V.length + 1) cap)
            have hO6 := ownsRow_setCell_below (a := ⟨bx + 1, 2, none⟩) hO5 (by dsimp only; omega) (.slice (some ⟨g, 0, none⟩) (V.length + 1) cap)
            have hP6 := ownsRow_setCell_below (a := ⟨bx + 1, 2, none⟩) (hS.kept hg5 HD.out) (by dsimp only; omega) (.slice (some ⟨g, 0, none⟩) (V.length + 1) cap)
            have hD6 := apart_push (ne_sym HD.out) hat5 (fun r e => own_lt hS r e)
            have hB5 := (below_alloc' HB.out (.cells #[.int .i64 x1, .int .i64 x2, .int .i64 x3] 50)).drew.grown hg5 (by simp; omega) (fun r e => by have := hr5 r e; omega)
            have hB6 := hB5.setCell (p := ⟨bx + 1, 2, none⟩) (by dsimp only; omega) (.slice (some ⟨g, 0, none⟩) (V.length + 1) cap)
            have hs6 : bx + 2 ≤ (w5.setCell ⟨bx + 1, 2, none⟩ (.slice (some ⟨g, 0, none⟩) (V.length + 1) cap)).heap.size := by have := hg5.size; simp at this; simp; omega
            clear xs xsa y2 y2a g1 g1a g2 g2a g3 g3a HX0 HXb HYb HOx HOy HD HB hsz hS hX5 hO5 hg5 hat5 hr5 e3 f3 hB5
            generalize w5.setCell ⟨bx + 1, 2, none⟩ (.slice (some ⟨g, 0, none⟩) (V.length + 1) cap) = wv at *
            have HX0 := Lib.hid h06
            have HYb := Lib.hid hX6
            have HXb := Lib.hid hY6
            have HOy := Lib.hid hO6
            have HOx := Lib.hid hP6
            have HB := Lib.hid hB6
            have hsz := hs6
            have HD := Lib.hid hD6
            clear h06 hX6 hY6 hO6 hP6 hB6 hs6 hD6

            go_wp2
            go_roundw
            case rel => exact ⟨k + 1, sx2, _, by omega, by go_num, HX0, HXb, HYb, by rw [HPn.out, len_snoc]; exact HOx, by rw [HQn.out, len_snoc]; exact HOy, HD, HB, hsz⟩
            case measure => simp [intOf]; omega
      obtain rfl : k = l.length := by omega
      rw [List.take_length] at HOx HOy
      obtain ⟨Gx, cx, hvx, _⟩ := own_form HOx.out
      obtain ⟨Gy, cy, hvy, _⟩ := own_form HOy.out
      subst hvx
      subst hvy
      have HSx : Hid (StepsAt wz Gx (leF m l)) := Lib.hid (RowsAt.of_own encT_len HOx.out)
      have HSy : Hid (StepsAt wz Gy (ltF m l)) := Lib.hid (RowsAt.of_own encT_len HOy.out)
      have HKx : Hid (BookOk (n : Int) (r : Int) (leF m l)) := Lib.hid (HK.out.filt _)
      have HKy : Hid (BookOk (n : Int) (r : Int) (ltF m l)) := Lib.hid (HK.out.filt _)
      have HFx := Lib.hid (full_le HM.out)
      have HMy := Lib.hid (most_zero HM.out)
      have HM1 : Hid (n = 1 → m = 0) := Lib.hid fun e => most_one HK.out HM.out (by omega)
      have hlx : (leF m l).length ≤ 100000 := by have := HKx.out.many; omega
      have hly : (ltF m l).length ≤ 100000 := by have := HKy.out.many; omega
      have y0 : wz.cell? ⟨w.heap.size, 0, none⟩ = some (.int .i64 n) := (blk_cell HX0.out).trans rfl
      have a0 : wz.cell? ⟨bx, 0, none⟩ = some (.int .i64 n) := (blk_cell HXb.out).trans rfl
      have a1 : wz.cell? ⟨bx, 1, none⟩ = some (.int .i64 r) := (blk_cell HXb.out).trans rfl
      have a2 : wz.cell? ⟨bx, 2, none⟩ = some (.slice Gx (leF m l).length cx) := (blk_cell HXb.out).trans rfl
      have v0 : wz.cell? ⟨bx + 1, 0, none⟩ = some (.int .i64 n) := (blk_cell HYb.out).trans rfl
      have v1 : wz.cell? ⟨bx + 1, 1, none⟩ = some (.int .i64 r) := (blk_cell HYb.out).trans rfl
      have v2 : wz.cell? ⟨bx + 1, 2, none⟩ = some (.slice Gy (ltF m l).length cy) := (blk_cell HYb.out).trans rfl
      clear HOx HOy HXb HYb HX0 HM HK HF HD hk hkn
      generalize leF m l = X at *
      generalize ltF m l = Y at *
      obtain ⟨w11, hw11⟩ : ∃ x, x = wz := ⟨_, rfl⟩
      subst hw11
      have HB11 := Lib.hid HB.out
      clear HB
      have Hc := Lib.hid (lostY (ca := cx) HKx.out HFx.out (HSx.out : StepsAt w11 Gx X) hlx)
      go_wp2_with fail
      refine Hc.out.mono ?_
      rintro e w12 ⟨v, rfl, ⟨Gz, cz, rfl⟩, hb⟩
      have HB12 := Lib.hid (below_trans' HB11.out hb)
      replace HSx := Lib.hid (HSx.out.below hb)
      replace HSy := Lib.hid (HSy.out.below hb)
      replace y0 := cell_below hb y0
      replace y2 := cell_below hb y2
      replace a0 := cell_below hb a0
      replace a1 := cell_below hb a1
      replace a2 := cell_below hb a2
      replace v0 := cell_below hb v0
      replace v1 := cell_below hb v1
      replace v2 := cell_below hb v2
      clear hb Hc HB11
      by_cases hFY : Full (netB (n : Int) (r : Int) Y) (allS (netB (n : Int) (r : Int) Y))
      · have HFY := Lib.hid hFY
        have dm0 : (m == 0) = true := by simpa using HMy.out hFY
        clear hFY
        have Hc := Lib.hid (lostY (ca := cy) HKy.out HFY.out (HSy.out : StepsAt w12 Gy Y) hly)
        go_wp2_with fail
        refine Hc.out.mono ?_
        rintro e w13 ⟨v, rfl, ⟨Gw, cw, rfl⟩, hb⟩
        have HB13 := Lib.hid (below_trans' HB12.out hb)
        replace HSx := Lib.hid (HSx.out.below hb)
        replace HSy := Lib.hid (HSy.out.below hb)
        replace y0 := cell_below hb y0
        replace y2 := cell_below hb y2
        replace a0 := cell_below hb a0
        replace a1 := cell_below hb a1
        replace a2 := cell_below hb a2
        replace v0 := cell_below hb v0
        replace v1 := cell_below hb v1
        replace v2 := cell_below hb v2
        clear hb Hc HB12
        have HT := Lib.hid (HT0.out.below HB13.out)
        by_cases hn1e : n = 1
        · have dn : ((n : Int) == 1) = true := by simp; omega
          go_wp2_with fail
          refine (works_any _ HT.out).mono ?_
          rintro e wz ⟨v, rfl, rfl, hBz⟩
          go_wp2
          go_ret
          exact Ret.mk' rfl ⟨rfl, below_trans' HB13.out hBz⟩
        have dn : ((n : Int) == 1) = false := by simp; omega
        have dL : decide (m ≤ L) = true := by simpa using HLm.out
        have dL' : decide (L ≥ m) = true := by simpa using HLm.out
        go_wp2_with fail
        refine (works_any _ HT.out).mono ?_
        rintro e wz ⟨v, rfl, rfl, hBz⟩
        go_wp2
        go_ret
        exact Ret.mk' rfl ⟨rfl, below_trans' HB13.out hBz⟩
      · have HFY := Lib.hid hFY
        clear hFY
        have Hc := Lib.hid (lostN (ca := cy) HKy.out HFY.out (HSy.out : StepsAt w12 Gy Y) hly)
        go_wp2_with fail
        refine Hc.out.mono ?_
        rintro e w13 ⟨v, rfl, ⟨Gw, cw, rfl, _⟩, hb⟩
        have HB13 := Lib.hid (below_trans' HB12.out hb)
        replace HSx := Lib.hid (HSx.out.below hb)
        replace HSy := Lib.hid (HSy.out.below hb)
        replace y0 := cell_below hb y0
        replace y2 := cell_below hb y2
        replace a0 := cell_below hb a0
        replace a1 := cell_below hb a1
        replace a2 := cell_below hb a2
        replace v0 := cell_below hb v0
        replace v1 := cell_below hb v1
        replace v2 := cell_below hb v2
        clear hb Hc HB12
        have HT := Lib.hid (HT0.out.below HB13.out)
        by_cases hn1e : n = 1
        · have dm0 : (m == 0) = true := by simpa using HM1.out hn1e
          have dn : ((n : Int) == 1) = true := by simp; omega
          go_wp2_with fail
          refine (works_any _ HT.out).mono ?_
          rintro e wz ⟨v, rfl, rfl, hBz⟩
          go_wp2
          go_ret
          exact Ret.mk' rfl ⟨rfl, below_trans' HB13.out hBz⟩
        have dn : ((n : Int) == 1) = false := by simp; omega
        have dL : decide (m ≤ L) = true := by simpa using HLm.out
        have dL' : decide (L ≥ m) = true := by simpa using HLm.out
        by_cases hm0 : m = 0
        · have dm0 : (m == 0) = true := by simpa using hm0
          clear hm0
          go_wp2_with fail
          refine (works_any _ HT.out).mono ?_
          rintro e wz ⟨v, rfl, rfl, hBz⟩
          go_wp2
          go_ret
          exact Ret.mk' rfl ⟨rfl, below_trans' HB13.out hBz⟩
        · have dm0 : (m == 0) = false := by simpa using hm0
          clear hm0
          go_wp2_with fail
          refine (works_any _ HT.out).mono ?_
          rintro e wz ⟨v, rfl, rfl, hBz⟩
          go_wp2
          go_ret
          exact Ret.mk' rfl ⟨rfl, below_trans' HB13.out hBz⟩
end Go.Proofs.YtggcooplhodocaaDoor
