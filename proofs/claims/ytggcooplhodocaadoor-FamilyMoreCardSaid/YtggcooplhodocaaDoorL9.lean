/- FamilyMore: the walk. -/
import Derived.Test.YtggcooplhodocaaDoorL7
import Derived.Test.YtggcooplhodocaaDoorP3
import Derived.Deep.RegionLawGrows
namespace Fam
theorem raiseL_zero (l : List St) (v d : Int) : raiseL l v d 0 = l := by
  apply List.ext_getElem (raiseL_len _ _ _ _)
  intro i h1 h2
  rw [← stAt_eq h1, ← stAt_eq h2, raiseL_at h2, if_neg (by omega)]
theorem raiseL_hit {l : List St} {v d : Int} {k : Nat} (_hk : k < l.length) (e : (stAt l k).2.1 = v) : raiseL l v d (k + 1) = (raiseL l v d k).set k ((stAt l k).1, (stAt l k).2.1, (stAt l k).2.2 + d) := by
  apply List.ext_getElem
  · rw [List.length_set, raiseL_len, raiseL_len]
  · intro i h1 h2
    have hi : i < l.length := by rwa [raiseL_len] at h1
    rw [← stAt_eq h1, raiseL_at hi, List.getElem_set]
    by_cases ik : k = i
    · subst ik; rw [if_pos rfl, if_pos ⟨by omega, e⟩]
    · rw [if_neg ik, ← stAt_eq (l := raiseL l v d k) (by rw [raiseL_len]; exact hi), raiseL_at hi]
      by_cases c : i < k + 1 ∧ (stAt l i).2.1 = v
      · rw [if_pos c, if_pos ⟨by omega, c.2⟩]
      · rw [if_neg c, if_neg (fun h => c ⟨by omega, h.2⟩)]
theorem raiseL_miss {l : List St} {v d : Int} {k : Nat} (_hk : k < l.length) (e : (stAt l k).2.1 ≠ v) : raiseL l v d (k + 1) = raiseL l v d k := by
  apply List.ext_getElem
  · rw [raiseL_len, raiseL_len]
  · intro i h1 h2
    have hi : i < l.length := by rwa [raiseL_len] at h1
    rw [← stAt_eq h1, ← stAt_eq h2, raiseL_at hi, raiseL_at hi]
    by_cases c : i < k ∧ (stAt l i).2.1 = v
    · rw [if_pos c, if_pos ⟨by omega, c.2⟩]
    · rw [if_neg c, if_neg (fun h => c ⟨by
        have : i ≠ k := fun ik => e (by rw [← ik]; exact h.2)
        omega, h.2⟩)]
theorem raiseL_same {l : List St} {v d : Int} {k : Nat} (hk : k < l.length) : (raiseL l v d k)[k]'(by rw [raiseL_len]; exact hk) = l[k] := by
  rw [← stAt_eq (l := raiseL l v d k) (by rw [raiseL_len]; exact hk), raiseL_at hk, if_neg (by omega), stAt_eq hk]
theorem more_best {S R : Int} {l : List St} {N' : Net} (hok : BookOk S R l) (h : Wider (netB S R l) N') {c c' : Int} (hc : Best (netB S R l) c) (hc' : Best N' c') : c' ≤ c := h.best (hok.net.root) hc hc'
theorem raised_of {n r : Nat} {l : List St} (h : BookOk (n : Int) (r : Int) l) (v : Nat) (d : Int) : Raised (netB (n : Int) (r : Int) l) (netB (n : Int) (r : Int) (raiseL l (v : Int) d l.length)) v d := Fam.raised h
theorem best_bound {S R : Int} {l : List St} (hok : BookOk S R l) {c : Int} (hc : Best (netB S R l) c) : 0 ≤ c ∧ c ≤ 16000000 := by
  obtain ⟨⟨T, hT, rfl⟩, _⟩ := hc
  refine ⟨cost_pos hok.net hT, ?_⟩
  have h1 : cost (netB S R l) T ≤ sm (fun _ => (1000000 : Int)) (List.range (netB S R l).n) := sm_le fun v hv => by
    have hv := List.mem_range.1 hv
    unfold costAt
    by_cases e : v = (netB S R l).r
    · rw [if_pos e]; omega
    · rw [if_neg e]
      exact (hok.at_ (hT.to v hv e).1).2.2.2.2
  have h2 : ∀ k : Nat, sm (fun _ => (1000000 : Int)) (List.range k) = 1000000 * k := fun k => by
    induction k with
    | zero => rfl
    | succ k ih => rw [List.range_succ, sm_append, ih]; show _ + (1000000 + 0) = _; omega
  rw [h2] at h1
  have h3 := hok.dim
  have h4 : ((netB S R l).n : Int) ≤ 16 := by show ((S.toNat : Nat) : Int) ≤ 16; omega
  omega
end Fam
namespace Go.Proofs.YtggcooplhodocaaDoor
open Go.RowKit Go.Shelf Go.Maps Fam
theorem own_at {w : World} {base : Nat} {e : TypeId} {size b n c : Nat} {xs : List Value} (h : w.ownsRow base e size (.slice (some ⟨b, 0, none⟩) n c) n xs) : base ≤ b ∧ ∃ cur, w.heap[b]? = some (.cells cur e (0, 0)) := by
  rcases h.2 with ⟨h1, _⟩ | ⟨g, cap, cur, h1, h2, h3, _⟩
  · cases h1
  · cases h1; exact ⟨h2, cur, h3⟩
theorem own_mk0 (w : World) (base : Nat) (hb : base ≤ w.heap.size) (e : TypeId) : (w.alloc (.cells #[] e)).ownsRow base e 3 (.slice (some ⟨w.heap.size, 0, none⟩) 0 0) 0 [] := World.ownsRow_made w #[] 0 hb (Nat.zero_le _) (by simp)
/-- append of whatever many elements to an empty row, at a step of a region that draws -/
theorem step_append_first {ops : Array Oper} {o : Oper} {a : Act} {w : World} {K : Act → World → Prop} {Q : Exit → Act → World → Prop} {E : Prop}
    (hg : o.guard = none) (s x : Operand) (t : TypeId) (hop : o.op = Op.call { callee := Callee.builtin Builtin.append, args := #[s, x], argTypes := #[t, t] })
    (e : TypeId) (i : TypeInfo) (z : Value) (size bytes : Nat) (h1 : Tryd.prog.underlying t = some (.slice e)) (h2 : Tryd.prog.info? e = some i) (h3 : i.zero = some z) (h4 : i.size = size) (h5 : i.bytes = bytes) (h6 : z.cells.size = size) (h7 : 0 < size)
    (g : Nat) (hs : a.eval s = .slice (some ⟨g, 0, none⟩) 0 0) (base : Nat) (hbase : base ≤ w.heap.size) (hown : w.ownsRow base e size (.slice (some ⟨g, 0, none⟩) 0 0) 0 [])
    (A : Option Addr) (m c : Nat) (news : List Value) (hx : a.eval x = .slice A m c) (hA : A = none → m = 0) (hn : news.length = m * size) (hc : ∀ ad, A = some ad → ∀ j u, news[j]? = some u → w.cell? (ad.add j) = some u) (h1c : ∀ u ∈ news, u.oneCell' = true)
    (b1 : m ≤ maxLen) (b2 : m * bytes ≤ 140737488355328)
    (hK : ∀ b' c' w', w'.ownsRow base e size (.slice (some ⟨b', 0, none⟩) m c') m news → w.grownBy w' none → K (a.put o.dst (.slice (some ⟨b', 0, none⟩) m c')) w') :
    if Region.wanted o (yielded ops a.tmps) = true then Oper.wp Tryd.prog o a w K Q else E := by
  by_cases hm : m = 0
  · subst hm
    have hnil : news = [] := List.eq_nil_of_length_eq_zero (by omega)
    subst hnil
    have hw : Region.wanted o (yielded ops a.tmps) = true := by simp [Region.wanted, hg]
    rw [if_pos hw]
    have hrun : (Builtin.append_ #[t, t] o.type #[.slice (some ⟨g, 0, none⟩) 0 0, .slice A 0 c]).run Tryd.prog w = .ok (.slice (some ⟨g, 0, none⟩) 0 0) w := by
      subst h4
      cases A with
      | some ad =>
        have h := run_append_room_cells (P := Tryd.prog) w t o.type e i h1 h2 g 0 0 0 ad 0 c [] (by simp) (by simp) (by simp) (Nat.le_refl _) (by simp) (by simp)
        simpa [World.setCells] using h
      | none =>
        simp [Builtin.append_, run_underlying h1, sizeOf, typeInfo, h2, Builtin.lenOf, Builtin.firstCells, storeCells]
    unfold Oper.wp
    simp [execOp, hop, resolve, invoke, builtin, hs, hx, hrun, Result.andThen]
    exact hK _ _ _ hown (World.grownBy.refl _ _)
  · cases A with
    | none => exact absurd (hA rfl) hm
    | some ad =>
      refine step_append_grows hg s x t hop e i z size bytes h1 h2 h3 h4 h5 h6 h7 (some ⟨g, 0, none⟩) 0 0 [] hs (fun h => by cases h) (by simp) (fun _ _ j u hj => by simp at hj) ad m c news hx hn (hc ad rfl) h1c (by omega) (by omega) (by rw [Nat.zero_add]; exact b2) ?_
      intro v' w' hown' hgrow
      rw [Nat.zero_add, List.nil_append] at hown'
      obtain ⟨b, c', rfl, hb⟩ := hown'.form (by omega)
      exact hK _ _ _ (own_mono hown' hbase) hgrow
theorem wpList_append_first (w : World) {ops : Array Oper} {rest : List Oper} {o : Oper} {a : Act} {Q : Exit → Act → World → Prop}
    (hg : o.guard = none) (s x : Operand) (t : TypeId) (hop : o.op = Op.call { callee := Callee.builtin Builtin.append, args := #[s, x], argTypes := #[t, t] })
    (e : TypeId) (i : TypeInfo) (z : Value) (size bytes : Nat) (h1 : Tryd.prog.underlying t = some (.slice e)) (h2 : Tryd.prog.info? e = some i) (h3 : i.zero = some z) (h4 : i.size = size) (h5 : i.bytes = bytes) (h6 : z.cells.size = size) (h7 : 0 < size)
    (g : Nat) (hs : a.eval s = .slice (some ⟨g, 0, none⟩) 0 0) (base : Nat) (hbase : base ≤ w.heap.size) (hown : w.ownsRow base e size (.slice (some ⟨g, 0, none⟩) 0 0) 0 [])
    (A : Option Addr) (m c : Nat) (news : List Value) (hx : a.eval x = .slice A m c) (hA : A = none → m = 0) (hn : news.length = m * size) (hc : ∀ ad, A = some ad → ∀ j u, news[j]? = some u → w.cell? (ad.add j) = some u) (h1c : ∀ u ∈ news, u.oneCell' = true)
    (b1 : m ≤ maxLen) (b2 : m * bytes ≤ 140737488355328)
    (hK : ∀ b' c' w', w'.ownsRow base e size (.slice (some ⟨b', 0, none⟩) m c') m news → w.grownBy w' none → wpList Tryd.prog ops Q rest (a.put o.dst (.slice (some ⟨b', 0, none⟩) m c')) w') :
    wpList Tryd.prog ops Q (o :: rest) a w := by
  refine wpList_plain hg fun K hK' => ?_
  by_cases hm : m = 0
  · subst hm
    have hnil : news = [] := List.eq_nil_of_length_eq_zero (by omega)
    subst hnil
    have hrun : (Builtin.append_ #[t, t] o.type #[.slice (some ⟨g, 0, none⟩) 0 0, .slice A 0 c]).run Tryd.prog w = .ok (.slice (some ⟨g, 0, none⟩) 0 0) w := by
      subst h4
      cases A with
      | some ad =>
        have h := run_append_room_cells (P := Tryd.prog) w t o.type e i h1 h2 g 0 0 0 ad 0 c [] (by simp) (by simp) (by simp) (Nat.le_refl _) (by simp) (by simp)
        simpa [World.setCells] using h
      | none =>
        simp [Builtin.append_, run_underlying h1, sizeOf, typeInfo, h2, Builtin.lenOf, Builtin.firstCells, storeCells]
    unfold Oper.wp
    simp [execOp, hop, resolve, invoke, builtin, hs, hx, hrun, Result.andThen]
    exact hK' _ _ (hK _ _ _ hown (World.grownBy.refl _ _))
  · cases A with
    | none => exact absurd (hA rfl) hm
    | some ad =>
      obtain ⟨v', w', hrun, r1, r2⟩ := run_append_arg_grows (P := Tryd.prog) w t o.type e i z size bytes h1 h2 h3 h4 h5 h6 h7 ⟨g, 0, none⟩ 0 0 [] (by simp) (fun j u hj => by simp at hj) ad m c news hn (hc ad rfl) (by omega) (by omega) (by rw [Nat.zero_add]; exact b2)
      rw [Nat.zero_add, List.nil_append] at r1
      obtain ⟨b, c', rfl, hb⟩ := r1.form (by omega)
      unfold Oper.wp
      simp [execOp, hop, resolve, invoke, builtin, hs, hx, hrun, Result.andThen]
      exact hK' _ _ (hK _ _ _ (own_mono r1 hbase) r2)
theorem blk3 {w : World} {b : Nat} {a0 a1 a2 x y z : Value} {t : TypeId} (h : w.heap[b]? = some (.cells #[a0, a1, a2] t (0, 0))) : (((w.setCell ⟨b, 0, none⟩ x).setCell ⟨b, 1, none⟩ y).setCell ⟨b, 2, none⟩ z).heap[b]? = some (.cells #[x, y, z] t (0, 0)) :=
  blk_set (i := 2) (blk_set (i := 1) (blk_set (i := 0) h x) y) z
theorem far3 {w : World} {b c : Nat} {o : Obj} (x y z : Value) (hne : c ≠ b) (h : w.heap[c]? = some o) : (((w.setCell ⟨b, 0, none⟩ x).setCell ⟨b, 1, none⟩ y).setCell ⟨b, 2, none⟩ z).heap[c]? = some o :=
  blk_far (p := ⟨b, 2, none⟩) (blk_far (p := ⟨b, 1, none⟩) (blk_far (p := ⟨b, 0, none⟩) h hne x) hne y) hne z
theorem below3 {w0 w : World} {m b : Nat} (x y z : Value) (hb : m ≤ b) (h : Below m w0 w) : Below m w0 (((w.setCell ⟨b, 0, none⟩ x).setCell ⟨b, 1, none⟩ y).setCell ⟨b, 2, none⟩ z) :=
  ((h.setCell (p := ⟨b, 0, none⟩) hb x).setCell (p := ⟨b, 1, none⟩) hb y).setCell (p := ⟨b, 2, none⟩) hb z
theorem enc_small {x : St} {m : Nat} {v : Value} (h : (encT x)[m]? = some v) : m < 3 := by
  have := (List.getElem?_eq_some_iff.1 h).1
  rwa [encT_len] at this
/-- a step of a row has other changes -/
theorem steps_set {w : World} {g o : Nat} {l : List St} (h : StepsAt w (some ⟨g, o, none⟩) l) {j : Nat} (hj : j < l.length) (c : Int) : StepsAt (w.setCell ⟨g, o + j * 3 + 2, none⟩ (.int .i64 c)) (some ⟨g, o, none⟩) (l.set j (l[j].1, l[j].2.1, c)) := fun i hi => by
  have hi' : i < l.length := by rwa [List.length_set] at hi
  obtain ⟨b, off, e, hc⟩ := h i hi'
  cases e
  refine ⟨g, o, rfl, fun m v hv => ?_⟩
  by_cases ij : j = i
  · subst ij
    rw [List.getElem_set_self] at hv
    have hm := enc_small hv
    have hm' : m = 0 ∨ m = 1 ∨ m = 2 := by omega
    rcases hm' with rfl | rfl | rfl
    · rw [World.cell?_setCell_other]
      · exact hc 0 v hv
      · intro e; injection e with e1 e2; omega
    · rw [World.cell?_setCell_other]
      · exact hc 1 v hv
      · intro e; injection e with e1 e2; omega
    · have : v = .int .i64 c := by simpa [encT] using hv.symm
      subst this
      exact World.cell?_setCell_same _ _ _ (hc 2 (.int .i64 l[j].2.2) rfl)
  · rw [List.getElem_set_ne ij] at hv
    have hm := enc_small hv
    rw [World.cell?_setCell_other]
    · exact hc m v hv
    · intro e; injection e with e1 e2
      have : i * 3 + m ≠ j * 3 + 2 := fun k => ij (by omega)
      omega
theorem steps_less {w : World} {g o : Nat} {l : List St} (h : StepsAt w (some ⟨g, o, none⟩) l) {j : Nat} (hj : j < l.length) (c : Int) : StepsAt (w.setCell ⟨g, o + j * 3 + 2, none⟩ (.int .i64 c)) (some ⟨g, o, none⟩) (setCh l j c) := by
  have k := steps_set h hj c
  have e : setCh l j c = l.set j (l[j].1, l[j].2.1, c) := by unfold setCh; rw [stAt_eq hj]
  rw [e]; exact k
theorem steps_raise {w : World} {g o : Nat} {l : List St} {v d : Int} {k : Nat} (h : StepsAt w (some ⟨g, o, none⟩) (raiseL l v d k)) (hk : k < l.length) (e : (stAt l k).2.1 = v) : StepsAt (w.setCell ⟨g, o + k * 3 + 2, none⟩ (.int .i64 ((stAt l k).2.2 + d))) (some ⟨g, o, none⟩) (raiseL l v d (k + 1)) := by
  have hk' : k < (raiseL l v d k).length := by rw [raiseL_len]; exact hk
  have j := steps_set h hk' ((stAt l k).2.2 + d)
  rw [raiseL_same hk] at j
  rw [raiseL_hit hk e, stAt_eq hk]
  rw [stAt_eq hk] at j
  exact j
theorem wider_refl (N : Net) : Wider N N := ⟨rfl, rfl, fun _ hi => ⟨hi, rfl, rfl, Int.le_refl _⟩⟩
theorem ints_same (A B : Option Addr) (ca cb : Nat) (a : List Int) (w : World) (ha : IntsAt w A a) (hb : IntsAt w B a) (hn : a.length ≤ 100000) :
    Calls Tryd.prog 20 #[.slice A a.length ca, .slice B a.length cb] w (Ret fun v w' => v = .bool true ∧ Below w.heap.size w w') := by
  refine (ints_any A B ca cb a a w ha hb hn hn).mono ?_
  rintro e w' ⟨v, rfl, rfl, q, rfl⟩
  exact Ret.mk ⟨by simp, below_drewN (Below.refl _ _) _⟩
theorem grades_same {N N' : Net} {v : Nat} {d : Int} (h : Raised N N' v d) (hr : N.r < N.n) (hv : v < N.n) (hvr : v ≠ N.r) (he : ∃ T, BestT N T) {g k : List Int} (hg : g.length = N.m) (hk : k.length = N.m) (h1 : ∀ i (hi : i < g.length), GradeIs N i g[i]) (h2 : ∀ i (hi : i < k.length), GradeIs N' i k[i]) : k = g := by
  apply List.ext_getElem (hk.trans hg.symm)
  intro i hi1 hi2
  obtain ⟨T, hT⟩ := he
  exact (h2 i hi1).uniq (h.grade hr hv hvr (by omega) (h1 i hi2)) ⟨T, h.bestT hr hv hvr hT⟩
theorem best_tree {N : Net} {c : Int} (h : Best N c) : ∃ T, BestT N T := by
  obtain ⟨⟨T, hT, e⟩, h2⟩ := h
  exact ⟨T, hT, fun U hU => by rw [e]; exact h2 U hU⟩
/-- one of the books that are looked at -/
def BkAt (W : World) (gb ob n r : Nat) (N : Net) (k : Nat) : Prop := ∃ (B : Option Addr) (c : Nat) (lb : List St), W.cell? ⟨gb, ob + k * 3, none⟩ = some (.int .i64 n) ∧ W.cell? ⟨gb, ob + k * 3 + 1, none⟩ = some (.int .i64 r) ∧ W.cell? ⟨gb, ob + k * 3 + 2, none⟩ = some (.slice B lb.length c) ∧ StepsAt W B lb ∧ lb.length ≤ 300 ∧ Wider N (netB (n : Int) (r : Int) lb)
theorem BkAt.below {W W' : World} {gb ob n r : Nat} {N : Net} {k : Nat} (h : BkAt W gb ob n r N k) (hb : Below W.heap.size W W') : BkAt W' gb ob n r N k := by
  obtain ⟨B, c, lb, h0, h1, h2, h3, h4, h5⟩ := h
  exact ⟨B, c, lb, cell_below hb h0, cell_below hb h1, cell_below hb h2, h3.below hb, h4, h5⟩
set_option maxRecDepth 100000 in
set_option maxHeartbeats 8000000 in
theorem familyMore_any (S R : Int) (A : Option Addr) (ca : Nat) (l : List St) (m1 m2 m3 a c d g : Int) (w : World) (hl : StepsAt w A l) (ha : 0 ≤ a ∧ a ≤ 255) (hc : 0 ≤ c ∧ c ≤ 4294967295) (hd : 0 ≤ d ∧ d ≤ 255) (hg : 0 ≤ g ∧ g ≤ 65535) (hn : l.length ≤ 9223372036854775807) (hT : Tab w) :
    Calls Tryd.prog 7 #[vBook S R A l.length ca, .agg #[.int .i64 m1, .int .i64 m2, .int .i64 m3], .int .u8 a, .int .u32 c, .int .u8 d, .int .u16 g] w (Ret fun v w' => v = .bool true ∧ Below w.heap.size w w') := by
  have HL := Lib.hid hl
  have HL0 := Lib.hid hl
  have HT := Lib.hid hT
  have HT0 := Lib.hid hT
  have hnil : A = none → l.length = 0 := fun e => by
    cases l with
    | nil => rfl
    | cons x r => obtain ⟨b, o, h, _⟩ := hl 0 (by simp); rw [e] at h; cases h
  have HNIL := Lib.hid hnil
  clear hl hT hnil
  obtain ⟨a, rfl⟩ := Int.eq_ofNat_of_zero_le ha.1
  obtain ⟨d, rfl⟩ := Int.eq_ofNat_of_zero_le hd.1
  unfold vBook
  obtain ⟨w1, hw1⟩ : ∃ w1, w1 = (w.alloc (.cells #[.int .i64 S, .int .i64 R, .slice A l.length ca] 24)).alloc (.cells #[.int .i64 m1, .int .i64 m2, .int .i64 m3] 50) := ⟨_, rfl⟩
  have HB1 : Hid (Below w.heap.size w w1) := Lib.hid (by rw [hw1]; exact below_alloc' (below_alloc' (Below.refl _ _) _) _)
  have HX0 : Hid (w1.heap[w.heap.size]? = some (.cells #[.int .i64 S, .int .i64 R, .slice A l.length ca] 24 (0, 0))) := Lib.hid (by rw [hw1]; exact blk_alloc (heap_alloc_new _ _) _)
  have HXs : Hid (w1.heap[w.heap.size + 1]? = some (.cells #[.int .i64 m1, .int .i64 m2, .int .i64 m3] 50 (0, 0))) := Lib.hid (by rw [hw1]; exact heap_alloc_at _ _ (by simp))
  have y0 : w1.cell? ⟨w.heap.size, 0, none⟩ = some (.int .i64 S) := (blk_cell HX0.out).trans rfl
  have y1 : w1.cell? ⟨w.heap.size, 1, none⟩ = some (.int .i64 R) := (blk_cell HX0.out).trans rfl
  have y2 : w1.cell? ⟨w.heap.size, 2, none⟩ = some (.slice A l.length ca) := (blk_cell HX0.out).trans rfl
  have z0 : w1.cell? ⟨w.heap.size + 1, 0, none⟩ = some (.int .i64 m1) := (blk_cell HXs.out).trans rfl
  have z1 : w1.cell? ⟨w.heap.size + 1, 1, none⟩ = some (.int .i64 m2) := (blk_cell HXs.out).trans rfl
  have z2 : w1.cell? ⟨w.heap.size + 1, 2, none⟩ = some (.int .i64 m3) := (blk_cell HXs.out).trans rfl
  replace HL := Lib.hid (HL.out.below HB1.out)
  replace HT := Lib.hid (HT.out.below HB1.out)
  go_enter Tryd.func7, Tryd.ntmps7
  go_upto_region 1 with fail
  rw [← hw1]
  clear hw1
  have Hc := Lib.hid (fine_any S R A ca l w1 HL.out hn)
  go_wp2_with fail
  refine Hc.out.mono ?_
  rintro e w2 ⟨v, rfl, ⟨bf, rfl, hfb⟩, hb⟩
  have HB2 := Lib.hid (below_trans' HB1.out hb)
  replace HL := Lib.hid (HL.out.below hb)
  replace HT := Lib.hid (HT.out.below hb)
  replace y0 := cell_below hb y0
  replace y1 := cell_below hb y1
  replace y2 := cell_below hb y2
  replace z0 := cell_below hb z0
  replace z1 := cell_below hb z1
  replace z2 := cell_below hb z2
  replace HX0 := Lib.hid (blk_below hb HX0.out)
  replace HXs := Lib.hid (blk_below hb HXs.out)
  clear hb Hc HB1
  cases bf
  · go_wp2_with fail
    refine (works_any _ HT.out).mono ?_
    rintro e wz ⟨v, rfl, rfl, hBz⟩
    go_wp2
    go_ret
    exact Ret.mk' rfl ⟨rfl, below_trans' HB2.out hBz⟩
  obtain ⟨hk, hf⟩ := hfb.1 rfl
  have HK := Lib.hid hk
  have HF := Lib.hid hf
  have hn1 : l.length ≤ 100000 := by have := hk.many; omega
  have hs16 : S ≤ 16 := by have := hk.dim; omega
  clear hfb hk hf
  have hdim := HK.out.dim
  have hroot := HK.out.root
  obtain ⟨n, rfl⟩ := Int.eq_ofNat_of_zero_le (by omega : 0 ≤ S)
  obtain ⟨r, rfl⟩ := Int.eq_ofNat_of_zero_le hroot.1
  have hrn : r < n := by omega
  have hm200 := HK.out.many
  clear hroot hdim
  have Hc := Lib.hid (cheapY (ca := ca) HK.out HF.out (HL.out : StepsAt w2 A l) hn1)
  go_wp2_with fail
  refine Hc.out.mono ?_
  rintro e w3 ⟨v, rfl, ⟨t1, G1, c1, bc, rfl, _, _, _, _, hbc⟩, hb⟩
  have HB3 := Lib.hid (below_trans' HB2.out hb)
  replace HL := Lib.hid (HL.out.below hb)
  replace HT := Lib.hid (HT.out.below hb)
  replace y0 := cell_below hb y0
  replace y1 := cell_below hb y1
  replace y2 := cell_below hb y2
  replace z0 := cell_below hb z0
  replace z1 := cell_below hb z1
  replace z2 := cell_below hb z2
  replace HX0 := Lib.hid (blk_below hb HX0.out)
  replace HXs := Lib.hid (blk_below hb HXs.out)
  clear hb Hc HB2
  have HBc := Lib.hid hbc
  clear hbc
  have Hc := Lib.hid (mostY (ca := ca) HK.out HF.out (HL.out : StepsAt w3 A l) hn1)
  go_wp2_with fail
  refine Hc.out.mono ?_
  rintro e w4 ⟨v, rfl, ⟨m, rfl, hm⟩, hb⟩
  have HB4 := Lib.hid (below_trans' HB3.out hb)
  replace HL := Lib.hid (HL.out.below hb)
  replace HT := Lib.hid (HT.out.below hb)
  replace y0 := cell_below hb y0
  replace y1 := cell_below hb y1
  replace y2 := cell_below hb y2
  replace z0 := cell_below hb z0
  replace z1 := cell_below hb z1
  replace z2 := cell_below hb z2
  replace HX0 := Lib.hid (blk_below hb HX0.out)
  replace HXs := Lib.hid (blk_below hb HXs.out)
  clear hb Hc HB3
  have HM := Lib.hid hm
  clear hm
  have hlt0 := blk_lt HXs.out
  have HSF : Hid (∀ W, Below w4.heap.size w4 W → W.cell? ⟨w.heap.size, 0, none⟩ = some (.int .i64 n) ∧ W.cell? ⟨w.heap.size, 1, none⟩ = some (.int .i64 r) ∧ W.cell? ⟨w.heap.size, 2, none⟩ = some (.slice A l.length ca)) := Lib.hid fun W h => ⟨cell_below h y0, cell_below h y1, cell_below h y2⟩
  have HBv : Hid (Below w4.heap.size w4 w4.drew) := Lib.hid ((Below.refl _ _).drew)
  go_upto_region 7 with fail
  clear y0 y1 y2 z0 z1 z2
  refine wp_region_held_drew (S := fun W => W.cell? ⟨w.heap.size, 0, none⟩ = some (.int .i64 n) ∧ W.cell? ⟨w.heap.size, 1, none⟩ = some (.int .i64 r) ∧ W.cell? ⟨w.heap.size, 2, none⟩ = some (.slice A l.length ca)) (by kernel_rfl) (HSF.out _ HBv.out) (fun hS9 => ?_)
  clear hS9
  refine wpAnyH_take (i := 0) (v := ?_) rfl (by kernel_rfl) (by kernel_rfl) (by kernel_rfl) (fun _ _ _ h => h) (Or.inl ⟨by rfl, ?_⟩) (HSF.out _ HBv.out) ?_
  rotate_left 1
  · intro W hW; obtain ⟨s0, s1, s2⟩ := hW; go_simp <;> with_reducible rfl
  refine wpAnyH_take (i := 1) (v := ?_) rfl (by kernel_rfl) (by kernel_rfl) (by kernel_rfl) (fun _ _ _ h => h) (Or.inl ⟨by rfl, ?_⟩) (HSF.out _ HBv.out) ?_
  rotate_left 1
  · intro W hW; obtain ⟨s0, s1, s2⟩ := hW; go_simp <;> with_reducible rfl
  refine wpAnyH_take (i := 2) (v := ?_) rfl (by kernel_rfl) (by kernel_rfl) (by kernel_rfl) (fun _ _ _ h => h) (Or.inl ⟨by rfl, ?_⟩) (HSF.out _ HBv.out) ?_
  rotate_left 1
  · intro W hW; obtain ⟨s0, s1, s2⟩ := hW; go_simp <;> with_reducible rfl
  simp only [Act.put, List.setIfInBounds_toArray]
  generalize w4.drew = V0 at *
  apply joinDag
  · intro F
    refine wpAnyH_ready (rs := [3, 4, 5]) (by kernel_rfl) (by simp) ?_
    refine AllReadyH.cons rfl (fun K hK => ?_) (AllReadyH.cons rfl (fun K hK => ?_) (AllReadyH.cons rfl (fun K hK => ?_) AllReadyH.nil))
    · go_simp
      have hal : Below V0.heap.size V0 (V0.alloc (.cells #[.int .i64 0, .int .i64 0, .slice none 0 0] 24)) := below_alloc' (Below.refl _ _) _
      have hnb := heap_alloc_new V0 (.cells #[.int .i64 0, .int .i64 0, .slice none 0 0] 24)
      have hbx := HBv.out.size
      replace HBv := Lib.hid (below_trans' HBv.out hal)
      refine hK.out _ _ (HSF.out _ HBv.out) (fun hS9 => ?_)
      clear hS9 hK K hal
      generalize V0.alloc (.cells #[.int .i64 0, .int .i64 0, .slice none 0 0] 24) = V1 at *
      generalize V0.heap.size = bx at *
      have HZx := Lib.hid hnb
      clear hnb
      refine wpAnyH_ready (rs := [4, 5]) (by kernel_rfl) (by simp) ?_
      refine AllReadyH.cons rfl (fun K hK => ?_) (AllReadyH.cons rfl (fun K hK => ?_) AllReadyH.nil)
      · go_simp
        have hal : Below V1.heap.size V1 (V1.alloc (.cells #[.int .i64 0, .int .i64 0, .slice none 0 0] 24)) := below_alloc' (Below.refl _ _) _
        have hnb := heap_alloc_new V1 (.cells #[.int .i64 0, .int .i64 0, .slice none 0 0] 24)
        have hby := HBv.out.size
        have hxy : bx ≠ V1.heap.size := Nat.ne_of_lt (blk_lt HZx.out)
        replace HZx := Lib.hid (blk_below hal HZx.out)
        replace HBv := Lib.hid (below_trans' HBv.out hal)
        refine hK.out _ _ (HSF.out _ HBv.out) (fun hS9 => ?_)
        clear hS9 hK K hal
        generalize V1.alloc (.cells #[.int .i64 0, .int .i64 0, .slice none 0 0] 24) = V2 at *
        generalize V1.heap.size = by_ at *
        have HZy := Lib.hid hnb
        clear hnb
        refine wpAnyH_ready (rs := [5]) (by kernel_rfl) (by simp) ?_
        refine AllReadyH.cons rfl (fun K hK => ?_) AllReadyH.nil
        go_simp
        have hal : Below V2.heap.size V2 (V2.alloc (.cells #[.int .i64 0, .int .i64 0, .slice none 0 0] 24)) := below_alloc' (Below.refl _ _) _
        have hnb := heap_alloc_new V2 (.cells #[.int .i64 0, .int .i64 0, .slice none 0 0] 24)
        have hbz := HBv.out.size
        have hxz : bx ≠ V2.heap.size := Nat.ne_of_lt (blk_lt HZx.out)
        replace HZx := Lib.hid (blk_below hal HZx.out)
        have hyz : by_ ≠ V2.heap.size := Nat.ne_of_lt (blk_lt HZy.out)
        replace HZy := Lib.hid (blk_below hal HZy.out)
        replace HBv := Lib.hid (below_trans' HBv.out hal)
        refine hK.out _ _ (HSF.out _ HBv.out) (fun hS9 => ?_)
        clear hS9 hK K hal
        generalize V2.alloc (.cells #[.int .i64 0, .int .i64 0, .slice none 0 0] 24) = V3 at *
        generalize V2.heap.size = bz at *
        have HZz := Lib.hid hnb
        clear hnb
        revert hbz
        revert hby
        revert hbx
        revert hyz
        revert hxz
        revert hxy
        revert HBv
        revert HZz
        revert HZy
        revert HZx
        revert V3
        revert bz
        revert by_
        revert bx
        exact F.out
      · go_simp
        have hal : Below V1.heap.size V1 (V1.alloc (.cells #[.int .i64 0, .int .i64 0, .slice none 0 0] 24)) := below_alloc' (Below.refl _ _) _
        have hnb := heap_alloc_new V1 (.cells #[.int .i64 0, .int .i64 0, .slice none 0 0] 24)
        have hbz := HBv.out.size
        have hxz : bx ≠ V1.heap.size := Nat.ne_of_lt (blk_lt HZx.out)
        replace HZx := Lib.hid (blk_below hal HZx.out)
        replace HBv := Lib.hid (below_trans' HBv.out hal)
        refine hK.out _ _ (HSF.out _ HBv.out) (fun hS9 => ?_)
        clear hS9 hK K hal
        generalize V1.alloc (.cells #[.int .i64 0, .int .i64 0, .slice none 0 0] 24) = V2 at *
        generalize V1.heap.size = bz at *
        have HZz := Lib.hid hnb
        clear hnb
        refine wpAnyH_ready (rs := [4]) (by kernel_rfl) (by simp) ?_
        refine AllReadyH.cons rfl (fun K hK => ?_) AllReadyH.nil
        go_simp
        have hal : Below V2.heap.size V2 (V2.alloc (.cells #[.int .i64 0, .int .i64 0, .slice none 0 0] 24)) := below_alloc' (Below.refl _ _) _
        have hnb := heap_alloc_new V2 (.cells #[.int .i64 0, .int .i64 0, .slice none 0 0] 24)
        have hby := HBv.out.size
        have hxy : bx ≠ V2.heap.size := Nat.ne_of_lt (blk_lt HZx.out)
        replace HZx := Lib.hid (blk_below hal HZx.out)
        have hyz : V2.heap.size ≠ bz := (Nat.ne_of_lt (blk_lt HZz.out)).symm
        replace HZz := Lib.hid (blk_below hal HZz.out)
        replace HBv := Lib.hid (below_trans' HBv.out hal)
        refine hK.out _ _ (HSF.out _ HBv.out) (fun hS9 => ?_)
        clear hS9 hK K hal
        generalize V2.alloc (.cells #[.int .i64 0, .int .i64 0, .slice none 0 0] 24) = V3 at *
        generalize V2.heap.size = by_ at *
        have HZy := Lib.hid hnb
        clear hnb
        exact F.out bx by_ bz V3 HZx HZy HZz HBv hxy hxz hyz hbx hby hbz
    · go_simp
      have hal : Below V0.heap.size V0 (V0.alloc (.cells #[.int .i64 0, .int .i64 0, .slice none 0 0] 24)) := below_alloc' (Below.refl _ _) _
      have hnb := heap_alloc_new V0 (.cells #[.int .i64 0, .int .i64 0, .slice none 0 0] 24)
      have hby := HBv.out.size
      replace HBv := Lib.hid (below_trans' HBv.out hal)
      refine hK.out _ _ (HSF.out _ HBv.out) (fun hS9 => ?_)
      clear hS9 hK K hal
      generalize V0.alloc (.cells #[.int .i64 0, .int .i64 0, .slice none 0 0] 24) = V1 at *
      generalize V0.heap.size = by_ at *
      have HZy := Lib.hid hnb
      clear hnb
      refine wpAnyH_ready (rs := [3, 5]) (by kernel_rfl) (by simp) ?_
      refine AllReadyH.cons rfl (fun K hK => ?_) (AllReadyH.cons rfl (fun K hK => ?_) AllReadyH.nil)
      · go_simp
        have hal : Below V1.heap.size V1 (V1.alloc (.cells #[.int .i64 0, .int .i64 0, .slice none 0 0] 24)) := below_alloc' (Below.refl _ _) _
        have hnb := heap_alloc_new V1 (.cells #[.int .i64 0, .int .i64 0, .slice none 0 0] 24)
        have hbx := HBv.out.size
        have hxy : V1.heap.size ≠ by_ := (Nat.ne_of_lt (blk_lt HZy.out)).symm
        replace HZy := Lib.hid (blk_below hal HZy.out)
        replace HBv := Lib.hid (below_trans' HBv.out hal)
        refine hK.out _ _ (HSF.out _ HBv.out) (fun hS9 => ?_)
        clear hS9 hK K hal
        generalize V1.alloc (.cells #[.int .i64 0, .int .i64 0, .slice none 0 0] 24) = V2 at *
        generalize V1.heap.size = bx at *
        have HZx := Lib.hid hnb
        clear hnb
        refine wpAnyH_ready (rs := [5]) (by kernel_rfl) (by simp) ?_
        refine AllReadyH.cons rfl (fun K hK => ?_) AllReadyH.nil
        go_simp
        have hal : Below V2.heap.size V2 (V2.alloc (.cells #[.int .i64 0, .int .i64 0, .slice none 0 0] 24)) := below_alloc' (Below.refl _ _) _
        have hnb := heap_alloc_new V2 (.cells #[.int .i64 0, .int .i64 0, .slice none 0 0] 24)
        have hbz := HBv.out.size
        have hyz : by_ ≠ V2.heap.size := Nat.ne_of_lt (blk_lt HZy.out)
        replace HZy := Lib.hid (blk_below hal HZy.out)
        have hxz : bx ≠ V2.heap.size := Nat.ne_of_lt (blk_lt HZx.out)
        replace HZx := Lib.hid (blk_below hal HZx.out)
        replace HBv := Lib.hid (below_trans' HBv.out hal)
        refine hK.out _ _ (HSF.out _ HBv.out) (fun hS9 => ?_)
        clear hS9 hK K hal
        generalize V2.alloc (.cells #[.int .i64 0, .int .i64 0, .slice none 0 0] 24) = V3 at *
        generalize V2.heap.size = bz at *
        have HZz := Lib.hid hnb
        clear hnb
        exact F.out bx by_ bz V3 HZx HZy HZz HBv hxy hxz hyz hbx hby hbz
      · go_simp
        have hal : Below V1.heap.size V1 (V1.alloc (.cells #[.int .i64 0, .int .i64 0, .slice none 0 0] 24)) := below_alloc' (Below.refl _ _) _
        have hnb := heap_alloc_new V1 (.cells #[.int .i64 0, .int .i64 0, .slice none 0 0] 24)
        have hbz := HBv.out.size
        have hyz : by_ ≠ V1.heap.size := Nat.ne_of_lt (blk_lt HZy.out)
        replace HZy := Lib.hid (blk_below hal HZy.out)
        replace HBv := Lib.hid (below_trans' HBv.out hal)
        refine hK.out _ _ (HSF.out _ HBv.out) (fun hS9 => ?_)
        clear hS9 hK K hal
        generalize V1.alloc (.cells #[.int .i64 0, .int .i64 0, .slice none 0 0] 24) = V2 at *
        generalize V1.heap.size = bz at *
        have HZz := Lib.hid hnb
        clear hnb
        refine wpAnyH_ready (rs := [3]) (by kernel_rfl) (by simp) ?_
        refine AllReadyH.cons rfl (fun K hK => ?_) AllReadyH.nil
        go_simp
        have hal : Below V2.heap.size V2 (V2.alloc (.cells #[.int .i64 0, .int .i64 0, .slice none 0 0] 24)) := below_alloc' (Below.refl _ _) _
        have hnb := heap_alloc_new V2 (.cells #[.int .i64 0, .int .i64 0, .slice none 0 0] 24)
        have hbx := HBv.out.size
        have hxy : V2.heap.size ≠ by_ := (Nat.ne_of_lt (blk_lt HZy.out)).symm
        replace HZy := Lib.hid (blk_below hal HZy.out)
        have hxz : V2.heap.size ≠ bz := (Nat.ne_of_lt (blk_lt HZz.out)).symm
        replace HZz := Lib.hid (blk_below hal HZz.out)
        replace HBv := Lib.hid (below_trans' HBv.out hal)
        refine hK.out _ _ (HSF.out _ HBv.out) (fun hS9 => ?_)
        clear hS9 hK K hal
        generalize V2.alloc (.cells #[.int .i64 0, .int .i64 0, .slice none 0 0] 24) = V3 at *
        generalize V2.heap.size = bx at *
        have HZx := Lib.hid hnb
        clear hnb
        exact F.out bx by_ bz V3 HZx HZy HZz HBv hxy hxz hyz hbx hby hbz
    · go_simp
      have hal : Below V0.heap.size V0 (V0.alloc (.cells #[.int .i64 0, .int .i64 0, .slice none 0 0] 24)) := below_alloc' (Below.refl _ _) _
      have hnb := heap_alloc_new V0 (.cells #[.int .i64 0, .int .i64 0, .slice none 0 0] 24)
      have hbz := HBv.out.size
      replace HBv := Lib.hid (below_trans' HBv.out hal)
      refine hK.out _ _ (HSF.out _ HBv.out) (fun hS9 => ?_)
      clear hS9 hK K hal
      generalize V0.alloc (.cells #[.int .i64 0, .int .i64 0, .slice none 0 0] 24) = V1 at *
      generalize V0.heap.size = bz at *
      have HZz := Lib.hid hnb
      clear hnb
      refine wpAnyH_ready (rs := [3, 4]) (by kernel_rfl) (by simp) ?_
      refine AllReadyH.cons rfl (fun K hK => ?_) (AllReadyH.cons rfl (fun K hK => ?_) AllReadyH.nil)
      · go_simp
        have hal : Below V1.heap.size V1 (V1.alloc (.cells #[.int .i64 0, .int .i64 0, .slice none 0 0] 24)) := below_alloc' (Below.refl _ _) _
        have hnb := heap_alloc_new V1 (.cells #[.int .i64 0, .int .i64 0, .slice none 0 0] 24)
        have hbx := HBv.out.size
        have hxz : V1.heap.size ≠ bz := (Nat.ne_of_lt (blk_lt HZz.out)).symm
        replace HZz := Lib.hid (blk_below hal HZz.out)
        replace HBv := Lib.hid (below_trans' HBv.out hal)
        refine hK.out _ _ (HSF.out _ HBv.out) (fun hS9 => ?_)
        clear hS9 hK K hal
        generalize V1.alloc (.cells #[.int .i64 0, .int .i64 0, .slice none 0 0] 24) = V2 at *
        generalize V1.heap.size = bx at *
        have HZx := Lib.hid hnb
        clear hnb
        refine wpAnyH_ready (rs := [4]) (by kernel_rfl) (by simp) ?_
        refine AllReadyH.cons rfl (fun K hK => ?_) AllReadyH.nil
        go_simp
        have hal : Below V2.heap.size V2 (V2.alloc (.cells #[.int .i64 0, .int .i64 0, .slice none 0 0] 24)) := below_alloc' (Below.refl _ _) _
        have hnb := heap_alloc_new V2 (.cells #[.int .i64 0, .int .i64 0, .slice none 0 0] 24)
        have hby := HBv.out.size
        have hyz : V2.heap.size ≠ bz := (Nat.ne_of_lt (blk_lt HZz.out)).symm
        replace HZz := Lib.hid (blk_below hal HZz.out)
        have hxy : bx ≠ V2.heap.size := Nat.ne_of_lt (blk_lt HZx.out)
        replace HZx := Lib.hid (blk_below hal HZx.out)
        replace HBv := Lib.hid (below_trans' HBv.out hal)
        refine hK.out _ _ (HSF.out _ HBv.out) (fun hS9 => ?_)
        clear hS9 hK K hal
        generalize V2.alloc (.cells #[.int .i64 0, .int .i64 0, .slice none 0 0] 24) = V3 at *
        generalize V2.heap.size = by_ at *
        have HZy := Lib.hid hnb
        clear hnb
        exact F.out bx by_ bz V3 HZx HZy HZz HBv hxy hxz hyz hbx hby hbz
      · go_simp
        have hal : Below V1.heap.size V1 (V1.alloc (.cells #[.int .i64 0, .int .i64 0, .slice none 0 0] 24)) := below_alloc' (Below.refl _ _) _
        have hnb := heap_alloc_new V1 (.cells #[.int .i64 0, .int .i64 0, .slice none 0 0] 24)
        have hby := HBv.out.size
        have hyz : V1.heap.size ≠ bz := (Nat.ne_of_lt (blk_lt HZz.out)).symm
        replace HZz := Lib.hid (blk_below hal HZz.out)
        replace HBv := Lib.hid (below_trans' HBv.out hal)
        refine hK.out _ _ (HSF.out _ HBv.out) (fun hS9 => ?_)
        clear hS9 hK K hal
        generalize V1.alloc (.cells #[.int .i64 0, .int .i64 0, .slice none 0 0] 24) = V2 at *
        generalize V1.heap.size = by_ at *
        have HZy := Lib.hid hnb
        clear hnb
        refine wpAnyH_ready (rs := [3]) (by kernel_rfl) (by simp) ?_
        refine AllReadyH.cons rfl (fun K hK => ?_) AllReadyH.nil
        go_simp
        have hal : Below V2.heap.size V2 (V2.alloc (.cells #[.int .i64 0, .int .i64 0, .slice none 0 0] 24)) := below_alloc' (Below.refl _ _) _
        have hnb := heap_alloc_new V2 (.cells #[.int .i64 0, .int .i64 0, .slice none 0 0] 24)
        have hbx := HBv.out.size
        have hxz : V2.heap.size ≠ bz := (Nat.ne_of_lt (blk_lt HZz.out)).symm
        replace HZz := Lib.hid (blk_below hal HZz.out)
        have hxy : V2.heap.size ≠ by_ := (Nat.ne_of_lt (blk_lt HZy.out)).symm
        replace HZy := Lib.hid (blk_below hal HZy.out)
        replace HBv := Lib.hid (below_trans' HBv.out hal)
        refine hK.out _ _ (HSF.out _ HBv.out) (fun hS9 => ?_)
        clear hS9 hK K hal
        generalize V2.alloc (.cells #[.int .i64 0, .int .i64 0, .slice none 0 0] 24) = V3 at *
        generalize V2.heap.size = bx at *
        have HZx := Lib.hid hnb
        clear hnb
        exact F.out bx by_ bz V3 HZx HZy HZz HBv hxy hxz hyz hbx hby hbz
  · intro bx by_ bz V HZx HZy HZz HBv hxy hxz hyz hbx hby hbz
    have e0 : V.cell? ⟨bx, 0, none⟩ = some (.int .i64 0) := (blk_cell HZx.out).trans rfl
    have e1 : V.cell? ⟨bx, 1, none⟩ = some (.int .i64 0) := (blk_cell HZx.out).trans rfl
    have e2 : V.cell? ⟨bx, 2, none⟩ = some (.slice none 0 0) := (blk_cell HZx.out).trans rfl
    have f0 := blk_frozen (i := 0) HZx.out
    have f1 := blk_frozen (i := 1) HZx.out
    have f2 := blk_frozen (i := 2) HZx.out
    refine wpAnyH_ready (rs := [6]) (by kernel_rfl) (by simp) ?_
    refine AllReadyH.cons rfl (fun K hK => ?_) AllReadyH.nil
    go_simp
    clear e0 e1 e2 f0 f1 f2
    replace HBv := Lib.hid (below3 (b := bx) (.int .i64 n) (.int .i64 r) (.slice A l.length ca) hbx HBv.out)
    replace HZx := Lib.hid (blk3 (x := .int .i64 n) (y := .int .i64 r) (z := .slice A l.length ca) HZx.out)
    replace HZy := Lib.hid (far3 (b := bx) (.int .i64 n) (.int .i64 r) (.slice A l.length ca) hxy.symm HZy.out)
    replace HZz := Lib.hid (far3 (b := bx) (.int .i64 n) (.int .i64 r) (.slice A l.length ca) hxz.symm HZz.out)
    refine hK.out _ _ (HSF.out _ HBv.out) (fun hS9 => ?_)
    clear hS9 hK K
    generalize ((V.setCell ⟨bx, 0, none⟩ (.int .i64 n)).setCell ⟨bx, 1, none⟩ (.int .i64 r)).setCell ⟨bx, 2, none⟩ (.slice A l.length ca) = Vx at *
    have e0 : Vx.cell? ⟨by_, 0, none⟩ = some (.int .i64 0) := (blk_cell HZy.out).trans rfl
    have e1 : Vx.cell? ⟨by_, 1, none⟩ = some (.int .i64 0) := (blk_cell HZy.out).trans rfl
    have e2 : Vx.cell? ⟨by_, 2, none⟩ = some (.slice none 0 0) := (blk_cell HZy.out).trans rfl
    have f0 := blk_frozen (i := 0) HZy.out
    have f1 := blk_frozen (i := 1) HZy.out
    have f2 := blk_frozen (i := 2) HZy.out
    refine wpAnyH_ready (rs := [7]) (by kernel_rfl) (by simp) ?_
    refine AllReadyH.cons rfl (fun K hK => ?_) AllReadyH.nil
    go_simp
    clear e0 e1 e2 f0 f1 f2
    replace HBv := Lib.hid (below3 (b := by_) (.int .i64 n) (.int .i64 r) (.slice A l.length ca) hby HBv.out)
    replace HZx := Lib.hid (far3 (b := by_) (.int .i64 n) (.int .i64 r) (.slice A l.length ca) hxy HZx.out)
    replace HZy := Lib.hid (blk3 (x := .int .i64 n) (y := .int .i64 r) (z := .slice A l.length ca) HZy.out)
    replace HZz := Lib.hid (far3 (b := by_) (.int .i64 n) (.int .i64 r) (.slice A l.length ca) hyz.symm HZz.out)
    refine hK.out _ _ (HSF.out _ HBv.out) (fun hS9 => ?_)
    clear hS9 hK K
    generalize ((Vx.setCell ⟨by_, 0, none⟩ (.int .i64 n)).setCell ⟨by_, 1, none⟩ (.int .i64 r)).setCell ⟨by_, 2, none⟩ (.slice A l.length ca) = Vy at *
    have e0 : Vy.cell? ⟨bz, 0, none⟩ = some (.int .i64 0) := (blk_cell HZz.out).trans rfl
    have e1 : Vy.cell? ⟨bz, 1, none⟩ = some (.int .i64 0) := (blk_cell HZz.out).trans rfl
    have e2 : Vy.cell? ⟨bz, 2, none⟩ = some (.slice none 0 0) := (blk_cell HZz.out).trans rfl
    have f0 := blk_frozen (i := 0) HZz.out
    have f1 := blk_frozen (i := 1) HZz.out
    have f2 := blk_frozen (i := 2) HZz.out
    refine wpAnyH_ready (rs := [8]) (by kernel_rfl) (by simp) ?_
    refine AllReadyH.cons rfl (fun K hK => ?_) AllReadyH.nil
    go_simp
    clear e0 e1 e2 f0 f1 f2
    replace HBv := Lib.hid (below3 (b := bz) (.int .i64 n) (.int .i64 r) (.slice A l.length ca) hbz HBv.out)
    replace HZx := Lib.hid (far3 (b := bz) (.int .i64 n) (.int .i64 r) (.slice A l.length ca) hxz HZx.out)
    replace HZy := Lib.hid (far3 (b := bz) (.int .i64 n) (.int .i64 r) (.slice A l.length ca) hyz HZy.out)
    replace HZz := Lib.hid (blk3 (x := .int .i64 n) (y := .int .i64 r) (z := .slice A l.length ca) HZz.out)
    refine hK.out _ _ (HSF.out _ HBv.out) (fun hS9 => ?_)
    clear hS9 hK K
    generalize ((Vy.setCell ⟨bz, 0, none⟩ (.int .i64 n)).setCell ⟨bz, 1, none⟩ (.int .i64 r)).setCell ⟨bz, 2, none⟩ (.slice A l.length ca) = Vz at *
    refine wpAnyH_done (by kernel_rfl) ?_ _
    clear HSF
    replace HX0 := Lib.hid (blk_below HBv.out HX0.out)
    replace HXs := Lib.hid (blk_below HBv.out HXs.out)
    replace HL := Lib.hid (HL.out.below HBv.out)
    have HB := Lib.hid (below_trans' HB4.out HBv.out)
    have hx1 : w.heap.size + 2 ≤ bx := by omega
    have hy1 : w.heap.size + 2 ≤ by_ := by omega
    have hz1 : w.heap.size + 2 ≤ bz := by omega
    clear HBv HB4 hbx hby hbz hlt0 HT
    obtain ⟨i0, q0, q1, q2, q3⟩ := info_parts elemT.info
    have HLZ : Hid ((l.flatMap encT).length = l.length * 3) := Lib.hid (flatMap_len encT_len l)
    have hx2 := blk_lt HZx.out
    have hy2 := blk_lt HZy.out
    have hz2 := blk_lt HZz.out
    have HSF : Hid (∀ W, Below Vz.heap.size Vz W → W.cell? ⟨w.heap.size, 2, none⟩ = some (.slice A l.length ca) ∧ W.cell? ⟨w.heap.size + 1, 0, none⟩ = some (.int .i64 m1) ∧ W.cell? ⟨w.heap.size + 1, 1, none⟩ = some (.int .i64 m2) ∧ W.cell? ⟨w.heap.size + 1, 2, none⟩ = some (.int .i64 m3)) := Lib.hid fun W h => ⟨(blk_cell (blk_below h HX0.out)).trans rfl, (blk_cell (blk_below h HXs.out)).trans rfl, (blk_cell (blk_below h HXs.out)).trans rfl, (blk_cell (blk_below h HXs.out)).trans rfl⟩
    have HOL : Hid (∀ W, Below Vz.heap.size Vz W → ∀ ad, A = some ad → ∀ j u, (l.flatMap encT)[j]? = some u → W.cell? (ad.add j) = some u) := Lib.hid fun W hW ad e j u hj => RowsAt.olds encT_len (StepsAt.below HL.out hW) _ e j u hj
    have HBv : Hid (Below Vz.heap.size Vz Vz.drew) := Lib.hid ((Below.refl _ _).drew)
    go_upto_region 8 with fail
    refine wp_region_held_drew (S := fun W => W.cell? ⟨w.heap.size, 2, none⟩ = some (.slice A l.length ca) ∧ W.cell? ⟨w.heap.size + 1, 0, none⟩ = some (.int .i64 m1) ∧ W.cell? ⟨w.heap.size + 1, 1, none⟩ = some (.int .i64 m2) ∧ W.cell? ⟨w.heap.size + 1, 2, none⟩ = some (.int .i64 m3)) (by kernel_rfl) (HSF.out _ HBv.out) (fun hS9 => ?_)
    clear hS9
    refine wpAnyH_take (i := 1) (v := ?_) rfl (by kernel_rfl) (by kernel_rfl) (by kernel_rfl) (fun _ _ _ h => h) (Or.inl ⟨by rfl, ?_⟩) (HSF.out _ HBv.out) ?_
    rotate_left 1
    · intro W hW; obtain ⟨s0, s1, s2, s3⟩ := hW; go_simp <;> with_reducible rfl
    refine wpAnyH_take (i := 2) (v := ?_) rfl (by kernel_rfl) (by kernel_rfl) (by kernel_rfl) (fun _ _ _ h => h) (Or.inl ⟨by rfl, ?_⟩) (HSF.out _ HBv.out) ?_
    rotate_left 1
    · intro W hW; obtain ⟨s0, s1, s2, s3⟩ := hW; go_simp <;> with_reducible rfl
    refine wpAnyH_take (i := 4) (v := ?_) rfl (by kernel_rfl) (by kernel_rfl) (by kernel_rfl) (fun _ _ _ h => h) (Or.inl ⟨by rfl, ?_⟩) (HSF.out _ HBv.out) ?_
    rotate_left 1
    · intro W hW; obtain ⟨s0, s1, s2, s3⟩ := hW; go_simp <;> with_reducible rfl
    simp only [Act.put, List.setIfInBounds_toArray]
    generalize Vz.drew = V0 at *
    apply joinDag
    · intro F
      refine wpAnyH_ready (rs := [0, 5]) (by kernel_rfl) (by simp) ?_
      refine AllReadyH.cons rfl (fun K hK => ?_) (AllReadyH.cons rfl (fun K hK => ?_) AllReadyH.nil)
      · go_simp
        have hal : Below V0.heap.size V0 (V0.alloc (.cells #[] 50)) := below_alloc' (Below.refl _ _) _
        have hbs := HBv.out.size
        have hmk := own_mk0 V0 Vz.heap.size hbs 50
        replace HBv := Lib.hid (below_trans' HBv.out hal)
        refine hK.out _ _ (HSF.out _ HBv.out) (fun hS9 => ?_)
        clear hS9 hK K hal hbs
        generalize V0.alloc (.cells #[] 50) = V1 at *
        generalize V0.heap.size = bM at *
        have HOM := Lib.hid hmk
        clear hmk
        refine wpAnyH_ready (rs := [3, 5]) (by kernel_rfl) (by simp) ?_
        refine AllReadyH.cons rfl (fun K hK => ?_) (AllReadyH.cons rfl (fun K hK => ?_) AllReadyH.nil)
        · refine step_append_first rfl (.tmp 60) (.tmp 62) 22 rfl 50 i0 (.agg #[.int .i64 0, .int .i64 0, .int .i64 0]) 3 24 Tryd.underlying22 q0 q1 q2 q3 rfl (by omega) bM (by rfl) Vz.heap.size HBv.out.size HOM.out A l.length ca (l.flatMap encT) (by rfl) HNIL.out HLZ.out (fun ad e j u hj => HOL.out _ HBv.out ad e j u hj) (oneFlat oneT l) (by simp only [maxLen]; omega) (by omega) ?_
          intro ga c1 V2 hown hgrow
          have hal : Below V1.heap.size V1 V2 := (Below.refl _ _).grown hgrow (Nat.le_refl _) (fun r e => by cases e)
          replace HBv := Lib.hid (below_trans' HBv.out hal)
          have HO1 := Lib.hid hown
          refine hK.out _ _ (HSF.out _ HBv.out) (fun hS9 => ?_)
          clear hS9 hK K hal hown hgrow HOM
          refine wpAnyH_ready (rs := [5]) (by kernel_rfl) (by simp) ?_
          refine AllReadyH.cons rfl (fun K hK => ?_) AllReadyH.nil
          go_simp
          have hal : Below V2.heap.size V2 (V2.alloc (.cells #[.int .i64 m1, .int .i64 m2, .int .i64 m3] 50)) := below_alloc' (Below.refl _ _) _
          have hnb := heap_alloc_new V2 (.cells #[.int .i64 m1, .int .i64 m2, .int .i64 m3] 50)
          replace HBv := Lib.hid (below_trans' HBv.out hal)
          replace HO1 := Lib.hid (HO1.out.alloc (.cells #[.int .i64 m1, .int .i64 m2, .int .i64 m3] 50))
          refine hK.out _ _ (HSF.out _ HBv.out) (fun hS9 => ?_)
          clear hS9 hK K hal
          generalize V2.alloc (.cells #[.int .i64 m1, .int .i64 m2, .int .i64 m3] 50) = V3 at *
          generalize V2.heap.size = bN at *
          have HNW := Lib.hid hnb
          clear hnb
          revert HBv
          revert HNW
          revert HO1
          revert V3
          revert bN
          revert bM
          revert c1
          revert ga
          exact F.out
        · go_simp
          have hal : Below V1.heap.size V1 (V1.alloc (.cells #[.int .i64 m1, .int .i64 m2, .int .i64 m3] 50)) := below_alloc' (Below.refl _ _) _
          have hnb := heap_alloc_new V1 (.cells #[.int .i64 m1, .int .i64 m2, .int .i64 m3] 50)
          replace HBv := Lib.hid (below_trans' HBv.out hal)
          replace HOM := Lib.hid (HOM.out.alloc (.cells #[.int .i64 m1, .int .i64 m2, .int .i64 m3] 50))
          refine hK.out _ _ (HSF.out _ HBv.out) (fun hS9 => ?_)
          clear hS9 hK K hal
          generalize V1.alloc (.cells #[.int .i64 m1, .int .i64 m2, .int .i64 m3] 50) = V2 at *
          generalize V1.heap.size = bN at *
          have HNW := Lib.hid hnb
          clear hnb
          refine wpAnyH_ready (rs := [3]) (by kernel_rfl) (by simp) ?_
          refine AllReadyH.cons rfl (fun K hK => ?_) AllReadyH.nil
          refine step_append_first rfl (.tmp 60) (.tmp 62) 22 rfl 50 i0 (.agg #[.int .i64 0, .int .i64 0, .int .i64 0]) 3 24 Tryd.underlying22 q0 q1 q2 q3 rfl (by omega) bM (by rfl) Vz.heap.size HBv.out.size HOM.out A l.length ca (l.flatMap encT) (by rfl) HNIL.out HLZ.out (fun ad e j u hj => HOL.out _ HBv.out ad e j u hj) (oneFlat oneT l) (by simp only [maxLen]; omega) (by omega) ?_
          intro ga c1 V3 hown hgrow
          have hal : Below V2.heap.size V2 V3 := (Below.refl _ _).grown hgrow (Nat.le_refl _) (fun r e => by cases e)
          replace HBv := Lib.hid (below_trans' HBv.out hal)
          have HO1 := Lib.hid hown
          replace HNW := Lib.hid (blk_below hal HNW.out)
          refine hK.out _ _ (HSF.out _ HBv.out) (fun hS9 => ?_)
          clear hS9 hK K hal hown hgrow HOM
          exact F.out ga c1 bM bN V3 HO1 HNW HBv
      · go_simp
        have hal : Below V0.heap.size V0 (V0.alloc (.cells #[.int .i64 m1, .int .i64 m2, .int .i64 m3] 50)) := below_alloc' (Below.refl _ _) _
        have hnb := heap_alloc_new V0 (.cells #[.int .i64 m1, .int .i64 m2, .int .i64 m3] 50)
        replace HBv := Lib.hid (below_trans' HBv.out hal)
        refine hK.out _ _ (HSF.out _ HBv.out) (fun hS9 => ?_)
        clear hS9 hK K hal
        generalize V0.alloc (.cells #[.int .i64 m1, .int .i64 m2, .int .i64 m3] 50) = V1 at *
        generalize V0.heap.size = bN at *
        have HNW := Lib.hid hnb
        clear hnb
        refine wpAnyH_ready (rs := [0]) (by kernel_rfl) (by simp) ?_
        refine AllReadyH.cons rfl (fun K hK => ?_) AllReadyH.nil
        go_simp
        have hal : Below V1.heap.size V1 (V1.alloc (.cells #[] 50)) := below_alloc' (Below.refl _ _) _
        have hbs := HBv.out.size
        have hmk := own_mk0 V1 Vz.heap.size hbs 50
        replace HBv := Lib.hid (below_trans' HBv.out hal)
        replace HNW := Lib.hid (blk_below hal HNW.out)
        refine hK.out _ _ (HSF.out _ HBv.out) (fun hS9 => ?_)
        clear hS9 hK K hal hbs
        generalize V1.alloc (.cells #[] 50) = V2 at *
        generalize V1.heap.size = bM at *
        have HOM := Lib.hid hmk
        clear hmk
        refine wpAnyH_ready (rs := [3]) (by kernel_rfl) (by simp) ?_
        refine AllReadyH.cons rfl (fun K hK => ?_) AllReadyH.nil
        refine step_append_first rfl (.tmp 60) (.tmp 62) 22 rfl 50 i0 (.agg #[.int .i64 0, .int .i64 0, .int .i64 0]) 3 24 Tryd.underlying22 q0 q1 q2 q3 rfl (by omega) bM (by rfl) Vz.heap.size HBv.out.size HOM.out A l.length ca (l.flatMap encT) (by rfl) HNIL.out HLZ.out (fun ad e j u hj => HOL.out _ HBv.out ad e j u hj) (oneFlat oneT l) (by simp only [maxLen]; omega) (by omega) ?_
        intro ga c1 V3 hown hgrow
        have hal : Below V2.heap.size V2 V3 := (Below.refl _ _).grown hgrow (Nat.le_refl _) (fun r e => by cases e)
        replace HBv := Lib.hid (below_trans' HBv.out hal)
        have HO1 := Lib.hid hown
        replace HNW := Lib.hid (blk_below hal HNW.out)
        refine hK.out _ _ (HSF.out _ HBv.out) (fun hS9 => ?_)
        clear hS9 hK K hal hown hgrow HOM
        exact F.out ga c1 bM bN V3 HO1 HNW HBv
    · intro ga c1 bM bN V HO1 HNW HBv
      have hbs := HBv.out.size
      refine wpAnyH_ready (rs := [6]) (by kernel_rfl) (by simp) ?_
      refine AllReadyH.cons rfl (fun K hK => ?_) AllReadyH.nil
      refine step_push (w := V) rfl (.tmp 63) (.tmp 65) 22 rfl elemT encT_len oneT Tryd.underlying22 Vz.heap.size (.slice (some ⟨ga, 0, none⟩) l.length c1) l (by rfl) HO1.out (by omega) (m1, m2, m3) bN (by rfl) #[.int .i64 m1, .int .i64 m2, .int .i64 m3] rfl 50 (0, 0) HNW.out hbs ?_
      intro gx cx V8 hO8 hg8
      replace HBv := Lib.hid (HBv.out.grown hg8 hbs (fun r e => own_base HO1.out r e))
      obtain ⟨hgx, cur8, hc8⟩ := own_at hO8
      have hgx2 := blk_lt hc8
      refine hK.out _ _ (HSF.out _ HBv.out) (fun hS9 => ?_)
      clear hS9 hK K hg8 HO1 HNW hc8 cur8 hbs
      refine wpAnyH_take (i := 7) (v := ?_) rfl (by kernel_rfl) (by kernel_rfl) (by kernel_rfl) (fun _ _ _ h => h) (Or.inl ⟨by rfl, ?_⟩) (HSF.out _ HBv.out) ?_
      rotate_left 1
      · intro W hW; obtain ⟨s0, s1, s2, s3⟩ := hW; go_simp <;> with_reducible rfl
      simp only [Act.put, List.setIfInBounds_toArray]
      have HRx : Hid (StepsAt V8 (some ⟨gx, 0, none⟩) (l ++ [(m1, m2, m3)])) := Lib.hid (RowsAt.of_own encT_len (by rw [len_snoc]; exact hO8))
      clear hO8
      replace HX0 := Lib.hid (blk_below HBv.out HX0.out)
      replace HXs := Lib.hid (blk_below HBv.out HXs.out)
      replace HZx := Lib.hid (blk_below HBv.out HZx.out)
      replace HZy := Lib.hid (blk_below HBv.out HZy.out)
      replace HZz := Lib.hid (blk_below HBv.out HZz.out)
      replace HB := Lib.hid (below_trans' HB.out HBv.out)
      have e0 : V8.cell? ⟨bx, 2, none⟩ = some (.slice A l.length ca) := (blk_cell HZx.out).trans rfl
      have f0 : V8.frozen? ⟨bx, 2, none⟩ = false := blk_frozen HZx.out
      refine wpAnyH_ready (rs := [8]) (by kernel_rfl) (by simp) ?_
      refine AllReadyH.cons rfl (fun K hK => ?_) AllReadyH.nil
      go_simp
      have hp0 : w.heap.size ≠ bx := by omega
      have hp1 : w.heap.size + 1 ≠ bx := by omega
      have hp2 : gx ≠ bx := by omega
      replace HX0 := Lib.hid (blk_far (p := ⟨bx, 2, none⟩) HX0.out hp0 (.slice (some ⟨gx, 0, none⟩) (l.length + 1) cx))
      replace HXs := Lib.hid (blk_far (p := ⟨bx, 2, none⟩) HXs.out hp1 (.slice (some ⟨gx, 0, none⟩) (l.length + 1) cx))
      replace HZx := Lib.hid (blk_set (i := 2) HZx.out (.slice (some ⟨gx, 0, none⟩) (l.length + 1) cx))
      replace HZy := Lib.hid (blk_far (p := ⟨bx, 2, none⟩) HZy.out hxy.symm (.slice (some ⟨gx, 0, none⟩) (l.length + 1) cx))
      replace HZz := Lib.hid (blk_far (p := ⟨bx, 2, none⟩) HZz.out hxz.symm (.slice (some ⟨gx, 0, none⟩) (l.length + 1) cx))
      replace HRx := Lib.hid (RowsAt.far (p := ⟨bx, 2, none⟩) HRx.out hp2 (.slice (some ⟨gx, 0, none⟩) (l.length + 1) cx))
      replace HB := Lib.hid (HB.out.setCell (p := ⟨bx, 2, none⟩) (by dsimp only; omega) (.slice (some ⟨gx, 0, none⟩) (l.length + 1) cx))
      have hgx3 : gx < (V8.setCell ⟨bx, 2, none⟩ (.slice (some ⟨gx, 0, none⟩) (l.length + 1) cx)).heap.size := by simp; omega
      refine hK.out _ _ ⟨(blk_cell HX0.out).trans rfl, (blk_cell HXs.out).trans rfl, (blk_cell HXs.out).trans rfl, (blk_cell HXs.out).trans rfl⟩ (fun hS9 => ?_)
      clear hS9 hK K e0 f0 HBv HSF HOL hgx2 hp0 hp1 hp2 HXs
      refine wpAnyH_done (by kernel_rfl) ?_ _
      generalize V8.setCell ⟨bx, 2, none⟩ (.slice (some ⟨gx, 0, none⟩) (l.length + 1) cx) = wa at *
      replace HL := Lib.hid (HL0.out.below HB.out)
      have hgx4 : bx < gx := by omega
      have hgx5 : by_ < gx := by omega
      have hgx6 : bz < gx := by omega
      clear hgx hx2 hy2 hz2
      have hM := below_alloc' (Below.refl wa.heap.size wa) (.cells #[] 50)
      have HOM := Lib.hid (own_mk0 wa wa.heap.size (Nat.le_refl _) 50)
      have HOL : Hid (∀ ad, A = some ad → ∀ j u, (l.flatMap encT)[j]? = some u → (wa.alloc (.cells #[] 50)).cell? (ad.add j) = some u) := Lib.hid fun ad e j u hj => RowsAt.olds encT_len (StepsAt.below HL.out hM) _ e j u hj
      have HMb := Lib.hid hM
      have yb : wa.cell? ⟨w.heap.size, 2, none⟩ = some (.slice A l.length ca) := (blk_cell HX0.out).trans rfl
      have yc := cell_alloc yb (.cells #[] 50)
      clear hM
      go_upto_region 10 with (at_builtin; refine wpList_append_first _ rfl (.tmp 68) (.tmp 70) 22 rfl 50 i0 (.agg #[.int .i64 0, .int .i64 0, .int .i64 0]) 3 24 Tryd.underlying22 q0 q1 q2 q3 rfl (by omega) wa.heap.size (by rfl) wa.heap.size HMb.out.size HOM.out A l.length ca (l.flatMap encT) (by rfl) HNIL.out HLZ.out HOL.out (oneFlat oneT l) (by simp only [maxLen]; omega) (by omega) ?_; intro ga c1 V2 hown hgrow; have hal : Below wa.heap.size wa V2 := below_trans' HMb.out ((Below.refl _ _).grown hgrow (Nat.le_refl _) (fun r e => by cases e)); have e0 : V2.cell? ⟨by_, 2, none⟩ = some (.slice A l.length ca) := (blk_cell (blk_below hal HZy.out)).trans rfl; have f0 : V2.frozen? ⟨by_, 2, none⟩ = false := blk_frozen (blk_below hal HZy.out))
      have HBv := Lib.hid hal
      have HO1 := Lib.hid hown
      clear hal hown hgrow yb yc HOM HOL HMb e0 f0
      obtain ⟨hga, cur1, hc1⟩ := own_at HO1.out
      have HCy := Lib.hid hc1
      have hga2 := blk_lt hc1
      have HRy : Hid (StepsAt V2 (some ⟨ga, 0, none⟩) l) := Lib.hid (RowsAt.of_own encT_len HO1.out)
      clear HO1 hc1
      replace HX0 := Lib.hid (blk_below HBv.out HX0.out)
      replace HZx := Lib.hid (blk_below HBv.out HZx.out)
      replace HZy := Lib.hid (blk_below HBv.out HZy.out)
      replace HZz := Lib.hid (blk_below HBv.out HZz.out)
      replace HRx := Lib.hid (HRx.out.below HBv.out)
      replace HB := Lib.hid (below_trans' HB.out HBv.out)
      have hp0 : w.heap.size ≠ by_ := by omega
      have hp2 : ga ≠ by_ := by omega
      replace HX0 := Lib.hid (blk_far (p := ⟨by_, 2, none⟩) HX0.out hp0 (.slice (some ⟨ga, 0, none⟩) l.length c1))
      replace HZx := Lib.hid (blk_far (p := ⟨by_, 2, none⟩) HZx.out hxy (.slice (some ⟨ga, 0, none⟩) l.length c1))
      replace HZy := Lib.hid (blk_set (i := 2) HZy.out (.slice (some ⟨ga, 0, none⟩) l.length c1))
      replace HZz := Lib.hid (blk_far (p := ⟨by_, 2, none⟩) HZz.out hyz.symm (.slice (some ⟨ga, 0, none⟩) l.length c1))
      have hp_gx : gx ≠ by_ := by omega
      replace HRx := Lib.hid (RowsAt.far (p := ⟨by_, 2, none⟩) HRx.out hp_gx (.slice (some ⟨ga, 0, none⟩) l.length c1))
      replace HRy := Lib.hid (RowsAt.far (p := ⟨by_, 2, none⟩) HRy.out hp2 (.slice (some ⟨ga, 0, none⟩) l.length c1))
      replace HCy := Lib.hid (blk_far (p := ⟨by_, 2, none⟩) HCy.out hp2 (.slice (some ⟨ga, 0, none⟩) l.length c1))
      replace HB := Lib.hid (HB.out.setCell (p := ⟨by_, 2, none⟩) (by dsimp only; omega) (.slice (some ⟨ga, 0, none⟩) l.length c1))
      have hgy3 : ga < (V2.setCell ⟨by_, 2, none⟩ (.slice (some ⟨ga, 0, none⟩) l.length c1)).heap.size := by simp; omega
      have hgy0 : gx < ga := by omega
      clear HBv hp0 hp2 hga hga2 hp_gx hgx3
      generalize V2.setCell ⟨by_, 2, none⟩ (.slice (some ⟨ga, 0, none⟩) l.length c1) = wb at *
      replace HL := Lib.hid (HL0.out.below HB.out)
      obtain ⟨gy, hgn⟩ : ∃ x, x = ga := ⟨_, rfl⟩
      subst hgn
      obtain ⟨cy, hgn⟩ : ∃ x, x = c1 := ⟨_, rfl⟩
      subst hgn
      obtain ⟨cury, hgn⟩ : ∃ x, x = cur1 := ⟨_, rfl⟩
      subst hgn
      have hM := below_alloc' (Below.refl wb.heap.size wb) (.cells #[] 50)
      have HOM := Lib.hid (own_mk0 wb wb.heap.size (Nat.le_refl _) 50)
      have HOL : Hid (∀ ad, A = some ad → ∀ j u, (l.flatMap encT)[j]? = some u → (wb.alloc (.cells #[] 50)).cell? (ad.add j) = some u) := Lib.hid fun ad e j u hj => RowsAt.olds encT_len (StepsAt.below HL.out hM) _ e j u hj
      have HMb := Lib.hid hM
      have yb : wb.cell? ⟨w.heap.size, 2, none⟩ = some (.slice A l.length ca) := (blk_cell HX0.out).trans rfl
      have yc := cell_alloc yb (.cells #[] 50)
      clear hM
      go_upto_region 11 with (at_builtin; refine wpList_append_first _ rfl (.tmp 73) (.tmp 75) 22 rfl 50 i0 (.agg #[.int .i64 0, .int .i64 0, .int .i64 0]) 3 24 Tryd.underlying22 q0 q1 q2 q3 rfl (by omega) wb.heap.size (by rfl) wb.heap.size HMb.out.size HOM.out A l.length ca (l.flatMap encT) (by rfl) HNIL.out HLZ.out HOL.out (oneFlat oneT l) (by simp only [maxLen]; omega) (by omega) ?_; intro ga c1 V2 hown hgrow; have hal : Below wb.heap.size wb V2 := below_trans' HMb.out ((Below.refl _ _).grown hgrow (Nat.le_refl _) (fun r e => by cases e)); have e0 : V2.cell? ⟨bz, 2, none⟩ = some (.slice A l.length ca) := (blk_cell (blk_below hal HZz.out)).trans rfl; have f0 : V2.frozen? ⟨bz, 2, none⟩ = false := blk_frozen (blk_below hal HZz.out))
      have HBv := Lib.hid hal
      have HO1 := Lib.hid hown
      clear hal hown hgrow yb yc HOM HOL HMb e0 f0
      obtain ⟨hga, cur1, hc1⟩ := own_at HO1.out
      have HCz := Lib.hid hc1
      have hga2 := blk_lt hc1
      have HRz : Hid (StepsAt V2 (some ⟨ga, 0, none⟩) l) := Lib.hid (RowsAt.of_own encT_len HO1.out)
      clear HO1 hc1
      replace HX0 := Lib.hid (blk_below HBv.out HX0.out)
      replace HZx := Lib.hid (blk_below HBv.out HZx.out)
      replace HZy := Lib.hid (blk_below HBv.out HZy.out)
      replace HZz := Lib.hid (blk_below HBv.out HZz.out)
      replace HCy := Lib.hid (blk_below HBv.out HCy.out)
      replace HRx := Lib.hid (HRx.out.below HBv.out)
      replace HRy := Lib.hid (HRy.out.below HBv.out)
      replace HB := Lib.hid (below_trans' HB.out HBv.out)
      have hp0 : w.heap.size ≠ bz := by omega
      have hp2 : ga ≠ bz := by omega
      replace HX0 := Lib.hid (blk_far (p := ⟨bz, 2, none⟩) HX0.out hp0 (.slice (some ⟨ga, 0, none⟩) l.length c1))
      replace HZx := Lib.hid (blk_far (p := ⟨bz, 2, none⟩) HZx.out hxz (.slice (some ⟨ga, 0, none⟩) l.length c1))
      replace HZy := Lib.hid (blk_far (p := ⟨bz, 2, none⟩) HZy.out hyz (.slice (some ⟨ga, 0, none⟩) l.length c1))
      replace HZz := Lib.hid (blk_set (i := 2) HZz.out (.slice (some ⟨ga, 0, none⟩) l.length c1))
      have hp_gx : gx ≠ bz := by omega
      replace HRx := Lib.hid (RowsAt.far (p := ⟨bz, 2, none⟩) HRx.out hp_gx (.slice (some ⟨ga, 0, none⟩) l.length c1))
      have hp_gy : gy ≠ bz := by omega
      replace HRy := Lib.hid (RowsAt.far (p := ⟨bz, 2, none⟩) HRy.out hp_gy (.slice (some ⟨ga, 0, none⟩) l.length c1))
      replace HCy := Lib.hid (blk_far (p := ⟨bz, 2, none⟩) HCy.out hp_gy (.slice (some ⟨ga, 0, none⟩) l.length c1))
      replace HRz := Lib.hid (RowsAt.far (p := ⟨bz, 2, none⟩) HRz.out hp2 (.slice (some ⟨ga, 0, none⟩) l.length c1))
      replace HCz := Lib.hid (blk_far (p := ⟨bz, 2, none⟩) HCz.out hp2 (.slice (some ⟨ga, 0, none⟩) l.length c1))
      replace HB := Lib.hid (HB.out.setCell (p := ⟨bz, 2, none⟩) (by dsimp only; omega) (.slice (some ⟨ga, 0, none⟩) l.length c1))
      have hgz3 : ga < (V2.setCell ⟨bz, 2, none⟩ (.slice (some ⟨ga, 0, none⟩) l.length c1)).heap.size := by simp; omega
      have hgz0 : gy < ga := by omega
      clear HBv hp0 hp2 hga hga2 hp_gx hp_gy hgy3
      generalize V2.setCell ⟨bz, 2, none⟩ (.slice (some ⟨ga, 0, none⟩) l.length c1) = we at *
      replace HL := Lib.hid (HL0.out.below HB.out)
      obtain ⟨gz, hgn⟩ : ∃ x, x = ga := ⟨_, rfl⟩
      subst hgn
      obtain ⟨cz, hgn⟩ : ∃ x, x = c1 := ⟨_, rfl⟩
      subst hgn
      obtain ⟨curz, hgn⟩ : ∃ x, x = cur1 := ⟨_, rfl⟩
      subst hgn
      obtain ⟨lx, hlx⟩ : ∃ lx, lx = l ++ [(m1, m2, m3)] := ⟨_, rfl⟩
      have hlen : l.length + 1 = lx.length := by rw [hlx]; exact (len_snoc l (m1, m2, m3)).symm
      have HWx : Hid (Wider (netB (n : Int) (r : Int) l) (netB (n : Int) (r : Int) lx)) := Lib.hid (by rw [hlx]; exact more_wider _)
      rw [← hlx] at HRx
      rw [hlen] at HZx
      clear hlx
      obtain ⟨oy, hoy⟩ : ∃ oy : Nat, oy = 0 := ⟨_, rfl⟩
      obtain ⟨oz, hoz⟩ : ∃ oz : Nat, oz = 0 := ⟨_, rfl⟩
      replace HRy : Hid (StepsAt we (some ⟨gy, oy, none⟩) l) := by subst hoy; exact HRy
      replace HRz : Hid (StepsAt we (some ⟨gz, oz, none⟩) l) := by subst hoz; exact HRz
      replace HZy : Hid (we.heap[by_]? = some (.cells #[.int .i64 n, .int .i64 r, .slice (some ⟨gy, oy, none⟩) l.length cy] 24 (0, 0))) := by subst hoy; exact HZy
      replace HZz : Hid (we.heap[bz]? = some (.cells #[.int .i64 n, .int .i64 r, .slice (some ⟨gz, oz, none⟩) l.length cz] 24 (0, 0))) := by subst hoz; exact HZz
      clear hoy hoz
      have hxl : lx.length ≤ 300 := by omega
      have HxL := Lib.hid hlen
      clear hlen
      have e0 : we.cell? ⟨by_, 2, none⟩ = some (.slice (some ⟨gy, oy, none⟩) l.length cy) := (blk_cell HZy.out).trans rfl
      go_upto_if 81 with fail
      go_cut [21] (fun s21 wx => ∃ ly, ly.length = l.length ∧ Hid (Wider (netB (n : Int) (r : Int) l) (netB (n : Int) (r : Int) ly)) ∧ Hid (StepsAt wx (some ⟨gy, oy, none⟩) ly) ∧ Hid (StepsAt wx (some ⟨gx, 0, none⟩) lx) ∧ Hid (StepsAt wx (some ⟨gz, oz, none⟩) l) ∧ Hid (wx.heap[gz]? = some (.cells curz 50 (0, 0))) ∧ Hid (wx.heap[bx]? = some (.cells #[.int .i64 n, .int .i64 r, .slice (some ⟨gx, 0, none⟩) lx.length cx] 24 (0, 0))) ∧ Hid (wx.heap[by_]? = some (.cells #[.int .i64 n, .int .i64 r, .slice (some ⟨gy, oy, none⟩) l.length cy] 24 (0, 0))) ∧ Hid (wx.heap[bz]? = some (.cells #[.int .i64 n, .int .i64 r, .slice (some ⟨gz, oz, none⟩) l.length cz] 24 (0, 0))) ∧ Hid (wx.heap[w.heap.size]? = some (.cells #[.int .i64 n, .int .i64 r, .slice A l.length ca] 24 (0, 0))) ∧ Hid (Below w.heap.size w wx))
      case first =>
        by_cases hl0 : l.length = 0
        · have d0 : decide (0 < l.length) = false := by simp [hl0]
          go_wp2_with fail
          go_meet
          exact ⟨l, rfl, Lib.hid (wider_refl _), HRy, HRx, HRz, HCz, HZx, HZy, HZz, HX0, HB⟩
        · have d0 : decide (0 < l.length) = true := by simp; omega
          have hl2 : ¬ ((l.length : Int) = 0) := by omega
          obtain ⟨j, hm1, hjl⟩ : ∃ j : Nat, (a : Int) % (l.length : Int) = (j : Int) ∧ j < l.length := ⟨a % l.length, by norm_cast, Nat.mod_lt _ (by omega)⟩
          have hm2 : (a : Int).tmod (l.length : Int) = (j : Int) := by rw [Int.tmod_eq_emod_of_nonneg (by omega)]; exact hm1
          have hwa : IntKind.i64.wrap (a : Int) = (a : Int) := IntWalk.i64_in _ (by omega)
          obtain ⟨b1, o1, hbb, g1, g2, g3⟩ := StepsAt.at_ HRy.out hjl
          cases hbb
          have hst := (HK.out.stp _ (List.getElem_mem hjl)).2.2.2
          have HSj : Hid (stAt l j = l[j]) := Lib.hid (stAt_eq hjl)
          generalize l[j] = x at g1 g2 g3 hst HSj
          obtain ⟨x1, x2, x3⟩ := x
          dsimp only at g1 g2 g3 hst
          have HWy : Hid (Wider (netB (n : Int) (r : Int) l) (netB (n : Int) (r : Int) (setCh l j (max 0 (x3 - c))))) := Lib.hid (less_wider (by rw [HSj.out]; dsimp only; omega))
          have hwc : IntKind.i64.wrap c = c := IntWalk.i64_in _ (by omega)
          have hws : IntKind.i64.wrap (x3 - c) = x3 - c := IntWalk.i64_in _ (by omega)
          have j0 : (0 : Int) ≤ (j : Int) := by omega
          have j1 : (j : Int) < (l.length : Int) := by omega
          go_upto_region 12 with fail
          refine wp_region_held_drew (S := fun W => W.cell? ⟨by_, 2, none⟩ = some (.slice (some ⟨gy, oy, none⟩) l.length cy)) (by kernel_rfl) e0 (fun e0 => ?_)
          refine wpAnyH_take (i := 0) (v := ?_) rfl (by kernel_rfl) (by kernel_rfl) (by kernel_rfl) (fun _ _ _ h => h) (Or.inl ⟨by rfl, ?_⟩) e0 ?_
          rotate_left 1
          · intro W hW; obtain s0 := hW; go_simp <;> with_reducible rfl
          refine wpAnyH_take (i := 1) (v := ?_) rfl (by kernel_rfl) (by kernel_rfl) (by kernel_rfl) (fun _ _ _ h => h) (Or.inl ⟨by rfl, ?_⟩) e0 ?_
          rotate_left 1
          · intro W hW; obtain s0 := hW; go_simp <;> with_reducible rfl
          refine wpAnyH_take (i := 2) (v := ?_) rfl (by kernel_rfl) (by kernel_rfl) (by kernel_rfl) (fun _ _ _ h => h) (Or.inl ⟨by rfl, ?_⟩) e0 ?_
          rotate_left 1
          · intro W hW; obtain s0 := hW; go_simp <;> with_reducible rfl
          refine wpAnyH_take (i := 3) (v := ?_) rfl (by kernel_rfl) (by kernel_rfl) (by kernel_rfl) (fun _ _ _ h => h) (Or.inl ⟨by rfl, ?_⟩) e0 ?_
          rotate_left 1
          · intro W hW; obtain s0 := hW; go_simp <;> with_reducible rfl
          refine wpAnyH_take (i := 4) (v := ?_) rfl (by kernel_rfl) (by kernel_rfl) (by kernel_rfl) (fun _ _ _ h => h) (Or.inl ⟨by rfl, ?_⟩) e0 ?_
          rotate_left 1
          · intro W hW; obtain s0 := hW; go_simp <;> with_reducible rfl
          refine wpAnyH_take (i := 5) (v := ?_) rfl (by kernel_rfl) (by kernel_rfl) (by kernel_rfl) (fun _ _ _ h => h) (Or.inl ⟨by rfl, ?_⟩) e0 ?_
          rotate_left 1
          · intro W hW; obtain s0 := hW; go_simp <;> with_reducible rfl
          refine wpAnyH_take (i := 6) (v := ?_) rfl (by kernel_rfl) (by kernel_rfl) (by kernel_rfl) (fun _ _ _ h => h) (Or.inl ⟨by rfl, ?_⟩) e0 ?_
          rotate_left 1
          · intro W hW; obtain s0 := hW; go_simp <;> with_reducible rfl
          refine wpAnyH_take (i := 7) (v := ?_) rfl (by kernel_rfl) (by kernel_rfl) (by kernel_rfl) (fun _ _ _ h => h) (Or.inl ⟨by rfl, ?_⟩) e0 ?_
          rotate_left 1
          · intro W hW; obtain s0 := hW; go_simp <;> with_reducible rfl
          refine wpAnyH_take (i := 8) (v := ?_) rfl (by kernel_rfl) (by kernel_rfl) (by kernel_rfl) (fun _ _ _ h => h) (Or.inl ⟨by rfl, ?_⟩) e0 ?_
          rotate_left 1
          · intro W hW; obtain s0 := hW; go_simp <;> with_reducible rfl
          refine wpAnyH_take (i := 9) (v := ?_) rfl (by kernel_rfl) (by kernel_rfl) (by kernel_rfl) (fun _ _ _ h => h) (Or.inl ⟨by rfl, ?_⟩) e0 ?_
          rotate_left 1
          · intro W hW; obtain s0 := hW; go_simp <;> with_reducible rfl
          simp only [Act.put, List.setIfInBounds_toArray]
          refine wpAnyH_done (by kernel_rfl) ?_ _
          have g3 : we.drew.cell? ⟨gy, oy + j * 3 + 2, none⟩ = some (.int .i64 x3) := g3
          have HRy : Hid (StepsAt we.drew (some ⟨gy, oy, none⟩) l) := HRy
          have HRx : Hid (StepsAt we.drew (some ⟨gx, 0, none⟩) lx) := HRx
          have HRz : Hid (StepsAt we.drew (some ⟨gz, oz, none⟩) l) := HRz
          have HCz : Hid (we.drew.heap[gz]? = some (.cells curz 50 (0, 0))) := HCz
          have HCy : Hid (we.drew.heap[gy]? = some (.cells cury 50 (0, 0))) := HCy
          have HZx : Hid (we.drew.heap[bx]? = some (.cells #[.int .i64 n, .int .i64 r, .slice (some ⟨gx, 0, none⟩) lx.length cx] 24 (0, 0))) := HZx
          have HZy : Hid (we.drew.heap[by_]? = some (.cells #[.int .i64 n, .int .i64 r, .slice (some ⟨gy, oy, none⟩) l.length cy] 24 (0, 0))) := HZy
          have HZz : Hid (we.drew.heap[bz]? = some (.cells #[.int .i64 n, .int .i64 r, .slice (some ⟨gz, oz, none⟩) l.length cz] 24 (0, 0))) := HZz
          have HX0 : Hid (we.drew.heap[w.heap.size]? = some (.cells #[.int .i64 n, .int .i64 r, .slice A l.length ca] 24 (0, 0))) := HX0
          have HB := Lib.hid HB.out.drew
          generalize we.drew = wd at *
          have f3 : wd.frozen? ⟨gy, oy + j * 3 + 2, none⟩ = false := blk_frozen HCy.out
          clear hm1 hm2 e0 g1 g2
          go_wp2_with fail
          go_meet
          exact ⟨setCh l j (max 0 (x3 - c)), setCh_len _ _ _, HWy, Lib.hid (steps_less HRy.out hjl _), Lib.hid (RowsAt.far (p := ⟨gy, oy + j * 3 + 2, none⟩) HRx.out (by dsimp only; omega) (.int .i64 (max 0 (x3 - c)))), Lib.hid (RowsAt.far (p := ⟨gy, oy + j * 3 + 2, none⟩) HRz.out (by dsimp only; omega) (.int .i64 (max 0 (x3 - c)))), Lib.hid (blk_far (p := ⟨gy, oy + j * 3 + 2, none⟩) HCz.out (by dsimp only; omega) (.int .i64 (max 0 (x3 - c)))), Lib.hid (blk_far (p := ⟨gy, oy + j * 3 + 2, none⟩) HZx.out (by dsimp only; omega) (.int .i64 (max 0 (x3 - c)))), Lib.hid (blk_far (p := ⟨gy, oy + j * 3 + 2, none⟩) HZy.out (by dsimp only; omega) (.int .i64 (max 0 (x3 - c)))), Lib.hid (blk_far (p := ⟨gy, oy + j * 3 + 2, none⟩) HZz.out (by dsimp only; omega) (.int .i64 (max 0 (x3 - c)))), Lib.hid (blk_far (p := ⟨gy, oy + j * 3 + 2, none⟩) HX0.out (by dsimp only; omega) (.int .i64 (max 0 (x3 - c)))), Lib.hid (HB.out.setCell (p := ⟨gy, oy + j * 3 + 2, none⟩) (by dsimp only; omega) (.int .i64 (max 0 (x3 - c))))⟩
      case rest =>
        clear HRy HRx HRz HCz HCy HZx HZy HZz HX0 HB HL e0 hgz3
        obtain ⟨ly, hly, HWy, HRy, HRx, HRz, HCz, HZx, HZy, HZz, HX0, HB⟩ := hcut
        obtain ⟨w14, hw14⟩ : ∃ x, x = wc := ⟨_, rfl⟩
        subst hw14
        have a0 : w14.cell? ⟨bx, 0, none⟩ = some (.int .i64 n) := (blk_cell HZx.out).trans rfl
        have a1 : w14.cell? ⟨bx, 1, none⟩ = some (.int .i64 r) := (blk_cell HZx.out).trans rfl
        have a2 : w14.cell? ⟨bx, 2, none⟩ = some (.slice (some ⟨gx, 0, none⟩) lx.length cx) := (blk_cell HZx.out).trans rfl
        have v0 : w14.cell? ⟨by_, 0, none⟩ = some (.int .i64 n) := (blk_cell HZy.out).trans rfl
        have v1 : w14.cell? ⟨by_, 1, none⟩ = some (.int .i64 r) := (blk_cell HZy.out).trans rfl
        have v2 : w14.cell? ⟨by_, 2, none⟩ = some (.slice (some ⟨gy, oy, none⟩) l.length cy) := (blk_cell HZy.out).trans rfl
        go_upto_region 14 with fail
        go_cut [22] (fun s22 wx => ∃ gb ob, s22 = .slice (some ⟨gb, ob, none⟩) 2 2 ∧ Hid (∀ k, k < 2 → BkAt wx gb ob n r (netB (n : Int) (r : Int) l) k) ∧ Hid (Below w14.heap.size w14 wx))
        case first =>
          have hX := heap_alloc_new w14 (.cells #[.int .i64 n, .int .i64 r, .slice (some ⟨gx, 0, none⟩) lx.length cx, .int .i64 n, .int .i64 r, .slice (some ⟨gy, oy, none⟩) l.length cy] 24)
          have hb := below_alloc' (Below.refl w14.heap.size w14) (.cells #[.int .i64 n, .int .i64 r, .slice (some ⟨gx, 0, none⟩) lx.length cx, .int .i64 n, .int .i64 r, .slice (some ⟨gy, oy, none⟩) l.length cy] 24)
          have HX := Lib.hid hX
          have Hb := Lib.hid hb
          have Hly := Lib.hid hly
          clear hX hb hly
          go_wp2_with fail
          go_meet
          refine ⟨_, 0, rfl, Lib.hid fun k hk => ?_, Hb⟩
          have hk2 : k = 0 ∨ k = 1 := by omega
          rcases hk2 with rfl | rfl
          · exact ⟨_, _, lx, (blk_cell HX.out).trans rfl, (blk_cell HX.out).trans rfl, (blk_cell HX.out).trans rfl, HRx.out.below Hb.out, hxl, HWx.out⟩
          · exact ⟨_, _, ly, (blk_cell HX.out).trans rfl, (blk_cell HX.out).trans rfl, (blk_cell HX.out).trans (by rw [Hly.out]; rfl), HRy.out.below Hb.out, by rw [Hly.out]; omega, HWy.out⟩
        case rest =>
          obtain ⟨gb, ob, rfl, HBK, HBx⟩ := hcut
          obtain ⟨w15, hw15⟩ : ∃ x, x = wc := ⟨_, rfl⟩
          subst hw15
          replace HX0 := Lib.hid (blk_below HBx.out HX0.out)
          replace HZz := Lib.hid (blk_below HBx.out HZz.out)
          replace HCz := Lib.hid (blk_below HBx.out HCz.out)
          replace HRz := Lib.hid (HRz.out.below HBx.out)
          replace HB := Lib.hid (below_trans' HB.out HBx.out)
          clear HRx HRy HZx HZy HWx HWy a0 a1 a2 v0 v1 v2 HBx hly HxL hxl
          have HBr0 := Lib.hid (Below.refl w15.heap.size w15)
          go_wp2
          go_loopw [23] (fun i wr => ∃ k : Nat, k ≤ 2 ∧ i = .int .i64 k ∧ Hid (Below w15.heap.size w15 wr)) (fun i _ => 2 - (intOf i).toNat)
          case atStart => exact ⟨0, by omega, rfl, HBr0⟩
          case round =>
            clear HBr0
            obtain ⟨k, hk, rfl, HBr⟩ := hrel
            by_cases hkn : k < 2
            · obtain ⟨B, cB, lb, p0, p1, p2, hsb, hlb, hwd⟩ := (HBK.out k hkn).below HBr.out
              have HLb := Lib.hid hsb
              have HWd := Lib.hid hwd
              clear hsb hwd
              obtain ⟨w20, hw20⟩ : ∃ x, x = wr := ⟨_, rfl⟩
              subst hw20
              have HB20 := Lib.hid HBr.out
              clear HBr
              have k0 : (0 : Int) ≤ (k : Int) := by omega
              have k1 : (k : Int) < 2 := by omega
              have Hc := Lib.hid (fine_any (n : Int) (r : Int) B cB lb w20 HLb.out (by omega))
              go_wp2_with fail
              refine Hc.out.mono ?_
              rintro e w21 ⟨v, rfl, ⟨bf, rfl, hfb⟩, hb⟩
              have HB21 := Lib.hid (below_trans' HB20.out hb)
              replace HLb := Lib.hid (HLb.out.below hb)
              replace p0 := cell_below hb p0
              replace p1 := cell_below hb p1
              replace p2 := cell_below hb p2
              clear hb Hc HB20
              cases bf
              · go_wp2_with fail
                go_roundw
                case rel => exact ⟨k + 1, by omega, by go_num, HB21⟩
                case measure => simp [intOf]; omega
              obtain ⟨hkb, hfc⟩ := hfb.1 rfl
              have HKb := Lib.hid hkb
              have HFb := Lib.hid hfc
              clear hkb hfc hfb
              have Hc := Lib.hid (cheapY (ca := cB) HKb.out HFb.out (HLb.out : StepsAt w21 B lb) (by omega))
              go_wp2_with fail
              refine Hc.out.mono ?_
              rintro e w22 ⟨v, rfl, ⟨t2, G2, c2, bd, rfl, _, _, _, _, hbd⟩, hb⟩
              have HB22 := Lib.hid (below_trans' HB21.out hb)
              replace HLb := Lib.hid (HLb.out.below hb)
              replace p0 := cell_below hb p0
              replace p1 := cell_below hb p1
              replace p2 := cell_below hb p2
              clear hb Hc HB21
              have hle := more_best HK.out HWd.out HBc.out hbd
              clear hbd
              have Hc := Lib.hid (mostY (ca := cB) HKb.out HFb.out (HLb.out : StepsAt w22 B lb) (by omega))
              go_wp2_with fail
              refine Hc.out.mono ?_
              rintro e w23 ⟨v, rfl, ⟨mb, rfl, hmb⟩, hb⟩
              have HB23 := Lib.hid (below_trans' HB22.out hb)
              replace HLb := Lib.hid (HLb.out.below hb)
              replace p0 := cell_below hb p0
              replace p1 := cell_below hb p1
              replace p2 := cell_below hb p2
              clear hb Hc HB22
              have hlm := HWd.out.most HM.out hmb
              clear hmb
              have x1 : decide (bd > bc) = false := by simp; omega
              have x2 : decide (bc < bd) = false := by simp; omega
              have x3 : decide (mb > m) = false := by simp; omega
              have x4 : decide (m < mb) = false := by simp; omega
              go_wp2_with fail
              go_roundw
              case rel => exact ⟨k + 1, by omega, by go_num, HB23⟩
              case measure => simp [intOf]; omega
            clear HBK
            replace HX0 := Lib.hid (blk_below HBr.out HX0.out)
            replace HZz := Lib.hid (blk_below HBr.out HZz.out)
            replace HCz := Lib.hid (blk_below HBr.out HCz.out)
            replace HRz := Lib.hid (HRz.out.below HBr.out)
            replace HB := Lib.hid (below_trans' HB.out HBr.out)
            obtain rfl : k = 2 := by omega
            clear HBr hk hkn
            obtain ⟨w30, hw30⟩ : ∃ x, x = wr := ⟨_, rfl⟩
            subst hw30
            have y0 : w30.cell? ⟨w.heap.size, 0, none⟩ = some (.int .i64 n) := (blk_cell HX0.out).trans rfl
            have y1 : w30.cell? ⟨w.heap.size, 1, none⟩ = some (.int .i64 r) := (blk_cell HX0.out).trans rfl
            have hn0 : 0 < n := by omega
            have hne : ¬ ((n : Int) = 0) := by omega
            have hne2 : ¬ (n = 0) := by omega
            obtain ⟨v, hv, hvn⟩ : ∃ v : Nat, (d : Int) % (n : Int) = (v : Int) ∧ v < n := ⟨d % n, by norm_cast, Nat.mod_lt _ hn0⟩
            have hwd : IntKind.i64.wrap (d : Int) = (d : Int) := IntWalk.i64_in _ (by omega)
            go_upto_region 24 with fail
            try rw [hv]
            clear hv hwd
            have HT := Lib.hid (HT0.out.below HB.out)
            by_cases hvr : v = r
            · have dv : ((v : Int) == (r : Int)) = true := by simp [hvr]
              have HB30 := Lib.hid HB.out
              go_wp2_with fail
              refine (works_any _ HT.out).mono ?_
              rintro e wz ⟨v, rfl, rfl, hBz⟩
              go_wp2
              go_ret
              exact Ret.mk' rfl ⟨rfl, below_trans' HB30.out hBz⟩
            have dv : ((v : Int) == (r : Int)) = false := by simp; omega
            have HR0 : Hid (StepsAt w30 (some ⟨gz, oz, none⟩) (raiseL l (v : Int) g 0)) := Lib.hid (by rw [raiseL_zero]; exact HRz.out)
            go_upto_region 26 with fail
            clear y0 y1 HT HRz dv
            go_wp2
            go_loopw [30] (fun i wr => ∃ (k : Nat) (cur : Array Value), k ≤ l.length ∧ i = .int .i64 k ∧ Hid (wr.heap[w.heap.size]? = some (.cells #[.int .i64 n, .int .i64 r, .slice A l.length ca] 24 (0, 0))) ∧ Hid (wr.heap[bz]? = some (.cells #[.int .i64 n, .int .i64 r, .slice (some ⟨gz, oz, none⟩) l.length cz] 24 (0, 0))) ∧ Hid (wr.heap[gz]? = some (.cells cur 50 (0, 0))) ∧ Hid (StepsAt wr (some ⟨gz, oz, none⟩) (raiseL l (v : Int) g k)) ∧ Hid (Below w.heap.size w wr)) (fun i _ => l.length - (intOf i).toNat)
            case atStart => exact ⟨0, curz, by omega, rfl, HX0, HZz, HCz, HR0, HB⟩
            case round =>
              clear HX0 HZz HCz HR0 HB
              obtain ⟨k, cur, hk, rfl, HX0, HZz, HCz, HRz, HB⟩ := hrel
              obtain ⟨wz, hwz⟩ : ∃ x, x = wr := ⟨_, rfl⟩
              subst hwz
              have e0 : wz.cell? ⟨bz, 2, none⟩ = some (.slice (some ⟨gz, oz, none⟩) l.length cz) := (blk_cell HZz.out).trans rfl
              by_cases hkn : k < l.length
              · obtain ⟨b1, o1, hbb, g1, g2, g3⟩ := StepsAt.at_ HRz.out (i := k) (by rw [raiseL_len]; exact hkn)
                cases hbb
                rw [raiseL_same hkn] at g1 g2 g3
                have hst := (HK.out.stp _ (List.getElem_mem hkn)).2.2.2
                have HSj : Hid (stAt l k = l[k]) := Lib.hid (stAt_eq hkn)
                generalize l[k] = x at g1 g2 g3 hst HSj
                obtain ⟨x1, x2, x3⟩ := x
                dsimp only at g1 g2 g3 hst
                have k0 : (0 : Int) ≤ (k : Int) := by omega
                have k1 : (k : Int) < (l.length : Int) := by omega
                by_cases hx : x2 = (v : Int)
                · have dx : (x2 == (v : Int)) = true := by simp [hx]
                  have HSr : Hid (StepsAt (wz.setCell ⟨gz, oz + k * 3 + 2, none⟩ (.int .i64 (x3 + g))) (some ⟨gz, oz, none⟩) (raiseL l (v : Int) g (k + 1))) := Lib.hid (by have := steps_raise HRz.out hkn (by rw [HSj.out]; exact hx); rw [HSj.out] at this; exact this)
                  have f3 : wz.frozen? ⟨gz, oz + k * 3 + 2, none⟩ = false := blk_frozen HCz.out
                  have hwg : IntKind.i64.wrap g = g := IntWalk.i64_in _ (by omega)
                  have hws : IntKind.i64.wrap (x3 + g) = x3 + g := IntWalk.i64_in _ (by omega)
                  have H1 := Lib.hid (blk_far (p := ⟨gz, oz + k * 3 + 2, none⟩) HX0.out (by dsimp only; omega) (.int .i64 (x3 + g)))
                  have H2 := Lib.hid (blk_far (p := ⟨gz, oz + k * 3 + 2, none⟩) HZz.out (by dsimp only; omega) (.int .i64 (x3 + g)))
                  have H3 := Lib.hid (blk_set (i := oz + k * 3 + 2) HCz.out (.int .i64 (x3 + g)))
                  have H4 := Lib.hid (HB.out.setCell (p := ⟨gz, oz + k * 3 + 2, none⟩) (by dsimp only; omega) (.int .i64 (x3 + g)))
                  have HSx := Lib.hid hx
                  clear hx HSj HRz HB
                  go_wp2_with fail
                  go_roundw
                  case rel => exact ⟨k + 1, _, by omega, by go_num, H1, H2, H3, HSr, H4⟩
                  case measure => simp [intOf]; omega
                · have dx : (x2 == (v : Int)) = false := by simpa using hx
                  have HSr : Hid (StepsAt wz (some ⟨gz, oz, none⟩) (raiseL l (v : Int) g (k + 1))) := Lib.hid (by rw [raiseL_miss hkn (by rw [HSj.out]; exact hx)]; exact HRz.out)
                  clear hx HSj HRz
                  go_wp2_with fail
                  go_roundw
                  case rel => exact ⟨k + 1, _, by omega, by go_num, HX0, HZz, HCz, HSr, HB⟩
                  case measure => simp [intOf]; omega
              obtain rfl : k = l.length := by omega
              go_upto_region 31 with fail
              have HRs : Hid (Raised (netB (n : Int) (r : Int) l) (netB (n : Int) (r : Int) (raiseL l (v : Int) g l.length)) v g) := Lib.hid (Fam.raised_of HK.out v g)
              have hlz := raiseL_len l (v : Int) g l.length
              rw [← hlz] at HZz
              have Hlz := Lib.hid hlz
              have hz3 : (raiseL l (v : Int) g l.length).length ≤ 100000 := by rw [raiseL_len]; exact hn1
              clear hlz
              generalize raiseL l (v : Int) g l.length = lz at *
              obtain ⟨w40, hw40⟩ : ∃ x, x = wz := ⟨_, rfl⟩
              subst hw40
              have HB40 := Lib.hid HB.out
              have HT := Lib.hid (HT0.out.below HB.out)
              have HL := Lib.hid (HL0.out.below HB.out)
              have y0 : w40.cell? ⟨w.heap.size, 0, none⟩ = some (.int .i64 n) := (blk_cell HX0.out).trans rfl
              have y1 : w40.cell? ⟨w.heap.size, 1, none⟩ = some (.int .i64 r) := (blk_cell HX0.out).trans rfl
              have y2 : w40.cell? ⟨w.heap.size, 2, none⟩ = some (.slice A l.length ca) := (blk_cell HX0.out).trans rfl
              have z0 : w40.cell? ⟨bz, 0, none⟩ = some (.int .i64 n) := (blk_cell HZz.out).trans rfl
              have z1 : w40.cell? ⟨bz, 1, none⟩ = some (.int .i64 r) := (blk_cell HZz.out).trans rfl
              have z2 : w40.cell? ⟨bz, 2, none⟩ = some (.slice (some ⟨gz, oz, none⟩) lz.length cz) := (blk_cell HZz.out).trans rfl
              clear HB HX0 HZz HCz e0 hk hkn
              have Hc := Lib.hid (fine_any (n : Int) (r : Int) (some ⟨gz, oz, none⟩) cz lz w40 HRz.out (by omega))
              go_wp2_with fail
              refine Hc.out.mono ?_
              rintro e w41 ⟨v, rfl, ⟨bf, rfl, hfb⟩, hb⟩
              have HB41 := Lib.hid (below_trans' HB40.out hb)
              replace HL := Lib.hid (HL.out.below hb)
              replace HT := Lib.hid (HT.out.below hb)
              replace HRz := Lib.hid (HRz.out.below hb)
              replace y0 := cell_below hb y0
              replace y1 := cell_below hb y1
              replace y2 := cell_below hb y2
              replace z0 := cell_below hb z0
              replace z1 := cell_below hb z1
              replace z2 := cell_below hb z2
              clear hb Hc HB40
              cases bf
              · go_wp2_with fail
                refine (works_any _ HT.out).mono ?_
                rintro e wz ⟨v, rfl, rfl, hBz⟩
                go_wp2
                go_ret
                exact Ret.mk' rfl ⟨rfl, below_trans' HB41.out hBz⟩
              obtain ⟨hkb, hfc⟩ := hfb.1 rfl
              have HKb := Lib.hid hkb
              have HFb := Lib.hid hfc
              clear hkb hfc hfb
              have hbc := best_bound HK.out HBc.out
              have Hc := Lib.hid (cheapY (ca := cz) HKb.out HFb.out (HRz.out : StepsAt w41 (some ⟨gz, oz, none⟩) lz) hz3)
              go_wp2_with fail
              refine Hc.out.mono ?_
              rintro e w42 ⟨v, rfl, ⟨t2, G2, c2, bd, rfl, _, _, _, _, hbd⟩, hb⟩
              have HB42 := Lib.hid (below_trans' HB41.out hb)
              replace HL := Lib.hid (HL.out.below hb)
              replace HT := Lib.hid (HT.out.below hb)
              replace HRz := Lib.hid (HRz.out.below hb)
              replace y0 := cell_below hb y0
              replace y1 := cell_below hb y1
              replace y2 := cell_below hb y2
              replace z0 := cell_below hb z0
              replace z1 := cell_below hb z1
              replace z2 := cell_below hb z2
              clear hb Hc HB41
              obtain rfl := (HRs.out.best (show r < n from hrn) (show v < n from hvn) hvr HBc.out).uniq hbd
              clear hbd
              have Hc := Lib.hid (gradesY (ca := ca) HK.out HF.out (HL.out : StepsAt w42 A l) hn1)
              go_wp2_with fail
              refine Hc.out.mono ?_
              rintro e w43 ⟨v, rfl, ⟨gg, Gg, cg, rfl, hg1, hg2, hg3⟩, hb⟩
              have HB43 := Lib.hid (below_trans' HB42.out hb)
              replace HL := Lib.hid (HL.out.below hb)
              replace HT := Lib.hid (HT.out.below hb)
              replace HRz := Lib.hid (HRz.out.below hb)
              replace y0 := cell_below hb y0
              replace y1 := cell_below hb y1
              replace y2 := cell_below hb y2
              replace z0 := cell_below hb z0
              replace z1 := cell_below hb z1
              replace z2 := cell_below hb z2
              clear hb Hc HB42
              have HGi := Lib.hid hg2
              have HGr := Lib.hid hg3
              have HGn := Lib.hid hg1
              clear hg1 hg2 hg3
              have Hc := Lib.hid (gradesY (ca := cz) HKb.out HFb.out (HRz.out : StepsAt w43 (some ⟨gz, oz, none⟩) lz) hz3)
              go_wp2_with fail
              refine Hc.out.mono ?_
              rintro e w44 ⟨v, rfl, ⟨hh, Gh, ch, rfl, hg1, hg2, hg3⟩, hb⟩
              have HB44 := Lib.hid (below_trans' HB43.out hb)
              replace HL := Lib.hid (HL.out.below hb)
              replace HT := Lib.hid (HT.out.below hb)
              replace HRz := Lib.hid (HRz.out.below hb)
              replace HGi := Lib.hid (HGi.out.below hb)
              replace y0 := cell_below hb y0
              replace y1 := cell_below hb y1
              replace y2 := cell_below hb y2
              replace z0 := cell_below hb z0
              replace z1 := cell_below hb z1
              replace z2 := cell_below hb z2
              clear hb Hc HB43
              obtain rfl := grades_same HRs.out (show r < n from hrn) (show v < n from hvn) hvr (best_tree HBc.out) HGn.out (hg1.trans Hlz.out) HGr.out hg3
              have HHi := Lib.hid hg2
              have hgl : hh.length ≤ 100000 := by have := HGn.out; omega
              clear hg1 hg2 hg3
              have hwg : IntKind.i64.wrap g = g := IntWalk.i64_in _ (by omega)
              have hws : IntKind.i64.wrap (bc + g) = bc + g := IntWalk.i64_in _ (by omega)
              have Hc := Lib.hid (ints_same Gg Gh cg ch hh w44 HGi.out HHi.out hgl)
              go_wp2_with fail
              refine Hc.out.mono ?_
              rintro e w45 ⟨v, rfl, rfl, hb⟩
              have HB45 := Lib.hid (below_trans' HB44.out hb)
              replace HL := Lib.hid (HL.out.below hb)
              replace HT := Lib.hid (HT.out.below hb)
              replace HRz := Lib.hid (HRz.out.below hb)
              replace HGi := Lib.hid (HGi.out.below hb)
              replace HHi := Lib.hid (HHi.out.below hb)
              replace y0 := cell_below hb y0
              replace y1 := cell_below hb y1
              replace y2 := cell_below hb y2
              replace z0 := cell_below hb z0
              replace z1 := cell_below hb z1
              replace z2 := cell_below hb z2
              clear hb Hc HB44
              go_wp2_with fail
              refine (works_any _ HT.out).mono ?_
              rintro e wz ⟨v, rfl, rfl, hBz⟩
              go_wp2
              go_ret
              exact Ret.mk' rfl ⟨rfl, below_trans' HB45.out hBz⟩
end Go.Proofs.YtggcooplhodocaaDoor
