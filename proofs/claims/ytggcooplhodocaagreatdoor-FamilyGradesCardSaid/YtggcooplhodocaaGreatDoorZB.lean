/- Trees: all trees of a book with few lists. -/
import Derived.Test.YtggcooplhodocaaGreatDoorZA
import Derived.Deep.RegionLawGrows
namespace Go.Proofs.YtggcooplhodocaaGreatDoor
open Go.RowKit Go.Shelf Go.Maps Fam
/-- a list as it lies: where, how many, its room -/
abbrev Ls := Option Addr × Nat × Nat
def encLs (q : Ls) : List Value := [.slice q.1 q.2.1 q.2.2]
theorem encLs_len (q : Ls) : (encLs q).length = 1 := rfl
theorem oneLs (x : Ls) : ∀ u ∈ encLs x, u.oneCell' = true := by simp [encLs, Value.oneCell']
theorem elemLs : ElemT 28 1 24 (.slice none 0 0) := ⟨by kernel_rfl, rfl, by omega, by omega⟩
def ListsIn (w : World) (Q : List Ls) (L : List (List Int)) : Prop := Q.length = L.length ∧ ∀ i (h : i < Q.length) (h' : i < L.length), Q[i].2.1 = L[i].length ∧ IntsAt w Q[i].1 L[i]
def ListsAt (w : World) (A : Option Addr) (L : List (List Int)) : Prop := ∃ Q, RowsAt encLs 1 w A Q ∧ ListsIn w Q L
theorem ListsIn.below {w w' : World} {Q : List Ls} {L : List (List Int)} (h : ListsIn w Q L) (hb : Below w.heap.size w w') : ListsIn w' Q L := ⟨h.1, fun i h1 h2 => ⟨(h.2 i h1 h2).1, IntsAt.below (h.2 i h1 h2).2 hb⟩⟩
theorem ListsAt.below {w w' : World} {A : Option Addr} {L : List (List Int)} (h : ListsAt w A L) (hb : Below w.heap.size w w') : ListsAt w' A L := by
  obtain ⟨Q, h1, h2⟩ := h
  exact ⟨Q, h1.below hb, h2.below hb⟩
theorem ListsAt.at_ {w : World} {A : Option Addr} {L : List (List Int)} (h : ListsAt w A L) {i : Nat} (hi : i < L.length) : ∃ b off G c, A = some ⟨b, off, none⟩ ∧ w.cell? ⟨b, off + i, none⟩ = some (.slice G L[i].length c) ∧ IntsAt w G L[i] := by
  obtain ⟨Q, h1, h2, h3⟩ := h
  have hi' : i < Q.length := by omega
  obtain ⟨b, off, e, hc⟩ := h1 i hi'
  obtain ⟨e1, e2⟩ := h3 i hi' hi
  refine ⟨b, off, Q[i].1, Q[i].2.2, e, ?_, e2⟩
  have := hc 0 _ rfl
  rw [← e1]
  simpa using this
def ListsOwn (w : World) (base : Nat) (Q : List Ls) (L : List (List Int)) : Prop := Q.length = L.length ∧ ∀ i (h : i < Q.length) (h' : i < L.length), Q[i].2.1 = L[i].length ∧ w.ownsRow base 3 1 (.slice Q[i].1 L[i].length Q[i].2.2) L[i].length (L[i].flatMap encI)
theorem ListsOwn.lists {w : World} {base : Nat} {Q : List Ls} {L : List (List Int)} (h : ListsOwn w base Q L) : ListsIn w Q L := ⟨h.1, fun i h1 h2 => ⟨(h.2 i h1 h2).1, RowsAt.of_own encI_len (h.2 i h1 h2).2⟩⟩
theorem ListsOwn.below {w w' : World} {base : Nat} {Q : List Ls} {L : List (List Int)} (h : ListsOwn w base Q L) (hb : Below w.heap.size w w') : ListsOwn w' base Q L := ⟨h.1, fun i h1 h2 => ⟨(h.2 i h1 h2).1, own_below' (h.2 i h1 h2).2 hb⟩⟩
theorem ListsOwn.kept {w w' : World} {base base2 : Nat} {Q : List Ls} {L : List (List Int)} (h : ListsOwn w base Q L) {e : TypeId} {size n : Nat} {v : Value} {xs : List Value} (ho : w.ownsRow base2 e size v n xs) (hne : 3 ≠ e) (hg : w.grownBy w' v.ownBlock) : ListsOwn w' base Q L :=
  ⟨h.1, fun i h1 h2 => ⟨(h.2 i h1 h2).1, (h.2 i h1 h2).2.kept hg (own_apart (h.2 i h1 h2).2 ho hne)⟩⟩
theorem ListsOwn.nil (w : World) (base : Nat) : ListsOwn w base [] [] := ⟨rfl, fun i h _ => by simp at h⟩
theorem ListsOwn.snoc {w : World} {base : Nat} {Q : List Ls} {L : List (List Int)} (h : ListsOwn w base Q L) {q : Ls} {x : List Int} (h1 : q.2.1 = x.length) (h2 : w.ownsRow base 3 1 (.slice q.1 x.length q.2.2) x.length (x.flatMap encI)) : ListsOwn w base (Q ++ [q]) (L ++ [x]) :=
  ⟨by simp [h.1], fun i hi hi' => by
    by_cases e : i < Q.length
    · have e' : i < L.length := by have := h.1; omega
      rw [List.getElem_append_left e, List.getElem_append_left e']
      exact h.2 i e e'
    · have e1 : i = Q.length := by simp at hi; omega
      have e2 : ¬ i < L.length := by have := h.1; omega
      rw [List.getElem_append_right (by omega), List.getElem_append_right (by have := h.1; omega)]
      simp only [List.getElem_singleton]
      exact ⟨h1, h2⟩⟩
theorem ListsIn.nil (w : World) : ListsIn w [] [] := ⟨rfl, fun i h _ => by simp at h⟩
theorem ListsIn.snoc {w : World} {Q : List Ls} {L : List (List Int)} (h : ListsIn w Q L) {q : Ls} {x : List Int} (h1 : q.2.1 = x.length) (h2 : IntsAt w q.1 x) : ListsIn w (Q ++ [q]) (L ++ [x]) :=
  ⟨by simp [h.1], fun i hi hi' => by
    by_cases e : i < Q.length
    · have e' : i < L.length := by have := h.1; omega
      rw [List.getElem_append_left e, List.getElem_append_left e']
      exact h.2 i e e'
    · have e1 : i = Q.length := by simp at hi; omega
      have e2 : ¬ i < L.length := by have := h.1; omega
      rw [List.getElem_append_right (by omega), List.getElem_append_right (by have := h.1; omega)]
      simp only [List.getElem_singleton]
      exact ⟨h1, h2⟩⟩
theorem own_at {w : World} {base : Nat} {e : TypeId} {size b n c : Nat} {xs : List Value} (h : w.ownsRow base e size (.slice (some ⟨b, 0, none⟩) n c) n xs) : base ≤ b ∧ ∃ cur, w.heap[b]? = some (.cells cur e (0, 0)) := by
  rcases h.2 with ⟨h1, _⟩ | ⟨g, cap, cur, h1, h2, h3, _⟩
  · cases h1
  · cases h1; exact ⟨h2, cur, h3⟩
theorem own_mk0 (w : World) (base : Nat) (hb : base ≤ w.heap.size) (e : TypeId) : (w.alloc (.cells #[] e)).ownsRow base e 1 (.slice (some ⟨w.heap.size, 0, none⟩) 0 0) 0 [] := World.ownsRow_made w #[] 0 hb (Nat.zero_le _) (by simp)
/-- append of whatever many elements to an empty row, at a step of a region that draws -/
theorem step_append_first {ops : Array Oper} {o : Oper} {a : Act} {w : World} {K : Act → World → Prop} {Q : Exit → Act → World → Prop} {E : Prop}
    (hg : o.guard = none) (s x : Operand) (t : TypeId) (hop : o.op = Op.call { callee := Callee.builtin Builtin.append, args := #[s, x], argTypes := #[t, t] })
    (e : TypeId) (i : TypeInfo) (z : Value) (size bytes : Nat) (h1 : Tryz.prog.underlying t = some (.slice e)) (h2 : Tryz.prog.info? e = some i) (h3 : i.zero = some z) (h4 : i.size = size) (h5 : i.bytes = bytes) (h6 : z.cells.size = size) (h7 : 0 < size)
    (g : Nat) (hs : a.eval s = .slice (some ⟨g, 0, none⟩) 0 0) (base : Nat) (hbase : base ≤ w.heap.size) (hown : w.ownsRow base e size (.slice (some ⟨g, 0, none⟩) 0 0) 0 [])
    (A : Option Addr) (m c : Nat) (news : List Value) (hx : a.eval x = .slice A m c) (hA : A = none → m = 0) (hn : news.length = m * size) (hc : ∀ ad, A = some ad → ∀ j u, news[j]? = some u → w.cell? (ad.add j) = some u) (h1c : ∀ u ∈ news, u.oneCell' = true)
    (b1 : m ≤ maxLen) (b2 : m * bytes ≤ 140737488355328)
    (hK : ∀ b' c' w', w'.ownsRow base e size (.slice (some ⟨b', 0, none⟩) m c') m news → w.grownBy w' none → K (a.put o.dst (.slice (some ⟨b', 0, none⟩) m c')) w') :
    if Region.wanted o (yielded ops a.tmps) = true then Oper.wp Tryz.prog o a w K Q else E := by
  by_cases hm : m = 0
  · subst hm
    have hnil : news = [] := List.eq_nil_of_length_eq_zero (by omega)
    subst hnil
    have hw : Region.wanted o (yielded ops a.tmps) = true := by simp [Region.wanted, hg]
    rw [if_pos hw]
    have hrun : (Builtin.append_ #[t, t] o.type #[.slice (some ⟨g, 0, none⟩) 0 0, .slice A 0 c]).run Tryz.prog w = .ok (.slice (some ⟨g, 0, none⟩) 0 0) w := by
      subst h4
      cases A with
      | some ad =>
        have h := run_append_room_cells (P := Tryz.prog) w t o.type e i h1 h2 g 0 0 0 ad 0 c [] (by simp) (by simp) (by simp) (Nat.le_refl _) (by simp) (by simp)
        simpa [World.setCells] using h
      | none =>
        simp [Builtin.append_, run_underlying h1, sizeOf, typeInfo, h2, Builtin.lenOf, Builtin.firstCells, storeCells]
    unfold Oper.wp
    simp [execOp, hop, resolve, invoke, builtin, hs, hx, hrun, Result.andThen]
    exact hK _ _ _ hown (World.grownBy.refl _ _)
  · cases A with
    | none => exact absurd (hA rfl) hm
    | some ad =>
      refine step_append_grows hg s x t hop e i z size bytes h1 h2 h3 h4 h5 h6 h7 (some ⟨g, 0, none⟩) 0 0 [] hs (fun h => by cases h) (by simp) (fun _ _ j u hj => by simp at hj) ad m c news hx hn (hc ad rfl) h1c (by omega) (by omega) (by rw [Nat.zero_add]; exact b2) ?_
      intro v' w' hown' hgrow
      rw [Nat.zero_add, List.nil_append] at hown'
      obtain ⟨b, c', rfl, hb⟩ := hown'.form (by omega)
      exact hK _ _ _ (own_mono hown' hbase) hgrow
theorem wpList_append_first (w : World) {ops : Array Oper} {rest : List Oper} {o : Oper} {a : Act} {Q : Exit → Act → World → Prop}
    (hg : o.guard = none) (s x : Operand) (t : TypeId) (hop : o.op = Op.call { callee := Callee.builtin Builtin.append, args := #[s, x], argTypes := #[t, t] })
    (e : TypeId) (i : TypeInfo) (z : Value) (size bytes : Nat) (h1 : Tryz.prog.underlying t = some (.slice e)) (h2 : Tryz.prog.info? e = some i) (h3 : i.zero = some z) (h4 : i.size = size) (h5 : i.bytes = bytes) (h6 : z.cells.size = size) (h7 : 0 < size)
    (g : Nat) (hs : a.eval s = .slice (some ⟨g, 0, none⟩) 0 0) (base : Nat) (hbase : base ≤ w.heap.size) (hown : w.ownsRow base e size (.slice (some ⟨g, 0, none⟩) 0 0) 0 [])
    (A : Option Addr) (m c : Nat) (news : List Value) (hx : a.eval x = .slice A m c) (hA : A = none → m = 0) (hn : news.length = m * size) (hc : ∀ ad, A = some ad → ∀ j u, news[j]? = some u → w.cell? (ad.add j) = some u) (h1c : ∀ u ∈ news, u.oneCell' = true)
    (b1 : m ≤ maxLen) (b2 : m * bytes ≤ 140737488355328)
    (hK : ∀ b' c' w', w'.ownsRow base e size (.slice (some ⟨b', 0, none⟩) m c') m news → w.grownBy w' none → wpList Tryz.prog ops Q rest (a.put o.dst (.slice (some ⟨b', 0, none⟩) m c')) w') :
    wpList Tryz.prog ops Q (o :: rest) a w := by
  refine wpList_plain hg fun K hK' => ?_
  by_cases hm : m = 0
  · subst hm
    have hnil : news = [] := List.eq_nil_of_length_eq_zero (by omega)
    subst hnil
    have hrun : (Builtin.append_ #[t, t] o.type #[.slice (some ⟨g, 0, none⟩) 0 0, .slice A 0 c]).run Tryz.prog w = .ok (.slice (some ⟨g, 0, none⟩) 0 0) w := by
      subst h4
      cases A with
      | some ad =>
        have h := run_append_room_cells (P := Tryz.prog) w t o.type e i h1 h2 g 0 0 0 ad 0 c [] (by simp) (by simp) (by simp) (Nat.le_refl _) (by simp) (by simp)
        simpa [World.setCells] using h
      | none =>
        simp [Builtin.append_, run_underlying h1, sizeOf, typeInfo, h2, Builtin.lenOf, Builtin.firstCells, storeCells]
    unfold Oper.wp
    simp [execOp, hop, resolve, invoke, builtin, hs, hx, hrun, Result.andThen]
    exact hK' _ _ (hK _ _ _ hown (World.grownBy.refl _ _))
  · cases A with
    | none => exact absurd (hA rfl) hm
    | some ad =>
      obtain ⟨v', w', hrun, r1, r2⟩ := run_append_arg_grows (P := Tryz.prog) w t o.type e i z size bytes h1 h2 h3 h4 h5 h6 h7 ⟨g, 0, none⟩ 0 0 [] (by simp) (fun j u hj => by simp at hj) ad m c news hn (hc ad rfl) (by omega) (by omega) (by rw [Nat.zero_add]; exact b2)
      rw [Nat.zero_add, List.nil_append] at r1
      obtain ⟨b, c', rfl, hb⟩ := r1.form (by omega)
      unfold Oper.wp
      simp [execOp, hop, resolve, invoke, builtin, hs, hx, hrun, Result.andThen]
      exact hK' _ _ (hK _ _ _ (own_mono r1 hbase) r2)
theorem lists_one (w : World) : ListsAt ((w.alloc (.cells #[] 3)).alloc (.cells #[.slice (some ⟨w.heap.size, 0, none⟩) 0 0] 28)) (some ⟨w.heap.size + 1, 0, none⟩) [[]] := by
  refine ⟨[(some ⟨w.heap.size, 0, none⟩, 0, 0)], fun i hi => ?_, rfl, fun i hi hi' => ?_⟩
  · have e : i = 0 := by simpa using hi
    subst e
    refine ⟨w.heap.size + 1, 0, rfl, fun m v hv => ?_⟩
    have hm : m = 0 := by
      have := (List.getElem?_eq_some_iff.1 hv).1
      rw [encLs_len] at this; omega
    subst hm
    have h := heap_alloc_at (w.alloc (.cells #[] 3)) (.cells #[.slice (some ⟨w.heap.size, 0, none⟩) 0 0] 28) (World.size_alloc _ _)
    refine (blk_cell h).trans ?_
    simpa [encLs] using hv
  · have e : i = 0 := by simpa using hi
    subst e
    exact ⟨rfl, IntsAt.nil⟩
set_option maxRecDepth 100000 in
set_option maxHeartbeats 8000000 in
theorem rTrees_any (S R : Int) (A : Option Addr) (ca : Nat) (l : List St) (w : World) (hl : StepsAt w A l) (hok : BookOk S R l) (hfew : ∀ k, k ≤ S.toNat → (prodL (netB S R l) k).length ≤ 5000) :
    Calls Tryz.prog 29 #[vBook S R A l.length ca] w (Ret fun u w' => (∃ G c, u = .slice G (treesL (netB S R l)).length c ∧ ListsAt w' G (treesL (netB S R l))) ∧ Below w.heap.size w w') := by
  have HL := Lib.hid hl; clear hl
  have hmany := hok.many
  have hdim := hok.dim
  have hroot := hok.root
  have HK := Lib.hid hok; clear hok
  have HFew := Lib.hid hfew; clear hfew
  obtain ⟨n, rfl⟩ := Int.eq_ofNat_of_zero_le (by omega : 0 ≤ S)
  obtain ⟨r, rfl⟩ := Int.eq_ofNat_of_zero_le hroot.1
  have hn16 : n ≤ 16 := by omega
  have hrn : r < n := by omega
  rw [Int.toNat_natCast] at HFew
  obtain ⟨N, hN⟩ : ∃ N, N = netB (n : Int) (r : Int) l := ⟨_, rfl⟩
  have HNr : Hid (N.r = r) := Lib.hid (by rw [hN]; rfl)
  have HNn : Hid (N.n = n) := Lib.hid (by rw [hN]; rfl)
  have HNm : Hid (N.m = l.length) := Lib.hid (by rw [hN]; rfl)
  have HInto : Hid (∀ (k : Nat) (W : World), StepsAt W A l → Calls Tryz.prog 40 #[vBook (n : Int) (r : Int) A l.length ca, .int .i64 k] W (Ret fun u w' => (∃ G c, u = .slice G (intoL N k).length c ∧ IntsAt w' G (intoL N k)) ∧ Below W.heap.size W w')) := Lib.hid fun k W h => by rw [hN]; exact rInto_any (n : Int) (r : Int) A ca l k W h HK.out
  have HTree : Hid (∀ (B : Option Addr) (cb : Nat) (t : List Int) (W : World), StepsAt W A l → IntsAt W B t → t.length ≤ 100000 → Calls Tryz.prog 11 #[vBook (n : Int) (r : Int) A l.length ca, .slice B t.length cb] W (Ret fun v w' => (∃ b e : Int, v = .tuple #[.int .i64 b, .int .i64 e] ∧ (e = 0 ↔ TreeL N t)) ∧ Below W.heap.size W w')) := Lib.hid fun B cb t W h1 h2 h3 => by
    refine (rCheckTree_any (n : Int) (r : Int) A B ca cb l t W h1 h2 (by omega) h3).mono ?_
    rintro e w' ⟨v, rfl, rfl, hb⟩
    refine Ret.mk ⟨⟨_, _, rfl, ?_⟩, hb⟩
    rw [hN]
    exact treeV_iff HK.out
  rw [← hN] at HFew ⊢
  clear hN
  unfold vBook at HInto HTree ⊢
  have hX := heap_alloc_new w (.cells #[.int .i64 n, .int .i64 r, .slice A l.length ca] 24)
  have hb := below_alloc' (Below.refl w.heap.size w) (.cells #[.int .i64 n, .int .i64 r, .slice A l.length ca] 24)
  have y0 := (blk_cell (i := 0) hX).trans rfl
  have y1 := (blk_cell (i := 1) hX).trans rfl
  have y2 := (blk_cell (i := 2) hX).trans rfl
  go_enter Tryz.func29, Tryz.ntmps29
  go_upto_region 1 with fail
  have HB1 := Lib.hid hb
  replace HL := Lib.hid (HL.out.below hb)
  clear hb hX
  generalize w.alloc (.cells #[.int .i64 n, .int .i64 r, .slice A l.length ca] 24) = w1 at *
  have HP0 := Lib.hid (lists_one w1)
  have hb := below_alloc' (below_alloc' (Below.refl w1.heap.size w1) (.cells #[] 3)) (.cells #[.slice (some ⟨w1.heap.size, 0, none⟩) 0 0] 28)
  have HB2 := Lib.hid (below_trans' HB1.out hb)
  replace HL := Lib.hid (HL.out.below hb)
  replace y0 := cell_below hb y0
  replace y1 := cell_below hb y1
  replace y2 := cell_below hb y2
  go_upto_region 2 with fail
  clear hb HB1 hdim hroot
  generalize (w1.alloc (.cells #[] 3)).alloc (.cells #[.slice (some ⟨w1.heap.size, 0, none⟩) 0 0] 28) = w2 at *
  have HPl : Hid ((prodL N 0).length = 1) := Lib.hid rfl
  go_wp2
  go_loopw [3, 4] (fun s3 i wr => ∃ (k : Nat) (G : Option Addr) (c : Nat), k ≤ n ∧ i = .int .i64 k ∧ s3 = .slice G (prodL N k).length c ∧ Hid (ListsAt wr G (prodL N k)) ∧ Hid (Below w2.heap.size w2 wr)) (fun _ i _ => n - (intOf i).toNat)
  case atStart => exact ⟨0, some ⟨w1.heap.size + 1, 0, none⟩, 1, by omega, rfl, rfl, HP0, Lib.hid (Below.refl _ _)⟩
  case round =>
    clear HP0 HPl
    obtain ⟨k, G3, c3, hk, rfl, rfl, HP, HB⟩ := hrel
    obtain ⟨w3, hw3⟩ : ∃ x, x = wr := ⟨_, rfl⟩
    subst hw3
    replace y0 := cell_below HB.out y0
    replace y1 := cell_below HB.out y1
    replace y2 := cell_below HB.out y2
    replace HL := Lib.hid (HL.out.below HB.out)
    by_cases hkn : k < n
    · have ij0 : (0 : Int) ≤ (k : Int) := by omega
      have hPl := HFew.out k hk
      have hPl2 := HFew.out (k + 1) (by omega)
      have HPl2 := Lib.hid hPl2
      have HPr : Hid (∀ t ∈ prodL N k, t.length = k) := Lib.hid fun t h => prodL_row h
      clear hPl2
      obtain ⟨P, hP⟩ : ∃ P, P = prodL N k := ⟨_, rfl⟩
      have HPe := Lib.hid hP
      rw [← hP] at HP HPr hPl
      have hpl : (prodL N k).length = P.length := by rw [hP]
      rw [hpl]
      clear hP hpl
      have Hc := Lib.hid (HInto.out k w3 HL.out)
      have hil := intoL_len N k
      rw [HNm.out] at hil
      go_wp2_with fail
      refine Hc.out.mono ?_
      rintro e w4 ⟨v, rfl, ⟨G5, c5, rfl, hI⟩, hb⟩
      have HI := Lib.hid hI
      replace HB := Lib.hid (below_trans' HB.out hb)
      replace y0 := cell_below hb y0
      replace y1 := cell_below hb y1
      replace y2 := cell_below hb y2
      replace HL := Lib.hid (HL.out.below hb)
      replace HP := Lib.hid (HP.out.below hb)
      clear hb Hc hI
      go_upto_if 27 with fail
      go_cut [5] (fun s5 wx => ∃ (G : Option Addr) (c : Nat) (O : List Int), O = optsL N k ∧ s5 = .slice G O.length c ∧ O.length ≤ 200 ∧ Hid (IntsAt wx G O) ∧ Hid (Below w4.heap.size w4 wx))
      case first =>
        by_cases hkr : k = r
        · have d1 : ((k : Int) == (r : Int)) = true := by simp [hkr]
          have HO : Hid (optsL N k = [-1]) := Lib.hid (by unfold optsL; rw [if_pos (by rw [HNr.out]; exact hkr)])
          have hb := below_alloc' (Below.refl w4.heap.size w4) (.cells #[.int .i64 (-1)] 3)
          have HIn : Hid (IntsAt (w4.alloc (.cells #[.int .i64 (-1)] 3)) (some ⟨w4.heap.size, 0, none⟩) [-1]) := Lib.hid (rows_new encI_len w4 [-1] #[.int .i64 (-1)] 3 rfl)
          have Hbb := Lib.hid hb
          have Hkr := Lib.hid hkr
          clear hb hkr
          go_wp2_with fail
          go_meet
          exact ⟨_, _, [-1], HO.out.symm, rfl, by simp, HIn, Hbb⟩
        · have d1 : ((k : Int) == (r : Int)) = false := by simp; omega
          have HO : Hid (intoL N k = optsL N k) := Lib.hid (by unfold optsL; rw [if_neg (by rw [HNr.out]; exact hkr)])
          have HBr := Lib.hid (Below.refl w4.heap.size w4)
          generalize intoL N k = O at *
          clear hkr
          go_wp2_with fail
          go_meet
          exact ⟨_, _, O, HO.out, rfl, by omega, HI, HBr⟩
      case rest =>
        clear HI hil
        obtain ⟨GO, cO, O, hO, rfl, hOl, HI, HBx⟩ := hcut
        have HOe := Lib.hid hO
        clear hO
        obtain ⟨w5, hw5⟩ : ∃ x, x = wc := ⟨_, rfl⟩
        subst hw5
        replace HB := Lib.hid (below_trans' HB.out HBx.out)
        replace y0 := cell_below HBx.out y0
        replace y1 := cell_below HBx.out y1
        replace y2 := cell_below HBx.out y2
        replace HL := Lib.hid (HL.out.below HBx.out)
        replace HP := Lib.hid (HP.out.below HBx.out)
        clear HBx w4
        have HT0 : Hid (ListsOwn w5 w5.heap.size [] (partL N k 0 0)) := Lib.hid (by rw [partL_zero]; exact ListsOwn.nil _ _)
        have HO0 : Hid (w5.ownsRow w5.heap.size 28 1 (.slice none 0 0) ([] : List Ls).length (([] : List Ls).flatMap encLs)) := Lib.hid (World.ownsRow_nil w5 w5.heap.size 28 1)
        have HBr0 := Lib.hid (Below.refl w5.heap.size w5)
        go_wp2
        go_loopw [6, 7] (fun s6 ii wr => ∃ (i : Nat) (Q : List Ls), i ≤ P.length ∧ ii = .int .i64 i ∧ Hid (wr.ownsRow w5.heap.size 28 1 s6 Q.length (Q.flatMap encLs)) ∧ Hid (ListsOwn wr w5.heap.size Q (partL N k i 0)) ∧ Hid (Below w5.heap.size w5 wr)) (fun _ ii _ => P.length - (intOf ii).toNat)
        case atStart => exact ⟨0, [], by omega, rfl, HO0, HT0, HBr0⟩
        case round =>
          clear HT0 HO0 HBr0
          obtain ⟨i, Q1, hi, rfl, HO1, HT1, HB1⟩ := hrel
          obtain ⟨w6, hw6⟩ : ∃ x, x = wr := ⟨_, rfl⟩
          subst hw6
          by_cases hin : i < P.length
          · have i0 : (0 : Int) ≤ (i : Int) := by omega
            have i1 : (i : Int) < (P.length : Int) := by omega
            have HUp : Hid (partL N k i O.length = partL N k (i + 1) 0) := Lib.hid (by rw [HOe.out]; exact partL_up (by rw [← HPe.out]; exact hin))
            have HPm : Hid (∀ j, j ≤ O.length → (partL N k i j).length ≤ 5000) := Lib.hid fun j hj => Nat.le_trans (partL_len (by rw [← HPe.out]; exact hin) (by rw [← HOe.out]; exact hj)) HPl2.out
            have HPn : Hid (∀ j (h : j < O.length), partL N k i (j + 1) = partL N k i j ++ [P[i] ++ [O[j]]]) := Lib.hid fun j hj => by
              rw [partL_next (by rw [← HOe.out]; exact hj), ← HPe.out, ← HOe.out, List.getD_eq_getElem?_getD, List.getD_eq_getElem?_getD, List.getElem?_eq_getElem hin, List.getElem?_eq_getElem hj]
              rfl
            have htl : P[i].length ≤ 16 := by rw [HPr.out _ (List.getElem_mem hin)]; omega
            obtain ⟨b1, o1, G1, c1, rfl, p1w, h1w⟩ := ListsAt.at_ HP.out hin
            have hb1 := block_lt_of_cell p1w
            have H1 := Lib.hid h1w
            have P1 := Lib.hid p1w
            have HNIL : Hid (G1 = none → P[i].length = 0) := Lib.hid fun e => by
              by_cases e0 : P[i].length = 0
              · exact e0
              · obtain ⟨b, o, e1, _⟩ := h1w 0 (by omega)
                rw [e] at e1; cases e1
            clear h1w p1w
            generalize P[i] = t at *
            go_wp2
            go_loopw [6, 8] (fun s6 jj wr => ∃ (j : Nat) (Q : List Ls), j ≤ O.length ∧ jj = .int .i64 j ∧ Hid (wr.ownsRow w5.heap.size 28 1 s6 Q.length (Q.flatMap encLs)) ∧ Hid (ListsOwn wr w5.heap.size Q (partL N k i j)) ∧ Hid (Below w5.heap.size w5 wr)) (fun _ jj _ => O.length - (intOf jj).toNat)
            case atStart => exact ⟨0, Q1, by omega, rfl, HO1, HT1, HB1⟩
            case round =>
              clear HO1 HT1 HB1
              obtain ⟨j, Q, hj, rfl, HO, HT, HB6⟩ := hrel
              obtain ⟨wv, hwv⟩ : ∃ x, x = wr := ⟨_, rfl⟩
              subst hwv
              by_cases hjn : j < O.length
              · have j0 : (0 : Int) ≤ (j : Int) := by omega
                have j1 : (j : Int) < (O.length : Int) := by omega
                obtain ⟨b2, o2, rfl, p2w⟩ := IntsAt.at_ HI.out hjn
                have hb2 := block_lt_of_cell p2w
                have HPj := Lib.hid (HPn.out j hjn)
                have hPm := HPm.out j hj
                generalize O[j] = x at p2w HPj
                have hQl := HT.out.1
                have HSF : Hid (∀ W, Below w5.heap.size w5 W → W.cell? ⟨b1, o1 + i, none⟩ = some (.slice G1 t.length c1) ∧ W.cell? ⟨b2, o2 + j, none⟩ = some (.int .i64 x)) := Lib.hid fun W h => ⟨cell_below h P1.out, cell_below h p2w⟩
                have HOL : Hid (∀ W, Below w5.heap.size w5 W → ∀ ad, G1 = some ad → ∀ jj u, (t.flatMap encI)[jj]? = some u → W.cell? (ad.add jj) = some u) := Lib.hid fun W hW ad e jj u hj => RowsAt.olds encI_len (IntsAt.below H1.out hW) _ e jj u hj
                have HLZ : Hid ((t.flatMap encI).length = t.length * 1) := Lib.hid (flatMap_len encI_len t)
                obtain ⟨i0, q0, q1, q2, q3⟩ := info_parts elemI.info
                have hQ5 : Q.length ≤ 5000 := by omega
                clear hQl hPm p2w
                have HBv : Hid (Below wv.heap.size wv wv.drew) := Lib.hid ((Below.refl _ _).drew)
                have HTR : Hid (∀ W, Below wv.heap.size wv W → Below w5.heap.size w5 W) := Lib.hid fun W h => below_trans' HB6.out h
                go_upto_region 15 with fail
                refine wp_region_held_drew (S := fun W => W.cell? ⟨b1, o1 + i, none⟩ = some (.slice G1 t.length c1) ∧ W.cell? ⟨b2, o2 + j, none⟩ = some (.int .i64 x)) (by kernel_rfl) (HSF.out _ (HTR.out _ HBv.out)) (fun hS9 => ?_)
                clear hS9
                refine wpAnyH_take (i := 0) (v := ?_) rfl (by kernel_rfl) (by kernel_rfl) (by kernel_rfl) (fun _ _ _ h => h) (Or.inl ⟨by rfl, ?_⟩) (HSF.out _ (HTR.out _ HBv.out)) ?_
                rotate_left 1
                · intro W hW; obtain ⟨s0, s1⟩ := hW; go_simp <;> with_reducible rfl
                refine wpAnyH_take (i := 2) (v := ?_) rfl (by kernel_rfl) (by kernel_rfl) (by kernel_rfl) (fun _ _ _ h => h) (Or.inl ⟨by rfl, ?_⟩) (HSF.out _ (HTR.out _ HBv.out)) ?_
                rotate_left 1
                · intro W hW; obtain ⟨s0, s1⟩ := hW; go_simp <;> with_reducible rfl
                refine wpAnyH_take (i := 3) (v := ?_) rfl (by kernel_rfl) (by kernel_rfl) (by kernel_rfl) (fun _ _ _ h => h) (Or.inl ⟨by rfl, ?_⟩) (HSF.out _ (HTR.out _ HBv.out)) ?_
                rotate_left 1
                · intro W hW; obtain ⟨s0, s1⟩ := hW; go_simp <;> with_reducible rfl
                refine wpAnyH_take (i := 4) (v := ?_) rfl (by kernel_rfl) (by kernel_rfl) (by kernel_rfl) (fun _ _ _ h => h) (Or.inl ⟨by rfl, ?_⟩) (HSF.out _ (HTR.out _ HBv.out)) ?_
                rotate_left 1
                · intro W hW; obtain ⟨s0, s1⟩ := hW; go_simp <;> with_reducible rfl
                refine wpAnyH_take (i := 5) (v := ?_) rfl (by kernel_rfl) (by kernel_rfl) (by kernel_rfl) (fun _ _ _ h => h) (Or.inl ⟨by rfl, ?_⟩) (HSF.out _ (HTR.out _ HBv.out)) ?_
                rotate_left 1
                · intro W hW; obtain ⟨s0, s1⟩ := hW; go_simp <;> with_reducible rfl
                refine wpAnyH_take (i := 7) (v := ?_) rfl (by kernel_rfl) (by kernel_rfl) (by kernel_rfl) (fun _ _ _ h => h) (Or.inl ⟨by rfl, ?_⟩) (HSF.out _ (HTR.out _ HBv.out)) ?_
                rotate_left 1
                · intro W hW; obtain ⟨s0, s1⟩ := hW; go_simp <;> with_reducible rfl
                refine wpAnyH_take (i := 8) (v := ?_) rfl (by kernel_rfl) (by kernel_rfl) (by kernel_rfl) (fun _ _ _ h => h) (Or.inl ⟨by rfl, ?_⟩) (HSF.out _ (HTR.out _ HBv.out)) ?_
                rotate_left 1
                · intro W hW; obtain ⟨s0, s1⟩ := hW; go_simp <;> with_reducible rfl
                refine wpAnyH_take (i := 9) (v := ?_) rfl (by kernel_rfl) (by kernel_rfl) (by kernel_rfl) (fun _ _ _ h => h) (Or.inl ⟨by rfl, ?_⟩) (HSF.out _ (HTR.out _ HBv.out)) ?_
                rotate_left 1
                · intro W hW; obtain ⟨s0, s1⟩ := hW; go_simp <;> with_reducible rfl
                refine wpAnyH_take (i := 10) (v := ?_) rfl (by kernel_rfl) (by kernel_rfl) (by kernel_rfl) (fun _ _ _ h => h) (Or.inl ⟨by rfl, ?_⟩) (HSF.out _ (HTR.out _ HBv.out)) ?_
                rotate_left 1
                · intro W hW; obtain ⟨s0, s1⟩ := hW; go_simp <;> with_reducible rfl
                simp only [Act.put, List.setIfInBounds_toArray]
                generalize wv.drew = V0 at *
                apply joinDag
                · intro F
                  refine wpAnyH_ready (rs := [1, 11]) (by kernel_rfl) (by simp) ?_
                  refine AllReadyH.cons rfl (fun K hK => ?_) (AllReadyH.cons rfl (fun K hK => ?_) AllReadyH.nil)
                  · go_simp
                    have hal : Below V0.heap.size V0 (V0.alloc (.cells #[] 3)) := below_alloc' (Below.refl _ _) _
                    have hbs := HBv.out.size
                    have hmk := own_mk0 V0 wv.heap.size hbs 3
                    replace HBv := Lib.hid (below_trans' HBv.out hal)
                    refine hK.out _ _ (HSF.out _ (HTR.out _ HBv.out)) (fun hS9 => ?_)
                    clear hS9 hK K hal hbs
                    generalize V0.alloc (.cells #[] 3) = V1 at *
                    generalize V0.heap.size = bM at *
                    have HOM := Lib.hid hmk
                    clear hmk
                    refine wpAnyH_ready (rs := [6, 11]) (by kernel_rfl) (by simp) ?_
                    refine AllReadyH.cons rfl (fun K hK => ?_) (AllReadyH.cons rfl (fun K hK => ?_) AllReadyH.nil)
                    · refine step_append_first rfl (.tmp 42) (.tmp 46) 28 rfl 3 i0 (.int .i64 0) 1 8 Tryz.underlying28 q0 q1 q2 q3 rfl (by omega) bM (by rfl) wv.heap.size HBv.out.size HOM.out G1 t.length c1 (t.flatMap encI) (by rfl) HNIL.out HLZ.out (fun ad e j u hj => HOL.out _ (HTR.out _ HBv.out) ad e j u hj) (oneFlat oneI t) (by simp only [maxLen]; omega) (by omega) ?_
                      intro ga c7 V2 hown hgrow
                      have hal : Below V1.heap.size V1 V2 := (Below.refl _ _).grown hgrow (Nat.le_refl _) (fun r e => by cases e)
                      replace HBv := Lib.hid (below_trans' HBv.out hal)
                      have HO7 := Lib.hid hown
                      refine hK.out _ _ (HSF.out _ (HTR.out _ HBv.out)) (fun hS9 => ?_)
                      clear hS9 hK K hal hown hgrow HOM
                      refine wpAnyH_ready (rs := [11]) (by kernel_rfl) (by simp) ?_
                      refine AllReadyH.cons rfl (fun K hK => ?_) AllReadyH.nil
                      go_simp
                      have hal : Below V2.heap.size V2 (V2.alloc (.cells #[.int .i64 x] 3)) := below_alloc' (Below.refl _ _) _
                      have hnb := heap_alloc_new V2 (.cells #[.int .i64 x] 3)
                      replace HBv := Lib.hid (below_trans' HBv.out hal)
                      replace HO7 := Lib.hid (HO7.out.alloc (.cells #[.int .i64 x] 3))
                      refine hK.out _ _ (HSF.out _ (HTR.out _ HBv.out)) (fun hS9 => ?_)
                      clear hS9 hK K hal
                      generalize V2.alloc (.cells #[.int .i64 x] 3) = V3 at *
                      generalize V2.heap.size = bN at *
                      have HNW := Lib.hid hnb
                      clear hnb
                      revert HBv
                      revert HNW
                      revert HO7
                      revert V3
                      revert bN
                      revert bM
                      revert c7
                      revert ga
                      exact F.out
                    · go_simp
                      have hal : Below V1.heap.size V1 (V1.alloc (.cells #[.int .i64 x] 3)) := below_alloc' (Below.refl _ _) _
                      have hnb := heap_alloc_new V1 (.cells #[.int .i64 x] 3)
                      replace HBv := Lib.hid (below_trans' HBv.out hal)
                      replace HOM := Lib.hid (HOM.out.alloc (.cells #[.int .i64 x] 3))
                      refine hK.out _ _ (HSF.out _ (HTR.out _ HBv.out)) (fun hS9 => ?_)
                      clear hS9 hK K hal
                      generalize V1.alloc (.cells #[.int .i64 x] 3) = V2 at *
                      generalize V1.heap.size = bN at *
                      have HNW := Lib.hid hnb
                      clear hnb
                      refine wpAnyH_ready (rs := [6]) (by kernel_rfl) (by simp) ?_
                      refine AllReadyH.cons rfl (fun K hK => ?_) AllReadyH.nil
                      refine step_append_first rfl (.tmp 42) (.tmp 46) 28 rfl 3 i0 (.int .i64 0) 1 8 Tryz.underlying28 q0 q1 q2 q3 rfl (by omega) bM (by rfl) wv.heap.size HBv.out.size HOM.out G1 t.length c1 (t.flatMap encI) (by rfl) HNIL.out HLZ.out (fun ad e j u hj => HOL.out _ (HTR.out _ HBv.out) ad e j u hj) (oneFlat oneI t) (by simp only [maxLen]; omega) (by omega) ?_
                      intro ga c7 V3 hown hgrow
                      have hal : Below V2.heap.size V2 V3 := (Below.refl _ _).grown hgrow (Nat.le_refl _) (fun r e => by cases e)
                      replace HBv := Lib.hid (below_trans' HBv.out hal)
                      have HO7 := Lib.hid hown
                      replace HNW := Lib.hid (blk_below hal HNW.out)
                      refine hK.out _ _ (HSF.out _ (HTR.out _ HBv.out)) (fun hS9 => ?_)
                      clear hS9 hK K hal hown hgrow HOM
                      exact F.out ga c7 bM bN V3 HO7 HNW HBv
                  · go_simp
                    have hal : Below V0.heap.size V0 (V0.alloc (.cells #[.int .i64 x] 3)) := below_alloc' (Below.refl _ _) _
                    have hnb := heap_alloc_new V0 (.cells #[.int .i64 x] 3)
                    replace HBv := Lib.hid (below_trans' HBv.out hal)
                    refine hK.out _ _ (HSF.out _ (HTR.out _ HBv.out)) (fun hS9 => ?_)
                    clear hS9 hK K hal
                    generalize V0.alloc (.cells #[.int .i64 x] 3) = V1 at *
                    generalize V0.heap.size = bN at *
                    have HNW := Lib.hid hnb
                    clear hnb
                    refine wpAnyH_ready (rs := [1]) (by kernel_rfl) (by simp) ?_
                    refine AllReadyH.cons rfl (fun K hK => ?_) AllReadyH.nil
                    go_simp
                    have hal : Below V1.heap.size V1 (V1.alloc (.cells #[] 3)) := below_alloc' (Below.refl _ _) _
                    have hbs := HBv.out.size
                    have hmk := own_mk0 V1 wv.heap.size hbs 3
                    replace HBv := Lib.hid (below_trans' HBv.out hal)
                    replace HNW := Lib.hid (blk_below hal HNW.out)
                    refine hK.out _ _ (HSF.out _ (HTR.out _ HBv.out)) (fun hS9 => ?_)
                    clear hS9 hK K hal hbs
                    generalize V1.alloc (.cells #[] 3) = V2 at *
                    generalize V1.heap.size = bM at *
                    have HOM := Lib.hid hmk
                    clear hmk
                    refine wpAnyH_ready (rs := [6]) (by kernel_rfl) (by simp) ?_
                    refine AllReadyH.cons rfl (fun K hK => ?_) AllReadyH.nil
                    refine step_append_first rfl (.tmp 42) (.tmp 46) 28 rfl 3 i0 (.int .i64 0) 1 8 Tryz.underlying28 q0 q1 q2 q3 rfl (by omega) bM (by rfl) wv.heap.size HBv.out.size HOM.out G1 t.length c1 (t.flatMap encI) (by rfl) HNIL.out HLZ.out (fun ad e j u hj => HOL.out _ (HTR.out _ HBv.out) ad e j u hj) (oneFlat oneI t) (by simp only [maxLen]; omega) (by omega) ?_
                    intro ga c7 V3 hown hgrow
                    have hal : Below V2.heap.size V2 V3 := (Below.refl _ _).grown hgrow (Nat.le_refl _) (fun r e => by cases e)
                    replace HBv := Lib.hid (below_trans' HBv.out hal)
                    have HO7 := Lib.hid hown
                    replace HNW := Lib.hid (blk_below hal HNW.out)
                    refine hK.out _ _ (HSF.out _ (HTR.out _ HBv.out)) (fun hS9 => ?_)
                    clear hS9 hK K hal hown hgrow HOM
                    exact F.out ga c7 bM bN V3 HO7 HNW HBv
                · intro ga c7 bM bN V HO7 HNW HBv
                  have hbs := HBv.out.size
                  refine wpAnyH_ready (rs := [12]) (by kernel_rfl) (by simp) ?_
                  refine AllReadyH.cons rfl (fun K hK => ?_) AllReadyH.nil
                  refine step_push (w := V) rfl (.tmp 47) (.tmp 52) 28 rfl elemI encI_len oneI Tryz.underlying28 wv.heap.size (.slice (some ⟨ga, 0, none⟩) t.length c7) t (by rfl) HO7.out (by omega) x bN (by rfl) #[.int .i64 x] rfl 3 (0, 0) HNW.out hbs ?_
                  intro g8 c8 V8 hO8 hg8
                  replace HBv := Lib.hid (HBv.out.grown hg8 hbs (fun r e => own_base HO7.out r e))
                  refine hK.out _ _ (HSF.out _ (HTR.out _ HBv.out)) (fun hS9 => ?_)
                  clear hS9 hK K hg8 HO7 HNW hbs
                  have HO8 := Lib.hid hO8
                  clear hO8
                  refine wpAnyH_ready (rs := [13]) (by kernel_rfl) (by simp) ?_
                  refine AllReadyH.cons rfl (fun K hK => ?_) AllReadyH.nil
                  go_simp
                  have hal : Below V8.heap.size V8 (V8.alloc (.cells #[.slice (some ⟨g8, 0, none⟩) (t.length + 1) c8] 28)) := below_alloc' (Below.refl _ _) _
                  have hnb := heap_alloc_new V8 (.cells #[.slice (some ⟨g8, 0, none⟩) (t.length + 1) c8] 28)
                  replace HBv := Lib.hid (below_trans' HBv.out hal)
                  replace HO8 := Lib.hid (HO8.out.alloc (.cells #[.slice (some ⟨g8, 0, none⟩) (t.length + 1) c8] 28))
                  refine hK.out _ _ (HSF.out _ (HTR.out _ HBv.out)) (fun hS9 => ?_)
                  clear hS9 hK K hal
                  generalize V8.alloc (.cells #[.slice (some ⟨g8, 0, none⟩) (t.length + 1) c8] 28) = V9 at *
                  generalize V8.heap.size = bO at *
                  have HNB := Lib.hid hnb
                  clear hnb
                  have h5v := HB6.out.size
                  have hbs := HBv.out.size
                  have HOv := Lib.hid (own_below' HO.out HBv.out)
                  have HTv := Lib.hid (HT.out.below HBv.out)
                  refine wpAnyH_ready (rs := [14]) (by kernel_rfl) (by simp) ?_
                  refine AllReadyH.cons rfl (fun K hK => ?_) AllReadyH.nil
                  refine step_push (w := V9) rfl (.tmp 41) (.tmp 54) 33 rfl elemLs encLs_len oneLs Tryz.underlying33 w5.heap.size _ Q (by rfl) HOv.out (by omega) (some ⟨g8, 0, none⟩, t.length + 1, c8) bO (by rfl) #[.slice (some ⟨g8, 0, none⟩) (t.length + 1) c8] rfl 28 (0, 0) HNB.out (by omega) ?_
                  intro g9 c9 VA hO9 hg9
                  have hO8n : V9.ownsRow w5.heap.size 3 1 (.slice (some ⟨g8, 0, none⟩) (t ++ [x]).length c8) (t ++ [x]).length ((t ++ [x]).flatMap encI) := by rw [len_snoc]; exact own_mono HO8.out h5v
                  have HTn := Lib.hid ((HTv.out.snoc (q := (some ⟨g8, 0, none⟩, t.length + 1, c8)) (x := t ++ [x]) (len_snoc t x).symm hO8n).kept HOv.out (by decide) hg9)
                  have HBn := Lib.hid ((HTR.out _ HBv.out).grown hg9 (by omega) (fun r e => own_base HOv.out r e))
                  have HOn : Hid (VA.ownsRow w5.heap.size 28 1 (.slice (some ⟨g9, 0, none⟩) (Q.length + 1) c9) (Q ++ [((some ⟨g8, 0, none⟩, t.length + 1, c8) : Ls)]).length ((Q ++ [((some ⟨g8, 0, none⟩, t.length + 1, c8) : Ls)]).flatMap encLs)) := Lib.hid (by rw [len_snoc]; exact hO9)
                  refine hK.out _ _ (HSF.out _ HBn.out) (fun hS9 => ?_)
                  clear hS9 hK K hO9 hg9 hO8n HNB HO8 HOv HTv HBv HO HT HTR hbs h5v
                  refine wpAnyH_take (i := 15) (v := ?_) rfl (by kernel_rfl) (by kernel_rfl) (by kernel_rfl) (fun _ _ _ h => h) (Or.inl ⟨by rfl, ?_⟩) (HSF.out _ HBn.out) ?_
                  rotate_left 1
                  · intro W hW; obtain ⟨s0, s1⟩ := hW; go_simp <;> with_reducible rfl
                  simp only [Act.put, List.setIfInBounds_toArray]
                  refine wpAnyH_done (by kernel_rfl) ?_ _
                  clear HSF HOL HLZ q0 q1 q2 q3 i0
                  go_wp2
                  go_roundw
                  case rel => exact ⟨j + 1, _, by omega, by go_num, HOn, by rw [HPj.out]; exact HTn, HBn⟩
                  case measure => simp [intOf]; omega
              obtain rfl : j = O.length := by omega
              go_wp2
              go_roundw
              case rel => exact ⟨i + 1, Q, by omega, by go_num, HO, by rw [← HUp.out]; exact HT, HB6⟩
              case measure => simp [intOf]; omega
          obtain rfl : i = P.length := by omega
          have HE : Hid (partL N k P.length 0 = prodL N (k + 1)) := Lib.hid (by rw [HPe.out]; exact partL_all N k)
          rw [HE.out] at HT1
          obtain ⟨G6, c6, hv6, _⟩ := own_form HO1.out
          subst hv6
          have HR : Hid (ListsAt w6 G6 (prodL N (k + 1))) := Lib.hid ⟨Q1, RowsAt.of_own encLs_len HO1.out, HT1.out.lists⟩
          have HQ : Hid (Q1.length = (prodL N (k + 1)).length) := Lib.hid HT1.out.1
          have HBn := Lib.hid (below_trans' HB.out HB1.out)
          clear HO1 HT1 HE HP HI
          go_wp2
          go_roundw
          case rel => exact ⟨k + 1, G6, c6, by omega, by go_num, by rw [HQ.out], HR, HBn⟩
          case measure => simp [intOf]; omega
    obtain rfl : n = k := by omega
    have hPl := HFew.out n hk
    have HTt : Hid (∀ i, (treesTo N i).length ≤ 5000) := Lib.hid fun i => Nat.le_trans (treesTo_len N i) (by rw [HNn.out]; exact hPl)
    have HPr : Hid (∀ t ∈ prodL N n, t.length = n) := Lib.hid fun t h => prodL_row h
    have HTZ : Hid (treesTo N 0 = []) := Lib.hid (treesTo_zero N)
    have HTH : Hid (∀ i (h : i < (prodL N n).length), TreeL N (prodL N n)[i] → treesTo N (i + 1) = treesTo N i ++ [(prodL N n)[i]]) := Lib.hid (by have := @treesTo_hit N; rw [HNn.out] at this; exact fun i h k => this h k)
    have HTM : Hid (∀ i (h : i < (prodL N n).length), ¬ TreeL N (prodL N n)[i] → treesTo N (i + 1) = treesTo N i) := Lib.hid (by have := @treesTo_miss N; rw [HNn.out] at this; exact fun i h k => this h k)
    have HTA : Hid (treesTo N (prodL N n).length = treesL N) := Lib.hid (by have := treesTo_all N; rw [HNn.out] at this; exact this)
    generalize prodL N n = P at *
    have HIs0 : Hid (ListsIn w3 ([] : List Ls) (treesTo N 0)) := Lib.hid (by rw [HTZ.out]; exact ListsIn.nil _)
    have HO0 : Hid (w3.ownsRow w3.heap.size 28 1 (.slice none 0 0) ([] : List Ls).length (([] : List Ls).flatMap encLs)) := Lib.hid (World.ownsRow_nil w3 w3.heap.size 28 1)
    have HBr0 := Lib.hid (Below.refl w3.heap.size w3)
    go_wp2
    go_loopw [9, 10] (fun s9 ii wr => ∃ (i : Nat) (Q : List Ls), i ≤ P.length ∧ ii = .int .i64 i ∧ Hid (wr.ownsRow w3.heap.size 28 1 s9 Q.length (Q.flatMap encLs)) ∧ Hid (ListsIn w3 Q (treesTo N i)) ∧ Hid (Below w3.heap.size w3 wr)) (fun _ ii _ => P.length - (intOf ii).toNat)
    case atStart => exact ⟨0, [], by omega, rfl, HO0, HIs0, HBr0⟩
    case round =>
      clear HO0 HIs0 HBr0
      obtain ⟨i, Q, hi, rfl, HO, HT, HBr⟩ := hrel
      obtain ⟨w6, hw6⟩ : ∃ x, x = wr := ⟨_, rfl⟩
      subst hw6
      by_cases hin : i < P.length
      · have i0 : (0 : Int) ≤ (i : Int) := by omega
        have i1 : (i : Int) < (P.length : Int) := by omega
        obtain ⟨b1, o1, G1, c1, rfl, p1w, h1w⟩ := ListsAt.at_ HP.out hin
        have htl : P[i].length ≤ 100000 := by rw [HPr.out _ (List.getElem_mem hin)]; omega
        have hTt := HTt.out i
        have HTHi := Lib.hid (HTH.out i hin)
        have HTMi := Lib.hid (HTM.out i hin)
        have hQ5 : Q.length ≤ 5000 := by rw [HT.out.1]; exact hTt
        have H1 := Lib.hid h1w
        have P1 := Lib.hid p1w
        clear h1w p1w
        generalize P[i] = t at *
        have HBv : Hid (Below w6.heap.size w6 w6.drew) := Lib.hid ((Below.refl _ _).drew)
        have d0 : w6.drew.cell? ⟨w.heap.size, 0, none⟩ = some (.int .i64 n) := cell_below HBr.out.drew y0
        have d1 : w6.drew.cell? ⟨w.heap.size, 1, none⟩ = some (.int .i64 r) := cell_below HBr.out.drew y1
        have d2 : w6.drew.cell? ⟨w.heap.size, 2, none⟩ = some (.slice A l.length ca) := cell_below HBr.out.drew y2
        have d3 : w6.drew.cell? ⟨b1, o1 + i, none⟩ = some (.slice G1 t.length c1) := cell_below HBr.out.drew P1.out
        have HLv : Hid (StepsAt w6.drew A l) := Lib.hid (HL.out.below HBr.out.drew)
        have hI6 : IntsAt w6.drew G1 t := H1.out.below HBr.out.drew
        have HIv := Lib.hid hI6
        clear hI6
        go_upto_region 21 with fail
        refine wp_region_held_drew (S := fun W => W.cell? ⟨w.heap.size, 0, none⟩ = some (.int .i64 n) ∧ W.cell? ⟨w.heap.size, 1, none⟩ = some (.int .i64 r) ∧ W.cell? ⟨w.heap.size, 2, none⟩ = some (.slice A l.length ca) ∧ W.cell? ⟨b1, o1 + i, none⟩ = some (.slice G1 t.length c1)) (by kernel_rfl) ⟨d0, d1, d2, d3⟩ (fun hS9 => ?_)
        clear hS9
        refine wpAnyH_take (i := 0) (v := ?_) rfl (by kernel_rfl) (by kernel_rfl) (by kernel_rfl) (fun _ _ _ h => h) (Or.inl ⟨by rfl, ?_⟩) ⟨d0, d1, d2, d3⟩ ?_
        rotate_left 1
        · intro W hW; obtain ⟨s0, s1, s2, s3⟩ := hW; go_simp <;> with_reducible rfl
        refine wpAnyH_take (i := 1) (v := ?_) rfl (by kernel_rfl) (by kernel_rfl) (by kernel_rfl) (fun _ _ _ h => h) (Or.inl ⟨by rfl, ?_⟩) ⟨d0, d1, d2, d3⟩ ?_
        rotate_left 1
        · intro W hW; obtain ⟨s0, s1, s2, s3⟩ := hW; go_simp <;> with_reducible rfl
        refine wpAnyH_take (i := 2) (v := ?_) rfl (by kernel_rfl) (by kernel_rfl) (by kernel_rfl) (fun _ _ _ h => h) (Or.inl ⟨by rfl, ?_⟩) ⟨d0, d1, d2, d3⟩ ?_
        rotate_left 1
        · intro W hW; obtain ⟨s0, s1, s2, s3⟩ := hW; go_simp <;> with_reducible rfl
        refine wpAnyH_take (i := 3) (v := ?_) rfl (by kernel_rfl) (by kernel_rfl) (by kernel_rfl) (fun _ _ _ h => h) (Or.inl ⟨by rfl, ?_⟩) ⟨d0, d1, d2, d3⟩ ?_
        rotate_left 1
        · intro W hW; obtain ⟨s0, s1, s2, s3⟩ := hW; go_simp <;> with_reducible rfl
        refine wpAnyH_take (i := 4) (v := ?_) rfl (by kernel_rfl) (by kernel_rfl) (by kernel_rfl) (fun _ _ _ h => h) (Or.inl ⟨by rfl, ?_⟩) ⟨d0, d1, d2, d3⟩ ?_
        rotate_left 1
        · intro W hW; obtain ⟨s0, s1, s2, s3⟩ := hW; go_simp <;> with_reducible rfl
        simp only [Act.put, List.setIfInBounds_toArray]
        refine wpAnyH_ready (rs := [5]) (by kernel_rfl) (by simp) ?_
        refine AllReadyH.cons rfl (fun K hK => ?_) AllReadyH.nil
        go_simp
        refine (HTree.out G1 c1 t _ HLv.out HIv.out htl).mono ?_
        rintro e V5 ⟨v, rfl, ⟨cb, ce, rfl, hce⟩, hb⟩
        replace HBv := Lib.hid (below_trans' HBv.out hb)
        replace HLv := Lib.hid (RowsAt.below HLv.out hb)
        replace HIv := Lib.hid (RowsAt.below HIv.out hb)
        replace d0 := cell_below hb d0
        replace d1 := cell_below hb d1
        replace d2 := cell_below hb d2
        replace d3 := cell_below hb d3
        clear hb
        refine hK.out _ _ ⟨d0, d1, d2, d3⟩ (fun _ => ?_)
        clear hK K
        refine wpAnyH_take (i := 6) (v := ?_) rfl (by kernel_rfl) (by kernel_rfl) (by kernel_rfl) (fun _ _ _ h => h) (Or.inl ⟨by rfl, ?_⟩) ⟨d0, d1, d2, d3⟩ ?_
        rotate_left 1
        · intro W hW; obtain ⟨s0, s1, s2, s3⟩ := hW; go_simp <;> with_reducible rfl
        refine wpAnyH_take (i := 7) (v := ?_) rfl (by kernel_rfl) (by kernel_rfl) (by kernel_rfl) (fun _ _ _ h => h) (Or.inl ⟨by rfl, ?_⟩) ⟨d0, d1, d2, d3⟩ ?_
        rotate_left 1
        · intro W hW; obtain ⟨s0, s1, s2, s3⟩ := hW; go_simp <;> with_reducible rfl
        refine wpAnyH_take (i := 8) (v := ?_) rfl (by kernel_rfl) (by kernel_rfl) (by kernel_rfl) (fun _ _ _ h => h) (Or.inl ⟨by rfl, ?_⟩) ⟨d0, d1, d2, d3⟩ ?_
        rotate_left 1
        · intro W hW; obtain ⟨s0, s1, s2, s3⟩ := hW; go_simp <;> with_reducible rfl
        refine wpAnyH_take (i := 9) (v := ?_) rfl (by kernel_rfl) (by kernel_rfl) (by kernel_rfl) (fun _ _ _ h => h) (Or.inl ⟨by rfl, ?_⟩) ⟨d0, d1, d2, d3⟩ ?_
        rotate_left 1
        · intro W hW; obtain ⟨s0, s1, s2, s3⟩ := hW; go_simp <;> with_reducible rfl
        refine wpAnyH_take (i := 10) (v := ?_) rfl (by kernel_rfl) (by kernel_rfl) (by kernel_rfl) (fun _ _ _ h => h) (Or.inl ⟨by rfl, ?_⟩) ⟨d0, d1, d2, d3⟩ ?_
        rotate_left 1
        · intro W hW; obtain ⟨s0, s1, s2, s3⟩ := hW; go_simp <;> with_reducible rfl
        simp only [Act.put, List.setIfInBounds_toArray]
        refine wpAnyH_done (by kernel_rfl) ?_ _
        replace HBr := Lib.hid (below_trans' HBr.out HBv.out)
        replace HO := Lib.hid (own_below' HO.out HBv.out)
        clear HBv HLv HIv d0 d1 d2
        by_cases hT : TreeL N t
        · obtain rfl := hce.2 hT
          have HY := Lib.hid (HTHi.out hT)
          have HTn := Lib.hid (HT.out.snoc (q := (G1, t.length, c1)) (x := t) rfl H1.out)
          clear hce hT HTHi HTMi HT
          have hbk := heap_alloc_new V5 (.cells #[.slice G1 t.length c1] 28)
          have HOA := Lib.hid (HO.out.alloc (.cells #[.slice G1 t.length c1] 28))
          have hr6 := own_base HO.out
          have hsw := HBr.out.size
          go_wp2_with (at_builtin; refine wpList_push _ rfl (.tmp 74) (.tmp 79) 33 rfl elemLs encLs_len oneLs Tryz.underlying33 w3.heap.size _ Q rfl HOA.out (by omega) (G1, t.length, c1) V5.heap.size (by rfl) _ rfl _ _ hbk (by rw [World.size_alloc]; omega) ?_; intro g2 cap w7 hO7 hg7)
          have HB7 := Lib.hid ((below_alloc' HBr.out (.cells #[.slice G1 t.length c1] 28)).grown hg7 (by rw [World.size_alloc]; omega) (fun r e => hr6 r e))
          have HO7 := Lib.hid hO7
          clear hO7 hg7 hr6 HO HOA hbk HBr
          go_roundw
          case rel => exact ⟨i + 1, _, by omega, by go_num, by rw [len_snoc]; exact HO7, by rw [HY.out]; exact HTn, HB7⟩
          case measure => simp [intOf]; omega
        · have hne : ce ≠ 0 := fun e => hT (hce.1 e)
          have d5 : (ce == 0) = false := by simpa using hne
          have HY := Lib.hid (HTMi.out hT)
          clear hce hT HTHi HTMi hne d3
          go_wp2
          go_roundw
          case rel => exact ⟨i + 1, Q, by omega, by go_num, HO, by rw [HY.out]; exact HT, HBr⟩
          case measure => simp [intOf]; omega
      obtain rfl : i = P.length := by omega
      rw [HTA.out] at HT
      obtain ⟨G6, c6, hv6, _⟩ := own_form HO.out
      subst hv6
      have HR : Hid (ListsAt w6 G6 (treesL N)) := Lib.hid ⟨Q, RowsAt.of_own encLs_len HO.out, HT.out.below HBr.out⟩
      have HQ : Hid (Q.length = (treesL N).length) := Lib.hid HT.out.1
      have HBn := Lib.hid (below_trans' HB2.out (below_trans' HB.out HBr.out))
      clear HO HT HTA HTH HTM HTZ HTt
      rw [HQ.out]
      go_wp2
      go_ret
      exact Ret.mk ⟨⟨G6, c6, rfl, HR.out⟩, HBn.out⟩
end Go.Proofs.YtggcooplhodocaaGreatDoor
