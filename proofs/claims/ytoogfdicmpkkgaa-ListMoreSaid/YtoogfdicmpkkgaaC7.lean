/- ListMore. -/
import Derived.Test.YtoogfdicmpkkgaaC6
import Derived.Deep.RegionLawGrows
namespace Go.Proofs.Ytoogfdicmpkkgaa
open Go.RowKit Go.Shelf Go.Maps Match

theorem takeD {P : Program} {md : Region.Mode} {ops : Array Oper} {Q : Exit → Act → World → Prop} {S : World → Prop} {i d : Nat} {oi : Oper} {v : Value} {fuel : Nat} {listed : Array Bool} {a : Act} {w : World} (hi : ops[i]? = some oi) (hd : oi.dst = some d)
    (hs : Region.noSelect ops = true) (hf : Region.free md ops listed i = true) (hr : (Region.ready md ops listed).contains i = true)
    (hQ : ∀ c a w, Q (.panic c) (a.put oi.dst v) w → Q (.panic c) a w) (hy : YieldsIf P ops S oi v a) (hS : S w)
    (h : wpAnyH P md ops Q S fuel (listed.setIfInBounds i true) ⟨a.tmps.setIfInBounds d v, a.defers⟩ w) : wpAnyH P md ops Q S (fuel + 1) listed a w :=
  wpAnyH_take hi hs hf hr hQ hy hS (by rw [hd]; exact h)
theorem joinDag {P G : Prop} (h1 : Hid P → G) (h2 : P) : G := h1 (Lib.hid h2)
theorem own_mk0 (w : World) (base : Nat) (hb : base ≤ w.heap.size) (e : TypeId) : (w.alloc (.cells #[] e)).ownsRow base e 2 (.slice (some ⟨w.heap.size, 0, none⟩) 0 0) 0 [] := World.ownsRow_made w #[] 0 hb (Nat.zero_le _) (by simp)
/-- append of whatever many elements to an empty row, at a step of a region that draws -/
theorem step_append_first {ops : Array Oper} {o : Oper} {a : Act} {w : World} {K : Act → World → Prop} {Q : Exit → Act → World → Prop} {E : Prop}
    (hg : o.guard = none) (s x : Operand) (t : TypeId) (hop : o.op = Op.call { callee := Callee.builtin Builtin.append, args := #[s, x], argTypes := #[t, t] })
    (e : TypeId) (i : TypeInfo) (z : Value) (size bytes : Nat) (h1 : Try.prog.underlying t = some (.slice e)) (h2 : Try.prog.info? e = some i) (h3 : i.zero = some z) (h4 : i.size = size) (h5 : i.bytes = bytes) (h6 : z.cells.size = size) (h7 : 0 < size)
    (g : Nat) (hs : a.eval s = .slice (some ⟨g, 0, none⟩) 0 0) (base : Nat) (hbase : base ≤ w.heap.size) (hown : w.ownsRow base e size (.slice (some ⟨g, 0, none⟩) 0 0) 0 [])
    (A : Option Addr) (m c : Nat) (news : List Value) (hx : a.eval x = .slice A m c) (hA : A = none → m = 0) (hn : news.length = m * size) (hc : ∀ ad, A = some ad → ∀ j u, news[j]? = some u → w.cell? (ad.add j) = some u) (h1c : ∀ u ∈ news, u.oneCell' = true)
    (b1 : m ≤ maxLen) (b2 : m * bytes ≤ 140737488355328)
    (hK : ∀ v' w', w'.ownsRow base e size v' m news → w.grownBy w' none → (v' = .slice (some ⟨g, 0, none⟩) 0 0 ∧ m = 0 ∧ w' = w ∨ ∃ b c, v' = .slice (some ⟨b, 0, none⟩) m c ∧ w.heap.size ≤ b) → K (a.put o.dst v') w') :
    if Region.wanted o (yielded ops a.tmps) = true then Oper.wp Try.prog o a w K Q else E := by
  by_cases hm : m = 0
  · subst hm
    have hnil : news = [] := List.eq_nil_of_length_eq_zero (by omega)
    subst hnil
    have hw : Region.wanted o (yielded ops a.tmps) = true := by simp [Region.wanted, hg]
    rw [if_pos hw]
    have hrun : (Builtin.append_ #[t, t] o.type #[.slice (some ⟨g, 0, none⟩) 0 0, .slice A 0 c]).run Try.prog w = .ok (.slice (some ⟨g, 0, none⟩) 0 0) w := by
      subst h4
      cases A with
      | some ad =>
        have h := run_append_room_cells (P := Try.prog) w t o.type e i h1 h2 g 0 0 0 ad 0 c [] (by simp) (by simp) (by simp) (Nat.le_refl _) (by simp) (by simp)
        simpa [World.setCells] using h
      | none =>
        simp [Builtin.append_, run_underlying h1, sizeOf, typeInfo, h2, Builtin.lenOf, Builtin.firstCells, storeCells]
    unfold Oper.wp
    simp [execOp, hop, resolve, invoke, builtin, hs, hx, hrun, Result.andThen]
    exact hK _ _ hown (World.grownBy.refl _ _) (.inl ⟨rfl, rfl, rfl⟩)
  · cases A with
    | none => exact absurd (hA rfl) hm
    | some ad =>
      refine step_append_grows hg s x t hop e i z size bytes h1 h2 h3 h4 h5 h6 h7 (some ⟨g, 0, none⟩) 0 0 [] hs (fun h => by cases h) (by simp) (fun _ _ j u hj => by simp at hj) ad m c news hx hn (hc ad rfl) h1c (by omega) (by omega) (by rw [Nat.zero_add]; exact b2) ?_
      intro v' w' hown' hgrow
      rw [Nat.zero_add, List.nil_append] at hown'
      obtain ⟨b, c', rfl, hb⟩ := hown'.form (by omega)
      exact hK _ _ (own_mono hown' hbase) hgrow (.inr ⟨b, c', rfl, hb.1⟩)

theorem more_lens {s : Sh} {x : Pr} {lx : List (Int × Int)} {A B : Option Addr} {ca cb : Nat} (hlx : lx = s.l ++ [x]) (hv : Sheet s.L s.R s.l s.t) (hx : Sheet s.L s.R lx s.t) {j j2 : List Int} (h1 : j.length = s.t.length + mostS s) (h2 : j2.length = s.t.length + mostS ⟨s.L, s.R, A, ca, B, cb, lx, s.t⟩) : j.length ≤ j2.length ∧ j2.length ≤ j.length + 1 := by
  subst hlx
  have h := Sheet.more_len (s := s) (x := x) hv hx
  have e : mostS ⟨s.L, s.R, A, ca, B, cb, s.l ++ [x], s.t⟩ = mostS (moreS s x) := rfl
  rw [e] at h2
  generalize mostS s = a at h h1
  generalize mostS (moreS s x) = b at h h2
  omega
theorem more_join {L R : Int} {A B : Option Addr} {ca cb : Nat} {l lx : List (Int × Int)} {t : List Int} {x : Pr} (hlx : lx = l ++ [x]) (hx : Sheet L R lx t) {j : List Int} (hj : IsJ ⟨L, R, A, ca, B, cb, l, t⟩ j) : joinErr L R lx t j = 0 := by
  subst hlx
  have h := IsJ.more (x := x) hj
  exact joinErr_of (s := moreS ⟨L, R, A, ca, B, cb, l, t⟩ x) hx h

set_option maxRecDepth 100000 in
set_option maxHeartbeats 40000000 in
theorem listMore_any (s : Sh) (m0 m1 : Int) (U : Option Addr) (cu : Nat) (u : List Int) (w : World) (hs : ShIn w s) (hreach : s.l.length * 16 ≤ 140737488351232) (hu : U8At w U u) (hu2 : ∀ x ∈ u, 0 ≤ x ∧ x ≤ 255) (hnu : u.length ≤ 9223372036854775807) :
    Calls Try.prog 10 #[s.v, .agg #[.int .i64 m0, .int .i64 m1], .slice U u.length cu] w (Ret fun v w' => v = .bool true ∧ Below w.heap.size w w') := by
  obtain ⟨L, R, A, ca, B, cb, l, t⟩ := s
  have hnil : A = none → l.length = 0 := fun e => by
    have hl := hs.links
    dsimp only at hl
    cases l with
    | nil => rfl
    | cons x r => obtain ⟨b, o, h, _⟩ := hl 0 (by simp); rw [e] at h; cases h
  have HS := Lib.hid hs; clear hs
  have HU := Lib.hid hu; clear hu
  have HU2 := Lib.hid hu2; clear hu2
  have HNIL := Lib.hid hnil; clear hnil
  unfold Sh.v vSheet
  dsimp only at hreach ⊢
  obtain ⟨w1, hw1⟩ : ∃ w1, w1 = (w.alloc (.cells #[.int .i64 L, .int .i64 R, .slice A l.length ca, .slice B t.length cb] 25)).alloc (.cells #[.int .i64 m0, .int .i64 m1] 55) := ⟨_, rfl⟩
  have HB1 : Hid (Below w.heap.size w w1) := Lib.hid (by rw [hw1]; exact below_alloc' (below_alloc' (Below.refl _ _) _) _)
  have hX : w1.heap[w.heap.size]? = some (.cells #[.int .i64 L, .int .i64 R, .slice A l.length ca, .slice B t.length cb] 25 (0, 0)) := by rw [hw1]; exact blk_alloc (heap_alloc_new _ _) _
  have hX2 : w1.heap[w.heap.size + 1]? = some (.cells #[.int .i64 m0, .int .i64 m1] 55 (0, 0)) := by rw [hw1]; exact heap_alloc_at _ _ (by simp)
  have y0 : w1.cell? ⟨w.heap.size, 0, none⟩ = some (.int .i64 L) := (blk_cell hX).trans rfl
  have y1 : w1.cell? ⟨w.heap.size, 1, none⟩ = some (.int .i64 R) := (blk_cell hX).trans rfl
  have y2 : w1.cell? ⟨w.heap.size, 2, none⟩ = some (.slice A l.length ca) := (blk_cell hX).trans rfl
  have y3 : w1.cell? ⟨w.heap.size, 3, none⟩ = some (.slice B t.length cb) := (blk_cell hX).trans rfl
  have z0 : w1.cell? ⟨w.heap.size + 1, 0, none⟩ = some (.int .i64 m0) := (blk_cell hX2).trans rfl
  have z1 : w1.cell? ⟨w.heap.size + 1, 1, none⟩ = some (.int .i64 m1) := (blk_cell hX2).trans rfl
  replace HS := Lib.hid (HS.out.below HB1.out)
  replace HU : Hid (U8At w1 U u) := Lib.hid (RowsAt.below HU.out HB1.out)
  have HLZ : Hid ((l.flatMap encR).length = l.length * 2) := Lib.hid (flatMap_len encR_len l)
  obtain ⟨i0, hi0, hz0, hz1, hz2⟩ := info_parts elemR.info
  go_enter Try.func10, Try.ntmps10
  go_upto_region 1 with fail
  rw [← hw1]
  clear hw1 hX hX2
  have HOL : Hid (∀ W, Below w1.heap.size w1 W → ∀ ad, A = some ad → ∀ j u, (l.flatMap encR)[j]? = some u → W.cell? (ad.add j) = some u) := Lib.hid fun W hW ad e j u hj => RowsAt.olds encR_len (HS.out.links.below hW) _ e j u hj
  go_cut [7] (fun s7 wx => ∃ b7 g8 c8, s7 = .pointer (some ⟨b7, 0, none⟩) ∧ wx.heap[b7]? = some (.cells #[.int .i64 L, .int .i64 R, .slice (some ⟨g8, 0, none⟩) (l.length + 1) c8, .slice B t.length cb] 25 (0, 0)) ∧ Hid (RangesAt wx (some ⟨g8, 0, none⟩) (l ++ [(m0, m1)])) ∧ l.length + 1 ≤ c8 ∧ c8 ≤ 9223372036854775807 ∧ Hid (Below w1.heap.size w1 wx) ∧ w1.heap.size ≤ b7)
  case first =>
    have HSF : Hid (∀ W, Below w1.heap.size w1 W → (W.cell? ⟨w.heap.size, 0, none⟩ = some (.int .i64 L) ∧ W.cell? ⟨w.heap.size, 1, none⟩ = some (.int .i64 R) ∧ W.cell? ⟨w.heap.size, 2, none⟩ = some (.slice A l.length ca) ∧ W.cell? ⟨w.heap.size, 3, none⟩ = some (.slice B t.length cb)) ∧ W.cell? ⟨w.heap.size + 1, 0, none⟩ = some (.int .i64 m0) ∧ W.cell? ⟨w.heap.size + 1, 1, none⟩ = some (.int .i64 m1)) := Lib.hid fun W h => ⟨⟨cell_below h y0, cell_below h y1, cell_below h y2, cell_below h y3⟩, cell_below h z0, cell_below h z1⟩
    have HBv : Hid (Below w1.heap.size w1 w1.drew) := Lib.hid ((Below.refl _ _).drew)
    clear y0 y1 y2 y3 z0 z1 HS HU HU2
    refine wp_region_held_drew (S := fun W => (W.cell? ⟨w.heap.size, 0, none⟩ = some (.int .i64 L) ∧ W.cell? ⟨w.heap.size, 1, none⟩ = some (.int .i64 R) ∧ W.cell? ⟨w.heap.size, 2, none⟩ = some (.slice A l.length ca) ∧ W.cell? ⟨w.heap.size, 3, none⟩ = some (.slice B t.length cb)) ∧ W.cell? ⟨w.heap.size + 1, 0, none⟩ = some (.int .i64 m0) ∧ W.cell? ⟨w.heap.size + 1, 1, none⟩ = some (.int .i64 m1)) (by kernel_rfl) (HSF.out _ HBv.out) (fun _ => ?_)
    refine wpAnyH_take (i := 0) (v := ?_) rfl (by kernel_rfl) (by kernel_rfl) (by kernel_rfl) (fun _ _ _ h => h) (Or.inl ⟨by rfl, ?_⟩) (HSF.out _ HBv.out) ?_
    rotate_left 1
    · intro W hW; obtain ⟨⟨s0, s1, s2, s3⟩, s4, s5⟩ := hW; go_simp <;> with_reducible rfl
    refine wpAnyH_take (i := 1) (v := ?_) rfl (by kernel_rfl) (by kernel_rfl) (by kernel_rfl) (fun _ _ _ h => h) (Or.inl ⟨by rfl, ?_⟩) (HSF.out _ HBv.out) ?_
    rotate_left 1
    · intro W hW; obtain ⟨⟨s0, s1, s2, s3⟩, s4, s5⟩ := hW; go_simp <;> with_reducible rfl
    refine wpAnyH_take (i := 2) (v := ?_) rfl (by kernel_rfl) (by kernel_rfl) (by kernel_rfl) (fun _ _ _ h => h) (Or.inl ⟨by rfl, ?_⟩) (HSF.out _ HBv.out) ?_
    rotate_left 1
    · intro W hW; obtain ⟨⟨s0, s1, s2, s3⟩, s4, s5⟩ := hW; go_simp <;> with_reducible rfl
    refine wpAnyH_take (i := 3) (v := ?_) rfl (by kernel_rfl) (by kernel_rfl) (by kernel_rfl) (fun _ _ _ h => h) (Or.inl ⟨by rfl, ?_⟩) (HSF.out _ HBv.out) ?_
    rotate_left 1
    · intro W hW; obtain ⟨⟨s0, s1, s2, s3⟩, s4, s5⟩ := hW; go_simp <;> with_reducible rfl
    refine wpAnyH_take (i := 5) (v := ?_) rfl (by kernel_rfl) (by kernel_rfl) (by kernel_rfl) (fun _ _ _ h => h) (Or.inl ⟨by rfl, ?_⟩) (HSF.out _ HBv.out) ?_
    rotate_left 1
    · intro W hW; obtain ⟨⟨s0, s1, s2, s3⟩, s4, s5⟩ := hW; go_simp <;> with_reducible rfl
    refine wpAnyH_take (i := 6) (v := ?_) rfl (by kernel_rfl) (by kernel_rfl) (by kernel_rfl) (fun _ _ _ h => h) (Or.inl ⟨by rfl, ?_⟩) (HSF.out _ HBv.out) ?_
    rotate_left 1
    · intro W hW; obtain ⟨⟨s0, s1, s2, s3⟩, s4, s5⟩ := hW; go_simp <;> with_reducible rfl
    refine wpAnyH_take (i := 8) (v := ?_) rfl (by kernel_rfl) (by kernel_rfl) (by kernel_rfl) (fun _ _ _ h => h) (Or.inl ⟨by rfl, ?_⟩) (HSF.out _ HBv.out) ?_
    rotate_left 1
    · intro W hW; obtain ⟨⟨s0, s1, s2, s3⟩, s4, s5⟩ := hW; go_simp <;> with_reducible rfl
    refine wpAnyH_take (i := 11) (v := ?_) rfl (by kernel_rfl) (by kernel_rfl) (by kernel_rfl) (fun _ _ _ h => h) (Or.inl ⟨by rfl, ?_⟩) (HSF.out _ HBv.out) ?_
    rotate_left 1
    · intro W hW; obtain ⟨⟨s0, s1, s2, s3⟩, s4, s5⟩ := hW; go_simp <;> with_reducible rfl
    refine wpAnyH_take (i := 12) (v := ?_) rfl (by kernel_rfl) (by kernel_rfl) (by kernel_rfl) (fun _ _ _ h => h) (Or.inl ⟨by rfl, ?_⟩) (HSF.out _ HBv.out) ?_
    rotate_left 1
    · intro W hW; obtain ⟨⟨s0, s1, s2, s3⟩, s4, s5⟩ := hW; go_simp <;> with_reducible rfl
    simp only [Act.put, List.setIfInBounds_toArray]
    generalize w1.drew = V0 at *
    apply joinDag
    · intro FABMNZ
      apply joinDag
      · intro FAMNZ
        apply joinDag
        · intro FAMZ
          apply joinDag
          · intro FMNZ
            apply joinDag
            · intro FAMN
              apply joinDag
              · intro FNZ
                apply joinDag
                · intro FMZ
                  apply joinDag
                  · intro FMN
                    refine wpAnyH_ready (rs := [4, 9, 14]) (by kernel_rfl) (by simp) ?_
                    refine AllReadyH.cons rfl (fun K hK => ?_) (AllReadyH.cons rfl (fun K hK => ?_) (AllReadyH.cons rfl (fun K hK => ?_) AllReadyH.nil))
                    · go_simp
                      have hal : Below V0.heap.size V0 (V0.alloc (.cells #[] 55)) := below_alloc' (Below.refl _ _) _
                      have hnb := heap_alloc_new V0 (.cells #[] 55)
                      have hbs := HBv.out.size
                      have hmk := own_mk0 V0 w1.heap.size hbs 55
                      replace HBv := Lib.hid (below_trans' HBv.out hal)
                      refine hK.out _ _ (HSF.out _ HBv.out) (fun hS9 => ?_)
                      clear hS9 hK K hal
                      generalize V0.alloc (.cells #[] 55) = V1 at *
                      generalize V0.heap.size = bM at *
                      have HOM := Lib.hid hmk
                      clear hmk hnb hbs
                      refine wpAnyH_ready (rs := [7, 9, 14]) (by kernel_rfl) (by simp) ?_
                      refine AllReadyH.cons rfl (fun K hK => ?_) (AllReadyH.cons rfl (fun K hK => ?_) (AllReadyH.cons rfl (fun K hK => ?_) AllReadyH.nil))
                      · refine step_append_first rfl (.tmp 16) (.tmp 18) 22 rfl 55 i0 (.agg #[.int .i64 0, .int .i64 0]) 2 16 Try.underlying22 hi0 hz0 hz1 hz2 rfl (by omega) bM (by rfl) w1.heap.size HBv.out.size HOM.out A l.length ca (l.flatMap encR) (by rfl) HNIL.out HLZ.out (fun ad e j u hj => HOL.out _ HBv.out ad e j u hj) (oneFlat oneR l) (by simp only [maxLen]; omega) (by omega) ?_
                        intro va V2 hown hgrow hz9
                        clear hz9
                        have hal : Below V1.heap.size V1 V2 := (Below.refl _ _).grown hgrow (Nat.le_refl _) (fun r e => by cases e)
                        replace HBv := Lib.hid (below_trans' HBv.out hal)
                        have HO1 := Lib.hid hown
                        refine hK.out _ _ (HSF.out _ HBv.out) (fun hS9 => ?_)
                        clear hS9 hK K hal hown hgrow HOM
                        refine wpAnyH_ready (rs := [9, 14]) (by kernel_rfl) (by simp) ?_
                        refine AllReadyH.cons rfl (fun K hK => ?_) (AllReadyH.cons rfl (fun K hK => ?_) AllReadyH.nil)
                        · go_simp
                          have hal : Below V2.heap.size V2 (V2.alloc (.cells #[.int .i64 m0, .int .i64 m1] 55)) := below_alloc' (Below.refl _ _) _
                          have hnb := heap_alloc_new V2 (.cells #[.int .i64 m0, .int .i64 m1] 55)
                          have hbs := HBv.out.size
                          replace HBv := Lib.hid (below_trans' HBv.out hal)
                          replace HO1 := Lib.hid (HO1.out.alloc (.cells #[.int .i64 m0, .int .i64 m1] 55))
                          refine hK.out _ _ (HSF.out _ HBv.out) (fun hS9 => ?_)
                          clear hS9 hK K hal
                          generalize V2.alloc (.cells #[.int .i64 m0, .int .i64 m1] 55) = V3 at *
                          generalize V2.heap.size = bN at *
                          have HNW := Lib.hid hnb
                          clear hnb hbs
                          revert HNW
                          revert HO1
                          revert HBv
                          revert va
                          revert bN
                          revert bM
                          revert V3
                          exact FAMN.out
                        · go_simp
                          have hal : Below V2.heap.size V2 (V2.alloc (.cells #[.int .i64 0, .int .i64 0, .slice none 0 0, .slice none 0 0] 25)) := below_alloc' (Below.refl _ _) _
                          have hnb := heap_alloc_new V2 (.cells #[.int .i64 0, .int .i64 0, .slice none 0 0, .slice none 0 0] 25)
                          have hbs := HBv.out.size
                          replace HBv := Lib.hid (below_trans' HBv.out hal)
                          replace HO1 := Lib.hid (HO1.out.alloc (.cells #[.int .i64 0, .int .i64 0, .slice none 0 0, .slice none 0 0] 25))
                          refine hK.out _ _ (HSF.out _ HBv.out) (fun hS9 => ?_)
                          clear hS9 hK K hal
                          generalize V2.alloc (.cells #[.int .i64 0, .int .i64 0, .slice none 0 0, .slice none 0 0] 25) = V4 at *
                          generalize V2.heap.size = b7 at *
                          have HZB := Lib.hid hnb
                          have hb7 : w1.heap.size ≤ b7 := hbs
                          clear hnb hbs
                          revert hb7
                          revert HZB
                          revert HO1
                          revert HBv
                          revert va
                          revert b7
                          revert bM
                          revert V4
                          exact FAMZ.out
                      · go_simp
                        have hal : Below V1.heap.size V1 (V1.alloc (.cells #[.int .i64 m0, .int .i64 m1] 55)) := below_alloc' (Below.refl _ _) _
                        have hnb := heap_alloc_new V1 (.cells #[.int .i64 m0, .int .i64 m1] 55)
                        have hbs := HBv.out.size
                        replace HBv := Lib.hid (below_trans' HBv.out hal)
                        replace HOM := Lib.hid (HOM.out.alloc (.cells #[.int .i64 m0, .int .i64 m1] 55))
                        refine hK.out _ _ (HSF.out _ HBv.out) (fun hS9 => ?_)
                        clear hS9 hK K hal
                        generalize V1.alloc (.cells #[.int .i64 m0, .int .i64 m1] 55) = V5 at *
                        generalize V1.heap.size = bN at *
                        have HNW := Lib.hid hnb
                        clear hnb hbs
                        revert HNW
                        revert HOM
                        revert HBv
                        revert bN
                        revert bM
                        revert V5
                        exact FMN.out
                      · go_simp
                        have hal : Below V1.heap.size V1 (V1.alloc (.cells #[.int .i64 0, .int .i64 0, .slice none 0 0, .slice none 0 0] 25)) := below_alloc' (Below.refl _ _) _
                        have hnb := heap_alloc_new V1 (.cells #[.int .i64 0, .int .i64 0, .slice none 0 0, .slice none 0 0] 25)
                        have hbs := HBv.out.size
                        replace HBv := Lib.hid (below_trans' HBv.out hal)
                        replace HOM := Lib.hid (HOM.out.alloc (.cells #[.int .i64 0, .int .i64 0, .slice none 0 0, .slice none 0 0] 25))
                        refine hK.out _ _ (HSF.out _ HBv.out) (fun hS9 => ?_)
                        clear hS9 hK K hal
                        generalize V1.alloc (.cells #[.int .i64 0, .int .i64 0, .slice none 0 0, .slice none 0 0] 25) = V6 at *
                        generalize V1.heap.size = b7 at *
                        have HZB := Lib.hid hnb
                        have hb7 : w1.heap.size ≤ b7 := hbs
                        clear hnb hbs
                        revert hb7
                        revert HZB
                        revert HOM
                        revert HBv
                        revert b7
                        revert bM
                        revert V6
                        exact FMZ.out
                    · go_simp
                      have hal : Below V0.heap.size V0 (V0.alloc (.cells #[.int .i64 m0, .int .i64 m1] 55)) := below_alloc' (Below.refl _ _) _
                      have hnb := heap_alloc_new V0 (.cells #[.int .i64 m0, .int .i64 m1] 55)
                      have hbs := HBv.out.size
                      replace HBv := Lib.hid (below_trans' HBv.out hal)
                      refine hK.out _ _ (HSF.out _ HBv.out) (fun hS9 => ?_)
                      clear hS9 hK K hal
                      generalize V0.alloc (.cells #[.int .i64 m0, .int .i64 m1] 55) = V7 at *
                      generalize V0.heap.size = bN at *
                      have HNW := Lib.hid hnb
                      clear hnb hbs
                      refine wpAnyH_ready (rs := [4, 14]) (by kernel_rfl) (by simp) ?_
                      refine AllReadyH.cons rfl (fun K hK => ?_) (AllReadyH.cons rfl (fun K hK => ?_) AllReadyH.nil)
                      · go_simp
                        have hal : Below V7.heap.size V7 (V7.alloc (.cells #[] 55)) := below_alloc' (Below.refl _ _) _
                        have hnb := heap_alloc_new V7 (.cells #[] 55)
                        have hbs := HBv.out.size
                        have hmk := own_mk0 V7 w1.heap.size hbs 55
                        replace HBv := Lib.hid (below_trans' HBv.out hal)
                        replace HNW := Lib.hid (blk_below hal HNW.out)
                        refine hK.out _ _ (HSF.out _ HBv.out) (fun hS9 => ?_)
                        clear hS9 hK K hal
                        generalize V7.alloc (.cells #[] 55) = V8 at *
                        generalize V7.heap.size = bM at *
                        have HOM := Lib.hid hmk
                        clear hmk hnb hbs
                        exact FMN.out V8 bM bN HBv HOM HNW
                      · go_simp
                        have hal : Below V7.heap.size V7 (V7.alloc (.cells #[.int .i64 0, .int .i64 0, .slice none 0 0, .slice none 0 0] 25)) := below_alloc' (Below.refl _ _) _
                        have hnb := heap_alloc_new V7 (.cells #[.int .i64 0, .int .i64 0, .slice none 0 0, .slice none 0 0] 25)
                        have hbs := HBv.out.size
                        replace HBv := Lib.hid (below_trans' HBv.out hal)
                        replace HNW := Lib.hid (blk_below hal HNW.out)
                        refine hK.out _ _ (HSF.out _ HBv.out) (fun hS9 => ?_)
                        clear hS9 hK K hal
                        generalize V7.alloc (.cells #[.int .i64 0, .int .i64 0, .slice none 0 0, .slice none 0 0] 25) = V9 at *
                        generalize V7.heap.size = b7 at *
                        have HZB := Lib.hid hnb
                        have hb7 : w1.heap.size ≤ b7 := hbs
                        clear hnb hbs
                        revert hb7
                        revert HZB
                        revert HNW
                        revert HBv
                        revert b7
                        revert bN
                        revert V9
                        exact FNZ.out
                    · go_simp
                      have hal : Below V0.heap.size V0 (V0.alloc (.cells #[.int .i64 0, .int .i64 0, .slice none 0 0, .slice none 0 0] 25)) := below_alloc' (Below.refl _ _) _
                      have hnb := heap_alloc_new V0 (.cells #[.int .i64 0, .int .i64 0, .slice none 0 0, .slice none 0 0] 25)
                      have hbs := HBv.out.size
                      replace HBv := Lib.hid (below_trans' HBv.out hal)
                      refine hK.out _ _ (HSF.out _ HBv.out) (fun hS9 => ?_)
                      clear hS9 hK K hal
                      generalize V0.alloc (.cells #[.int .i64 0, .int .i64 0, .slice none 0 0, .slice none 0 0] 25) = V10 at *
                      generalize V0.heap.size = b7 at *
                      have HZB := Lib.hid hnb
                      have hb7 : w1.heap.size ≤ b7 := hbs
                      clear hnb hbs
                      refine wpAnyH_ready (rs := [4, 9]) (by kernel_rfl) (by simp) ?_
                      refine AllReadyH.cons rfl (fun K hK => ?_) (AllReadyH.cons rfl (fun K hK => ?_) AllReadyH.nil)
                      · go_simp
                        have hal : Below V10.heap.size V10 (V10.alloc (.cells #[] 55)) := below_alloc' (Below.refl _ _) _
                        have hnb := heap_alloc_new V10 (.cells #[] 55)
                        have hbs := HBv.out.size
                        have hmk := own_mk0 V10 w1.heap.size hbs 55
                        replace HBv := Lib.hid (below_trans' HBv.out hal)
                        replace HZB := Lib.hid (blk_below hal HZB.out)
                        refine hK.out _ _ (HSF.out _ HBv.out) (fun hS9 => ?_)
                        clear hS9 hK K hal
                        generalize V10.alloc (.cells #[] 55) = V11 at *
                        generalize V10.heap.size = bM at *
                        have HOM := Lib.hid hmk
                        clear hmk hnb hbs
                        exact FMZ.out V11 bM b7 HBv HOM HZB hb7
                      · go_simp
                        have hal : Below V10.heap.size V10 (V10.alloc (.cells #[.int .i64 m0, .int .i64 m1] 55)) := below_alloc' (Below.refl _ _) _
                        have hnb := heap_alloc_new V10 (.cells #[.int .i64 m0, .int .i64 m1] 55)
                        have hbs := HBv.out.size
                        replace HBv := Lib.hid (below_trans' HBv.out hal)
                        replace HZB := Lib.hid (blk_below hal HZB.out)
                        refine hK.out _ _ (HSF.out _ HBv.out) (fun hS9 => ?_)
                        clear hS9 hK K hal
                        generalize V10.alloc (.cells #[.int .i64 m0, .int .i64 m1] 55) = V12 at *
                        generalize V10.heap.size = bN at *
                        have HNW := Lib.hid hnb
                        clear hnb hbs
                        exact FNZ.out V12 bN b7 HBv HNW HZB hb7
                  · intro VJFMN bM bN HBv HOM HNW
                    refine wpAnyH_ready (rs := [7, 14]) (by kernel_rfl) (by simp) ?_
                    refine AllReadyH.cons rfl (fun K hK => ?_) (AllReadyH.cons rfl (fun K hK => ?_) AllReadyH.nil)
                    · refine step_append_first rfl (.tmp 16) (.tmp 18) 22 rfl 55 i0 (.agg #[.int .i64 0, .int .i64 0]) 2 16 Try.underlying22 hi0 hz0 hz1 hz2 rfl (by omega) bM (by rfl) w1.heap.size HBv.out.size HOM.out A l.length ca (l.flatMap encR) (by rfl) HNIL.out HLZ.out (fun ad e j u hj => HOL.out _ HBv.out ad e j u hj) (oneFlat oneR l) (by simp only [maxLen]; omega) (by omega) ?_
                      intro va V13 hown hgrow hz9
                      clear hz9
                      have hal : Below VJFMN.heap.size VJFMN V13 := (Below.refl _ _).grown hgrow (Nat.le_refl _) (fun r e => by cases e)
                      replace HBv := Lib.hid (below_trans' HBv.out hal)
                      have HO1 := Lib.hid hown
                      replace HNW := Lib.hid (blk_below hal HNW.out)
                      refine hK.out _ _ (HSF.out _ HBv.out) (fun hS9 => ?_)
                      clear hS9 hK K hal hown hgrow HOM
                      exact FAMN.out V13 bM bN va HBv HO1 HNW
                    · go_simp
                      have hal : Below VJFMN.heap.size VJFMN (VJFMN.alloc (.cells #[.int .i64 0, .int .i64 0, .slice none 0 0, .slice none 0 0] 25)) := below_alloc' (Below.refl _ _) _
                      have hnb := heap_alloc_new VJFMN (.cells #[.int .i64 0, .int .i64 0, .slice none 0 0, .slice none 0 0] 25)
                      have hbs := HBv.out.size
                      replace HBv := Lib.hid (below_trans' HBv.out hal)
                      replace HOM := Lib.hid (HOM.out.alloc (.cells #[.int .i64 0, .int .i64 0, .slice none 0 0, .slice none 0 0] 25))
                      replace HNW := Lib.hid (blk_below hal HNW.out)
                      refine hK.out _ _ (HSF.out _ HBv.out) (fun hS9 => ?_)
                      clear hS9 hK K hal
                      generalize VJFMN.alloc (.cells #[.int .i64 0, .int .i64 0, .slice none 0 0, .slice none 0 0] 25) = V14 at *
                      generalize VJFMN.heap.size = b7 at *
                      have HZB := Lib.hid hnb
                      have hb7 : w1.heap.size ≤ b7 := hbs
                      clear hnb hbs
                      revert hb7
                      revert HZB
                      revert HNW
                      revert HOM
                      revert HBv
                      revert b7
                      revert bN
                      revert bM
                      revert V14
                      exact FMNZ.out
                · intro VJFMZ bM b7 HBv HOM HZB hb7
                  refine wpAnyH_ready (rs := [7, 9]) (by kernel_rfl) (by simp) ?_
                  refine AllReadyH.cons rfl (fun K hK => ?_) (AllReadyH.cons rfl (fun K hK => ?_) AllReadyH.nil)
                  · refine step_append_first rfl (.tmp 16) (.tmp 18) 22 rfl 55 i0 (.agg #[.int .i64 0, .int .i64 0]) 2 16 Try.underlying22 hi0 hz0 hz1 hz2 rfl (by omega) bM (by rfl) w1.heap.size HBv.out.size HOM.out A l.length ca (l.flatMap encR) (by rfl) HNIL.out HLZ.out (fun ad e j u hj => HOL.out _ HBv.out ad e j u hj) (oneFlat oneR l) (by simp only [maxLen]; omega) (by omega) ?_
                    intro va V15 hown hgrow hz9
                    clear hz9
                    have hal : Below VJFMZ.heap.size VJFMZ V15 := (Below.refl _ _).grown hgrow (Nat.le_refl _) (fun r e => by cases e)
                    replace HBv := Lib.hid (below_trans' HBv.out hal)
                    have HO1 := Lib.hid hown
                    replace HZB := Lib.hid (blk_below hal HZB.out)
                    refine hK.out _ _ (HSF.out _ HBv.out) (fun hS9 => ?_)
                    clear hS9 hK K hal hown hgrow HOM
                    exact FAMZ.out V15 bM b7 va HBv HO1 HZB hb7
                  · go_simp
                    have hal : Below VJFMZ.heap.size VJFMZ (VJFMZ.alloc (.cells #[.int .i64 m0, .int .i64 m1] 55)) := below_alloc' (Below.refl _ _) _
                    have hnb := heap_alloc_new VJFMZ (.cells #[.int .i64 m0, .int .i64 m1] 55)
                    have hbs := HBv.out.size
                    replace HBv := Lib.hid (below_trans' HBv.out hal)
                    replace HOM := Lib.hid (HOM.out.alloc (.cells #[.int .i64 m0, .int .i64 m1] 55))
                    replace HZB := Lib.hid (blk_below hal HZB.out)
                    refine hK.out _ _ (HSF.out _ HBv.out) (fun hS9 => ?_)
                    clear hS9 hK K hal
                    generalize VJFMZ.alloc (.cells #[.int .i64 m0, .int .i64 m1] 55) = V16 at *
                    generalize VJFMZ.heap.size = bN at *
                    have HNW := Lib.hid hnb
                    clear hnb hbs
                    exact FMNZ.out V16 bM bN b7 HBv HOM HNW HZB hb7
              · intro VJFNZ bN b7 HBv HNW HZB hb7
                refine wpAnyH_ready (rs := [4]) (by kernel_rfl) (by simp) ?_
                refine AllReadyH.cons rfl (fun K hK => ?_) AllReadyH.nil
                go_simp
                have hal : Below VJFNZ.heap.size VJFNZ (VJFNZ.alloc (.cells #[] 55)) := below_alloc' (Below.refl _ _) _
                have hnb := heap_alloc_new VJFNZ (.cells #[] 55)
                have hbs := HBv.out.size
                have hmk := own_mk0 VJFNZ w1.heap.size hbs 55
                replace HBv := Lib.hid (below_trans' HBv.out hal)
                replace HNW := Lib.hid (blk_below hal HNW.out)
                replace HZB := Lib.hid (blk_below hal HZB.out)
                refine hK.out _ _ (HSF.out _ HBv.out) (fun hS9 => ?_)
                clear hS9 hK K hal
                generalize VJFNZ.alloc (.cells #[] 55) = V17 at *
                generalize VJFNZ.heap.size = bM at *
                have HOM := Lib.hid hmk
                clear hmk hnb hbs
                exact FMNZ.out V17 bM bN b7 HBv HOM HNW HZB hb7
            · intro VJFAMN bM bN va HBv HO1 HNW
              refine wpAnyH_ready (rs := [10, 14]) (by kernel_rfl) (by simp) ?_
              refine AllReadyH.cons rfl (fun K hK => ?_) (AllReadyH.cons rfl (fun K hK => ?_) AllReadyH.nil)
              · refine step_append_lies VJFAMN rfl (.tmp 19) (.tmp 21) 22 rfl w1.heap.size 55 i0 (.agg #[.int .i64 0, .int .i64 0]) 2 16 Try.underlying22 hi0 hz0 hz1 hz2 rfl (by omega) va l.length (l.flatMap encR) (by rfl) HO1.out ⟨bN, 0, none⟩ 1 1 (encR (m0, m1)) (by rfl) rfl (news_new HNW.out rfl) (oneR _) (by omega) (by simp only [maxLen]; omega) (by omega) HBv.out.size _ rfl ?_
                intro g8 c8 V18 hown8 hg8 hat8 hlt8
                have hbs := HBv.out.size
                replace HBv := Lib.hid (HBv.out.grown hg8 hbs (fun r e => own_base HO1.out r e))
                have HO8 := Lib.hid hown8
                have HC8 : Hid (l.length + 1 ≤ c8) := Lib.hid (by obtain ⟨A9, c9, e9, h9⟩ := own_form hown8; cases e9; exact h9)
                have HCM : Hid (c8 ≤ 9223372036854775807) := Lib.hid (own_capM hown8)
                refine hK.out _ _ (HSF.out _ HBv.out) (fun hS9 => ?_)
                clear hS9 hK K hown8 hg8 hat8 hlt8 hbs HO1 HNW
                refine wpAnyH_take (i := 13) (v := ?_) rfl (by kernel_rfl) (by kernel_rfl) (by kernel_rfl) (fun _ _ _ h => h) (Or.inl ⟨by rfl, ?_⟩) (HSF.out _ HBv.out) ?_
                rotate_left 1
                · intro W hW; obtain ⟨⟨s0, s1, s2, s3⟩, s4, s5⟩ := hW; go_simp <;> with_reducible rfl
                simp only [Act.put, List.setIfInBounds_toArray]
                refine wpAnyH_ready (rs := [14]) (by kernel_rfl) (by simp) ?_
                refine AllReadyH.cons rfl (fun K hK => ?_) AllReadyH.nil
                go_simp
                have hal : Below V18.heap.size V18 (V18.alloc (.cells #[.int .i64 0, .int .i64 0, .slice none 0 0, .slice none 0 0] 25)) := below_alloc' (Below.refl _ _) _
                have hnb := heap_alloc_new V18 (.cells #[.int .i64 0, .int .i64 0, .slice none 0 0, .slice none 0 0] 25)
                have hbs := HBv.out.size
                replace HBv := Lib.hid (below_trans' HBv.out hal)
                replace HO8 := Lib.hid (HO8.out.alloc (.cells #[.int .i64 0, .int .i64 0, .slice none 0 0, .slice none 0 0] 25))
                refine hK.out _ _ (HSF.out _ HBv.out) (fun hS9 => ?_)
                clear hS9 hK K hal
                generalize V18.alloc (.cells #[.int .i64 0, .int .i64 0, .slice none 0 0, .slice none 0 0] 25) = V19 at *
                generalize V18.heap.size = b7 at *
                have HZB := Lib.hid hnb
                have hb7 : w1.heap.size ≤ b7 := hbs
                clear hnb hbs
                revert hb7
                revert HZB
                revert HCM
                revert HC8
                revert HO8
                revert HBv
                revert c8
                revert g8
                revert va
                revert b7
                revert bN
                revert bM
                revert V19
                exact FABMNZ.out
              · go_simp
                have hal : Below VJFAMN.heap.size VJFAMN (VJFAMN.alloc (.cells #[.int .i64 0, .int .i64 0, .slice none 0 0, .slice none 0 0] 25)) := below_alloc' (Below.refl _ _) _
                have hnb := heap_alloc_new VJFAMN (.cells #[.int .i64 0, .int .i64 0, .slice none 0 0, .slice none 0 0] 25)
                have hbs := HBv.out.size
                replace HBv := Lib.hid (below_trans' HBv.out hal)
                replace HO1 := Lib.hid (HO1.out.alloc (.cells #[.int .i64 0, .int .i64 0, .slice none 0 0, .slice none 0 0] 25))
                replace HNW := Lib.hid (blk_below hal HNW.out)
                refine hK.out _ _ (HSF.out _ HBv.out) (fun hS9 => ?_)
                clear hS9 hK K hal
                generalize VJFAMN.alloc (.cells #[.int .i64 0, .int .i64 0, .slice none 0 0, .slice none 0 0] 25) = V20 at *
                generalize VJFAMN.heap.size = b7 at *
                have HZB := Lib.hid hnb
                have hb7 : w1.heap.size ≤ b7 := hbs
                clear hnb hbs
                revert hb7
                revert HZB
                revert HNW
                revert HO1
                revert HBv
                revert va
                revert b7
                revert bN
                revert bM
                revert V20
                exact FAMNZ.out
          · intro VJFMNZ bM bN b7 HBv HOM HNW HZB hb7
            refine wpAnyH_ready (rs := [7]) (by kernel_rfl) (by simp) ?_
            refine AllReadyH.cons rfl (fun K hK => ?_) AllReadyH.nil
            refine step_append_first rfl (.tmp 16) (.tmp 18) 22 rfl 55 i0 (.agg #[.int .i64 0, .int .i64 0]) 2 16 Try.underlying22 hi0 hz0 hz1 hz2 rfl (by omega) bM (by rfl) w1.heap.size HBv.out.size HOM.out A l.length ca (l.flatMap encR) (by rfl) HNIL.out HLZ.out (fun ad e j u hj => HOL.out _ HBv.out ad e j u hj) (oneFlat oneR l) (by simp only [maxLen]; omega) (by omega) ?_
            intro va V21 hown hgrow hz9
            clear hz9
            have hal : Below VJFMNZ.heap.size VJFMNZ V21 := (Below.refl _ _).grown hgrow (Nat.le_refl _) (fun r e => by cases e)
            replace HBv := Lib.hid (below_trans' HBv.out hal)
            have HO1 := Lib.hid hown
            replace HNW := Lib.hid (blk_below hal HNW.out)
            replace HZB := Lib.hid (blk_below hal HZB.out)
            refine hK.out _ _ (HSF.out _ HBv.out) (fun hS9 => ?_)
            clear hS9 hK K hal hown hgrow HOM
            exact FAMNZ.out V21 bM bN b7 va HBv HO1 HNW HZB hb7
        · intro VJFAMZ bM b7 va HBv HO1 HZB hb7
          refine wpAnyH_ready (rs := [9]) (by kernel_rfl) (by simp) ?_
          refine AllReadyH.cons rfl (fun K hK => ?_) AllReadyH.nil
          go_simp
          have hal : Below VJFAMZ.heap.size VJFAMZ (VJFAMZ.alloc (.cells #[.int .i64 m0, .int .i64 m1] 55)) := below_alloc' (Below.refl _ _) _
          have hnb := heap_alloc_new VJFAMZ (.cells #[.int .i64 m0, .int .i64 m1] 55)
          have hbs := HBv.out.size
          replace HBv := Lib.hid (below_trans' HBv.out hal)
          replace HO1 := Lib.hid (HO1.out.alloc (.cells #[.int .i64 m0, .int .i64 m1] 55))
          replace HZB := Lib.hid (blk_below hal HZB.out)
          refine hK.out _ _ (HSF.out _ HBv.out) (fun hS9 => ?_)
          clear hS9 hK K hal
          generalize VJFAMZ.alloc (.cells #[.int .i64 m0, .int .i64 m1] 55) = V22 at *
          generalize VJFAMZ.heap.size = bN at *
          have HNW := Lib.hid hnb
          clear hnb hbs
          exact FAMNZ.out V22 bM bN b7 va HBv HO1 HNW HZB hb7
      · intro VJFAMNZ bM bN b7 va HBv HO1 HNW HZB hb7
        refine wpAnyH_ready (rs := [10]) (by kernel_rfl) (by simp) ?_
        refine AllReadyH.cons rfl (fun K hK => ?_) AllReadyH.nil
        refine step_append_lies VJFAMNZ rfl (.tmp 19) (.tmp 21) 22 rfl w1.heap.size 55 i0 (.agg #[.int .i64 0, .int .i64 0]) 2 16 Try.underlying22 hi0 hz0 hz1 hz2 rfl (by omega) va l.length (l.flatMap encR) (by rfl) HO1.out ⟨bN, 0, none⟩ 1 1 (encR (m0, m1)) (by rfl) rfl (news_new HNW.out rfl) (oneR _) (by omega) (by simp only [maxLen]; omega) (by omega) HBv.out.size _ rfl ?_
        intro g8 c8 V23 hown8 hg8 hat8 hlt8
        have hbs := HBv.out.size
        replace HZB := Lib.hid (blk_grown hg8 HZB.out (own_ne_blk HO1.out HZB.out (by decide)))
        replace HBv := Lib.hid (HBv.out.grown hg8 hbs (fun r e => own_base HO1.out r e))
        have HO8 := Lib.hid hown8
        have HC8 : Hid (l.length + 1 ≤ c8) := Lib.hid (by obtain ⟨A9, c9, e9, h9⟩ := own_form hown8; cases e9; exact h9)
        have HCM : Hid (c8 ≤ 9223372036854775807) := Lib.hid (own_capM hown8)
        refine hK.out _ _ (HSF.out _ HBv.out) (fun hS9 => ?_)
        clear hS9 hK K hown8 hg8 hat8 hlt8 hbs HO1 HNW
        refine wpAnyH_take (i := 13) (v := ?_) rfl (by kernel_rfl) (by kernel_rfl) (by kernel_rfl) (fun _ _ _ h => h) (Or.inl ⟨by rfl, ?_⟩) (HSF.out _ HBv.out) ?_
        rotate_left 1
        · intro W hW; obtain ⟨⟨s0, s1, s2, s3⟩, s4, s5⟩ := hW; go_simp <;> with_reducible rfl
        simp only [Act.put, List.setIfInBounds_toArray]
        exact FABMNZ.out V23 bM bN b7 va g8 c8 HBv HO8 HC8 HCM HZB hb7
    · intro VJFABMNZ bM bN b7 va g8 c8 HBv HO8 HC8 HCM HZB hb7
      have HR8 : Hid (RangesAt VJFABMNZ (some ⟨g8, 0, none⟩) (l ++ [(m0, m1)])) := Lib.hid (RowsAt.of_own encR_len (by rw [len_snoc, ← push_flat]; exact HO8.out))
      have hne8 : g8 ≠ b7 := fun e => own_ne_blk HO8.out HZB.out (by decide) (by rw [e]; rfl)
      have e0 : VJFABMNZ.cell? ⟨b7, 0, none⟩ = some (.int .i64 0) := (blk_cell HZB.out).trans rfl
      have e1 : VJFABMNZ.cell? ⟨b7, 1, none⟩ = some (.int .i64 0) := (blk_cell HZB.out).trans rfl
      have e2 : VJFABMNZ.cell? ⟨b7, 2, none⟩ = some (.slice none 0 0) := (blk_cell HZB.out).trans rfl
      have e3 : VJFABMNZ.cell? ⟨b7, 3, none⟩ = some (.slice none 0 0) := (blk_cell HZB.out).trans rfl
      have f0 := blk_frozen (i := 0) HZB.out
      have f1 := blk_frozen (i := 1) HZB.out
      have f2 := blk_frozen (i := 2) HZB.out
      have f3 := blk_frozen (i := 3) HZB.out
      refine wpAnyH_ready (rs := [15]) (by kernel_rfl) (by simp) ?_
      refine AllReadyH.cons rfl (fun K hK => ?_) AllReadyH.nil
      go_simp
      have HF1 := Lib.hid (fill4_blk HZB.out (.int .i64 L) (.int .i64 R) (.slice (some ⟨g8, 0, none⟩) (l.length + 1) c8) (.slice B t.length cb))
      replace HBv := Lib.hid (fill4_below (b := b7) HBv.out hb7 (.int .i64 L) (.int .i64 R) (.slice (some ⟨g8, 0, none⟩) (l.length + 1) c8) (.slice B t.length cb))
      have HF3 := Lib.hid ((((HR8.out.far (p := ⟨b7, 0, none⟩) hne8 (.int .i64 L)).far (p := ⟨b7, 1, none⟩) hne8 (.int .i64 R)).far (p := ⟨b7, 2, none⟩) hne8 (.slice (some ⟨g8, 0, none⟩) (l.length + 1) c8)).far (p := ⟨b7, 3, none⟩) hne8 (.slice B t.length cb))
      refine hK.out _ _ (HSF.out _ HBv.out) (fun hS9 => ?_)
      clear hS9 hK K e0 e1 e2 e3 f0 f1 f2 f3
      refine wpAnyH_done (by kernel_rfl) ?_ _
      go_simp
      try (go_wp2_with fail)
      go_meet
      exact ⟨b7, g8, c8, rfl, HF1.out, HF3, HC8.out, HCM.out, HBv, hb7⟩
  case rest =>
    obtain ⟨b7, g8, c8, rfl, hZ, HR8, hc8, hcm, HBx, hb7⟩ := hcut
    obtain ⟨w2, rfl⟩ : ∃ w2 : World, w2 = wc := ⟨_, rfl⟩
    have HLE : Hid (l.length + 1 = (l ++ [(m0, m1)]).length) := Lib.hid (len_snoc l (m0, m1)).symm
    obtain ⟨lx, hlx⟩ : ∃ lx, lx = l ++ [(m0, m1)] := ⟨_, rfl⟩
    rw [← hlx] at HLE HR8
    have HLX := Lib.hid hlx
    clear hlx
    rw [HLE.out] at hZ hc8
    have q0 : w2.cell? ⟨b7, 0, none⟩ = some (.int .i64 L) := (blk_cell hZ).trans rfl
    have q1 : w2.cell? ⟨b7, 1, none⟩ = some (.int .i64 R) := (blk_cell hZ).trans rfl
    have q2 : w2.cell? ⟨b7, 2, none⟩ = some (.slice (some ⟨g8, 0, none⟩) lx.length c8) := (blk_cell hZ).trans rfl
    have q3 : w2.cell? ⟨b7, 3, none⟩ = some (.slice B t.length cb) := (blk_cell hZ).trans rfl
    have HB2 := Lib.hid (below_trans' HB1.out HBx.out)
    replace HS := Lib.hid (HS.out.below HBx.out)
    replace HU : Hid (U8At w2 U u) := Lib.hid (RowsAt.below HU.out HBx.out)
    replace y0 := cell_below HBx.out y0
    replace y1 := cell_below HBx.out y1
    replace y2 := cell_below HBx.out y2
    replace y3 := cell_below HBx.out y3
    have HX : Hid (ShIn w2 ⟨L, R, some ⟨g8, 0, none⟩, c8, B, cb, lx, t⟩) := Lib.hid ⟨HR8.out, HS.out.known, by dsimp only; omega, HS.out.few, hc8, hcm, HS.out.capB⟩
    clear hZ HR8 hc8 hcm HBx hb7 HOL HB1 HNIL z0 z1 hi0 hz0 hz1 hz2 i0 HLZ HLE hreach
    have Hc := Lib.hid (fineS ⟨L, R, A, ca, B, cb, l, t⟩ w2 HS.out)
    try dsimp only at Hc
    go_wp2_with fail
    refine Hc.out.mono ?_
    rintro e w3 ⟨v, rfl, rfl, hb⟩
    have HB3 := Lib.hid (below_trans' HB2.out hb)
    replace HS := Lib.hid (HS.out.below hb)
    replace HX := Lib.hid (HX.out.below hb)
    replace y0 := cell_below hb y0
    replace y1 := cell_below hb y1
    replace y2 := cell_below hb y2
    replace y3 := cell_below hb y3
    replace q0 := cell_below hb q0
    replace q1 := cell_below hb q1
    replace q2 := cell_below hb q2
    replace q3 := cell_below hb q3
    replace HU : Hid (U8At w3 U u) := Lib.hid (RowsAt.below HU.out hb)
    clear hb Hc HB2 
    by_cases hf : fineC ⟨L, R, A, ca, B, cb, l, t⟩ = true
    rotate_left 1
    ·
      have hf : fineC ⟨L, R, A, ca, B, cb, l, t⟩ = false := by simpa using hf
      rw [hf]
      go_wp2_with fail
      refine (works_any _).mono ?_
      rintro e wz ⟨v, rfl, rfl, hBz⟩
      go_wp2
      go_ret
      exact Ret.mk' rfl ⟨rfl, below_trans' HB3.out hBz⟩
    rw [hf]
    have Hc := Lib.hid (fineS ⟨L, R, some ⟨g8, 0, none⟩, c8, B, cb, lx, t⟩ w3 HX.out)
    try dsimp only at Hc
    go_wp2_with fail
    refine Hc.out.mono ?_
    rintro e w4 ⟨v, rfl, rfl, hb⟩
    have HB4 := Lib.hid (below_trans' HB3.out hb)
    replace HS := Lib.hid (HS.out.below hb)
    replace HX := Lib.hid (HX.out.below hb)
    replace y0 := cell_below hb y0
    replace y1 := cell_below hb y1
    replace y2 := cell_below hb y2
    replace y3 := cell_below hb y3
    replace q0 := cell_below hb q0
    replace q1 := cell_below hb q1
    replace q2 := cell_below hb q2
    replace q3 := cell_below hb q3
    replace HU : Hid (U8At w4 U u) := Lib.hid (RowsAt.below HU.out hb)
    clear hb Hc HB3 
    by_cases hfx : fineC ⟨L, R, some ⟨g8, 0, none⟩, c8, B, cb, lx, t⟩ = true
    rotate_left 1
    ·
      have hfx : fineC ⟨L, R, some ⟨g8, 0, none⟩, c8, B, cb, lx, t⟩ = false := by simpa using hfx
      rw [hfx]
      go_wp2_with fail
      refine (works_any _).mono ?_
      rintro e wz ⟨v, rfl, rfl, hBz⟩
      go_wp2
      go_ret
      exact Ret.mk' rfl ⟨rfl, below_trans' HB4.out hBz⟩
    rw [hfx]
    by_cases h1 : (60 : Int) < (u.length : Int)
    ·
      go_wp2_with fail
      refine (works_any _).mono ?_
      rintro e wz ⟨v, rfl, rfl, hBz⟩
      go_wp2
      go_ret
      exact Ret.mk' rfl ⟨rfl, below_trans' HB4.out hBz⟩
    obtain ⟨hg, hv⟩ := fine_iff.1 hf
    have HA := Lib.hid (HS.out.at hg)
    have HV := Lib.hid hv
    clear HS hf hg hv
    obtain ⟨hg, hv⟩ := fine_iff.1 hfx
    have HAX := Lib.hid (HX.out.at hg)
    have HVX := Lib.hid hv
    clear HX hfx hg hv
    have Hc := Lib.hid (greatestS ⟨L, R, A, ca, B, cb, l, t⟩ w4 HA.out HV.out)
    try dsimp only at Hc
    go_wp2_with fail
    refine Hc.out.mono ?_
    rintro e w5 ⟨v, rfl, ⟨G, c, j, rfl, hg, hgc, hgj, hgl⟩, hb⟩
    have HB5 := Lib.hid (below_trans' HB4.out hb)
    replace HA := Lib.hid (HA.out.below hb)
    replace HAX := Lib.hid (HAX.out.below hb)
    replace y0 := cell_below hb y0
    replace y1 := cell_below hb y1
    replace y2 := cell_below hb y2
    replace y3 := cell_below hb y3
    replace q0 := cell_below hb q0
    replace q1 := cell_below hb q1
    replace q2 := cell_below hb q2
    replace q3 := cell_below hb q3
    replace HU : Hid (U8At w5 U u) := Lib.hid (RowsAt.below HU.out hb)
    clear hb Hc HB4 
    have HG := Lib.hid hg
    have HGJ := Lib.hid hgj
    have hj40 := IsJ.short HV.out hgj
    have HGL := Lib.hid hgl
    clear hg hgj hgl hgc
    have Hc := Lib.hid (greatestS ⟨L, R, some ⟨g8, 0, none⟩, c8, B, cb, lx, t⟩ w5 HAX.out HVX.out)
    try dsimp only at Hc
    go_wp2_with fail
    refine Hc.out.mono ?_
    rintro e w6 ⟨v, rfl, ⟨G2, c2, j2, rfl, hg, hgc, hgj, hgl⟩, hb⟩
    have HB6 := Lib.hid (below_trans' HB5.out hb)
    replace HA := Lib.hid (HA.out.below hb)
    replace HAX := Lib.hid (HAX.out.below hb)
    replace HG := Lib.hid (HG.out.below hb)
    replace y0 := cell_below hb y0
    replace y1 := cell_below hb y1
    replace y2 := cell_below hb y2
    replace y3 := cell_below hb y3
    replace q0 := cell_below hb q0
    replace q1 := cell_below hb q1
    replace q2 := cell_below hb q2
    replace q3 := cell_below hb q3
    replace HU : Hid (U8At w6 U u) := Lib.hid (RowsAt.below HU.out hb)
    clear hb Hc HB5 
    have hj40' := IsJ.short HVX.out hgj
    have HEJ := Lib.hid (more_join HLX.out HVX.out HGJ.out)
    have hml := more_lens (s := ⟨L, R, A, ca, B, cb, l, t⟩) HLX.out HV.out HVX.out HGL.out hgl
    obtain ⟨hl1, hl2⟩ := hml
    clear hg hgj hgl hgc HGL
    go_upto_region 6 with fail
    have hwr : IntKind.i64.wrap ((j.length : Int) + 1) = (j.length : Int) + 1 := IntWalk.i64_in _ (by omega)
    have hge1 : (j.length : Int) ≤ (j2.length : Int) := by omega
    have hge2 : (j2.length : Int) ≤ (j.length : Int) + 1 := by omega
    have hd1 : decide ((j2.length : Int) ≥ (j.length : Int)) = true := decide_eq_true hge1
    have hd2 : decide ((j2.length : Int) ≤ (j.length : Int) + 1) = true := decide_eq_true hge2
    have HBv : Hid (Below w.heap.size w w6.drew) := Lib.hid (HB6.out.drew)
    have hBd : Below w6.heap.size w6 w6.drew := (Below.refl _ _).drew
    have HAv := Lib.hid (HA.out.below hBd)
    have HAXv := Lib.hid (HAX.out.below hBd)
    have HGv := Lib.hid (HG.out.below hBd)
    have HUv : Hid (U8At w6.drew U u) := Lib.hid (RowsAt.below HU.out hBd)
    have d0 := cell_below hBd y0
    have d1 := cell_below hBd y1
    have d2 := cell_below hBd y2
    have d3 := cell_below hBd y3
    have d4 := cell_below hBd q0
    have d5 := cell_below hBd q1
    have d6 := cell_below hBd q2
    have d7 := cell_below hBd q3
    clear hBd HA HAX HG HU y0 y1 y2 y3 q0 q1 q2 q3 HB6
    refine wp_region_held (S := fun W => W.cell? ⟨w.heap.size, 0, none⟩ = some (.int .i64 L) ∧ W.cell? ⟨w.heap.size, 1, none⟩ = some (.int .i64 R) ∧ W.cell? ⟨w.heap.size, 2, none⟩ = some (.slice A l.length ca) ∧ W.cell? ⟨w.heap.size, 3, none⟩ = some (.slice B t.length cb) ∧ W.cell? ⟨b7, 0, none⟩ = some (.int .i64 L) ∧ W.cell? ⟨b7, 1, none⟩ = some (.int .i64 R) ∧ W.cell? ⟨b7, 2, none⟩ = some (.slice (some ⟨g8, 0, none⟩) lx.length c8) ∧ W.cell? ⟨b7, 3, none⟩ = some (.slice B t.length cb)) (by kernel_rfl) ?_
    refine takeD (i := 0) (d := 50) (v := ?_) rfl rfl (by kernel_rfl) (by kernel_rfl) (by kernel_rfl) (fun _ _ _ h => h) (Or.inl ⟨by rfl, ?_⟩) ⟨d0, d1, d2, d3, d4, d5, d6, d7⟩ ?_
    rotate_left 1
    · intro W hW; obtain ⟨s0, s1, s2, s3, s4, s5, s6, s7⟩ := hW; go_simp <;> with_reducible rfl
    simp only [List.setIfInBounds_toArray, List.set_cons_succ, List.set_cons_zero]
    refine takeD (i := 1) (d := 51) (v := ?_) rfl rfl (by kernel_rfl) (by kernel_rfl) (by kernel_rfl) (fun _ _ _ h => h) (Or.inl ⟨by rfl, ?_⟩) ⟨d0, d1, d2, d3, d4, d5, d6, d7⟩ ?_
    rotate_left 1
    · intro W hW; obtain ⟨s0, s1, s2, s3, s4, s5, s6, s7⟩ := hW; go_simp <;> with_reducible rfl
    simp only [List.setIfInBounds_toArray, List.set_cons_succ, List.set_cons_zero]
    refine takeD (i := 2) (d := 52) (v := ?_) rfl rfl (by kernel_rfl) (by kernel_rfl) (by kernel_rfl) (fun _ _ _ h => h) (Or.inl ⟨by rfl, ?_⟩) ⟨d0, d1, d2, d3, d4, d5, d6, d7⟩ ?_
    rotate_left 1
    · intro W hW; obtain ⟨s0, s1, s2, s3, s4, s5, s6, s7⟩ := hW; go_simp <;> with_reducible rfl
    simp only [List.setIfInBounds_toArray, List.set_cons_succ, List.set_cons_zero]
    refine takeD (i := 3) (d := 53) (v := ?_) rfl rfl (by kernel_rfl) (by kernel_rfl) (by kernel_rfl) (fun _ _ _ h => h) (Or.inl ⟨by rfl, ?_⟩) ⟨d0, d1, d2, d3, d4, d5, d6, d7⟩ ?_
    rotate_left 1
    · intro W hW; obtain ⟨s0, s1, s2, s3, s4, s5, s6, s7⟩ := hW; go_simp <;> with_reducible rfl
    simp only [List.setIfInBounds_toArray, List.set_cons_succ, List.set_cons_zero]
    refine takeD (i := 4) (d := 54) (v := ?_) rfl rfl (by kernel_rfl) (by kernel_rfl) (by kernel_rfl) (fun _ _ _ h => h) (Or.inl ⟨by rfl, ?_⟩) ⟨d0, d1, d2, d3, d4, d5, d6, d7⟩ ?_
    rotate_left 1
    · intro W hW; obtain ⟨s0, s1, s2, s3, s4, s5, s6, s7⟩ := hW; go_simp <;> with_reducible rfl
    simp only [List.setIfInBounds_toArray, List.set_cons_succ, List.set_cons_zero]
    refine takeD (i := 5) (d := 55) (v := ?_) rfl rfl (by kernel_rfl) (by kernel_rfl) (by kernel_rfl) (fun _ _ _ h => h) (Or.inl ⟨by rfl, ?_⟩) ⟨d0, d1, d2, d3, d4, d5, d6, d7⟩ ?_
    rotate_left 1
    · intro W hW; obtain ⟨s0, s1, s2, s3, s4, s5, s6, s7⟩ := hW; go_simp <;> with_reducible rfl
    simp only [List.setIfInBounds_toArray, List.set_cons_succ, List.set_cons_zero]
    refine takeD (i := 6) (d := 56) (v := ?_) rfl rfl (by kernel_rfl) (by kernel_rfl) (by kernel_rfl) (fun _ _ _ h => h) (Or.inl ⟨by rfl, ?_⟩) ⟨d0, d1, d2, d3, d4, d5, d6, d7⟩ ?_
    rotate_left 1
    · intro W hW; obtain ⟨s0, s1, s2, s3, s4, s5, s6, s7⟩ := hW; go_simp <;> with_reducible rfl
    simp only [List.setIfInBounds_toArray, List.set_cons_succ, List.set_cons_zero]
    refine takeD (i := 7) (d := 57) (v := ?_) rfl rfl (by kernel_rfl) (by kernel_rfl) (by kernel_rfl) (fun _ _ _ h => h) (Or.inl ⟨by rfl, ?_⟩) ⟨d0, d1, d2, d3, d4, d5, d6, d7⟩ ?_
    rotate_left 1
    · intro W hW; obtain ⟨s0, s1, s2, s3, s4, s5, s6, s7⟩ := hW; go_simp <;> with_reducible rfl
    simp only [List.setIfInBounds_toArray, List.set_cons_succ, List.set_cons_zero]
    refine takeD (i := 8) (d := 58) (v := ?_) rfl rfl (by kernel_rfl) (by kernel_rfl) (by kernel_rfl) (fun _ _ _ h => h) (Or.inl ⟨by rfl, ?_⟩) ⟨d0, d1, d2, d3, d4, d5, d6, d7⟩ ?_
    rotate_left 1
    · intro W hW; obtain ⟨s0, s1, s2, s3, s4, s5, s6, s7⟩ := hW; go_simp <;> with_reducible rfl
    simp only [List.setIfInBounds_toArray, List.set_cons_succ, List.set_cons_zero]
    refine takeD (i := 9) (d := 59) (v := ?_) rfl rfl (by kernel_rfl) (by kernel_rfl) (by kernel_rfl) (fun _ _ _ h => h) (Or.inl ⟨by rfl, ?_⟩) ⟨d0, d1, d2, d3, d4, d5, d6, d7⟩ ?_
    rotate_left 1
    · intro W hW; obtain ⟨s0, s1, s2, s3, s4, s5, s6, s7⟩ := hW; go_simp <;> with_reducible rfl
    simp only [List.setIfInBounds_toArray, List.set_cons_succ, List.set_cons_zero]
    refine takeD (i := 10) (d := 60) (v := ?_) rfl rfl (by kernel_rfl) (by kernel_rfl) (by kernel_rfl) (fun _ _ _ h => h) (Or.inl ⟨by rfl, ?_⟩) ⟨d0, d1, d2, d3, d4, d5, d6, d7⟩ ?_
    rotate_left 1
    · intro W hW; obtain ⟨s0, s1, s2, s3, s4, s5, s6, s7⟩ := hW; go_simp <;> with_reducible rfl
    simp only [List.setIfInBounds_toArray, List.set_cons_succ, List.set_cons_zero]
    refine takeD (i := 11) (d := 61) (v := ?_) rfl rfl (by kernel_rfl) (by kernel_rfl) (by kernel_rfl) (fun _ _ _ h => h) (Or.inl ⟨by rfl, ?_⟩) ⟨d0, d1, d2, d3, d4, d5, d6, d7⟩ ?_
    rotate_left 1
    · intro W hW; obtain ⟨s0, s1, s2, s3, s4, s5, s6, s7⟩ := hW; go_simp <;> with_reducible rfl
    simp only [List.setIfInBounds_toArray, List.set_cons_succ, List.set_cons_zero]
    refine takeD (i := 12) (d := 62) (v := ?_) rfl rfl (by kernel_rfl) (by kernel_rfl) (by kernel_rfl) (fun _ _ _ h => h) (Or.inl ⟨by rfl, ?_⟩) ⟨d0, d1, d2, d3, d4, d5, d6, d7⟩ ?_
    rotate_left 1
    · intro W hW; obtain ⟨s0, s1, s2, s3, s4, s5, s6, s7⟩ := hW; go_simp <;> with_reducible rfl
    simp only [List.setIfInBounds_toArray, List.set_cons_succ, List.set_cons_zero]
    refine takeD (i := 13) (d := 63) (v := ?_) rfl rfl (by kernel_rfl) (by kernel_rfl) (by kernel_rfl) (fun _ _ _ h => h) (Or.inl ⟨by rfl, ?_⟩) ⟨d0, d1, d2, d3, d4, d5, d6, d7⟩ ?_
    rotate_left 1
    · intro W hW; obtain ⟨s0, s1, s2, s3, s4, s5, s6, s7⟩ := hW; go_simp <;> with_reducible rfl
    simp only [List.setIfInBounds_toArray, List.set_cons_succ, List.set_cons_zero]
    refine takeD (i := 14) (d := 64) (v := ?_) rfl rfl (by kernel_rfl) (by kernel_rfl) (by kernel_rfl) (fun _ _ _ h => h) (Or.inl ⟨by rfl, ?_⟩) ⟨d0, d1, d2, d3, d4, d5, d6, d7⟩ ?_
    rotate_left 1
    · intro W hW; obtain ⟨s0, s1, s2, s3, s4, s5, s6, s7⟩ := hW; go_simp <;> with_reducible rfl
    simp only [List.setIfInBounds_toArray, List.set_cons_succ, List.set_cons_zero]
    refine takeD (i := 15) (d := 65) (v := ?_) rfl rfl (by kernel_rfl) (by kernel_rfl) (by kernel_rfl) (fun _ _ _ h => h) (Or.inl ⟨by rfl, ?_⟩) ⟨d0, d1, d2, d3, d4, d5, d6, d7⟩ ?_
    rotate_left 1
    · intro W hW; obtain ⟨s0, s1, s2, s3, s4, s5, s6, s7⟩ := hW; go_simp <;> with_reducible rfl
    simp only [List.setIfInBounds_toArray, List.set_cons_succ, List.set_cons_zero]
    refine takeD (i := 16) (d := 66) (v := ?_) rfl rfl (by kernel_rfl) (by kernel_rfl) (by kernel_rfl) (fun _ _ _ h => h) (Or.inl ⟨by rfl, ?_⟩) ⟨d0, d1, d2, d3, d4, d5, d6, d7⟩ ?_
    rotate_left 1
    · intro W hW; obtain ⟨s0, s1, s2, s3, s4, s5, s6, s7⟩ := hW; go_simp <;> with_reducible rfl
    simp only [List.setIfInBounds_toArray, List.set_cons_succ, List.set_cons_zero]
    refine takeD (i := 17) (d := 67) (v := ?_) rfl rfl (by kernel_rfl) (by kernel_rfl) (by kernel_rfl) (fun _ _ _ h => h) (Or.inl ⟨by rfl, ?_⟩) ⟨d0, d1, d2, d3, d4, d5, d6, d7⟩ ?_
    rotate_left 1
    · intro W hW; obtain ⟨s0, s1, s2, s3, s4, s5, s6, s7⟩ := hW; go_simp <;> with_reducible rfl
    simp only [List.setIfInBounds_toArray, List.set_cons_succ, List.set_cons_zero]
    refine takeD (i := 18) (d := 68) (v := ?_) rfl rfl (by kernel_rfl) (by kernel_rfl) (by kernel_rfl) (fun _ _ _ h => h) (Or.inl ⟨by rfl, ?_⟩) ⟨d0, d1, d2, d3, d4, d5, d6, d7⟩ ?_
    rotate_left 1
    · intro W hW; obtain ⟨s0, s1, s2, s3, s4, s5, s6, s7⟩ := hW; go_simp <;> with_reducible rfl
    simp only [List.setIfInBounds_toArray, List.set_cons_succ, List.set_cons_zero]
    refine takeD (i := 19) (d := 69) (v := ?_) rfl rfl (by kernel_rfl) (by kernel_rfl) (by kernel_rfl) (fun _ _ _ h => h) (Or.inl ⟨by rfl, ?_⟩) ⟨d0, d1, d2, d3, d4, d5, d6, d7⟩ ?_
    rotate_left 1
    · intro W hW; obtain ⟨s0, s1, s2, s3, s4, s5, s6, s7⟩ := hW; go_simp <;> with_reducible rfl
    simp only [List.setIfInBounds_toArray, List.set_cons_succ, List.set_cons_zero]
    refine takeD (i := 20) (d := 70) (v := ?_) rfl rfl (by kernel_rfl) (by kernel_rfl) (by kernel_rfl) (fun _ _ _ h => h) (Or.inl ⟨by rfl, ?_⟩) ⟨d0, d1, d2, d3, d4, d5, d6, d7⟩ ?_
    rotate_left 1
    · intro W hW; obtain ⟨s0, s1, s2, s3, s4, s5, s6, s7⟩ := hW; go_simp <;> with_reducible rfl
    simp only [List.setIfInBounds_toArray, List.set_cons_succ, List.set_cons_zero]
    refine takeD (i := 21) (d := 71) (v := ?_) rfl rfl (by kernel_rfl) (by kernel_rfl) (by kernel_rfl) (fun _ _ _ h => h) (Or.inl ⟨by rfl, ?_⟩) ⟨d0, d1, d2, d3, d4, d5, d6, d7⟩ ?_
    rotate_left 1
    · intro W hW; obtain ⟨s0, s1, s2, s3, s4, s5, s6, s7⟩ := hW; go_simp <;> with_reducible rfl
    simp only [List.setIfInBounds_toArray, List.set_cons_succ, List.set_cons_zero]
    refine takeD (i := 22) (d := 72) (v := ?_) rfl rfl (by kernel_rfl) (by kernel_rfl) (by kernel_rfl) (fun _ _ _ h => h) (Or.inl ⟨by rfl, ?_⟩) ⟨d0, d1, d2, d3, d4, d5, d6, d7⟩ ?_
    rotate_left 1
    · intro W hW; obtain ⟨s0, s1, s2, s3, s4, s5, s6, s7⟩ := hW; go_simp <;> with_reducible rfl
    simp only [List.setIfInBounds_toArray, List.set_cons_succ, List.set_cons_zero]
    refine takeD (i := 23) (d := 73) (v := ?_) rfl rfl (by kernel_rfl) (by kernel_rfl) (by kernel_rfl) (fun _ _ _ h => h) (Or.inl ⟨by rfl, ?_⟩) ⟨d0, d1, d2, d3, d4, d5, d6, d7⟩ ?_
    rotate_left 1
    · intro W hW; obtain ⟨s0, s1, s2, s3, s4, s5, s6, s7⟩ := hW; go_simp <;> with_reducible rfl
    simp only [List.setIfInBounds_toArray, List.set_cons_succ, List.set_cons_zero]
    refine wpAnyH_ready (rs := [24]) (by kernel_rfl) (by simp) ?_
    refine AllReadyH.cons rfl (fun K hK => ?_) AllReadyH.nil
    have Hc := Lib.hid (checkJoiningS ⟨L, R, some ⟨g8, 0, none⟩, c8, B, cb, lx, t⟩ G c j _ HAXv.out HGv.out (by omega))
    try dsimp only at Hc
    go_simp
    refine Hc.out.mono ?_
    rintro e V1 ⟨v, rfl, rfl, hb⟩
    replace HBv := Lib.hid (below_trans' HBv.out hb)
    replace HAv := Lib.hid (HAv.out.below hb)
    replace HAXv := Lib.hid (HAXv.out.below hb)
    replace HUv : Hid (U8At V1 U u) := Lib.hid (RowsAt.below HUv.out hb)
    replace d0 := cell_below hb d0
    replace d1 := cell_below hb d1
    replace d2 := cell_below hb d2
    replace d3 := cell_below hb d3
    replace d4 := cell_below hb d4
    replace d5 := cell_below hb d5
    replace d6 := cell_below hb d6
    replace d7 := cell_below hb d7
    rw [HEJ.out]
    clear HGv
    clear hb Hc
    refine hK.out _ _ ⟨d0, d1, d2, d3, d4, d5, d6, d7⟩ (fun _ => ?_)
    clear hK K
    refine takeD (i := 25) (d := 75) (v := ?_) rfl rfl (by kernel_rfl) (by kernel_rfl) (by kernel_rfl) (fun _ _ _ h => h) (Or.inl ⟨by rfl, ?_⟩) ⟨d0, d1, d2, d3, d4, d5, d6, d7⟩ ?_
    rotate_left 1
    · intro W hW; obtain ⟨s0, s1, s2, s3, s4, s5, s6, s7⟩ := hW; go_simp <;> with_reducible rfl
    simp only [List.setIfInBounds_toArray, List.set_cons_succ, List.set_cons_zero]
    refine takeD (i := 26) (d := 76) (v := ?_) rfl rfl (by kernel_rfl) (by kernel_rfl) (by kernel_rfl) (fun _ _ _ h => h) (Or.inl ⟨by rfl, ?_⟩) ⟨d0, d1, d2, d3, d4, d5, d6, d7⟩ ?_
    rotate_left 1
    · intro W hW; obtain ⟨s0, s1, s2, s3, s4, s5, s6, s7⟩ := hW; go_simp <;> with_reducible rfl
    simp only [List.setIfInBounds_toArray, List.set_cons_succ, List.set_cons_zero]
    refine takeD (i := 27) (d := 77) (v := ?_) rfl rfl (by kernel_rfl) (by kernel_rfl) (by kernel_rfl) (fun _ _ _ h => h) (Or.inl ⟨by rfl, ?_⟩) ⟨d0, d1, d2, d3, d4, d5, d6, d7⟩ ?_
    rotate_left 1
    · intro W hW; obtain ⟨s0, s1, s2, s3, s4, s5, s6, s7⟩ := hW; go_simp <;> with_reducible rfl
    simp only [List.setIfInBounds_toArray, List.set_cons_succ, List.set_cons_zero]
    refine takeD (i := 28) (d := 78) (v := ?_) rfl rfl (by kernel_rfl) (by kernel_rfl) (by kernel_rfl) (fun _ _ _ h => h) (Or.inl ⟨by rfl, ?_⟩) ⟨d0, d1, d2, d3, d4, d5, d6, d7⟩ ?_
    rotate_left 1
    · intro W hW; obtain ⟨s0, s1, s2, s3, s4, s5, s6, s7⟩ := hW; go_simp <;> with_reducible rfl
    simp only [List.setIfInBounds_toArray, List.set_cons_succ, List.set_cons_zero]
    refine takeD (i := 29) (d := 79) (v := ?_) rfl rfl (by kernel_rfl) (by kernel_rfl) (by kernel_rfl) (fun _ _ _ h => h) (Or.inl ⟨by rfl, ?_⟩) ⟨d0, d1, d2, d3, d4, d5, d6, d7⟩ ?_
    rotate_left 1
    · intro W hW; obtain ⟨s0, s1, s2, s3, s4, s5, s6, s7⟩ := hW; go_simp <;> with_reducible rfl
    simp only [List.setIfInBounds_toArray, List.set_cons_succ, List.set_cons_zero]
    refine takeD (i := 30) (d := 80) (v := ?_) rfl rfl (by kernel_rfl) (by kernel_rfl) (by kernel_rfl) (fun _ _ _ h => h) (Or.inl ⟨by rfl, ?_⟩) ⟨d0, d1, d2, d3, d4, d5, d6, d7⟩ ?_
    rotate_left 1
    · intro W hW; obtain ⟨s0, s1, s2, s3, s4, s5, s6, s7⟩ := hW; go_simp <;> with_reducible rfl
    simp only [List.setIfInBounds_toArray, List.set_cons_succ, List.set_cons_zero]
    refine wpAnyH_ready (rs := [31]) (by kernel_rfl) (by simp) ?_
    refine AllReadyH.cons rfl (fun K hK => ?_) AllReadyH.nil
    have Hc := Lib.hid (byS ⟨L, R, A, ca, B, cb, l, t⟩ U cu u _ HAv.out HV.out HUv.out (by omega) HU2.out)
    try dsimp only at Hc
    go_simp
    refine Hc.out.mono ?_
    rintro e V2 ⟨v, rfl, ⟨G3, c3, j3, rfl, hg3, hgc3, hgj3, hj340⟩, hb⟩
    replace HBv := Lib.hid (below_trans' HBv.out hb)
    replace HAXv := Lib.hid (HAXv.out.below hb)
    replace HUv : Hid (U8At V2 U u) := Lib.hid (RowsAt.below HUv.out hb)
    replace d0 := cell_below hb d0
    replace d1 := cell_below hb d1
    replace d2 := cell_below hb d2
    replace d3 := cell_below hb d3
    replace d4 := cell_below hb d4
    replace d5 := cell_below hb d5
    replace d6 := cell_below hb d6
    replace d7 := cell_below hb d7
    have HG3 := Lib.hid hg3
    have HGJ3 := Lib.hid hgj3
    clear hg3 hgc3 hgj3 HAv
    clear hb Hc
    refine hK.out _ _ ⟨d0, d1, d2, d3, d4, d5, d6, d7⟩ (fun _ => ?_)
    clear hK K
    refine wpAnyH_ready (rs := [32]) (by kernel_rfl) (by simp) ?_
    refine AllReadyH.cons rfl (fun K hK => ?_) AllReadyH.nil
    have Hc := Lib.hid (checkJoiningS ⟨L, R, some ⟨g8, 0, none⟩, c8, B, cb, lx, t⟩ G3 c3 j3 _ HAXv.out HG3.out (by omega))
    try dsimp only at Hc
    go_simp
    refine Hc.out.mono ?_
    rintro e V3 ⟨v, rfl, rfl, hb⟩
    replace HBv := Lib.hid (below_trans' HBv.out hb)
    replace HUv : Hid (U8At V3 U u) := Lib.hid (RowsAt.below HUv.out hb)
    replace d0 := cell_below hb d0
    replace d1 := cell_below hb d1
    replace d2 := cell_below hb d2
    replace d3 := cell_below hb d3
    replace d4 := cell_below hb d4
    replace d5 := cell_below hb d5
    replace d6 := cell_below hb d6
    replace d7 := cell_below hb d7
    rw [show joinErr L R lx t j3 = 0 from more_join HLX.out HVX.out HGJ3.out]
    clear hb Hc
    refine hK.out _ _ ⟨d0, d1, d2, d3, d4, d5, d6, d7⟩ (fun _ => ?_)
    clear hK K
    refine takeD (i := 33) (d := 83) (v := ?_) rfl rfl (by kernel_rfl) (by kernel_rfl) (by kernel_rfl) (fun _ _ _ h => h) (Or.inl ⟨by rfl, ?_⟩) ⟨d0, d1, d2, d3, d4, d5, d6, d7⟩ ?_
    rotate_left 1
    · intro W hW; obtain ⟨s0, s1, s2, s3, s4, s5, s6, s7⟩ := hW; go_simp <;> with_reducible rfl
    simp only [List.setIfInBounds_toArray, List.set_cons_succ, List.set_cons_zero]
    refine takeD (i := 34) (d := 84) (v := ?_) rfl rfl (by kernel_rfl) (by kernel_rfl) (by kernel_rfl) (fun _ _ _ h => h) (Or.inl ⟨by rfl, ?_⟩) ⟨d0, d1, d2, d3, d4, d5, d6, d7⟩ ?_
    rotate_left 1
    · intro W hW; obtain ⟨s0, s1, s2, s3, s4, s5, s6, s7⟩ := hW; go_simp <;> with_reducible rfl
    simp only [List.setIfInBounds_toArray, List.set_cons_succ, List.set_cons_zero]
    refine takeD (i := 35) (d := 85) (v := ?_) rfl rfl (by kernel_rfl) (by kernel_rfl) (by kernel_rfl) (fun _ _ _ h => h) (Or.inl ⟨by rfl, ?_⟩) ⟨d0, d1, d2, d3, d4, d5, d6, d7⟩ ?_
    rotate_left 1
    · intro W hW; obtain ⟨s0, s1, s2, s3, s4, s5, s6, s7⟩ := hW; go_simp <;> with_reducible rfl
    simp only [List.setIfInBounds_toArray, List.set_cons_succ, List.set_cons_zero]
    refine wpAnyH_ready (rs := [36]) (by kernel_rfl) (by simp) ?_
    refine AllReadyH.cons rfl (fun K hK => ?_) AllReadyH.nil
    have Hc := Lib.hid (works_any V3)
    try dsimp only at Hc
    go_simp
    refine Hc.out.mono ?_
    rintro e V4 ⟨v, rfl, rfl, hb⟩
    replace HBv := Lib.hid (below_trans' HBv.out hb)
    replace HUv : Hid (U8At V4 U u) := Lib.hid (RowsAt.below HUv.out hb)
    replace d0 := cell_below hb d0
    replace d1 := cell_below hb d1
    replace d2 := cell_below hb d2
    replace d3 := cell_below hb d3
    replace d4 := cell_below hb d4
    replace d5 := cell_below hb d5
    replace d6 := cell_below hb d6
    replace d7 := cell_below hb d7
    clear hb Hc
    refine hK.out _ _ ⟨d0, d1, d2, d3, d4, d5, d6, d7⟩ (fun _ => ?_)
    clear hK K
    refine takeD (i := 37) (d := 87) (v := ?_) rfl rfl (by kernel_rfl) (by kernel_rfl) (by kernel_rfl) (fun _ _ _ h => h) (Or.inl ⟨by rfl, ?_⟩) ⟨d0, d1, d2, d3, d4, d5, d6, d7⟩ ?_
    rotate_left 1
    · intro W hW; obtain ⟨s0, s1, s2, s3, s4, s5, s6, s7⟩ := hW; go_simp <;> with_reducible rfl
    simp only [List.setIfInBounds_toArray, List.set_cons_succ, List.set_cons_zero]
    refine takeD (i := 38) (d := 6) (v := ?_) rfl rfl (by kernel_rfl) (by kernel_rfl) (by kernel_rfl) (fun _ _ _ h => h) (Or.inl ⟨by rfl, ?_⟩) ⟨d0, d1, d2, d3, d4, d5, d6, d7⟩ ?_
    rotate_left 1
    · intro W hW; obtain ⟨s0, s1, s2, s3, s4, s5, s6, s7⟩ := hW; go_simp <;> with_reducible rfl
    simp only [List.setIfInBounds_toArray, List.set_cons_succ, List.set_cons_zero]
    refine wpAnyH_done (by kernel_rfl) ?_ _
    go_wp2
    go_ret
    exact Ret.mk ⟨rfl, HBv.out⟩
end Go.Proofs.Ytoogfdicmpkkgaa
