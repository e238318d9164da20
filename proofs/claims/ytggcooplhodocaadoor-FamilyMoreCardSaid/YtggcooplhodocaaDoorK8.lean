/- CheckPrices, of the reference. -/
import Derived.Test.YtggcooplhodocaaDoorK7
import Derived.Test.YtggcooplhodocaaDoorP0
namespace Go.Proofs.YtggcooplhodocaaDoor
open Go.RowKit Go.Shelf Go.Maps Fam

theorem in_below (A : Option Addr) (ca : Nat) (l : List Int) (n : Int) (w : World) (hl : IntsAt w A l) (hn : l.length ≤ 100000) :
    Calls Tryd.prog 46 #[.slice A l.length ca, .int .i64 n] w (Ret fun v w' => v = .bool (l.contains n) ∧ Below w.heap.size w w') := by
  refine (in_any A ca l n w hl hn).mono ?_
  rintro e w' ⟨v, rfl, rfl, q, rfl⟩
  exact Ret.mk ⟨rfl, below_drewN (Below.refl _ _) _⟩
set_option maxRecDepth 100000 in
set_option maxHeartbeats 8000000 in
theorem rCheckPrices_any (S R : Int) (A B : Option Addr) (ca cb : Nat) (l : List St) (P : List Pc) (w : World) (hl : StepsAt w A l) (hn : l.length ≤ 100000) (hP : PsAt w B P) (hgl : ∀ x ∈ P, x.1.length ≤ 100000) :
    Calls Tryd.prog 22 #[vBook S R A l.length ca, .slice B P.length cb] w (Ret fun v w' => v = .tuple #[.int .i64 (pricesV S R l P).1, .int .i64 (pricesV S R l P).2] ∧ Below w.heap.size w w') := by
  have Hcb := Lib.hid (fun W (h : StepsAt W A l) => rCheckBook_any S R A ca l W h hn)
  have Hl := Lib.hid hl; clear hl
  have HP := Lib.hid hP; clear hP
  have HGl := Lib.hid hgl; clear hgl
  have hrs := rsong_any S R A l.length ca
  unfold vBook at Hcb hrs ⊢
  have Hrs := Lib.hid hrs; clear hrs
  have hX := heap_alloc_new w (.cells #[.int .i64 S, .int .i64 R, .slice A l.length ca] 24)
  have hba := below_alloc' (Below.refl w.heap.size w) (.cells #[.int .i64 S, .int .i64 R, .slice A l.length ca] 24)
  have y0 := (blk_cell (i := 0) hX).trans rfl
  have y1 := (blk_cell (i := 1) hX).trans rfl
  have y2 := (blk_cell (i := 2) hX).trans rfl
  go_enter Tryd.func22, Tryd.ntmps22
  go_wp2_with fail
  have HB0 := Lib.hid hba
  clear hba hX
  generalize w.alloc (.cells #[.int .i64 S, .int .i64 R, .slice A l.length ca] 24) = w0 at *
  refine (Hcb.out w0 (Hl.out.below HB0.out)).mono ?_
  rintro e w1 ⟨v, rfl, rfl, hB1⟩
  have HB1 := Lib.hid (below_trans' HB0.out hB1)
  replace y0 := cell_below hB1 y0
  replace y1 := cell_below hB1 y1
  replace y2 := cell_below hB1 y2
  clear hB1 HB0
  by_cases he : bookErr S R l = 0
  rotate_left 1
  · have d1 : (bookErr S R l != 0) = true := by simpa using he
    have HE := Lib.hid (pricesV_err he P)
    clear he
    go_wp2_with fail
    refine (Hcb.out w1 (Hl.out.below HB1.out)).mono ?_
    rintro e w2 ⟨v, rfl, rfl, hB2⟩
    have HB2 := Lib.hid (below_trans' HB1.out hB2)
    clear hB2
    go_wp2
    go_ret2
    exact Ret.mk' (by rw [HE.out]; rfl) ⟨rfl, HB2.out⟩
  have hok := bookErr_iff.1 he
  have HK := Lib.hid hok
  rw [he]
  clear he Hcb
  by_cases hp : 40 < P.length
  · have HE := Lib.hid (pricesV_many hok hp)
    have d1 : (40 : Int) < (P.length : Int) := by omega
    clear hok
    go_wp2
    go_ret2
    exact Ret.mk' (by rw [HE.out]; rfl) ⟨rfl, HB1.out⟩
  have hp40 : P.length ≤ 40 := by omega
  have d1 : ¬ (40 : Int) < (P.length : Int) := by omega
  have hm200 := hok.many
  have hdim := hok.dim
  clear hp hok
  go_wp2
  go_loopw [6, 7] (fun b i wr => ∃ k : Nat, k ≤ P.length ∧ i = .int .i64 k ∧ b = .int .i64 (sumP (P.take k)) ∧ Hid (∀ x ∈ P.take k, grpOk S R x) ∧ Hid (Below w1.heap.size w1 wr)) (fun _ i _ => P.length - (intOf i).toNat)
  case atStart => exact ⟨0, by omega, rfl, by simp [sumP, sm], Lib.hid (fun x h => by simp at h), Lib.hid (Below.refl _ _)⟩
  case round =>
    obtain ⟨k, hk, rfl, rfl, HOk, HB⟩ := hrel
    have z0 := cell_below HB.out y0
    have z1 := cell_below HB.out y1
    have z2 := cell_below HB.out y2
    have HBw := Lib.hid (below_trans' HB1.out HB.out)
    obtain ⟨wa, hwa⟩ : ∃ x, x = wr := ⟨_, rfl⟩
    subst hwa
    by_cases hkP : k < P.length
    · obtain ⟨b, off, G, c, rfl, g0, g1, hGi⟩ := (HP.out.below HBw.out).at_ hkP
      have HSn := Lib.hid (sumP_next hkP)
      have HMx := Lib.hid (List.getElem_mem hkP)
      have HTk := Lib.hid (take_snoc' hkP)
      have hgl := HGl.out _ HMx.out
      have hsb := sumP_bound (P := P) (k := k) (fun x hx => (HOk.out x hx).2.2.1)
      have hlk : (P.take k).length ≤ 40 := by rw [List.length_take]; omega
      generalize P[k] = x at g0 g1 hGi HSn HMx HTk hgl
      obtain ⟨g, p⟩ := x
      dsimp only at g0 g1 hGi HSn hgl
      obtain ⟨bd, hbd⟩ : ∃ bd, sumP (P.take k) = bd := ⟨_, rfl⟩
      rw [hbd] at HSn hsb ⊢
      clear hbd
      have hbd0 := hsb.1
      have hbd1 : bd ≤ 43980465111040 := by omega
      clear hsb
      have HGi := Lib.hid hGi
      have k0 : (0 : Int) ≤ (k : Int) := by omega
      have k1 : (k : Int) < (P.length : Int) := by omega
      have Hbad : Hid (¬ grpOk S R (g, p) → pricesV S R l P = (0, 3)) := Lib.hid (fun h => pricesV_grp HK.out hp40 HMx.out h)
      clear hGi
      by_cases hg0 : g = []
      · have HE := Lib.hid (Hbad.out (grp_empty hg0))
        have d2 : ((g.length : Int) == 0) = true := by rw [hg0]; rfl
        go_wp2
        go_ret2
        exact Ret.mk' (by rw [HE.out]; rfl) ⟨rfl, HBw.out⟩
      · have d2 : ((g.length : Int) == 0) = false := by
          have := List.length_pos_iff.2 hg0
          rw [beq_eq_false_iff_ne]; omega
        have HG0 := Lib.hid hg0
        have HIn := Lib.hid (in_below G c g R wa HGi.out hgl)
        clear hg0
        go_wp2_with fail
        refine HIn.out.mono ?_
        rintro e w2 ⟨v, rfl, rfl, hB2⟩
        have HB2 := Lib.hid (below_trans' HB.out hB2)
        replace HGi := Lib.hid (IntsAt.below HGi.out hB2)
        replace z0 := cell_below hB2 z0
        replace z1 := cell_below hB2 z1
        replace z2 := cell_below hB2 z2
        replace g0 := cell_below hB2 g0
        replace g1 := cell_below hB2 g1
        clear hB2 HIn HBw HB
        have HBw := Lib.hid (below_trans' HB1.out HB2.out)
        cases hc : g.contains R
        rotate_left 1
        · have HE := Lib.hid (Hbad.out (grp_root hc))
          clear hc
          go_wp2
          go_ret2
          exact Ret.mk' (by rw [HE.out]; rfl) ⟨rfl, HBw.out⟩
        have HCt := Lib.hid hc
        clear hc
        by_cases hp0 : p < 0
        · have HE := Lib.hid (Hbad.out (price_bad (.inl hp0)))
          go_wp2
          go_ret2
          exact Ret.mk' (by rw [HE.out]; rfl) ⟨rfl, HBw.out⟩
        by_cases hp1 : 1099511627776 < p
        · have HE := Lib.hid (Hbad.out (price_bad (.inr hp1)))
          have d3 : decide (p > 1099511627776) = true := by simpa using hp1
          go_wp2
          go_ret2
          exact Ret.mk' (by rw [HE.out]; rfl) ⟨rfl, HBw.out⟩
        have d3 : decide (p > 1099511627776) = false := by simpa using hp1
        have HBs := Lib.hid (Below.refl w2.heap.size w2)
        go_wp2
        go_loopw [9] (fun i wr => ∃ j : Nat, j ≤ g.length ∧ i = .int .i64 j ∧ Hid (GrpR S g j) ∧ Hid (Below w2.heap.size w2 wr)) (fun i _ => g.length - (intOf i).toNat)
        case atStart => exact ⟨0, by omega, rfl, Lib.hid (GrpR.start S g), HBs⟩
        case round =>
          clear HBs
          obtain ⟨j, hj, rfl, HGr, HBr⟩ := hrel
          replace z0 := cell_below HBr.out z0
          replace z1 := cell_below HBr.out z1
          replace z2 := cell_below HBr.out z2
          by_cases hjg : j < g.length
          · obtain ⟨b2, o2, rfl, q1⟩ := IntsAt.at_ (IntsAt.below HGi.out HBr.out) hjg
            have j0 : (0 : Int) ≤ (j : Int) := by omega
            have j1 : (j : Int) < (g.length : Int) := by omega
            have HNx := Lib.hid (fun h1 h2 => HGr.out.next hjg h1 h2)
            have HSt := Lib.hid (fun h => Hbad.out (GrpR.stop hjg h))
            have HSo := Lib.hid (fun V => Hrs.out g[j] V)
            have hq2 : ∀ hp : 0 < j, wr.cell? ⟨b2, o2 + (j - 1), none⟩ = some (.int .i64 g[j - 1]) := fun hp => by
              obtain ⟨b3, o3, e, h⟩ := IntsAt.at_ (IntsAt.below HGi.out HBr.out) (i := j - 1) (by omega)
              injection e with e
              injection e with e1 e2
              subst e1 e2
              exact h
            generalize g[j] = x at q1 HNx HSt HSo
            obtain ⟨wb, hwb⟩ : ∃ x, x = wr := ⟨_, rfl⟩
            subst hwb
            cases hs : songC S x
            · have HE := Lib.hid (HSt.out (.inl hs))
              rw [hs] at HSo
              clear hs HNx HSt hq2
              go_upto_region 15 with fail
              refine wp_region_class (C := fun W => Below wb.heap.size wb W) (by kernel_rfl) (by kernel_rfl) ((Below.refl _ _).drew) ?_
              repeat (first
                | go_big_quiet_skip
                | (go_big_quiet_want
                   first
                     | (go_big_quiet_op; go_big_quiet_on)
                     | (apply Exists.intro
                        refine ⟨fun W hW => ?_, ?_⟩
                        · replace z0 := cell_below hW z0; replace z1 := cell_below hW z1; replace z2 := cell_below hW z2; replace q1 := cell_below hW q1; go_simp <;> exact rfl
                        simp only [Act.put, List.setIfInBounds_toArray, List.set_cons_zero, List.set_cons_succ]
                        go_big_quiet_on)))
              go_big_quiet_want
              apply Exists.intro
              refine ⟨fun W hW => ?_, ?_⟩
              · go_simp
                refine (HSo.out _).mono ?_
                rintro e wc ⟨v, rfl, rfl, hBc⟩
                exact ⟨rfl, below_trans' hW hBc⟩
              simp only [Act.put, List.setIfInBounds_toArray, List.set_cons_zero, List.set_cons_succ]
              go_big_quiet_on
              repeat (first
                | go_big_quiet_skip
                | (go_big_quiet_want
                   first
                     | (go_big_quiet_op; go_big_quiet_on)
                     | (apply Exists.intro
                        refine ⟨fun W hW => ?_, ?_⟩
                        · replace z0 := cell_below hW z0; replace z1 := cell_below hW z1; replace z2 := cell_below hW z2; replace q1 := cell_below hW q1; go_simp <;> exact rfl
                        simp only [Act.put, List.setIfInBounds_toArray, List.set_cons_zero, List.set_cons_succ]
                        go_big_quiet_on)))
              refine wpQuiet_nil ?_
              intro w5 hB5
              have HB5 := Lib.hid (below_trans' HBw.out (below_trans' HBr.out hB5))
              clear hB5
              go_wp2
              go_ret2
              exact Ret.mk' (by rw [HE.out]; rfl) ⟨rfl, HB5.out⟩
            · rw [hs] at HSo
              by_cases hj0 : j = 0
              · subst hj0
                have HN := Lib.hid (HNx.out hs (fun h => absurd h (by omega)))
                rw [Nat.add_zero] at q1
                clear hs HNx HSt hq2
                go_upto_region 15 with fail
                refine wp_region_class (C := fun W => Below wb.heap.size wb W) (by kernel_rfl) (by kernel_rfl) ((Below.refl _ _).drew) ?_
                repeat (first
                  | go_big_quiet_skip
                  | (go_big_quiet_want
                     first
                       | (go_big_quiet_op; go_big_quiet_on)
                       | (apply Exists.intro
                          refine ⟨fun W hW => ?_, ?_⟩
                          · replace z0 := cell_below hW z0; replace z1 := cell_below hW z1; replace z2 := cell_below hW z2; replace q1 := cell_below hW q1; go_simp <;> exact rfl
                          simp only [Act.put, List.setIfInBounds_toArray, List.set_cons_zero, List.set_cons_succ]
                          go_big_quiet_on)))
                go_big_quiet_want
                apply Exists.intro
                refine ⟨fun W hW => ?_, ?_⟩
                · go_simp
                  refine (HSo.out _).mono ?_
                  rintro e wc ⟨v, rfl, rfl, hBc⟩
                  exact ⟨rfl, below_trans' hW hBc⟩
                simp only [Act.put, List.setIfInBounds_toArray, List.set_cons_zero, List.set_cons_succ]
                go_big_quiet_on
                repeat (first
                  | go_big_quiet_skip
                  | (go_big_quiet_want
                     first
                       | (go_big_quiet_op; go_big_quiet_on)
                       | (apply Exists.intro
                          refine ⟨fun W hW => ?_, ?_⟩
                          · replace z0 := cell_below hW z0; replace z1 := cell_below hW z1; replace z2 := cell_below hW z2; replace q1 := cell_below hW q1; go_simp <;> exact rfl
                          simp only [Act.put, List.setIfInBounds_toArray, List.set_cons_zero, List.set_cons_succ]
                          go_big_quiet_on)))
                refine wpQuiet_nil ?_
                intro w5 hB5
                have HB5 := Lib.hid (below_trans' HBr.out hB5)
                clear hB5
                go_wp2
                go_roundw
                case rel => exact ⟨0 + 1, by omega, by go_num, HN, HB5⟩
                case measure => simp [intOf]; omega
              · have hq3 := hq2 (by omega)
                have HLe := Lib.hid (fun (h : x ≤ g[j - 1]) => HSt.out (.inr ⟨by omega, h⟩))
                have HLt := Lib.hid (fun (h : g[j - 1] < x) => HNx.out hs (fun _ => h))
                generalize g[j - 1] = y at hq3 HLe HLt
                obtain ⟨i, hi⟩ : ∃ i, j - 1 = i := ⟨_, rfl⟩
                rw [hi] at hq3
                have i0 : (0 : Int) ≤ (i : Int) := by omega
                have i1 : (i : Int) < (g.length : Int) := by omega
                have ej : (j : Int) - 1 = (i : Int) := by omega
                have dj : decide ((j : Int) > 0) = true := by simp; omega
                have jn : 0 < j := by omega
                have ei : IntKind.i64.wrap (i : Int) = (i : Int) := IntWalk.i64_in _ (by omega)
                have ei2 : IntKind.i64.wrap ((j : Int) - 1) = (i : Int) := by rw [ej]; exact ei
                clear hs HNx HSt hq2 hi
                by_cases hxy : x ≤ y
                · have HE := Lib.hid (HLe.out hxy)
                  clear HLe HLt
                  go_upto_region 15 with fail
                  refine wp_region_class (C := fun W => Below wb.heap.size wb W) (by kernel_rfl) (by kernel_rfl) ((Below.refl _ _).drew) ?_
                  repeat (first
                    | go_big_quiet_skip
                    | (go_big_quiet_want
                       first
                         | (go_big_quiet_op; go_big_quiet_on)
                         | (apply Exists.intro
                            refine ⟨fun W hW => ?_, ?_⟩
                            · replace z0 := cell_below hW z0; replace z1 := cell_below hW z1; replace z2 := cell_below hW z2; replace q1 := cell_below hW q1; replace hq3 := cell_below hW hq3; go_simp <;> exact rfl
                            simp only [Act.put, List.setIfInBounds_toArray, List.set_cons_zero, List.set_cons_succ]
                            go_big_quiet_on)))
                  go_big_quiet_want
                  apply Exists.intro
                  refine ⟨fun W hW => ?_, ?_⟩
                  · go_simp
                    refine (HSo.out _).mono ?_
                    rintro e wc ⟨v, rfl, rfl, hBc⟩
                    exact ⟨rfl, below_trans' hW hBc⟩
                  simp only [Act.put, List.setIfInBounds_toArray, List.set_cons_zero, List.set_cons_succ]
                  go_big_quiet_on
                  repeat (first
                    | go_big_quiet_skip
                    | (go_big_quiet_want
                       first
                         | (go_big_quiet_op; go_big_quiet_on)
                         | (apply Exists.intro
                            refine ⟨fun W hW => ?_, ?_⟩
                            · replace z0 := cell_below hW z0; replace z1 := cell_below hW z1; replace z2 := cell_below hW z2; replace q1 := cell_below hW q1; replace hq3 := cell_below hW hq3; go_simp <;> exact rfl
                            simp only [Act.put, List.setIfInBounds_toArray, List.set_cons_zero, List.set_cons_succ]
                            go_big_quiet_on)))
                  refine wpQuiet_nil ?_
                  intro w5 hB5
                  have HB5 := Lib.hid (below_trans' HBw.out (below_trans' HBr.out hB5))
                  clear hB5
                  go_wp2
                  go_ret2
                  exact Ret.mk' (by rw [HE.out]; rfl) ⟨rfl, HB5.out⟩
                · have HN := Lib.hid (HLt.out (by omega))
                  clear HLe HLt
                  go_upto_region 15 with fail
                  refine wp_region_class (C := fun W => Below wb.heap.size wb W) (by kernel_rfl) (by kernel_rfl) ((Below.refl _ _).drew) ?_
                  repeat (first
                    | go_big_quiet_skip
                    | (go_big_quiet_want
                       first
                         | (go_big_quiet_op; go_big_quiet_on)
                         | (apply Exists.intro
                            refine ⟨fun W hW => ?_, ?_⟩
                            · replace z0 := cell_below hW z0; replace z1 := cell_below hW z1; replace z2 := cell_below hW z2; replace q1 := cell_below hW q1; replace hq3 := cell_below hW hq3; go_simp <;> exact rfl
                            simp only [Act.put, List.setIfInBounds_toArray, List.set_cons_zero, List.set_cons_succ]
                            go_big_quiet_on)))
                  go_big_quiet_want
                  apply Exists.intro
                  refine ⟨fun W hW => ?_, ?_⟩
                  · go_simp
                    refine (HSo.out _).mono ?_
                    rintro e wc ⟨v, rfl, rfl, hBc⟩
                    exact ⟨rfl, below_trans' hW hBc⟩
                  simp only [Act.put, List.setIfInBounds_toArray, List.set_cons_zero, List.set_cons_succ]
                  go_big_quiet_on
                  repeat (first
                    | go_big_quiet_skip
                    | (go_big_quiet_want
                       first
                         | (go_big_quiet_op; go_big_quiet_on)
                         | (apply Exists.intro
                            refine ⟨fun W hW => ?_, ?_⟩
                            · replace z0 := cell_below hW z0; replace z1 := cell_below hW z1; replace z2 := cell_below hW z2; replace q1 := cell_below hW q1; replace hq3 := cell_below hW hq3; go_simp <;> exact rfl
                            simp only [Act.put, List.setIfInBounds_toArray, List.set_cons_zero, List.set_cons_succ]
                            go_big_quiet_on)))
                  refine wpQuiet_nil ?_
                  intro w5 hB5
                  have HB5 := Lib.hid (below_trans' HBr.out hB5)
                  clear hB5
                  go_wp2
                  go_roundw
                  case rel => exact ⟨j + 1, by omega, by go_num, HN, HB5⟩
                  case measure => simp [intOf]; omega
          · obtain rfl : j = g.length := by omega
            have HOn : Hid (∀ x ∈ P.take (k + 1), grpOk S R x) := Lib.hid fun y hy => by
              rw [HTk.out, List.mem_append, List.mem_singleton] at hy
              rcases hy with hy | hy
              · exact HOk.out y hy
              · subst hy; exact HGr.out.good HG0.out HCt.out (by omega) (by omega)
            have HBn := Lib.hid (below_trans' HB2.out HBr.out)
            replace g1 := cell_below HBr.out g1
            clear HGr HBr
            go_wp2
            go_roundw
            case rel => exact ⟨k + 1, by omega, by go_num, by rw [HSn.out], HOn, HBn⟩
            case measure => simp [intOf]; omega
    · obtain rfl : k = P.length := by omega
      rw [List.take_length] at HOk
      rw [List.take_length]
      have hpr : ∀ x ∈ P, 0 ≤ x.2 ∧ x.2 ≤ 1099511627776 := fun x hx => (HOk.out x hx).2.2.1
      have HPr := Lib.hid hpr
      clear hpr
      have HBs := Lib.hid (Below.refl wa.heap.size wa)
      go_wp2
      go_loopw [10] (fun i wr => ∃ k : Nat, k ≤ l.length ∧ i = .int .i64 k ∧ Hid (∀ i, i < k → tollK (netB S R l) P P.length i ≤ (netB S R l).ch i) ∧ Hid (Below wa.heap.size wa wr)) (fun i _ => l.length - (intOf i).toNat)
      case atStart => exact ⟨0, by omega, rfl, Lib.hid (fun i h => by omega), HBs⟩
      case round =>
        clear HBs
        obtain ⟨k, hk, rfl, HFi, HBr⟩ := hrel
        replace z0 := cell_below HBr.out z0
        replace z1 := cell_below HBr.out z1
        replace z2 := cell_below HBr.out z2
        obtain ⟨wc, hwc⟩ : ∃ x, x = wr := ⟨_, rfl⟩
        subst hwc
        have HBwc := Lib.hid (below_trans' HBw.out HBr.out)
        by_cases hkn : k < l.length
        · obtain ⟨b3, o3, rfl, p1, p2, p3⟩ := StepsAt.at_ (Hl.out.below HBwc.out) hkn
          have HEn := Lib.hid (fun g => ent_in HK.out hkn g)
          have HOv := Lib.hid (pricesV_over HK.out hp40 HOk.out hkn)
          have HFn : Hid (tollK (netB S R l) P P.length k ≤ (netB S R l).ch k → ∀ i, i < k + 1 → tollK (netB S R l) P P.length i ≤ (netB S R l).ch i) := Lib.hid fun h i hi => by
            by_cases e : i = k
            · subst e; exact h
            · exact HFi.out i (by omega)
          have HCh : Hid ((netB S R l).ch k = l[k].2.2) := Lib.hid (by show (stAt l k).2.2 = _; rw [stAt_eq hkn])
          generalize l[k] = x at p1 p2 p3 HEn HCh
          obtain ⟨x1, x2, x3⟩ := x
          dsimp only at p1 p2 p3 HEn
          have k0 : (0 : Int) ≤ (k : Int) := by omega
          have k1 : (k : Int) < (l.length : Int) := by omega
          have HBs := Lib.hid (Below.refl wc.heap.size wc)
          go_wp2
          go_loopw [11, 12] (fun s i wr => ∃ j : Nat, j ≤ P.length ∧ i = .int .i64 j ∧ s = .int .i64 (tollK (netB S R l) P j k) ∧ Hid (Below wc.heap.size wc wr)) (fun _ i _ => P.length - (intOf i).toNat)
          case atStart => exact ⟨0, by omega, rfl, by rw [tollK_zero], HBs⟩
          case round =>
            clear HBs
            obtain ⟨j, hj, rfl, rfl, HBj⟩ := hrel
            replace z0 := cell_below HBj.out z0
            replace z1 := cell_below HBj.out z1
            replace z2 := cell_below HBj.out z2
            replace p1 := cell_below HBj.out p1
            replace p2 := cell_below HBj.out p2
            replace p3 := cell_below HBj.out p3
            have htb := tollK_bound (N := netB S R l) (k := j) (i := k) HPr.out hp40
            by_cases hjP : j < P.length
            · have HBjw := Lib.hid (below_trans' HBwc.out HBj.out)
              obtain ⟨b4, o4, G, c, rfl, g0, g1, hGi⟩ := (HP.out.below HBjw.out).at_ hjP
              have HTn := Lib.hid (tollK_next (N := netB S R l) hjP k)
              have hgl := HGl.out _ (List.getElem_mem hjP)
              have hpb := HPr.out _ (List.getElem_mem hjP)
              generalize P[j] = y at g0 g1 hGi HTn hgl hpb
              obtain ⟨g, p⟩ := y
              dsimp only at g0 g1 hGi HTn hgl hpb
              have HGi := Lib.hid hGi
              clear hGi
              have j0 : (0 : Int) ≤ (j : Int) := by omega
              have j1 : (j : Int) < (P.length : Int) := by omega
              have HA := Lib.hid (fun V (h : Below wr.heap.size wr V) => in_below G c g x2 V (IntsAt.below HGi.out h) hgl)
              have HB' := Lib.hid (fun V (h : Below wr.heap.size wr V) => in_below G c g x1 V (IntsAt.below HGi.out h) hgl)
              have HTo : Hid (toll (netB S R l) k (grp g, p) = if (g.contains x2 && !g.contains x1) = true then p else 0) := Lib.hid (by unfold toll; rw [HEn.out])
              obtain ⟨tk, htk⟩ : ∃ tk, tollK (netB S R l) P j k = tk := ⟨_, rfl⟩
              rw [htk] at HTn htb ⊢
              rw [HTo.out] at HTn
              clear htk
              obtain ⟨wd, hwd⟩ : ∃ x, x = wr := ⟨_, rfl⟩
              subst hwd
              cases h2 : g.contains x2
              · rw [h2] at HA HTn
                clear h2
                go_upto_region 25 with fail
                refine wp_region_class (C := fun W => Below wd.heap.size wd W) (by kernel_rfl) (by kernel_rfl) ((Below.refl _ _).drew) ?_
                repeat (first
                  | go_big_quiet_skip
                  | (go_big_quiet_want
                     first
                       | (go_big_quiet_op; go_big_quiet_on)
                       | (apply Exists.intro
                          refine ⟨fun W hW => ?_, ?_⟩
                          · replace z0 := cell_below hW z0; replace z1 := cell_below hW z1; replace z2 := cell_below hW z2; replace p1 := cell_below hW p1; replace p2 := cell_below hW p2; replace p3 := cell_below hW p3; replace g0 := cell_below hW g0; replace g1 := cell_below hW g1; go_simp <;> exact rfl
                          simp only [Act.put, List.setIfInBounds_toArray, List.set_cons_zero, List.set_cons_succ]
                          go_big_quiet_on)))
                go_big_quiet_want
                apply Exists.intro
                refine ⟨fun W hW => ?_, ?_⟩
                · go_simp
                  refine (HA.out _ hW).mono ?_
                  rintro e wc ⟨v, rfl, rfl, hBc⟩
                  exact ⟨rfl, below_trans' hW hBc⟩
                simp only [Act.put, List.setIfInBounds_toArray, List.set_cons_zero, List.set_cons_succ]
                go_big_quiet_on
                repeat (first
                  | go_big_quiet_skip
                  | (go_big_quiet_want
                     first
                       | (go_big_quiet_op; go_big_quiet_on)
                       | (apply Exists.intro
                          refine ⟨fun W hW => ?_, ?_⟩
                          · replace z0 := cell_below hW z0; replace z1 := cell_below hW z1; replace z2 := cell_below hW z2; replace p1 := cell_below hW p1; replace p2 := cell_below hW p2; replace p3 := cell_below hW p3; replace g0 := cell_below hW g0; replace g1 := cell_below hW g1; go_simp <;> exact rfl
                          simp only [Act.put, List.setIfInBounds_toArray, List.set_cons_zero, List.set_cons_succ]
                          go_big_quiet_on)))
                refine wpQuiet_nil ?_
                intro w5 hB5
                have HB5 := Lib.hid (below_trans' HBj.out hB5)
                have HT5 : Hid (tollK (netB S R l) P (j + 1) k = tk) := Lib.hid (by rw [HTn.out]; simp)
                clear hB5 HTn
                go_wp2
                go_roundw
                case rel => exact ⟨j + 1, by omega, by go_num, by rw [HT5.out], HB5⟩
                case measure => simp [intOf]; omega
              · rw [h2] at HA HTn
                clear h2
                cases h1 : g.contains x1
                · rw [h1] at HB' HTn
                  clear h1
                  go_upto_region 25 with fail
                  refine wp_region_class (C := fun W => Below wd.heap.size wd W) (by kernel_rfl) (by kernel_rfl) ((Below.refl _ _).drew) ?_
                  repeat (first
                    | go_big_quiet_skip
                    | (go_big_quiet_want
                       first
                         | (go_big_quiet_op; go_big_quiet_on)
                         | (apply Exists.intro
                            refine ⟨fun W hW => ?_, ?_⟩
                            · replace z0 := cell_below hW z0; replace z1 := cell_below hW z1; replace z2 := cell_below hW z2; replace p1 := cell_below hW p1; replace p2 := cell_below hW p2; replace p3 := cell_below hW p3; replace g0 := cell_below hW g0; replace g1 := cell_below hW g1; go_simp <;> exact rfl
                            simp only [Act.put, List.setIfInBounds_toArray, List.set_cons_zero, List.set_cons_succ]
                            go_big_quiet_on)))
                  go_big_quiet_want
                  apply Exists.intro
                  refine ⟨fun W hW => ?_, ?_⟩
                  · go_simp
                    refine (HA.out _ hW).mono ?_
                    rintro e wc ⟨v, rfl, rfl, hBc⟩
                    exact ⟨rfl, below_trans' hW hBc⟩
                  simp only [Act.put, List.setIfInBounds_toArray, List.set_cons_zero, List.set_cons_succ]
                  go_big_quiet_on
                  repeat (first
                    | go_big_quiet_skip
                    | (go_big_quiet_want
                       first
                         | (go_big_quiet_op; go_big_quiet_on)
                         | (apply Exists.intro
                            refine ⟨fun W hW => ?_, ?_⟩
                            · replace z0 := cell_below hW z0; replace z1 := cell_below hW z1; replace z2 := cell_below hW z2; replace p1 := cell_below hW p1; replace p2 := cell_below hW p2; replace p3 := cell_below hW p3; replace g0 := cell_below hW g0; replace g1 := cell_below hW g1; go_simp <;> exact rfl
                            simp only [Act.put, List.setIfInBounds_toArray, List.set_cons_zero, List.set_cons_succ]
                            go_big_quiet_on)))
                  go_big_quiet_want
                  apply Exists.intro
                  refine ⟨fun W hW => ?_, ?_⟩
                  · go_simp
                    refine (HB'.out _ hW).mono ?_
                    rintro e wc ⟨v, rfl, rfl, hBc⟩
                    exact ⟨rfl, below_trans' hW hBc⟩
                  simp only [Act.put, List.setIfInBounds_toArray, List.set_cons_zero, List.set_cons_succ]
                  go_big_quiet_on
                  repeat (first
                    | go_big_quiet_skip
                    | (go_big_quiet_want
                       first
                         | (go_big_quiet_op; go_big_quiet_on)
                         | (apply Exists.intro
                            refine ⟨fun W hW => ?_, ?_⟩
                            · replace z0 := cell_below hW z0; replace z1 := cell_below hW z1; replace z2 := cell_below hW z2; replace p1 := cell_below hW p1; replace p2 := cell_below hW p2; replace p3 := cell_below hW p3; replace g0 := cell_below hW g0; replace g1 := cell_below hW g1; go_simp <;> exact rfl
                            simp only [Act.put, List.setIfInBounds_toArray, List.set_cons_zero, List.set_cons_succ]
                            go_big_quiet_on)))
                  refine wpQuiet_nil ?_
                  intro w5 hB5
                  have HB5 := Lib.hid (below_trans' HBj.out hB5)
                  have HT5 : Hid (tollK (netB S R l) P (j + 1) k = tk + p) := Lib.hid (by rw [HTn.out]; simp)
                  replace g1 := cell_below hB5 g1
                  clear hB5 HTn
                  go_wp2
                  go_roundw
                  case rel => exact ⟨j + 1, by omega, by go_num, by rw [HT5.out], HB5⟩
                  case measure => simp [intOf]; omega
                · rw [h1] at HB' HTn
                  clear h1
                  go_upto_region 25 with fail
                  refine wp_region_class (C := fun W => Below wd.heap.size wd W) (by kernel_rfl) (by kernel_rfl) ((Below.refl _ _).drew) ?_
                  repeat (first
                    | go_big_quiet_skip
                    | (go_big_quiet_want
                       first
                         | (go_big_quiet_op; go_big_quiet_on)
                         | (apply Exists.intro
                            refine ⟨fun W hW => ?_, ?_⟩
                            · replace z0 := cell_below hW z0; replace z1 := cell_below hW z1; replace z2 := cell_below hW z2; replace p1 := cell_below hW p1; replace p2 := cell_below hW p2; replace p3 := cell_below hW p3; replace g0 := cell_below hW g0; replace g1 := cell_below hW g1; go_simp <;> exact rfl
                            simp only [Act.put, List.setIfInBounds_toArray, List.set_cons_zero, List.set_cons_succ]
                            go_big_quiet_on)))
                  go_big_quiet_want
                  apply Exists.intro
                  refine ⟨fun W hW => ?_, ?_⟩
                  · go_simp
                    refine (HA.out _ hW).mono ?_
                    rintro e wc ⟨v, rfl, rfl, hBc⟩
                    exact ⟨rfl, below_trans' hW hBc⟩
                  simp only [Act.put, List.setIfInBounds_toArray, List.set_cons_zero, List.set_cons_succ]
                  go_big_quiet_on
                  repeat (first
                    | go_big_quiet_skip
                    | (go_big_quiet_want
                       first
                         | (go_big_quiet_op; go_big_quiet_on)
                         | (apply Exists.intro
                            refine ⟨fun W hW => ?_, ?_⟩
                            · replace z0 := cell_below hW z0; replace z1 := cell_below hW z1; replace z2 := cell_below hW z2; replace p1 := cell_below hW p1; replace p2 := cell_below hW p2; replace p3 := cell_below hW p3; replace g0 := cell_below hW g0; replace g1 := cell_below hW g1; go_simp <;> exact rfl
                            simp only [Act.put, List.setIfInBounds_toArray, List.set_cons_zero, List.set_cons_succ]
                            go_big_quiet_on)))
                  go_big_quiet_want
                  apply Exists.intro
                  refine ⟨fun W hW => ?_, ?_⟩
                  · go_simp
                    refine (HB'.out _ hW).mono ?_
                    rintro e wc ⟨v, rfl, rfl, hBc⟩
                    exact ⟨rfl, below_trans' hW hBc⟩
                  simp only [Act.put, List.setIfInBounds_toArray, List.set_cons_zero, List.set_cons_succ]
                  go_big_quiet_on
                  repeat (first
                    | go_big_quiet_skip
                    | (go_big_quiet_want
                       first
                         | (go_big_quiet_op; go_big_quiet_on)
                         | (apply Exists.intro
                            refine ⟨fun W hW => ?_, ?_⟩
                            · replace z0 := cell_below hW z0; replace z1 := cell_below hW z1; replace z2 := cell_below hW z2; replace p1 := cell_below hW p1; replace p2 := cell_below hW p2; replace p3 := cell_below hW p3; replace g0 := cell_below hW g0; replace g1 := cell_below hW g1; go_simp <;> exact rfl
                            simp only [Act.put, List.setIfInBounds_toArray, List.set_cons_zero, List.set_cons_succ]
                            go_big_quiet_on)))
                  refine wpQuiet_nil ?_
                  intro w5 hB5
                  have HB5 := Lib.hid (below_trans' HBj.out hB5)
                  have HT5 : Hid (tollK (netB S R l) P (j + 1) k = tk) := Lib.hid (by rw [HTn.out]; simp)
                  clear hB5 HTn
                  go_wp2
                  go_roundw
                  case rel => exact ⟨j + 1, by omega, by go_num, by rw [HT5.out], HB5⟩
                  case measure => simp [intOf]; omega
            · obtain rfl : j = P.length := by omega
              obtain ⟨tk, htk⟩ : ∃ tk, tollK (netB S R l) P P.length k = tk := ⟨_, rfl⟩
              rw [htk] at HOv HFn htb ⊢
              rw [HCh.out] at HOv HFn
              have HBk := Lib.hid (below_trans' HBr.out HBj.out)
              have HBkw := Lib.hid (below_trans' HBw.out HBk.out)
              clear htk HCh
              by_cases hov : x3 < tk
              · have HE := Lib.hid (HOv.out hov)
                have dv : decide (tk > x3) = true := by simpa using hov
                clear HFn HOv
                go_wp2
                go_ret2
                exact Ret.mk' (by rw [HE.out]; rfl) ⟨rfl, HBkw.out⟩
              · have dv : decide (tk > x3) = false := by simpa using hov
                have HN := Lib.hid (HFn.out (by omega))
                clear HFn HOv
                go_wp2
                go_roundw
                case rel => exact ⟨k + 1, by omega, by go_num, HN, HBk⟩
                case measure => simp [intOf]; omega
        · obtain rfl : k = l.length := by omega
          have HE := Lib.hid (pricesV_sums HK.out hp40 HOk.out HFi.out)
          clear HFi
          go_wp2
          go_ret2
          exact Ret.mk' (by rw [HE.out]; rfl) ⟨rfl, HBwc.out⟩
end Go.Proofs.YtggcooplhodocaaDoor
