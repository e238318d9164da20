/- By: the walk. -/
import Derived.Test.YtoogfdicmpkkgaaA46
namespace Go.Proofs.Ytoogfdicmpkkgaa
open Go.RowKit Go.Shelf Go.Maps Match

set_option maxRecDepth 100000 in
set_option maxHeartbeats 2000000 in
theorem byS (s : Sh) (U : Option Addr) (cu : Nat) (u : List Int) (w : World) (hs : ShAt w s) (hv : Sheet s.L s.R s.l s.t) (hu : U8At w U u) (hun : u.length ≤ 1000) (hu2 : ∀ x ∈ u, 0 ≤ x ∧ x ≤ 255) :
    Calls Try.prog 33 #[s.v, .slice U u.length cu] w (Ret fun v w' => (∃ G c j, v = .slice G j.length c ∧ IntsAt w' G j ∧ j.length ≤ c ∧ IsJ s j ∧ j.length ≤ 40) ∧ Below w.heap.size w w') := by
  obtain ⟨L, R, A, ca, B, cb, l, t⟩ := s
  have hn := hv.many
  have hm : t.length ≤ 900 := hs.few
  have HS := Lib.hid hs; clear hs
  have HV := Lib.hid hv; clear hv
  have HU := Lib.hid hu; clear hu
  have HU2 := Lib.hid hu2; clear hu2
  unfold Sh.v vSheet
  dsimp only at hn ⊢
  obtain ⟨w0, hw0⟩ : ∃ w0, w0 = w.alloc (.cells #[.int .i64 L, .int .i64 R, .slice A l.length ca, .slice B t.length cb] 25) := ⟨_, rfl⟩
  have HB0 : Hid (Below w.heap.size w w0) := Lib.hid (by rw [hw0]; exact below_alloc' (Below.refl _ _) _)
  have hX : w0.heap[w.heap.size]? = some (.cells #[.int .i64 L, .int .i64 R, .slice A l.length ca, .slice B t.length cb] 25 (0, 0)) := by rw [hw0]; exact heap_alloc_new _ _
  have y2 : w0.cell? ⟨w.heap.size, 2, none⟩ = some (.slice A l.length ca) := (blk_cell hX).trans rfl
  have hs0 : w0.heap.size = w.heap.size + 1 := by rw [hw0]; exact World.size_alloc _ _
  have hmk := fun w => run_make_row' (P := Try.prog) 23 3 (.int .i64 0) 8 Try.underlying23 infoI3 rfl .i64 .i64 l.length (by omega) (by omega) w
  obtain ⟨zs, hzs⟩ : ∃ zs : Array Value, zs = madeCells #[.int .i64 0] l.length := ⟨_, rfl⟩
  rw [← hzs] at hmk
  have HA0 : Hid (Arr (w0.alloc (.cells zs 3)) w0.heap.size 0 l.length (knownF t 0)) := Lib.hid fun i hi => by
    refine ⟨(blk_cell (heap_alloc_new w0 (.cells zs 3))).trans ?_, new_frozen _ _ _ _⟩
    rw [hzs, Nat.zero_add, ← Array.getElem?_toList, toList_madeCells_one, List.getElem?_replicate, if_pos hi]
    rfl
  have HB1 : Hid (Below w.heap.size w (w0.alloc (.cells zs 3))) := Lib.hid (below_alloc' HB0.out _)
  have hX1 := blk_alloc hX (.cells zs 3)
  have hs1 : w.heap.size + 1 < (w0.alloc (.cells zs 3)).heap.size := by rw [World.size_alloc]; omega
  clear hzs
  rw [hw0] at y2
  go_enter Try.func33, Try.ntmps33
  go_upto_region 2 with fail
  rw [← hw0]
  clear hmk y2
  generalize w0.alloc (.cells zs 3) = w1 at *
  obtain ⟨bI, hbI⟩ : ∃ bI, bI = w0.heap.size := ⟨_, rfl⟩
  have hbI1 : bI = w.heap.size + 1 := by omega
  rw [← hbI] at HA0
  have hneX : w.heap.size ≠ bI := by omega
  rw [show w.heap.size + 1 = bI by omega] at hs1 ⊢
  have hbl : w.heap.size < bI := by omega
  clear hw0 HB0 hX hs0 hbI hbI1
  go_wp2
  go_loopw [6] (fun i wr => ∃ k : Nat, k ≤ t.length ∧ i = .int .i64 k ∧ Hid (Arr wr bI 0 l.length (knownF t k)) ∧ wr.heap[w.heap.size]? = some (.cells #[.int .i64 L, .int .i64 R, .slice A l.length ca, .slice B t.length cb] 25 (0, 0)) ∧ Hid (Below w.heap.size w wr) ∧ bI < wr.heap.size) (fun i _ => t.length - (intOf i).toNat)
  case atStart => exact ⟨0, by omega, rfl, HA0, hX1, HB1, hs1⟩
  case round =>
    clear hX1 HA0 HB1 hs1
    obtain ⟨k, hk, rfl, HA, hX, HB, hsz⟩ := hrel
    have y2 : wr.cell? ⟨w.heap.size, 2, none⟩ = some (.slice A l.length ca) := (blk_cell hX).trans rfl
    have y3 : wr.cell? ⟨w.heap.size, 3, none⟩ = some (.slice B t.length cb) := (blk_cell hX).trans rfl
    by_cases hkn : k < t.length
    · obtain ⟨b3, o3, rfl, p1⟩ := (HS.out.known.below HB.out).at_ hkn
      have hb := (rise_iff.1 HV.out.rise).2 t[k] (List.getElem_mem hkn)
      have HKs := Lib.hid (knownF_step hkn (by omega))
      obtain ⟨x, hx⟩ := Int.eq_ofNat_of_zero_le (show 0 ≤ t[k] by omega)
      dsimp only at hb p1
      rw [hx] at p1 hb HKs
      rw [show ((x : Int).toNat) = x by omega] at HKs
      have hxl : x < l.length := by omega
      clear hx
      have m1 := (HA.out x hxl).1
      have m2 := (HA.out x hxl).2
      rw [Nat.zero_add] at m1 m2
      have ik0 : (0 : Int) ≤ (k : Int) := by omega
      have ik1 : (k : Int) < (t.length : Int) := by omega
      have ix0 : (0 : Int) ≤ (x : Int) := by omega
      have ix1 : (x : Int) < (l.length : Int) := by omega
      have hA3 := (HA.out.set hxl 1)
      rw [HKs.out, Nat.zero_add] at hA3
      have HA3 := Lib.hid hA3
      have hX3 := blk_far (p := ⟨bI, x, none⟩) hX hneX (.int .i64 1)
      have HB3 := Lib.hid (HB.out.setCell (p := ⟨bI, x, none⟩) (Nat.le_of_lt hbl) (.int .i64 1))
      clear hA3
      go_wp2
      go_roundw
      case rel => exact ⟨k + 1, by omega, by go_num, HA3, hX3, HB3, by simp; omega⟩
      case measure => simp [intOf]; omega
    · have hke : k = t.length := by omega
      subst hke
      have HOK := Lib.hid (knownF_ok (s := ⟨L, R, A, ca, B, cb, l, t⟩) HV.out)
      dsimp only at HOK
      obtain ⟨f0, hf0⟩ : ∃ f0, f0 = knownF t t.length := ⟨_, rfl⟩
      rw [← hf0] at HA HOK
      clear hf0
      go_upto_if 35 with fail
      go_cut [7] (fun s7 wx => ∃ q : Nat, q ≤ 255 ∧ s7 = .int .i64 q ∧ wx = wr)
      case first =>
        by_cases hu0 : 0 < u.length
        · have d0 : decide (0 < u.length) = true := decide_eq_true hu0
          obtain ⟨b4, o4, rfl, p1⟩ := U8At.at_ (RowsAt.below HU.out HB.out) hu0
          have hq := HU2.out u[0] (List.getElem_mem hu0)
          obtain ⟨q, hqe⟩ := Int.eq_ofNat_of_zero_le hq.1
          rw [hqe] at p1 hq
          rw [Nat.add_zero] at p1
          have iq0 : (0 : Int) < (u.length : Int) := by omega
          have hq2 : (q : Int) ≤ 255 := hq.2
          go_wp2_with fail
          go_meet
          exact ⟨q, by omega, rfl, rfl⟩
        · have d0 : decide (0 < u.length) = false := decide_eq_false hu0
          go_wp2_with fail
          go_meet
          exact ⟨0, by omega, rfl, rfl⟩
      case rest =>
        obtain ⟨q, hq, rfl, rfl⟩ := hcut
        obtain ⟨w2, hw2⟩ : ∃ w2, w2 = wc := ⟨_, rfl⟩
        subst hw2
        clear y2 y3
        go_wp2
        go_loopw [8, 9] (fun sk i wr => ∃ (k : Nat) (f : Nat → Int) (z : Int), k ≤ l.length ∧ i = .int .i64 k ∧ sk = .int .i64 z ∧ Hid (InOk ⟨L, R, A, ca, B, cb, l, t⟩ f) ∧ Hid (Arr wr bI 0 l.length f) ∧ wr.heap[w.heap.size]? = some (.cells #[.int .i64 L, .int .i64 R, .slice A l.length ca, .slice B t.length cb] 25 (0, 0)) ∧ Hid (Below w.heap.size w wr) ∧ bI < wr.heap.size) (fun _ i _ => l.length - (intOf i).toNat)
        case atStart => exact ⟨0, f0, 0, by omega, rfl, rfl, HOK, HA, hX, HB, hsz⟩
        case round =>
          clear hX HA HB hsz HOK
          obtain ⟨k, f, z, hk, rfl, rfl, HOK, HA, hX, HB, hsz⟩ := hrel
          have y2 : wr.cell? ⟨w.heap.size, 2, none⟩ = some (.slice A l.length ca) := (blk_cell hX).trans rfl
          by_cases hkn : k < l.length
          · have hl0 : ¬ ((l.length : Int) = 0) := by omega
            go_upto_region 13 with fail
            obtain ⟨x, hx, hxl⟩ : ∃ x : Nat, ((q : Int) + (k : Int)) % (l.length : Int) = (x : Int) ∧ x < l.length :=
              ⟨(q + k) % l.length, by norm_cast, Nat.mod_lt _ (by omega)⟩
            rw [hx]
            clear hx
            obtain ⟨wo, hwo⟩ : ∃ wo, wo = wr := ⟨_, rfl⟩
            subst hwo
            have ix0 : (0 : Int) ≤ (x : Int) := by omega
            have ix1 : (x : Int) < (l.length : Int) := by omega
            go_wp2
            go_loopw [11, 12] (fun fr i wr => ∃ m : Nat, m ≤ l.length ∧ i = .int .i64 m ∧ fr = .bool (freeF f l x m) ∧ Hid (Below wo.heap.size wo wr)) (fun _ i _ => l.length - (intOf i).toNat)
            case atStart => exact ⟨0, by omega, rfl, rfl, Lib.hid (Below.refl _ _)⟩
            case round =>
              obtain ⟨m, hm', rfl, rfl, HBr⟩ := hrel
              have z2 := cell_below HBr.out y2
              by_cases hmn : m < l.length
              · obtain ⟨b3, o3, rfl, g1, g2⟩ := ((HS.out.links.below HB.out).below HBr.out).at_ hmn
                obtain ⟨b3', o3', e3, k1, k2⟩ := ((HS.out.links.below HB.out).below HBr.out).at_ hxl
                cases e3
                have m1 := cell_below HBr.out (HA.out m hmn).1
                rw [Nat.zero_add] at m1
                have im0 : (0 : Int) ≤ (m : Int) := by omega
                have im1 : (m : Int) < (l.length : Int) := by omega
                have HN := Lib.hid (freeF_step f l x m)
                have HO : Hid (okF f l x m = ((f m == 0) || (decide (l[m].1 ≠ l[x].1) && decide (l[m].2 ≠ l[x].2)))) := Lib.hid (by unfold okF; rw [atL_eq hmn, atL_eq hxl])
                dsimp only at g1 g2 k1 k2
                generalize l[m] = lm at g1 g2 HO
                generalize l[x] = lx at k1 k2 HO
                obtain ⟨a1, a2⟩ := lm
                obtain ⟨c1, c2⟩ := lx
                dsimp only at g1 g2 k1 k2 HO
                have hv := HOK.out.vals m
                generalize freeF f l x m = fr at HN
                go_upto_region 17 with fail
                cases fr
                ·
                  refine wp_region_class (C := fun W => Below wr.heap.size wr W) (by kernel_rfl) (by kernel_rfl) ((Below.refl _ _).drew) ?_
                  repeat (first
                    | go_big_quiet_skip
                    | (go_big_quiet_want
                       first
                         | (go_big_quiet_op; go_big_quiet_on)
                         | (apply Exists.intro
                            refine ⟨fun W hW => ?_, ?_⟩
                            · replace z2 := cell_below hW z2; replace m1 := cell_below hW m1; replace g1 := cell_below hW g1; replace g2 := cell_below hW g2; replace k1 := cell_below hW k1; replace k2 := cell_below hW k2; go_simp <;> exact rfl
                            simp only [Act.put, List.setIfInBounds_toArray, List.set_cons_zero, List.set_cons_succ]
                            go_big_quiet_on)))
                  refine wpQuiet_nil ?_
                  intro w5 hB5
                  have HB5 := Lib.hid (below_trans' HBr.out hB5)
                  clear hB5
                  go_wp2
                  go_roundw
                  case rel => exact ⟨m + 1, by omega, by go_num, by rw [HN.out, HO.out]; rw [Bool.false_and], HB5⟩
                  case measure => simp [intOf]; omega
                · rcases hv with hv | hv
                  · rw [hv] at m1 HO
                    refine wp_region_class (C := fun W => Below wr.heap.size wr W) (by kernel_rfl) (by kernel_rfl) ((Below.refl _ _).drew) ?_
                    repeat (first
                      | go_big_quiet_skip
                      | (go_big_quiet_want
                         first
                           | (go_big_quiet_op; go_big_quiet_on)
                           | (apply Exists.intro
                              refine ⟨fun W hW => ?_, ?_⟩
                              · replace z2 := cell_below hW z2; replace m1 := cell_below hW m1; replace g1 := cell_below hW g1; replace g2 := cell_below hW g2; replace k1 := cell_below hW k1; replace k2 := cell_below hW k2; go_simp <;> exact rfl
                              simp only [Act.put, List.setIfInBounds_toArray, List.set_cons_zero, List.set_cons_succ]
                              go_big_quiet_on)))
                    refine wpQuiet_nil ?_
                    intro w5 hB5
                    have HB5 := Lib.hid (below_trans' HBr.out hB5)
                    clear hB5
                    go_wp2
                    go_roundw
                    case rel => exact ⟨m + 1, by omega, by go_num, by rw [HN.out, HO.out]; rfl, HB5⟩
                    case measure => simp [intOf]; omega
                  · rw [hv] at m1 HO
                    by_cases e1 : a1 = c1
                    · subst e1
                      have d1 : decide (a1 ≠ a1) = false := by simp
                      have d1' : (a1 != a1) = false := by simp
                      refine wp_region_class (C := fun W => Below wr.heap.size wr W) (by kernel_rfl) (by kernel_rfl) ((Below.refl _ _).drew) ?_
                      repeat (first
                        | go_big_quiet_skip
                        | (go_big_quiet_want
                           first
                             | (go_big_quiet_op; go_big_quiet_on)
                             | (apply Exists.intro
                                refine ⟨fun W hW => ?_, ?_⟩
                                · replace z2 := cell_below hW z2; replace m1 := cell_below hW m1; replace g1 := cell_below hW g1; replace g2 := cell_below hW g2; replace k1 := cell_below hW k1; replace k2 := cell_below hW k2; go_simp <;> exact rfl
                                simp only [Act.put, List.setIfInBounds_toArray, List.set_cons_zero, List.set_cons_succ]
                                go_big_quiet_on)))
                      refine wpQuiet_nil ?_
                      intro w5 hB5
                      have HB5 := Lib.hid (below_trans' HBr.out hB5)
                      clear hB5
                      go_wp2
                      go_roundw
                      case rel => exact ⟨m + 1, by omega, by go_num, by rw [HN.out, HO.out, d1]; rfl, HB5⟩
                      case measure => simp [intOf]; omega
                    · have d1 : decide (a1 ≠ c1) = true := by simpa using e1
                      have d1' : (a1 != c1) = true := by simpa using e1
                      by_cases e2 : a2 = c2
                      · subst e2
                        have d2 : decide (a2 ≠ a2) = false := by simp
                        have d2' : (a2 != a2) = false := by simp
                        refine wp_region_class (C := fun W => Below wr.heap.size wr W) (by kernel_rfl) (by kernel_rfl) ((Below.refl _ _).drew) ?_
                        repeat (first
                          | go_big_quiet_skip
                          | (go_big_quiet_want
                             first
                               | (go_big_quiet_op; go_big_quiet_on)
                               | (apply Exists.intro
                                  refine ⟨fun W hW => ?_, ?_⟩
                                  · replace z2 := cell_below hW z2; replace m1 := cell_below hW m1; replace g1 := cell_below hW g1; replace g2 := cell_below hW g2; replace k1 := cell_below hW k1; replace k2 := cell_below hW k2; go_simp <;> exact rfl
                                  simp only [Act.put, List.setIfInBounds_toArray, List.set_cons_zero, List.set_cons_succ]
                                  go_big_quiet_on)))
                        refine wpQuiet_nil ?_
                        intro w5 hB5
                        have HB5 := Lib.hid (below_trans' HBr.out hB5)
                        clear hB5
                        go_wp2
                        go_roundw
                        case rel => exact ⟨m + 1, by omega, by go_num, by rw [HN.out, HO.out, d1, d2]; rfl, HB5⟩
                        case measure => simp [intOf]; omega
                      · have d2 : decide (a2 ≠ c2) = true := by simpa using e2
                        have d2' : (a2 != c2) = true := by simpa using e2
                        refine wp_region_class (C := fun W => Below wr.heap.size wr W) (by kernel_rfl) (by kernel_rfl) ((Below.refl _ _).drew) ?_
                        repeat (first
                          | go_big_quiet_skip
                          | (go_big_quiet_want
                             first
                               | (go_big_quiet_op; go_big_quiet_on)
                               | (apply Exists.intro
                                  refine ⟨fun W hW => ?_, ?_⟩
                                  · replace z2 := cell_below hW z2; replace m1 := cell_below hW m1; replace g1 := cell_below hW g1; replace g2 := cell_below hW g2; replace k1 := cell_below hW k1; replace k2 := cell_below hW k2; go_simp <;> exact rfl
                                  simp only [Act.put, List.setIfInBounds_toArray, List.set_cons_zero, List.set_cons_succ]
                                  go_big_quiet_on)))
                        refine wpQuiet_nil ?_
                        intro w5 hB5
                        have HB5 := Lib.hid (below_trans' HBr.out hB5)
                        clear hB5
                        go_wp2
                        go_roundw
                        case rel => exact ⟨m + 1, by omega, by go_num, by rw [HN.out, HO.out, d1, d2]; rfl, HB5⟩
                        case measure => simp [intOf]; omega
              · have hme : m = l.length := by omega
                subst hme
                have hlow := HBr.out.size
                have HAr := Lib.hid (HA.out.below HBr.out)
                have hXr := blk_below HBr.out hX
                have HBw := Lib.hid (below_trans' HB.out HBr.out)
                have hszr : bI < wr.heap.size := by omega
                clear HA hX HB y2 hsz
                obtain ⟨fr, hfr⟩ : ∃ fr, freeF f l x l.length = fr := ⟨_, rfl⟩
                rw [hfr]
                have HFR := Lib.hid hfr
                clear hfr
                go_upto_region 18 with fail
                go_cut [114] (fun s114 wx => ∃ b, s114 = .bool b ∧ wx = wr)
                case first =>
                  by_cases hu1 : 1 < u.length
                  · have hxu : ∃ y : Nat, (1 : Int) + (k : Int) % ((u.length : Int) - 1) = (y : Int) ∧ y < u.length := by
                      refine ⟨1 + k % (u.length - 1), ?_, ?_⟩
                      · rw [Int.natCast_add, Int.natCast_emod, Int.natCast_sub (by omega)]; rfl
                      · have := Nat.mod_lt k (show 0 < u.length - 1 by omega); omega
                    obtain ⟨y, hy, hyu⟩ := hxu
                    obtain ⟨b4, o4, rfl, p1⟩ := U8At.at_ (RowsAt.below HU.out HBw.out) hyu
                    have hq4 := HU2.out u[y] (List.getElem_mem hyu)
                    obtain ⟨e4, he4⟩ := Int.eq_ofNat_of_zero_le hq4.1
                    rw [he4] at p1 hq4
                    have he5 : (e4 : Int) ≤ 255 := hq4.2
                    have hu1i : (1 : Int) < (u.length : Int) := by omega
                    have hu2i : ¬ ((u.length : Int) - 1 = 0) := by omega
                    have iy0 : (0 : Int) ≤ (y : Int) := by omega
                    have iy1 : (y : Int) < (u.length : Int) := by omega
                    clear hq4 he4
                    go_wp2_with fail
                    go_meet
                    exact ⟨_, rfl, rfl⟩
                  · have hu1i : ¬ (1 : Int) < (u.length : Int) := by omega
                    go_wp2_with fail
                    go_meet
                    exact ⟨_, rfl, rfl⟩
                case rest =>
                  obtain ⟨b, rfl, rfl⟩ := hcut
                  have HBe : Hid (InOk ⟨L, R, A, ca, B, cb, l, t⟩ f) := HOK
                  cases b
                  · cases fr
                    · go_wp2
                      go_roundw
                      case rel => exact ⟨k + 1, f, _, by omega, by go_num, rfl, HOK, HAr, hXr, HBw, hszr⟩
                      case measure => simp [intOf]; omega
                    · have HOK2 := Lib.hid (InOk.put (s := ⟨L, R, A, ca, B, cb, l, t⟩) HOK.out HFR.out)
                      have m1 := (HAr.out x hxl).1
                      have m2 := (HAr.out x hxl).2
                      rw [Nat.zero_add] at m1 m2
                      have hA3 := HAr.out.set hxl 1
                      rw [Nat.zero_add] at hA3
                      have HA3 := Lib.hid hA3
                      have hX3 := blk_far (p := ⟨bI, x, none⟩) hXr hneX (.int .i64 1)
                      have HB3 := Lib.hid (HBw.out.setCell (p := ⟨bI, x, none⟩) (Nat.le_of_lt hbl) (.int .i64 1))
                      clear hA3
                      go_wp2
                      go_roundw
                      case rel => exact ⟨k + 1, _, _, by omega, by go_num, rfl, HOK2, HA3, hX3, HB3, by simp; omega⟩
                      case measure => simp [intOf]; omega
                  · go_wp2
                    go_roundw
                    case rel => exact ⟨k + 1, f, _, by omega, by go_num, rfl, HOK, HAr, hXr, HBw, hszr⟩
                    case measure => simp [intOf]; omega
          · have hke : k = l.length := by omega
            subst hke
            clear HU HU2
            obtain ⟨wo, hwo⟩ : ∃ wo, wo = wr := ⟨_, rfl⟩
            subst hwo
            have HJ := Lib.hid (InOk.joining HOK.out HV.out)
            have HK := Lib.hid HOK.out.vals
            dsimp only at HJ
            go_upto_region 25 with fail
            clear hX y2 HOK hsz
            go_loopw [13, 14] (fun ov i wr => ∃ k : Nat, k ≤ l.length ∧ i = .int .i64 k ∧ wr.ownsRow wo.heap.size 3 1 ov (takenL f k).length ((takenL f k).flatMap encI) ∧ Hid (Below wo.heap.size wo wr)) (fun _ i _ => l.length - (intOf i).toNat)
            case atStart => exact ⟨0, by omega, rfl, World.ownsRow_nil _ _ _ _, Lib.hid (Below.refl _ _)⟩
            case round =>
              obtain ⟨k, hk, rfl, hown, HBr⟩ := hrel
              have hlk := takenL_len f k
              by_cases hkn : k < l.length
              · have m1 := cell_below HBr.out (HA.out k hkn).1
                rw [Nat.zero_add] at m1
                have ik0 : (0 : Int) ≤ (k : Int) := by omega
                have ik1 : (k : Int) < (l.length : Int) := by omega
                have HT := Lib.hid (takenL_step f k)
                by_cases hf : f k = 1
                · rw [hf] at m1
                  rw [if_pos hf] at HT
                  have Hown := Lib.hid hown
                  have hz := HBr.out.size
                  clear hown
                  generalize takenL f k = T at HT Hown hlk
                  go_wp2_with (at_builtin; refine wpList_push _ rfl (.tmp 132) (.tmp 134) 23 rfl elemI3 encI_len oneI Try.underlying23 wo.heap.size _ T rfl (Hown.out.alloc _) (by omega) (k : Int) _ rfl _ (by rfl) _ _ (heap_alloc_new _ _) (by rw [World.size_alloc]; omega) ?_; intro g cap w6 hown6 hg6; have HB6 := Lib.hid ((below_alloc' HBr.out _).grown hg6 (by rw [World.size_alloc]; omega) (fun r e => own_base Hown.out r e)); have Hown6 := Lib.hid hown6; clear hown6 hg6 Hown HBr)
                  go_roundw
                  case rel => exact ⟨k + 1, by omega, by go_num, by rw [HT.out, len_snoc]; exact Hown6.out, HB6⟩
                  case measure => simp [intOf]; omega
                · have hf0 : f k = 0 := (HK.out k).resolve_right hf
                  rw [hf0] at m1
                  rw [if_neg hf] at HT
                  go_wp2
                  go_roundw
                  case rel => exact ⟨k + 1, by omega, by go_num, by rw [HT.out]; exact hown, HBr⟩
                  case measure => simp [intOf]; omega
              · have hke : k = l.length := by omega
                subst hke
                obtain ⟨G, c, rfl, hc⟩ := own_form hown
                have HR : Hid (IntsAt wr G (takenL f l.length)) := Lib.hid (RowsAt.of_own encI_len hown)
                have HBE := Lib.hid (below_trans' HB.out HBr.out)
                clear hown
                go_wp2
                go_ret
                exact Ret.mk' rfl ⟨⟨G, c, takenL f l.length, rfl, HR.out, hc, HJ.out, by omega⟩, HBE.out⟩
end Go.Proofs.Ytoogfdicmpkkgaa
