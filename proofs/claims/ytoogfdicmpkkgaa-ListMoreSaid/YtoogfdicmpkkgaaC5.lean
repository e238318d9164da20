/- ListCertain. -/
import Derived.Test.YtoogfdicmpkkgaaC4
namespace Go.Proofs.Ytoogfdicmpkkgaa
open Go.RowKit Go.Shelf Go.Maps Match

theorem IsJ.of_yes {s : Sh} {k : Nat} {j : List Int} (h : IsJ (yesS s k) j) : IsJ s j ∧ (k : Int) ∈ j :=
  ⟨⟨h.rise, h.bound, h.single, fun x hx => h.known x (yesT_mem.2 (.inl hx))⟩, h.known k (yesT_mem.2 (.inr rfl))⟩
/-- a greatest joining has all links that are certain, and none that is not possible -/
theorem IsJ.certain {s : Sh} {j : List Int} (h : Sheet s.L s.R s.l s.t) (hj : IsJ s j) (hl : j.length = s.t.length + mostS s) {k : Nat} (hk : k < s.l.length) : (kindC s k = 2 → (k : Int) ∈ j) ∧ (kindC s k = 0 → (k : Int) ∉ j) := by
  have hg := hj.gr h (by omega)
  exact ⟨fun e => (hj.mem h hk).1 ((h.kind hk).two e _ hg), fun e hm => (h.kind hk).zero e _ hg ((hj.mem h hk).2 hm)⟩
/-- the list at a place of three -/
def pick3 (i : Nat) {α : Type} (a b c : α) : α := if i = 0 then a else if i = 1 then b else c

set_option maxRecDepth 100000 in
set_option maxHeartbeats 4000000 in
theorem listCertain_any (s : Sh) (U J : Option Addr) (cu cj : Nat) (u j0 : List Int) (lk : Nat) (w : World) (hs : ShIn w s) (hu : U8At w U u) (hu2 : ∀ x ∈ u, 0 ≤ x ∧ x ≤ 255) (hj : IntsAt w J j0) (hnu : u.length ≤ 9223372036854775807) (hnj : j0.length ≤ 9223372036854775807) (hlk : lk ≤ 255) :
    Calls Try.prog 8 #[s.v, .slice U u.length cu, .slice J j0.length cj, .int .u8 lk] w (Ret fun v w' => v = .bool true ∧ Below w.heap.size w w') := by
  obtain ⟨L, R, A, ca, B, cb, l, t⟩ := s
  have HS := Lib.hid hs; clear hs
  have HJ := Lib.hid hj; clear hj
  have HU := Lib.hid hu; clear hu
  have HU2 := Lib.hid hu2; clear hu2
  unfold Sh.v vSheet
  dsimp only
  obtain ⟨w1, hw1⟩ : ∃ w1, w1 = w.alloc (.cells #[.int .i64 L, .int .i64 R, .slice A l.length ca, .slice B t.length cb] 25) := ⟨_, rfl⟩
  have HB1 : Hid (Below w.heap.size w w1) := Lib.hid (by rw [hw1]; exact below_alloc' (Below.refl _ _) _)
  have hX : w1.heap[w.heap.size]? = some (.cells #[.int .i64 L, .int .i64 R, .slice A l.length ca, .slice B t.length cb] 25 (0, 0)) := by rw [hw1]; exact heap_alloc_new _ _
  have y0 : w1.cell? ⟨w.heap.size, 0, none⟩ = some (.int .i64 L) := (blk_cell hX).trans rfl
  have y1 : w1.cell? ⟨w.heap.size, 1, none⟩ = some (.int .i64 R) := (blk_cell hX).trans rfl
  have y2 : w1.cell? ⟨w.heap.size, 2, none⟩ = some (.slice A l.length ca) := (blk_cell hX).trans rfl
  have y3 : w1.cell? ⟨w.heap.size, 3, none⟩ = some (.slice B t.length cb) := (blk_cell hX).trans rfl
  replace HS := Lib.hid (HS.out.below HB1.out)
  go_enter Try.func8, Try.ntmps8
  go_upto_region 1 with fail
  rw [← hw1]
  clear hw1 hX
  replace HJ := Lib.hid (HJ.out.below HB1.out)
  replace HU : Hid (U8At w1 U u) := Lib.hid (RowsAt.below HU.out HB1.out)
  have Hc := Lib.hid (fineS ⟨L, R, A, ca, B, cb, l, t⟩ w1 HS.out)
  try dsimp only at Hc
  go_wp2_with fail
  refine Hc.out.mono ?_
  rintro e w2 ⟨v, rfl, rfl, hb⟩
  have HB2 := Lib.hid (below_trans' HB1.out hb)
  replace HS := Lib.hid (HS.out.below hb)
  replace HJ := Lib.hid (HJ.out.below hb)
  replace y0 := cell_below hb y0
  replace y1 := cell_below hb y1
  replace y2 := cell_below hb y2
  replace y3 := cell_below hb y3
  replace HU : Hid (U8At w2 U u) := Lib.hid (RowsAt.below HU.out hb)
  clear hb Hc HB1 
  by_cases hf : fineC ⟨L, R, A, ca, B, cb, l, t⟩ = true
  rotate_left 1
  ·
    have hf : fineC ⟨L, R, A, ca, B, cb, l, t⟩ = false := by simpa using hf
    rw [hf]
    go_wp2_with fail
    refine (works_any _).mono ?_
    rintro e wz ⟨v, rfl, rfl, hBz⟩
    go_wp2
    go_ret
    exact Ret.mk' rfl ⟨rfl, below_trans' HB2.out hBz⟩
  rw [hf]
  by_cases h1 : (60 : Int) < (u.length : Int)
  ·
    go_wp2_with fail
    refine (works_any _).mono ?_
    rintro e wz ⟨v, rfl, rfl, hBz⟩
    go_wp2
    go_ret
    exact Ret.mk' rfl ⟨rfl, below_trans' HB2.out hBz⟩
  by_cases h2 : (60 : Int) < (j0.length : Int)
  ·
    go_wp2_with fail
    refine (works_any _).mono ?_
    rintro e wz ⟨v, rfl, rfl, hBz⟩
    go_wp2
    go_ret
    exact Ret.mk' rfl ⟨rfl, below_trans' HB2.out hBz⟩
  obtain ⟨hg, hv⟩ := fine_iff.1 hf
  have HA := Lib.hid (HS.out.at hg)
  have hmany := hv.many
  try dsimp only at hmany
  have HV := Lib.hid hv
  clear HS hf hg hv
  have Hc := Lib.hid (greatestS ⟨L, R, A, ca, B, cb, l, t⟩ w2 HA.out HV.out)
  try dsimp only at Hc
  go_wp2_with fail
  refine Hc.out.mono ?_
  rintro e w3 ⟨v, rfl, ⟨G, c, j, rfl, hg, hgc, hgj, hgl⟩, hb⟩
  have HB3 := Lib.hid (below_trans' HB2.out hb)
  replace HA := Lib.hid (HA.out.below hb)
  replace HJ := Lib.hid (HJ.out.below hb)
  replace y0 := cell_below hb y0
  replace y1 := cell_below hb y1
  replace y2 := cell_below hb y2
  replace y3 := cell_below hb y3
  replace HU : Hid (U8At w3 U u) := Lib.hid (RowsAt.below HU.out hb)
  clear hb Hc HB2 
  try dsimp only at hgl
  have HGL := Lib.hid hgl
  have hj40 := IsJ.short HV.out hgj
  have HGJ := Lib.hid hgj
  have HG := Lib.hid hg
  clear hg hgj hgl hgc
  have Hc := Lib.hid (kindsS ⟨L, R, A, ca, B, cb, l, t⟩ w3 HA.out HV.out)
  try dsimp only at Hc
  go_wp2_with fail
  refine Hc.out.mono ?_
  rintro e w4 ⟨v, rfl, ⟨G1, c1, rfl, h1, n1⟩, hb⟩
  have HB4 := Lib.hid (below_trans' HB3.out hb)
  replace HA := Lib.hid (HA.out.below hb)
  replace HJ := Lib.hid (HJ.out.below hb)
  replace HG := Lib.hid (HG.out.below hb)
  replace y0 := cell_below hb y0
  replace y1 := cell_below hb y1
  replace y2 := cell_below hb y2
  replace y3 := cell_below hb y3
  replace HU : Hid (U8At w4 U u) := Lib.hid (RowsAt.below HU.out hb)
  clear hb Hc HB3 
  obtain ⟨ks, hks⟩ : ∃ ks, kindsC ⟨L, R, A, ca, B, cb, l, t⟩ = ks := ⟨_, rfl⟩
  have hkl1 := kindsC_len ⟨L, R, A, ca, B, cb, l, t⟩
  rw [hks] at h1 n1 hkl1
  rw [hks]
  try dsimp only at hkl1
  rw [hkl1]
  have HK := Lib.hid hks
  have HL1 := Lib.hid hkl1
  have H1 := Lib.hid h1
  clear h1 n1 hks hkl1
  have hc := refCheckJoiningS ⟨L, R, A, ca, B, cb, l, t⟩ G c j w4 HA.out HG.out (by omega)
  try dsimp only at hc
  rw [show joinErr L R l t j = 0 from joinErr_of (s := ⟨L, R, A, ca, B, cb, l, t⟩) HV.out HGJ.out] at hc
  have Hc := Lib.hid (hc)
  try dsimp only at Hc
  go_wp2_with fail
  refine Hc.out.mono ?_
  rintro e w5 ⟨v, rfl, rfl, hb⟩
  have HB5 := Lib.hid (below_trans' HB4.out hb)
  replace HA := Lib.hid (HA.out.below hb)
  replace HJ := Lib.hid (HJ.out.below hb)
  replace HG := Lib.hid (HG.out.below hb)
  replace H1 := Lib.hid (H1.out.below hb)
  replace y0 := cell_below hb y0
  replace y1 := cell_below hb y1
  replace y2 := cell_below hb y2
  replace y3 := cell_below hb y3
  replace HU : Hid (U8At w5 U u) := Lib.hid (RowsAt.below HU.out hb)
  clear hb Hc HB4 hc
  have Hc := Lib.hid (byS ⟨L, R, A, ca, B, cb, l, t⟩ U cu u w5 HA.out HV.out HU.out (by omega) HU2.out)
  try dsimp only at Hc
  go_wp2_with fail
  refine Hc.out.mono ?_
  rintro e w6 ⟨v, rfl, ⟨G3, c3, j3, rfl, hg3, hc3, hj3, hl3⟩, hb⟩
  have HB6 := Lib.hid (below_trans' HB5.out hb)
  replace HA := Lib.hid (HA.out.below hb)
  replace HJ := Lib.hid (HJ.out.below hb)
  replace HG := Lib.hid (HG.out.below hb)
  replace H1 := Lib.hid (H1.out.below hb)
  replace y0 := cell_below hb y0
  replace y1 := cell_below hb y1
  replace y2 := cell_below hb y2
  replace y3 := cell_below hb y3
  replace HU : Hid (U8At w6 U u) := Lib.hid (RowsAt.below HU.out hb)
  clear hb Hc HB5 
  have H3 := Lib.hid hg3
  clear hg3 hj3 HU HU2
  have hb : Below w6.heap.size w6 (w6.alloc (.cells #[.slice G j.length c, .slice G3 j3.length c3, .slice J j0.length cj] 23)) := below_alloc' (Below.refl _ _) _
  have hZ := heap_alloc_new w6 (.cells #[.slice G j.length c, .slice G3 j3.length c3, .slice J j0.length cj] 23)
  replace HA := Lib.hid (HA.out.below hb)
  replace HJ := Lib.hid (HJ.out.below hb)
  replace HG := Lib.hid (HG.out.below hb)
  replace H1 := Lib.hid (H1.out.below hb)
  replace H3 := Lib.hid (H3.out.below hb)
  replace y0 := cell_below hb y0
  replace y1 := cell_below hb y1
  replace y2 := cell_below hb y2
  replace y3 := cell_below hb y3
  have HB7 := Lib.hid (below_trans' HB6.out hb)
  clear hb HB6
  go_upto_region 8 with fail
  generalize w6.alloc _ = w7 at *
  generalize w6.heap.size = bl at *
  have HZ : Hid (∀ i, i < 3 → w7.cell? ⟨bl, 0 + i, none⟩ = some (.slice (pick3 i G G3 J) (pick3 i j j3 j0).length (pick3 i c c3 cj))) := Lib.hid fun i hi => by
    rw [Nat.zero_add]
    obtain rfl | rfl | rfl : i = 0 ∨ i = 1 ∨ i = 2 := by omega
    · exact (blk_cell hZ).trans rfl
    · exact (blk_cell hZ).trans rfl
    · exact (blk_cell hZ).trans rfl
  have HPI : Hid (∀ i, i < 3 → IntsAt w7 (pick3 i G G3 J) (pick3 i j j3 j0)) := Lib.hid fun i hi => by
    obtain rfl | rfl | rfl : i = 0 ∨ i = 1 ∨ i = 2 := by omega
    · exact HG.out
    · exact H3.out
    · exact HJ.out
  have HPL : Hid (∀ i, i < 3 → (pick3 i j j3 j0).length ≤ 100000) := Lib.hid fun i hi => by
    obtain rfl | rfl | rfl : i = 0 ∨ i = 1 ∨ i = 2 := by omega
    · show j.length ≤ 100000; omega
    · show j3.length ≤ 100000; omega
    · show j0.length ≤ 100000; omega
  clear hZ
  go_wp2
  go_loopw [14] (fun iv wr => ∃ i : Nat, i ≤ 3 ∧ iv = .int .i64 i ∧ Hid (Below w7.heap.size w7 wr)) (fun iv _ => 3 - (intOf iv).toNat)
  case atStart => exact ⟨0, by omega, rfl, Lib.hid (Below.refl _ _)⟩
  case round =>
    obtain ⟨i, hi, rfl, HBr⟩ := hrel
    have y0r := cell_below HBr.out y0
    have y1r := cell_below HBr.out y1
    have y2r := cell_below HBr.out y2
    have y3r := cell_below HBr.out y3
    by_cases hin : i < 3
    · have ii0 : (0 : Int) ≤ (i : Int) := by omega
      have ii1 : (i : Int) < 3 := by omega
      have m1 := cell_below HBr.out (HZ.out i hin)
      have HPi := Lib.hid ((HPI.out i hin).below HBr.out)
      have hpl := HPL.out i hin
      rw [Nat.zero_add] at m1
      generalize pick3 i G G3 J = Gi at m1 HPi
      generalize pick3 i j j3 j0 = ji at m1 HPi hpl
      generalize pick3 i c c3 cj = ci at m1
      by_cases hle : ji.length = j.length
      · rw [hle] at m1
        have hcj := fun W (hW : Below wr.heap.size wr W) => refCheckJoiningS ⟨L, R, A, ca, B, cb, l, t⟩ Gi ci ji W ((HA.out.below HBr.out).below hW) (HPi.out.below hW) hpl
        dsimp only at hcj
        rw [hle] at hcj
        have HE := Lib.hid (isJ_iff (s := ⟨L, R, A, ca, B, cb, l, t⟩) HV.out ji)
        dsimp only at HE
        generalize joinErr L R l t ji = eji at hcj HE
        have HCJ := Lib.hid hcj
        clear hcj
        go_upto_region 11 with fail
        refine wp_region_class (C := fun W => Below wr.heap.size wr W) (by kernel_rfl) (by kernel_rfl) ((Below.refl _ _).drew) ?_
        repeat (first
          | go_big_quiet_skip
          | (go_big_quiet_want
             first
               | (go_big_quiet_op; go_big_quiet_on)
               | (apply Exists.intro
                  refine ⟨fun W hW => ?_, ?_⟩
                  · replace y0r := cell_below hW y0r; replace y1r := cell_below hW y1r; replace y2r := cell_below hW y2r; replace y3r := cell_below hW y3r; replace m1 := cell_below hW m1; go_simp <;> exact rfl
                  simp only [Act.put, List.setIfInBounds_toArray, List.set_cons_zero, List.set_cons_succ]
                  go_big_quiet_on)))
        go_big_quiet_want
        apply Exists.intro
        refine ⟨fun W hW => ?_, ?_⟩
        · go_simp
          refine (HCJ.out _ hW).mono ?_
          rintro e wc ⟨v, rfl, rfl, hBc⟩
          exact ⟨rfl, below_trans' hW hBc⟩
        simp only [Act.put, List.setIfInBounds_toArray, List.set_cons_zero, List.set_cons_succ]
        go_big_quiet_on
        repeat (first
          | go_big_quiet_skip
          | (go_big_quiet_want
             first
               | (go_big_quiet_op; go_big_quiet_on)
               | (apply Exists.intro
                  refine ⟨fun W hW => ?_, ?_⟩
                  · replace y0r := cell_below hW y0r; replace y1r := cell_below hW y1r; replace y2r := cell_below hW y2r; replace y3r := cell_below hW y3r; replace m1 := cell_below hW m1; go_simp <;> exact rfl
                  simp only [Act.put, List.setIfInBounds_toArray, List.set_cons_zero, List.set_cons_succ]
                  go_big_quiet_on)))
        refine wpQuiet_nil ?_
        intro w21 hB21
        have HB21 := Lib.hid (below_trans' HBr.out hB21)
        replace HPi := Lib.hid (HPi.out.below hB21)
        replace m1 := cell_below hB21 m1
        clear y0r y1r y2r y3r hB21 HCJ HBr
        obtain ⟨db, hdb⟩ : ∃ db, (eji != 0) = db := ⟨_, rfl⟩
        rw [hdb]
        by_cases he : eji = 0
        · obtain rfl : db = false := by rw [← hdb]; simpa using he
          have HJi := Lib.hid (HE.out.1 he)
          clear HE hdb he
          go_wp2
          go_loopw [15] (fun kv wq => ∃ k : Nat, k ≤ l.length ∧ kv = .int .i64 k ∧ Hid (Below w21.heap.size w21 wq)) (fun kv _ => l.length - (intOf kv).toNat)
          case atStart => exact ⟨0, by omega, rfl, Lib.hid (Below.refl _ _)⟩
          case round =>
            obtain ⟨k, hk, rfl, HBq⟩ := hrel
            by_cases hkn : k < l.length
            · have ik0 : (0 : Int) ≤ (k : Int) := by omega
              have ik1 : (k : Int) < (l.length : Int) := by omega
              have m2 := cell_below HBq.out m1
              have HKC := Lib.hid (kindsC_at ⟨L, R, A, ca, B, cb, l, t⟩ hkn)
              rw [HK.out] at HKC
              have hct := IsJ.certain HV.out HJi.out (by rw [hle]; exact HGL.out) hkn
              rw [← HKC.out] at hct
              obtain ⟨b1, o1, rfl⟩ := IntsAt.some_ H1.out (show k < ks.length by rw [HL1.out]; exact hkn)
              have hvals := kindC_vals (s := ⟨L, R, A, ca, B, cb, l, t⟩) (k := k)
              rw [← HKC.out] at hvals
              have Hin := Lib.hid (inS Gi ci ji k _ (HPi.out.below HBq.out) hpl)
              rw [hle] at Hin
              go_wp2_with fail
              refine Hin.out.mono ?_
              rintro e wi ⟨v, rfl, rfl, hb⟩
              have HBi := Lib.hid (below_trans' HBq.out hb)
              clear Hin hb m2
              have p1 := IntsAt.get (((H1.out.below HB21.out).below HBi.out)) (show k < ks.length by rw [HL1.out]; exact hkn)
              obtain ⟨kv, hkv⟩ : ∃ kv, ks.getD k 0 = kv := ⟨_, rfl⟩
              rw [hkv] at p1 hct hvals
              have Hct := Lib.hid hct
              clear hct hkv HKC
              obtain ⟨bb, hbb⟩ : ∃ bb, ji.contains (k : Int) = bb := ⟨_, rfl⟩
              rw [hbb]
              have Hbb := Lib.hid hbb
              clear hbb
              rcases hvals with rfl | rfl | rfl
              · obtain rfl : bb = false := by rw [← Hbb.out]; simpa using Hct.out.2 rfl
                go_wp2
                go_roundw
                case rel => exact ⟨k + 1, by omega, by go_num, HBi⟩
                case measure => simp [intOf]; omega
              · go_wp2
                go_roundw
                case rel => exact ⟨k + 1, by omega, by go_num, HBi⟩
                case measure => simp [intOf]; omega
              · obtain rfl : bb = true := by rw [← Hbb.out]; simpa using Hct.out.1 rfl
                go_wp2
                go_roundw
                case rel => exact ⟨k + 1, by omega, by go_num, HBi⟩
                case measure => simp [intOf]; omega
            · have hke : k = l.length := by omega
              subst hke
              have HBE := Lib.hid (below_trans' HB21.out HBq.out)
              go_wp2
              go_roundw
              case rel => exact ⟨i + 1, by omega, by go_num, HBE⟩
              case measure => simp [intOf]; omega
        · obtain rfl : db = true := by rw [← hdb]; simpa using he
          clear hdb he
          go_wp2
          go_roundw
          case rel => exact ⟨i + 1, by omega, by go_num, HB21⟩
          case measure => simp [intOf]; omega
      · have dl : ((ji.length : Int) != (j.length : Int)) = true := by simp; omega
        go_upto_region 11 with fail
        refine wp_region_quiet_lit (by kernel_rfl) (by kernel_rfl) ?_
        repeat (any_goals (first | go_big_quiet_step (fail) | quiet_step (fail) | (refine wpQuiet_step (fun K hK => ?_); go_simp; split <;> (refine hK _ ?_; clear hK K))))
        all_goals (refine wpQuiet_nil ?_; intro _ hw'; obtain ⟨nq, hw''⟩ := hw'; subst hw'')
        go_wp2
        go_roundw
        case rel => exact ⟨i + 1, by omega, by go_num, Lib.hid (below_drewN HBr.out _)⟩
        case measure => simp [intOf]; omega
    · have hie : i = 3 := by omega
      subst hie
      have HB30 := Lib.hid (below_trans' HB7.out HBr.out)
      replace HA := Lib.hid (HA.out.below HBr.out)
      replace H1 := Lib.hid (H1.out.below HBr.out)
      clear y0 y1 y2 y3 HPI HPL HZ HBr HB7 H3 HJ HG
      go_upto_region 18 with fail
      obtain ⟨w30, rfl⟩ : ∃ w30 : World, w30 = wr := ⟨_, rfl⟩
      clear hi hin
      by_cases h0 : l.length = 0
      ·
        have d0 : ((l.length : Int) == 0) = true := by simp [h0]
        go_wp2_with fail
        refine (works_any _).mono ?_
        rintro e wz ⟨v, rfl, rfl, hBz⟩
        go_wp2
        go_ret
        exact Ret.mk' rfl ⟨rfl, below_trans' HB30.out hBz⟩
      have d0 : ((l.length : Int) == 0) = false := by simpa using h0
      have l0 : ¬ ((l.length : Int) = 0) := by omega
      go_upto_region 21 with fail
      obtain ⟨k, hk, hkl⟩ : ∃ k : Nat, (lk : Int) % (l.length : Int) = (k : Int) ∧ k < l.length := ⟨lk % l.length, by norm_cast, Nat.mod_lt _ (by omega)⟩
      rw [hk]
      clear hk d0 l0 h0
      have ik0 : (0 : Int) ≤ (k : Int) := by omega
      have ik1 : (k : Int) < (l.length : Int) := by omega
      have HKC := Lib.hid (kindsC_at ⟨L, R, A, ca, B, cb, l, t⟩ hkl)
      rw [HK.out] at HKC
      obtain ⟨b1, o1, rfl⟩ := IntsAt.some_ H1.out (show k < ks.length by rw [HL1.out]; exact hkl)
      have p1 := IntsAt.get H1.out (show k < ks.length by rw [HL1.out]; exact hkl)
      rw [HKC.out] at p1
      obtain ⟨kv, hkv⟩ : ∃ kv, kindC ⟨L, R, A, ca, B, cb, l, t⟩ k = kv := ⟨_, rfl⟩
      rw [hkv] at p1
      by_cases hz : kv = 1
      rotate_left 1
      ·
        have dz : (kv != 1) = true := by simpa using hz
        go_wp2_with fail
        refine (works_any _).mono ?_
        rintro e wz ⟨v, rfl, rfl, hBz⟩
        go_wp2
        go_ret
        exact Ret.mk' rfl ⟨rfl, below_trans' HB30.out hBz⟩
      subst hz
      have hck0 : kindC ⟨L, R, A, ca, B, cb, l, t⟩ k ≠ 0 := by omega
      have hnt : (k : Int) ∉ t := fun hm => by
        have : kindC ⟨L, R, A, ca, B, cb, l, t⟩ k = 2 := by
          unfold kindC
          rw [show List.contains (Sh.t ⟨L, R, A, ca, B, cb, l, t⟩) (k : Int) = true by simpa using hm]; rfl
        omega
      have hfr : freeP ⟨L, R, A, ca, B, cb, l, t⟩ k = true := kind_free hck0 hnt
      have HNT := Lib.hid hnt
      have HK0 := Lib.hid hck0
      have HK1 := Lib.hid hkv
      have HFR := Lib.hid hfr
      have HYS := Lib.hid (HV.out.yes hkl hfr)
      have HYN := Lib.hid (Sheet.no (s := ⟨L, R, A, ca, B, cb, l, t⟩) HV.out hkl hnt)
      have HNC : Hid (t.contains (k : Int) = false) := Lib.hid (by simpa using hnt)
      clear hnt hck0 hkv hfr
      have ht40 : t.length ≤ 100000 := by have := HA.out.few; dsimp only at this; omega
      have hc := inS B cb t k w30 HA.out.known ht40
      rw [HNC.out] at hc
      have Hc := Lib.hid (hc)
      try dsimp only at Hc
      go_wp2_with fail
      refine Hc.out.mono ?_
      rintro e w31 ⟨v, rfl, rfl, hb⟩
      have HB31 := Lib.hid (below_trans' HB30.out hb)
      replace HA := Lib.hid (HA.out.below hb)
      replace y0r := cell_below hb y0r
      replace y1r := cell_below hb y1r
      replace y2r := cell_below hb y2r
      replace y3r := cell_below hb y3r
      clear hb Hc HB30 hc p1
      have Hc := Lib.hid (knowingS ⟨L, R, A, ca, B, cb, l, t⟩ k w31 HA.out HV.out hkl HFR.out)
      try dsimp only at Hc
      go_wp2_with fail
      refine Hc.out.mono ?_
      rintro e w32 ⟨v, rfl, ⟨Gx, cx, rfl, hx⟩, hb⟩
      have HB32 := Lib.hid (below_trans' HB31.out hb)
      replace HA := Lib.hid (HA.out.below hb)
      replace y0r := cell_below hb y0r
      replace y1r := cell_below hb y1r
      replace y2r := cell_below hb y2r
      replace y3r := cell_below hb y3r
      clear hb Hc HB31 
      have HX := Lib.hid hx
      clear hx
      try dsimp only at HX
      unfold vSheet
      try dsimp only
      have hc := refCheckSheetS ⟨L, R, A, ca, Gx, cx, l, yesT t k⟩ w32 HX.out
      unfold Sh.v vSheet at hc
      dsimp only at hc
      rw [show sheetErr L R l (yesT t k) = 0 from sheetErr_iff.2 HYS.out] at hc
      have Hc := Lib.hid (hc)
      try dsimp only at Hc
      go_wp2_with fail
      refine Hc.out.mono ?_
      rintro e w33 ⟨v, rfl, rfl, hb⟩
      have HB33 := Lib.hid (below_trans' HB32.out hb)
      replace HA := Lib.hid (HA.out.below hb)
      replace HX := Lib.hid (HX.out.below hb)
      replace y0r := cell_below hb y0r
      replace y1r := cell_below hb y1r
      replace y2r := cell_below hb y2r
      replace y3r := cell_below hb y3r
      clear hb Hc HB32 hc HX
      have Hc := Lib.hid (knowingS ⟨L, R, A, ca, B, cb, l, t⟩ k w33 HA.out HV.out hkl HFR.out)
      try dsimp only at Hc
      go_wp2_with fail
      refine Hc.out.mono ?_
      rintro e w34 ⟨v, rfl, ⟨Gx, cx, rfl, hx⟩, hb⟩
      have HB34 := Lib.hid (below_trans' HB33.out hb)
      replace HA := Lib.hid (HA.out.below hb)
      replace y0r := cell_below hb y0r
      replace y1r := cell_below hb y1r
      replace y2r := cell_below hb y2r
      replace y3r := cell_below hb y3r
      clear hb Hc HB33 
      have HX := Lib.hid hx
      clear hx
      try dsimp only at HX
      try dsimp only
      have Hc := Lib.hid (greatestS ⟨L, R, A, ca, Gx, cx, l, yesT t k⟩ w34 HX.out HYS.out)
      try dsimp only at Hc
      go_wp2_with fail
      refine Hc.out.mono ?_
      rintro e w35 ⟨v, rfl, ⟨Ga, ga, ja, rfl, hg, hgc, hgj, hgl⟩, hb⟩
      have HB35 := Lib.hid (below_trans' HB34.out hb)
      replace HA := Lib.hid (HA.out.below hb)
      replace HX := Lib.hid (HX.out.below hb)
      replace y0r := cell_below hb y0r
      replace y1r := cell_below hb y1r
      replace y2r := cell_below hb y2r
      replace y3r := cell_below hb y3r
      clear hb Hc HB34 
      try dsimp only at hgl
      have hlen := HV.out.yes_len hkl HK0.out HFR.out
      have hjj : ja.length = j.length := by
        rw [HGL.out, hgl]
        have e1 : mostS (yesS ⟨L, R, A, ca, B, cb, l, t⟩ k) = mostS ⟨L, R, A, ca, Gx, cx, l, yesT t k⟩ := rfl
        have e2 : (yesS ⟨L, R, A, ca, B, cb, l, t⟩ k).t = yesT t k := rfl
        rw [e1, e2] at hlen
        dsimp only at hlen
        omega
      have HJJ := Lib.hid hjj
      rw [hjj]
      obtain ⟨hja, hka⟩ := IsJ.of_yes (s := ⟨L, R, A, ca, B, cb, l, t⟩) (k := k) (j := ja) ⟨hgj.rise, hgj.bound, hgj.single, hgj.known⟩
      have HJA := Lib.hid hja
      have HKA : Hid (ja.contains (k : Int) = true) := Lib.hid (by simpa using hka)
      have H2 := Lib.hid hg
      clear hg hgj hgl hgc hlen hjj hja hka HX
      have Hc := Lib.hid (withoutS ⟨L, R, A, ca, B, cb, l, t⟩ k w35 HA.out HV.out)
      try dsimp only at Hc
      go_wp2_with fail
      refine Hc.out.mono ?_
      rintro e w36 ⟨v, rfl, ⟨Gy, cy, Gz, cz, rfl, hy⟩, hb⟩
      have HB36 := Lib.hid (below_trans' HB35.out hb)
      replace HA := Lib.hid (HA.out.below hb)
      replace H2 := Lib.hid (H2.out.below hb)
      replace y0r := cell_below hb y0r
      replace y1r := cell_below hb y1r
      replace y2r := cell_below hb y2r
      replace y3r := cell_below hb y3r
      clear hb Hc HB35 
      have HY := Lib.hid hy
      clear hy
      try dsimp only at HY
      try dsimp only
      have Hc := Lib.hid (greatestS ⟨L, R, Gy, cy, Gz, cz, l.eraseIdx k, noT t k⟩ w36 HY.out HYN.out)
      try dsimp only at Hc
      go_wp2_with fail
      refine Hc.out.mono ?_
      rintro e w37 ⟨v, rfl, ⟨Gi, ci, ji, rfl, hg, hgc, hgj, hgl⟩, hb⟩
      have HB37 := Lib.hid (below_trans' HB36.out hb)
      replace HA := Lib.hid (HA.out.below hb)
      replace H2 := Lib.hid (H2.out.below hb)
      replace HY := Lib.hid (HY.out.below hb)
      replace y0r := cell_below hb y0r
      replace y1r := cell_below hb y1r
      replace y2r := cell_below hb y2r
      replace y3r := cell_below hb y3r
      clear hb Hc HB36 
      try dsimp only at hgl
      have hlen := Sheet.no_len (s := ⟨L, R, A, ca, B, cb, l, t⟩) HV.out hkl HNT.out HK1.out
      have hjj : ji.length = j.length := by
        rw [HGL.out, hgl]
        have e1 : mostS (noS ⟨L, R, A, ca, B, cb, l, t⟩ k) = mostS ⟨L, R, Gy, cy, Gz, cz, l.eraseIdx k, noT t k⟩ := rfl
        have e2 : (noS ⟨L, R, A, ca, B, cb, l, t⟩ k).t = noT t k := rfl
        rw [e1, e2] at hlen
        dsimp only at hlen
        omega
      rw [hjj]
      clear hg hgj hgl hgc hlen hjj HY
      have hc := inS Ga ga ja k w37 H2.out (by rw [HJJ.out]; omega)
      rw [HKA.out, HJJ.out] at hc
      have Hc := Lib.hid (hc)
      try dsimp only at Hc
      go_wp2_with fail
      refine Hc.out.mono ?_
      rintro e w38 ⟨v, rfl, rfl, hb⟩
      have HB38 := Lib.hid (below_trans' HB37.out hb)
      replace HA := Lib.hid (HA.out.below hb)
      replace H2 := Lib.hid (H2.out.below hb)
      replace y0r := cell_below hb y0r
      replace y1r := cell_below hb y1r
      replace y2r := cell_below hb y2r
      replace y3r := cell_below hb y3r
      clear hb Hc HB37 hc
      have hc := refCheckJoiningS ⟨L, R, A, ca, B, cb, l, t⟩ Ga ga ja w38 HA.out H2.out (by rw [HJJ.out]; omega)
      try dsimp only at hc
      rw [show joinErr L R l t ja = 0 from joinErr_of (s := ⟨L, R, A, ca, B, cb, l, t⟩) HV.out HJA.out, HJJ.out] at hc
      have Hc := Lib.hid (hc)
      try dsimp only at Hc
      go_wp2_with fail
      refine Hc.out.mono ?_
      rintro e w39 ⟨v, rfl, rfl, hb⟩
      have HB39 := Lib.hid (below_trans' HB38.out hb)
      replace HA := Lib.hid (HA.out.below hb)
      replace H2 := Lib.hid (H2.out.below hb)
      replace y0r := cell_below hb y0r
      replace y1r := cell_below hb y1r
      replace y2r := cell_below hb y2r
      replace y3r := cell_below hb y3r
      clear hb Hc HB38 hc
      go_wp2_with fail
      refine (works_any _).mono ?_
      rintro e wz ⟨v, rfl, rfl, hBz⟩
      go_wp2
      go_ret
      exact Ret.mk' rfl ⟨rfl, below_trans' HB39.out hBz⟩
end Go.Proofs.Ytoogfdicmpkkgaa
