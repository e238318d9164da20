/- most. -/
import Derived.Test.YtkjmeeggjmeajaaM1
namespace Go.Proofs.Ytkjmeeggjmeajaa
open Go.RowKit Go.Shelf
attribute [local go_sem] Oper.semAt_some

set_option maxRecDepth 100000 in
set_option maxHeartbeats 4000000 in
theorem most_any (sb : Nat) (ts : List Tone) (steps : Nat) (w : World) (hs : SongOf w.heap.size w sb ts) (hlen : ts.length ≤ 24) (hsteps : steps ≤ 24) (hord : ByHi ts) (hin : ∀ t ∈ ts, 0 ≤ t.2.1 ∧ t.2.1 ≤ 10000) :
    Calls Try.prog 52 #[.pointer (some ⟨sb, 0, none⟩), .int .i64 steps] w (Ret fun v w' => (∃ B c, v = .tuple #[.slice B (outT ts steps (-1)).length c, .int .i64 (bestT ts steps (-1)).1] ∧ IntsAt w' B (outT ts steps (-1))) ∧ Below w.heap.size w w') := by
  refine calls_of_wp_marks Try.func52 rfl ?_
  simp only [Try.ntmps52, List.size_toArray, List.length_cons, List.length_nil, Nat.reduceAdd, Nat.reduceSub, Array.replicate_succ, Array.replicate_zero, List.push_toArray, List.append_toArray, List.nil_append, List.cons_append]
  have Hs := Lib.hid hs; clear hs
  have Hord := Lib.hid hord; clear hord
  have Hin := Lib.hid hin; clear hin
  have hmm := @run_makeMap Try.prog
  go_wp2_with fail
  refine (tones_any _ _ ⟨_, rfl⟩).mono ?_
  rintro e w1 ⟨v, rfl, rfl, rfl⟩
  go_wp2_with fail
  clear hmm
  have b0 : (w.alloc (.map #[] 0)).heap[w.heap.size]? = some (.map #[] 0) := heap_alloc_new w (.map #[] 0)
  have b1 := heap_alloc_at (w.alloc (.map #[] 0)) (.cells #[.int .i64 (-1)] 2) (n := w.heap.size + 1) (by simp)
  have b2 := heap_alloc_at ((w.alloc (.map #[] 0)).alloc (.cells #[.int .i64 (-1)] 2)) (.cells #[.slice (some ⟨w.heap.size + 1, 0, none⟩) 1 1] 23) (n := w.heap.size + 1 + 1) (by simp)
  have b3 := heap_alloc_at (((w.alloc (.map #[] 0)).alloc (.cells #[.int .i64 (-1)] 2)).alloc (.cells #[.slice (some ⟨w.heap.size + 1, 0, none⟩) 1 1] 23)) (.cells #[.pointer (some ⟨sb, 0, none⟩)] 71) (n := w.heap.size + 1 + 1 + 1) (by simp)
  have hm0 := (((MapIs.made w).alloc (.cells #[.int .i64 (-1)] 2)).alloc (.cells #[.slice (some ⟨w.heap.size + 1, 0, none⟩) 1 1] 23)).alloc (.cells #[.pointer (some ⟨sb, 0, none⟩)] 71)
  replace b2 := blk_alloc b2 (.cells #[.pointer (some ⟨sb, 0, none⟩)] 71)
  replace b1 := blk_alloc (blk_alloc b1 (.cells #[.slice (some ⟨w.heap.size + 1, 0, none⟩) 1 1] 23)) (.cells #[.pointer (some ⟨sb, 0, none⟩)] 71)
  have hB0 := below_alloc' (below_alloc' (below_alloc' (below_alloc' (Below.refl w.heap.size w) (.map #[] 0)) (.cells #[.int .i64 (-1)] 2)) (.cells #[.slice (some ⟨w.heap.size + 1, 0, none⟩) 1 1] 23)) (.cells #[.pointer (some ⟨sb, 0, none⟩)] 71)
  obtain ⟨wl, hwl⟩ : ∃ wl, (((w.alloc (.map #[] 0)).alloc (.cells #[.int .i64 (-1)] 2)).alloc (.cells #[.slice (some ⟨w.heap.size + 1, 0, none⟩) 1 1] 23)).alloc (.cells #[.pointer (some ⟨sb, 0, none⟩)] 71) = wl := ⟨_, rfl⟩
  rw [hwl] at b1 b2 b3 hB0 hm0 ⊢
  have hsz : wl.heap.size = w.heap.size + 1 + 1 + 1 + 1 := by rw [← hwl]; simp
  clear hwl b0
  have hrow0 : wl.ownsRow (w.heap.size + 1) 2 1 (.slice (some ⟨w.heap.size + 1, 0, none⟩) 1 1) 1 [.int .i64 (-1)] :=
    ⟨rfl, .inr ⟨w.heap.size + 1, 1, #[.int .i64 (-1)], rfl, Nat.le_refl _, b1, Nat.le_refl _, by unfold maxLen; omega, rfl, rfl⟩⟩
  have Hsz := Lib.hid hsz; clear hsz
  have HB0 := Lib.hid hB0; clear hB0
  have Hm0 := Lib.hid hm0; clear hm0
  have Hrow0 := Lib.hid hrow0; clear hrow0 b1
  refine wp_range1 (gf := 73) (lb := #[.pointer (some ⟨w.heap.size + 1 + 1 + 1, 0, none⟩)]) (q := 8) (xs := ts) rfl enters73 (fun x : Tone => #[.int .i64 x.1, .int .i64 x.2.1, .int .i64 x.2.2]) 95 w.heap.size (w.heap.size + 1 + 1 + 1) HB0.out.size (by rw [Hsz.out]; omega)
    (tones_stops 9 (by omega) _ _ sb ts (by omega) wl HB0.out.size (by rw [Hsz.out]; omega) ((blk_cell b3).trans rfl) (Hs.out.below HB0.out))
    (EndsI w.heap.size w wl) (fun _ _ _ => False) ?hI ?hX ?h0 ?hsz ?assign ?body ?done ?stop
  case hI =>
    rintro pre W W' row ⟨v, hm, k2, ho, hB, hz, hk⟩ hg hr
    exact ⟨v, hm.kept hg (fun e => by have := (hr _ e.symm).1; rw [Hsz.out] at this; omega), blk_own k2 hg hr, row_own ho hg hr, below_own hB HB0.out.size (Nat.le_refl _) hg hr, Nat.le_trans hz hg.size,
      fun b hb => (hg.block b (hk.lt HB0.out.size (by rw [Hsz.out]; omega) hb) (fun e => by have := (hr b e.symm).1; rw [Hsz.out] at this; omega)).trans (hk b hb)⟩
  case hX => exact fun _ _ _ _ _ h => h.elim
  case h0 => exact ⟨_, Hm0.out, b2, Hrow0.out, HB0.out, Nat.le_refl _, KeepB.refl _ _ _⟩
  case hsz => rintro pre W ⟨v, hm, k2, ho, hB, hz, hk⟩; exact hz
  case assign =>
    intro l x W K hW hK
    obtain ⟨x1, x2, x3⟩ := x
    clear b2 b3
    dsimp only [vT] at hK ⊢
    have HK := Lib.hid hK; clear hK
    gi_wp2
    exact HK.out
  case body =>
    rintro l pre x Bx W hBx hb ⟨v, hm, k2, ho, hB, hz, hk⟩ hlt
    obtain ⟨x1, x2, x3⟩ := x
    have B3 := Lib.hid b3
    clear b2 b3
    dsimp only at hb hBx
    obtain ⟨zs, hzs⟩ : ∃ zs, zs = (-1) :: pre.map (·.2.1) := ⟨_, rfl⟩
    rw [← hzs] at ho
    have hzl : zs.length ≤ 100000 := by rw [hzs]; simp; omega
    have q2 : W.cell? ⟨Bx, 1, none⟩ = some (.int .i64 x2) := (blk_cell hb).trans rfl
    have p7 : W.cell? ⟨w.heap.size + 1 + 1, 0, none⟩ = some v := (blk_cell k2).trans rfl
    have f7 : W.frozen? ⟨w.heap.size + 1 + 1, 0, none⟩ = false := blk_frozen k2
    have Hm := Lib.hid hm
    have Hb := Lib.hid hb
    have K2 := Lib.hid k2
    have Ho := Lib.hid ho
    have HB := Lib.hid hB
    have Hk := Lib.hid hk
    have Hz := Lib.hid hz
    have Hzs := Lib.hid hzs
    have NE := Lib.hid (own_ne_kind ho k2 (by decide))
    clear hm hb k2 ho hB hk hz hzs
    dsimp only [vT]
    gi_wp2_with (gi_at_builtin; refine wpListIn_push _ rfl (.tmp 26) (.tmp 30) _ rfl elemI2 encI_len oneI Try.underlying23 (w.heap.size + 1) v zs rfl (Ho.out.alloc _) hzl _ W.heap.size rfl _ (by rfl) _ _ (heap_alloc_new _ _) (by have := Hz.out; have := Hsz.out; simp; omega) ?_; intro g cap W1 hown1 hg1; have r1 := (blk_cell (i := 0) (blk_grown hg1 (blk_alloc K2.out _) NE.out)).trans rfl; have r2 := blk_frozen (i := 0) (blk_grown hg1 (blk_alloc K2.out _) NE.out); have G1 := Lib.hid hg1; have HO1 := Lib.hid hown1; clear hg1 hown1)
    have HM2 := Lib.hid (Hm.out.obj)
    have N3 := own_ne_kind Ho.out ((Hk.out _ (.inr rfl)).trans B3.out) (by decide)
    have hs1 : w.heap.size ≤ W.heap.size := by have := Hz.out; have := Hsz.out; omega
    have hs2 : w.heap.size + 1 + 1 + 1 < W.heap.size := by have := Hz.out; have := Hsz.out; omega
    have S1 := (((Stp.refl wl.heap.size w.heap.size (w.heap.size + 1 + 1 + 1) W).alloc (.cells #[.int .i64 x2] 2) hs1 hs2).grown G1.out (fun r e => ⟨by have := own_base Ho.out r e; omega, fun e' => N3 (by rw [← e']; exact e.symm), own_cells (Ho.out.alloc _) r e⟩) hs1 hs2).setCell (p := ⟨w.heap.size + 1 + 1, 0, none⟩) (by simp; omega) (by simp) (.slice (some ⟨g, 0, none⟩) (zs.length + 1) cap)
    have B1 := below_push (i := 0) (b0 := w.heap.size + 1 + 1) HB.out (Nat.le_refl _) Ho.out G1.out (by omega) (by omega) (.slice (some ⟨g, 0, none⟩) (zs.length + 1) cap)
    have K3 := blk_grown G1.out (blk_alloc K2.out _) NE.out
    have hzs2 : ((-1) :: (pre ++ [(x1, x2, x3)]).map (·.2.1) : List Int) = zs ++ [x2] := by rw [Hzs.out]; simp
    refine ⟨S1.kf, S1.kb, .slice (some ⟨g, 0, none⟩) (zs.length + 1) cap, ?_, blk_set K3 _, ?_, B1, Nat.le_trans Hz.out S1.kf.size, Hk.out.trans S1.kb⟩
    · refine MapIs.setCell ?_ (by simp; omega) _
      obtain ⟨o, h1, h2, _⟩ := HM2.out
      exact (Hm.out.alloc _).kept G1.out (own_ne_map Ho.out h1 h2)
    · rw [hzs2, len_snoc]; exact own_setCell_kind HO1.out K3 (by decide) _ _
  case done =>
    rintro D W hD ⟨v, hm, k2, ho, hB, hz, hk⟩ hK
    clear b2 b3 hz hk
    obtain ⟨zs, hzs⟩ : ∃ zs, zs = (-1) :: ts.map (·.2.1) := ⟨_, rfl⟩
    rw [← hzs] at ho
    have hzl : zs.length ≤ 25 := by rw [hzs]; simp; omega
    have hzp : 0 < zs.length := by rw [hzs]; simp
    obtain ⟨g, cap, rfl, _⟩ := ho.form hzp
    have NE := Lib.hid (own_ne_kind ho k2 (by decide))
    have NM : Hid (∃ o, W.heap[w.heap.size]? = some o ∧ o.isCells = false ∧ ∀ k, o ≠ .deferred k) := Lib.hid hm.obj
    have NM2 := Lib.hid (own_ne_map ho (NM.out.choose_spec.1) (NM.out.choose_spec.2.1))
    have ND := Lib.hid (own_ne_map ho hK rfl)
    have p7 : W.cell? ⟨w.heap.size + 1 + 1, 0, none⟩ = some (.slice (some ⟨g, 0, none⟩) zs.length cap) := (blk_cell k2).trans rfl
    have f7 : W.frozen? ⟨w.heap.size + 1 + 1, 0, none⟩ = false := blk_frozen k2
    have Hm := Lib.hid hm
    have K2 := Lib.hid k2
    have Ho := Lib.hid ho
    have HB := Lib.hid hB
    have HK := Lib.hid hK
    have Hzs := Lib.hid hzs
    have hgb := own_base ho g rfl
    clear hm k2 ho hB hK hzs
    go_wp2_with fail
    refine (compact_any (w.heap.size + 1) g cap zs W Ho.out (by omega)).mono ?_
    rintro e w1 ⟨v, rfl, rfl, ho1, hg1⟩
    have HG1 := Lib.hid hg1
    have Ho1 := Lib.hid ho1
    clear hg1 ho1
    have p7 : w1.cell? ⟨w.heap.size + 1 + 1, 0, none⟩ = some (.slice (some ⟨g, 0, none⟩) zs.length cap) := (blk_cell (blk_grown HG1.out K2.out NE.out)).trans rfl
    have f7 : w1.frozen? ⟨w.heap.size + 1 + 1, 0, none⟩ = false := blk_frozen (blk_grown HG1.out K2.out NE.out)
    generalize hds : dedup zs = ds at Ho1
    have Hds := Lib.hid hds
    have hdl : ds.length ≤ 25 := by rw [← hds]; have := dedup_len zs; omega
    clear hds
    have q7 : (w1.setCell ⟨w.heap.size + 1 + 1, 0, none⟩ (.slice (some ⟨g, 0, none⟩) ds.length cap)).cell? ⟨w.heap.size + 1 + 1, 0, none⟩ = some (.slice (some ⟨g, 0, none⟩) ds.length cap) := (blk_cell (blk_set (blk_grown HG1.out K2.out NE.out) _)).trans rfl
    go_wp2_with fail
    obtain ⟨w2, hw2⟩ : ∃ w2, w2 = w1.setCell ⟨w.heap.size + 1 + 1, 0, none⟩ (.slice (some ⟨g, 0, none⟩) ds.length cap) := ⟨_, rfl⟩
    have Ho2 : Hid (w2.ownsRow (w.heap.size + 1) 2 1 (.slice (some ⟨g, 0, none⟩) ds.length cap) ds.length (ds.flatMap encI)) := Lib.hid (by rw [hw2]; exact own_setCell_kind Ho1.out (blk_grown HG1.out K2.out NE.out) (by decide) _ _)
    have HB2 : Hid (Below w.heap.size w w2) := Lib.hid (by rw [hw2]; exact (HB.out.grown HG1.out HB.out.size (fun k e => by cases e; omega)).setCell (by simp; omega) _)
    have K22 : Hid (w2.heap[w.heap.size + 1 + 1]? = some (.cells #[.slice (some ⟨g, 0, none⟩) ds.length cap] 23 (0, 0))) := Lib.hid (by rw [hw2]; exact blk_set (blk_grown HG1.out K2.out NE.out) _)
    have Hm2 : Hid (MapIs w2 w.heap.size 0 (fun _ => (0, 0))) := Lib.hid (by rw [hw2]; exact (Hm.out.kept HG1.out NM2.out).setCell (by simp; omega) _)
    have HD2 : Hid (w2.heap[D]? = some (.deferred (some []))) := Lib.hid (by
      rw [hw2]; refine blk_far (blk_grown HG1.out HK.out ND.out) ?_ _
      intro e
      have h1 := HK.out
      rw [show D = w.heap.size + 1 + 1 from e, K2.out] at h1
      cases h1)
    rw [← hw2]
    clear hw2 p7 f7 q7 Ho1 HG1 Hm K2 Ho HB HK NM
    have NE2 := Lib.hid (own_ne_kind Ho2.out K22.out (by decide))
    have ND2 := Lib.hid (own_ne_map Ho2.out HD2.out rfl)
    refine (rev_any (w.heap.size + 1) g cap ds w2 Ho2.out (by omega)).mono ?_
    rintro e w3 ⟨v, rfl, ho3, hg3⟩
    have HE : Hid (ds.reverse = endsOf ts) := Lib.hid (by unfold endsOf; rw [← Hds.out, Hzs.out])
    generalize hE : ds.reverse = E at ho3 HE
    have hEl : E.length = ds.length := by rw [← hE, List.length_reverse]
    have HEl := Lib.hid hEl
    rw [← hEl] at ho3
    have Ho3 := Lib.hid ho3
    have HB3 : Hid (Below w.heap.size w w3) := Lib.hid (HB2.out.grown hg3 HB2.out.size (fun k e => by cases e; omega))
    have K23 : Hid (w3.heap[w.heap.size + 1 + 1]? = some (.cells #[.slice (some ⟨g, 0, none⟩) E.length cap] 23 (0, 0))) := Lib.hid (by rw [hEl]; exact blk_grown hg3 K22.out NE2.out)
    have Hm3 : Hid (MapIs w3 w.heap.size 0 (fun _ => (0, 0))) := Lib.hid (Hm2.out.kept hg3 NM2.out)
    have HD3 : Hid (w3.heap[D]? = some (.deferred (some []))) := Lib.hid (blk_grown hg3 HD2.out ND2.out)
    have HIE : Hid (IntsAt w3 (some ⟨g, 0, none⟩) E) := Lib.hid (RowsAt.of_own encI_len ho3)
    have hE25 : E.length ≤ 25 := by omega
    have HInE : Hid (∀ y ∈ E, -1 ≤ y ∧ y ≤ 10000) := Lib.hid (by rw [HE.out]; exact endsOf_inB Hord.out Hin.out)
    clear ho3 hg3 hE hEl Ho2 HB2 K22 Hm2 HD2 NE2 ND2 Hds hdl NE NM2 ND hzl hzp Hzs Hm0 Hrow0
    -- LOOPS
    have HMk : Hid (Marks w.heap.size w3 [D]) := Lib.hid ((Marks.nil _ _).cons (by have := Hsz.out; omega) HD3.out (by simp))
    go_wp2
    refine wp_loop (fun a W => MI1 w w3 sb steps g cap E ts a W) (fun a _ => mu1 steps a) ?start1 ?round1
    case start1 => unfold MI1; exact ⟨rfl, ⟨[D], rfl, HMk.out⟩, rfl, rfl, rfl, rfl, rfl, 0, 0, _, rfl, by omega, by omega, Hm3.out, fun j hj => by omega, World.grownBy.refl _ _⟩
    case round1 =>
      intro a Wa hI
      unfold MI1 at hI
      obtain ⟨h128, ⟨Da, hDs, hM⟩, e0, e1, e6, e7, e37, k, n, f, e38, hk, hn, hmap, hf, hg⟩ := hI
      obtain ⟨tm, df⟩ := a
      dsimp only at h128 hDs e0 e1 e6 e7 e37 e38
      subst hDs
      revert e0 e1 e6 e7 e37 e38
      revert h128
      revert tm
      refine all128 ?_
      intro ua0 ua1 ua2 ua3 ua4 ua5 ua6 ua7 ua8 ua9 ua10 ua11 ua12 ua13 ua14 ua15 ua16 ua17 ua18 ua19 ua20 ua21 ua22 ua23 ua24 ua25 ua26 ua27 ua28 ua29 ua30 ua31 ua32 ua33 ua34 ua35 ua36 ua37 ua38 ua39 ua40 ua41 ua42 ua43 ua44 ua45 ua46 ua47 ua48 ua49 ua50 ua51 ua52 ua53 ua54 ua55 ua56 ua57 ua58 ua59 ua60 ua61 ua62 ua63 ua64 ua65 ua66 ua67 ua68 ua69 ua70 ua71 ua72 ua73 ua74 ua75 ua76 ua77 ua78 ua79 ua80 ua81 ua82 ua83 ua84 ua85 ua86 ua87 ua88 ua89 ua90 ua91 ua92 ua93 ua94 ua95 ua96 ua97 ua98 ua99 ua100 ua101 ua102 ua103 ua104 ua105 ua106 ua107 ua108 ua109 ua110 ua111 ua112 ua113 ua114 ua115 ua116 ua117 ua118 ua119 ua120 ua121 ua122 ua123 ua124 ua125 ua126 ua127 e0 e1 e6 e7 e37 e38
      have e0' : ua0 = _ := e0
      have e1' : ua1 = _ := e1
      have e6' : ua6 = _ := e6
      have e7' : ua7 = _ := e7
      have e37' : ua37 = _ := e37
      have e38' : ua38 = _ := e38
      clear e0 e1 e6 e7 e37 e38
      subst e0' e1' e6' e7' e37' e38'
      have HM := Lib.hid hM
      have Hmap := Lib.hid hmap
      have Hf := Lib.hid hf
      have Hg := Lib.hid hg
      have Hn := Lib.hid hn
      clear hM hmap hf hg hn
      by_cases hks : k < steps + 1
      · have hk1 : (k : Int) < (steps : Int) + 1 := by omega
        have c7 : Wa.cell? ⟨w.heap.size + 1 + 1, 0, none⟩ = some (.slice (some ⟨g, 0, none⟩) E.length cap) := (blk_cell (blk_grown Hg.out K23.out (by simp; omega))).trans rfl
        go_wp2
        refine wp_loop (fun a W => MI2 w w3 sb steps g cap E ts k a W) (fun a _ => mu2 E a) ?start2 ?round2
        case start2 => unfold MI2; exact ⟨rfl, ⟨Da, rfl, HM.out⟩, rfl, rfl, rfl, rfl, rfl, rfl, rfl, rfl, rfl, 0, n, f, rfl, by omega, by have := Hn.out; omega, Hmap.out, Hf.out, by simp, Hg.out⟩
        case round2 =>
          clear HM Hmap Hf Hg Hn c7 HMk
          intro a Wb hI
          unfold MI2 at hI
          obtain ⟨h128, ⟨Db, hDs, hM⟩, e0, e1, e6, e7, e37, e38, e9, e41, e42, i, n, f, e43, hi, hn, hmap, hf, hfk, hg⟩ := hI
          obtain ⟨tm, df⟩ := a
          dsimp only at h128 hDs e0 e1 e6 e7 e37 e38 e9 e41 e42 e43
          subst hDs
          revert e0 e1 e6 e7 e37 e38 e9 e41 e42 e43
          revert h128
          revert tm
          refine all128 ?_
          intro ub0 ub1 ub2 ub3 ub4 ub5 ub6 ub7 ub8 ub9 ub10 ub11 ub12 ub13 ub14 ub15 ub16 ub17 ub18 ub19 ub20 ub21 ub22 ub23 ub24 ub25 ub26 ub27 ub28 ub29 ub30 ub31 ub32 ub33 ub34 ub35 ub36 ub37 ub38 ub39 ub40 ub41 ub42 ub43 ub44 ub45 ub46 ub47 ub48 ub49 ub50 ub51 ub52 ub53 ub54 ub55 ub56 ub57 ub58 ub59 ub60 ub61 ub62 ub63 ub64 ub65 ub66 ub67 ub68 ub69 ub70 ub71 ub72 ub73 ub74 ub75 ub76 ub77 ub78 ub79 ub80 ub81 ub82 ub83 ub84 ub85 ub86 ub87 ub88 ub89 ub90 ub91 ub92 ub93 ub94 ub95 ub96 ub97 ub98 ub99 ub100 ub101 ub102 ub103 ub104 ub105 ub106 ub107 ub108 ub109 ub110 ub111 ub112 ub113 ub114 ub115 ub116 ub117 ub118 ub119 ub120 ub121 ub122 ub123 ub124 ub125 ub126 ub127 e0 e1 e6 e7 e37 e38 e9 e41 e42 e43
          have e0' : ub0 = _ := e0
          have e1' : ub1 = _ := e1
          have e6' : ub6 = _ := e6
          have e7' : ub7 = _ := e7
          have e37' : ub37 = _ := e37
          have e38' : ub38 = _ := e38
          have e9' : ub9 = _ := e9
          have e41' : ub41 = _ := e41
          have e42' : ub42 = _ := e42
          have e43' : ub43 = _ := e43
          clear e0 e1 e6 e7 e37 e38 e9 e41 e42 e43
          subst e0' e1' e6' e7' e37' e38' e9' e41' e42' e43'
          have HM := Lib.hid hM
          have Hmap := Lib.hid hmap
          have Hf := Lib.hid hf
          have Hfk := Lib.hid hfk
          have Hg := Lib.hid hg
          have Hn := Lib.hid hn
          clear hM hmap hf hfk hg hn
          have K27 := Lib.hid (blk_grown Hg.out K23.out (by simp; omega))
          by_cases hiE : i < E.length
          · obtain ⟨b1, o1, hA, cE⟩ := IntsAt.at_ (RowsAt.grown HIE.out Hg.out (fun r e => by cases e; obtain ⟨o, h1, h2, _⟩ := Hm3.out.obj; exact ⟨o, h1, h2⟩)) hiE
            cases hA
            rw [Nat.zero_add] at cE
            have hxE := HInE.out _ (List.getElem_mem hiE)
            have htk := take_snoc hiE rfl
            generalize hx : E[i] = x at cE hxE htk
            have Hx := Lib.hid hx
            have Htk := Lib.hid htk
            clear hx htk
            have c7 : ((Wb.alloc (.cells #[.int .i64 x] 2)).alloc (.cells #[.int .i64 0, .int .i64 (-1)] 107)).cell? ⟨w.heap.size + 1 + 1, 0, none⟩ = some (.slice (some ⟨g, 0, none⟩) E.length cap) := (blk_cell (blk_alloc (blk_alloc K27.out _) _)).trans rfl
            go_wp2
            have e11 : ((Wb.alloc (.cells #[.int .i64 x] 2)).alloc (.cells #[.int .i64 0, .int .i64 (-1)] 107)).heap[Wb.heap.size]? = some (.cells #[.int .i64 x] 2 (0, 0)) := blk_alloc (heap_alloc_new _ _) _
            have e12 : ((Wb.alloc (.cells #[.int .i64 x] 2)).alloc (.cells #[.int .i64 0, .int .i64 (-1)] 107)).heap[Wb.heap.size + 1]? = some (.cells #[.int .i64 0, .int .i64 (-1)] 107 (0, 0)) := heap_alloc_at _ _ (by simp)
            have hB0' := below_alloc' (below_alloc' (Below.refl Wb.heap.size Wb) (.cells #[.int .i64 x] 2)) (.cells #[.int .i64 0, .int .i64 (-1)] 107)
            obtain ⟨V0, hV0⟩ : ∃ V0, (Wb.alloc (.cells #[.int .i64 x] 2)).alloc (.cells #[.int .i64 0, .int .i64 (-1)] 107) = V0 := ⟨_, rfl⟩
            rw [hV0] at e11 e12 hB0' ⊢
            clear hV0 c7
            have Hr12 : Hid (V0.ownsRow (Wb.heap.size + 1) 107 2 (.slice (some ⟨Wb.heap.size + 1, 0, none⟩) 1 1) 1 [.int .i64 0, .int .i64 (-1)]) := Lib.hid ⟨rfl, .inr ⟨Wb.heap.size + 1, 1, #[.int .i64 0, .int .i64 (-1)], rfl, Nat.le_refl _, e12, Nat.le_refl _, by unfold maxLen; omega, rfl, rfl⟩⟩
            have E11 := Lib.hid e11
            have HBV := Lib.hid hB0'
            clear e11 e12 hB0'
            refine wp_loop (fun a W => MI3 w w3 sb steps g cap E ts k i x Wb a W) (fun a _ => mu3 E a) ?start3 ?round3
            case start3 => unfold MI3; exact ⟨rfl, ⟨Db, rfl, HM.out.kept (fun D' h => blk_below HBV.out h)⟩, rfl, rfl, rfl, rfl, rfl, rfl, rfl, rfl, rfl, rfl, rfl, rfl, rfl, 0, _, [(0, -1)], rfl, rfl, by omega, by cases k <;> rfl, Hr12.out, E11.out, HBV.out⟩
            case round3 =>
              have HMb := Lib.hid HM.out
              clear HM E11 HBV Hr12
              intro a Wc hI
              unfold MI3 at hI
              obtain ⟨h128, ⟨Dc, hDs, hM⟩, e0, e1, e6, e7, e37, e38, e9, e41, e42, e43, e11, e49, e50, q, v, L, e51, e12, hq, hL, hrow, h11, hB⟩ := hI
              obtain ⟨tm, df⟩ := a
              dsimp only at h128 hDs e0 e1 e6 e7 e37 e38 e9 e41 e42 e43 e11 e49 e50 e51 e12
              subst hDs
              revert e0 e1 e6 e7 e37 e38 e9 e41 e42 e43 e11 e49 e50 e51 e12
              revert h128
              revert tm
              refine all128 ?_
              intro uc0 uc1 uc2 uc3 uc4 uc5 uc6 uc7 uc8 uc9 uc10 uc11 uc12 uc13 uc14 uc15 uc16 uc17 uc18 uc19 uc20 uc21 uc22 uc23 uc24 uc25 uc26 uc27 uc28 uc29 uc30 uc31 uc32 uc33 uc34 uc35 uc36 uc37 uc38 uc39 uc40 uc41 uc42 uc43 uc44 uc45 uc46 uc47 uc48 uc49 uc50 uc51 uc52 uc53 uc54 uc55 uc56 uc57 uc58 uc59 uc60 uc61 uc62 uc63 uc64 uc65 uc66 uc67 uc68 uc69 uc70 uc71 uc72 uc73 uc74 uc75 uc76 uc77 uc78 uc79 uc80 uc81 uc82 uc83 uc84 uc85 uc86 uc87 uc88 uc89 uc90 uc91 uc92 uc93 uc94 uc95 uc96 uc97 uc98 uc99 uc100 uc101 uc102 uc103 uc104 uc105 uc106 uc107 uc108 uc109 uc110 uc111 uc112 uc113 uc114 uc115 uc116 uc117 uc118 uc119 uc120 uc121 uc122 uc123 uc124 uc125 uc126 uc127 e0 e1 e6 e7 e37 e38 e9 e41 e42 e43 e11 e49 e50 e51 e12
              have e0' : uc0 = _ := e0
              have e1' : uc1 = _ := e1
              have e6' : uc6 = _ := e6
              have e7' : uc7 = _ := e7
              have e37' : uc37 = _ := e37
              have e38' : uc38 = _ := e38
              have e9' : uc9 = _ := e9
              have e41' : uc41 = _ := e41
              have e42' : uc42 = _ := e42
              have e43' : uc43 = _ := e43
              have e11' : uc11 = _ := e11
              have e49' : uc49 = _ := e49
              have e50' : uc50 = _ := e50
              have e51' : uc51 = _ := e51
              have e12' : uc12 = _ := e12
              clear e0 e1 e6 e7 e37 e38 e9 e41 e42 e43 e11 e49 e50 e51 e12
              subst e0' e1' e6' e7' e37' e38' e9' e41' e42' e43' e11' e49' e50' e51' e12'
              have HM := Lib.hid hM
              have HL := Lib.hid hL
              have Hrow := Lib.hid hrow
              have H11 := Lib.hid h11
              have HB := Lib.hid hB
              clear hM hL hrow h11 hB
              have c11 : Wc.cell? ⟨Wb.heap.size, 0, none⟩ = some (.int .i64 x) := (blk_cell H11.out).trans rfl
              by_cases hqE : q < E.length
              · obtain ⟨b2, o2, hA, cE2⟩ := IntsAt.at_ (((RowsAt.grown HIE.out Hg.out (fun r e => by cases e; obtain ⟨o, h1, h2, _⟩ := Hm3.out.obj; exact ⟨o, h1, h2⟩) : IntsAt Wb _ E)).below HB.out) hqE
                cases hA
                rw [Nat.zero_add] at cE2
                have hyE := HInE.out _ (List.getElem_mem hqE)
                have hyM : E[q] ∈ E := List.getElem_mem hqE
                have htkq := take_snoc hqE rfl
                generalize hy : E[q] = y at cE2 hyE htkq hyM
                have HyM := Lib.hid hyM
                have Htkq := Lib.hid htkq
                clear hy htkq hyM
                have c14 : (Wc.alloc (.cells #[.int .i64 y] 2)).cell? ⟨Wc.heap.size, 0, none⟩ = some (.int .i64 y) := new1_0 _ _ _
                have c11' : (Wc.alloc (.cells #[.int .i64 y] 2)).cell? ⟨Wb.heap.size, 0, none⟩ = some (.int .i64 x) := cell_alloc c11 _
                have hskip : (k = 0 ∨ ¬ x < y) ∨ (∃ j, k = j + 1 ∧ x < y) := by
                  rcases Nat.eq_zero_or_pos k with h | h
                  · exact .inl (.inl h)
                  · by_cases h2 : x < y
                    · exact .inr ⟨k - 1, by omega, h2⟩
                    · exact .inl (.inr h2)
                rcases hskip with hskip | ⟨j, hkj, hxy⟩
                · have HcT : Hid (candT ts k (E.take (q + 1)) x = candT ts k (E.take q) x) := Lib.hid (by
                    rw [Htkq.out]
                    rcases hskip with h | h
                    · subst h; rfl
                    · cases k with
                      | zero => rfl
                      | succ j => exact stepT_off h)
                  rcases hskip with hk0 | hyx
                  · have f0 : ((k : Int) == 0) = true := by simp; omega
                    go_wp2
                    refine ⟨?_, by show E.length - ((q : Int) + 1).toNat < E.length - ((q : Int)).toNat; omega⟩
                    unfold MI3
                    exact ⟨rfl, ⟨Dc, rfl, HM.out.kept (fun D' h => blk_alloc h _)⟩, rfl, rfl, rfl, rfl, rfl, rfl, rfl, rfl, rfl, rfl, rfl, rfl, rfl, q + 1, _, L, (by first | rfl | go_num), rfl, by omega, by rw [HcT.out]; exact HL.out, Hrow.out.alloc _, blk_alloc H11.out _, HB.out.alloc HB.out.size _⟩
                  · have f1 : decide (y ≤ x) = true := by simp; omega
                    by_cases hk0 : k = 0
                    · have f0 : ((k : Int) == 0) = true := by simp; omega
                      clear hk0
                      go_wp2
                      refine ⟨?_, by show E.length - ((q : Int) + 1).toNat < E.length - ((q : Int)).toNat; omega⟩
                      unfold MI3
                      exact ⟨rfl, ⟨Dc, rfl, HM.out.kept (fun D' h => blk_alloc h _)⟩, rfl, rfl, rfl, rfl, rfl, rfl, rfl, rfl, rfl, rfl, rfl, rfl, rfl, q + 1, _, L, (by first | rfl | go_num), rfl, by omega, by rw [HcT.out]; exact HL.out, Hrow.out.alloc _, blk_alloc H11.out _, HB.out.alloc HB.out.size _⟩
                    · have f0 : ((k : Int) == 0) = false := by simp; omega
                      go_wp2
                      refine ⟨?_, by show E.length - ((q : Int) + 1).toNat < E.length - ((q : Int)).toNat; omega⟩
                      unfold MI3
                      exact ⟨rfl, ⟨Dc, rfl, HM.out.kept (fun D' h => blk_alloc h _)⟩, rfl, rfl, rfl, rfl, rfl, rfl, rfl, rfl, rfl, rfl, rfl, rfl, rfl, q + 1, _, L, (by first | rfl | go_num), rfl, by omega, by rw [HcT.out]; exact HL.out, Hrow.out.alloc _, blk_alloc H11.out _, HB.out.alloc HB.out.size _⟩
                · have f0 : ((k : Int) == 0) = false := by simp; omega
                  have f1 : decide (y ≤ x) = false := by simp; omega
                  have f2 : IntKind.i64.wrap ((k : Int) - 1) = (j : Int) := by rw [show (k : Int) - 1 = j by omega]; exact IntWalk.i64_in _ (by omega)
                  have hMc : MapIs Wc w.heap.size n f := Hmap.out.kept (grown_of_below HB.out none) (by simp)
                  have hfy := Hf.out j (by omega) y HyM.out
                  have hbd := bestT_bound ts j y
                  have hok : okS (y, (j : Int)) := ⟨by unfold inB; omega, by unfold inB; omega⟩
                  have hlook := (hMc.alloc (.cells #[.int .i64 y] 2)).look hok
                  rw [hfy] at hlook
                  generalize hbp : bestT ts j y = p at hlook hbd
                  obtain ⟨p1, p2⟩ := p
                  have Hbp := Lib.hid hbp
                  dsimp only [vS, vR] at hlook hbd
                  have hp1 : 0 ≤ p1 ∧ p1 ≤ 1000 := ⟨hbd.1, by have h1 := hbd.2; have h2 : (j : Int) * (ts.length : Int) ≤ 24 * 24 := Int.mul_le_mul (by omega) (by omega) (by omega) (by omega); omega⟩
                  have hfld := fun W => field107_0 (.int .i64 p1) (.int .i64 p2) W
                  have HkJ := Lib.hid hkj
                  have Hxy := Lib.hid hxy
                  clear hMc hfy hbd hok hbp hkj hxy
                  go_wp2_with fail
                  refine (tones_any _ _ ⟨_, rfl⟩).mono ?_
                  rintro e w1 ⟨v, rfl, rfl, rfl⟩
                  go_wp2_with fail
                  clear hlook hfld c14 c11' f0 f1 f2
                  have b14 : (((Wc.alloc (.cells #[.int .i64 y] 2)).alloc (.cells #[.int .i64 p1] 3)).alloc (.cells #[.pointer (some ⟨sb, 0, none⟩)] 71)).heap[Wc.heap.size]? = some (.cells #[.int .i64 y] 2 (0, 0)) := blk_alloc (blk_alloc (heap_alloc_new _ _) _) _
                  have b15 : (((Wc.alloc (.cells #[.int .i64 y] 2)).alloc (.cells #[.int .i64 p1] 3)).alloc (.cells #[.pointer (some ⟨sb, 0, none⟩)] 71)).heap[Wc.heap.size + 1]? = some (.cells #[.int .i64 p1] 3 (0, 0)) := blk_alloc (heap_alloc_at _ _ (by simp)) _
                  have b16 : (((Wc.alloc (.cells #[.int .i64 y] 2)).alloc (.cells #[.int .i64 p1] 3)).alloc (.cells #[.pointer (some ⟨sb, 0, none⟩)] 71)).heap[Wc.heap.size + 1 + 1]? = some (.cells #[.pointer (some ⟨sb, 0, none⟩)] 71 (0, 0)) := heap_alloc_at _ _ (by simp)
                  have hBl := below_alloc' (below_alloc' (below_alloc' (Below.refl Wc.heap.size Wc) (.cells #[.int .i64 y] 2)) (.cells #[.int .i64 p1] 3)) (.cells #[.pointer (some ⟨sb, 0, none⟩)] 71)
                  obtain ⟨Vl, hVl⟩ : ∃ Vl, ((Wc.alloc (.cells #[.int .i64 y] 2)).alloc (.cells #[.int .i64 p1] 3)).alloc (.cells #[.pointer (some ⟨sb, 0, none⟩)] 71) = Vl := ⟨_, rfl⟩
                  have hVz : Vl.heap.size = Wc.heap.size + 1 + 1 + 1 := by rw [← hVl]; simp
                  rw [hVl] at b14 b15 b16 hBl ⊢
                  clear hVl
                  have Hvz := Lib.hid hVz
                  have HBl := Lib.hid hBl
                  have B14 := Lib.hid b14
                  have B15 := Lib.hid b15
                  have hcw : Below w.heap.size w Wc := (HB3.out.grown Hg.out HB3.out.size (fun k e => by cases e; exact Nat.le_refl _)).trans (HB.out.mono (Nat.le_trans HB3.out.size Hg.out.size))
                  have hSo : SongOf Wc.heap.size Vl sb ts := (SongOf.mono (Hs.out.below hcw) hcw.size).below HBl.out
                  have HSo := Lib.hid hSo
                  clear hVz hBl b14 b15 hcw hSo
                  refine wp_range1 (gf := 73) (lb := #[.pointer (some ⟨Wc.heap.size + 1 + 1, 0, none⟩)]) (q := 16) (xs := ts) rfl enters73 (fun x : Tone => #[.int .i64 x.1, .int .i64 x.2.1, .int .i64 x.2.2]) 95 Wc.heap.size (Wc.heap.size + 1 + 1) HBl.out.size (by rw [Hvz.out]; omega)
                    (tones_stops 9 (by omega) _ _ sb ts (by omega) Vl HBl.out.size (by rw [Hvz.out]; omega) ((blk_cell b16).trans rfl) HSo.out)
                    (CntI x y p1 Wc.heap.size Wc Vl) (fun _ _ _ => False) ?hI2 ?hX2 ?h02 ?hsz2 ?assign2 ?body2 ?done2 ?stop2
                  case hI2 =>
                    rintro pre W W' row ⟨k0, k1, hB, hz, hk⟩ hg hr
                    exact ⟨blk_own k0 hg hr, blk_own k1 hg hr, below_own hB HBl.out.size (Nat.le_refl _) hg hr, Nat.le_trans hz hg.size,
                      fun b hb => (hg.block b (hk.lt HBl.out.size (by rw [Hvz.out]; omega) hb) (fun e => by have := (hr b e.symm).1; rw [Hvz.out] at this; omega)).trans (hk b hb)⟩
                  case hX2 => exact fun _ _ _ _ _ h => h.elim
                  case h02 => exact ⟨B14.out, by rw [B15.out]; simp [cnt], HBl.out, Nat.le_refl _, KeepB.refl _ _ _⟩
                  case hsz2 => rintro pre W ⟨k0, k1, hB, hz, hk⟩; exact hz
                  case assign2 =>
                    intro l x' W K hW hK
                    obtain ⟨x1, x2, x3⟩ := x'
                    clear b16
                    dsimp only [vT] at hK ⊢
                    have HK := Lib.hid hK
                    clear hK
                    gi_wp2
                    exact HK.out
                  case body2 =>
                    rintro l pre t Bx W hBx hb ⟨k0, k1, hB, hz, hk⟩ hlt
                    obtain ⟨t1, t2, t3⟩ := t
                    clear b16
                    dsimp only at hb hBx
                    have r1 : W.cell? ⟨Bx, 0, none⟩ = some (.int .i64 t1) := (blk_cell hb).trans rfl
                    have r2 : W.cell? ⟨Bx, 1, none⟩ = some (.int .i64 t2) := (blk_cell hb).trans rfl
                    have r3 : W.cell? ⟨Bx, 2, none⟩ = some (.int .i64 t3) := (blk_cell hb).trans rfl
                    have r14 : W.cell? ⟨Wc.heap.size, 0, none⟩ = some (.int .i64 y) := (blk_cell k0).trans rfl
                    have r11 : W.cell? ⟨Wb.heap.size, 0, none⟩ = some (.int .i64 x) := cell_below hB c11
                    have hcl : cnt pre x y ≤ 24 := Nat.le_trans (cnt_le pre x y) (by omega)
                    have Hb := Lib.hid hb
                    have K0 := Lib.hid k0
                    have K1 := Lib.hid k1
                    have HBB := Lib.hid hB
                    have Hk := Lib.hid hk
                    have Hz := Lib.hid hz
                    clear hb k0 k1 hB hk hz c11
                    dsimp only [vT]
                    by_cases hxt : x < t1
                    · have f3 : decide (x < t1) = true := by simpa using hxt
                      gi_wp2_with fail
                      refine ⟨trivial, ?_⟩
                      refine (CallsIn.inRound l (callsIn_wide.2 (on_any (t1, t2, t3) y W))).mono ?_
                      rintro e W1 ⟨v, rfl, rfl, hB1⟩
                      have HB1 := Lib.hid hB1
                      clear hB1
                      have S1 := Lib.hid ((Stp.refl Vl.heap.size Wc.heap.size (Wc.heap.size + 1 + 1) W).below HB1.out (by have := Hz.out; have := Hvz.out; omega) (by have := Hz.out; have := Hvz.out; omega))
                      have M1 := Lib.hid (blk_below HB1.out K1.out)
                      generalize hq : onT (t1, t2, t3) y = qq
                      have Hq := Lib.hid hq
                      clear hq
                      cases qq
                      · gi_wp2
                        exact ⟨S1.out.kf, S1.out.kb, blk_below HB1.out K0.out, by rw [cnt_snoc_off2 Hq.out]; exact M1.out, below_trans' HBB.out HB1.out, Nat.le_trans Hz.out HB1.out.size, Hk.out.trans S1.out.kb⟩
                      · have r15 : W1.cell? ⟨Wc.heap.size + 1, 0, none⟩ = some (.int .i64 (p1 + cnt pre x y)) := (blk_cell M1.out).trans rfl
                        have r16 : W1.frozen? ⟨Wc.heap.size + 1, 0, none⟩ = false := blk_frozen M1.out
                        have f4 : IntKind.i64.wrap (p1 + (cnt pre x y : Int) + 1) = p1 + (cnt pre x y : Int) + 1 := IntWalk.i64_in _ (by omega)
                        gi_wp2
                        have S2 := S1.out.setCell (p := ⟨Wc.heap.size + 1, 0, none⟩) (by simp) (by simp) (.int .i64 (p1 + (cnt pre x y : Int) + 1))
                        exact ⟨S2.kf, S2.kb, blk_far (blk_below HB1.out K0.out) (by simp) _, by rw [cnt_snoc_on hxt Hq.out, Int.natCast_add, ← Int.add_assoc]; exact blk_set M1.out _, (below_trans' HBB.out HB1.out).setCell (by simp) _, Nat.le_trans Hz.out S2.kf.size, Hk.out.trans S2.kb⟩
                    · have f3 : decide (x < t1) = false := by simpa using hxt
                      gi_wp2
                      refine ⟨trivial, ?_⟩
                      gi_wp2
                      exact ⟨KeepsFrom.refl _ _, KeepB.refl _ _ _, K0.out, by rw [cnt_snoc_off1 (by dsimp only; omega)]; exact K1.out, HBB.out, Hz.out, Hk.out⟩
                  case done2 =>
                    rintro D' V hD ⟨k0, k1, hB, hz, hk⟩ hK
                    clear b16 hk hz
                    have r14 : V.cell? ⟨Wc.heap.size, 0, none⟩ = some (.int .i64 y) := (blk_cell k0).trans rfl
                    have r15 : V.cell? ⟨Wc.heap.size + 1, 0, none⟩ = some (.int .i64 (p1 + cnt ts x y)) := (blk_cell k1).trans rfl
                    generalize hcn : p1 + (cnt ts x y : Int) = c at r15
                    have Hcn := Lib.hid hcn
                    have HBB := Lib.hid hB
                    have HK := Lib.hid hK
                    have HrV := Lib.hid (own_below Hrow.out hB)
                    have hLl : L.length ≤ 100000 := by rw [HL.out]; have := candT_len ts k (E.take q) x; simp at this ⊢; omega
                    have hzV := hB.size
                    have hzW := HB.out.size
                    have hDc : Hid (D' ∉ Dc) := Lib.hid (fun h => by have := blk_lt (HM.out.2 D' h).2; have := Hvz.out; omega)
                    have hwD : Hid (w.heap.size ≤ D') := Lib.hid (by have := HB3.out.size; have := Hg.out.size; have := Hvz.out; omega)
                    clear k0 k1 hB hK hcn c11
                    go_wp2_with (at_builtin; refine wpList_push _ rfl (.tmp 84) (.tmp 88) _ rfl elemB encR_len oneR Try.underlying108 (Wb.heap.size + 1) uc12 L rfl (HrV.out.alloc _) hLl (c, y) V.heap.size rfl _ (by rfl) _ _ (heap_alloc_new _ _) (by simp; omega) ?_; intro g2 cap2 W5 hown5 hg5; have HO5 := Lib.hid hown5; have HG5 := Lib.hid hg5; clear hown5 hg5)
                    refine ⟨?_, by show E.length - ((q : Int) + 1).toNat < E.length - ((q : Int)).toNat; omega⟩
                    unfold MI3
                    have hne11 := own_ne_kind HrV.out (blk_below HBB.out H11.out) (by decide)
                    have hMV : Marks w.heap.size V (D' :: Dc) := (HM.out.kept (fun D2 h => blk_below HBB.out h)).cons hwD.out HK.out hDc.out
                    refine ⟨rfl, ⟨D' :: Dc, rfl, hMV.kept (fun D2 h => blk_grown HG5.out (blk_alloc h _) (own_ne_map HrV.out h rfl))⟩, rfl, rfl, rfl, rfl, rfl, rfl, rfl, rfl, rfl, rfl, rfl, rfl, rfl, q + 1, .slice (some ⟨g2, 0, none⟩) (L.length + 1) cap2, L ++ [(c, y)], (by first | rfl | go_num), rfl, by omega, ?_, by rw [len_snoc]; exact HO5.out, blk_grown HG5.out (blk_alloc (blk_below HBB.out H11.out) _) hne11, ?_⟩
                    · rw [HL.out, Htkq.out, ← Hcn.out]
                      obtain rfl := HkJ.out
                      show (0, -1) :: stepT ts (bestT ts j) (E.take q) x ++ _ = (0, -1) :: stepT ts (bestT ts j) (E.take q ++ [y]) x
                      rw [stepT_on Hxy.out, Hbp.out]; rfl
                    · exact ((HB.out.trans (HBB.out.mono HB.out.size)).alloc (Nat.le_trans HB.out.size HBB.out.size) _).grown HG5.out (by simp; omega) (fun r e => by have := own_base HrV.out r e; omega)
                  case stop2 => exact fun _ _ _ _ _ _ h _ => h.elim
              · have hqe : q = E.length := by omega
                subst hqe
                obtain ⟨g3, cap3, hv3, _⟩ := Hrow.out.form (by rw [HL.out]; simp)
                have hcap3 := own_form Hrow.out
                obtain rfl := hv3
                have hc3 : L.length ≤ cap3 := by obtain ⟨A', c', e, h⟩ := hcap3; injection e with _ _ e; omega
                clear hcap3
                have HR : Hid (RowsAt encR 2 Wc (some ⟨g3, 0, none⟩) L) := Lib.hid (RowsAt.of_own encR_len Hrow.out)
                obtain ⟨M, hM⟩ : ∃ M, M = candT ts k E x := ⟨_, rfl⟩
                have hLM : L = (0, -1) :: M := by rw [HL.out, hM, List.take_length]
                have hMl : M.length ≤ 25 := by rw [hM]; have := candT_len ts k E x; omega
                have hbest : grB (0, -1) M = bestT ts k x := by rw [bestT_cand, hM, HE.out]
                subst hLM
                have hgr := fun W (h : RowsAt encR 2 W (some ⟨g3, 0, none⟩) ((0, -1) :: M)) => greatest_any (some ⟨g3, 0, none⟩) cap3 (0, -1) M W h (by omega) (by simpa using hc3)
                rw [hbest] at hgr
                have Hbest := Lib.hid hbest
                have HMd := Lib.hid hM
                have Hcap3 := Lib.hid hc3
                clear hbest hM hc3 HL
                generalize hbp : bestT ts k x = p at Hbest hgr
                obtain ⟨p1, p2⟩ := p
                have Hbp := Lib.hid hbp
                clear hbp
                dsimp only [vR] at hgr
                have HGr := Lib.hid hgr
                clear hgr
                have hMc := Lib.hid ((Hmap.out.kept (grown_of_below HB.out none) (by simp) : MapIs Wc w.heap.size n f))
                have hok : okS (x, (k : Int)) := ⟨by unfold inB; omega, by unfold inB; omega⟩
                have Hok := Lib.hid hok
                clear hok
                have eg := enters68
                have hMlen : ((0, -1) :: M : List Rg).length = M.length + 1 := rfl
                rw [hMlen]
                go_wp2
                have hneb : Wb.heap.size ≠ w.heap.size := by have := Hm3.out.lt; have := Hg.out.size; omega
                have hnb : n ≤ 1000000 := by have := Hn.out; omega
                go_region_held3 (fun W => W.cell? ⟨Wb.heap.size, 0, none⟩ = some (.int .i64 x)) (first | exact c11 | exact cell_below hBx c11 | exact World.grownBy.cell hgu (cell_below hBx c11) (fun e => hneb (Option.some.inj e))) (first | (go_at_call 67; refine (HGr.out _ (by exact HR.out)).mono ?_; rintro e wx ⟨v, rfl, rfl, hBx⟩; obtain ⟨wu, hrun, hmu, hgu⟩ := (hMc.out.kept (grown_below (grown_drew (World.grownBy.refl Wc none)) hBx) (by simp)).upd Hok.out (p1, p2) hnb; dsimp only [vS, vR] at hrun))
                have HBx := Lib.hid hBx
                have Hmu := Lib.hid hmu
                have Hgu := Lib.hid hgu
                clear hBx hmu hgu hrun
                go_wp2
                refine ⟨?_, by show E.length - ((i : Int) + 1).toNat < E.length - ((i : Int)).toNat; omega⟩
                unfold MI2
                obtain ⟨om, ho1, _, ho3⟩ := hMc.out.obj
                have hgx : Wc.grownBy wu (some w.heap.size) := (grown_below (grown_drew (World.grownBy.refl Wc (some w.heap.size))) HBx.out).trans Hgu.out
                refine ⟨rfl, ⟨Dc, rfl, HM.out.kept (fun D2 h => blk_grown hgx h (fun e => by cases e; rw [ho1] at h; cases h; exact ho3 _ rfl))⟩, rfl, rfl, rfl, rfl, rfl, rfl, rfl, rfl, rfl, i + 1, n + 1, _, (by first | rfl | go_num), by omega, by have := Hn.out; omega, Hmu.out, ?_, ?_, (Hg.out.trans (grown_of_below HB.out _)).trans hgx⟩
                · intro j hj y hy
                  rw [if_neg (fun e => by injection e with _ e2; omega)]
                  exact Hf.out j hj y hy
                · intro y hy
                  by_cases hyx : y = x
                  · subst hyx; rw [if_pos rfl]; exact Hbp.out.symm
                  · rw [if_neg (fun e => by injection e with e1 _; exact hyx e1)]
                    rw [Htk.out] at hy
                    rcases List.mem_append.1 hy with hy | hy
                    · exact Hfk.out y hy
                    · exact absurd (List.mem_singleton.1 hy) hyx
          · have hie : i = E.length := by omega
            subst hie
            go_wp2
            refine ⟨?_, by show steps + 1 - ((k : Int) + 1).toNat < steps + 1 - ((k : Int)).toNat; omega⟩
            unfold MI1
            refine ⟨rfl, ⟨Db, rfl, HM.out⟩, rfl, rfl, rfl, rfl, rfl, k + 1, n, f, (by first | rfl | go_num), by omega, by have := Hn.out; omega, Hmap.out, ?_, Hg.out⟩
            intro j hj y hy
            by_cases hjk : j < k
            · exact Hf.out j hjk y hy
            · obtain rfl : j = k := by omega
              exact Hfk.out y (by rw [List.take_length]; exact hy)
      · have hnk : ¬ ((k : Int) < (steps : Int) + 1) := by omega
        have hfk : ∀ i, i ≤ steps → ∀ y ∈ E, f (y, (i : Int)) = bestT ts i y := fun i hi y hy => Hf.out i (by omega) y hy
        have Hf := Lib.hid hfk
        clear hks hk hfk
        have hmi : (-1 : Int) ∈ E := by rw [HE.out]; exact endsOf_neg Hord.out Hin.out
        have hfs := Hf.out steps (Nat.le_refl _) (-1) hmi
        have hok : okS (-1, (steps : Int)) := ⟨by unfold inB; omega, by unfold inB; omega⟩
        have hlook := (Hmap.out.alloc (.cells #[.int .i64 (-1), .int .i64 steps] 110)).look hok
        rw [hfs] at hlook
        generalize hbp : bestT ts steps (-1) = p at hlook
        obtain ⟨p1, p2⟩ := p
        have Hbp := Lib.hid hbp
        have Hmi := Lib.hid hmi
        dsimp only [vS, vR] at hlook
        have hfld := fun W => field107_0 (.int .i64 p1) (.int .i64 p2) W
        have n0 : (Wa.alloc (.cells #[.int .i64 (-1), .int .i64 steps] 110)).cell? ⟨Wa.heap.size, 0, none⟩ = some (.int .i64 (-1)) := new2_0 _ _ _ _
        have n1 : (Wa.alloc (.cells #[.int .i64 (-1), .int .i64 steps] 110)).cell? ⟨Wa.heap.size, 1, none⟩ = some (.int .i64 steps) := new2_1 _ _ _ _
        clear hfs hok hbp hmi
        go_wp2
        clear hlook hfld n0 n1
        obtain ⟨b17, hb17⟩ : ∃ b17, b17 = Wa.heap.size := ⟨_, rfl⟩
        have hmW := Hmap.out.lt
        have hHB : Below w.heap.size w Wa := HB3.out.grown Hg.out HB3.out.size (fun k e => by cases e; exact Nat.le_refl _)
        have Hbm : Hid (w.heap.size < b17) := Lib.hid (by rw [hb17]; exact hmW)
        have HC4 : Hid ((Wa.alloc (.cells #[.int .i64 (-1), .int .i64 steps] 110)).heap[b17]? = some (.cells #[.int .i64 (-1), .int .i64 steps] 110 (0, 0))) := Lib.hid (by rw [hb17]; exact heap_alloc_new _ _)
        have HM4 := Lib.hid (HM.out.kept (fun D2 h => blk_alloc h (.cells #[.int .i64 (-1), .int .i64 steps] 110)))
        have HB4 := Lib.hid (below_alloc' hHB (.cells #[.int .i64 (-1), .int .i64 steps] 110))
        have Hmap4 := Lib.hid (Hmap.out.alloc (.cells #[.int .i64 (-1), .int .i64 steps] 110))
        have Hsz4 : Hid ((Wa.alloc (.cells #[.int .i64 (-1), .int .i64 steps] 110)).heap.size = b17 + 1) := Lib.hid (by rw [hb17]; simp)
        rw [← hb17]
        clear hmW hHB HM Hmap Hg hb17
        go_loopw [19] (fun v wr => ∃ (j : Nat) (x : Int) (o : List Int) (n : Nat) (f : Int × Int → Rg), wr.heap[b17]? = some (.cells #[.int .i64 x, .int .i64 j] 110 (0, 0)) ∧ j ≤ steps ∧ x ∈ E ∧ o ++ outT ts j x = outT ts steps (-1) ∧ o.length ≤ 100 - j ∧ MapIs wr w.heap.size n f ∧ (∀ i, i ≤ j → ∀ y ∈ E, f (y, (i : Int)) = bestT ts i y) ∧ wr.ownsRow (b17 + 1) 2 1 v o.length (o.flatMap encI) ∧ Below w.heap.size w wr ∧ Marks w.heap.size wr Da ∧ b17 + 1 ≤ wr.heap.size) (fun _ wr => mu4 b17 wr)
        case atStart => exact ⟨steps, -1, [], _, _, HC4.out, Nat.le_refl _, Hmi.out, rfl, by simp, Hmap4.out, fun i hi y hy => Hf.out i hi y hy, World.ownsRow_nil _ _ _ _, HB4.out, HM4.out, by rw [Hsz4.out]; exact Nat.le_refl _⟩
        case round =>
          obtain ⟨j, x, o, n', f', h17, hj, hx, ho, hol, hmap, hf, hrow, hB, hM, hz⟩ := hrel
          clear HC4 HM4 HB4 Hmap4 Hsz4 Hf Hmi
          have H17 := Lib.hid h17
          have Hx := Lib.hid hx
          have Ho := Lib.hid ho
          have Hmp := Lib.hid hmap
          have Hf := Lib.hid hf
          have Hrow := Lib.hid hrow
          have HB := Lib.hid hB
          have HM := Lib.hid hM
          have c0 : wr.cell? ⟨b17, 0, none⟩ = some (.int .i64 x) := (blk_cell h17).trans rfl
          have c1 : wr.cell? ⟨b17, 1, none⟩ = some (.int .i64 j) := (blk_cell h17).trans rfl
          have hxE := HInE.out x hx
          have hok : okS (x, (j : Int)) := ⟨by unfold inB; omega, by unfold inB; omega⟩
          have hlook := hmap.look hok
          rw [hf j (Nat.le_refl _) x hx] at hlook
          clear h17 hx ho hmap hf hrow hB hM
          have hneq := run_neqB
          by_cases hb0 : bestT ts j x = (0, -1)
          · rw [hb0] at hlook
            dsimp only [vS, vR] at hlook
            have hne : neqRB 0 (-1) 0 (-1) = false := rfl
            go_wp2
            have hoo : o = outT ts steps (-1) := by have h := Ho.out; rw [outT_stop hb0, List.append_nil] at h; exact h
            obtain ⟨A, cc, hv, _⟩ := own_form Hrow.out
            have hR : IntsAt wr A o := RowsAt.of_own encI_len (by rw [← hv]; exact Hrow.out)
            have hR2 : IntsAt (shut wr Da) A o := fun i hi => by obtain ⟨b', off, e1, e2⟩ := hR i hi; exact ⟨b', off, e1, fun k' u' hu => shut_cell Da wr HM.out (e2 k' u' hu)⟩
            refine leave_marks (.tuple #[.slice A o.length cc, .int .i64 p1]) (fun W => ?_) Da w.heap.size wr HM.out (Ret.mk ⟨⟨A, cc, by rw [← hoo, Hbp.out], by rw [← hoo]; exact hR2⟩, shut_below Da wr HM.out HB.out⟩)
            rw [← hv]
            exact results_tmp2 (fn := Try.f52) rfl _ _ _
          · obtain ⟨j', hjj⟩ : ∃ j', j = j' + 1 := by cases j with | zero => exact absurd rfl hb0 | succ j' => exact ⟨j', rfl⟩
            have hyE : (bestT ts j x).2 ∈ E := by rw [HE.out]; rw [hjj] at hb0 ⊢; exact bestT_next ts hb0
            have hout : outT ts j x = (bestT ts j x).2 :: outT ts j' (bestT ts j x).2 := by rw [hjj] at hb0 ⊢; exact outT_go hb0
            have hw1 : IntKind.i64.wrap ((j : Int) - 1) = (j' : Int) := by rw [show (j : Int) - 1 = j' by omega]; exact IntWalk.i64_in _ (by omega)
            generalize hbt : bestT ts j x = p at hlook hyE hout hb0
            obtain ⟨q1, y⟩ := p
            have hne : neqRB q1 y 0 (-1) = true := by
              cases h : neqRB q1 y 0 (-1) with
              | true => rfl
              | false => obtain ⟨e1, e2⟩ := neqRB_f h; subst e1 e2; exact absurd rfl hb0
            dsimp only [vS, vR] at hlook hyE hout
            have hlk2 : (Instr.lookup 104 (.map (some w.heap.size)) (.agg #[.int .i64 x, .int .i64 j]) false).run Try.prog wr.drew = .ok (.agg #[.int .i64 q1, .int .i64 y]) wr.drew := by
              have h := ((Hmp.out.kept (grown_drew (World.grownBy.refl wr none)) (by simp) : MapIs wr.drew w.heap.size n' f')).look hok
              rw [Hf.out j (Nat.le_refl _) x Hx.out, hbt] at h
              exact h
            have hfld := fun W => field107_1 (.int .i64 q1) (.int .i64 y) W
            have HyE := Lib.hid hyE
            have Hout := Lib.hid hout
            have Hjj := Lib.hid hjj
            have Hok := Lib.hid hok
            have Hbt := Lib.hid hbt
            clear hyE hout hjj hok hbt hb0
            have hlk3 : (Instr.lookup 104 (.map (some w.heap.size)) (.agg #[.int .i64 x, .int .i64 j]) false).run Try.prog (wr.alloc (.cells #[.int .i64 0, .int .i64 0] 110)).drew = .ok (.agg #[.int .i64 q1, .int .i64 y]) (wr.alloc (.cells #[.int .i64 0, .int .i64 0] 110)).drew := by
              have h := (((Hmp.out.alloc (.cells #[.int .i64 0, .int .i64 0] 110)).kept (grown_drew (World.grownBy.refl _ none)) (by simp) : MapIs (wr.alloc (.cells #[.int .i64 0, .int .i64 0] 110)).drew w.heap.size n' f')).look Hok.out
              rw [Hf.out j (Nat.le_refl _) x Hx.out, Hbt.out] at h
              exact h
            have d0 : (wr.alloc (.cells #[.int .i64 0, .int .i64 0] 110)).cell? ⟨b17, 0, none⟩ = some (.int .i64 x) := cell_alloc c0 _
            have d1 : (wr.alloc (.cells #[.int .i64 0, .int .i64 0] 110)).cell? ⟨b17, 1, none⟩ = some (.int .i64 j) := cell_alloc c1 _
            have d2 : (wr.alloc (.cells #[.int .i64 0, .int .i64 0] 110)).cell? ⟨wr.heap.size, 0, none⟩ = some (.int .i64 0) := new2_0 _ _ _ _
            have d3 : (wr.alloc (.cells #[.int .i64 0, .int .i64 0] 110)).cell? ⟨wr.heap.size, 1, none⟩ = some (.int .i64 0) := new2_1 _ _ _ _
            have d4 := new_frozen wr #[.int .i64 0, .int .i64 0] 110 0
            have d5 := new_frozen wr #[.int .i64 0, .int .i64 0] 110 1
            go_wp2
            go_big_region
            all_goals
              have hmV : MapIs (wr.alloc (.cells #[.int .i64 y, .int .i64 j'] 110)).drew w.heap.size n' f' := (Hmp.out.alloc (.cells #[.int .i64 y, .int .i64 j'] 110)).kept (grown_drew (World.grownBy.refl _ none)) (by simp)
              have e17 : (wr.alloc (.cells #[.int .i64 y, .int .i64 j'] 110)).drew.heap[b17]? = some (.cells #[.int .i64 x, .int .i64 j] 110 (0, 0)) := blk_alloc H17.out _
              have e20 : (wr.alloc (.cells #[.int .i64 y, .int .i64 j'] 110)).drew.heap[wr.heap.size]? = some (.cells #[.int .i64 y, .int .i64 j'] 110 (0, 0)) := heap_alloc_new _ _
              have hrV : (wr.alloc (.cells #[.int .i64 y, .int .i64 j'] 110)).drew.ownsRow (b17 + 1) 2 1 u19 o.length (o.flatMap encI) := (Hrow.out.alloc _).drew
              have hBV : Below w.heap.size w (wr.alloc (.cells #[.int .i64 y, .int .i64 j'] 110)).drew := (below_alloc' HB.out _).drew
              have hMV : Marks w.heap.size (wr.alloc (.cells #[.int .i64 y, .int .i64 j'] 110)).drew Da := HM.out.kept (fun D2 h => blk_alloc h _)
              have hzV : (wr.alloc (.cells #[.int .i64 y, .int .i64 j'] 110)).drew.heap.size = wr.heap.size + 1 := by simp
              obtain ⟨V1, hV1⟩ : ∃ V1, (wr.alloc (.cells #[.int .i64 y, .int .i64 j'] 110)).drew = V1 := ⟨_, rfl⟩
              rw [hV1] at hmV e17 e20 hrV hBV hMV hzV ⊢
              clear hV1 hlk2 hlk3 d0 d1 d2 d3 d4 d5 c0 c1 hlook hne
              have k0 : V1.cell? ⟨b17, 0, none⟩ = some (.int .i64 x) := (blk_cell e17).trans rfl
              have k1 : V1.cell? ⟨b17, 1, none⟩ = some (.int .i64 j) := (blk_cell e17).trans rfl
              obtain ⟨V2, hdel, hm2, hg2⟩ := hmV.del Hok.out 0
              obtain ⟨om, ho1, hoc, ho3⟩ := hmV.obj
              have hnb : some b17 ≠ (some w.heap.size : Option Nat) := fun e => by cases e; exact absurd Hbm.out (Nat.lt_irrefl _)
              have hnr : some wr.heap.size ≠ (some w.heap.size : Option Nat) := fun e => by have h1 := Hbm.out; have h2 := Option.some.inj e; omega
              have m17 := blk_grown hg2 e17 hnb
              have m20 := blk_grown hg2 e20 hnr
              have l20 : V2.cell? ⟨wr.heap.size, 0, none⟩ = some (.int .i64 y) := (blk_cell m20).trans rfl
              have hr2 : V2.ownsRow (b17 + 1) 2 1 u19 o.length (o.flatMap encI) := hrV.kept hg2 (by cases hv : Value.ownBlock u19 with | none => exact .inl rfl | some r => exact .inr (fun e => own_ne_map hrV ho1 hoc (by rw [hv]; exact e.symm)))
              dsimp only [vS] at hdel
              have Hm2 := Lib.hid hm2
              have HB2 := Lib.hid (hBV.grown hg2 (by have := HB.out.size; omega) (fun r e => by cases e; exact Nat.le_refl _))
              have HM2 := Lib.hid (hMV.kept (fun D2 h => blk_grown hg2 h (fun e => by cases e; rw [ho1] at h; cases h; exact ho3 _ rfl)))
              have M17 := Lib.hid m17
              have M20 := Lib.hid m20
              have Hr2 := Lib.hid hr2
              have hz2 : wr.heap.size + 1 ≤ V2.heap.size := by have := hg2.size; omega
              have N17 := Lib.hid (own_ne_kind hr2 m17 (by decide))
              have N20 := Lib.hid (own_ne_kind hr2 m20 (by decide))
              have hol2 : o.length ≤ 100000 := by omega
              clear hm2 hg2 hmV e17 e20 hrV hBV hMV hzV m17 m20 hr2 ho1 ho3 hoc hnb hnr
              go_wp2_with (at_builtin; refine wpList_push _ rfl (.tmp 120) (.tmp 123) _ rfl elemI2 encI_len oneI Try.underlying23 (b17 + 1) u19 o rfl (Hr2.out.alloc _) hol2 y V2.heap.size rfl _ (by rfl) _ _ (heap_alloc_new _ _) (by simp; omega) ?_; intro g2 cap2 W5 hown5 hg5; have q17 := blk_grown hg5 (blk_alloc M17.out _) N17.out; have q20 := blk_grown hg5 (blk_alloc M20.out _) N20.out; have r0 := (blk_cell (i := 0) q20).trans rfl; have r1 := (blk_cell (i := 1) q20).trans rfl; have s0 := (blk_cell (i := 0) q17).trans rfl; have s1 := (blk_cell (i := 1) q17).trans rfl; have f0 := blk_frozen (i := 0) q17; have f1 := blk_frozen (i := 1) q17; have Q17 := Lib.hid q17; have HO5 := Lib.hid hown5; have HG5 := Lib.hid hg5; clear hown5 hg5 q17 q20)
              have w17 := blk_set (i := 1) (blk_set (i := 0) Q17.out (.int .i64 y)) (.int .i64 j')
              have e1 : ((W5.setCell ⟨b17, 0, none⟩ (.int .i64 y)).setCell ⟨b17, 1, none⟩ (.int .i64 j')).cell? ⟨b17, 1, none⟩ = some (.int .i64 j') := (blk_cell w17).trans rfl
              have e2 : wr.cell? ⟨b17, 1, none⟩ = some (.int .i64 j) := (blk_cell H17.out).trans rfl
              have W17 := Lib.hid w17
              have E1 := Lib.hid e1
              have E2 := Lib.hid e2
              clear w17 e1 e2
              go_roundw
              (case rel =>
                obtain ⟨om2, hq1, hq2, _⟩ := Hm2.out.obj
                have hmne : w.heap.size ≠ b17 := by have := Hbm.out; omega
                refine ⟨j', y, o ++ [y], n', _, W17.out, by have := Hjj.out; omega, HyE.out, by rw [← Ho.out, Hout.out]; simp, by have := Hjj.out; simp; omega, ((((Hm2.out.alloc _).kept HG5.out (own_ne_map Hr2.out hq1 hq2)).setCell hmne _).setCell hmne _), ?_, ?_, ?_, ?_, ?_⟩
                · intro i hi y' hy'
                  rw [if_neg (fun e => by injection e with _ e2; have := Hjj.out; omega)]
                  exact Hf.out i (by have := Hjj.out; omega) y' hy'
                · rw [len_snoc]; exact ownsRow_setCell_below (ownsRow_setCell_below HO5.out (by simp) _) (by simp) _
                · exact (((HB2.out.alloc HB2.out.size _).grown HG5.out (by have := HB2.out.size; simp; omega) (fun r e => by have := own_base Hr2.out r e; have := Hbm.out; omega)).setCell (by have := Hbm.out; simp; omega) _).setCell (by have := Hbm.out; simp; omega) _
                · refine HM2.out.kept (fun D2 h => ?_)
                  have hne17 : D2 ≠ b17 := fun e => by rw [e, M17.out] at h; cases h
                  exact blk_far (blk_far (blk_grown HG5.out (blk_alloc h _) (own_ne_map Hr2.out h rfl)) hne17 _) hne17 _
                · have := HG5.out.size; simp at this ⊢; omega)
              (case measure => (unfold mu4; rw [E1.out, E2.out]; show ((j' : Int)).toNat < ((j : Int)).toNat; have := Hjj.out; omega))
  case stop => exact fun _ _ _ _ _ _ h _ => h.elim
end Go.Proofs.Ytkjmeeggjmeajaa
