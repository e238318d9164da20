/- Cover. kinds: its closures. -/
import Derived.Test.YtoogfdicmpkkgaaA26
namespace Go.Proofs.Ytoogfdicmpkkgaa
open Go.RowKit Go.Shelf Go.Maps Match

theorem results23 {tmps : Array Value} {W : World} {b : Nat} {x y : Value} (hp : tmps.getD 2 undef = .pointer (some ⟨b, 0, none⟩)) (h0 : W.cell? ⟨b, 0, none⟩ = some x) (h1 : W.cell? ⟨b, 1, none⟩ = some y) :
    (results Try.f23 tmps).run Try.prog W = .ok (.tuple #[.agg #[x, y], tmps.getD 3 undef]) W := by
  have h6' : tmps[2]?.getD undef = .pointer (some ⟨b, 0, none⟩) := by simpa using hp
  simp [results, Try.results23, h6', asAddr, go_sem, h0, h1]
set_option maxRecDepth 100000 in
set_option maxHeartbeats 1000000 in
theorem coverM_any (s : Sh) (w : World) (hl : RangesAt w s.A s.l) (ht : IntsAt w s.B s.t) (hn : s.l.length ≤ 100000) (hm : s.t.length ≤ 1000) (hca : s.l.length ≤ s.ca) (hcm : s.ca ≤ 9223372036854775807) :
    Calls Try.prog 23 #[s.v] w (Ret fun v w' => (sheetErr s.L s.R s.l s.t ≠ 0 ∧ v = .tuple #[vCover none 0 0 none 0 0, .int .i64 (sheetErr s.L s.R s.l s.t)] ∨
      sheetErr s.L s.R s.l s.t = 0 ∧ ∃ C E cc cd f P D, v = .tuple #[vCover C (leftsC f s.L.toNat).length cc E (rightsC f s.R.toNat).length cd, .int .i64 0] ∧ IntsAt w' C (leftsC f s.L.toNat) ∧ IntsAt w' E (rightsC f s.R.toNat) ∧ okP s.l.length P ∧ Inv (netOf s.l) (freeP s) s.L.toNat P D ∧ CS (netOf s.l) (freeP s) P s.L.toNat f) ∧ Below w.heap.size w w') := by
  obtain ⟨L, R, A, ca, B, cb, l, t⟩ := s
  dsimp only at hl ht hn hm hca hcm ⊢
  have Hl := Lib.hid hl; clear hl
  have Ht := Lib.hid ht; clear ht
  have Hm := Lib.hid hm; clear hm
  obtain ⟨w0, hw0⟩ : ∃ w0, w0 = (w.alloc (.cells #[.int .i64 L, .int .i64 R, .slice A l.length ca, .slice B t.length cb] 25)).alloc (.cells #[.slice none 0 0, .slice none 0 0] 27) := ⟨_, rfl⟩
  have HB0 : Hid (Below w.heap.size w w0) := Lib.hid (by rw [hw0]; exact below_alloc' (below_alloc' (Below.refl _ _) _) _)
  have hX : w0.heap[w.heap.size]? = some (.cells #[.int .i64 L, .int .i64 R, .slice A l.length ca, .slice B t.length cb] 25 (0, 0)) := by rw [hw0]; exact blk_alloc (heap_alloc_new _ _) _
  have hX2 : w0.heap[w.heap.size + 1]? = some (.cells #[.slice none 0 0, .slice none 0 0] 27 (0, 0)) := by rw [hw0]; exact heap_alloc_at _ _ (by simp)
  have HT := Lib.hid hX2
  have hyt := blk_lt hX2
  clear hX2
  have hs := fun W (h : Below w.heap.size w W) => checkSheet_any L R A B ca cb l t W (Hl.out.below h) (Ht.out.below h) hn (by have := Hm.out; omega) hca hcm
  have hnj := fun W (h : Below w.heap.size w W) => newJoiner_any ⟨L, R, A, ca, B, cb, l, t⟩ W (Hl.out.below h) (Ht.out.below h) (show t.length ≤ 100000 by have := Hm.out; omega)
  unfold Sh.v at hnj ⊢
  dsimp only at hnj ⊢
  unfold vSheet at hs hnj ⊢
  have Hs := Lib.hid hs
  have Hnj := Lib.hid hnj
  clear hs hnj
  have y0 : w0.cell? ⟨w.heap.size, 0, none⟩ = some (.int .i64 L) := (blk_cell hX).trans rfl
  have y1 : w0.cell? ⟨w.heap.size, 1, none⟩ = some (.int .i64 R) := (blk_cell hX).trans rfl
  have y2 : w0.cell? ⟨w.heap.size, 2, none⟩ = some (.slice A l.length ca) := (blk_cell hX).trans rfl
  have y3 : w0.cell? ⟨w.heap.size, 3, none⟩ = some (.slice B t.length cb) := (blk_cell hX).trans rfl
  have hyw0 := blk_lt hX
  clear hX
  have Hc := Lib.hid (Hs.out w0 HB0.out)
  rw [hw0] at y0 y1 y2 y3 Hc
  have HW0 := Lib.hid hw0
  clear hw0
  go_enter Try.func23, Try.ntmps23
  go_wp2_with fail
  refine Hc.out.mono ?_
  rintro e w1 ⟨v, rfl, rfl, hB1⟩
  rw [← HW0.out] at hB1 y0 y1 y2 y3
  have HB1 := Lib.hid (below_trans' HB0.out hB1)
  have hyw := Nat.lt_of_lt_of_le hyw0 hB1.size
  have hyt1 := Nat.lt_of_lt_of_le hyt hB1.size
  replace HT := Lib.hid (blk_below hB1 HT.out)
  replace y0 := cell_below hB1 y0
  replace y1 := cell_below hB1 y1
  replace y2 := cell_below hB1 y2
  replace y3 := cell_below hB1 y3
  clear hB1 Hc HB0 HW0
  by_cases h0 : sheetErr L R l t = 0
  · have d0 : (sheetErr L R l t != 0) = false := by simp [h0]
    have HS := Lib.hid (sheet_ok h0)
    have H0 := Lib.hid h0; clear h0
    have Hc := Lib.hid (Hnj.out w1 HB1.out HS.out.known HS.out.in12)
    go_wp2_with fail
    refine Hc.out.mono ?_
    rintro e w2 ⟨v, rfl, ⟨jb, rfl, hj, ha⟩, hB2⟩
    have hjh := hj
    have HB2 := Lib.hid (below_trans' HB1.out hB2)
    replace HT := Lib.hid (blk_below hB2 HT.out)
    have hs1 := HB1.out.size
    have hs12 := hB2.size
    have hbj := hj.base
    have Hc2 := Lib.hid (join_any jb w1.heap.size ⟨L, R, A, ca, B, cb, l, t⟩ 42 #[.pointer (some ⟨jb, 0, none⟩)] #[] (freeP ⟨L, R, A, ca, B, cb, l, t⟩) w2 hj ha.there (by have := HS.out.dim; dsimp only; omega) hn HS.out.in12 enters42 (allows_free hj hB2.size hB2.size HS.out.in12))
    clear hB2 Hc hj ha y0 y1 y2
    go_wp2_with fail
    refine Hc2.out.mono ?_
    rintro e w3 ⟨v, rfl, n, P, D, rfl, hq⟩
    have hB3 := hq.keep.toBelow (B := w1.heap.size) (by omega) hbj (by omega)
    have HB3 : Hid (Below w.heap.size w w3) := Lib.hid (HB2.out.trans (hB3.mono (by omega)))
    replace HT := Lib.hid ((hB3.block _ hyt1).trans HT.out)
    have HO := Lib.hid hq.ok
    have HI := Lib.hid hq.inv
    have hj3 := hjh.keep hq.keep (by omega) (by omega)
    have Hc3 := Lib.hid (cover_any jb w1.heap.size ⟨L, R, A, ca, B, cb, l, t⟩ P w3 hj3 hq.arr hq.ok (by have := HS.out.dim; dsimp only; omega) (by have := HS.out.dim; dsimp only; omega) (by have := HS.out.many; dsimp only; omega) HS.out.in12)
    have hs3 := hq.keep.size
    clear hq Hc2 hB3 y3
    go_wp2_with fail
    refine Hc3.out.mono ?_
    rintro e w4 ⟨v, rfl, ⟨C, E, cc, cd, f, rfl, hc1, hc2, hcs⟩, hk4⟩
    have hB4 := hk4.toBelow (B := w1.heap.size) (by omega) hbj (by omega)
    have HB4 : Hid (Below w.heap.size w w4) := Lib.hid (HB3.out.trans (hB4.mono (by omega)))
    have hT4 := (hB4.block _ hyt1).trans HT.out
    have d0 : w4.cell? ⟨w.heap.size + 1, 0, none⟩ = some (.slice none 0 0) := (blk_cell hT4).trans rfl
    have d1 : w4.cell? ⟨w.heap.size + 1, 1, none⟩ = some (.slice none 0 0) := (blk_cell hT4).trans rfl
    have d2 : w4.frozen? ⟨w.heap.size + 1, 0, none⟩ = false := blk_frozen hT4
    have d3 : w4.frozen? ⟨w.heap.size + 1, 1, none⟩ = false := blk_frozen hT4
    have ho1 := ownsRow_setCell_below (a := ⟨w.heap.size + 1, 1, none⟩) (ownsRow_setCell_below (a := ⟨w.heap.size + 1, 0, none⟩) hc1 (by dsimp only; omega) (.slice C (leftsC f L.toNat).length cc)) (by dsimp only; omega) (.slice E (rightsC f R.toNat).length cd)
    have ho2 := ownsRow_setCell_below (a := ⟨w.heap.size + 1, 1, none⟩) (ownsRow_setCell_below (a := ⟨w.heap.size + 1, 0, none⟩) hc2 (by dsimp only; omega) (.slice C (leftsC f L.toNat).length cc)) (by dsimp only; omega) (.slice E (rightsC f R.toNat).length cd)
    have hbf := (HB4.out.setCell (p := ⟨w.heap.size + 1, 0, none⟩) (by simp) (.slice C (leftsC f L.toNat).length cc)).setCell (p := ⟨w.heap.size + 1, 1, none⟩) (by simp) (.slice E (rightsC f R.toNat).length cd)
    have htf := blk_set (i := 1) (blk_set (i := 0) hT4 (.slice C (leftsC f L.toNat).length cc)) (.slice E (rightsC f R.toNat).length cd)
    have HQ := Lib.hid ho1
    have HQ2 := Lib.hid ho2
    have HQ3 := Lib.hid hbf
    have HQ4 := Lib.hid htf
    have HCS := Lib.hid hcs
    clear ho1 ho2 hbf htf hcs hc1 hc2 hk4 Hc3 hT4 hB4
    unfold vCover
    go_wp2
    generalize World.setCell (World.setCell w4 _ _) _ _ = V at *
    exact bodyPost_ret (results23 rfl ((blk_cell HQ4.out).trans rfl) ((blk_cell HQ4.out).trans rfl)) rfl (Ret.mk ⟨.inr ⟨H0.out, C, E, cc, cd, f, P, D, rfl, RowsAt.of_own encI_len HQ.out, RowsAt.of_own encI_len HQ2.out, HO.out, HI.out, HCS.out⟩, HQ3.out⟩)
  · have d0 : (sheetErr L R l t != 0) = true := by simpa using h0
    have c0 : w1.cell? ⟨w.heap.size + 1, 0, none⟩ = some (.slice none 0 0) := (blk_cell HT.out).trans rfl
    have c1 : w1.cell? ⟨w.heap.size + 1, 1, none⟩ = some (.slice none 0 0) := (blk_cell HT.out).trans rfl
    have d2 : w1.frozen? ⟨w.heap.size + 1, 0, none⟩ = false := blk_frozen HT.out
    have d3 : w1.frozen? ⟨w.heap.size + 1, 1, none⟩ = false := blk_frozen HT.out
    have hbf := (HB1.out.setCell (p := ⟨w.heap.size + 1, 0, none⟩) (by simp) (.slice none 0 0)).setCell (p := ⟨w.heap.size + 1, 1, none⟩) (by simp) (.slice none 0 0)
    have htf := blk_set (i := 1) (blk_set (i := 0) HT.out (.slice none 0 0)) (.slice none 0 0)
    have HQ3 := Lib.hid hbf
    have HQ4 := Lib.hid htf
    clear hbf htf
    go_wp2
    have HR0 := Lib.hid h0
    refine bodyPost_ret (v := .tuple #[vCover none 0 0 none 0 0, .int .i64 (sheetErr L R l t)]) (results23 rfl ((blk_cell HQ4.out).trans rfl) ((blk_cell HQ4.out).trans rfl)) rfl (Ret.mk ⟨.inl ⟨HR0.out, rfl⟩, HQ3.out⟩)
end Go.Proofs.Ytoogfdicmpkkgaa

namespace Go.Proofs.Ytoogfdicmpkkgaa
open Go.RowKit Go.Shelf Go.Maps Match

/-- n is how many links a greatest joining of the allowed links has -/
def IsMost (N : Net) (p : Nat → Bool) (n : Nat) : Prop := (∃ M, Join N p M ∧ M.length = n) ∧ ∀ M, Join N p M → M.length ≤ n
theorem IsMost.uniq {N : Net} {p : Nat → Bool} {n m : Nat} (h : IsMost N p n) (k : IsMost N p m) : n = m := by
  obtain ⟨⟨M, h1, h2⟩, h3⟩ := h
  obtain ⟨⟨M', k1, k2⟩, k3⟩ := k
  have := h3 M' k1
  have := k3 M h1
  omega
theorem most_of {s : Sh} {p : Nat → Bool} {P : Partners} {D : Nat → Prop} (h : Inv (netOf s.l) p s.L.toNat P D) (hs : Sheet s.L s.R s.l s.t) : IsMost (netOf s.l) p (countOf P) := by
  have hb : ∀ k, (netOf s.l).ok p k → ((netOf s.l).e k).1 < s.L.toNat ∧ ((netOf s.l).e k).2 < 12 := fun k hk => by
    have hkl : k < s.l.length := hk.1
    have h1 := hs.links s.l[k] (List.getElem_mem hkl)
    have h2 := hs.dim
    unfold netOf
    dsimp only
    rw [atL_eq hkl]
    omega
  obtain ⟨h1, h2⟩ := greatest h hb
  have e : (linksOf P 12).length = countOf P := linksOf_len P 12
  exact ⟨⟨_, h1, e⟩, fun M hM => by rw [← e]; exact h2 M hM⟩
def noneOf (s : Sh) (k i : Nat) : Bool := freeP s i && decide (i ≠ k)
def farOf (s : Sh) (k i : Nat) : Bool := freeP s i && decide ((atL s.l i).1 ≠ (atL s.l k).1) && decide ((atL s.l i).2 ≠ (atL s.l k).2)
theorem enters81 : ∀ args w, (callFunc 81 args).run Try.prog w = .ok (.enter 81 args) w := fun args w => by simp [go_sem]
theorem enters82 : ∀ args w, (callFunc 82 args).run Try.prog w = .ok (.enter 82 args) w := fun args w => by simp [go_sem]

set_option maxHeartbeats 1000000 in
theorem k81_any (n0 jb b3 b6 : Nat) (s : Sh) (k x : Nat) (w : World) (hh : Head n0 w jb s) (hx : x < s.l.length) (hli : ∀ x ∈ s.l, (0 ≤ x.1 ∧ x.1 < 12) ∧ 0 ≤ x.2 ∧ x.2 < 12)
    (h3 : w.cell? ⟨b3, 0, none⟩ = some (.pointer (some ⟨jb, 0, none⟩))) (h6 : w.cell? ⟨b6, 0, none⟩ = some (.int .i64 k)) :
    Calls Try.prog 81 #[.int .i64 x, .pointer (some ⟨b3, 0, none⟩), .pointer (some ⟨b6, 0, none⟩)] w (Ret fun v w' => v = .bool (noneOf s k x) ∧ Below w.heap.size w w') := by
  have Hc := Lib.hid (free_any n0 jb s x w hh hx hli)
  clear hh hli
  go_enter Try.func81, Try.ntmps81
  go_wp2_with fail
  refine Hc.out.mono ?_
  rintro e w1 ⟨v, rfl, rfl, hB⟩
  have HB := Lib.hid hB
  have h6' := cell_below hB h6
  clear hB h3 h6 Hc
  have HF : Hid (noneOf s k x = (!takenB s.l s.t x && decide (x ≠ k))) := Lib.hid rfl
  cases ht : takenB s.l s.t x
  · rw [ht] at HF
    by_cases e : x = k
    · subst e
      have HF2 : Hid (noneOf s x x = false) := Lib.hid (by rw [HF.out]; simp)
      go_wp2
      go_ret
      exact Ret.mk' (congrArg Value.bool HF2.out.symm) ⟨rfl, HB.out⟩
    · have d : ((x : Int) != (k : Int)) = true := by simp; omega
      have HF2 : Hid (noneOf s k x = true) := Lib.hid (by rw [HF.out]; simp [e])
      go_wp2
      go_ret
      exact Ret.mk' (congrArg Value.bool HF2.out.symm) ⟨rfl, HB.out⟩
  · rw [ht] at HF
    have HF2 : Hid (noneOf s k x = false) := Lib.hid (by rw [HF.out]; rfl)
    go_wp2
    go_ret
    exact Ret.mk' (congrArg Value.bool HF2.out.symm) ⟨rfl, HB.out⟩

set_option maxRecDepth 100000 in
set_option maxHeartbeats 1000000 in
theorem k82_any (n0 jb b3 b1 b7 : Nat) (s : Sh) (k x : Nat) (a b : Int) (w : World) (hh : Head n0 w jb s) (hx : x < s.l.length) (hli : ∀ x ∈ s.l, (0 ≤ x.1 ∧ x.1 < 12) ∧ 0 ≤ x.2 ∧ x.2 < 12)
    (h3 : w.cell? ⟨b3, 0, none⟩ = some (.pointer (some ⟨jb, 0, none⟩))) (h1 : w.cell? ⟨b1, 2, none⟩ = some (.slice s.A s.l.length s.ca)) (hab : atL s.l k = (a, b)) (h7 : w.cell? ⟨b7, 0, none⟩ = some (.int .i64 a)) (h8 : w.cell? ⟨b7, 1, none⟩ = some (.int .i64 b)) :
    Calls Try.prog 82 #[.int .i64 x, .pointer (some ⟨b3, 0, none⟩), .pointer (some ⟨b1, 0, none⟩), .pointer (some ⟨b7, 0, none⟩)] w (Ret fun v w' => v = .bool (farOf s k x) ∧ Below w.heap.size w w') := by
  obtain ⟨b4, o4, hb4, _, p1, p2⟩ := hh.links x hx
  have hat := atL_eq hx
  generalize s.l[x] = lx at p1 p2 hat
  obtain ⟨y1, y2⟩ := lx
  dsimp only at p1 p2
  rw [hb4] at h1
  have HF : Hid (farOf s k x = (!takenB s.l s.t x && decide (y1 ≠ a) && decide (y2 ≠ b))) := Lib.hid (by unfold farOf freeP; rw [hat, hab])
  have hfr := fun W (hW : Below w.heap.size w W) => free_any n0 jb s x W (hh.below hW) hx hli
  generalize (!takenB s.l s.t x) = q at HF hfr
  have HFr := Lib.hid hfr
  clear hh hli hat hab hb4 hfr
  go_enter Try.func82, Try.ntmps82
  go_upto_region 1 with fail
  have ix0 : (0 : Int) ≤ (x : Int) := by omega
  have ix1 : (x : Int) < (s.l.length : Int) := by omega
  have hd1 : (y1 != a) = decide (y1 ≠ a) := by by_cases e : y1 = a <;> simp [e]
  have hd2 : (y2 != b) = decide (y2 ≠ b) := by by_cases e : y2 = b <;> simp [e]
  cases hq1 : decide (y1 ≠ a) <;> cases hq2 : decide (y2 ≠ b) <;> rw [hq1] at hd1 HF <;> rw [hq2] at hd2 HF <;> cases q
  all_goals
    refine wp_region_class (C := fun W => Below w.heap.size w W) (by kernel_rfl) (by kernel_rfl) ((Below.refl _ _).drew) ?_
    repeat (first
      | go_big_quiet_skip
      | (go_big_quiet_want
         first
           | (go_big_quiet_op; go_big_quiet_on)
           | (apply Exists.intro
              refine ⟨fun W hW => ?_, ?_⟩
              · replace h3 := cell_below hW h3; replace h1 := cell_below hW h1; replace h7 := cell_below hW h7; replace h8 := cell_below hW h8; replace p1 := cell_below hW p1; replace p2 := cell_below hW p2; go_simp <;> exact rfl
              simp only [Act.put, List.setIfInBounds_toArray, List.set_cons_zero, List.set_cons_succ]
              go_big_quiet_on)))
    go_big_quiet_want
    apply Exists.intro
    refine ⟨fun W hW => ?_, ?_⟩
    · go_simp
      refine (HFr.out _ hW).mono ?_
      rintro e wc ⟨v, rfl, rfl, hBc⟩
      exact ⟨rfl, below_trans' hW hBc⟩
    simp only [Act.put, List.setIfInBounds_toArray, List.set_cons_zero, List.set_cons_succ]
    go_big_quiet_on
    repeat (first
      | go_big_quiet_skip
      | (go_big_quiet_want
         first
           | (go_big_quiet_op; go_big_quiet_on)
           | (apply Exists.intro
              refine ⟨fun W hW => ?_, ?_⟩
              · replace h3 := cell_below hW h3; replace h1 := cell_below hW h1; replace h7 := cell_below hW h7; replace h8 := cell_below hW h8; replace p1 := cell_below hW p1; replace p2 := cell_below hW p2; go_simp <;> exact rfl
              simp only [Act.put, List.setIfInBounds_toArray, List.set_cons_zero, List.set_cons_succ]
              go_big_quiet_on)))
    refine wpQuiet_nil ?_
    intro w5 hB5
    have HB5 := Lib.hid hB5
    clear hB5
    go_wp2
    go_ret
    exact Ret.mk' (congrArg Value.bool HF.out.symm) ⟨rfl, HB5.out⟩
end Go.Proofs.Ytoogfdicmpkkgaa
