/- cover's visit: the walk. -/
import Derived.Test.YtoogfdicmpkkgaaB3
namespace Go.Proofs.Ytoogfdicmpkkgaa
open Go.RowKit Go.Shelf Go.Maps Match
attribute [local go_sem] Oper.semAt_some

theorem leave_plain {fn : Func} {R : Ending → World → Prop} {tmps : Array Value} {W : World} (v : Value)
    (hres : (results fn tmps).run Try.prog W = .ok v W) (hR : R (.returned v) W) : bodyPostM Fence.wide 10 Try.prog fn R .ret { tmps, defers := [] } W :=
  ⟨v, hres, hR⟩
/-- what a visit leaves behind -/
structure VisitQ (w : World) (jb mb cnt : Nat) (s : Sh) (left : Nat) (P : Partners) (f : Sd → Int) (w' : World) (f' : Sd → Int) (cnt' : Nat) : Prop where
  vq : VQ (netOf s.l) (freeP s) P left (Sn f) (Sn f')
  arr : Arr w' jb 28 12 (encP P)
  map : MapIs w' mb cnt' f'
  cnt : cnt' + unseenL f' * (s.l.length + 1) ≤ cnt + unseenL f * (s.l.length + 1)
  less : unseenL f' ≤ unseenL f
  vals : ∀ t, f' t = f t ∨ f' t = 1
  keep : KeepJ w.heap.size jb mb w w'
theorem VisitQ.put {w W : World} {jb mb cnt : Nat} {s : Sh} {left : Nat} {P : Partners} {f f' : Sd → Int} {c : Nat} (h : VisitQ w jb mb cnt s left P f W f' c) {D : Nat} (h1 : w.heap.size ≤ D) (h2 : jb < D) (h3 : mb < D) (o : Obj) :
    VisitQ w jb mb cnt s left P f (W.putObj D o) f' c :=
  ⟨h.vq, h.arr.grown (grownBy_putObj' W D o) (fun e => by injection e; omega), h.map.kept (grownBy_putObj' W D o) (fun e => by injection e; omega), h.cnt, h.less, h.vals, h.keep.trans (KeepJ.put h1 (by omega) W o)⟩
/-- between two links -/
def VJ {s : Sh} (wl : World) (jb mb B : Nat) (u left : Nat) (P : Partners) (f : Sd → Int) (pre : List {k : Nat // k < s.l.length}) (W : World) : Prop :=
  KeepJ wl.heap.size jb mb wl W ∧ ∃ f1 c1, Arr W jb 28 12 (encP P) ∧ MapIs W mb c1 f1 ∧ c1 + unseenL f1 * (s.l.length + 1) + (s.l.length - pre.length) ≤ B ∧ unseenL f1 ≤ u ∧ VI (netOf s.l) (freeP s) P left (Sn f) (pre.map (·.1)) (Sn f1) ∧ ∀ t, f1 t = f t ∨ f1 t = 1
theorem vals_mark (f : Sd → Int) (b : Bool) (r : Nat) : ∀ t, markS f b r t = f t ∨ markS f b r t = 1 := fun t => by unfold markS; split <;> simp
theorem vals_trans {f g h : Sd → Int} (h1 : ∀ t, g t = f t ∨ g t = 1) (h2 : ∀ t, h t = g t ∨ h t = 1) : ∀ t, h t = f t ∨ h t = 1 := fun t => (h2 t).elim (fun e => by rw [e]; exact h1 t) .inr
theorem VJ.own {s : Sh} {wl : World} {jb mb B u left : Nat} {P : Partners} {f : Sd → Int} (hj : jb < wl.heap.size) (hm : mb < wl.heap.size) : OwnFrom wl.heap.size (VJ (s := s) wl jb mb B u left P f) := by
  rintro pre W W' row ⟨hk, f1, c1, h2, h3, h4⟩ hg hr
  exact ⟨hk.grown hg (Nat.le_refl _) hj (fun r e => ⟨.inl (hr r e).1, by have := (hr r e).1; omega⟩), f1, c1, h2.grown hg (fun e => by have := (hr _ e.symm).1; omega), h3.kept hg (fun e => by have := (hr _ e.symm).1; omega), h4⟩
theorem ok_free {s : Sh} (hli : ∀ x ∈ s.l, (0 ≤ x.1 ∧ x.1 < 12) ∧ 0 ≤ x.2 ∧ x.2 < 12) {left : Nat} {xs : List {k : Nat // k < s.l.length}} (hxs : xs.map (·.1) = pick (wants s left (freeP s)) s.l.length) :
    (∀ k ∈ xs.map (·.1), (netOf s.l).ok (freeP s) k ∧ ((netOf s.l).e k).1 = left) ∧ ∀ k, (netOf s.l).ok (freeP s) k → ((netOf s.l).e k).1 = left → k ∈ xs.map (·.1) := by
  rw [hxs]
  refine ⟨fun k hk => ?_, fun k hk he => ?_⟩
  · obtain ⟨h1, h2⟩ := pick_mem.1 hk
    obtain ⟨h3, h4⟩ := (wants_net h1 hli).1 h2
    exact ⟨⟨h1, h3⟩, h4⟩
  · exact pick_mem.2 ⟨hk.1, (wants_net hk.1 hli).2 ⟨hk.2, he⟩⟩

set_option maxRecDepth 100000 in
set_option maxHeartbeats 2000000 in
theorem visit_any (jb mb n0 bm bj bv : Nat) (s : Sh) (P : Partners) (h0m : n0 ≤ mb) (hjm : jb ≠ mb) (hlen : s.l.length ≤ 1000) (hli : ∀ x ∈ s.l, (0 ≤ x.1 ∧ x.1 < 12) ∧ 0 ≤ x.2 ∧ x.2 < 12) (ho : okP s.l.length P)
    (hbs : (bm ≠ jb ∧ bm ≠ mb) ∧ (bj ≠ jb ∧ bj ≠ mb) ∧ bv ≠ jb ∧ bv ≠ mb) :
    ∀ (u left : Nat) (f : Sd → Int) (cnt : Nat) (w : World), unseenL f ≤ u → left < 12 → cnt + unseenL f * (s.l.length + 1) ≤ 1000000 →
    Head n0 w jb s → Arr w jb 28 12 (encP P) → MapIs w mb cnt f → w.cell? ⟨bm, 0, none⟩ = some (.map (some mb)) → w.cell? ⟨bj, 0, none⟩ = some (.pointer (some ⟨jb, 0, none⟩)) →
    w.cell? ⟨bv, 0, none⟩ = some (.func (.func 79) #[] #[.pointer (some ⟨bm, 0, none⟩), .pointer (some ⟨bj, 0, none⟩), .pointer (some ⟨bv, 0, none⟩)]) →
    Calls Try.prog 79 #[.int .i64 left, .pointer (some ⟨bm, 0, none⟩), .pointer (some ⟨bj, 0, none⟩), .pointer (some ⟨bv, 0, none⟩)] w (Ret fun v w' => v = .tuple #[] ∧ ∃ f' cnt', VisitQ w jb mb cnt s left P f w' f' cnt') := by
  intro u
  induction u using Nat.strongRecOn with
  | ind u ih =>
  intro left f cnt w hu hleft hcnt hh ha hmp e0 e1 e2
  have IH := Lib.hid ih; clear ih
  have HH := Lib.hid hh; clear hh
  have HA := Lib.hid ha; clear ha
  have HM := Lib.hid hmp; clear hmp
  have Hli := Lib.hid hli; clear hli
  have HO := Lib.hid ho; clear ho
  have hjlt := HH.out.lt
  have hmlt := HM.out.lt
  have hlm := block_lt_of_cell e0
  have hlj := block_lt_of_cell e1
  have hlv := block_lt_of_cell e2
  dsimp only at hlm hlj hlv
  refine calls_of_wp_marks Try.func79 rfl ?_
  simp only [Try.ntmps79, List.size_toArray, List.length_cons, List.length_nil, Nat.reduceAdd, Nat.reduceSub, Array.replicate_succ, Array.replicate_zero, List.push_toArray, List.append_toArray, List.nil_append, List.cons_append]
  have hal : Below w.heap.size w (w.alloc (.cells #[.bool false, .int .i64 left] 98)) := below_alloc' (Below.refl _ _) _
  have hlook := (HM.out.alloc (.cells #[.bool false, .int .i64 left] 98)).look (s := (false, (left : Int))) (show 0 ≤ (left : Int) ∧ (left : Int) ≤ 1000 by omega)
  dsimp only [vS] at hlook
  have q0 := cell_alloc e0 (.cells #[.bool false, .int .i64 left] 98)
  have q1 := cell_alloc e1 (.cells #[.bool false, .int .i64 left] 98)
  have q2 := cell_alloc e2 (.cells #[.bool false, .int .i64 left] 98)
  have nn0 := new2_0 w (.bool false) (.int .i64 left) 98
  have nn1 := new2_1 w (.bool false) (.int .i64 left) 98
  have HK1 := Lib.hid (KeepJ.below (n := w.heap.size) (jb := jb) (mb := mb) hal (Nat.le_refl _) hjlt)
  have HA1 := Lib.hid (HA.out.below hal)
  have HM1 := Lib.hid (HM.out.alloc (.cells #[.bool false, .int .i64 left] 98))
  have hsw1 : (w.alloc (.cells #[.bool false, .int .i64 left] 98)).heap.size = w.heap.size + 1 := World.size_alloc _ _
  clear e0 e1 e2
  go_upto_region 1 with fail
  clear hal
  generalize w.alloc (.cells #[.bool false, .int .i64 left] 98) = w1 at *
  cases hy : (f (false, (left : Int)) == 1)
  · have hok : okS (false, (left : Int)) := show 0 ≤ (left : Int) ∧ (left : Int) ≤ 1000 by omega
    have hf1 : f (false, (left : Int)) ≠ 1 := by simpa using hy
    have hum := unseenL_mark hf1 hleft
    have hmul : unseenL f * (s.l.length + 1) = unseenL (markS f false left) * (s.l.length + 1) + (s.l.length + 1) := by rw [← hum, Nat.succ_mul]
    obtain ⟨W2, hupd, hm2, hg2⟩ := HM1.out.upd hok 1 (by omega)
    dsimp only [vS] at hupd
    have hm2' : MapIs W2 mb (cnt + 1) (markS f false left) := hm2
    have z0 := World.grownBy.cell hg2 q0 (by simp; omega)
    have z1 := World.grownBy.cell hg2 q1 (by simp; omega)
    have z2 := World.grownBy.cell hg2 q2 (by simp; omega)
    have hk2 := HK1.out.grown hg2 (Nat.le_refl _) (by omega) (fun r e => ⟨.inr (by injection e with e; exact e.symm), by injection e with e; omega⟩)
    have ha2 := HA1.out.grown hg2 (by simp; omega)
    have hs2 := hg2.size
    go_wp2_with fail
    refine (links_any _ ⟨_, rfl⟩ _ _ ⟨_, _, _, rfl⟩ _).mono ?_
    rintro e w3 ⟨v, rfl, rfl, rfl⟩
    go_wp2_with fail
    clear hupd hlook q0 q1 q2 nn0 nn1 hg2 hm2 HM1 HA1
    have hB0 := below_alloc' (below_alloc' (below_alloc' (Below.refl W2.heap.size W2) (.cells #[.pointer (some ⟨jb, 0, none⟩)] 62)) (.cells #[.int .i64 left] 3)) (.cells #[.func (.func 42) #[.pointer (some ⟨jb, 0, none⟩)] #[]] 61)
    have b4 := heap_alloc_at W2 (.cells #[.pointer (some ⟨jb, 0, none⟩)] 62) rfl
    have b5 := heap_alloc_at (W2.alloc (.cells #[.pointer (some ⟨jb, 0, none⟩)] 62)) (.cells #[.int .i64 left] 3) (n := W2.heap.size + 1) (by simp)
    have b6 := heap_alloc_at ((W2.alloc (.cells #[.pointer (some ⟨jb, 0, none⟩)] 62)).alloc (.cells #[.int .i64 left] 3)) (.cells #[.func (.func 42) #[.pointer (some ⟨jb, 0, none⟩)] #[]] 61) (n := W2.heap.size + 1 + 1) (by simp)
    replace b4 := blk_alloc (blk_alloc b4 (.cells #[.int .i64 left] 3)) (.cells #[.func (.func 42) #[.pointer (some ⟨jb, 0, none⟩)] #[]] 61)
    replace b5 := blk_alloc b5 (.cells #[.func (.func 42) #[.pointer (some ⟨jb, 0, none⟩)] #[]] 61)
    have hsz : (((W2.alloc (.cells #[.pointer (some ⟨jb, 0, none⟩)] 62)).alloc (.cells #[.int .i64 left] 3)).alloc (.cells #[.func (.func 42) #[.pointer (some ⟨jb, 0, none⟩)] #[]] 61)).heap.size = W2.heap.size + 1 + 1 + 1 := by simp
    generalize hwl : ((W2.alloc (.cells #[.pointer (some ⟨jb, 0, none⟩)] 62)).alloc (.cells #[.int .i64 left] 3)).alloc (.cells #[.func (.func 42) #[.pointer (some ⟨jb, 0, none⟩)] #[]] 61) = wl at *
    clear hwl
    have hk2l := hk2.trans (KeepJ.below (n := w.heap.size) (jb := jb) (mb := mb) hB0 (by omega) (by omega))
    replace z0 := cell_below hB0 z0
    replace z1 := cell_below hB0 z1
    replace z2 := cell_below hB0 z2
    replace ha2 := ha2.below hB0
    replace hm2' := hm2'.kept (grown_below hB0) (by simp)
    obtain ⟨xs, hxs⟩ : ∃ xs : List {k : Nat // k < s.l.length}, xs.map (·.1) = pick (wants s left (freeP s)) s.l.length := ⟨(pick (wants s left (freeP s)) s.l.length).attach.map (fun t => ⟨t.1, (pick_mem.1 t.2).1⟩), by rw [List.map_map]; exact List.attach_map_subtype_val _⟩
    have hxl : xs.length ≤ s.l.length := by
      have h := congrArg List.length hxs
      rw [List.length_map] at h
      rw [h]
      have := List.length_filter_le (wants s left (freeP s)) (List.range s.l.length)
      simpa [pick] using this
    have Hxs := Lib.hid hxs; clear hxs
    have HWl := Lib.hid (HH.out.keep hk2l (by have := HH.out.base; omega) h0m)
    refine wp_rangeJ1 (gf := 94) (lb := #[.pointer (some ⟨W2.heap.size, 0, none⟩), .pointer (some ⟨W2.heap.size + 1, 0, none⟩), .pointer (some ⟨W2.heap.size + 1 + 1, 0, none⟩)]) (q := 6) (xs := xs) (enc1 := fun x => .int .i64 (x.1 : Nat)) rfl enters94 wl.heap.size jb mb (Nat.le_refl _) (by omega)
      (links_stops (fun x : {k : Nat // k < s.l.length} => x.1) xs 9 (by omega) W2.heap.size wl.heap.size n0 jb mb s left 42 #[.pointer (some ⟨jb, 0, none⟩)] #[] (freeP s) Hxs.out wl (Nat.le_refl _) (by have := HH.out.base; omega) h0m (by omega) (by omega) (by omega) enters42 ((blk_cell b4).trans rfl) ((blk_cell b5).trans rfl) ((blk_cell b6).trans rfl) HWl.out (by omega) (allows_free HWl.out (by have := HH.out.base; omega) h0m Hli.out))
      (VJ wl jb mb (cnt + unseenL f * (s.l.length + 1)) (unseenL (markS f false left)) left P f) (fun _ _ _ => False) ?hI ?hX ?h0 ?assign ?body ?done ?stop
    case hI => exact VJ.own (by omega) (by omega)
    case hX => exact fun _ _ _ _ _ h => h.elim
    case h0 => exact ⟨KeepJ.refl _ _ _ _, markS f false left, cnt + 1, ha2, hm2', by simp only [List.length_nil]; omega, Nat.le_refl _, VI.start (fun b x => by rw [sn_mark]), vals_mark _ _ _⟩
    case assign =>
      intro l x W K hK
      clear b4 b5 b6 z0 z1 z2
      dsimp only at hK ⊢
      have HK := Lib.hid hK; clear hK
      gi_wp2
      exact HK.out
    case body =>
      rintro l pre ⟨x, hx⟩ W hl ⟨hk, f1, c1, h2, h3, h4, h5, h6, h7⟩ hlt
      dsimp only
      have e0 := hk.cell (by omega) (by omega) (by omega) z0
      have e1 := hk.cell (by omega) (by omega) (by omega) z1
      have e2 := hk.cell (by omega) (by omega) (by omega) z2
      clear b4 b5 b6 z0 z1 z2
      have HW := Lib.hid (HWl.out.keep hk (by have := HH.out.base; omega) h0m)
      obtain ⟨b3, o3, hb3, _, p1, p2⟩ := HW.out.links x hx
      have hrg := Hli.out s.l[x] (List.getElem_mem hx)
      have hat := atL_eq hx
      generalize s.l[x] = lx at p1 p2 hat hrg
      obtain ⟨y1, y2⟩ := lx
      dsimp only at p1 p2 hrg
      obtain ⟨x1, rfl⟩ := Int.eq_ofNat_of_zero_le hrg.1.1
      obtain ⟨r, rfl⟩ := Int.eq_ofNat_of_zero_le hrg.2.1
      have hr : r < 12 := by omega
      have c2 := HW.out.c2
      rw [hb3] at c2
      have hne : ((netOf s.l).e x).2 = r := by unfold netOf; dsimp only; rw [hat]; rfl
      clear hb3 hrg hat
      have hal : Below W.heap.size W (W.alloc (.cells #[.bool true, .int .i64 r] 98)) := below_alloc' (Below.refl _ _) _
      have q0 := cell_alloc e0 (.cells #[.bool true, .int .i64 r] 98)
      have q1 := cell_alloc e1 (.cells #[.bool true, .int .i64 r] 98)
      have q2 := cell_alloc e2 (.cells #[.bool true, .int .i64 r] 98)
      have nn0 := new2_0 W (.bool true) (.int .i64 r) 98
      have nn1 := new2_1 W (.bool true) (.int .i64 r) 98
      have hsw : W2.heap.size + 3 ≤ W.heap.size := by have := hk.size; omega
      have HK1 := Lib.hid (hk.trans (KeepJ.below hal (by have := hk.size; omega) HW.out.lt))
      have HA1 := Lib.hid (h2.below hal)
      have HM1 := Lib.hid (h3.alloc (.cells #[.bool true, .int .i64 r] 98))
      have HV := Lib.hid h6
      clear h2 h3 h6 hk
      gi_upto_region 6 with fail
      clear e0 e1 e2 p1 p2 c2
      have hsw1 : (W.alloc (.cells #[.bool true, .int .i64 r] 98)).heap.size = W.heap.size + 1 := World.size_alloc _ _
      have hWK := (KeepsOthers.alloc W (.cells #[.bool true, .int .i64 r] 98)).from wl.heap.size
      have hWJ := KeepJ.below (n := wl.heap.size) (jb := jb) (mb := mb) hal (by omega) HW.out.lt
      clear hal
      generalize hkb : W.heap.size = kb at *
      generalize W.alloc (.cells #[.bool true, .int .i64 r] 98) = W1 at *
      have hok : okS (true, (r : Int)) := show 0 ≤ (r : Int) ∧ (r : Int) ≤ 1000 by omega
      have hur := unseenL_right f1 r
      obtain ⟨W4, hupd, hm2, hg2⟩ := HM1.out.upd hok 1 (by omega)
      dsimp only [vS] at hupd
      have hm3 : MapIs W4 mb (c1 + 1) (markS f1 true r) := hm2
      have z0 := World.grownBy.cell hg2 q0 (by simp; omega)
      have z1 := World.grownBy.cell hg2 q1 (by simp; omega)
      have z2 := World.grownBy.cell hg2 q2 (by simp; omega)
      have m0 := World.grownBy.cell hg2 nn0 (by simp; omega)
      have m1 := World.grownBy.cell hg2 nn1 (by simp; omega)
      have hk4 := HK1.out.grown hg2 (Nat.le_refl _) (by omega) (fun r e => ⟨.inr (by injection e with e; exact e.symm), by injection e with e; omega⟩)
      have hwk4 := KeepsFrom.grown hWK hg2 (fun r e => by injection e with e; omega)
      have hwj4 := hWJ.grown hg2 (by omega) (by omega) (fun r e => ⟨.inr (by injection e with e; exact e.symm), by injection e with e; omega⟩)
      have ha4 := HA1.out.grown hg2 (by simp; omega)
      have hs4 := hg2.size
      gi_upto_region 7 with fail
      obtain ⟨a7, ha7⟩ : ∃ a7, a7 = encP P r := ⟨_, rfl⟩
      have d7 : W4.cell? ⟨jb, 28 + r, none⟩ = some (.int .i64 a7) := by rw [ha7]; exact (ha4 r hr).1
      have HA7 := Lib.hid ha7; clear ha7
      have ir0 : (0 : Int) ≤ (r : Int) := by omega
      have ir1 : (r : Int) < 12 := by omega
      refine wpIn_region_class (C := fun w' => ∃ n, w' = World.drewN W4 n) (by kernel_rfl) (by kernel_rfl) (by kernel_rfl) (by rintro ⟨_, _, h⟩; exact h) ⟨1, rfl⟩ ?_
      repeat (go_big_quiet_step (fail))
      refine wpQuiet_nil ?_
      intro _ hw'
      obtain ⟨nq, hw''⟩ := hw'
      subst hw''
      replace z0 : (W4.drewN nq).cell? _ = _ := z0
      replace z1 : (W4.drewN nq).cell? _ = _ := z1
      replace z2 : (W4.drewN nq).cell? _ = _ := z2
      replace ha4 : Arr (W4.drewN nq) jb 28 12 (encP P) := ha4
      replace hm3 : MapIs (W4.drewN nq) mb (c1 + 1) (markS f1 true r) := hm3.kept (grown_drewN _ _) (by simp)
      replace hk4 := hk4.drewN nq
      replace hwj4 := hwj4.drewN nq
      replace hwk4 := KeepsFrom.below hwk4 (below_drewN (Below.refl _ _) nq)
      replace hs4 : W1.heap.size ≤ (W4.drewN nq).heap.size := hs4
      clear hupd hm2 hg2 q0 q1 q2 nn0 nn1 m0 m1 d7 hWK hWJ
      generalize W4.drewN nq = W5 at *
      have hmu : unseenL (markS f1 true r) * (s.l.length + 1) = unseenL f1 * (s.l.length + 1) := by rw [hur]
      cases hP : P r with
      | none =>
        have ha0 : a7 = 0 := HA7.out.trans (encP_none.2 hP)
        subst ha0
        gi_wp2
        exact ⟨hwk4, hwj4, hk4, markS f1 true r, c1 + 1, ha4, hm3, by simp only [List.length_append, List.length_cons, List.length_nil]; omega, by omega, by rw [List.map_append]; exact HV.out.none (fun b y => by rw [sn_mark, hne]) (by rw [hne]; exact hP), vals_trans h7 (vals_mark _ _ _)⟩
      | some k =>
        have ha0 : a7 = (k : Int) + 1 := by rw [HA7.out]; unfold encP; rw [hP]
        subst ha0
        have hkm := HO.out r k hP
        have HW5 := Lib.hid (HW.out.keep hwj4 (by have := HH.out.base; omega) h0m)
        obtain ⟨b4, o4, hb4, hbl4, t1, _⟩ := HW5.out.links k hkm
        have hrg := Hli.out s.l[k] (List.getElem_mem hkm)
        have hat := atL_eq hkm
        generalize s.l[k] = lx at t1 hat hrg
        obtain ⟨v1, v2⟩ := lx
        dsimp only at t1 hrg
        obtain ⟨l', rfl⟩ := Int.eq_ofNat_of_zero_le hrg.1.1
        have hl12 : l' < 12 := by omega
        have c3 := HW5.out.c2
        rw [hb4] at c3
        have hl1 : ((netOf s.l).e k).1 = l' := by unfold netOf; dsimp only; rw [hat]; rfl
        have hw0 : IntKind.i64.wrap ((k : Int) + 1 - 1) = (k : Int) := by rw [show (k : Int) + 1 - 1 = k by omega]; exact IntWalk.i64_in _ (by omega)
        have hw1 : IntKind.i64.wrap (k : Int) = (k : Int) := IntWalk.i64_in _ (by omega)
        have hIH := IH.out (unseenL f1) (by omega) l' (markS f1 true r) (c1 + 1) W5.drew (by omega) hl12 (by omega) (HW5.out.keep (KeepJ.drewN (KeepJ.refl n0 jb mb W5) 1) (Nat.le_refl _) h0m) ha4 (hm3.kept (grown_drewN W5 1) (by simp)) z0 z1 z2
        have HIH := Lib.hid hIH
        clear hb4 hrg hat hIH
        gi_upto_region 9 with fail
        have ik0 : (0 : Int) ≤ (k : Int) := by omega
        have ik1 : (k : Int) < (s.l.length : Int) := by omega
        refine wpIn_region_held (S := fun W => W.cell? ⟨bv, 0, none⟩ = some (.func (.func 79) #[] #[.pointer (some ⟨bm, 0, none⟩), .pointer (some ⟨bj, 0, none⟩), .pointer (some ⟨bv, 0, none⟩)]) ∧ W.cell? ⟨bj, 0, none⟩ = some (.pointer (some ⟨jb, 0, none⟩)) ∧ W.cell? ⟨jb, 2, none⟩ = some (.slice (some ⟨b4, o4, none⟩) s.l.length s.ca) ∧ W.cell? ⟨b4, o4 + k * 2, none⟩ = some (.int .i64 l')) (by kernel_rfl) (by kernel_rfl) (by rintro ⟨_, _, h⟩; exact h) ?_
        refine wpAnyH_take (i := 0) (v := ?_) rfl (by kernel_rfl) (by kernel_rfl) (by kernel_rfl) (fun _ _ _ h => h) (Or.inl ⟨by rfl, ?_⟩) ⟨z2, z1, c3, t1⟩ ?_
        rotate_left 1
        · intro W hW; obtain ⟨s0, s1, s2, s3⟩ := hW; go_simp <;> with_reducible rfl
        refine wpAnyH_take (i := 1) (v := ?_) rfl (by kernel_rfl) (by kernel_rfl) (by kernel_rfl) (fun _ _ _ h => h) (Or.inl ⟨by rfl, ?_⟩) ⟨z2, z1, c3, t1⟩ ?_
        rotate_left 1
        · intro W hW; obtain ⟨s0, s1, s2, s3⟩ := hW; go_simp <;> with_reducible rfl
        refine wpAnyH_take (i := 2) (v := ?_) rfl (by kernel_rfl) (by kernel_rfl) (by kernel_rfl) (fun _ _ _ h => h) (Or.inl ⟨by rfl, ?_⟩) ⟨z2, z1, c3, t1⟩ ?_
        rotate_left 1
        · intro W hW; obtain ⟨s0, s1, s2, s3⟩ := hW; go_simp <;> with_reducible rfl
        refine wpAnyH_take (i := 3) (v := ?_) rfl (by kernel_rfl) (by kernel_rfl) (by kernel_rfl) (fun _ _ _ h => h) (Or.inl ⟨by rfl, ?_⟩) ⟨z2, z1, c3, t1⟩ ?_
        rotate_left 1
        · intro W hW; obtain ⟨s0, s1, s2, s3⟩ := hW; go_simp <;> with_reducible rfl
        refine wpAnyH_take (i := 4) (v := ?_) rfl (by kernel_rfl) (by kernel_rfl) (by kernel_rfl) (fun _ _ _ h => h) (Or.inl ⟨by rfl, ?_⟩) ⟨z2, z1, c3, t1⟩ ?_
        rotate_left 1
        · intro W hW; obtain ⟨s0, s1, s2, s3⟩ := hW; go_simp <;> with_reducible rfl
        refine wpAnyH_take (i := 5) (v := ?_) rfl (by kernel_rfl) (by kernel_rfl) (by kernel_rfl) (fun _ _ _ h => h) (Or.inl ⟨by rfl, ?_⟩) ⟨z2, z1, c3, t1⟩ ?_
        rotate_left 1
        · intro W hW; obtain ⟨s0, s1, s2, s3⟩ := hW; go_simp <;> with_reducible rfl
        refine wpAnyH_take (i := 6) (v := ?_) rfl (by kernel_rfl) (by kernel_rfl) (by kernel_rfl) (fun _ _ _ h => h) (Or.inl ⟨by rfl, ?_⟩) ⟨z2, z1, c3, t1⟩ ?_
        rotate_left 1
        · intro W hW; obtain ⟨s0, s1, s2, s3⟩ := hW; go_simp <;> with_reducible rfl
        refine wpAnyH_take (i := 7) (v := ?_) rfl (by kernel_rfl) (by kernel_rfl) (by kernel_rfl) (fun _ _ _ h => h) (Or.inl ⟨by rfl, ?_⟩) ⟨z2, z1, c3, t1⟩ ?_
        rotate_left 1
        · intro W hW; obtain ⟨s0, s1, s2, s3⟩ := hW; go_simp <;> with_reducible rfl
        refine wpAnyH_take (i := 8) (v := ?_) rfl (by kernel_rfl) (by kernel_rfl) (by kernel_rfl) (fun _ _ _ h => h) (Or.inl ⟨by rfl, ?_⟩) ⟨z2, z1, c3, t1⟩ ?_
        rotate_left 1
        · intro W hW; obtain ⟨s0, s1, s2, s3⟩ := hW; go_simp <;> with_reducible rfl
        refine wpAnyH_take (i := 9) (v := ?_) rfl (by kernel_rfl) (by kernel_rfl) (by kernel_rfl) (fun _ _ _ h => h) (Or.inl ⟨by rfl, ?_⟩) ⟨z2, z1, c3, t1⟩ ?_
        rotate_left 1
        · intro W hW; obtain ⟨s0, s1, s2, s3⟩ := hW; go_simp <;> with_reducible rfl
        refine wpAnyH_take (i := 10) (v := ?_) rfl (by kernel_rfl) (by kernel_rfl) (by kernel_rfl) (fun _ _ _ h => h) (Or.inl ⟨by rfl, ?_⟩) ⟨z2, z1, c3, t1⟩ ?_
        rotate_left 1
        · intro W hW; obtain ⟨s0, s1, s2, s3⟩ := hW; go_simp <;> with_reducible rfl
        simp only [Act.put, List.setIfInBounds_toArray]
        refine wpAnyH_ready (rs := [11]) (by kernel_rfl) (by simp) ?_
        refine AllReadyH.cons rfl (fun K hK => ?_) AllReadyH.nil
        go_simp
        refine HIH.out.mono ?_
        rintro e V4 ⟨v, rfl, rfl, f2, c2', hq⟩
        have hks := hq.keep
        have hsd : W5.drew.heap.size = W5.heap.size := rfl
        have k0 := hks.cell (by omega) (by omega) (by omega) (show W5.drew.cell? ⟨bv, 0, none⟩ = _ from z2)
        have k1 := hks.cell (by omega) (by omega) (by omega) (show W5.drew.cell? ⟨bj, 0, none⟩ = _ from z1)
        have k3 : V4.cell? ⟨jb, 2, none⟩ = _ := (hks.head 2 (by omega)).1.trans c3
        have k4 := hks.cell (by have := HH.out.base; omega) (by have := HH.out.base; omega) (by omega) (show W5.drew.cell? ⟨b4, o4 + k * 2, none⟩ = _ from t1)
        have k7 : KeepJ wl.heap.size jb mb wl V4 := (hk4.drewN 1).trans (hks.less (by omega))
        have k8 : KeepJ wl.heap.size jb mb W V4 := (hwj4.drewN 1).trans (hks.less (by omega))
        have k9 : KeepsFrom wl.heap.size W V4 := (hwk4.trans ((KeepsOthers.drew W5).from wl.heap.size)).trans ⟨hks.size, fun i o hB hi _ => (hks.block i (blk_lt hi) (by omega) (by omega)).trans hi⟩
        refine hK.out _ _ ⟨k0, k1, k3, k4⟩ (fun _ => ?_)
        clear hK K
        refine wpAnyH_done (by kernel_rfl) ?_ _
        have hvi := HV.out.some (k := x) (k0 := k) (S2 := Sn (markS f1 true r)) (fun b y => by rw [sn_mark, hne]) (by rw [hne]; exact hP) (by rw [hl1]; exact hq.vq)
        have HVI := Lib.hid hvi
        have hqa := hq.arr
        have hqm := hq.map
        have hqc := hq.cnt
        have hql := hq.less
        have hqv := hq.vals
        clear hvi hq HIH hks z0 z1 z2 c3 t1 hk4 hwj4 hwk4 ha4 hm3 k0 k1 k3 k4
        gi_wp2
        exact ⟨k9, k8, k7, f2, c2', hqa, hqm, by simp only [List.length_append, List.length_cons, List.length_nil]; omega, by omega, by rw [List.map_append]; exact HVI.out, vals_trans (vals_trans h7 (vals_mark _ _ _)) hqv⟩
    case done =>
      rintro D W hD ⟨hk, f1, c1, h2, h3, h4, h5, h6, h7⟩ hK
      clear b4 b5 b6 z0 z1 z2
      obtain ⟨o1, o2⟩ := ok_free Hli.out Hxs.out
      have HQ := Lib.hid (VisitQ.put (show VisitQ w jb mb cnt s left P f W f1 c1 from ⟨h6.finish o1 o2, h2, h3, by omega, by omega, h7, hk2l.trans (hk.less (by omega))⟩) (D := D) (by omega) (by omega) (by omega) (.deferred none))
      have HK := Lib.hid hK
      clear hk h2 h3 h4 h5 h6 hK
      go_wp2
      exact leave_mark (.tuple #[]) HK.out (by simp [results, Try.results79]) (Ret.mk ⟨rfl, f1, c1, HQ.out⟩)
    case stop => exact fun _ _ _ _ _ _ h _ => h.elim
  · have hf1 : Sn f false left := by unfold Sn; simpa using hy
    go_wp2
    exact leave_plain (.tuple #[]) (by simp [results, Try.results79]) (Ret.mk ⟨rfl, f, cnt, VQ.same hf1, HA1.out, HM1.out, Nat.le_refl _, Nat.le_refl _, fun _ => .inl rfl, HK1.out⟩)
end Go.Proofs.Ytoogfdicmpkkgaa
