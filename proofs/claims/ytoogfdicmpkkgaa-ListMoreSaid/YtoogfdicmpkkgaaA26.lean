/- cover. -/
import Derived.Test.YtoogfdicmpkkgaaA25
import Derived.Laws.EntriesVeiled
namespace Go.Proofs.Ytoogfdicmpkkgaa
open Go.RowKit Go.Shelf Go.Maps Match

theorem MapIs.blk {w w' : World} {b n : Nat} {f : Sd → Int} (h : MapIs w b n f) (e : w'.heap[b]? = w.heap[b]?) : MapIs w' b n f := by
  obtain ⟨D, ⟨es, clock, hb, rest⟩, hf⟩ := h
  exact ⟨D, ⟨es, clock, e.trans hb, rest⟩, hf⟩
/-- the items of the left list that are joined by the first k items of the right list -/
def joinedF (l : List (Int × Int)) (P : Partners) : Nat → Sd → Int
  | 0 => fun _ => 0
  | k + 1 => match P k with | none => joinedF l P k | some x => markS (joinedF l P k) false ((netOf l).e x).1
theorem joinedF_vals (l : List (Int × Int)) (P : Partners) : ∀ (k : Nat) (t : Sd), joinedF l P k t = 0 ∨ joinedF l P k t = 1
  | 0, t => .inl rfl
  | k + 1, t => by
    unfold joinedF
    cases P k with
    | none => exact joinedF_vals l P k t
    | some x =>
      dsimp only
      unfold markS
      split
      · exact .inr rfl
      · exact joinedF_vals l P k t
theorem joinedF_one (l : List (Int × Int)) (P : Partners) (i : Nat) : ∀ k : Nat, Sn (joinedF l P k) false i ↔ ∃ r x, r < k ∧ P r = some x ∧ ((netOf l).e x).1 = i
  | 0 => by unfold Sn joinedF; simp
  | k + 1 => by
    have ih := joinedF_one l P i k
    unfold joinedF
    cases hp : P k with
    | none =>
      rw [ih]
      refine ⟨fun ⟨r, x, h1, h2⟩ => ⟨r, x, by omega, h2⟩, fun ⟨r, x, h1, h2, h3⟩ => ⟨r, x, ?_, h2, h3⟩⟩
      rcases Nat.lt_succ_iff_lt_or_eq.1 h1 with h | h
      · exact h
      · rw [h, hp] at h2; cases h2
    | some y =>
      dsimp only
      rw [sn_mark, ih]
      constructor
      · rintro (⟨r, x, h1, h2⟩ | ⟨_, h⟩)
        · exact ⟨r, x, by omega, h2⟩
        · exact ⟨k, y, by omega, hp, h.symm⟩
      · rintro ⟨r, x, h1, h2, h3⟩
        rcases Nat.lt_succ_iff_lt_or_eq.1 h1 with h | h
        · exact .inl ⟨r, x, h, h2, h3⟩
        · subst h; rw [hp] at h2; injection h2 with h2; subst h2; exact .inr ⟨rfl, h3.symm⟩
/-- what has been come to from the first k items that are not joined -/
structure CS (N : Net) (p : Nat → Bool) (P : Partners) (k : Nat) (f : Sd → Int) : Prop where
  shut : ∀ x, N.ok p x → Sn f false (N.e x).1 → Sn f true (N.e x).2 ∧ ∀ y, P (N.e x).2 = some y → Sn f false (N.e y).1
  start : ∀ i, i < k → (∀ r x, r < 12 → P r = some x → (N.e x).1 ≠ i) → Sn f false i
  sound : ∀ X Y : Nat → Prop, (∀ x, N.ok p x → X (N.e x).1 → Y (N.e x).2) → (∀ r x, Y r → P r = some x → X (N.e x).1) → (∀ i, i < k → (∀ r x, r < 12 → P r = some x → (N.e x).1 ≠ i) → X i) → (∀ x, Sn f false x → X x) ∧ ∀ x, Sn f true x → Y x
  vals : ∀ t, f t = 0 ∨ f t = 1
theorem CS.zero (N : Net) (p : Nat → Bool) (P : Partners) : CS N p P 0 (fun _ => 0) :=
  ⟨fun _ _ h => by simp [Sn] at h, fun i h => by omega, fun _ _ _ _ _ => ⟨fun _ h => by simp [Sn] at h, fun _ h => by simp [Sn] at h⟩, fun _ => .inl rfl⟩
theorem CS.skip {N : Net} {p : Nat → Bool} {P : Partners} {k : Nat} {f : Sd → Int} (h : CS N p P k f) {r x : Nat} (h1 : r < 12) (h2 : P r = some x) (h3 : (N.e x).1 = k) : CS N p P (k + 1) f :=
  ⟨h.shut, fun i hi hn => by
    by_cases e : i = k
    · exact absurd (h3.trans e.symm) (hn r x h1 h2)
    · exact h.start i (by omega) hn, fun X Y a b c => h.sound X Y a b fun i hi => c i (by omega), h.vals⟩
theorem CS.visit {N : Net} {p : Nat → Bool} {P : Partners} {k : Nat} {f f' : Sd → Int} (h : CS N p P k f) (hn : ∀ r x, r < 12 → P r = some x → (N.e x).1 ≠ k) (hv : VQ N p P k (Sn f) (Sn f')) (hvs : ∀ t, f' t = f t ∨ f' t = 1) : CS N p P (k + 1) f' :=
  ⟨fun x hx hs => by
    by_cases e : Sn f false (N.e x).1
    · obtain ⟨g1, g2⟩ := h.shut x hx e
      exact ⟨hv.grow _ _ g1, fun y hy => hv.grow _ _ (g2 y hy)⟩
    · exact hv.shut _ hs e x hx rfl,
   fun i hi hj => by
    by_cases e : i = k
    · rw [e]; exact hv.here
    · exact hv.grow _ _ (h.start i (by omega) hj),
   fun X Y a b c => by
    obtain ⟨g1, g2⟩ := h.sound X Y a b fun i hi => c i (by omega)
    obtain ⟨v1, v2⟩ := hv.sound X Y a b (c k (by omega) hn)
    exact ⟨fun x hx => (v1 x hx).elim (g1 x) id, fun x hx => (v2 x hx).elim (g2 x) id⟩,
   fun t => (hvs t).elim (fun e => by rw [e]; exact h.vals t) .inr⟩
def leftsC (f : Sd → Int) (k : Nat) : List Int := ((List.range k).filter fun i => f (false, ((i : Nat) : Int)) == 0).map fun x : Nat => (x : Int)
def rightsC (f : Sd → Int) (k : Nat) : List Int := ((List.range k).filter fun i => f (true, ((i : Nat) : Int)) == 1).map fun x : Nat => (x : Int)
theorem leftsC_hit {f : Sd → Int} {k : Nat} (h : (f (false, (k : Int)) == 0) = true) : leftsC f (k + 1) = leftsC f k ++ [(k : Int)] := by unfold leftsC; rw [List.range_succ, List.filter_append]; simp [h]
theorem leftsC_miss {f : Sd → Int} {k : Nat} (h : (f (false, (k : Int)) == 0) = false) : leftsC f (k + 1) = leftsC f k := by unfold leftsC; rw [List.range_succ, List.filter_append]; simp [h]
theorem rightsC_hit {f : Sd → Int} {k : Nat} (h : (f (true, (k : Int)) == 1) = true) : rightsC f (k + 1) = rightsC f k ++ [(k : Int)] := by unfold rightsC; rw [List.range_succ, List.filter_append]; simp [h]
theorem rightsC_miss {f : Sd → Int} {k : Nat} (h : (f (true, (k : Int)) == 1) = false) : rightsC f (k + 1) = rightsC f k := by unfold rightsC; rw [List.range_succ, List.filter_append]; simp [h]
theorem leftsC_len (f : Sd → Int) (k : Nat) : (leftsC f k).length ≤ k := by
  unfold leftsC; rw [List.length_map]
  have := List.length_filter_le (fun i : Nat => f (false, (i : Int)) == 0) (List.range k)
  simpa using this
theorem rightsC_len (f : Sd → Int) (k : Nat) : (rightsC f k).length ≤ k := by
  unfold rightsC; rw [List.length_map]
  have := List.length_filter_le (fun i : Nat => f (true, (i : Int)) == 1) (List.range k)
  simpa using this

theorem KeepJ.mb {n jb mb mb' : Nat} {X Y : World} (h : KeepJ n jb mb X Y) (h1 : n ≤ mb) : KeepJ n jb mb' X Y := ⟨h.os, h.tape, h.output, h.size, fun b hb h2 _ => h.block b hb h2 (by omega), h.head⟩
/-- what stays while a cover is made -/
def CB (w : World) (jb : Nat) (P : Partners) (W : World) : Prop :=
  KeepJ w.heap.size jb w.heap.size w W ∧ W.heap[w.heap.size]? = some (.cells #[.pointer (some ⟨jb, 0, none⟩)] 62 (0, 0)) ∧ W.heap[w.heap.size + 1]? = some (.cells #[.slice none 0 0, .slice none 0 0] 27 (0, 0)) ∧ Arr W jb 28 12 (encP P)
theorem CB.grown {w : World} {jb : Nat} {P : Partners} {W W' : World} {row : Option Nat} (h : CB w jb P W) (hj : jb < w.heap.size) (hg : W.grownBy W' row) (hr : ∀ r, row = some r → w.heap.size + 2 ≤ r) : CB w jb P W' := by
  obtain ⟨h1, h2, h3, h4⟩ := h
  exact ⟨h1.grown hg (Nat.le_refl _) hj (fun r e => ⟨.inl (by have := hr r e; omega), by have := hr r e; omega⟩), blk_grown hg h2 (fun e => by have := hr _ e.symm; omega), blk_grown hg h3 (fun e => by have := hr _ e.symm; omega), h4.grown hg (fun e => by have := hr _ e.symm; omega)⟩
theorem CB.below {w : World} {jb : Nat} {P : Partners} {W W' : World} (h : CB w jb P W) (hj : jb < w.heap.size) (hb : Below W.heap.size W W') : CB w jb P W' := h.grown hj (grown_below hb) (fun r e => by cases e)
theorem CB.size {w : World} {jb : Nat} {P : Partners} {W : World} (h : CB w jb P W) : w.heap.size + 2 ≤ W.heap.size := blk_lt h.2.2.1

theorem run_neqS (i : Int) (w : World) : (binOp .neq 98 (.agg #[.bool true, .int .i64 i]) (.agg #[.bool false, .int .i64 0])).run Try.prog w = .ok (.bool true) w := by
  have u2 := Try.underlying3
  have a2 := Try.isAgg3
  have z2 := Try.sizeOf3
  have hS : Try.prog.underlying 98 = some (.struct (Try.prog.fieldsOf 98)) := by kernel_rfl
  have hp : Try.prog.stoodInHeld 98 = false := by kernel_rfl
  rw [run_neq_struct, show (10000 : Nat) = 9999 + 1 from rfl, run_equalIn_agg w 9999 98 _ _ hS hp]
  simp only [Program.fieldsOf, Try.underlying98]
  go_simp
theorem results56 {tmps : Array Value} {W : World} {b : Nat} {x y : Value} (hp : tmps.getD 2 undef = .pointer (some ⟨b, 0, none⟩)) (h0 : W.cell? ⟨b, 0, none⟩ = some x) (h1 : W.cell? ⟨b, 1, none⟩ = some y) : (results Try.f56 tmps).run Try.prog W = .ok (.agg #[x, y]) W := by
  refine results_cell_mid (fn := Try.f56) (p := 2) (ty := 27) rfl tmps W b [x, y] _ hp (fun j v hj => ?_) Try.underlying27 rfl (by kernel_rfl)
  rcases j with _ | _ | j
  · simp at hj; subst hj; exact h0
  · simp at hj; subst hj; exact h1
  · simp at hj

set_option maxRecDepth 100000 in
set_option maxHeartbeats 2000000 in
theorem cover_any (jb n0 : Nat) (s : Sh) (P : Partners) (w : World) (hh : Head n0 w jb s) (ha : Arr w jb 28 12 (encP P)) (ho : okP s.l.length P) (hL : 0 ≤ s.L ∧ s.L ≤ 12) (hR : 0 ≤ s.R ∧ s.R ≤ 12) (hlen : s.l.length ≤ 1000) (hli : ∀ x ∈ s.l, (0 ≤ x.1 ∧ x.1 < 12) ∧ 0 ≤ x.2 ∧ x.2 < 12) :
    Calls Try.prog 56 #[.pointer (some ⟨jb, 0, none⟩)] w (Ret fun v w' => (∃ C D cc cd f, v = vCover C (leftsC f s.L.toNat).length cc D (rightsC f s.R.toNat).length cd ∧ w'.ownsRow w.heap.size 3 1 (.slice C (leftsC f s.L.toNat).length cc) (leftsC f s.L.toNat).length ((leftsC f s.L.toNat).flatMap encI) ∧ w'.ownsRow w.heap.size 3 1 (.slice D (rightsC f s.R.toNat).length cd) (rightsC f s.R.toNat).length ((rightsC f s.R.toNat).flatMap encI) ∧ CS (netOf s.l) (freeP s) P s.L.toNat f) ∧ KeepJ w.heap.size jb w.heap.size w w') := by
  have HH := Lib.hid hh
  have HO := Lib.hid ho; clear ho
  have Hli := Lib.hid hli; clear hli
  have hjlt := hh.lt
  have hbase := hh.base
  clear hh
  obtain ⟨nL, hnL⟩ := Int.eq_ofNat_of_zero_le hL.1
  obtain ⟨nR, hnR⟩ := Int.eq_ofNat_of_zero_le hR.1
  have hal1 : Below w.heap.size w ((w.alloc (.cells #[.pointer (some ⟨jb, 0, none⟩)] 62)).alloc (.cells #[.slice none 0 0, .slice none 0 0] 27)) := below_alloc' (below_alloc' (Below.refl _ _) _) _
  have hcb0 : CB w jb P ((w.alloc (.cells #[.pointer (some ⟨jb, 0, none⟩)] 62)).alloc (.cells #[.slice none 0 0, .slice none 0 0] 27)) :=
    ⟨KeepJ.below hal1 (Nat.le_refl _) hjlt, blk_alloc (heap_alloc_new _ _) _, heap_alloc_at _ _ (by simp), ha.below hal1⟩
  have hmm := @run_makeMap Try.prog
  go_enter Try.func56, Try.ntmps56
  go_upto_region 1 with fail
  have hsz0 : ((w.alloc (.cells #[.pointer (some ⟨jb, 0, none⟩)] 62)).alloc (.cells #[.slice none 0 0, .slice none 0 0] 27)).heap.size = w.heap.size + 1 + 1 := by simp
  generalize (w.alloc (.cells #[.pointer (some ⟨jb, 0, none⟩)] 62)).alloc (.cells #[.slice none 0 0, .slice none 0 0] 27) = w0 at *
  have hal : Below w0.heap.size w0 (w0.alloc (.map #[] 0)) := below_alloc' (Below.refl _ _) _
  have hm0 : MapIs (w0.alloc (.map #[] 0)) (w.heap.size + 1 + 1) 0 (fun _ => 0) := by have h := MapIs.made w0; rwa [hsz0] at h
  have hcb1 := hcb0.below hjlt hal
  have HCB1 := Lib.hid hcb1
  have hsz1 : (w0.alloc (.map #[] 0)).heap.size = w.heap.size + 1 + 1 + 1 := by rw [World.size_alloc, hsz0]
  go_upto_region 2 with fail
  clear hmm hal hal1 hcb0
  generalize w0.alloc (.map #[] 0) = w1 at *
  have HR1 := Lib.hid HCB1.out.2.2.2.range
  have y0 : w1.cell? ⟨w.heap.size, 0, none⟩ = some (.pointer (some ⟨jb, 0, none⟩)) := (blk_cell HCB1.out.2.1).trans rfl
  go_upto_region 3 with (refine wpList_load_mid rfl 73 (.tmp 17) rfl jb 28 (by rfl) (rowV (encP P)).toList _ HR1.out Try.underlying73 rfl (by rw [info73, Array.length_toList, rowV_size]) ?_)
  clear y0
  have hwk : ∀ k, (encP P k) = 0 ∨ ∃ x : Nat, P k = some x ∧ encP P k = (x : Int) + 1 := fun k => by cases h : P k <;> simp [encP, h]
  go_loopw [19] (fun i wr => ∃ k : Nat, k ≤ 12 ∧ i = .int .i64 k ∧ CB w jb P wr ∧ MapIs wr (w.heap.size + 1 + 1) k (joinedF s.l P k) ∧ w.heap.size + 3 ≤ wr.heap.size) (fun i _ => 12 - (intOf i).toNat)
  case atStart => exact ⟨0, by omega, rfl, hcb1, hm0, by omega⟩
  case round =>
    clear hcb1 hm0 hsz1 HCB1 HR1
    obtain ⟨k, hk, rfl, hcb, hm, hsz⟩ := hrel
    have HC := Lib.hid hcb
    have HM := Lib.hid hm
    clear hcb hm
    by_cases hkn : k < 12
    · have hrow := run_indexV (encP P) hkn wr
      rcases hwk k with h0 | ⟨x, hx, h0⟩
      · rw [h0] at hrow
        have hj : joinedF s.l P (k + 1) = joinedF s.l P k := by rw [joinedF, encP_none.1 h0]
        go_wp2
        go_roundw
        case rel => exact ⟨k + 1, by omega, by go_num, HC.out, by rw [hj]; obtain ⟨D, hD, hf⟩ := HM.out; exact ⟨D, World.ownsMap.mono hD (by omega), hf⟩, hsz⟩
        case measure => simp [intOf]; omega
      · rw [h0] at hrow
        have hj : joinedF s.l P (k + 1) = markS (joinedF s.l P k) false ((netOf s.l).e x).1 := by rw [joinedF, hx]
        have hxm := HO.out k x hx
        have HW := Lib.hid (HH.out.keep HC.out.1 (by omega) (by omega))
        obtain ⟨b4, o4, hb4, _, t1, _⟩ := HW.out.links x hxm
        have hrg := Hli.out s.l[x] (List.getElem_mem hxm)
        have hat := atL_eq hxm
        generalize s.l[x] = lx at t1 hat hrg
        obtain ⟨v1, v2⟩ := lx
        dsimp only at t1 hrg
        obtain ⟨l', rfl⟩ := Int.eq_ofNat_of_zero_le hrg.1.1
        have c3 := HW.out.c2
        rw [hb4] at c3
        have hl1 : ((netOf s.l).e x).1 = l' := by unfold netOf; dsimp only; rw [hat]; rfl
        rw [hl1] at hj
        have hw0 : IntKind.i64.wrap ((x : Int) + 1 - 1) = (x : Int) := by rw [show (x : Int) + 1 - 1 = x by omega]; exact IntWalk.i64_in _ (by omega)
        have hw1 : IntKind.i64.wrap (x : Int) = (x : Int) := IntWalk.i64_in _ (by omega)
        have y0 : wr.cell? ⟨w.heap.size, 0, none⟩ = some (.pointer (some ⟨jb, 0, none⟩)) := (blk_cell HC.out.2.1).trans rfl
        obtain ⟨W2, hupd, hm2, hg2⟩ := HM.out.upd (s := (false, (l' : Int))) (show 0 ≤ (l' : Int) ∧ (l' : Int) ≤ 1000 by omega) 1 (by omega)
        dsimp only [vS] at hupd
        have hcb2 := HC.out.grown hjlt hg2 (fun r e => by injection e with e; omega)
        have hs2 := hg2.size
        clear hb4 hrg hat
        go_wp2
        go_roundw
        case rel => exact ⟨k + 1, by omega, by go_num, hcb2, by rw [hj]; exact hm2, by omega⟩
        case measure => simp [intOf]; omega
    · obtain rfl : k = 12 := by omega
      rw [show ((12 : Nat) : Int) = 12 from rfl]
      have hmm := @run_makeMap Try.prog
      have hmf : ∀ (fn : Fn) (first cap : Array Value) (w : World), (Instr.makeFunc fn first cap).run Try.prog w = .ok (.func fn first cap) w := fun _ _ _ _ => rfl
      obtain ⟨bS, hbS⟩ : ∃ bS, bS = wr.heap.size := ⟨_, rfl⟩
      have hal2 : Below wr.heap.size wr ((wr.alloc (.map #[] 0)).alloc (.cells #[.map (some wr.heap.size)] 96)) := below_alloc' (below_alloc' (Below.refl _ _) _) _
      have hm2 := (MapIs.made wr).alloc (.cells #[.map (some wr.heap.size)] 96)
      have hbx : ((wr.alloc (.map #[] 0)).alloc (.cells #[.map (some wr.heap.size)] 96)).heap[wr.heap.size + 1]? = some (.cells #[.map (some wr.heap.size)] 96 (0, 0)) := heap_alloc_at _ _ (by simp)
      have hsz2 : ((wr.alloc (.map #[] 0)).alloc (.cells #[.map (some wr.heap.size)] 96)).heap.size = wr.heap.size + 1 + 1 := by simp
      go_upto_region 9 with fail
      have hcbn := HC.out.below hjlt hal2
      have HMn := Lib.hid (HM.out.kept (grown_below hal2) (by simp))
      clear hmm
      generalize hv2 : (wr.alloc (.map #[] 0)).alloc (.cells #[.map (some wr.heap.size)] 96) = v2 at *
      have hb3 := heap_alloc_at v2 (.cells #[.func (.func 79) #[] #[.pointer (some ⟨wr.heap.size + 1, 0, none⟩), .pointer (some ⟨w.heap.size, 0, none⟩), .pointer (some ⟨wr.heap.size + 1 + 1, 0, none⟩)]] 103) hsz2
      have hal3 : Below v2.heap.size v2 (v2.alloc (.cells #[.func (.func 79) #[] #[.pointer (some ⟨wr.heap.size + 1, 0, none⟩), .pointer (some ⟨w.heap.size, 0, none⟩), .pointer (some ⟨wr.heap.size + 1 + 1, 0, none⟩)]] 103)) := below_alloc' (Below.refl _ _) _
      have e2 : (v2.alloc (.cells #[.func (.func 79) #[] #[.pointer (some ⟨wr.heap.size + 1, 0, none⟩), .pointer (some ⟨w.heap.size, 0, none⟩), .pointer (some ⟨wr.heap.size + 1 + 1, 0, none⟩)]] 103)).cell? ⟨wr.heap.size + 1 + 1, 0, none⟩ = some (.func (.func 79) #[] #[.pointer (some ⟨wr.heap.size + 1, 0, none⟩), .pointer (some ⟨w.heap.size, 0, none⟩), .pointer (some ⟨wr.heap.size + 1 + 1, 0, none⟩)]) := (blk_cell hb3).trans rfl
      have e0 : (v2.alloc (.cells #[.func (.func 79) #[] #[.pointer (some ⟨wr.heap.size + 1, 0, none⟩), .pointer (some ⟨w.heap.size, 0, none⟩), .pointer (some ⟨wr.heap.size + 1 + 1, 0, none⟩)]] 103)).cell? ⟨wr.heap.size + 1, 0, none⟩ = some (.map (some wr.heap.size)) := (blk_cell (i := 0) (blk_below hal3 hbx)).trans rfl
      have hcb3 := hcbn.below hjlt hal3
      have hmj := HMn.out.kept (grown_below hal3) (by simp)
      have hms := hm2.kept (grown_below hal3) (by simp)
      have hs3 := hal3.size
      have HW3 := Lib.hid (HH.out.keep hcb3.1 (by omega) (by omega))
      have c0 := HW3.out.c0
      rw [hnL] at c0
      have y0 : (v2.alloc (.cells #[.func (.func 79) #[] #[.pointer (some ⟨wr.heap.size + 1, 0, none⟩), .pointer (some ⟨w.heap.size, 0, none⟩), .pointer (some ⟨wr.heap.size + 1 + 1, 0, none⟩)]] 103)).cell? ⟨w.heap.size, 0, none⟩ = some (.pointer (some ⟨jb, 0, none⟩)) := (blk_cell hcb3.2.1).trans rfl
      have hl3 := hcb3.size
      have hlx := block_lt_of_cell e2
      dsimp only at hlx
      go_upto_region 12 with fail
      clear hb3 hal3 hmf hbx hm2 hcbn HMn hal2 c0 y0
      generalize v2.alloc (.cells #[.func (.func 79) #[] #[.pointer (some ⟨wr.heap.size + 1, 0, none⟩), .pointer (some ⟨w.heap.size, 0, none⟩), .pointer (some ⟨wr.heap.size + 1 + 1, 0, none⟩)]] 103) = v3 at *
      subst hbS
      have hbs : wr.heap.size + 3 ≤ v3.heap.size := by omega
      generalize hbb : wr.heap.size = bS at *
      clear hv2
      go_loopw [44] (fun i wr => ∃ (k : Nat) (f : Sd → Int) (cnt : Nat), k ≤ nL ∧ i = .int .i64 k ∧ CB w jb P wr ∧ MapIs wr (w.heap.size + 1 + 1) 12 (joinedF s.l P 12) ∧ MapIs wr bS cnt f ∧ cnt + unseenL f * (s.l.length + 1) ≤ 12 * (s.l.length + 1) ∧ Hid (CS (netOf s.l) (freeP s) P k f) ∧ bS + 3 ≤ wr.heap.size ∧ wr.cell? ⟨bS + 1, 0, none⟩ = some (.map (some bS)) ∧ wr.cell? ⟨bS + 1 + 1, 0, none⟩ = some (.func (.func 79) #[] #[.pointer (some ⟨bS + 1, 0, none⟩), .pointer (some ⟨w.heap.size, 0, none⟩), .pointer (some ⟨bS + 1 + 1, 0, none⟩)])) (fun i _ => nL - (intOf i).toNat)
      case atStart => exact ⟨0, fun _ => 0, 0, by omega, rfl, hcb3, hmj, hms, by have := unseenL_le (fun _ => 0); rw [Nat.zero_add]; exact Nat.mul_le_mul_right _ this, CS.zero _ _ _, hbs, e0, e2⟩
      case round =>
        clear hcb3 hmj hms e0 e2 hlx hl3 HW3 hs3 hsz2
        obtain ⟨k, f, cnt, hk, rfl, hcb, hmj, hms, hcn, HS, hsz3, e0, e2⟩ := hrel
        by_cases hkn : k < nL
        · have hlook := hmj.look (s := (false, (k : Int))) (show 0 ≤ (k : Int) ∧ (k : Int) ≤ 1000 by omega)
          have hjv := joinedF_vals s.l P 12 (false, (k : Int))
          have hj1 := joinedF_one s.l P k 12
          unfold Sn at hj1
          generalize joinedF s.l P 12 (false, (k : Int)) = vj at hlook hjv hj1
          have HCB := Lib.hid hcb
          have HMJ := Lib.hid hmj
          have HMS := Lib.hid hms
          clear hcb hmj hms
          dsimp only [vS] at hlook
          have hl3 := HCB.out.size
          rcases hjv with rfl | rfl
          · have hnj : ∀ r x, r < 12 → P r = some x → ((netOf s.l).e x).1 ≠ k := fun r x h1 h2 h3 => by
              have := hj1.2 ⟨r, x, h1, h2, h3⟩
              omega
            have hc := visit_any jb bS n0 (bS + 1) w.heap.size (bS + 1 + 1) s P (by omega) (by omega) hlen Hli.out HO.out ⟨⟨by omega, by omega⟩, ⟨by omega, by omega⟩, by omega, by omega⟩ (unseenL f) k f cnt wr (Nat.le_refl _) (by omega) (by have : 12 * (s.l.length + 1) ≤ 12 * 1001 := Nat.mul_le_mul_left _ (by omega); omega) (HH.out.keep HCB.out.1 (by omega) (by omega)) HCB.out.2.2.2 HMS.out e0 ((blk_cell HCB.out.2.1).trans rfl) e2
            have Hc := Lib.hid hc
            clear hc
            go_wp2_with fail
            refine Hc.out.mono ?_
            rintro e w4 ⟨v, rfl, rfl, f', cnt', hq⟩
            have hks := hq.keep
            have g0 := hks.cell (by omega) (by omega) (by omega) e0
            have g2 := hks.cell (by omega) (by omega) (by omega) e2
            have hcb4 : CB w jb P w4 := ⟨HCB.out.1.trans ((hks.less (by omega)).mb (by omega)), hks.blk (by omega) (by omega) (by omega) HCB.out.2.1, hks.blk (by omega) (by omega) (by omega) HCB.out.2.2.1, hq.arr⟩
            have hmj4 := HMJ.out.blk (hks.block (w.heap.size + 1 + 1) (by omega) (by omega) (by omega))
            have hms4 := hq.map
            have hcn4 := hq.cnt
            have HS4 := Lib.hid (HS.out.visit hnj hq.vq hq.vals)
            have hss := hks.size
            clear hq hks Hc e0 e2 hlook
            go_wp2
            go_roundw
            case rel => exact ⟨k + 1, f', cnt', by omega, by go_num, hcb4, hmj4, hms4, by omega, HS4, by omega, g0, g2⟩
            case measure => simp [intOf]; omega
          · obtain ⟨r, x, h1, h2, h3⟩ := hj1.1 rfl
            have HS4 := Lib.hid (HS.out.skip h1 h2 h3)
            go_wp2
            go_roundw
            case rel => exact ⟨k + 1, f, cnt, by omega, by go_num, HCB.out, HMJ.out, HMS.out, hcn, HS4, hsz3, e0, e2⟩
            case measure => simp [intOf]; omega
        · obtain rfl : k = nL := by omega
          have hbc := heap_alloc_new wr (.cells #[.slice none 0 0, .slice none 0 0] 27)
          have hal4 : Below wr.heap.size wr (wr.alloc (.cells #[.slice none 0 0, .slice none 0 0] 27)) := below_alloc' (Below.refl _ _) _
          have hcb4 := hcb.below hjlt hal4
          have hms4 := hms.kept (grown_below hal4) (by simp)
          have g0 := cell_below hal4 e0
          have HW4 := Lib.hid (HH.out.keep hcb4.1 (by omega) (by omega))
          have c0 := HW4.out.c0
          rw [hnL] at c0
          have y0 : (wr.alloc (.cells #[.slice none 0 0, .slice none 0 0] 27)).cell? ⟨w.heap.size, 0, none⟩ = some (.pointer (some ⟨jb, 0, none⟩)) := (blk_cell hcb4.2.1).trans rfl
          have hsz4 : (wr.alloc (.cells #[.slice none 0 0, .slice none 0 0] 27)).heap.size = wr.heap.size + 1 := World.size_alloc _ _
          clear hmj
          go_wp2
          clear hal4 hcb hms e0 e2 y0 c0 HW4
          generalize wr.alloc (.cells #[.slice none 0 0, .slice none 0 0] 27) = v4 at *
          generalize hbcn : wr.heap.size = bc at *
          have hsz3' := hsz3
          clear hbcn
          go_loopw [61] (fun i wr => ∃ (i' : Nat) (v1 : Value), i' ≤ k ∧ i = .int .i64 i' ∧ CB w jb P wr ∧ MapIs wr bS cnt f ∧ wr.cell? ⟨bS + 1, 0, none⟩ = some (.map (some bS)) ∧ wr.heap[bc]? = some (.cells #[v1, .slice none 0 0] 27 (0, 0)) ∧ wr.ownsRow (bc + 1) 3 1 v1 (leftsC f i').length ((leftsC f i').flatMap encI)) (fun i _ => k - (intOf i).toNat)
          case atStart => exact ⟨0, _, by omega, rfl, hcb4, hms4, g0, hbc, by simpa [leftsC] using World.ownsRow_nil v4 (bc + 1) 3 1⟩
          case round =>
            clear hcb4 hms4 g0 hbc hsz4
            obtain ⟨i', v1, hi', rfl, hcb, hms, e0, hbc, hown⟩ := hrel
            by_cases hin : i' < k
            · have hlook := hms.look (s := (false, (i' : Int))) (show 0 ≤ (i' : Int) ∧ (i' : Int) ≤ 1000 by omega)
              dsimp only [vS] at hlook
              have HCB := Lib.hid hcb
              have HMS := Lib.hid hms
              have HBC := Lib.hid hbc
              have HOW := Lib.hid hown
              have HBE := Lib.hid e0
              have hlw := blk_lt hbc
              have hll := leftsC_len f i'
              clear hcb hms hbc hown
              cases hq : (f (false, (i' : Int)) == 0)
              · have hL1 := leftsC_miss hq
                generalize f (false, (i' : Int)) = fv at hlook hq
                go_wp2
                go_roundw
                case rel => exact ⟨i' + 1, v1, by omega, by go_num, HCB.out, HMS.out, HBE.out, HBC.out, by rw [hL1]; exact HOW.out⟩
                case measure => simp [intOf]; omega
              · have hL1 := leftsC_hit hq
                generalize f (false, (i' : Int)) = fv at hlook hq
                have hbk := heap_alloc_new wr (.cells #[.int .i64 i'] 3)
                have hcl : wr.cell? ⟨bc, 0, none⟩ = some v1 := (blk_cell HBC.out).trans rfl
                have hbcA := blk_alloc HBC.out (.cells #[.int .i64 i'] 3)
                have hsA : (wr.alloc (.cells #[.int .i64 i'] 3)).heap.size = wr.heap.size + 1 := World.size_alloc _ _
                have HCA := Lib.hid (HCB.out.below hjlt (below_alloc' (Below.refl wr.heap.size wr) (.cells #[.int .i64 i'] 3)))
                have HMA := Lib.hid (HMS.out.alloc (.cells #[.int .i64 i'] 3))
                have HEA := Lib.hid (cell_alloc HBE.out (.cells #[.int .i64 i'] 3))
                have HOA := Lib.hid (HOW.out.alloc (.cells #[.int .i64 i'] 3))
                go_upto_region 22 with fail
                go_wp2_with (first | (at_builtin; refine wpList_push _ rfl (.tmp 70) (.tmp 72) 23 rfl elemI3 encI_len oneI Try.underlying23 (bc + 1) v1 (leftsC f i') rfl HOA.out (by omega) (i' : Int) wr.heap.size (by rfl) _ rfl _ _ hbk (by omega) ?_; intro g cap w6 hO6 hg6; (have hne6 : some bc ≠ v1.ownBlock := own_ne HOA.out (.inl (by omega))); (have hb6 := blk_grown hg6 hbcA hne6); (have hc6 : w6.cell? ⟨bc, 0, none⟩ = some v1 := (blk_cell hb6).trans rfl); (have hf6 : w6.frozen? ⟨bc, 0, none⟩ = false := blk_frozen hb6)))
                have hr6 := own_base HOA.out
                have hb7 := blk_set (i := 0) hb6 (.slice (some ⟨g, 0, none⟩) ((leftsC f i').length + 1) cap)
                have hcb6 := (HCA.out.grown hjlt hg6 (fun r e => by have := hr6 r e; omega)).grown hjlt (grown_setCell w6 ⟨bc, 0, none⟩ (.slice (some ⟨g, 0, none⟩) ((leftsC f i').length + 1) cap)) (fun r e => by injection e with e; simp at e; omega)
                have hms6 := (HMA.out.kept hg6 (fun e => by have := hr6 _ e.symm; omega)).kept (grown_setCell w6 ⟨bc, 0, none⟩ (.slice (some ⟨g, 0, none⟩) ((leftsC f i').length + 1) cap)) (by simp; omega)
                have he6 := cell_far (World.grownBy.cell hg6 HEA.out (fun e => by have := hr6 _ e.symm; simp at this; omega)) (show (⟨bS + 1, 0, none⟩ : Addr) ≠ ⟨bc, 0, none⟩ from fun e => by injection e; omega) (u := .slice (some ⟨g, 0, none⟩) ((leftsC f i').length + 1) cap)
                go_roundw
                case rel => exact ⟨i' + 1, _, by omega, by go_num, hcb6, hms6, he6, hb7, by rw [hL1, len_snoc]; exact ownsRow_setCell_below hO6 (by simp) _⟩
                case measure => simp [intOf]; omega
            · obtain rfl : i' = k := by omega
              have hlw := blk_lt hbc
              have hbz := heap_alloc_new wr (.cells #[.bool false, .int .i64 0] 98)
              have hal5 : Below wr.heap.size wr (wr.alloc (.cells #[.bool false, .int .i64 0] 98)) := below_alloc' (Below.refl _ _) _
              have hcb5 := hcb.below hjlt hal5
              have hms5 := hms.kept (grown_below hal5) (by simp)
              have g5 := cell_below hal5 e0
              have hbc5 := blk_below hal5 hbc
              have how5 := hown.alloc (.cells #[.bool false, .int .i64 0] 98)
              have HW5 := Lib.hid (HH.out.keep hcb5.1 (by omega) (by omega))
              have c1 := HW5.out.c1
              rw [hnR] at c1
              have y0 : (wr.alloc (.cells #[.bool false, .int .i64 0] 98)).cell? ⟨w.heap.size, 0, none⟩ = some (.pointer (some ⟨jb, 0, none⟩)) := (blk_cell hcb5.2.1).trans rfl
              have hsz5 : (wr.alloc (.cells #[.bool false, .int .i64 0] 98)).heap.size = wr.heap.size + 1 := World.size_alloc _ _
              go_wp2
              have hv1 : ∀ g, v1.ownBlock = some g → g < wr.heap.size := fun g hg => (hown.lt g hg).2
              clear hal5 hcb hms e0 hbc hown y0 c1 HW5
              generalize wr.alloc (.cells #[.bool false, .int .i64 0] 98) = v5 at *
              generalize hbzn : wr.heap.size = bz at *
              clear hbzn
              go_loopw [82] (fun i wr => ∃ (j : Nat) (v2 : Value), j ≤ nR ∧ i = .int .i64 j ∧ CB w jb P wr ∧ MapIs wr bS cnt f ∧ wr.cell? ⟨bS + 1, 0, none⟩ = some (.map (some bS)) ∧ wr.heap[bc]? = some (.cells #[v1, v2] 27 (0, 0)) ∧ wr.heap[bz]? = some (.cells #[.bool false, .int .i64 0] 98 (0, 0)) ∧ wr.ownsRow (bc + 1) 3 1 v1 (leftsC f i').length ((leftsC f i').flatMap encI) ∧ wr.ownsRow (bz + 1) 3 1 v2 (rightsC f j).length ((rightsC f j).flatMap encI)) (fun i _ => nR - (intOf i).toNat)
              case atStart => exact ⟨0, _, by omega, rfl, hcb5, hms5, g5, hbc5, hbz, how5, by simpa [rightsC] using World.ownsRow_nil v5 (bz + 1) 3 1⟩
              case round =>
                clear hcb5 hms5 g5 hbc5 hbz hsz5 how5
                obtain ⟨j, v2, hj, rfl, hcb, hms, e0, hbc, hbz, how1, how2⟩ := hrel
                by_cases hjn : j < nR
                · have hneq := run_neqS (j : Int)
                  have HCB := Lib.hid hcb
                  have HMS := Lib.hid hms
                  have HBC := Lib.hid hbc
                  have HBZ := Lib.hid hbz
                  have HO1 := Lib.hid how1
                  have HO2 := Lib.hid how2
                  have HBE := Lib.hid e0
                  have hlw := blk_lt hbz
                  have hlc := blk_lt hbc
                  have hll := rightsC_len f j
                  have halK : Below wr.heap.size wr (wr.alloc (.cells #[.bool true, .int .i64 j] 98)) := below_alloc' (Below.refl _ _) _
                  have HCK := Lib.hid (hcb.below hjlt halK)
                  have HMK := Lib.hid (hms.kept (grown_below halK) (by simp))
                  have HEK := Lib.hid (cell_below halK e0)
                  have HBK := Lib.hid (blk_below halK hbc)
                  have HZK := Lib.hid (blk_below halK hbz)
                  have HO1K := Lib.hid (how1.alloc (.cells #[.bool true, .int .i64 j] 98))
                  have HO2K := Lib.hid (how2.alloc (.cells #[.bool true, .int .i64 j] 98))
                  have hlook := HMK.out.look (s := (true, (j : Int))) (show 0 ≤ (j : Int) ∧ (j : Int) ≤ 1000 by omega)
                  dsimp only [vS] at hlook
                  have nn0 := new2_0 wr (.bool true) (.int .i64 j) 98
                  have nn1 := new2_1 wr (.bool true) (.int .i64 j) 98
                  have hsK : (wr.alloc (.cells #[.bool true, .int .i64 j] 98)).heap.size = wr.heap.size + 1 := World.size_alloc _ _
                  clear hcb hms hbc hbz how1 how2 e0
                  go_upto_region 29 with fail
                  clear halK
                  generalize wr.alloc (.cells #[.bool true, .int .i64 j] 98) = vk at *
                  generalize hkbn : wr.heap.size = kb at *
                  have z0 : vk.cell? ⟨bz, 0, none⟩ = some (.bool false) := (blk_cell HZK.out).trans rfl
                  have z1 : vk.cell? ⟨bz, 1, none⟩ = some (.int .i64 0) := (blk_cell HZK.out).trans rfl
                  have e0 := HEK.out
                  cases hq : (f (true, (j : Int)) == 1)
                  · have hL1 := rightsC_miss hq
                    generalize f (true, (j : Int)) = fv at hlook hq
                    go_wp2
                    go_roundw
                    case rel => exact ⟨j + 1, v2, by omega, by go_num, HCK.out, HMK.out, HEK.out, HBK.out, HZK.out, HO1K.out, by rw [hL1]; exact HO2K.out⟩
                    case measure => simp [intOf]; omega
                  · have hL1 := rightsC_hit hq
                    generalize f (true, (j : Int)) = fv at hlook hq
                    have hbk := heap_alloc_new vk (.cells #[.int .i64 j] 3)
                    have hcl : vk.cell? ⟨bc, 1, none⟩ = some v2 := (blk_cell HBK.out).trans rfl
                    have hbcA := blk_alloc HBK.out (.cells #[.int .i64 j] 3)
                    have hbzA := blk_alloc HZK.out (.cells #[.int .i64 j] 3)
                    have hsA : (vk.alloc (.cells #[.int .i64 j] 3)).heap.size = vk.heap.size + 1 := World.size_alloc _ _
                    have HCA := Lib.hid (HCK.out.below hjlt (below_alloc' (Below.refl vk.heap.size vk) (.cells #[.int .i64 j] 3)))
                    have HMA := Lib.hid (HMK.out.alloc (.cells #[.int .i64 j] 3))
                    have HEA := Lib.hid (cell_alloc HEK.out (.cells #[.int .i64 j] 3))
                    have HO1A := Lib.hid (HO1K.out.alloc (.cells #[.int .i64 j] 3))
                    have HO2A := Lib.hid (HO2K.out.alloc (.cells #[.int .i64 j] 3))
                    have hsK0 := Lib.hid hsK
                    go_upto_region 30 with fail
                    clear z0 z1 nn0 nn1 hlook e0
                    have hsK' : kb + 1 ≤ vk.heap.size := by omega
                    clear hsK
                    go_wp2_with (first | (at_builtin; refine wpList_push _ rfl (.tmp 97) (.tmp 99) 23 rfl elemI3 encI_len oneI Try.underlying23 (bz + 1) v2 (rightsC f j) rfl HO2A.out (by omega) (j : Int) vk.heap.size (by rfl) _ rfl _ _ hbk (by omega) ?_; intro g cap w6 hO6 hg6; (have hne6 : some bc ≠ v2.ownBlock := own_ne HO2A.out (.inl (by omega))); (have hb6 := blk_grown hg6 hbcA hne6); (have hc6 : w6.cell? ⟨bc, 1, none⟩ = some v2 := (blk_cell hb6).trans rfl); (have hf6 : w6.frozen? ⟨bc, 1, none⟩ = false := blk_frozen hb6)))
                    have hr6 := own_base HO2A.out
                    have hb7 := blk_set (i := 1) hb6 (.slice (some ⟨g, 0, none⟩) ((rightsC f j).length + 1) cap)
                    have hz7 := blk_far (blk_grown hg6 hbzA (own_ne HO2A.out (.inl (by omega)))) (show bz ≠ (⟨bc, 1, none⟩ : Addr).block by simp; omega) (.slice (some ⟨g, 0, none⟩) ((rightsC f j).length + 1) cap)
                    have hcb6 := (HCA.out.grown hjlt hg6 (fun r e => by have := hr6 r e; omega)).grown hjlt (grown_setCell w6 ⟨bc, 1, none⟩ (.slice (some ⟨g, 0, none⟩) ((rightsC f j).length + 1) cap)) (fun r e => by injection e with e; simp at e; omega)
                    have hms6 := (HMA.out.kept hg6 (fun e => by have := hr6 _ e.symm; omega)).kept (grown_setCell w6 ⟨bc, 1, none⟩ (.slice (some ⟨g, 0, none⟩) ((rightsC f j).length + 1) cap)) (by simp; omega)
                    have he6 := cell_far (World.grownBy.cell hg6 HEA.out (fun e => by have := hr6 _ e.symm; simp at this; omega)) (show (⟨bS + 1, 0, none⟩ : Addr) ≠ ⟨bc, 1, none⟩ from fun e => by injection e; omega) (u := .slice (some ⟨g, 0, none⟩) ((rightsC f j).length + 1) cap)
                    have ho17 := ownsRow_setCell_below (a := ⟨bc, 1, none⟩) (HO1A.out.kept hg6 (by
                      cases hv : v1.ownBlock with
                      | none => exact .inl rfl
                      | some g1 => exact .inr (fun e => by have := hv1 g1 hv; have := hr6 g1 e.symm; omega))) (by dsimp only; omega) (.slice (some ⟨g, 0, none⟩) ((rightsC f j).length + 1) cap)
                    go_roundw
                    case rel => exact ⟨j + 1, _, by omega, by go_num, hcb6, hms6, he6, hb7, hz7, ho17, by rw [hL1, len_snoc]; exact ownsRow_setCell_below hO6 (by dsimp only; omega) _⟩
                    case measure => simp [intOf]; omega
                · obtain rfl : j = nR := by omega
                  obtain ⟨C, cc, rfl, hcc⟩ := own_form how1
                  obtain ⟨Dd, cd, rfl, hcd⟩ := own_form how2
                  have hbt := hcb.2.2.1
                  have d0 : wr.cell? ⟨w.heap.size + 1, 0, none⟩ = some (.slice none 0 0) := (blk_cell hbt).trans rfl
                  have d1 : wr.cell? ⟨w.heap.size + 1, 1, none⟩ = some (.slice none 0 0) := (blk_cell hbt).trans rfl
                  have d2 : wr.frozen? ⟨w.heap.size + 1, 0, none⟩ = false := blk_frozen hbt
                  have d3 : wr.frozen? ⟨w.heap.size + 1, 1, none⟩ = false := blk_frozen hbt
                  have c0 : wr.cell? ⟨bc, 0, none⟩ = some (.slice C (leftsC f i').length cc) := (blk_cell hbc).trans rfl
                  have c1 : wr.cell? ⟨bc, 1, none⟩ = some (.slice Dd (rightsC f j).length cd) := (blk_cell hbc).trans rfl
                  have HF1 := Lib.hid (ownsRow_setCell_below (a := ⟨w.heap.size + 1, 1, none⟩) (ownsRow_setCell_below (a := ⟨w.heap.size + 1, 0, none⟩) how1 (by dsimp only; omega) (.slice C (leftsC f i').length cc)) (by dsimp only; omega) (.slice Dd (rightsC f j).length cd))
                  have HF2 := Lib.hid (ownsRow_setCell_below (a := ⟨w.heap.size + 1, 1, none⟩) (ownsRow_setCell_below (a := ⟨w.heap.size + 1, 0, none⟩) how2 (by dsimp only; omega) (.slice C (leftsC f i').length cc)) (by dsimp only; omega) (.slice Dd (rightsC f j).length cd))
                  have HF3 := Lib.hid ((hcb.1.setHigh (q := ⟨w.heap.size + 1, 0, none⟩) (by simp) (by simp; omega) (.slice C (leftsC f i').length cc)).setHigh (q := ⟨w.heap.size + 1, 1, none⟩) (by simp) (by simp; omega) (.slice Dd (rightsC f j).length cd))
                  have HF4 := Lib.hid (blk_set (i := 1) (blk_set (i := 0) hbt (.slice C (leftsC f i').length cc)) (.slice Dd (rightsC f j).length cd))
                  clear hms how1 how2 hcb hbz hv1
                  go_wp2
                  generalize World.setCell (World.setCell wr _ _) _ _ = V at *
                  have hiL : s.L.toNat = i' := by omega
                  have hiR : s.R.toNat = j := by omega
                  exact bodyPost_ret (results56 rfl ((blk_cell HF4.out).trans rfl) ((blk_cell HF4.out).trans rfl)) rfl (Ret.mk ⟨⟨C, Dd, cc, cd, f, by rw [hiL, hiR]; rfl, by rw [hiL]; exact own_mono HF1.out (by omega), by rw [hiR]; exact own_mono HF2.out (by omega), by rw [hiL]; exact HS.out⟩, HF3.out⟩)
end Go.Proofs.Ytoogfdicmpkkgaa
