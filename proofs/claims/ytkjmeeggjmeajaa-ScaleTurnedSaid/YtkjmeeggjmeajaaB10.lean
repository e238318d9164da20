/- met: which tones a scale meets. -/
import Derived.Test.YtkjmeeggjmeajaaR0
import Derived.Lib.SliceRun
namespace Go.Proofs.Ytkjmeeggjmeajaa
open Go.RowKit Go.Shelf
attribute [local go_sem] Oper.semAt_some

def onT (t : Tone) (x : Int) : Bool := decide (t.1 ≤ x) && decide (x ≤ t.2.1)
set_option maxHeartbeats 400000 in
theorem on_any (t : Tone) (x : Int) (w : World) : Calls Try.prog 62 #[vT t, vI x] w (Ret fun v w' => v = .bool (onT t x) ∧ Below w.heap.size w w') := by
  obtain ⟨x1, x2, x3⟩ := t
  unfold vT vI
  dsimp only
  go_enter Try.func62, Try.ntmps62
  go_wp2
  all_goals (go_ret; refine Ret.mk' ?_ ⟨rfl, below_alloc' (Below.refl _ _) _⟩; simp [onT, *]; try omega)
theorem modify_self {α : Type} (h : Array α) (i : Nat) (f : α → α) (hf : ∀ o, h[i]? = some o → f o = o) : h.modify i f = h := by
  apply Array.ext_getElem?
  intro k
  rw [Array.getElem?_modify]
  split
  · rename_i e
    subst e
    cases hk : h[i]? with
    | none => rfl
    | some o => simp [hf o hk]
  · rfl
theorem setCell_self {w : World} {a : Addr} {v : Value} (h : w.cell? a = some v) : w.setCell a v = w := by
  unfold World.setCell
  rw [modify_self]
  intro o ho
  unfold World.cell? at h
  rw [ho] at h
  cases o with
  | cells c e f =>
    dsimp only at h ⊢
    split
    · rfl
    · rename_i hs
      rw [if_neg hs] at h
      congr 1
      obtain ⟨h3, h4⟩ := Array.getElem?_eq_some_iff.1 h
      apply Array.ext_getElem?
      intro k
      rw [Array.getElem?_setIfInBounds]
      split
      · rename_i e1; subst e1; simp [h3, h4]
      · rfl
  | _ => rfl
theorem setCells_self {b : Nat} (vs : List Value) : ∀ (o : Nat) (w : World), (∀ j (h : j < vs.length), w.cell? ⟨b, o + j, none⟩ = some vs[j]) → w.setCells b o vs = w := by
  induction vs with
  | nil => intro o w _; rfl
  | cons v vs ih =>
    intro o w h
    have h0 := h 0 (by simp)
    show (w.setCell ⟨b, o, none⟩ v).setCells b (o + 1) vs = w
    rw [setCell_self (by simpa using h0)]
    exact ih (o + 1) w (fun j hj => by have := h (j + 1) (by simpa using hj); rw [show o + 1 + j = o + (j + 1) by omega]; simpa using this)
def z25 : Array Value := Array.replicate 25 (.int .i64 0)
theorem run_clear25 (w : World) (b : Nat) (ty : TypeId) (h : w.heap[b]? = some (.cells z25 70 (0, 0))) : (Builtin.clear_ #[26] ty #[.slice (some ⟨b, 0, none⟩) 25 25]).run Try.prog w = .ok (.tuple #[]) w := by
  have hz : ∀ w, (zeroValue 3).run Try.prog w = .ok (.int .i64 0) w := fun w => by kernel_rfl
  have hc : ∀ j, j < 25 → w.cell? ⟨b, 0 + j, none⟩ = some (.int .i64 0) := fun j hj => by rw [blk_cell h]; simp [z25, hj]
  rw [Lib.run_clear_slice w 26 3 ty (.int .i64 0) Try.underlying26 hz rfl rfl b 0 25 25 (by omega) (fun j hj => by rw [hc j hj]; rfl) (fun j hj => blk_frozen h)]
  rw [setCells_self _ 0 w (fun j hj => by rw [hc j (by simpa using hj), List.getElem_replicate])]
theorem asksOn (t : Tone) (w : World) : Asks w 62 #[vT t] #[] vI (fun _ => True) (onT t) := fun W x _ _ => on_any t x W
theorem enters62 : ∀ args W, (callFunc 62 args).run Try.prog W = .ok (.enter 62 args) W := fun args W => by simp [go_sem]
theorem enters73' : ∀ args W, (callFunc 73 args).run Try.prog W = .ok (.enter 73 args) W := fun args W => by simp [go_sem]

def marksV (f : Nat → Int) : Array Value := ((List.range 25).map fun i => Value.int .i64 (f i)).toArray
def marksOf (ts : List Tone) (steps : List Int) (i : Nat) : Int := if ts.any (fun t => decide (t.2.2 = (i : Int)) && steps.any (onT t)) then 1 else 0

abbrev NTone := { t : Tone // 0 ≤ t.2.2 ∧ t.2.2 < 25 }
theorem marksV_get (f : Nat → Int) {k : Nat} (hk : k < 25) : (marksV f)[k]? = some (.int .i64 (f k)) := by simp [marksV, hk]
theorem marksV_set (f g : Nat → Int) {k : Nat} (h : ∀ i, i < 25 → g i = if i = k then 1 else f i) : (marksV f).setIfInBounds k (.int .i64 1) = marksV g := by
  apply Array.ext_getElem?
  intro i
  by_cases hi : i < 25
  · rw [marksV_get g hi, Array.getElem?_setIfInBounds, h i hi]
    by_cases e : i = k
    · subst e; rw [if_pos rfl, if_pos rfl, if_pos (by simpa [marksV] using hi)]
    · rw [if_neg (fun e' => e e'.symm), if_neg e, marksV_get f hi]
  · rw [Array.getElem?_eq_none (by simp [marksV]; omega), Array.getElem?_eq_none (by simp [marksV]; omega)]
theorem marksV_ext {f g : Nat → Int} (h : ∀ i, i < 25 → f i = g i) : marksV f = marksV g := by
  apply Array.ext_getElem?
  intro i
  by_cases hi : i < 25
  · rw [marksV_get g hi, marksV_get f hi, h i hi]
  · rw [Array.getElem?_eq_none (by simp [marksV]; omega), Array.getElem?_eq_none (by simp [marksV]; omega)]
theorem marksOf_hit {pre : List Tone} {steps : List Int} {x : Tone} {k : Nat} (hk : x.2.2 = (k : Int)) (h : steps.any (onT x) = true) (i : Nat) : marksOf (pre ++ [x]) steps i = if i = k then 1 else marksOf pre steps i := by
  unfold marksOf
  rw [List.any_append]
  by_cases e : i = k
  · subst e; simp [hk, h]
  · rw [if_neg e, List.any_cons, show (decide (x.2.2 = (i : Int)) && steps.any (onT x)) = false from by rw [show decide (x.2.2 = (i : Int)) = false from decide_eq_false (by omega)]; rfl, List.any_nil, Bool.or_false, Bool.or_false]
theorem marksOf_miss {pre : List Tone} {steps : List Int} {x : Tone} (h : steps.any (onT x) = false) (i : Nat) : marksOf (pre ++ [x]) steps i = marksOf pre steps i := by
  unfold marksOf
  rw [List.any_append, List.any_cons, show (decide (x.2.2 = (i : Int)) && steps.any (onT x)) = false from by rw [h, Bool.and_false], List.any_nil, Bool.or_false, Bool.or_false]
theorem info70 : (Try.prog.info? 70).map (·.size) = some 25 := by kernel_rfl
theorem marksV_size (f : Nat → Int) : (marksV f).size = 25 := by simp [marksV]
theorem marksV_one (f : Nat → Int) : (marksV f).all (·.oneCell') = true := all_oneCell_toArray (fun v hv => by
  simp only [List.mem_map] at hv
  obtain ⟨i, _, rfl⟩ := hv
  rfl)
def MetI (A : Option Addr) (ca : Nat) (steps : List Int) (m : Nat) (w0 w : World) (pre : List NTone) (W : World) : Prop :=
  W.heap[m]? = some (.cells #[.slice A steps.length ca] 23 (0, 0)) ∧ W.heap[m + 1]? = some (.cells z25 70 (0, 0)) ∧ W.heap[m + 1 + 1]? = some (.cells (marksV (marksOf (pre.map (·.1)) steps)) 70 (0, 0)) ∧
  Below m w0 W ∧ w.heap.size ≤ W.heap.size ∧ KeepB m (m + 1 + 1 + 1) w W

set_option maxRecDepth 100000 in
set_option maxHeartbeats 2000000 in
theorem met_any (sb : Nat) (ts : List Tone) (A : Option Addr) (ca : Nat) (steps : List Int) (w : World) (hs : SongOf w.heap.size w sb ts) (hlen : ts.length ≤ 1000) (hl : IntsAt w A steps) (hn : steps.length ≤ 100000)
    (hname : ∀ t ∈ ts, 0 ≤ t.2.2 ∧ t.2.2 < 25) :
    Calls Try.prog 42 #[.pointer (some ⟨sb, 0, none⟩), .slice A steps.length ca] w (Ret fun v w' => v = .agg (marksV (marksOf ts steps)) ∧ Below w.heap.size w w') := by
  refine calls_of_wp_marks Try.func42 rfl ?_
  simp only [Try.ntmps42, List.size_toArray, List.length_cons, List.length_nil, Nat.reduceAdd, Nat.reduceSub, Array.replicate_succ, Array.replicate_zero, List.push_toArray, List.append_toArray, List.nil_append, List.cons_append]
  have Hs := Lib.hid hs; clear hs
  have Hl := Lib.hid hl; clear hl
  have Hname := Lib.hid hname; clear hname
  have hclr := run_clear25 (((w.alloc (.cells #[.slice A steps.length ca] 23)).alloc (.cells z25 70)).alloc (.cells z25 70)) (w.heap.size + 1 + 1) 0 (heap_alloc_at _ _ (by simp))
  simp only [show z25 = #[.int .i64 0, .int .i64 0, .int .i64 0, .int .i64 0, .int .i64 0, .int .i64 0, .int .i64 0, .int .i64 0, .int .i64 0, .int .i64 0, .int .i64 0, .int .i64 0, .int .i64 0, .int .i64 0, .int .i64 0, .int .i64 0, .int .i64 0, .int .i64 0, .int .i64 0, .int .i64 0, .int .i64 0, .int .i64 0, .int .i64 0, .int .i64 0, .int .i64 0] from rfl] at hclr
  go_wp2_with fail
  clear hclr
  refine (tones_any _ _ ⟨_, rfl⟩).mono ?_
  rintro e w1 ⟨v, rfl, rfl, rfl⟩
  go_wp2_with fail
  have hs0 := World.size_alloc w (.cells #[.slice A steps.length ca] 23)
  have b0 := heap_alloc_new w (.cells #[.slice A steps.length ca] 23)
  have b1 := heap_alloc_at (w.alloc (.cells #[.slice A steps.length ca] 23)) (.cells z25 70) (n := w.heap.size + 1) (by simp)
  have b2 := heap_alloc_at ((w.alloc (.cells #[.slice A steps.length ca] 23)).alloc (.cells z25 70)) (.cells z25 70) (n := w.heap.size + 1 + 1) (by simp)
  have b3 := heap_alloc_at (((w.alloc (.cells #[.slice A steps.length ca] 23)).alloc (.cells z25 70)).alloc (.cells z25 70)) (.cells #[.pointer (some ⟨sb, 0, none⟩)] 71) (n := w.heap.size + 1 + 1 + 1) (by simp)
  replace b2 := blk_alloc b2 (.cells #[.pointer (some ⟨sb, 0, none⟩)] 71)
  replace b1 := blk_alloc (blk_alloc b1 (.cells z25 70)) (.cells #[.pointer (some ⟨sb, 0, none⟩)] 71)
  replace b0 := blk_alloc (blk_alloc (blk_alloc b0 (.cells z25 70)) (.cells z25 70)) (.cells #[.pointer (some ⟨sb, 0, none⟩)] 71)
  have hB0 := below_alloc' (below_alloc' (below_alloc' (below_alloc' (Below.refl w.heap.size w) (.cells #[.slice A steps.length ca] 23)) (.cells z25 70)) (.cells z25 70)) (.cells #[.pointer (some ⟨sb, 0, none⟩)] 71)
  obtain ⟨wl, hwl⟩ : ∃ wl, (((w.alloc (.cells #[.slice A steps.length ca] 23)).alloc (.cells z25 70)).alloc (.cells z25 70)).alloc (.cells #[.pointer (some ⟨sb, 0, none⟩)] 71) = wl := ⟨_, rfl⟩
  change Code.wp _ _ _ _ ((((w.alloc (.cells #[.slice A steps.length ca] 23)).alloc (.cells z25 70)).alloc (.cells z25 70)).alloc (.cells #[.pointer (some ⟨sb, 0, none⟩)] 71))
  rw [hwl] at b0 b1 b2 b3 hB0 ⊢
  have hsz : wl.heap.size = w.heap.size + 1 + 1 + 1 + 1 := by rw [← hwl]; simp
  clear hwl hs0
  have Hsz := Lib.hid hsz; clear hsz
  have HB0 := Lib.hid hB0; clear hB0
  obtain ⟨xs, hxs⟩ : ∃ xs : List NTone, xs.map (·.1) = ts := ⟨ts.attach.map (fun t => ⟨t.1, Hname.out t.1 t.2⟩), by rw [List.map_map]; exact List.attach_map_subtype_val ts⟩
  have hxl : xs.length = ts.length := by rw [← hxs]; simp
  refine wp_range1 (gf := 73) (lb := #[.pointer (some ⟨w.heap.size + 1 + 1 + 1, 0, none⟩)]) (q := 6) (xs := xs) rfl enters73' (fun x : NTone => #[.int .i64 x.1.1, .int .i64 x.1.2.1, .int .i64 x.1.2.2]) 95 w.heap.size (w.heap.size + 1 + 1 + 1) HB0.out.size (by rw [Hsz.out]; omega)
    (tones_stopsF (·.1) 9 (by omega) _ _ sb xs (by omega) wl HB0.out.size (by rw [Hsz.out]; omega) ((blk_cell b3).trans rfl) (by rw [hxs]; exact Hs.out.below HB0.out))
    (MetI A ca steps w.heap.size w wl) (fun _ _ _ => False) ?hI ?hX ?h0 ?hsz ?assign ?body ?done ?stop
  case hI =>
    rintro pre W W' row ⟨k0, k1, k2, hB, hz, hk⟩ hg hr
    exact ⟨blk_own k0 hg hr, blk_own k1 hg hr, blk_own k2 hg hr, below_own hB HB0.out.size (Nat.le_refl _) hg hr, Nat.le_trans hz hg.size,
      fun b hb => (hg.block b (hk.lt HB0.out.size (by rw [Hsz.out]; omega) hb) (fun e => by have := (hr b e.symm).1; rw [Hsz.out] at this; omega)).trans (hk b hb)⟩
  case hX => exact fun _ _ _ _ _ h => h.elim
  case h0 => exact ⟨b0, b1, b2, HB0.out, Nat.le_refl _, KeepB.refl _ _ _⟩
  case hsz => rintro pre W ⟨k0, k1, k2, hB, hz, hk⟩; exact hz
  case assign =>
    intro l x W K hW hK
    obtain ⟨⟨x1, x2, x3⟩, hx⟩ := x
    clear b0 b1 b2 b3
    dsimp only [vT] at hK ⊢
    have HK := Lib.hid hK; clear hK
    gi_wp2
    exact HK.out
  case body =>
    rintro l pre x Bx W hBx hb ⟨k0, k1, k2, hB, hz, hk⟩ hlt
    obtain ⟨⟨x1, x2, x3⟩, hx0, hx1⟩ := x
    clear b0 b1 b2 b3
    dsimp only at hx0 hx1 hb hBx
    obtain ⟨k, rfl⟩ := Int.eq_ofNat_of_zero_le hx0
    have q1 : W.cell? ⟨Bx, 0, none⟩ = some (.int .i64 x1) := (blk_cell hb).trans rfl
    have q2 : W.cell? ⟨Bx, 1, none⟩ = some (.int .i64 x2) := (blk_cell hb).trans rfl
    have q3 : W.cell? ⟨Bx, 2, none⟩ = some (.int .i64 k) := (blk_cell hb).trans rfl
    have p0 : W.cell? ⟨w.heap.size, 0, none⟩ = some (.slice A steps.length ca) := (blk_cell k0).trans rfl
    have Hb := Lib.hid hb
    have K0 := Lib.hid k0
    have K1 := Lib.hid k1
    have K2 := Lib.hid k2
    have HB := Lib.hid hB
    have Hk := Lib.hid hk
    have Hz := Lib.hid hz
    clear hb k0 k1 k2 hB hk hz
    dsimp only [vT]
    gi_wp2_with fail
    refine ⟨trivial, ?_⟩
    refine (CallsIn.inRound l (callsIn_wide.2 (containsFuncI_any A ca steps 62 #[vT (x1, x2, (k : Int))] #[] (fun _ => True) (onT (x1, x2, (k : Int))) W (Hl.out.below HB.out) hn (fun _ _ => trivial) enters62 (asksOn _ _)))).mono ?_
    rintro e W1 ⟨v, rfl, rfl, hB1⟩
    have HB1 := Lib.hid hB1; clear hB1
    have S1 := Lib.hid ((Stp.refl wl.heap.size w.heap.size (w.heap.size + 1 + 1 + 1) W).below HB1.out (Nat.le_trans HB0.out.size Hz.out) (by have := Hz.out; have := Hsz.out; omega))
    have M1 := Lib.hid (blk_below HB1.out K2.out)
    generalize hq : steps.any (onT (x1, x2, (k : Int))) = q
    have Hq := Lib.hid hq; clear hq
    cases q
    · gi_wp2
      exact ⟨S1.out.kf, S1.out.kb, blk_below HB1.out K0.out, blk_below HB1.out K1.out, by rw [List.map_append]; exact M1.out.trans (by rw [marksV_ext (fun i _ => (marksOf_miss (pre := pre.map (·.1)) Hq.out i).symm)]; rfl), below_trans' HB.out HB1.out, Nat.le_trans Hz.out HB1.out.size, Hk.out.trans S1.out.kb⟩
    · have r1 := cell_below HB1.out q3
      have r2 : W1.cell? ⟨w.heap.size + 1 + 1, k, none⟩ = some (.int .i64 (marksOf (pre.map (·.1)) steps k)) := (blk_cell M1.out).trans (marksV_get _ (by omega))
      have r3 : W1.frozen? ⟨w.heap.size + 1 + 1, k, none⟩ = false := blk_frozen M1.out
      have HM := Lib.hid (marksV_set (marksOf (pre.map (·.1)) steps) (marksOf (pre.map (·.1) ++ [(x1, x2, (k : Int))]) steps) (k := k) (fun i _ => marksOf_hit rfl Hq.out i))
      gi_wp2
      have S2 := S1.out.setCell (p := ⟨w.heap.size + 1 + 1, k, none⟩) (by simp; omega) (by simp) (.int .i64 1)
      exact ⟨S2.kf, S2.kb, blk_far (blk_below HB1.out K0.out) (by simp; omega) _, blk_far (blk_below HB1.out K1.out) (by simp) _, by rw [List.map_append]; exact (blk_set M1.out _).trans (by rw [HM.out]; rfl), (below_trans' HB.out HB1.out).setCell (by simp; omega) _, Nat.le_trans Hz.out S2.kf.size, Hk.out.trans S2.kb⟩
  case done =>
    rintro D W hD ⟨k0, k1, k2, hB, hz, hk⟩ hK
    clear b0 b1 b2 b3
    rw [hxs] at k2
    have K1 := Lib.hid k1
    have K2 := Lib.hid k2
    have HB := Lib.hid hB
    have HK := Lib.hid hK
    have Hxs := Lib.hid hxs
    have Hxl := Lib.hid hxl
    clear k0 k1 k2 hB hz hk hK hxs hxl
    have hmD : D ≠ w.heap.size + 1 := by have := Hsz.out; omega
    have HT : Hid (W.there (w.heap.size + 1) 0 (marksV (marksOf ts steps)).size) := fun j hj => by
      rw [marksV_size] at hj
      exact ⟨by rw [blk_cell K1.out]; simp [z25, hj], blk_frozen K1.out⟩
    go_wp2_with (first | (refine wpList_load_row rfl 70 (.tmp 5) rfl (w.heap.size + 1 + 1) (by rfl) 70 _ (0, 0) _ K2.out Try.underlying70 rfl (by rw [info70, marksV_size]) ?_) | (refine wpList_store_mid rfl 70 (.tmp 4) (.tmp 20) rfl (w.heap.size + 1) 0 (marksV (marksOf ts steps)) (by rfl) (by rfl) HT.out (by rw [info70, marksV_size]) (marksV_one _) ?_))
    have hK2 : (W.setCells (w.heap.size + 1) 0 (marksV (marksOf ts steps)).toList).heap[D]? = some (.deferred (some [])) := (setCells_far hmD _ _ _).trans HK.out
    refine leave_mark (.agg (marksV (marksOf ts steps))) hK2 (results_cell_mid Try.results42 _ _ (w.heap.size + 1) (marksV (marksOf ts steps)).toList _ rfl ?_ Try.underlying70 rfl (by rw [info70, Array.length_toList, marksV_size])) (Ret.mk ⟨rfl, ?_⟩)
    · intro j v hv
      exact cell_put (World.rangeAt_setCells_same W _ _ _ (by rw [Array.length_toList]; exact HT.out) j v hv) hK2 rfl
    · exact below_put (below_setCells (by omega) _ _ _ HB.out) (by have := Hsz.out; omega) _ hK2
  case stop => exact fun _ _ _ _ _ _ h _ => h.elim
end Go.Proofs.Ytkjmeeggjmeajaa
