/- find: the walk. -/
import Derived.Test.YtoogfdicmpkkgaaB2
import Derived.WalkMore
import Derived.Sort.CutIn
namespace Go.Proofs.Ytoogfdicmpkkgaa
open Go.RowKit Go.Shelf Go.Maps Match
attribute [local go_sem] Oper.semAt_some

theorem heap_alloc_at {n : Nat} (w : World) (o : Obj) (h : w.heap.size = n) : (w.alloc o).heap[n]? = some o := by subst h; exact heap_alloc_new w o
theorem enters94 : ∀ args w, (callFunc 94 args).run Try.prog w = .ok (.enter 94 args) w := fun args w => by simp [go_sem]
theorem Arr.grown {W W' : World} {b o n : Nat} {f : Nat → Int} {row : Option Nat} (h : Arr W b o n f) (hg : W.grownBy W' row) (hne : some b ≠ row) : Arr W' b o n f := fun i hi => by
  have e := hg.block b (block_lt_of_cell (h i hi).1) hne
  exact ⟨(World.cell?_of_block (a := ⟨b, o + i, none⟩) e).trans (h i hi).1, (World.frozen?_of_block (a := ⟨b, o + i, none⟩) e).trans (h i hi).2⟩
theorem KeepJ.grown {n jb mb : Nat} {X Y Z : World} {row : Option Nat} (h : KeepJ n jb mb X Y) (hg : Y.grownBy Z row) (hn : n ≤ X.heap.size) (hj : jb < X.heap.size) (hr : ∀ r, row = some r → (n ≤ r ∨ r = mb) ∧ r ≠ jb) : KeepJ n jb mb X Z :=
  ⟨hg.os.trans h.os, hg.tape.trans h.tape, hg.output.trans h.output, Nat.le_trans h.size hg.size,
   fun b hb h1 h2 => (hg.block b (by have := h.size; omega) (fun e => by have := (hr b e.symm).1; omega)).trans (h.block b hb h1 h2),
   fun i hi => by
    have e := hg.block jb (by have := h.size; omega) (fun e => (hr jb e.symm).2 rfl)
    exact ⟨(World.cell?_of_block (a := ⟨jb, i, none⟩) e).trans (h.head i hi).1, (World.frozen?_of_block (a := ⟨jb, i, none⟩) e).trans (h.head i hi).2⟩⟩
theorem KeepJ.blk {n jb mb : Nat} {X Y : World} (h : KeepJ n jb mb X Y) {b : Nat} {o : Obj} (h1 : b < n) (h2 : b ≠ jb) (h3 : b ≠ mb) (hb : X.heap[b]? = some o) : Y.heap[b]? = some o := (h.block b h1 h2 h3).trans hb
theorem KeepJ.less {n n' jb mb : Nat} {X Y : World} (h : KeepJ n jb mb X Y) (hn : n' ≤ n) : KeepJ n' jb mb X Y := ⟨h.os, h.tape, h.output, h.size, fun b hb => h.block b (by omega), h.head⟩
/-- the same, for one loop variable (temporary q, from temporary r) that is not boxed -/
theorem wp_rangeJ1 {α : Type} {g : Operand} {r q : Tmp} {assign body : Code} {Q : Exit → Act → World → Prop} {a : Act} {w : World}
    {gf : Nat} {lb : Array Value} (hg : a.eval g = .func (.func gf) #[] lb) (eg : ∀ args w, (callFunc gf args).run Try.prog w = .ok (.enter gf args) w)
    {enc1 : α → Value} (n jb mb : Nat) (h1 : n ≤ w.heap.size) (h2 : jb < w.heap.size) {xs : List α} (hseq : SeqStopsK Fence.wide 9 Try.prog gf lb (fun x => #[enc1 x]) (KeepJ n jb mb) (fun ys => ys = xs) (fun pre => pre <+: xs) xs.length w)
    (I : List α → World → Prop) (Ix : Code → List α → World → Prop) (hI : OwnFrom w.heap.size I) (hIx : ∀ c, OwnFrom w.heap.size (Ix c)) (h0 : I [] w)
    (hassign : ∀ (l : Nat) (x : α) (W : World) (K : Act → World → Prop), K { tmps := (a.tmps.setIfInBounds r (enc1 x)).setIfInBounds q (enc1 x), defers := [] } W →
      assign.wpIn (Fence.wide.inRound l) 8 Try.prog (Exit.then K (fun _ _ _ => False)) { tmps := a.tmps.setIfInBounds r (enc1 x), defers := [] } W)
    (hbody : ∀ (l : Nat) (pre : List α) (x : α) (W : World), w.heap.size ≤ l → I pre W → pre.length < xs.length →
      body.wpIn (Fence.wide.inRound l) 8 Try.prog (ownPostG w.heap.size (KeepJ n jb mb) I Ix (pre ++ [x]) W) { tmps := (a.tmps.setIfInBounds r (enc1 x)).setIfInBounds q (enc1 x), defers := [] } W)
    (hdone : ∀ (D : Nat) (W : World), w.heap.size ≤ D → I xs W → W.heap[D]? = some (.deferred (some [])) → Q .normal { a with defers := { target := .collected D, args := #[] } :: a.defers } W)
    (hstop : ∀ (D : Nat) (c : Code) (pre : List α) (W : World), w.heap.size ≤ D → pre <+: xs → Ix c pre W → W.heap[D]? = some (.deferred (some [])) → c.wp Try.prog Q { a with defers := { target := .collected D, args := #[] } :: a.defers } W) :
    (Code.rangeFunc g #[r] assign body).wp Try.prog Q a w :=
  wp_rangeJ hg eg n jb mb h1 h2 hseq (fun _ => rfl) I Ix hI hIx h0
    (fun x a' _ => a' = { tmps := (a.tmps.setIfInBounds r (enc1 x)).setIfInBounds q (enc1 x), defers := [] }) (fun _ _ _ _ _ _ hs _ _ => hs)
    (fun l pre x W K hi hK => by
      have h := hassign l x W K (hK _ _ (KeepsFrom.refl _ _) (KeepJ.refl _ _ _ _) hi rfl)
      simpa using h)
    (fun l pre x a' W hl _ hi hax hlt => by subst hax; exact hbody l pre x W hl hi hlt)
    hdone hstop

section
variable {α : Type} (w wl : World) (jb mb cnt : Nat) (s : Sh) (p : Nat → Bool) (left : Nat) (P : Partners) (f : Sd → Int) (fx : α → Nat) (xs : List α)
/-- between two links: what has been searched for so far leads on from the beginning -/
def FI (pre : List α) (W : World) : Prop :=
  KeepJ wl.heap.size jb mb wl W ∧ ∃ P1 f1 cnt1, okP s.l.length P1 ∧ Arr W jb 28 12 (encP P1) ∧ MapIs W mb cnt1 f1 ∧ cnt1 + unseen f1 ≤ cnt + unseen f ∧ unseen f1 ≤ unseen f ∧
    (pre <+: xs → ∀ b P' S', Run (netOf s.l) p left (nxt fx pre) P1 (Seen f1) b P' S' → Run (netOf s.l) p left 0 P (Seen f) b P' S')
def FX (c : Code) (pre : List α) (W : World) : Prop :=
  c = .exit 0 ∧ KeepJ w.heap.size jb mb w W ∧ W.heap[w.heap.size + 1 + 1 + 1]? = some (.cells #[.bool true] 4 (0, 0)) ∧ ∃ P1 f1 cnt1, okP s.l.length P1 ∧ Arr W jb 28 12 (encP P1) ∧ MapIs W mb cnt1 f1 ∧ cnt1 + unseen f1 ≤ cnt + unseen f ∧ unseen f1 ≤ unseen f ∧
    (pre <+: xs → Run (netOf s.l) p left 0 P (Seen f) true P1 (Seen f1))
variable {w wl jb mb cnt s p left P f fx xs}
theorem FI.own (hj : jb < wl.heap.size) (hm : mb < wl.heap.size) : OwnFrom wl.heap.size (FI wl jb mb cnt s p left P f fx xs) := by
  rintro pre W W' row ⟨hk, P1, f1, c1, h1, h2, h3, h4⟩ hg hr
  exact ⟨hk.grown hg (Nat.le_refl _) hj (fun r e => ⟨.inl (hr r e).1, by have := (hr r e).1; omega⟩), P1, f1, c1, h1, h2.grown hg (fun e => by have := (hr _ e.symm).1; omega), h3.kept hg (fun e => by have := (hr _ e.symm).1; omega), h4⟩
theorem FX.own (hj : jb < w.heap.size) (hw : w.heap.size ≤ wl.heap.size) (hm : mb < wl.heap.size) (c : Code) : OwnFrom wl.heap.size (FX w jb mb cnt s p left P f xs c) := by
  rintro pre W W' row ⟨e, hk, hb, P1, f1, c1, h1, h2, h3, h4⟩ hg hr
  exact ⟨e, hk.grown hg (Nat.le_refl _) hj (fun r e => ⟨.inl (by have := (hr r e).1; omega), by have := (hr r e).1; omega⟩), blk_grown hg hb (fun e => by obtain ⟨_, o, ho, hc⟩ := hr _ e.symm; rw [hb] at ho; cases ho; cases hc), P1, f1, c1, h1, h2.grown hg (fun e => by have := (hr _ e.symm).1; omega), h3.kept hg (fun e => by have := (hr _ e.symm).1; omega), h4⟩
end
/-- what a search leaves behind -/
structure FindQ (w : World) (jb mb cnt : Nat) (s : Sh) (p : Nat → Bool) (left : Nat) (P : Partners) (f : Sd → Int) (b : Bool) (w' : World) (P' : Partners) (f' : Sd → Int) (cnt' : Nat) : Prop where
  run : Run (netOf s.l) p left 0 P (Seen f) b P' (Seen f')
  ok : okP s.l.length P'
  arr : Arr w' jb 28 12 (encP P')
  map : MapIs w' mb cnt' f'
  cnt : cnt' + unseen f' ≤ cnt + unseen f
  less : unseen f' ≤ unseen f
  keep : KeepJ w.heap.size jb mb w w'

theorem FindQ.put {w W : World} {jb mb cnt : Nat} {s : Sh} {p : Nat → Bool} {left : Nat} {P P' : Partners} {f f' : Sd → Int} {b : Bool} {c : Nat} (h : FindQ w jb mb cnt s p left P f b W P' f' c) {D : Nat} (h1 : w.heap.size ≤ D) (h2 : jb < D) (h3 : mb < D) (o : Obj) :
    FindQ w jb mb cnt s p left P f b (W.putObj D o) P' f' c :=
  ⟨h.run, h.ok, h.arr.grown (grownBy_putObj' W D o) (fun e => by injection e; omega), h.map.kept (grownBy_putObj' W D o) (fun e => by injection e; omega), h.cnt, h.less, h.keep.trans (KeepJ.put h1 (by omega) W o)⟩
theorem run_end {s : Sh} {left : Nat} {p : Nat → Bool} {xs : List {k : Nat // k < s.l.length}} (hxs : xs.map (·.1) = pick (wants s left p) s.l.length) (hli : ∀ x ∈ s.l, (0 ≤ x.1 ∧ x.1 < 12) ∧ 0 ≤ x.2 ∧ x.2 < 12) {P : Partners} {S : Nat → Prop} :
    Run (netOf s.l) p left (nxt (·.1) xs) P S false P S := by
  have hle : nxt (·.1) xs ≤ s.l.length := by
    unfold nxt
    cases xs.getLast? with
    | none => simp
    | some x => exact x.2
  refine run_to s.l.length (Nat.le_refl _) (s.l.length - nxt (·.1) xs) _ (by omega) (fun i h1 h2 h => ?_) (.done (Nat.le_refl _))
  have := pick_end hxs h1 h2
  rw [(wants_net h2 hli).2 h] at this
  cases this

theorem run_on {s : Sh} {left : Nat} {p : Nat → Bool} {xs pre : List {k : Nat // k < s.l.length}} {x : {k : Nat // k < s.l.length}} (hxs : xs.map (·.1) = pick (wants s left p) s.l.length) (hli : ∀ x ∈ s.l, (0 ≤ x.1 ∧ x.1 < 12) ∧ 0 ≤ x.2 ∧ x.2 < 12)
    (hpre : pre ++ [x] <+: xs) : (p x.1 = true ∧ ((netOf s.l).e x.1).1 = left) ∧ pre <+: xs ∧ ∀ {P P' : Partners} {S S' : Nat → Prop} {b : Bool}, Run (netOf s.l) p left x.1 P S b P' S' → Run (netOf s.l) p left (nxt (·.1) pre) P S b P' S' := by
  obtain ⟨h1, h2, h3, h4⟩ := pick_next hxs hpre
  refine ⟨(wants_net h2 hli).1 h1, (List.prefix_append _ _).trans hpre, fun h => run_to x.1 (Nat.le_of_lt x.2) (x.1 - nxt (·.1) pre) _ (by omega) (fun i h5 h6 h7 => ?_) h⟩
  have := h4 i h5 h6
  rw [(wants_net (by omega) hli).2 h7] at this
  cases this
theorem grown_drewN (w : World) (n : Nat) : w.grownBy (w.drewN n) none := ⟨rfl, rfl, rfl, Nat.le_refl _, fun _ _ _ => rfl⟩
theorem KeepJ.drewN {n jb mb : Nat} {X Y : World} (h : KeepJ n jb mb X Y) (q : Nat) : KeepJ n jb mb X (Y.drewN q) := ⟨h.os, h.tape, h.output, h.size, h.block, h.head⟩
theorem grown_setCell (W : World) (p : Addr) (v : Value) : W.grownBy (W.setCell p v) (some p.block) := ⟨rfl, rfl, rfl, by simp, fun i _ hne => Below.heap_setCell W p v i (fun e => hne (by rw [e]))⟩
theorem KeepJ.setP {n jb mb : Nat} {X Y : World} (h : KeepJ n jb mb X Y) (r : Nat) (v : Value) : KeepJ n jb mb X (Y.setCell ⟨jb, 28 + r, none⟩ v) :=
  ⟨h.os, h.tape, h.output, by simpa using h.size, fun b hb h1 h2 => (Below.heap_setCell Y _ v b h1).trans (h.block b hb h1 h2),
   fun i hi => ⟨(World.cell?_setCell_other Y _ _ v (fun e => by injection e; omega)).trans (h.head i hi).1, (frozen_set _ _ _ _).trans (h.head i hi).2⟩⟩
theorem KeepJ.setHigh {n jb mb : Nat} {X Y : World} (h : KeepJ n jb mb X Y) {q : Addr} (h1 : n ≤ q.block) (h2 : jb ≠ q.block) (v : Value) : KeepJ n jb mb X (Y.setCell q v) :=
  ⟨h.os, h.tape, h.output, by simpa using h.size, fun b hb h3 h4 => (Below.heap_setCell Y _ v b (by omega)).trans (h.block b hb h3 h4),
   fun i hi => ⟨(World.cell?_of_block (a := ⟨jb, i, none⟩) (Below.heap_setCell Y q v jb h2)).trans (h.head i hi).1, (frozen_set _ _ _ _).trans (h.head i hi).2⟩⟩
theorem KeepsFrom.below {B : Nat} {X Y Z : World} (h : KeepsFrom B X Y) (hb : Below Y.heap.size Y Z) : KeepsFrom B X Z := h.trans ⟨hb.size, fun k _ _ hk _ => (hb.block k (blk_lt hk)).trans hk⟩
theorem KeepsFrom.grown {B : Nat} {X Y Z : World} {row : Option Nat} (h : KeepsFrom B X Y) (hg : Y.grownBy Z row) (hr : ∀ r, row = some r → r < B) : KeepsFrom B X Z := h.trans (KeepsFrom.of_grownBy hg hr)

set_option maxRecDepth 100000 in
set_option maxHeartbeats 2000000 in
theorem find_any (jb mb n0 : Nat) (s : Sh) (g : Nat) (fst cpt : Array Value) (p : Nat → Bool) (h0m : n0 ≤ mb) (hjm : jb ≠ mb) (hlen : s.l.length ≤ 100000) (hli : ∀ x ∈ s.l, (0 ≤ x.1 ∧ x.1 < 12) ∧ 0 ≤ x.2 ∧ x.2 < 12)
    (eg : ∀ args w, (callFunc g args).run Try.prog w = .ok (.enter g args) w) : ∀ (u left : Nat) (P : Partners) (f : Sd → Int) (cnt : Nat) (w : World), unseen f ≤ u → cnt + unseen f ≤ 100000 →
    Head n0 w jb s → Arr w jb 28 12 (encP P) → okP s.l.length P → MapIs w mb cnt f → Allows g fst cpt s.l.length w.heap.size jb mb w p →
    Calls Try.prog 76 #[.pointer (some ⟨jb, 0, none⟩), .int .i64 left, .func (.func g) fst cpt, .map (some mb)] w (Ret fun v w' => ∃ b P' f' cnt', v = .bool b ∧ FindQ w jb mb cnt s p left P f b w' P' f' cnt') := by
  intro u
  induction u using Nat.strongRecOn with
  | ind u ih =>
  intro left P f cnt w hu hcnt hh ha ho hmp hal
  have IH := Lib.hid ih; clear ih
  have HH := Lib.hid hh; clear hh
  have HA := Lib.hid ha; clear ha
  have HO := Lib.hid ho; clear ho
  have HM := Lib.hid hmp; clear hmp
  have HL := Lib.hid hal; clear hal
  have Hli := Lib.hid hli; clear hli
  refine calls_of_wp_marks Try.func76 rfl ?_
  simp only [Try.ntmps76, List.size_toArray, List.length_cons, List.length_nil, Nat.reduceAdd, Nat.reduceSub, Array.replicate_succ, Array.replicate_zero, List.push_toArray, List.append_toArray, List.nil_append, List.cons_append]
  go_wp2_with fail
  go_step3
  go_wp2_with fail
  go_step3
  go_wp2_with fail
  refine (links_any _ ⟨_, rfl⟩ _ _ ⟨_, _, _, rfl⟩ _).mono ?_
  rintro e w1 ⟨v, rfl, rfl, rfl⟩
  go_wp2_with fail
  have hB0 := below_alloc' (below_alloc' (below_alloc' (below_alloc' (below_alloc' (below_alloc' (below_alloc' (Below.refl w.heap.size w) (.cells #[.pointer (some ⟨jb, 0, none⟩)] 62)) (.cells #[.func (.func g) fst cpt] 61)) (.cells #[.map (some mb)] 96)) (.cells #[.bool false] 4)) (.cells #[.pointer (some ⟨jb, 0, none⟩)] 62)) (.cells #[.int .i64 left] 3)) (.cells #[.func (.func g) fst cpt] 61)
  have b0 := heap_alloc_at w (.cells #[.pointer (some ⟨jb, 0, none⟩)] 62) rfl
  have b1 := heap_alloc_at (w.alloc (.cells #[.pointer (some ⟨jb, 0, none⟩)] 62)) (.cells #[.func (.func g) fst cpt] 61) (n := w.heap.size + 1) (by simp)
  replace b0 := blk_alloc b0 (.cells #[.func (.func g) fst cpt] 61)
  generalize hv1 : (w.alloc (.cells #[.pointer (some ⟨jb, 0, none⟩)] 62)).alloc (.cells #[.func (.func g) fst cpt] 61) = v1 at *
  have hz1 : v1.heap.size = w.heap.size + 1 + 1 := by rw [← hv1]; simp
  have b2 := heap_alloc_at v1 (.cells #[.map (some mb)] 96) hz1
  replace b0 := blk_alloc b0 (.cells #[.map (some mb)] 96)
  replace b1 := blk_alloc b1 (.cells #[.map (some mb)] 96)
  generalize hv2 : v1.alloc (.cells #[.map (some mb)] 96) = v2 at *
  have hz2 : v2.heap.size = w.heap.size + 1 + 1 + 1 := by rw [← hv2]; simp [hz1]
  have b3 := heap_alloc_at v2 (.cells #[.bool false] 4) hz2
  replace b0 := blk_alloc b0 (.cells #[.bool false] 4)
  replace b1 := blk_alloc b1 (.cells #[.bool false] 4)
  replace b2 := blk_alloc b2 (.cells #[.bool false] 4)
  generalize hv3 : v2.alloc (.cells #[.bool false] 4) = v3 at *
  have hz3 : v3.heap.size = w.heap.size + 1 + 1 + 1 + 1 := by rw [← hv3]; simp [hz2]
  have b4 := heap_alloc_at v3 (.cells #[.pointer (some ⟨jb, 0, none⟩)] 62) hz3
  replace b0 := blk_alloc b0 (.cells #[.pointer (some ⟨jb, 0, none⟩)] 62)
  replace b1 := blk_alloc b1 (.cells #[.pointer (some ⟨jb, 0, none⟩)] 62)
  replace b2 := blk_alloc b2 (.cells #[.pointer (some ⟨jb, 0, none⟩)] 62)
  replace b3 := blk_alloc b3 (.cells #[.pointer (some ⟨jb, 0, none⟩)] 62)
  generalize hv4 : v3.alloc (.cells #[.pointer (some ⟨jb, 0, none⟩)] 62) = v4 at *
  have hz4 : v4.heap.size = w.heap.size + 1 + 1 + 1 + 1 + 1 := by rw [← hv4]; simp [hz3]
  have b5 := heap_alloc_at v4 (.cells #[.int .i64 left] 3) hz4
  replace b0 := blk_alloc b0 (.cells #[.int .i64 left] 3)
  replace b1 := blk_alloc b1 (.cells #[.int .i64 left] 3)
  replace b2 := blk_alloc b2 (.cells #[.int .i64 left] 3)
  replace b3 := blk_alloc b3 (.cells #[.int .i64 left] 3)
  replace b4 := blk_alloc b4 (.cells #[.int .i64 left] 3)
  generalize hv5 : v4.alloc (.cells #[.int .i64 left] 3) = v5 at *
  have hz5 : v5.heap.size = w.heap.size + 1 + 1 + 1 + 1 + 1 + 1 := by rw [← hv5]; simp [hz4]
  have b6 := heap_alloc_at v5 (.cells #[.func (.func g) fst cpt] 61) hz5
  replace b0 := blk_alloc b0 (.cells #[.func (.func g) fst cpt] 61)
  replace b1 := blk_alloc b1 (.cells #[.func (.func g) fst cpt] 61)
  replace b2 := blk_alloc b2 (.cells #[.func (.func g) fst cpt] 61)
  replace b3 := blk_alloc b3 (.cells #[.func (.func g) fst cpt] 61)
  replace b4 := blk_alloc b4 (.cells #[.func (.func g) fst cpt] 61)
  replace b5 := blk_alloc b5 (.cells #[.func (.func g) fst cpt] 61)
  generalize hwl : v5.alloc (.cells #[.func (.func g) fst cpt] 61) = wl at *
  have hsz : wl.heap.size = w.heap.size + 1 + 1 + 1 + 1 + 1 + 1 + 1 := by rw [← hwl]; simp [hz5]
  clear hv1 hv2 hv3 hv4 hv5 hwl hz1 hz2 hz3 hz4 hz5 v1 v2 v3 v4 v5
  have HB0 := Lib.hid hB0; clear hB0
  obtain ⟨xs, hxs⟩ : ∃ xs : List {k : Nat // k < s.l.length}, xs.map (·.1) = pick (wants s left p) s.l.length := ⟨(pick (wants s left p) s.l.length).attach.map (fun t => ⟨t.1, (pick_mem.1 t.2).1⟩), by rw [List.map_map]; exact List.attach_map_subtype_val _⟩
  have hjlt := HH.out.lt
  have hmlt := HM.out.lt
  have Hxs := Lib.hid hxs; clear hxs
  refine wp_rangeJ1 (gf := 94) (lb := #[.pointer (some ⟨w.heap.size + 1 + 1 + 1 + 1, 0, none⟩), .pointer (some ⟨w.heap.size + 1 + 1 + 1 + 1 + 1, 0, none⟩), .pointer (some ⟨w.heap.size + 1 + 1 + 1 + 1 + 1 + 1, 0, none⟩)]) (q := 10) (xs := xs) (enc1 := fun x => .int .i64 (x.1 : Nat)) rfl enters94 wl.heap.size jb mb (Nat.le_refl _) (by omega)
    (links_stops (fun x : {k : Nat // k < s.l.length} => x.1) xs 9 (by omega) (w.heap.size + 1 + 1 + 1 + 1) wl.heap.size n0 jb mb s left g fst cpt p Hxs.out wl (Nat.le_refl _) (by have := HH.out.base; omega) h0m (by omega) (by omega) (by omega) eg ((blk_cell b4).trans rfl) ((blk_cell b5).trans rfl) ((blk_cell b6).trans rfl) (HH.out.below HB0.out) hlen ((HL.out.keep (KeepJ.below HB0.out (Nat.le_refl _) hjlt)).less (by omega)))
    (FI wl jb mb cnt s p left P f (·.1) xs) (FX w jb mb cnt s p left P f xs) ?hI ?hX ?h0 ?assign ?body ?done ?stop
  case hI => exact FI.own (by omega) (by omega)
  case hX => exact fun c => FX.own hjlt (by omega) (by omega) c
  case h0 => exact ⟨KeepJ.refl _ _ _ _, P, f, cnt, HO.out, HA.out.below HB0.out, HM.out.kept (grown_below HB0.out) (by simp), Nat.le_refl _, Nat.le_refl _, fun _ b P' S' h => h⟩
  case assign =>
    intro l x W K hK
    clear b0 b1 b2 b3 b4 b5 b6
    dsimp only at hK ⊢
    have HK := Lib.hid hK; clear hK
    gi_wp2
    exact HK.out
  case body =>
    rintro l pre ⟨x, hx⟩ W hl ⟨hk, P1, f1, c1, h1, h2, h3, h4, h5, h6⟩ hlt
    dsimp only
    have e0 : W.cell? ⟨w.heap.size, 0, none⟩ = some (.pointer (some ⟨jb, 0, none⟩)) := (blk_cell (hk.blk (by omega) (by omega) (by omega) b0)).trans rfl
    have e1 : W.cell? ⟨w.heap.size + 1, 0, none⟩ = some (.func (.func g) fst cpt) := (blk_cell (hk.blk (by omega) (by omega) (by omega) b1)).trans rfl
    have e2 : W.cell? ⟨w.heap.size + 1 + 1, 0, none⟩ = some (.map (some mb)) := (blk_cell (hk.blk (by omega) (by omega) (by omega) b2)).trans rfl
    have e3 := hk.blk (by omega) (by omega) (by omega) b3
    clear b0 b1 b2 b3 b4 b5 b6
    have HW := Lib.hid ((HH.out.below HB0.out).keep hk (by have := HH.out.base; omega) h0m)
    have HLW := Lib.hid (((HL.out.keep (KeepJ.below HB0.out (Nat.le_refl _) hjlt)).keep (hk.less (by omega : w.heap.size ≤ wl.heap.size))))
    obtain ⟨b3, o3, hb3, _, p1, p2⟩ := HW.out.links x hx
    have hrg := Hli.out s.l[x] (List.getElem_mem hx)
    have hat := atL_eq hx
    generalize s.l[x] = lx at p1 p2 hat hrg
    obtain ⟨y1, y2⟩ := lx
    dsimp only at p1 p2 hrg
    obtain ⟨x1, rfl⟩ := Int.eq_ofNat_of_zero_le hrg.1.1
    obtain ⟨r, rfl⟩ := Int.eq_ofNat_of_zero_le hrg.2.1
    have hr : r < 12 := by omega
    have c2 := HW.out.c2
    rw [hb3] at c2
    have hne : ((netOf s.l).e x).2 = r := by unfold netOf; dsimp only; rw [hat]; rfl
    clear hb3 hrg hat
    have hal : Below W.heap.size W (W.alloc (.cells #[.bool true, .int .i64 r] 98)) := below_alloc' (Below.refl _ _) _
    have hlook := (h3.alloc (.cells #[.bool true, .int .i64 r] 98)).look (s := (true, (r : Int))) (show 0 ≤ (r : Int) ∧ (r : Int) ≤ 1000 by omega)
    dsimp only [vS] at hlook
    have q0 := cell_alloc e0 (.cells #[.bool true, .int .i64 r] 98)
    have q1 := cell_alloc e1 (.cells #[.bool true, .int .i64 r] 98)
    have q2 := cell_alloc e2 (.cells #[.bool true, .int .i64 r] 98)
    replace e3 := blk_alloc e3 (.cells #[.bool true, .int .i64 r] 98)
    have nn0 := new2_0 W (.bool true) (.int .i64 r) 98
    have nn1 := new2_1 W (.bool true) (.int .i64 r) 98
    have HK1 := Lib.hid (hk.trans (KeepJ.below hal (by have := hk.size; omega) HW.out.lt))
    have HA1 := Lib.hid (h2.below hal)
    have HM1 := Lib.hid (h3.alloc (.cells #[.bool true, .int .i64 r] 98))
    have HW1 := Lib.hid (HW.out.below hal)
    have HO1 := Lib.hid h1
    have HR := Lib.hid h6
    have hsw : w.heap.size + 7 ≤ W.heap.size := by have := hk.size; omega
    clear h1 h2 h3 h6 hk hal
    gi_upto_region 5 with fail
    clear e0 e1 e2 p1 p2 c2
    have hsw1 : w.heap.size + 7 ≤ (W.alloc (.cells #[.bool true, .int .i64 r] 98)).heap.size := by rw [World.size_alloc]; omega
    have hWK := Lib.hid ((KeepsOthers.alloc W (.cells #[.bool true, .int .i64 r] 98)).from wl.heap.size)
    have hWJ := Lib.hid (KeepJ.below (n := wl.heap.size) (jb := jb) (mb := mb) (below_alloc' (Below.refl W.heap.size W) (.cells #[.bool true, .int .i64 r] 98)) (by have := HK1.out.size; omega) HW.out.lt)
    generalize hkb : W.heap.size = kb at *
    generalize hW1 : W.alloc (.cells #[.bool true, .int .i64 r] 98) = W1 at *
    have hnx : nxt (fun x : {k : Nat // k < s.l.length} => x.1) (pre ++ [⟨x, hx⟩]) = x + 1 := nxt_snoc _ _ _
    have hjk : jb < kb := by omega
    have hmk : mb < kb := by omega
    cases hy : (f1 (true, (r : Int)) == 1)
    · have hok : okS (true, (r : Int)) := show 0 ≤ (r : Int) ∧ (r : Int) ≤ 1000 by omega
      have hf1 : f1 (true, (r : Int)) ≠ 1 := by simpa using hy
      have hum := unseen_mark hf1 hr
      obtain ⟨W2, hupd, hm2, hg2⟩ := HM1.out.upd hok 1 (by omega)
      dsimp only [vS] at hupd
      have z0 := World.grownBy.cell hg2 q0 (by simp; omega)
      have z1 := World.grownBy.cell hg2 q1 (by simp; omega)
      have z2 := World.grownBy.cell hg2 q2 (by simp; omega)
      have m0 := World.grownBy.cell hg2 nn0 (by simp; omega)
      have m1 := World.grownBy.cell hg2 nn1 (by simp; omega)
      have z3 := blk_grown hg2 e3 (by simp; omega)
      have hm2' : MapIs W2 mb (c1 + 1) (mark f1 r) := hm2
      have hk2 := HK1.out.grown hg2 (Nat.le_refl _) (by omega) (fun r e => ⟨.inr (by injection e with e; exact e.symm), by injection e with e; omega⟩)
      have hwk2 := KeepsFrom.grown hWK.out hg2 (fun r e => by injection e with e; omega)
      have hwj2 := hWJ.out.grown hg2 (by have := HK1.out.size; omega) (by omega) (fun r e => ⟨.inr (by injection e with e; exact e.symm), by injection e with e; omega⟩)
      have ha2 := HA1.out.grown hg2 (by simp; omega)
      have hs2 := hg2.size
      gi_wp2
      obtain ⟨a7, ha7⟩ : ∃ a7, a7 = encP P1 r := ⟨_, rfl⟩
      have d7 : W2.cell? ⟨jb, 28 + r, none⟩ = some (.int .i64 a7) := by rw [ha7]; exact (ha2 r hr).1
      have HA7 := Lib.hid ha7; clear ha7
      refine wpIn_region_class (C := fun w' => ∃ n, w' = World.drewN W2 n) (by kernel_rfl) (by kernel_rfl) (by kernel_rfl) (by rintro ⟨_, _, h⟩; exact h) ⟨1, rfl⟩ ?_
      repeat (go_big_quiet_step (fail))
      refine wpQuiet_nil ?_
      intro _ hw'
      obtain ⟨nq, hw''⟩ := hw'
      subst hw''
      replace z0 : (W2.drewN nq).cell? _ = _ := z0
      replace z1 : (W2.drewN nq).cell? _ = _ := z1
      replace z2 : (W2.drewN nq).cell? _ = _ := z2
      replace m0 : (W2.drewN nq).cell? _ = _ := m0
      replace m1 : (W2.drewN nq).cell? _ = _ := m1
      replace d7 : (W2.drewN nq).cell? _ = _ := d7
      replace z3 : (W2.drewN nq).heap[_]? = _ := z3
      replace ha2 : Arr (W2.drewN nq) jb 28 12 (encP P1) := ha2
      replace hm2' : MapIs (W2.drewN nq) mb (c1 + 1) (mark f1 r) := hm2'.kept (grown_drewN _ _) (by simp)
      replace hk2 := hk2.drewN nq
      replace hwj2 := hwj2.drewN nq
      replace hwk2 := KeepsFrom.below hwk2 (below_drewN (Below.refl _ _) nq)
      replace hs2 : W1.heap.size ≤ (W2.drewN nq).heap.size := hs2
      clear hupd hm2 hg2
      generalize hW3 : W2.drewN nq = W3 at *
      have far1 : (⟨w.heap.size, 0, none⟩ : Addr) ≠ ⟨jb, 28 + r, none⟩ := fun e => by injection e; omega
      have far2 : (⟨kb, 1, none⟩ : Addr) ≠ ⟨jb, 28 + r, none⟩ := fun e => by injection e; omega
      cases hz : (a7 == 0)
      · obtain ⟨k, hPk, hak⟩ := encP_some HA7.out.symm (show a7 ≠ 0 by simpa using hz)
        subst hak
        have hkm := HO1.out r k hPk
        have HW3 := Lib.hid (HW.out.keep hwj2 (by have := HH.out.base; omega) h0m)
        obtain ⟨b4, o4, hb4, hbl4, t1, _⟩ := HW3.out.links k hkm
        have hrg := Hli.out s.l[k] (List.getElem_mem hkm)
        have hat := atL_eq hkm
        generalize s.l[k] = lx at t1 hat hrg
        obtain ⟨v1, v2⟩ := lx
        dsimp only at t1 hrg
        obtain ⟨l', rfl⟩ := Int.eq_ofNat_of_zero_le hrg.1.1
        have c3 := HW3.out.c2
        rw [hb4] at c3
        have hl1 : ((netOf s.l).e k).1 = l' := by unfold netOf; dsimp only; rw [hat]; rfl
        have HL3 := Lib.hid (((HLW.out.keep (hwj2.less (by omega : w.heap.size ≤ wl.heap.size))).keep (KeepJ.drewN (KeepJ.refl w.heap.size jb mb W3) 1)).less (by omega : w.heap.size ≤ W3.heap.size))
        have hIH := IH.out (unseen (mark f1 r)) (by omega) l' P1 (mark f1 r) (c1 + 1) W3.drew (Nat.le_refl _) (by omega) (HW3.out.keep (KeepJ.drewN (KeepJ.refl n0 jb mb W3) 1) (Nat.le_refl _) h0m) ha2 HO1.out (hm2'.kept (grown_drewN W3 1) (by simp)) HL3.out
        have HIH := Lib.hid hIH
        have hw0 : IntKind.i64.wrap ((k : Int) + 1 - 1) = (k : Int) := by rw [show (k : Int) + 1 - 1 = k by omega]; exact IntWalk.i64_in _ (by omega)
        have hw1 : IntKind.i64.wrap (k : Int) = (k : Int) := IntWalk.i64_in _ (by omega)
        clear hb4 hrg hat hIH
        gi_upto_region 10 with fail
        have ik0 : (0 : Int) ≤ (k : Int) := by omega
        have ik1 : (k : Int) < (s.l.length : Int) := by omega
        refine wpIn_region_held (S := fun W => W.cell? ⟨w.heap.size, 0, none⟩ = some (.pointer (some ⟨jb, 0, none⟩)) ∧ W.cell? ⟨w.heap.size + 1, 0, none⟩ = some (.func (.func g) fst cpt) ∧ W.cell? ⟨w.heap.size + 1 + 1, 0, none⟩ = some (.map (some mb)) ∧ W.cell? ⟨jb, 2, none⟩ = some (.slice (some ⟨b4, o4, none⟩) s.l.length s.ca) ∧ W.cell? ⟨b4, o4 + k * 2, none⟩ = some (.int .i64 l')) (by kernel_rfl) (by kernel_rfl) (by rintro ⟨_, _, h⟩; exact h) ?_
        refine wpAnyH_take (i := 0) (v := ?_) rfl (by kernel_rfl) (by kernel_rfl) (by kernel_rfl) (fun _ _ _ h => h) (Or.inl ⟨by rfl, ?_⟩) ⟨z0, z1, z2, c3, t1⟩ ?_
        rotate_left 1
        · intro W hW; obtain ⟨s0, s1, s2, s3, s4⟩ := hW; go_simp <;> with_reducible rfl
        refine wpAnyH_take (i := 1) (v := ?_) rfl (by kernel_rfl) (by kernel_rfl) (by kernel_rfl) (fun _ _ _ h => h) (Or.inl ⟨by rfl, ?_⟩) ⟨z0, z1, z2, c3, t1⟩ ?_
        rotate_left 1
        · intro W hW; obtain ⟨s0, s1, s2, s3, s4⟩ := hW; go_simp <;> with_reducible rfl
        refine wpAnyH_take (i := 2) (v := ?_) rfl (by kernel_rfl) (by kernel_rfl) (by kernel_rfl) (fun _ _ _ h => h) (Or.inl ⟨by rfl, ?_⟩) ⟨z0, z1, z2, c3, t1⟩ ?_
        rotate_left 1
        · intro W hW; obtain ⟨s0, s1, s2, s3, s4⟩ := hW; go_simp <;> with_reducible rfl
        refine wpAnyH_take (i := 3) (v := ?_) rfl (by kernel_rfl) (by kernel_rfl) (by kernel_rfl) (fun _ _ _ h => h) (Or.inl ⟨by rfl, ?_⟩) ⟨z0, z1, z2, c3, t1⟩ ?_
        rotate_left 1
        · intro W hW; obtain ⟨s0, s1, s2, s3, s4⟩ := hW; go_simp <;> with_reducible rfl
        refine wpAnyH_take (i := 4) (v := ?_) rfl (by kernel_rfl) (by kernel_rfl) (by kernel_rfl) (fun _ _ _ h => h) (Or.inl ⟨by rfl, ?_⟩) ⟨z0, z1, z2, c3, t1⟩ ?_
        rotate_left 1
        · intro W hW; obtain ⟨s0, s1, s2, s3, s4⟩ := hW; go_simp <;> with_reducible rfl
        refine wpAnyH_take (i := 5) (v := ?_) rfl (by kernel_rfl) (by kernel_rfl) (by kernel_rfl) (fun _ _ _ h => h) (Or.inl ⟨by rfl, ?_⟩) ⟨z0, z1, z2, c3, t1⟩ ?_
        rotate_left 1
        · intro W hW; obtain ⟨s0, s1, s2, s3, s4⟩ := hW; go_simp <;> with_reducible rfl
        refine wpAnyH_take (i := 6) (v := ?_) rfl (by kernel_rfl) (by kernel_rfl) (by kernel_rfl) (fun _ _ _ h => h) (Or.inl ⟨by rfl, ?_⟩) ⟨z0, z1, z2, c3, t1⟩ ?_
        rotate_left 1
        · intro W hW; obtain ⟨s0, s1, s2, s3, s4⟩ := hW; go_simp <;> with_reducible rfl
        refine wpAnyH_take (i := 7) (v := ?_) rfl (by kernel_rfl) (by kernel_rfl) (by kernel_rfl) (fun _ _ _ h => h) (Or.inl ⟨by rfl, ?_⟩) ⟨z0, z1, z2, c3, t1⟩ ?_
        rotate_left 1
        · intro W hW; obtain ⟨s0, s1, s2, s3, s4⟩ := hW; go_simp <;> with_reducible rfl
        refine wpAnyH_take (i := 8) (v := ?_) rfl (by kernel_rfl) (by kernel_rfl) (by kernel_rfl) (fun _ _ _ h => h) (Or.inl ⟨by rfl, ?_⟩) ⟨z0, z1, z2, c3, t1⟩ ?_
        rotate_left 1
        · intro W hW; obtain ⟨s0, s1, s2, s3, s4⟩ := hW; go_simp <;> with_reducible rfl
        refine wpAnyH_take (i := 9) (v := ?_) rfl (by kernel_rfl) (by kernel_rfl) (by kernel_rfl) (fun _ _ _ h => h) (Or.inl ⟨by rfl, ?_⟩) ⟨z0, z1, z2, c3, t1⟩ ?_
        rotate_left 1
        · intro W hW; obtain ⟨s0, s1, s2, s3, s4⟩ := hW; go_simp <;> with_reducible rfl
        refine wpAnyH_take (i := 10) (v := ?_) rfl (by kernel_rfl) (by kernel_rfl) (by kernel_rfl) (fun _ _ _ h => h) (Or.inl ⟨by rfl, ?_⟩) ⟨z0, z1, z2, c3, t1⟩ ?_
        rotate_left 1
        · intro W hW; obtain ⟨s0, s1, s2, s3, s4⟩ := hW; go_simp <;> with_reducible rfl
        refine wpAnyH_take (i := 11) (v := ?_) rfl (by kernel_rfl) (by kernel_rfl) (by kernel_rfl) (fun _ _ _ h => h) (Or.inl ⟨by rfl, ?_⟩) ⟨z0, z1, z2, c3, t1⟩ ?_
        rotate_left 1
        · intro W hW; obtain ⟨s0, s1, s2, s3, s4⟩ := hW; go_simp <;> with_reducible rfl
        refine wpAnyH_take (i := 12) (v := ?_) rfl (by kernel_rfl) (by kernel_rfl) (by kernel_rfl) (fun _ _ _ h => h) (Or.inl ⟨by rfl, ?_⟩) ⟨z0, z1, z2, c3, t1⟩ ?_
        rotate_left 1
        · intro W hW; obtain ⟨s0, s1, s2, s3, s4⟩ := hW; go_simp <;> with_reducible rfl
        simp only [Act.put, List.setIfInBounds_toArray]
        refine wpAnyH_ready (rs := [13]) (by kernel_rfl) (by simp) ?_
        refine AllReadyH.cons rfl (fun K hK => ?_) AllReadyH.nil
        go_simp
        refine HIH.out.mono ?_
        rintro e V4 ⟨v, rfl, bb, P2, f2, c2', rfl, hq⟩
        have hks := hq.keep
        have k0 := hks.cell (show w.heap.size < W3.drew.heap.size by show w.heap.size < W3.heap.size; omega) (by omega) (by omega) (show W3.drew.cell? ⟨w.heap.size, 0, none⟩ = _ from z0)
        have k1 := hks.cell (show w.heap.size + 1 < W3.drew.heap.size by show w.heap.size + 1 < W3.heap.size; omega) (by omega) (by omega) (show W3.drew.cell? ⟨w.heap.size + 1, 0, none⟩ = _ from z1)
        have k2 := hks.cell (show w.heap.size + 1 + 1 < W3.drew.heap.size by show w.heap.size + 1 + 1 < W3.heap.size; omega) (by omega) (by omega) (show W3.drew.cell? ⟨w.heap.size + 1 + 1, 0, none⟩ = _ from z2)
        have k3 : V4.cell? ⟨jb, 2, none⟩ = _ := (hks.head 2 (by omega)).1.trans c3
        have k4 := hks.cell (show b4 < W3.drew.heap.size by show b4 < W3.heap.size; have := HH.out.base; omega) (by have := HH.out.base; omega) (by omega) (show W3.drew.cell? ⟨b4, o4 + k * 2, none⟩ = _ from t1)
        have k5 := hks.cell (show kb < W3.drew.heap.size by show kb < W3.heap.size; have := block_lt_of_cell m1; exact this) (by omega) (by omega) (show W3.drew.cell? ⟨kb, 1, none⟩ = _ from m1)
        have k6 := hks.blk (show w.heap.size + 1 + 1 + 1 < W3.drew.heap.size by show w.heap.size + 1 + 1 + 1 < W3.heap.size; omega) (by omega) (by omega) (show W3.drew.heap[w.heap.size + 1 + 1 + 1]? = _ from z3)
        have k7 : KeepJ wl.heap.size jb mb wl V4 := (hk2.drewN 1).trans (hks.less (show wl.heap.size ≤ W3.heap.size by omega))
        have k8 : KeepJ wl.heap.size jb mb W V4 := (hwj2.drewN 1).trans (hks.less (show wl.heap.size ≤ W3.heap.size by omega))
        have k9 : KeepsFrom wl.heap.size W V4 := (hwk2.trans ((KeepsOthers.drew W3).from wl.heap.size)).trans ⟨hks.size, fun i o hB hi _ => (hks.block i (blk_lt hi) (by omega) (by omega)).trans hi⟩
        clear z0 z1 z2 m0 m1 z3 d7 ha2 hm2' hk2 hwk2 hwj2 c3 t1
        have z0 := k0
        have m1 := k5
        have z3 := k6
        have ha2 := hq.arr
        have hm2' := hq.map
        have hk2 := k7
        have hwk2 := k9
        have hok2 := hq.ok
        have Hrun := Lib.hid hq.run
        have hqc := hq.cnt
        have hql := hq.less
        clear hq HIH k7 k9 k5 k6 hks
        refine hK.out _ _ ⟨k0, k1, k2, k3, k4⟩ (fun _ => ?_)
        clear hK K
        refine wpAnyH_take (i := 14) (v := ?_) rfl (by kernel_rfl) (by kernel_rfl) (by kernel_rfl) (fun _ _ _ h => h) (Or.inl ⟨by rfl, ?_⟩) ⟨k0, k1, k2, k3, k4⟩ ?_
        rotate_left 1
        · intro W hW; obtain ⟨s0, s1, s2, s3, s4⟩ := hW; go_simp <;> with_reducible rfl
        simp only [Act.put, List.setIfInBounds_toArray]
        refine wpAnyH_done (by kernel_rfl) ?_ _
        clear k0 k1 k2 k3 k4
        cases bb
        · gi_wp2
          refine ⟨hwk2, k8, hk2, P2, f2, c2', hok2, ha2, hm2', by omega, by omega, fun hpre b P' S' hrun => ?_⟩
          obtain ⟨⟨g0, g1⟩, g2, g3⟩ := run_on Hxs.out Hli.out hpre
          rw [hnx] at hrun
          exact HR.out g2 _ _ _ (g3 (.stay hx g0 g1 (by rw [hne]; exact hf1) (by rw [hne]; exact hPk) (by rw [hne, hl1, ← seen_mark]; exact Hrun.out) hrun))
        · have hok4 := hok2.put (r := r) hx
          gi_upto_region 12 with fail
          obtain ⟨hd, hfz⟩ := ha2 r hr
          have ir0 : (0 : Int) ≤ (r : Int) := by omega
          have ir1 : (r : Int) < 12 := by omega
          have hw : IntKind.i64.wrap ((x : Int) + 1) = (x : Int) + 1 := IntWalk.i64_in _ (by omega)
          refine wpIn_region_held (S := fun W => W.cell? ⟨w.heap.size, 0, none⟩ = some (.pointer (some ⟨jb, 0, none⟩)) ∧ W.cell? ⟨kb, 1, none⟩ = some (.int .i64 r)) (by kernel_rfl) (by kernel_rfl) (by rintro ⟨_, _, h⟩; exact h) ?_
          refine wpAnyH_take (i := 0) (v := ?_) rfl (by kernel_rfl) (by kernel_rfl) (by kernel_rfl) (fun _ _ _ h => h) (Or.inl ⟨by rfl, ?_⟩) ⟨z0, m1⟩ ?_
          rotate_left 1
          · intro W hW; obtain ⟨s0, s1⟩ := hW; go_simp <;> with_reducible rfl
          refine wpAnyH_take (i := 1) (v := ?_) rfl (by kernel_rfl) (by kernel_rfl) (by kernel_rfl) (fun _ _ _ h => h) (Or.inl ⟨by rfl, ?_⟩) ⟨z0, m1⟩ ?_
          rotate_left 1
          · intro W hW; obtain ⟨s0, s1⟩ := hW; go_simp <;> with_reducible rfl
          refine wpAnyH_take (i := 2) (v := ?_) rfl (by kernel_rfl) (by kernel_rfl) (by kernel_rfl) (fun _ _ _ h => h) (Or.inl ⟨by rfl, ?_⟩) ⟨z0, m1⟩ ?_
          rotate_left 1
          · intro W hW; obtain ⟨s0, s1⟩ := hW; go_simp <;> with_reducible rfl
          refine wpAnyH_take (i := 3) (v := ?_) rfl (by kernel_rfl) (by kernel_rfl) (by kernel_rfl) (fun _ _ _ h => h) (Or.inl ⟨by rfl, ?_⟩) ⟨z0, m1⟩ ?_
          rotate_left 1
          · intro W hW; obtain ⟨s0, s1⟩ := hW; go_simp <;> with_reducible rfl
          refine wpAnyH_take (i := 4) (v := ?_) rfl (by kernel_rfl) (by kernel_rfl) (by kernel_rfl) (fun _ _ _ h => h) (Or.inl ⟨by rfl, ?_⟩) ⟨z0, m1⟩ ?_
          rotate_left 1
          · intro W hW; obtain ⟨s0, s1⟩ := hW; go_simp <;> with_reducible rfl
          refine wpAnyH_take (i := 5) (v := ?_) rfl (by kernel_rfl) (by kernel_rfl) (by kernel_rfl) (fun _ _ _ h => h) (Or.inl ⟨by rfl, ?_⟩) ⟨z0, m1⟩ ?_
          rotate_left 1
          · intro W hW; obtain ⟨s0, s1⟩ := hW; go_simp <;> with_reducible rfl
          refine wpAnyH_take (i := 6) (v := ?_) rfl (by kernel_rfl) (by kernel_rfl) (by kernel_rfl) (fun _ _ _ h => h) (Or.inl ⟨by rfl, ?_⟩) ⟨z0, m1⟩ ?_
          rotate_left 1
          · intro W hW; obtain ⟨s0, s1⟩ := hW; go_simp <;> with_reducible rfl
          refine wpAnyH_take (i := 7) (v := ?_) rfl (by kernel_rfl) (by kernel_rfl) (by kernel_rfl) (fun _ _ _ h => h) (Or.inl ⟨by rfl, ?_⟩) ⟨z0, m1⟩ ?_
          rotate_left 1
          · intro W hW; obtain ⟨s0, s1⟩ := hW; go_simp <;> with_reducible rfl
          simp only [Act.put, List.setIfInBounds_toArray]
          refine wpAnyH_ready (rs := [8]) (by kernel_rfl) (by simp) ?_
          refine AllReadyH.cons rfl (fun K hK => ?_) AllReadyH.nil
          go_simp
          refine hK.out _ _ ⟨cell_far z0 far1, cell_far m1 far2⟩ (fun _ => ?_)
          clear hK K
          refine wpAnyH_done (by kernel_rfl) ?_ _
          have ha4 : Arr (V4.setCell ⟨jb, 28 + r, none⟩ (.int .i64 ((x : Int) + 1))).drew jb 28 12 (encP (putP P2 r x)) := (show Arr (V4.setCell ⟨jb, 28 + r, none⟩ (.int .i64 ((x : Int) + 1))) jb 28 12 (encP (putP P2 r x)) from (ha2.set hr ((x : Int) + 1)).congr fun i _ => (encP_put P2 r x i).symm)
          have hm4 : MapIs (V4.setCell ⟨jb, 28 + r, none⟩ (.int .i64 ((x : Int) + 1))).drew mb c2' f2 := (hm2'.kept (grown_setCell _ _ _) (by simp; omega)).kept (grown_drewN _ 1) (by simp)
          have hk4 : KeepJ wl.heap.size jb mb wl (V4.setCell ⟨jb, 28 + r, none⟩ (.int .i64 ((x : Int) + 1))).drew := (hk2.setP r (.int .i64 ((x : Int) + 1))).drewN 1
          have hwk4 : KeepsFrom wl.heap.size W (V4.setCell ⟨jb, 28 + r, none⟩ (.int .i64 ((x : Int) + 1))).drew := (hwk2.trans ((KeepsOthers.setCell V4 _ _).from wl.heap.size)).trans ((KeepsOthers.drew (V4.setCell ⟨jb, 28 + r, none⟩ (.int .i64 ((x : Int) + 1)))).from wl.heap.size)
          have z4 : (V4.setCell ⟨jb, 28 + r, none⟩ (.int .i64 ((x : Int) + 1))).drew.heap[w.heap.size + 1 + 1 + 1]? = some (.cells #[.bool false] 4 (0, 0)) := blk_far z3 (by simp; omega) _
          clear z0 m1 z3 ha2 hm2' hk2 hwk2 hd hfz
          generalize (V4.setCell ⟨jb, 28 + r, none⟩ (.int .i64 ((x : Int) + 1))).drew = W4 at ha4 hm4 hk4 hwk4 z4 ⊢
          have u0 : W4.cell? ⟨w.heap.size + 1 + 1 + 1, 0, none⟩ = some (.bool false) := (blk_cell z4).trans rfl
          have u1 : W4.frozen? ⟨w.heap.size + 1 + 1 + 1, 0, none⟩ = false := blk_frozen z4
          gi_wp2
          refine ⟨hwk4.trans ((KeepsOthers.setCell W4 _ _).from _), rfl, ((KeepJ.below HB0.out (Nat.le_refl _) hjlt).trans (hk4.less (by omega))).setHigh (by simp; omega) (by simp; omega) _, (blk_set z4 _).trans rfl, putP P2 r x, f2, c2', hok4, ha4.far_block (by simp; omega) _, hm4.kept (grown_setCell _ _ _) (by simp; omega), (by omega), (by omega), fun hpre => ?_⟩
          obtain ⟨⟨g0, g1⟩, g2, g3⟩ := run_on Hxs.out Hli.out hpre
          exact HR.out g2 _ _ _ (g3 (by have h := Run.give (N := netOf s.l) (p := p) (l := left) (t := x) (P := P1) (S := Seen f1) hx g0 g1 (by rw [hne]; exact hf1) (by rw [hne]; exact hPk) (by rw [hne, hl1, ← seen_mark]; exact Hrun.out); rw [hne] at h; exact h))
      · have hp0 : P1 r = none := encP_none.1 (by rw [← HA7.out]; simpa using hz)
        have hok4 := HO1.out.put (r := r) hx
        gi_upto_region 12 with fail
        obtain ⟨hd, hfz⟩ := ha2 r hr
        have ir0 : (0 : Int) ≤ (r : Int) := by omega
        have ir1 : (r : Int) < 12 := by omega
        have hw : IntKind.i64.wrap ((x : Int) + 1) = (x : Int) + 1 := IntWalk.i64_in _ (by omega)
        refine wpIn_region_held (S := fun W => W.cell? ⟨w.heap.size, 0, none⟩ = some (.pointer (some ⟨jb, 0, none⟩)) ∧ W.cell? ⟨kb, 1, none⟩ = some (.int .i64 r)) (by kernel_rfl) (by kernel_rfl) (by rintro ⟨_, _, h⟩; exact h) ?_
        refine wpAnyH_take (i := 0) (v := ?_) rfl (by kernel_rfl) (by kernel_rfl) (by kernel_rfl) (fun _ _ _ h => h) (Or.inl ⟨by rfl, ?_⟩) ⟨z0, m1⟩ ?_
        rotate_left 1
        · intro W hW; obtain ⟨s0, s1⟩ := hW; go_simp <;> with_reducible rfl
        refine wpAnyH_take (i := 1) (v := ?_) rfl (by kernel_rfl) (by kernel_rfl) (by kernel_rfl) (fun _ _ _ h => h) (Or.inl ⟨by rfl, ?_⟩) ⟨z0, m1⟩ ?_
        rotate_left 1
        · intro W hW; obtain ⟨s0, s1⟩ := hW; go_simp <;> with_reducible rfl
        refine wpAnyH_take (i := 2) (v := ?_) rfl (by kernel_rfl) (by kernel_rfl) (by kernel_rfl) (fun _ _ _ h => h) (Or.inl ⟨by rfl, ?_⟩) ⟨z0, m1⟩ ?_
        rotate_left 1
        · intro W hW; obtain ⟨s0, s1⟩ := hW; go_simp <;> with_reducible rfl
        refine wpAnyH_take (i := 3) (v := ?_) rfl (by kernel_rfl) (by kernel_rfl) (by kernel_rfl) (fun _ _ _ h => h) (Or.inl ⟨by rfl, ?_⟩) ⟨z0, m1⟩ ?_
        rotate_left 1
        · intro W hW; obtain ⟨s0, s1⟩ := hW; go_simp <;> with_reducible rfl
        refine wpAnyH_take (i := 4) (v := ?_) rfl (by kernel_rfl) (by kernel_rfl) (by kernel_rfl) (fun _ _ _ h => h) (Or.inl ⟨by rfl, ?_⟩) ⟨z0, m1⟩ ?_
        rotate_left 1
        · intro W hW; obtain ⟨s0, s1⟩ := hW; go_simp <;> with_reducible rfl
        refine wpAnyH_take (i := 5) (v := ?_) rfl (by kernel_rfl) (by kernel_rfl) (by kernel_rfl) (fun _ _ _ h => h) (Or.inl ⟨by rfl, ?_⟩) ⟨z0, m1⟩ ?_
        rotate_left 1
        · intro W hW; obtain ⟨s0, s1⟩ := hW; go_simp <;> with_reducible rfl
        refine wpAnyH_take (i := 6) (v := ?_) rfl (by kernel_rfl) (by kernel_rfl) (by kernel_rfl) (fun _ _ _ h => h) (Or.inl ⟨by rfl, ?_⟩) ⟨z0, m1⟩ ?_
        rotate_left 1
        · intro W hW; obtain ⟨s0, s1⟩ := hW; go_simp <;> with_reducible rfl
        refine wpAnyH_take (i := 7) (v := ?_) rfl (by kernel_rfl) (by kernel_rfl) (by kernel_rfl) (fun _ _ _ h => h) (Or.inl ⟨by rfl, ?_⟩) ⟨z0, m1⟩ ?_
        rotate_left 1
        · intro W hW; obtain ⟨s0, s1⟩ := hW; go_simp <;> with_reducible rfl
        simp only [Act.put, List.setIfInBounds_toArray]
        refine wpAnyH_ready (rs := [8]) (by kernel_rfl) (by simp) ?_
        refine AllReadyH.cons rfl (fun K hK => ?_) AllReadyH.nil
        go_simp
        refine hK.out _ _ ⟨cell_far z0 far1, cell_far m1 far2⟩ (fun _ => ?_)
        clear hK K
        refine wpAnyH_done (by kernel_rfl) ?_ _
        have ha4 : Arr (W3.setCell ⟨jb, 28 + r, none⟩ (.int .i64 ((x : Int) + 1))).drew jb 28 12 (encP (putP P1 r x)) := (show Arr (W3.setCell ⟨jb, 28 + r, none⟩ (.int .i64 ((x : Int) + 1))) jb 28 12 (encP (putP P1 r x)) from (ha2.set hr ((x : Int) + 1)).congr fun i _ => (encP_put P1 r x i).symm)
        have hm4 : MapIs (W3.setCell ⟨jb, 28 + r, none⟩ (.int .i64 ((x : Int) + 1))).drew mb (c1 + 1) (mark f1 r) := (hm2'.kept (grown_setCell _ _ _) (by simp; omega)).kept (grown_drewN _ 1) (by simp)
        have hk4 : KeepJ wl.heap.size jb mb wl (W3.setCell ⟨jb, 28 + r, none⟩ (.int .i64 ((x : Int) + 1))).drew := (hk2.setP r (.int .i64 ((x : Int) + 1))).drewN 1
        have hwk4 : KeepsFrom wl.heap.size W (W3.setCell ⟨jb, 28 + r, none⟩ (.int .i64 ((x : Int) + 1))).drew := (hwk2.trans ((KeepsOthers.setCell W3 _ _).from wl.heap.size)).trans ((KeepsOthers.drew (W3.setCell ⟨jb, 28 + r, none⟩ (.int .i64 ((x : Int) + 1)))).from wl.heap.size)
        have z4 : (W3.setCell ⟨jb, 28 + r, none⟩ (.int .i64 ((x : Int) + 1))).drew.heap[w.heap.size + 1 + 1 + 1]? = some (.cells #[.bool false] 4 (0, 0)) := blk_far z3 (by simp; omega) _
        clear z0 z1 z2 m0 m1 z3 ha2 hm2' hk2 hwk2 hd hfz
        generalize (W3.setCell ⟨jb, 28 + r, none⟩ (.int .i64 ((x : Int) + 1))).drew = W4 at ha4 hm4 hk4 hwk4 z4 ⊢
        have u0 : W4.cell? ⟨w.heap.size + 1 + 1 + 1, 0, none⟩ = some (.bool false) := (blk_cell z4).trans rfl
        have u1 : W4.frozen? ⟨w.heap.size + 1 + 1 + 1, 0, none⟩ = false := blk_frozen z4
        gi_wp2
        refine ⟨hwk4.trans ((KeepsOthers.setCell W4 _ _).from _), rfl, ((KeepJ.below HB0.out (Nat.le_refl _) hjlt).trans (hk4.less (by omega))).setHigh (by simp; omega) (by simp; omega) _, (blk_set z4 _).trans rfl, putP P1 r x, (mark f1 r), (c1 + 1), hok4, ha4.far_block (by simp; omega) _, hm4.kept (grown_setCell _ _ _) (by simp; omega), by omega, by omega, fun hpre => ?_⟩
        obtain ⟨⟨g0, g1⟩, g2, g3⟩ := run_on Hxs.out Hli.out hpre
        exact HR.out g2 _ _ _ (g3 (by rw [seen_mark]; have h := Run.free (N := netOf s.l) (p := p) (l := left) (t := x) (P := P1) (S := Seen f1) hx g0 g1 (by rw [hne]; exact hf1) (by rw [hne]; exact hp0); rw [hne] at h; exact h))
    · gi_wp2
      have hf1 : f1 (true, (r : Int)) = 1 := by simpa using hy
      refine ⟨hWK.out, hWJ.out, HK1.out, P1, f1, c1, HO1.out, HA1.out, HM1.out, h4, h5, fun hpre b P' S' hrun => ?_⟩
      obtain ⟨_, g2, g3⟩ := run_on Hxs.out Hli.out hpre
      rw [hnx] at hrun
      exact HR.out g2 _ _ _ (g3 (.skip hx (.inr (by rw [hne]; exact hf1)) hrun))
  case done =>
    rintro D W hD ⟨hk, P1, f1, c1, h1, h2, h3, h4, h5, h6⟩ hK
    have p3 : W.cell? ⟨w.heap.size + 1 + 1 + 1, 0, none⟩ = some (.bool false) := (blk_cell (hk.blk (by omega) (by omega) (by omega) b3)).trans rfl
    clear b0 b1 b2 b3 b4 b5 b6
    have hrun : Run (netOf s.l) p left 0 P (Seen f) false P1 (Seen f1) := h6 (List.prefix_refl _) _ _ _ (run_end Hxs.out Hli.out)
    have HQ := Lib.hid (FindQ.put (show FindQ w jb mb cnt s p left P f false W P1 f1 c1 from ⟨hrun, h1, h2, h3, h4, h5, (KeepJ.below HB0.out (Nat.le_refl _) hjlt).trans (hk.less (by omega))⟩) (D := D) (by omega) (by omega) (by omega) (.deferred none))
    have HK := Lib.hid hK
    clear hk h1 h2 h3 h4 h5 h6 hK hrun
    go_wp2
    exact leave_mark (.bool false) HK.out (by simp [results, Try.results76]) (Ret.mk ⟨false, P1, f1, c1, rfl, HQ.out⟩)
  case stop =>
    rintro D c pre W hD hpre ⟨rfl, hk, hb, P1, f1, c1, h1, h2, h3, h4, h5, h6⟩ hK
    have p3 : W.cell? ⟨w.heap.size + 1 + 1 + 1, 0, none⟩ = some (.bool true) := (blk_cell hb).trans rfl
    clear b0 b1 b2 b3 b4 b5 b6
    have HQ := Lib.hid (FindQ.put (show FindQ w jb mb cnt s p left P f true W P1 f1 c1 from ⟨h6 hpre, h1, h2, h3, h4, h5, hk⟩) (D := D) (by omega) (by omega) (by omega) (.deferred none))
    have HK := Lib.hid hK
    clear hk hb h1 h2 h3 h4 h5 h6 hK
    go_wp2
    exact leave_mark (.bool true) HK.out (by simp [results, Try.results76]) (Ret.mk ⟨true, P1, f1, c1, rfl, HQ.out⟩)
end Go.Proofs.Ytoogfdicmpkkgaa
