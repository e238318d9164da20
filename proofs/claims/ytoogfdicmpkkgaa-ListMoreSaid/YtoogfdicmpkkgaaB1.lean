/- A joiner: how it is made, and which links are free. CheckCover, of the reference. CheckCover. The iterator over the allowed links of an item. -/
import Derived.Test.YtoogfdicmpkkgaaB0
import Derived.RangeFuncNested
import Derived.RangeFuncBound
import Derived.RangeFuncCalls
import Derived.RangeFuncLeaves
import Derived.Shelf.Abstract
import Derived.Shelf.RegionOpen
import Derived.OwnWalkIn
import Derived.TacticsInMore
import Derived.LoopNIn
import Derived.LoopIn
namespace Go.Proofs.Ytoogfdicmpkkgaa
open Go.RowKit

/-- a sheet as it lies in memory -/
structure Sh where
  L : Int
  R : Int
  A : Option Addr
  ca : Nat
  B : Option Addr
  cb : Nat
  l : List (Int × Int)
  t : List Int
def Sh.v (s : Sh) : Value := vSheet s.L s.R s.A s.l.length s.ca s.B s.t.length s.cb
/-- links that lie below n0 -/
def LinksIn (n0 : Nat) (w : World) (A : Option Addr) (l : List (Int × Int)) : Prop :=
  ∀ i (h : i < l.length), ∃ b off, A = some ⟨b, off, none⟩ ∧ b < n0 ∧ w.cell? ⟨b, off + i * 2, none⟩ = some (.int .i64 l[i].1) ∧ w.cell? ⟨b, off + i * 2 + 1, none⟩ = some (.int .i64 l[i].2)
theorem RangesAt.in_ {w : World} {A : Option Addr} {l : List (Int × Int)} (h : RangesAt w A l) : LinksIn w.heap.size w A l := fun i hi => by
  obtain ⟨b, off, e, c1, c2⟩ := RangesAt.at_ h hi
  exact ⟨b, off, e, block_lt_of_cell c1, c1, c2⟩
theorem LinksIn.keep {n0 : Nat} {w w' : World} {A : Option Addr} {l : List (Int × Int)} (h : LinksIn n0 w A l) (hk : ∀ b, b < n0 → w'.heap[b]? = w.heap[b]?) : LinksIn n0 w' A l := fun i hi => by
  obtain ⟨b, off, e, hb, c1, c2⟩ := h i hi
  have e0 := fun (o : Nat) => World.cell?_of_block (a := ⟨b, o, none⟩) (hk b hb)
  exact ⟨b, off, e, hb, (e0 _).trans c1, (e0 _).trans c2⟩
theorem LinksIn.ranges {n0 : Nat} {w : World} {A : Option Addr} {l : List (Int × Int)} (h : LinksIn n0 w A l) : RangesAt w A l := fun i hi => by
  obtain ⟨b, off, e, hb, c1, c2⟩ := h i hi
  refine ⟨b, off, e, fun j v hv => ?_⟩
  rcases j with _ | _ | j
  · simp only [encR, List.getElem?_cons_zero, Option.some.injEq] at hv; subst hv; exact c1
  · simp only [encR, List.getElem?_cons_succ, List.getElem?_cons_zero, Option.some.injEq] at hv; subst hv; exact c2
  · simp [encR] at hv
/-- what a joiner's block holds but for its partners: the sheet, and the items of known links -/
structure Head (n0 : Nat) (w : World) (jb : Nat) (s : Sh) : Prop where
  base : n0 ≤ jb
  c0 : w.cell? ⟨jb, 0, none⟩ = some (.int .i64 s.L)
  c1 : w.cell? ⟨jb, 1, none⟩ = some (.int .i64 s.R)
  c2 : w.cell? ⟨jb, 2, none⟩ = some (.slice s.A s.l.length s.ca)
  c3 : w.cell? ⟨jb, 3, none⟩ = some (.slice s.B s.t.length s.cb)
  tl : Arr w jb 4 12 (usedM (·.1) s.l s.t s.t.length)
  tr : Arr w jb 16 12 (usedM (·.2) s.l s.t s.t.length)
  links : LinksIn n0 w s.A s.l
/-- what stays: all blocks below n but a joiner's and a map's, and of the joiner what is ahead of its partners -/
structure KeepJ (n jb mb : Nat) (X Y : World) : Prop where
  os : Y.os = X.os
  tape : Y.tape = X.tape
  output : Y.output = X.output
  size : X.heap.size ≤ Y.heap.size
  block : ∀ b, b < n → b ≠ jb → b ≠ mb → Y.heap[b]? = X.heap[b]?
  head : ∀ i, i < 28 → Y.cell? ⟨jb, i, none⟩ = X.cell? ⟨jb, i, none⟩ ∧ Y.frozen? ⟨jb, i, none⟩ = X.frozen? ⟨jb, i, none⟩
theorem KeepJ.refl (n jb mb : Nat) (X : World) : KeepJ n jb mb X X := ⟨rfl, rfl, rfl, Nat.le_refl _, fun _ _ _ _ => rfl, fun _ _ => ⟨rfl, rfl⟩⟩
theorem KeepJ.trans {n jb mb : Nat} {X Y Z : World} (h : KeepJ n jb mb X Y) (k : KeepJ n jb mb Y Z) : KeepJ n jb mb X Z :=
  ⟨k.os.trans h.os, k.tape.trans h.tape, k.output.trans h.output, Nat.le_trans h.size k.size, fun b h1 h2 h3 => (k.block b h1 h2 h3).trans (h.block b h1 h2 h3), fun i hi => ⟨(k.head i hi).1.trans (h.head i hi).1, (k.head i hi).2.trans (h.head i hi).2⟩⟩
theorem KeepJ.cell {n jb mb : Nat} {X Y : World} (h : KeepJ n jb mb X Y) {b o : Nat} {v : Value} (h1 : b < n) (h2 : b ≠ jb) (h3 : b ≠ mb) (hc : X.cell? ⟨b, o, none⟩ = some v) : Y.cell? ⟨b, o, none⟩ = some v :=
  (World.cell?_of_block (a := ⟨b, o, none⟩) (h.block b h1 h2 h3)).trans hc
theorem Arr.head {n jb mb o : Nat} {X Y : World} {f : Nat → Int} (h : Arr X jb o 12 f) (k : KeepJ n jb mb X Y) (ho : o + 12 ≤ 28) : Arr Y jb o 12 f := fun i hi =>
  ⟨(k.head (o + i) (by omega)).1.trans (h i hi).1, (k.head (o + i) (by omega)).2.trans (h i hi).2⟩
theorem Head.keep {n n0 jb mb : Nat} {X Y : World} {s : Sh} (h : Head n0 X jb s) (k : KeepJ n jb mb X Y) (h1 : n0 ≤ n) (h2 : n0 ≤ mb) : Head n0 Y jb s :=
  ⟨h.base, (k.head 0 (by omega)).1.trans h.c0, (k.head 1 (by omega)).1.trans h.c1, (k.head 2 (by omega)).1.trans h.c2, (k.head 3 (by omega)).1.trans h.c3,
    h.tl.head k (by omega), h.tr.head k (by omega), h.links.keep fun b hb => k.block b (by omega) (by have := h.base; omega) (by omega)⟩
theorem KeepJ.below {n jb mb : Nat} {X Y : World} (h : Below X.heap.size X Y) (h1 : n ≤ X.heap.size) (h2 : jb < X.heap.size) : KeepJ n jb mb X Y :=
  ⟨h.os, h.tape, h.output, h.size, fun b hb _ _ => h.block b (by omega), fun i _ => ⟨World.cell?_of_block (a := ⟨jb, i, none⟩) (h.block jb h2), h.frozen (p := ⟨jb, i, none⟩) h2⟩⟩
theorem Head.lt {n0 jb : Nat} {X : World} {s : Sh} (h : Head n0 X jb s) : jb < X.heap.size := block_lt_of_cell h.c0
theorem Head.below {n0 jb : Nat} {X Y : World} {s : Sh} (h : Head n0 X jb s) (hb : Below X.heap.size X Y) : Head n0 Y jb s :=
  h.keep (n := n0) (mb := n0) (KeepJ.below hb (by have := h.lt; have := h.base; omega) h.lt) (Nat.le_refl _) (Nat.le_refl _)

theorem used_taken (l : List (Int × Int)) (t : List Int) (x : Int) {a b : Nat} (h1 : (atL l x).1 = (a : Int)) (h2 : (atL l x).2 = (b : Int)) :
    decide (usedM (·.1) l t t.length a + usedM (·.2) l t t.length b = 0) = !takenB l t x := by
  have hk : ∀ (g : Int × Int → Int) (c : Int), (List.range t.length).any (fun j => g (atL l (t.getD j 0)) == c) = t.any fun k => g (atL l k) == c := fun g c => by
    rw [Bool.eq_iff_iff, List.any_eq_true, List.any_eq_true]
    constructor
    · rintro ⟨j, hj, he⟩
      have hj' := List.mem_range.1 hj
      exact ⟨t[j], List.getElem_mem hj', by rw [show t.getD j 0 = t[j] by simp [List.getD_eq_getElem?_getD, hj']] at he; exact he⟩
    · rintro ⟨k, hk, he⟩
      obtain ⟨j, hj, rfl⟩ := List.mem_iff_getElem.1 hk
      exact ⟨j, List.mem_range.2 hj, by rw [show t.getD j 0 = t[j] by simp [List.getD_eq_getElem?_getD, hj]]; exact he⟩
  have hor : ∀ (m : List Int) (p q : Int → Bool), m.any (fun j => p j || q j) = (m.any p || m.any q) := fun m p q => by
    induction m with
    | nil => rfl
    | cons x m ih => simp only [List.any_cons, ih]; cases p x <;> cases q x <;> simp
  unfold usedM takenB meetB
  rw [hk, hk, h1, h2, hor]
  have hc : ∀ (g : Int × Int → Int) (c : Int), t.any (fun k => c == g (atL l k)) = t.any (fun k => g (atL l k) == c) := fun g c => by
    congr 1; funext k; exact Bool.beq_comm
  rw [hc (·.1), hc (·.2)]
  cases t.any (fun k => (atL l k).1 == (a : Int)) <;> cases t.any (fun k => (atL l k).2 == (b : Int)) <;> simp
theorem take40 {Z : Array Value} {L R : Int} {A B : Option Addr} {n ca m cb : Nat} (hZ : Z = #[.int .i64 L, .int .i64 R, .slice A n ca, .slice B m cb, .int .i64 0, .int .i64 0, .int .i64 0, .int .i64 0, .int .i64 0, .int .i64 0, .int .i64 0, .int .i64 0, .int .i64 0, .int .i64 0, .int .i64 0, .int .i64 0, .int .i64 0, .int .i64 0, .int .i64 0, .int .i64 0, .int .i64 0, .int .i64 0, .int .i64 0, .int .i64 0, .int .i64 0, .int .i64 0, .int .i64 0, .int .i64 0, .int .i64 0, .int .i64 0, .int .i64 0, .int .i64 0, .int .i64 0, .int .i64 0, .int .i64 0, .int .i64 0, .int .i64 0, .int .i64 0, .int .i64 0, .int .i64 0]) :
    Z[0]? = some (.int .i64 L) ∧ Z[1]? = some (.int .i64 R) ∧ Z[2]? = some (.slice A n ca) ∧ Z[3]? = some (.slice B m cb) ∧ ∀ i, i < 36 → Z[4 + i]? = some (.int .i64 0) := by
  subst hZ
  refine ⟨rfl, rfl, rfl, rfl, fun i hi => ?_⟩
  rcases i with _|_|_|_|_|_|_|_|_|_|_|_|_|_|_|_|_|_|_|_|_|_|_|_|_|_|_|_|_|_|_|_|_|_|_|_|i <;> first | rfl | omega

set_option maxRecDepth 100000 in
set_option maxHeartbeats 1000000 in
theorem free_any (n0 jb : Nat) (s : Sh) (x : Nat) (w : World) (hh : Head n0 w jb s) (hx : x < s.l.length) (hli : ∀ x ∈ s.l, (0 ≤ x.1 ∧ x.1 < 12) ∧ 0 ≤ x.2 ∧ x.2 < 12) :
    Calls Try.prog 42 #[.pointer (some ⟨jb, 0, none⟩), .int .i64 x] w (Ret fun v w' => v = .bool (!takenB s.l s.t x) ∧ Below w.heap.size w w') := by
  obtain ⟨b3, o3, hb3, _, p1, p2⟩ := hh.links x hx
  have hrg := hli s.l[x] (List.getElem_mem hx)
  have hat := atL_eq hx
  generalize s.l[x] = lx at p1 p2 hat hrg
  obtain ⟨c1, c2⟩ := lx
  dsimp only at p1 p2 hrg
  obtain ⟨a, rfl⟩ := Int.eq_ofNat_of_zero_le hrg.1.1
  obtain ⟨b, rfl⟩ := Int.eq_ofNat_of_zero_le hrg.2.1
  have ha : a < 12 := by omega
  have hb : b < 12 := by omega
  have HS := Lib.hid (used_taken s.l s.t x (a := a) (b := b) (by rw [hat]) (by rw [hat]))
  obtain ⟨m1, _⟩ := hh.tl a ha
  obtain ⟨m2, _⟩ := hh.tr b hb
  have hu1 := used_le (·.1) s.l s.t s.t.length a
  have hu2 := used_le (·.2) s.l s.t s.t.length b
  generalize usedM (·.1) s.l s.t s.t.length a = u1 at m1 HS hu1
  generalize usedM (·.2) s.l s.t s.t.length b = u2 at m2 HS hu2
  have g0 := hh.c2
  rw [hb3] at g0
  clear hat hrg hb3 hh
  have r0 := cell_alloc g0 (.cells #[.int .i64 a, .int .i64 b] 55)
  have m3 := cell_alloc m1 (.cells #[.int .i64 a, .int .i64 b] 55)
  have m4 := cell_alloc m2 (.cells #[.int .i64 a, .int .i64 b] 55)
  have n0 := new2_0 w (.int .i64 a) (.int .i64 b) 55
  have n1 := new2_1 w (.int .i64 a) (.int .i64 b) 55
  go_enter Try.func42, Try.ntmps42
  go_upto_region 2 with fail
  have HB3 := Lib.hid (below_alloc' (Below.refl w.heap.size w) (.cells #[.int .i64 a, .int .i64 b] 55))
  generalize (w.alloc (.cells #[.int .i64 a, .int .i64 b] 55)) = w3 at n0 n1 r0 HB3 m3 m4 ⊢
  clear m1 m2 g0 p1 p2
  generalize w.heap.size = b9 at n0 n1 ⊢
  go_quiet (fail)
  have HB4 := Lib.hid (below_drewN HB3.out nq)
  have HF : Hid ((u1 + u2 == 0) = !takenB s.l s.t x) := Lib.hid (by rw [← HS.out]; rfl)
  go_wp2
  go_ret
  exact Ret.mk' (congrArg Value.bool HF.out) ⟨rfl, HB4.out⟩

set_option maxRecDepth 100000 in
set_option maxHeartbeats 1000000 in
theorem newJoiner_any (s : Sh) (w : World) (hl : RangesAt w s.A s.l) (ht : IntsAt w s.B s.t) (hm : s.t.length ≤ 100000) (hin : ∀ x ∈ s.t, 0 ≤ x ∧ x < s.l.length) (hli : ∀ x ∈ s.l, (0 ≤ x.1 ∧ x.1 < 12) ∧ 0 ≤ x.2 ∧ x.2 < 12) :
    Calls Try.prog 41 #[s.v] w (Ret fun v w' => (∃ jb, v = .pointer (some ⟨jb, 0, none⟩) ∧ Head w.heap.size w' jb s ∧ Arr w' jb 28 12 (fun _ => 0)) ∧ Below w.heap.size w w') := by
  obtain ⟨L, R, A, ca, B, cb, l, t⟩ := s
  dsimp only at hl ht hm hin hli
  unfold Sh.v vSheet
  dsimp only
  have Hl := Lib.hid hl; clear hl
  have Ht := Lib.hid ht; clear ht
  have Hin := Lib.hid hin; clear hin
  have Hli := Lib.hid hli; clear hli
  have HX := Lib.hid (heap_alloc_new w (.cells #[.int .i64 L, .int .i64 R, .slice A l.length ca, .slice B t.length cb] 25))
  go_enter Try.func41, Try.ntmps41
  go_wp2
  obtain ⟨w0, hw0⟩ : ∃ w0, w0 = w.alloc (.cells #[.int .i64 L, .int .i64 R, .slice A l.length ca, .slice B t.length cb] 25) := ⟨_, rfl⟩
  have hsz0 : w0.heap.size = w.heap.size + 1 := by rw [hw0]; exact World.size_alloc _ _
  have hY : w0.heap[w.heap.size]? = some (.cells #[.int .i64 L, .int .i64 R, .slice A l.length ca, .slice B t.length cb] 25 (0, 0)) := by rw [hw0]; exact HX.out
  have hB0 : Below w.heap.size w w0 := by rw [hw0]; exact below_alloc' (Below.refl _ _) _
  rw [← hw0]
  clear hw0 HX
  obtain ⟨Z, hZ⟩ : ∃ Z, Z = #[Value.int .i64 L, .int .i64 R, .slice A l.length ca, .slice B t.length cb, .int .i64 0, .int .i64 0, .int .i64 0, .int .i64 0, .int .i64 0, .int .i64 0, .int .i64 0, .int .i64 0, .int .i64 0, .int .i64 0, .int .i64 0, .int .i64 0, .int .i64 0, .int .i64 0, .int .i64 0, .int .i64 0, .int .i64 0, .int .i64 0, .int .i64 0, .int .i64 0, .int .i64 0, .int .i64 0, .int .i64 0, .int .i64 0, .int .i64 0, .int .i64 0, .int .i64 0, .int .i64 0, .int .i64 0, .int .i64 0, .int .i64 0, .int .i64 0, .int .i64 0, .int .i64 0, .int .i64 0, .int .i64 0] := ⟨_, rfl⟩
  rw [← hZ]
  obtain ⟨z0, z1, z2, z3, z4⟩ := take40 hZ
  clear hZ
  have hX1 : (w0.alloc (.cells Z 76)).heap[w.heap.size + 1]? = some (.cells Z 76 (0, 0)) := by rw [← hsz0]; exact heap_alloc_new w0 _
  have hA0 : Arr (w0.alloc (.cells Z 76)) (w.heap.size + 1) 4 12 (usedM (·.1) l t 0) := fun i hi => ⟨(blk_cell hX1).trans (z4 i (by omega)), blk_frozen hX1⟩
  have hA1 : Arr (w0.alloc (.cells Z 76)) (w.heap.size + 1) 16 12 (usedM (·.2) l t 0) := fun i hi => ⟨(blk_cell hX1).trans (by rw [show 16 + i = 4 + (12 + i) by omega]; exact z4 (12 + i) (by omega)), blk_frozen hX1⟩
  have hA2 : Arr (w0.alloc (.cells Z 76)) (w.heap.size + 1) 28 12 (fun _ => 0) := fun i hi => ⟨(blk_cell hX1).trans (by rw [show 28 + i = 4 + (24 + i) by omega]; exact z4 (24 + i) (by omega)), blk_frozen hX1⟩
  have q0 := (blk_cell (i := 0) hX1).trans z0
  have q1 := (blk_cell (i := 1) hX1).trans z1
  have q2 := (blk_cell (i := 2) hX1).trans z2
  have q3 := (blk_cell (i := 3) hX1).trans z3
  have hY2 := blk_alloc hY (.cells Z 76)
  have hB2 := below_alloc' hB0 (.cells Z 76)
  have hs2 : (w0.alloc (.cells Z 76)).heap.size = w.heap.size + 2 := by rw [World.size_alloc, hsz0]
  generalize w0.alloc (.cells Z 76) = w2 at hA0 hA1 hA2 q0 q1 q2 q3 hY2 hB2 hs2 ⊢
  clear hY hB0 hsz0 hX1 z0 z1 z2 z3 z4
  clear w0
  go_loopw [12] (fun i wr => ∃ k : Nat, k ≤ t.length ∧ i = .int .i64 k ∧ Below w.heap.size w wr ∧ w.heap.size + 2 ≤ wr.heap.size ∧ wr.heap[w.heap.size]? = some (.cells #[.int .i64 L, .int .i64 R, .slice A l.length ca, .slice B t.length cb] 25 (0, 0)) ∧ Arr wr (w.heap.size + 1) 4 12 (usedM (·.1) l t k) ∧ Arr wr (w.heap.size + 1) 16 12 (usedM (·.2) l t k) ∧ Arr wr (w.heap.size + 1) 28 12 (fun _ => 0) ∧
    Hid (wr.cell? ⟨w.heap.size + 1, 0, none⟩ = some (.int .i64 L) ∧ wr.cell? ⟨w.heap.size + 1, 1, none⟩ = some (.int .i64 R) ∧ wr.cell? ⟨w.heap.size + 1, 2, none⟩ = some (.slice A l.length ca) ∧ wr.cell? ⟨w.heap.size + 1, 3, none⟩ = some (.slice B t.length cb))) (fun i _ => t.length - (intOf i).toNat)
  case atStart => exact ⟨0, by omega, rfl, hB2, by omega, hY2, hA0, hA1, hA2, q0, q1, q2, q3⟩
  case round =>
    clear hA0 hA1 hA2 q0 q1 q2 q3 hY2 hB2 hs2
    obtain ⟨k, hk, rfl, hB, hs, hY, hA0, hA1, hA2, HQ⟩ := hrel
    have HB := Lib.hid hB
    have HY := Lib.hid hY
    have HA0 := Lib.hid hA0
    have HA1 := Lib.hid hA1
    have HA2 := Lib.hid hA2
    clear hB hY hA0 hA1 hA2
    by_cases hkn : k < t.length
    · obtain ⟨b1, o1, hb1, g1⟩ := IntsAt.at_ (Ht.out.below HB.out) hkn
      have htd : t.getD k 0 = t[k] := by simp [List.getD_eq_getElem?_getD, hkn]
      obtain ⟨hx1, hx2⟩ := Hin.out t[k] (List.getElem_mem hkn)
      generalize hx : t[k] = x at g1 hx1 hx2 htd
      clear hx
      obtain ⟨x, rfl⟩ := Int.eq_ofNat_of_zero_le hx1
      have hxl : x < l.length := by omega
      obtain ⟨b3, o3, hb3, hlt3, p1, p2⟩ := RangesAt.in_ Hl.out x hxl
      replace p1 := cell_below HB.out p1
      replace p2 := cell_below HB.out p2
      have hat : atL l (t.getD k 0) = l[x] := by rw [htd]; exact atL_eq hxl
      have hrg := Hli.out l[x] (List.getElem_mem hxl)
      generalize l[x] = lx at p1 p2 hat hrg
      obtain ⟨c1, c2⟩ := lx
      dsimp only at p1 p2 hrg
      obtain ⟨a, rfl⟩ := Int.eq_ofNat_of_zero_le hrg.1.1
      obtain ⟨b, rfl⟩ := Int.eq_ofNat_of_zero_le hrg.2.1
      have ha : a < 12 := by omega
      have hb : b < 12 := by omega
      have HU1 := Lib.hid (fun i => usedM_next (·.1) l t k i (a := a) (by rw [hat]))
      have HU2 := Lib.hid (fun i => usedM_next (·.2) l t k i (a := b) (by rw [hat]))
      clear htd hat hrg hx1 hx2
      subst hb1 hb3
      have g0 : wr.cell? ⟨w.heap.size, 2, none⟩ = some (.slice (some ⟨b3, o3, none⟩) l.length ca) := (blk_cell HY.out).trans rfl
      obtain ⟨m1, f1⟩ := HA0.out a ha
      obtain ⟨m2, f2⟩ := HA1.out b hb
      go_upto_region 5 with fail
      have ia0 : (0 : Int) ≤ (a : Int) := by omega
      have ia1 : (a : Int) < 12 := by omega
      have ib0 : (0 : Int) ≤ (b : Int) := by omega
      have ib1 : (b : Int) < 12 := by omega
      have e1 : ∀ i : Nat, (⟨w.heap.size, i, none⟩ : Addr) ≠ ⟨w.heap.size + 1, 4 + a, none⟩ := fun i e => by injection e; omega
      have e2 : ∀ i : Nat, (⟨w.heap.size, i, none⟩ : Addr) ≠ ⟨w.heap.size + 1, 16 + b, none⟩ := fun i e => by injection e; omega
      have e3 : ∀ i : Nat, (⟨b3, i, none⟩ : Addr) ≠ ⟨w.heap.size + 1, 4 + a, none⟩ := fun i e => by injection e; omega
      have e4 : ∀ i : Nat, (⟨b3, i, none⟩ : Addr) ≠ ⟨w.heap.size + 1, 16 + b, none⟩ := fun i e => by injection e; omega
      go_region_held3 (fun W => W.cell? ⟨w.heap.size, 2, none⟩ = some (.slice (some ⟨b3, o3, none⟩) l.length ca) ∧ W.cell? ⟨b3, o3 + x * 2, none⟩ = some (.int .i64 a) ∧ W.cell? ⟨b3, o3 + x * 2 + 1, none⟩ = some (.int .i64 b)) (first | exact ⟨g0, p1, p2⟩ | exact ⟨cell_far g0 (e1 _), cell_far p1 (e3 _), cell_far p2 (e3 _)⟩ | exact ⟨cell_far (cell_far g0 (e1 _)) (e2 _), cell_far (cell_far p1 (e3 _)) (e4 _), cell_far (cell_far p2 (e3 _)) (e4 _)⟩) (fail)
      have hB5 : Below w.heap.size w ((wr.setCell ⟨w.heap.size + 1, 4 + a, none⟩ (.int .i64 1)).setCell ⟨w.heap.size + 1, 16 + b, none⟩ (.int .i64 1)).drew := ((HB.out.setCell (by simp) _).setCell (by simp) _).drew
      have hY5 : ((wr.setCell ⟨w.heap.size + 1, 4 + a, none⟩ (.int .i64 1)).setCell ⟨w.heap.size + 1, 16 + b, none⟩ (.int .i64 1)).drew.heap[w.heap.size]? = _ := blk_far (blk_far HY.out (by simp) _) (by simp) _
      have hA3 : Arr ((wr.setCell ⟨w.heap.size + 1, 4 + a, none⟩ (.int .i64 1)).setCell ⟨w.heap.size + 1, 16 + b, none⟩ (.int .i64 1)).drew (w.heap.size + 1) 4 12 (usedM (·.1) l t (k + 1)) := ((HA0.out.set ha 1).far (fun i hi e => by injection e; omega) _).congr fun i _ => (HU1.out i).symm
      have hA4 : Arr ((wr.setCell ⟨w.heap.size + 1, 4 + a, none⟩ (.int .i64 1)).setCell ⟨w.heap.size + 1, 16 + b, none⟩ (.int .i64 1)).drew (w.heap.size + 1) 16 12 (usedM (·.2) l t (k + 1)) := ((HA1.out.far (fun i hi e => by injection e; omega) _).set hb 1).congr fun i _ => (HU2.out i).symm
      have hA5 : Arr ((wr.setCell ⟨w.heap.size + 1, 4 + a, none⟩ (.int .i64 1)).setCell ⟨w.heap.size + 1, 16 + b, none⟩ (.int .i64 1)).drew (w.heap.size + 1) 28 12 (fun _ => 0) := (HA2.out.far (fun i hi e => by injection e; omega) _).far (fun i hi e => by injection e; omega) _
      have hs5 : w.heap.size + 2 ≤ ((wr.setCell ⟨w.heap.size + 1, 4 + a, none⟩ (.int .i64 1)).setCell ⟨w.heap.size + 1, 16 + b, none⟩ (.int .i64 1)).drew.heap.size := by simp; omega
      have hn : ∀ j, j < 4 → ∀ a', (⟨w.heap.size + 1, j, none⟩ : Addr) ≠ ⟨w.heap.size + 1, 4 + a', none⟩ := fun j hj a' e => by injection e; omega
      have hn2 : ∀ j, j < 4 → ∀ a', (⟨w.heap.size + 1, j, none⟩ : Addr) ≠ ⟨w.heap.size + 1, 16 + a', none⟩ := fun j hj a' e => by injection e; omega
      have HQ5 : Hid (((wr.setCell ⟨w.heap.size + 1, 4 + a, none⟩ (.int .i64 1)).setCell ⟨w.heap.size + 1, 16 + b, none⟩ (.int .i64 1)).drew.cell? ⟨w.heap.size + 1, 0, none⟩ = some (.int .i64 L) ∧ ((wr.setCell ⟨w.heap.size + 1, 4 + a, none⟩ (.int .i64 1)).setCell ⟨w.heap.size + 1, 16 + b, none⟩ (.int .i64 1)).drew.cell? ⟨w.heap.size + 1, 1, none⟩ = some (.int .i64 R) ∧ ((wr.setCell ⟨w.heap.size + 1, 4 + a, none⟩ (.int .i64 1)).setCell ⟨w.heap.size + 1, 16 + b, none⟩ (.int .i64 1)).drew.cell? ⟨w.heap.size + 1, 2, none⟩ = some (.slice (some ⟨b3, o3, none⟩) l.length ca) ∧ ((wr.setCell ⟨w.heap.size + 1, 4 + a, none⟩ (.int .i64 1)).setCell ⟨w.heap.size + 1, 16 + b, none⟩ (.int .i64 1)).drew.cell? ⟨w.heap.size + 1, 3, none⟩ = some (.slice (some ⟨b1, o1, none⟩) t.length cb)) := Lib.hid
        ⟨cell_far (cell_far HQ.out.1 (hn 0 (by omega) _)) (hn2 0 (by omega) _), cell_far (cell_far HQ.out.2.1 (hn 1 (by omega) _)) (hn2 1 (by omega) _), cell_far (cell_far HQ.out.2.2.1 (hn 2 (by omega) _)) (hn2 2 (by omega) _), cell_far (cell_far HQ.out.2.2.2 (hn 3 (by omega) _)) (hn2 3 (by omega) _)⟩
      clear g0 p1 p2 m1 m2 f1 f2 e1 e2 e3 e4 hn hn2 HQ
      generalize ((wr.setCell ⟨w.heap.size + 1, 4 + a, none⟩ (.int .i64 1)).setCell ⟨w.heap.size + 1, 16 + b, none⟩ (.int .i64 1)).drew = w5 at hB5 hY5 hA3 hA4 hA5 hs5 HQ5 ⊢
      have HB5 := Lib.hid hB5
      have HY5 := Lib.hid hY5
      have HA3 := Lib.hid hA3
      have HA4 := Lib.hid hA4
      have HA5 := Lib.hid hA5
      clear hB5 hY5 hA3 hA4 hA5
      go_wp2
      go_roundw
      case rel => exact ⟨k + 1, by omega, by go_num, HB5.out, hs5, HY5.out, HA3.out, HA4.out, HA5.out, HQ5⟩
      case measure => simp [intOf]; omega
    · have hkt : k = t.length := by omega
      subst hkt
      go_wp2
      go_ret
      exact Ret.mk ⟨⟨_, rfl, ⟨by omega, HQ.out.1, HQ.out.2.1, HQ.out.2.2.1, HQ.out.2.2.2, HA0.out, HA1.out, (RangesAt.in_ Hl.out).keep fun b hb => HB.out.block b hb⟩, HA2.out⟩, HB.out⟩
end Go.Proofs.Ytoogfdicmpkkgaa

namespace Go.Proofs.Ytoogfdicmpkkgaa
open Go.RowKit

/-- link k is not covered -/
def bareB (l : List (Int × Int)) (t cl cr : List Int) (k : Nat) : Bool := !takenB l t k && !cl.contains (atL l k).1 && !cr.contains (atL l k).2
def coverErr (L R : Int) (l : List (Int × Int)) (t cl cr : List Int) : Int :=
  if sheetErr L R l t ≠ 0 then sheetErr L R l t else if (risingFrom (-1) L cl && risingFrom (-1) R cr) = false then 3 else if (List.range l.length).any (bareB l t cl cr) = true then 14 else 0
def coverSize (L R : Int) (l : List (Int × Int)) (t cl cr : List Int) : Int := if coverErr L R l t cl cr = 0 then (cl.length : Int) + cr.length + t.length else 0
def vCover (C : Option Addr) (n cc : Nat) (D : Option Addr) (m cd : Nat) : Value := .agg #[.slice C n cc, .slice D m cd]
section
variable {L R : Int} {l : List (Int × Int)} {t cl cr : List Int}
theorem cover_sheet (h : sheetErr L R l t ≠ 0) : coverErr L R l t cl cr = sheetErr L R l t := by unfold coverErr; rw [if_pos h]
theorem cover_rise (h : sheetErr L R l t = 0) (h2 : (risingFrom (-1) L cl && risingFrom (-1) R cr) = false) : coverErr L R l t cl cr = 3 := by unfold coverErr; rw [if_neg (by omega), if_pos h2]
theorem cover_bare (h : sheetErr L R l t = 0) (h2 : (risingFrom (-1) L cl && risingFrom (-1) R cr) = true) (h3 : (List.range l.length).any (bareB l t cl cr) = true) : coverErr L R l t cl cr = 14 := by unfold coverErr; rw [if_neg (by omega), if_neg (by simp [h2]), if_pos h3]
theorem cover_end (h : sheetErr L R l t = 0) (h2 : (risingFrom (-1) L cl && risingFrom (-1) R cr) = true) (h3 : (List.range l.length).any (bareB l t cl cr) = false) : coverErr L R l t cl cr = 0 := by unfold coverErr; rw [if_neg (by omega), if_neg (by simp [h2]), if_neg (by simp [h3])]
theorem size_bad {e : Int} (h : coverErr L R l t cl cr = e) (he : e ≠ 0) : coverSize L R l t cl cr = 0 := by unfold coverSize; rw [if_neg (by omega)]
theorem size_good (h : coverErr L R l t cl cr = 0) : coverSize L R l t cl cr = (cl.length : Int) + cr.length + t.length := by unfold coverSize; rw [if_pos h]
end

theorem wp_region_class {id : Nat} {C : World → Prop} {Q : Exit → Act → World → Prop} {a : Act} {w : World} {l : List Oper} (hm : Try.prog.follows .mixedOrders = true) (hB : Region.lexB .any l.toArray = true) (hC : C w.drew)
    (h : wpQuiet Try.prog l.toArray C (fun a' => ∀ w', C w' → Q .normal a' w') l a) : (Code.region id l.toArray true).wp Try.prog Q a w :=
  wp_region_quiet hm hB hC (by simpa using h)
theorem in_anyB (A : Option Addr) (ca : Nat) (l : List Int) (n : Int) (w : World) (hl : IntsAt w A l) (hn : l.length ≤ 100000) :
    Calls Try.prog 34 #[.slice A l.length ca, .int .i64 n] w (Ret fun v w' => v = .bool (l.contains n) ∧ Below w.heap.size w w') := by
  refine (in_any A ca l n w hl hn).mono ?_
  rintro e w1 ⟨v, rfl, rfl, q, rfl⟩
  exact Ret.mk ⟨rfl, below_drewN (Below.refl _ _) _⟩
theorem results17 {tmps : Array Value} {W : World} : (results Try.f17 tmps).run Try.prog W = .ok (.tuple #[tmps.getD 4 undef, tmps.getD 5 undef]) W := results_tmp2 (fn := Try.f17) rfl _ _ _
set_option maxRecDepth 100000 in
set_option maxHeartbeats 1000000 in
theorem refCheckCover_any (L R : Int) (A B C D : Option Addr) (ca cb cc cd : Nat) (l : List (Int × Int)) (t cl cr : List Int) (w : World) (hl : RangesAt w A l) (ht : IntsAt w B t) (hC : IntsAt w C cl) (hD : IntsAt w D cr) (hn : l.length ≤ 100000) (hm : t.length ≤ 100000) (hnc : cl.length ≤ 100000) (hnd : cr.length ≤ 100000) :
    Calls Try.prog 17 #[vSheet L R A l.length ca B t.length cb, vCover C cl.length cc D cr.length cd] w (Ret fun v w' => v = .tuple #[.int .i64 (coverSize L R l t cl cr), .int .i64 (coverErr L R l t cl cr)] ∧ Below w.heap.size w w') := by
  have Hl := Lib.hid hl; clear hl
  have Ht := Lib.hid ht; clear ht
  have HC := Lib.hid hC; clear hC
  have HD := Lib.hid hD; clear hD
  have Hm := Lib.hid hm; clear hm
  have Hnc := Lib.hid hnc; clear hnc
  have Hnd := Lib.hid hnd; clear hnd
  obtain ⟨w0, hw0⟩ : ∃ w0, w0 = (w.alloc (.cells #[.int .i64 L, .int .i64 R, .slice A l.length ca, .slice B t.length cb] 25)).alloc (.cells #[.slice C cl.length cc, .slice D cr.length cd] 27) := ⟨_, rfl⟩
  have HB0 : Hid (Below w.heap.size w w0) := Lib.hid (by rw [hw0]; exact below_alloc' (below_alloc' (Below.refl _ _) _) _)
  have hX : w0.heap[w.heap.size]? = some (.cells #[.int .i64 L, .int .i64 R, .slice A l.length ca, .slice B t.length cb] 25 (0, 0)) := by rw [hw0]; exact blk_alloc (heap_alloc_new _ _) _
  have hX2 : w0.heap[w.heap.size + 1]? = some (.cells #[.slice C cl.length cc, .slice D cr.length cd] 27 (0, 0)) := by rw [hw0]; have := heap_alloc_new (w.alloc (.cells #[.int .i64 L, .int .i64 R, .slice A l.length ca, .slice B t.length cb] 25)) (.cells #[.slice C cl.length cc, .slice D cr.length cd] 27); rwa [World.size_alloc] at this
  have hs := fun W (h : Below w.heap.size w W) => refCheckSheet_any L R A B ca cb l t W (Hl.out.below h) (Ht.out.below h) hn Hm.out
  have htk := fun (x : Nat) W (h : Below w.heap.size w W) => taken_any L R A B ca cb l t x W (Hl.out.below h) (Ht.out.below h) Hm.out
  unfold vSheet at hs htk ⊢
  unfold vCover
  have Hs := Lib.hid hs
  have Htk := Lib.hid htk
  clear hs htk
  have y0 : w0.cell? ⟨w.heap.size, 0, none⟩ = some (.int .i64 L) := (blk_cell hX).trans rfl
  have y1 : w0.cell? ⟨w.heap.size, 1, none⟩ = some (.int .i64 R) := (blk_cell hX).trans rfl
  have y2 : w0.cell? ⟨w.heap.size, 2, none⟩ = some (.slice A l.length ca) := (blk_cell hX).trans rfl
  have y3 : w0.cell? ⟨w.heap.size, 3, none⟩ = some (.slice B t.length cb) := (blk_cell hX).trans rfl
  have y4 : w0.cell? ⟨w.heap.size + 1, 0, none⟩ = some (.slice C cl.length cc) := (blk_cell hX2).trans rfl
  have y5 : w0.cell? ⟨w.heap.size + 1, 1, none⟩ = some (.slice D cr.length cd) := (blk_cell hX2).trans rfl
  clear hX hX2
  have Hc := Lib.hid (Hs.out w0 HB0.out)
  rw [hw0] at y0 y1 y2 y3 y4 y5 Hc
  have HW0 := Lib.hid hw0
  clear hw0
  go_enter Try.func17, Try.ntmps17
  go_wp2_with fail
  refine Hc.out.mono ?_
  rintro e w1 ⟨v, rfl, rfl, hB1⟩
  rw [← HW0.out] at hB1 y0 y1 y2 y3 y4 y5
  have HB1 := Lib.hid (below_trans' HB0.out hB1)
  replace y0 := cell_below hB1 y0
  replace y1 := cell_below hB1 y1
  replace y2 := cell_below hB1 y2
  replace y3 := cell_below hB1 y3
  replace y4 := cell_below hB1 y4
  replace y5 := cell_below hB1 y5
  clear hB1 Hc HB0 HW0
  by_cases h0 : sheetErr L R l t = 0
  · have d0 : (sheetErr L R l t != 0) = false := by simp [h0]
    have HS := Lib.hid (sheet_ok h0)
    have H0 := Lib.hid h0; clear h0
    have Hc := Lib.hid (refRising_any C cc cl L w1 (HC.out.below HB1.out) Hnc.out)
    go_wp2_with fail
    refine Hc.out.mono ?_
    rintro e w2 ⟨v, rfl, rfl, q, hq⟩
    have hB2 : Below w1.heap.size w1 w2 := by rw [hq]; exact below_drewN (Below.refl _ _) _
    have HB2 := Lib.hid (below_trans' HB1.out hB2)
    replace y0 := cell_below hB2 y0
    replace y1 := cell_below hB2 y1
    replace y2 := cell_below hB2 y2
    replace y3 := cell_below hB2 y3
    replace y4 := cell_below hB2 y4
    replace y5 := cell_below hB2 y5
    clear hB2 hq Hc
    cases hr1 : risingFrom (-1) L cl
    · have HF := Lib.hid (cover_rise (cr := cr) (cl := cl) H0.out (by rw [hr1]; rfl))
      have HE := Lib.hid (size_bad HF.out (by omega))
      go_wp2
      exact bodyPost_ret results17 rfl (Ret.mk' (by rw [HF.out, HE.out]; rfl) ⟨rfl, HB2.out⟩)
    · have Hr1 := Lib.hid hr1
      have Hc := Lib.hid (refRising_any D cd cr R w2 (HD.out.below HB2.out) Hnd.out)
      go_wp2_with fail
      refine Hc.out.mono ?_
      rintro e w3 ⟨v, rfl, rfl, q, hq⟩
      have hB3 : Below w2.heap.size w2 w3 := by rw [hq]; exact below_drewN (Below.refl _ _) _
      have HB3 := Lib.hid (below_trans' HB2.out hB3)
      replace y0 := cell_below hB3 y0
      replace y1 := cell_below hB3 y1
      replace y2 := cell_below hB3 y2
      replace y3 := cell_below hB3 y3
      replace y4 := cell_below hB3 y4
      replace y5 := cell_below hB3 y5
      clear hB3 hq Hc hr1
      cases hr2 : risingFrom (-1) R cr
      · have HF := Lib.hid (cover_rise (cr := cr) (cl := cl) H0.out (by rw [hr2, Bool.and_false]))
        have HE := Lib.hid (size_bad HF.out (by omega))
        go_wp2
        exact bodyPost_ret results17 rfl (Ret.mk' (by rw [HF.out, HE.out]; rfl) ⟨rfl, HB3.out⟩)
      · have Hrr : Hid ((risingFrom (-1) L cl && risingFrom (-1) R cr) = true) := Lib.hid (by rw [Hr1.out, hr2]; rfl)
        clear hr2
        go_wp2
        go_loopw [6] (fun i wr => ∃ k : Nat, k ≤ l.length ∧ i = .int .i64 k ∧ Below w3.heap.size w3 wr ∧ Hid ((List.range k).any (bareB l t cl cr) = false)) (fun i _ => l.length - (intOf i).toNat)
        case atStart => exact ⟨0, by omega, rfl, Below.refl _ _, rfl⟩
        case round =>
          obtain ⟨k, hk, rfl, hB, HP⟩ := hrel
          have HB := Lib.hid (below_trans' HB3.out hB)
          have z0 := cell_below hB y0
          have z1 := cell_below hB y1
          have z2 := cell_below hB y2
          have z3 := cell_below hB y3
          have z4 := cell_below hB y4
          have z5 := cell_below hB y5
          have HBr := Lib.hid hB
          clear hB y0 y1 y2 y3 y4 y5
          by_cases hkn : k < l.length
          · obtain ⟨b3, o3, hb3, p1, p2⟩ := RangesAt.at_ (Hl.out.below HB.out) hkn
            have hat := atL_eq hkn
            generalize l[k] = x at p1 p2 hat
            obtain ⟨x1, x2⟩ := x
            dsimp only at p1 p2
            subst hb3
            have hT : ∀ W, Below wr.heap.size wr W → _ := fun W h => Htk.out k W (below_trans' HB.out h) (fun x hx => by have := HS.out.known x hx; omega) hkn
            have hE : bareB l t cl cr k = (!takenB l t k && !cl.contains x1 && !cr.contains x2) := by unfold bareB; rw [hat]
            have hI1 : ∀ W, Below wr.heap.size wr W → _ := fun W h => in_anyB C cc cl x1 W (HC.out.below (below_trans' HB.out h)) Hnc.out
            have hI2 : ∀ W, Below wr.heap.size wr W → _ := fun W h => in_anyB D cd cr x2 W (HD.out.below (below_trans' HB.out h)) Hnd.out
            generalize hq1 : takenB l t k = q1 at hT hE
            generalize hq2 : cl.contains x1 = q2 at hI1 hE
            generalize hq3 : cr.contains x2 = q3 at hI2 hE
            clear hq1 hq2 hq3 hat
            have HT := Lib.hid hT
            have HI1 := Lib.hid hI1
            have HI2 := Lib.hid hI2
            have HE := Lib.hid hE
            clear hT hI1 hI2 hE
            go_upto_region 8 with fail
            cases q1
            ·
              refine wp_region_class (C := fun W => Below wr.heap.size wr W) (by kernel_rfl) (by kernel_rfl) ((Below.refl _ _).drew) ?_
              repeat (first
                | go_big_quiet_skip
                | (go_big_quiet_want
                   first
                     | (go_big_quiet_op; go_big_quiet_on)
                     | (apply Exists.intro
                        refine ⟨fun W hW => ?_, ?_⟩
                        · replace z0 := cell_below hW z0; replace z1 := cell_below hW z1; replace z2 := cell_below hW z2; replace z3 := cell_below hW z3; replace z4 := cell_below hW z4; replace z5 := cell_below hW z5; replace p1 := cell_below hW p1; replace p2 := cell_below hW p2; go_simp <;> exact rfl
                        simp only [Act.put, List.setIfInBounds_toArray, List.set_cons_zero, List.set_cons_succ]
                        go_big_quiet_on)))
              go_big_quiet_want
              apply Exists.intro
              refine ⟨fun W hW => ?_, ?_⟩
              · go_simp
                refine (HT.out _ hW).mono ?_
                rintro e wc ⟨v, rfl, rfl, hBc⟩
                exact ⟨rfl, below_trans' hW hBc⟩
              simp only [Act.put, List.setIfInBounds_toArray, List.set_cons_zero, List.set_cons_succ]
              go_big_quiet_on
              repeat (first
                | go_big_quiet_skip
                | (go_big_quiet_want
                   first
                     | (go_big_quiet_op; go_big_quiet_on)
                     | (apply Exists.intro
                        refine ⟨fun W hW => ?_, ?_⟩
                        · replace z0 := cell_below hW z0; replace z1 := cell_below hW z1; replace z2 := cell_below hW z2; replace z3 := cell_below hW z3; replace z4 := cell_below hW z4; replace z5 := cell_below hW z5; replace p1 := cell_below hW p1; replace p2 := cell_below hW p2; go_simp <;> exact rfl
                        simp only [Act.put, List.setIfInBounds_toArray, List.set_cons_zero, List.set_cons_succ]
                        go_big_quiet_on)))
              cases q2
              ·
                go_big_quiet_want
                apply Exists.intro
                refine ⟨fun W hW => ?_, ?_⟩
                · go_simp
                  refine (HI1.out _ hW).mono ?_
                  rintro e wc ⟨v, rfl, rfl, hBc⟩
                  exact ⟨rfl, below_trans' hW hBc⟩
                simp only [Act.put, List.setIfInBounds_toArray, List.set_cons_zero, List.set_cons_succ]
                go_big_quiet_on
                repeat (first
                  | go_big_quiet_skip
                  | (go_big_quiet_want
                     first
                       | (go_big_quiet_op; go_big_quiet_on)
                       | (apply Exists.intro
                          refine ⟨fun W hW => ?_, ?_⟩
                          · replace z0 := cell_below hW z0; replace z1 := cell_below hW z1; replace z2 := cell_below hW z2; replace z3 := cell_below hW z3; replace z4 := cell_below hW z4; replace z5 := cell_below hW z5; replace p1 := cell_below hW p1; replace p2 := cell_below hW p2; go_simp <;> exact rfl
                          simp only [Act.put, List.setIfInBounds_toArray, List.set_cons_zero, List.set_cons_succ]
                          go_big_quiet_on)))
                cases q3
                ·
                  go_big_quiet_want
                  apply Exists.intro
                  refine ⟨fun W hW => ?_, ?_⟩
                  · go_simp
                    refine (HI2.out _ hW).mono ?_
                    rintro e wc ⟨v, rfl, rfl, hBc⟩
                    exact ⟨rfl, below_trans' hW hBc⟩
                  simp only [Act.put, List.setIfInBounds_toArray, List.set_cons_zero, List.set_cons_succ]
                  go_big_quiet_on
                  repeat (first
                    | go_big_quiet_skip
                    | (go_big_quiet_want
                       first
                         | (go_big_quiet_op; go_big_quiet_on)
                         | (apply Exists.intro
                            refine ⟨fun W hW => ?_, ?_⟩
                            · replace z0 := cell_below hW z0; replace z1 := cell_below hW z1; replace z2 := cell_below hW z2; replace z3 := cell_below hW z3; replace z4 := cell_below hW z4; replace z5 := cell_below hW z5; replace p1 := cell_below hW p1; replace p2 := cell_below hW p2; go_simp <;> exact rfl
                            simp only [Act.put, List.setIfInBounds_toArray, List.set_cons_zero, List.set_cons_succ]
                            go_big_quiet_on)))
                  refine wpQuiet_nil ?_
                  intro w5 hB5
                  have HF := Lib.hid (cover_bare H0.out Hrr.out (range_any_hit hkn HE.out))
                  have HF2 := Lib.hid (size_bad HF.out (by omega))
                  have HBE := Lib.hid (below_trans' HB.out hB5)
                  clear hB5
                  go_wp2
                  exact bodyPost_ret results17 rfl (Ret.mk' (by rw [HF.out, HF2.out]; rfl) ⟨rfl, HBE.out⟩)
                ·
                  go_big_quiet_want
                  apply Exists.intro
                  refine ⟨fun W hW => ?_, ?_⟩
                  · go_simp
                    refine (HI2.out _ hW).mono ?_
                    rintro e wc ⟨v, rfl, rfl, hBc⟩
                    exact ⟨rfl, below_trans' hW hBc⟩
                  simp only [Act.put, List.setIfInBounds_toArray, List.set_cons_zero, List.set_cons_succ]
                  go_big_quiet_on
                  repeat (first
                    | go_big_quiet_skip
                    | (go_big_quiet_want
                       first
                         | (go_big_quiet_op; go_big_quiet_on)
                         | (apply Exists.intro
                            refine ⟨fun W hW => ?_, ?_⟩
                            · replace z0 := cell_below hW z0; replace z1 := cell_below hW z1; replace z2 := cell_below hW z2; replace z3 := cell_below hW z3; replace z4 := cell_below hW z4; replace z5 := cell_below hW z5; replace p1 := cell_below hW p1; replace p2 := cell_below hW p2; go_simp <;> exact rfl
                            simp only [Act.put, List.setIfInBounds_toArray, List.set_cons_zero, List.set_cons_succ]
                            go_big_quiet_on)))
                  refine wpQuiet_nil ?_
                  intro w5 hB5
                  have HBE := Lib.hid (below_trans' HBr.out hB5)
                  have HN := Lib.hid (range_any_next HP.out HE.out)
                  clear hB5
                  go_wp2
                  go_roundw
                  case rel => exact ⟨k + 1, by omega, by go_num, HBE.out, HN⟩
                  case measure => simp [intOf]; omega

              ·
                go_big_quiet_want
                apply Exists.intro
                refine ⟨fun W hW => ?_, ?_⟩
                · go_simp
                  refine (HI1.out _ hW).mono ?_
                  rintro e wc ⟨v, rfl, rfl, hBc⟩
                  exact ⟨rfl, below_trans' hW hBc⟩
                simp only [Act.put, List.setIfInBounds_toArray, List.set_cons_zero, List.set_cons_succ]
                go_big_quiet_on
                repeat (first
                  | go_big_quiet_skip
                  | (go_big_quiet_want
                     first
                       | (go_big_quiet_op; go_big_quiet_on)
                       | (apply Exists.intro
                          refine ⟨fun W hW => ?_, ?_⟩
                          · replace z0 := cell_below hW z0; replace z1 := cell_below hW z1; replace z2 := cell_below hW z2; replace z3 := cell_below hW z3; replace z4 := cell_below hW z4; replace z5 := cell_below hW z5; replace p1 := cell_below hW p1; replace p2 := cell_below hW p2; go_simp <;> exact rfl
                          simp only [Act.put, List.setIfInBounds_toArray, List.set_cons_zero, List.set_cons_succ]
                          go_big_quiet_on)))
                refine wpQuiet_nil ?_
                intro w5 hB5
                have HBE := Lib.hid (below_trans' HBr.out hB5)
                have HN := Lib.hid (range_any_next HP.out HE.out)
                clear hB5
                go_wp2
                go_roundw
                case rel => exact ⟨k + 1, by omega, by go_num, HBE.out, HN⟩
                case measure => simp [intOf]; omega

            ·
              refine wp_region_class (C := fun W => Below wr.heap.size wr W) (by kernel_rfl) (by kernel_rfl) ((Below.refl _ _).drew) ?_
              repeat (first
                | go_big_quiet_skip
                | (go_big_quiet_want
                   first
                     | (go_big_quiet_op; go_big_quiet_on)
                     | (apply Exists.intro
                        refine ⟨fun W hW => ?_, ?_⟩
                        · replace z0 := cell_below hW z0; replace z1 := cell_below hW z1; replace z2 := cell_below hW z2; replace z3 := cell_below hW z3; replace z4 := cell_below hW z4; replace z5 := cell_below hW z5; replace p1 := cell_below hW p1; replace p2 := cell_below hW p2; go_simp <;> exact rfl
                        simp only [Act.put, List.setIfInBounds_toArray, List.set_cons_zero, List.set_cons_succ]
                        go_big_quiet_on)))
              go_big_quiet_want
              apply Exists.intro
              refine ⟨fun W hW => ?_, ?_⟩
              · go_simp
                refine (HT.out _ hW).mono ?_
                rintro e wc ⟨v, rfl, rfl, hBc⟩
                exact ⟨rfl, below_trans' hW hBc⟩
              simp only [Act.put, List.setIfInBounds_toArray, List.set_cons_zero, List.set_cons_succ]
              go_big_quiet_on
              repeat (first
                | go_big_quiet_skip
                | (go_big_quiet_want
                   first
                     | (go_big_quiet_op; go_big_quiet_on)
                     | (apply Exists.intro
                        refine ⟨fun W hW => ?_, ?_⟩
                        · replace z0 := cell_below hW z0; replace z1 := cell_below hW z1; replace z2 := cell_below hW z2; replace z3 := cell_below hW z3; replace z4 := cell_below hW z4; replace z5 := cell_below hW z5; replace p1 := cell_below hW p1; replace p2 := cell_below hW p2; go_simp <;> exact rfl
                        simp only [Act.put, List.setIfInBounds_toArray, List.set_cons_zero, List.set_cons_succ]
                        go_big_quiet_on)))
              refine wpQuiet_nil ?_
              intro w5 hB5
              have HBE := Lib.hid (below_trans' HBr.out hB5)
              have HN := Lib.hid (range_any_next HP.out HE.out)
              clear hB5
              go_wp2
              go_roundw
              case rel => exact ⟨k + 1, by omega, by go_num, HBE.out, HN⟩
              case measure => simp [intOf]; omega

          · have HP2 := HP.out
            rw [show k = l.length by omega] at HP2
            have HF := Lib.hid (cover_end H0.out Hrr.out HP2)
            have HF2 := Lib.hid (size_good HF.out)
            have hw1 : IntKind.i64.wrap ((cl.length : Int) + cr.length) = (cl.length : Int) + cr.length := IntWalk.i64_in _ (by have := Hnc.out; have := Hnd.out; omega)
            have hw2 : IntKind.i64.wrap ((cl.length : Int) + cr.length + t.length) = (cl.length : Int) + cr.length + t.length := IntWalk.i64_in _ (by have := Hnc.out; have := Hnd.out; have := Hm.out; omega)
            clear HP2
            go_wp2
            exact bodyPost_ret results17 rfl (Ret.mk' (by rw [HF.out, HF2.out]; rfl) ⟨rfl, HB.out⟩)
  · have d0 : (sheetErr L R l t != 0) = true := by simpa using h0
    have HF := Lib.hid (cover_sheet (cl := cl) (cr := cr) h0)
    have HE := Lib.hid (size_bad HF.out h0)
    clear h0
    have Hc := Lib.hid (Hs.out w1 HB1.out)
    go_wp2_with fail
    refine Hc.out.mono ?_
    rintro e w2 ⟨v, rfl, rfl, hB2⟩
    have HB2 := Lib.hid (below_trans' HB1.out hB2)
    clear hB2 Hc y0 y1 y2 y3 y4 y5
    go_wp2
    exact bodyPost_ret results17 rfl (Ret.mk' (by rw [HF.out, HE.out]; rfl) ⟨rfl, HB2.out⟩)
end Go.Proofs.Ytoogfdicmpkkgaa

namespace Go.Proofs.Ytoogfdicmpkkgaa
open Go.RowKit

theorem results16 {tmps : Array Value} {W : World} : (results Try.f16 tmps).run Try.prog W = .ok (.tuple #[tmps.getD 4 undef, tmps.getD 5 undef]) W := results_tmp2 (fn := Try.f16) rfl _ _ _
set_option maxRecDepth 100000 in
set_option maxHeartbeats 1000000 in
theorem checkCover_any (L R : Int) (A B C D : Option Addr) (ca cb cc cd : Nat) (l : List (Int × Int)) (t cl cr : List Int) (w : World) (hl : RangesAt w A l) (ht : IntsAt w B t) (hC : IntsAt w C cl) (hD : IntsAt w D cr) (hn : l.length ≤ 100000) (hm : t.length ≤ 100000) (hnc : cl.length ≤ 100000) (hnd : cr.length ≤ 100000) (hca : l.length ≤ ca) (hcm : ca ≤ 9223372036854775807) :
    Calls Try.prog 16 #[vSheet L R A l.length ca B t.length cb, vCover C cl.length cc D cr.length cd] w (Ret fun v w' => v = .tuple #[.int .i64 (coverSize L R l t cl cr), .int .i64 (coverErr L R l t cl cr)] ∧ Below w.heap.size w w') := by
  have Hl := Lib.hid hl; clear hl
  have Ht := Lib.hid ht; clear ht
  have HC := Lib.hid hC; clear hC
  have HD := Lib.hid hD; clear hD
  have Hm := Lib.hid hm; clear hm
  have Hnc := Lib.hid hnc; clear hnc
  have Hnd := Lib.hid hnd; clear hnd
  obtain ⟨w0, hw0⟩ : ∃ w0, w0 = (w.alloc (.cells #[.int .i64 L, .int .i64 R, .slice A l.length ca, .slice B t.length cb] 25)).alloc (.cells #[.slice C cl.length cc, .slice D cr.length cd] 27) := ⟨_, rfl⟩
  have HB0 : Hid (Below w.heap.size w w0) := Lib.hid (by rw [hw0]; exact below_alloc' (below_alloc' (Below.refl _ _) _) _)
  have hX : w0.heap[w.heap.size]? = some (.cells #[.int .i64 L, .int .i64 R, .slice A l.length ca, .slice B t.length cb] 25 (0, 0)) := by rw [hw0]; exact blk_alloc (heap_alloc_new _ _) _
  have hX2 : w0.heap[w.heap.size + 1]? = some (.cells #[.slice C cl.length cc, .slice D cr.length cd] 27 (0, 0)) := by rw [hw0]; have := heap_alloc_new (w.alloc (.cells #[.int .i64 L, .int .i64 R, .slice A l.length ca, .slice B t.length cb] 25)) (.cells #[.slice C cl.length cc, .slice D cr.length cd] 27); rwa [World.size_alloc] at this
  have hs := fun W (h : Below w.heap.size w W) => checkSheet_any L R A B ca cb l t W (Hl.out.below h) (Ht.out.below h) hn Hm.out hca hcm
  have hnj := fun W (h : Below w.heap.size w W) => newJoiner_any ⟨L, R, A, ca, B, cb, l, t⟩ W (Hl.out.below h) (Ht.out.below h) Hm.out
  unfold Sh.v at hnj
  dsimp only at hnj
  unfold vSheet at hs hnj ⊢
  unfold vCover
  have Hs := Lib.hid hs
  have Hnj := Lib.hid hnj
  clear hs hnj
  have y0 : w0.cell? ⟨w.heap.size, 0, none⟩ = some (.int .i64 L) := (blk_cell hX).trans rfl
  have y1 : w0.cell? ⟨w.heap.size, 1, none⟩ = some (.int .i64 R) := (blk_cell hX).trans rfl
  have y2 : w0.cell? ⟨w.heap.size, 2, none⟩ = some (.slice A l.length ca) := (blk_cell hX).trans rfl
  have y3 : w0.cell? ⟨w.heap.size, 3, none⟩ = some (.slice B t.length cb) := (blk_cell hX).trans rfl
  have y4 : w0.cell? ⟨w.heap.size + 1, 0, none⟩ = some (.slice C cl.length cc) := (blk_cell hX2).trans rfl
  have y5 : w0.cell? ⟨w.heap.size + 1, 1, none⟩ = some (.slice D cr.length cd) := (blk_cell hX2).trans rfl
  clear hX hX2
  have Hc := Lib.hid (Hs.out w0 HB0.out)
  rw [hw0] at y0 y1 y2 y3 y4 y5 Hc
  have HW0 := Lib.hid hw0
  clear hw0
  go_enter Try.func16, Try.ntmps16
  go_wp2_with fail
  refine Hc.out.mono ?_
  rintro e w1 ⟨v, rfl, rfl, hB1⟩
  rw [← HW0.out] at hB1 y0 y1 y2 y3 y4 y5
  have HB1 := Lib.hid (below_trans' HB0.out hB1)
  replace y0 := cell_below hB1 y0
  replace y1 := cell_below hB1 y1
  replace y2 := cell_below hB1 y2
  replace y3 := cell_below hB1 y3
  replace y4 := cell_below hB1 y4
  replace y5 := cell_below hB1 y5
  clear hB1 Hc HB0 HW0
  by_cases h0 : sheetErr L R l t = 0
  · have d0 : (sheetErr L R l t != 0) = false := by simp [h0]
    have HS := Lib.hid (sheet_ok h0)
    have H0 := Lib.hid h0; clear h0
    have Hc := Lib.hid (rising_any C cc cl L w1 (HC.out.below HB1.out) Hnc.out (by have := HS.out.dim; omega))
    go_wp2_with fail
    refine Hc.out.mono ?_
    rintro e w2 ⟨v, rfl, rfl, hB2⟩
    have HB2 := Lib.hid (below_trans' HB1.out hB2)
    replace y0 := cell_below hB2 y0
    replace y1 := cell_below hB2 y1
    replace y2 := cell_below hB2 y2
    replace y3 := cell_below hB2 y3
    replace y4 := cell_below hB2 y4
    replace y5 := cell_below hB2 y5
    clear hB2 Hc
    cases hr1 : risingFrom (-1) L cl
    · have HF := Lib.hid (cover_rise (cr := cr) (cl := cl) H0.out (by rw [hr1]; rfl))
      have HE := Lib.hid (size_bad HF.out (by omega))
      go_wp2
      exact bodyPost_ret results16 rfl (Ret.mk' (by rw [HF.out, HE.out]; rfl) ⟨rfl, HB2.out⟩)
    · have Hr1 := Lib.hid hr1
      have Hc := Lib.hid (rising_any D cd cr R w2 (HD.out.below HB2.out) Hnd.out (by have := HS.out.dim; omega))
      go_wp2_with fail
      refine Hc.out.mono ?_
      rintro e w3 ⟨v, rfl, rfl, hB3⟩
      have HB3 := Lib.hid (below_trans' HB2.out hB3)
      replace y0 := cell_below hB3 y0
      replace y1 := cell_below hB3 y1
      replace y2 := cell_below hB3 y2
      replace y3 := cell_below hB3 y3
      replace y4 := cell_below hB3 y4
      replace y5 := cell_below hB3 y5
      clear hB3 Hc hr1
      cases hr2 : risingFrom (-1) R cr
      · have HF := Lib.hid (cover_rise (cr := cr) (cl := cl) H0.out (by rw [hr2, Bool.and_false]))
        have HE := Lib.hid (size_bad HF.out (by omega))
        go_wp2
        exact bodyPost_ret results16 rfl (Ret.mk' (by rw [HF.out, HE.out]; rfl) ⟨rfl, HB3.out⟩)
      · have Hrr : Hid ((risingFrom (-1) L cl && risingFrom (-1) R cr) = true) := Lib.hid (by rw [Hr1.out, hr2]; rfl)
        clear hr2
        have Hc := Lib.hid (Hnj.out w3 HB3.out HS.out.known HS.out.in12)
        go_wp2_with fail
        refine Hc.out.mono ?_
        rintro e w4 ⟨v, rfl, ⟨jb, rfl, hj, _⟩, hB4⟩
        have HB4 := Lib.hid (below_trans' HB3.out hB4)
        have HJ := Lib.hid hj
        replace y2 := cell_below hB4 y2
        replace y3 := cell_below hB4 y3
        replace y4 := cell_below hB4 y4
        replace y5 := cell_below hB4 y5
        clear hB4 Hc hj y0 y1
        go_wp2
        go_loopw [37] (fun i wr => ∃ k : Nat, k ≤ l.length ∧ i = .int .i64 k ∧ Below w4.heap.size w4 wr ∧ Hid ((List.range k).any (bareB l t cl cr) = false)) (fun i _ => l.length - (intOf i).toNat)
        case atStart => exact ⟨0, by omega, rfl, Below.refl _ _, rfl⟩
        case round =>
          obtain ⟨k, hk, rfl, hB, HP⟩ := hrel
          have HB := Lib.hid (below_trans' HB4.out hB)
          have z3 := cell_below hB y3
          have z4 := cell_below hB y4
          have z5 := cell_below hB y5
          have HBr := Lib.hid hB
          clear hB y2 y3 y4 y5
          by_cases hkn : k < l.length
          · obtain ⟨b3, o3, hb3, p1, p2⟩ := RangesAt.at_ (Hl.out.below HB.out) hkn
            have hat := atL_eq hkn
            generalize l[k] = x at p1 p2 hat
            obtain ⟨x1, x2⟩ := x
            dsimp only at p1 p2
            subst hb3
            have n0 := new2_0 wr (.int .i64 x1) (.int .i64 x2) 55
            have n1 := new2_1 wr (.int .i64 x1) (.int .i64 x2) 55
            have HJ1 := Lib.hid (HJ.out.below (below_alloc' HBr.out (.cells #[.int .i64 x1, .int .i64 x2] 55)))
            have HBr1 := Lib.hid (below_alloc' HBr.out (.cells #[.int .i64 x1, .int .i64 x2] 55))
            have HB1' := Lib.hid (below_alloc' HB.out (.cells #[.int .i64 x1, .int .i64 x2] 55))
            replace z3 := cell_alloc z3 (.cells #[.int .i64 x1, .int .i64 x2] 55)
            replace z4 := cell_alloc z4 (.cells #[.int .i64 x1, .int .i64 x2] 55)
            replace z5 := cell_alloc z5 (.cells #[.int .i64 x1, .int .i64 x2] 55)
            have hE : bareB l t cl cr k = (!takenB l t k && !cl.contains x1 && !cr.contains x2) := by unfold bareB; rw [hat]
            have HE := Lib.hid hE
            clear hE hat
            go_upto_region 10 with fail
            generalize (wr.alloc (.cells #[.int .i64 x1, .int .i64 x2] 55)) = w5 at n0 n1 HJ1 HBr1 HB1' z3 z4 z5 ⊢
            generalize wr.heap.size = b9 at n0 n1 ⊢
            have Hc := Lib.hid (free_any _ jb ⟨L, R, some ⟨b3, o3, none⟩, ca, B, cb, l, t⟩ k w5 HJ1.out hkn HS.out.in12)
            dsimp only at Hc
            generalize takenB l t k = q1 at Hc HE
            go_wp2_with fail
            refine Hc.out.mono ?_
            rintro e w6 ⟨v, rfl, rfl, hB6⟩
            have HBr6 := Lib.hid (below_trans' HBr1.out hB6)
            have HB6 := Lib.hid (below_trans' HB1'.out hB6)
            replace z4 := cell_below hB6 z4
            replace z5 := cell_below hB6 z5
            replace n0 := cell_below hB6 n0
            replace n1 := cell_below hB6 n1
            clear hB6 Hc z3
            cases q1
            · have Hc := Lib.hid (containsI_any C cc cl x1 w6 (HC.out.below HB6.out) Hnc.out)
              rw [contains_any] at Hc
              generalize cl.contains x1 = q2 at Hc HE
              go_wp2_with fail
              refine Hc.out.mono ?_
              rintro e w7 ⟨v, rfl, rfl, hB7⟩
              have HBr7 := Lib.hid (below_trans' HBr6.out hB7)
              have HB7 := Lib.hid (below_trans' HB6.out hB7)
              replace z4 := cell_below hB7 z4
              replace z5 := cell_below hB7 z5
              replace n0 := cell_below hB7 n0
              replace n1 := cell_below hB7 n1
              clear hB7 Hc
              cases q2
              · have Hc := Lib.hid (containsI_any D cd cr x2 w7 (HD.out.below HB7.out) Hnd.out)
                rw [contains_any] at Hc
                generalize cr.contains x2 = q3 at Hc HE
                go_wp2_with fail
                refine Hc.out.mono ?_
                rintro e w8 ⟨v, rfl, rfl, hB8⟩
                have HBr8 := Lib.hid (below_trans' HBr7.out hB8)
                have HB8 := Lib.hid (below_trans' HB7.out hB8)
                clear hB8 Hc z4 z5 n0 n1
                cases q3
                · have HF := Lib.hid (cover_bare H0.out Hrr.out (range_any_hit hkn HE.out))
                  have HF2 := Lib.hid (size_bad HF.out (by omega))
                  go_wp2
                  exact bodyPost_ret results16 rfl (Ret.mk' (by rw [HF.out, HF2.out]; rfl) ⟨rfl, HB8.out⟩)
                · have HN := Lib.hid (range_any_next HP.out HE.out)
                  go_wp2
                  go_roundw
                  case rel => exact ⟨k + 1, by omega, by go_num, HBr8.out, HN⟩
                  case measure => simp [intOf]; omega
              · have HN := Lib.hid (range_any_next HP.out HE.out)
                go_wp2
                go_roundw
                case rel => exact ⟨k + 1, by omega, by go_num, HBr7.out, HN⟩
                case measure => simp [intOf]; omega
            · have HN := Lib.hid (range_any_next HP.out HE.out)
              go_wp2
              go_roundw
              case rel => exact ⟨k + 1, by omega, by go_num, HBr6.out, HN⟩
              case measure => simp [intOf]; omega
          · have HP2 := HP.out
            rw [show k = l.length by omega] at HP2
            have HF := Lib.hid (cover_end H0.out Hrr.out HP2)
            have HF2 := Lib.hid (size_good HF.out)
            have hw1 : IntKind.i64.wrap ((cl.length : Int) + cr.length) = (cl.length : Int) + cr.length := IntWalk.i64_in _ (by have := Hnc.out; have := Hnd.out; omega)
            have hw2 : IntKind.i64.wrap ((cl.length : Int) + cr.length + t.length) = (cl.length : Int) + cr.length + t.length := IntWalk.i64_in _ (by have := Hnc.out; have := Hnd.out; have := Hm.out; omega)
            clear HP2
            go_wp2
            exact bodyPost_ret results16 rfl (Ret.mk' (by rw [HF.out, HF2.out]; rfl) ⟨rfl, HB.out⟩)
  · have d0 : (sheetErr L R l t != 0) = true := by simpa using h0
    have HF := Lib.hid (cover_sheet (cl := cl) (cr := cr) h0)
    have HE := Lib.hid (size_bad HF.out h0)
    clear h0
    go_wp2
    exact bodyPost_ret results16 rfl (Ret.mk' (by rw [HF.out, HE.out]; rfl) ⟨rfl, HB1.out⟩)
end Go.Proofs.Ytoogfdicmpkkgaa

namespace Go.Proofs.Ytoogfdicmpkkgaa
open Go.RowKit Go.Shelf
attribute [local go_sem] Oper.semAt_some

/-- the places below k that q picks -/
def pick (q : Nat → Bool) (k : Nat) : List Nat := (List.range k).filter q
theorem pick_hit {q : Nat → Bool} {k : Nat} (h : q k = true) : pick q (k + 1) = pick q k ++ [k] := by unfold pick; rw [List.range_succ, List.filter_append]; simp [h]
theorem pick_miss {q : Nat → Bool} {k : Nat} (h : q k = false) : pick q (k + 1) = pick q k := by unfold pick; rw [List.range_succ, List.filter_append]; simp [h]
theorem pick_pre (q : Nat → Bool) {k m : Nat} (h : k ≤ m) : pick q k <+: pick q m := by
  induction m with
  | zero => rw [show k = 0 by omega]; exact List.prefix_refl _
  | succ m ih =>
    by_cases e : k = m + 1
    · rw [e]; exact List.prefix_refl _
    · refine (ih (by omega)).trans ?_
      cases hq : q m
      · rw [pick_miss hq]; exact List.prefix_refl _
      · rw [pick_hit hq]; exact List.prefix_append _ _
theorem pick_lt {q : Nat → Bool} {k m : Nat} (h : k < m) (hq : q k = true) : (pick q k).length < (pick q m).length := by
  have := (pick_pre q (show k + 1 ≤ m by omega)).length_le
  rw [pick_hit hq] at this
  simp at this; omega

theorem pick_at {α : Type} {f : α → Nat} {xs : List α} {q : Nat → Bool} {m k : Nat} (hxs : xs.map f = pick q m) (hk : k < m) (hq : q k = true) : ∃ h : (pick q k).length < xs.length, f xs[(pick q k).length] = k := by
  have h1 := pick_pre q (show k + 1 ≤ m by omega)
  rw [pick_hit hq, ← hxs] at h1
  have hl := h1.length_le
  simp at hl
  refine ⟨by omega, ?_⟩
  have h2 : (xs.map f)[(pick q k).length]? = some k := by
    obtain ⟨r, hr⟩ := h1
    rw [← hr]; simp
  rw [List.getElem?_map, List.getElem?_eq_getElem (by omega)] at h2
  simpa using h2

/-- a function value that says of each link whether it is allowed, in whatever world that has what stays -/
def Allows (g : Nat) (fst cpt : Array Value) (m n jb mb : Nat) (w : World) (p : Nat → Bool) : Prop :=
  ∀ (W : World) (k : Nat), KeepJ n jb mb w W → k < m → Calls Try.prog g (fst.push (.int .i64 k) ++ cpt) W (Ret fun v W' => v = .bool (p k) ∧ Below W.heap.size W W')
theorem Allows.keep {g : Nat} {fst cpt : Array Value} {m n jb mb : Nat} {w w' : World} {p : Nat → Bool} (h : Allows g fst cpt m n jb mb w p) (hk : KeepJ n jb mb w w') : Allows g fst cpt m n jb mb w' p :=
  fun W k hW hm => h W k (hk.trans hW) hm
theorem Allows.less {g : Nat} {fst cpt : Array Value} {m n n' jb mb : Nat} {w : World} {p : Nat → Bool} (h : Allows g fst cpt m n jb mb w p) (hn : n ≤ n') : Allows g fst cpt m n' jb mb w p :=
  fun W k hW hm => h W k ⟨hW.os, hW.tape, hW.output, hW.size, fun b hb => hW.block b (by omega), hW.head⟩ hm
theorem grown_below {w w' : World} (h : Below w.heap.size w w') : w.grownBy w' none := ⟨h.os, h.tape, h.output, h.size, fun i hi _ => h.block i hi⟩
def wants (s : Sh) (left : Int) (p : Nat → Bool) (k : Nat) : Bool := ((atL s.l k).1 == left) && p k

theorem links_any (p : Value) (hp : ∃ a, p = .pointer a) (left : Int) (f : Value) (hf : ∃ a b c, f = .func a b c) (w : World) :
    Calls Try.prog 80 #[p, .int .i64 left, f] w (Ret fun v w' => v = .func (.func 94) #[] #[.pointer (some ⟨w.heap.size, 0, none⟩), .pointer (some ⟨w.heap.size + 1, 0, none⟩), .pointer (some ⟨w.heap.size + 1 + 1, 0, none⟩)] ∧
      w' = ((w.alloc (.cells #[p] 62)).alloc (.cells #[.int .i64 left] 3)).alloc (.cells #[f] 61)) := by
  obtain ⟨a, rfl⟩ := hp
  obtain ⟨f1, f2, f3, rfl⟩ := hf
  go_enter Try.func80, Try.ntmps80
  go_wp2
  go_ret
  exact Ret.mk ⟨rfl, rfl⟩

set_option maxRecDepth 100000 in
set_option maxHeartbeats 2000000 in
theorem links1_in {α : Type} (f : α → Nat) (xs : List α) (N : Nat) (hN : 1 ≤ N) (l0 bx n n0 jb mb : Nat) (s : Sh) (left : Int) (g : Nat) (fst cpt : Array Value) (p : Nat → Bool) (hxs : xs.map f = pick (wants s left p) s.l.length) (J Jx : List α → World → Prop) (W : World)
    (hJ : AbidesFrom W.heap.size J) (hn : n ≤ W.heap.size) (h0n : n0 ≤ n) (h0m : n0 ≤ mb) (hbx : bx + 2 < n) (hbj : jb < bx) (hbm : mb < bx) (eg : ∀ args w, (callFunc g args).run Try.prog w = .ok (.enter g args) w)
    (hY : ∀ pre x W1, J pre W1 → pre.length < xs.length → YieldAt Fence.wide (N - 1) Try.prog l0 #[.int .i64 (f x)] W1 fun e W' =>
      (e = .returned (.bool true) ∧ J (pre ++ [x]) W' ∧ KeepJ n jb mb W1 W') ∨ (e = .returned (.bool false) ∧ Jx (pre ++ [x]) W'))
    (hb0 : W.cell? ⟨bx, 0, none⟩ = some (.pointer (some ⟨jb, 0, none⟩))) (hb1 : W.cell? ⟨bx + 1, 0, none⟩ = some (.int .i64 left)) (hb2 : W.cell? ⟨bx + 1 + 1, 0, none⟩ = some (.func (.func g) fst cpt))
    (hh : Head n0 W jb s) (hlen : s.l.length ≤ 100000) (hp : Allows g fst cpt s.l.length n jb mb W p) (h0 : J [] W) :
    CallsIn Fence.wide N Try.prog 94 #[.func (.yield l0) #[] #[], .pointer (some ⟨bx, 0, none⟩), .pointer (some ⟨bx + 1, 0, none⟩), .pointer (some ⟨bx + 1 + 1, 0, none⟩)] W fun e W' => (∃ v, e = .returned v) ∧
      ((∃ ys, ys = xs ∧ J ys W') ∨ (∃ pre, pre <+: xs ∧ Jx pre W')) := by
  obtain ⟨L, R, A, ca, B, cb, l, t⟩ := s
  dsimp only at hlen hp hxs ⊢
  have Hxs := Lib.hid hxs; clear hxs
  have HH := Lib.hid hh
  have HY := Lib.hid hY; clear hY
  have HP := Lib.hid hp; clear hp
  have c2 := hh.c2
  dsimp only at c2
  clear hh
  refine callsIn_of_wp Try.func94 rfl trivial ?_ rfl
  simp only [Try.ntmps94, List.size_toArray, List.length_cons, List.length_nil, Nat.reduceAdd, Nat.reduceSub, Array.replicate_succ, Array.replicate_zero, List.push_toArray, List.append_toArray, List.nil_append, List.cons_append]
  gi_wp2
  gi_loopw [13] (fun i wr => ∃ k : Nat, k ≤ l.length ∧ i = .int .i64 k ∧ J (xs.take (pick (wants ⟨L, R, A, ca, B, cb, l, t⟩ left p) k).length) wr ∧ KeepJ n jb mb W wr) (fun i _ => l.length - (intOf i).toNat)
  case atStart => exact ⟨0, Nat.zero_le _, rfl, h0, KeepJ.refl _ _ _ _⟩
  case round =>
    obtain ⟨k, hk, rfl, hJs, hkp⟩ := hrel
    have HKp := Lib.hid hkp; clear hkp
    clear hb0 c2
    replace hb1 := HKp.out.cell (by omega) (by omega) (by omega) hb1
    replace hb2 := HKp.out.cell (by omega) (by omega) (by omega) hb2
    replace HH := Lib.hid (HH.out.keep HKp.out h0n h0m)
    replace HP := Lib.hid (HP.out.keep HKp.out)
    by_cases hlt : k < l.length
    · obtain ⟨b3, o3, hb3, _, p1, p2⟩ := HH.out.links k hlt
      have hat := atL_eq hlt
      dsimp only at hb3 p1 p2
      generalize l[k] = x at p1 p2 hat
      obtain ⟨x1, x2⟩ := x
      dsimp only at p1 p2
      subst hb3
      have hwk : wants ⟨L, R, some ⟨b3, o3, none⟩, ca, B, cb, l, t⟩ left p k = ((x1 == left) && p k) := by unfold wants; dsimp only; rw [hat]
      clear hat
      have hal : Below wr.heap.size wr (wr.alloc (.cells #[.int .i64 x1, .int .i64 x2] 55)) := below_alloc' (Below.refl _ _) _
      have hJa := hJ _ _ _ none hJs (grown_below hal) (fun r e => by cases e)
      have HK1 := Lib.hid (HKp.out.trans (KeepJ.below hal (by have := HKp.out.size; omega) HH.out.lt))
      have n0 := new2_0 wr (.int .i64 x1) (.int .i64 x2) 55
      replace hb1 := cell_alloc hb1 (.cells #[.int .i64 x1, .int .i64 x2] 55)
      replace hb2 := cell_alloc hb2 (.cells #[.int .i64 x1, .int .i64 x2] 55)
      cases hq : (x1 == left)
      · have HN := Lib.hid (pick_miss (q := wants ⟨L, R, some ⟨b3, o3, none⟩, ca, B, cb, l, t⟩ left p) (k := k) (by rw [hwk, hq]; rfl))
        clear hwk
        gi_wp2
        refine ⟨fun _ h => (by cases h), ?_⟩
        gi_wp2
        go_roundw
        case rel => exact ⟨k + 1, by omega, by go_num, by rw [HN.out]; exact hJa, HK1.out⟩
        case measure => simp [intOf]; omega
      · rw [hq, Bool.true_and] at hwk
        have Hwk := Lib.hid hwk
        have Hc := Lib.hid (HP.out (wr.alloc (.cells #[.int .i64 x1, .int .i64 x2] 55)) k (KeepJ.below hal (by have := HKp.out.size; omega) HH.out.lt) hlt)
        clear hwk
        gi_wp2
        refine ⟨trivial, ?_⟩
        refine (callsIn_wide.2 Hc.out).mono ?_
        rintro e w4 ⟨v, rfl, rfl, hB4⟩
        have hJb := hJ _ _ _ none hJa (grown_below hB4) (fun r e => by cases e)
        have HK4 := Lib.hid (HK1.out.trans (KeepJ.below hB4 (by have := HK1.out.size; omega) (HH.out.below hal).lt))
        cases hpk : p k
        · have HN := Lib.hid (pick_miss (q := wants ⟨L, R, some ⟨b3, o3, none⟩, ca, B, cb, l, t⟩ left p) (k := k) (by rw [Hwk.out, hpk]))
          clear Hc
          gi_wp2
          refine ⟨fun _ h => (by cases h), ?_⟩
          gi_wp2
          go_roundw
          case rel => exact ⟨k + 1, by omega, by go_num, by rw [HN.out]; exact hJb, HK4.out⟩
          case measure => simp [intOf]; omega
        · have hwt := Hwk.out.trans hpk
          have HN := Lib.hid (pick_hit (q := wants ⟨L, R, some ⟨b3, o3, none⟩, ca, B, cb, l, t⟩ left p) (k := k) hwt)
          obtain ⟨hlx, hfx⟩ := pick_at Hxs.out hlt hwt
          generalize hcx : (pick (wants ⟨L, R, some ⟨b3, o3, none⟩, ca, B, cb, l, t⟩ left p) k).length = c at hJb hlx hfx
          have hts := take_snoc hlx rfl
          generalize xs[c] = y at hfx hts
          subst hfx
          obtain ⟨fn, tmps, assign, body, hy, hR⟩ := HY.out _ y _ hJb (by rw [List.length_take]; omega)
          have HT : Hid (xs.take (pick (wants ⟨L, R, some ⟨b3, o3, none⟩, ca, B, cb, l, t⟩ left p) (f y + 1)).length = xs.take c ++ [y]) := Lib.hid (by rw [HN.out, List.length_append, hcx]; exact hts)
          clear hts hcx
          have HR := Lib.hid hR; clear hR Hc
          gi_wp2
          refine HR.out.mono ?_
          rintro e W3 (⟨rfl, hJ3, hk3⟩ | ⟨rfl, hJx3⟩)
          · have HK3 := Lib.hid hk3; clear hk3
            gi_wp2
            go_roundw
            case rel => exact ⟨f y + 1, by omega, by go_num, by rw [HT.out]; exact hJ3, HK4.out.trans HK3.out⟩
            case measure => simp [intOf]; omega
          · gi_wp2
            refine bodyPost_ret (results_none rfl _ _ _) rfl ?_
            exact ⟨⟨_, rfl⟩, .inr ⟨_, by rw [← HT.out]; exact List.take_prefix _ _, hJx3⟩⟩
    · obtain rfl : k = l.length := by omega
      gi_wp2
      go_end0
      exact ⟨⟨_, rfl⟩, .inl ⟨_, by rw [← Hxs.out, List.length_map, List.take_length], hJs⟩⟩
theorem links_stops {α : Type} (f : α → Nat) (xs : List α) (N : Nat) (hN : 1 ≤ N) (bx n n0 jb mb : Nat) (s : Sh) (left : Int) (g : Nat) (fst cpt : Array Value) (p : Nat → Bool) (hxs : xs.map f = pick (wants s left p) s.l.length) (w : World)
    (hn : n ≤ w.heap.size) (h0n : n0 ≤ n) (h0m : n0 ≤ mb) (hbx : bx + 2 < n) (hbj : jb < bx) (hbm : mb < bx) (eg : ∀ args w, (callFunc g args).run Try.prog w = .ok (.enter g args) w)
    (hb0 : w.cell? ⟨bx, 0, none⟩ = some (.pointer (some ⟨jb, 0, none⟩))) (hb1 : w.cell? ⟨bx + 1, 0, none⟩ = some (.int .i64 left)) (hb2 : w.cell? ⟨bx + 1 + 1, 0, none⟩ = some (.func (.func g) fst cpt))
    (hh : Head n0 w jb s) (hlen : s.l.length ≤ 100000) (hp : Allows g fst cpt s.l.length n jb mb w p) :
    SeqStopsK Fence.wide N Try.prog 94 #[.pointer (some ⟨bx, 0, none⟩), .pointer (some ⟨bx + 1, 0, none⟩), .pointer (some ⟨bx + 1 + 1, 0, none⟩)] (fun x : α => #[.int .i64 (f x)]) (KeepJ n jb mb)
      (fun ys => ys = xs) (fun pre => pre <+: xs) xs.length w := fun l0 J Jx W hW hJ _ hY h0 =>
  links1_in f xs N hN l0 bx n n0 jb mb s left g fst cpt p hxs J Jx W hJ (Nat.le_trans hn hW.size) h0n h0m hbx hbj hbm eg hY (cell_below hW hb0) (cell_below hW hb1) (cell_below hW hb2) (hh.below hW) hlen (hp.keep (KeepJ.below hW hn hh.lt)) h0
end Go.Proofs.Ytoogfdicmpkkgaa
