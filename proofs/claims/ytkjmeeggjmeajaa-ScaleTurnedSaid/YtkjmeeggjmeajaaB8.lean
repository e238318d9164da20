/- The iterator over a song's tones. -/
import Derived.Test.YtkjmeeggjmeajaaB7
import Derived.RangeFuncNested
import Derived.RangeFuncBound
import Derived.RangeFuncCalls
import Derived.RangeFuncLeaves
import Derived.Shelf.Abstract
import Derived.Shelf.RegionOpen
import Derived.OwnWalkIn
import Derived.TacticsInMore
import Derived.LoopNIn
import Derived.LoopIn
namespace Go.Proofs.Ytkjmeeggjmeajaa
open Go.RowKit Go.Shelf
attribute [local go_sem] Oper.semAt_some

/-- a song that lies in memory: block sb holds the slice value v whose tones are ts; it lies below n0 -/
def SongOf (n0 : Nat) (w : World) (sb : Nat) (ts : List Tone) : Prop :=
  sb < n0 ∧ ∃ A c, w.heap[sb]? = some (.cells #[.slice A ts.length c] 93 (0, 0)) ∧ ∀ i (h : i < ts.length), ∃ b off, A = some ⟨b, off, none⟩ ∧ b < n0 ∧
    w.cell? ⟨b, off + i * 3, none⟩ = some (.int .i64 ts[i].1) ∧ w.cell? ⟨b, off + i * 3 + 1, none⟩ = some (.int .i64 ts[i].2.1) ∧ w.cell? ⟨b, off + i * 3 + 2, none⟩ = some (.int .i64 ts[i].2.2)

def KeepB (n0 bx : Nat) (A B : World) : Prop := ∀ b, (b < n0 ∨ b = bx) → B.heap[b]? = A.heap[b]?
theorem KeepB.refl (n0 bx : Nat) (A : World) : KeepB n0 bx A A := fun _ _ => rfl
theorem KeepB.trans {n0 bx : Nat} {A B C : World} (h : KeepB n0 bx A B) (k : KeepB n0 bx B C) : KeepB n0 bx A C := fun b hb => (k b hb).trans (h b hb)
theorem KeepB.below {n0 bx m : Nat} {A B : World} (h : Below m A B) (h1 : n0 ≤ m) (h2 : bx < m) : KeepB n0 bx A B := fun b hb => h.block b (by omega)
theorem KeepB.lt {n0 bx : Nat} {A B : World} (h : KeepB n0 bx A B) (h1 : n0 ≤ A.heap.size) (h2 : bx < A.heap.size) {b : Nat} (hb : b < n0 ∨ b = bx) : b < B.heap.size := by
  have e := h b hb
  have hlt : b < A.heap.size := by omega
  rw [Array.getElem?_eq_getElem hlt] at e
  exact (Array.getElem?_eq_some_iff.1 e).1
theorem KeepB.alloc {n0 bx : Nat} {A B : World} (h : KeepB n0 bx A B) (h1 : n0 ≤ A.heap.size) (h2 : bx < A.heap.size) (o : Obj) : KeepB n0 bx A (B.alloc o) :=
  fun b hb => (Below.heap_alloc B o b (h.lt h1 h2 hb)).trans (h b hb)
theorem keepB_b {n0 bx m : Nat} (h1 : n0 ≤ m) (h2 : bx < m) : ∀ (W : World) (l : Nat) (o o' : Obj), m ≤ l → W.heap[l]? = some o → o.isCells = false → o.isWalk = false → KeepB n0 bx W (W.putObj l o') :=
  fun W l o o' hl _ _ _ b hb => World.putObj_heap_other (by omega)
theorem SongOf.keep {n0 bx sb : Nat} {A B : World} {ts : List Tone} (h : SongOf n0 A sb ts) (k : KeepB n0 bx A B) : SongOf n0 B sb ts := by
  obtain ⟨h1, S, c, hb, hc⟩ := h
  refine ⟨h1, S, c, (k sb (.inl h1)).trans hb, fun i hi => ?_⟩
  obtain ⟨b, off, e, hlt, c1, c2, c3⟩ := hc i hi
  have e0 := fun (o : Nat) => World.cell?_of_block (a := ⟨b, o, none⟩) (k b (.inl hlt))
  exact ⟨b, off, e, hlt, (e0 _).trans c1, (e0 _).trans c2, (e0 _).trans c3⟩

theorem SongOf.below {n0 sb : Nat} {A B : World} {ts : List Tone} (h : SongOf n0 A sb ts) (k : Below n0 A B) : SongOf n0 B sb ts := by
  obtain ⟨h1, S, c, hb, hc⟩ := h
  refine ⟨h1, S, c, (k.block sb h1).trans hb, fun i hi => ?_⟩
  obtain ⟨b, off, e, hlt, c1, c2, c3⟩ := hc i hi
  have e0 := fun (o : Nat) => World.cell?_of_block (a := ⟨b, o, none⟩) (k.block b hlt)
  exact ⟨b, off, e, hlt, (e0 _).trans c1, (e0 _).trans c2, (e0 _).trans c3⟩

theorem tones_any (p : Value) (w : World) (hp : ∃ a, p = .pointer a) : Calls Try.prog 61 #[p] w (Ret fun v w' => v = .func (.func 73) #[] #[.pointer (some ⟨w.heap.size, 0, none⟩)] ∧ w' = w.alloc (.cells #[p] 71)) := by
  obtain ⟨a, rfl⟩ := hp
  go_enter Try.func61, Try.ntmps61
  go_wp2
  go_ret
  exact Ret.mk ⟨rfl, rfl⟩

set_option maxRecDepth 100000 in
set_option maxHeartbeats 2000000 in
theorem tones1_in {α : Type} (f : α → Tone) (n : Nat) (hn : 1 ≤ n) (l bx n0 sb : Nat) (ts : List α) (hlen : ts.length ≤ 100000) (J Jx : List α → World → Prop) (W : World)
    (hJ : AbidesFrom W.heap.size J) (hnb : n0 ≤ W.heap.size) (hbx : bx < W.heap.size)
    (hY : ∀ pre x W1, J pre W1 → pre.length < ts.length → YieldAt Fence.wide (n - 1) Try.prog l #[vT (f x)] W1 fun e W' =>
      (e = .returned (.bool true) ∧ J (pre ++ [x]) W' ∧ KeepB n0 bx W1 W') ∨ (e = .returned (.bool false) ∧ Jx (pre ++ [x]) W'))
    (hb : W.cell? ⟨bx, 0, none⟩ = some (.pointer (some ⟨sb, 0, none⟩))) (hs : SongOf n0 W sb (ts.map f)) (h0 : J [] W) :
    CallsIn Fence.wide n Try.prog 73 #[.func (.yield l) #[] #[], .pointer (some ⟨bx, 0, none⟩)] W fun e W' => (∃ v, e = .returned v) ∧
      ((∃ ys, ys = ts ∧ J ys W') ∨ (∃ pre, pre <+: ts ∧ Jx pre W')) := by
  obtain ⟨hs1, A, c, hsb, hcs⟩ := hs
  simp only [List.length_map, List.getElem_map] at hsb hcs
  have hsc : W.cell? ⟨sb, 0, none⟩ = some (.slice A ts.length c) := (blk_cell hsb).trans rfl
  have Hcs := Lib.hid hcs; clear hcs
  have Hsb := Lib.hid hsb; clear hsb
  have HY := Lib.hid hY; clear hY
  refine callsIn_of_wp Try.func73 rfl trivial ?_ rfl
  simp only [Try.ntmps73, List.size_toArray, List.length_cons, List.length_nil, Nat.reduceAdd, Nat.reduceSub, Array.replicate_succ, Array.replicate_zero, List.push_toArray, List.append_toArray, List.nil_append, List.cons_append]
  gi_wp2
  gi_loopw [10] (fun i wr => ∃ k : Nat, k ≤ ts.length ∧ i = .int .i64 k ∧ J (ts.take k) wr ∧ KeepB n0 bx W wr) (fun i _ => ts.length - (intOf i).toNat)
  case atStart => exact ⟨0, Nat.zero_le _, rfl, h0, KeepB.refl _ _ _⟩
  case round =>
    obtain ⟨k, hk, rfl, hJs, hkp⟩ := hrel
    have HKp := Lib.hid hkp; clear hkp
    by_cases hlt : k < ts.length
    · obtain ⟨b, off, rfl, hbl, c1, c2, c3⟩ := Hcs.out k hlt
      have e0 := fun (o : Nat) => World.cell?_of_block (a := ⟨b, o, none⟩) (HKp.out b (.inl hbl))
      have g1 := (e0 _).trans c1
      have g2 := (e0 _).trans c2
      have g3 := (e0 _).trans c3
      clear c1 c2 c3 e0
      generalize hx : ts[k] = y at g1 g2 g3
      have Hx := Lib.hid hx; clear hx
      generalize hf : f y = x at g1 g2 g3
      have Hf := Lib.hid hf; clear hf
      obtain ⟨x1, x2, x3⟩ := x
      dsimp only at g1 g2 g3
      have hJa := hJ _ _ _ none hJs (World.grownBy_alloc wr (.cells #[.int .i64 x1, .int .i64 x2, .int .i64 x3] 95) none) (fun r e => by cases e)
      obtain ⟨fn, tmps, assign, body, hy, hR⟩ := HY.out _ y _ hJa (by simp; omega)
      rw [Hf.out] at hy
      dsimp only [vT] at hy
      have HR := Lib.hid hR; clear hR
      gi_wp2
      refine HR.out.mono ?_
      rintro e W3 (⟨rfl, hJ3, hk3⟩ | ⟨rfl, hJx3⟩)
      · have HK3 := Lib.hid hk3; clear hk3
        gi_wp2
        go_roundw
        case rel => exact ⟨k + 1, by omega, by go_num, by rw [take_snoc hlt Hx.out]; exact hJ3, (HKp.out.alloc hnb hbx _).trans HK3.out⟩
        case measure => simp [intOf]; omega
      · gi_wp2
        refine bodyPost_ret (results_none rfl _ _ _) rfl ?_
        exact ⟨⟨_, rfl⟩, .inr ⟨_, by rw [← take_snoc hlt Hx.out]; exact List.take_prefix _ _, hJx3⟩⟩
    · obtain rfl : k = ts.length := by omega
      gi_wp2
      go_end0
      exact ⟨⟨_, rfl⟩, .inl ⟨_, by simp, hJs⟩⟩

theorem tones_stopsF {α : Type} (f : α → Tone) (n : Nat) (hn : 1 ≤ n) (bx n0 sb : Nat) (ts : List α) (hlen : ts.length ≤ 100000) (w : World) (hnb : n0 ≤ w.heap.size) (hbx : bx < w.heap.size)
    (hb : w.cell? ⟨bx, 0, none⟩ = some (.pointer (some ⟨sb, 0, none⟩))) (hs : SongOf n0 w sb (ts.map f)) :
    SeqStopsK Fence.wide n Try.prog 73 #[.pointer (some ⟨bx, 0, none⟩)] (fun x : α => #[vT (f x)]) (KeepB n0 bx) (fun ys => ys = ts) (fun pre => pre <+: ts) ts.length w := fun l J Jx W hW hJ _ hY h0 =>
  tones1_in f n hn l bx n0 sb ts hlen J Jx W hJ (Nat.le_trans hnb hW.size) (Nat.lt_of_lt_of_le hbx hW.size) hY (cell_below hW hb) (hs.keep (KeepB.below hW hnb hbx)) h0
theorem tones_stops (n : Nat) (hn : 1 ≤ n) (bx n0 sb : Nat) (ts : List Tone) (hlen : ts.length ≤ 100000) (w : World) (hnb : n0 ≤ w.heap.size) (hbx : bx < w.heap.size)
    (hb : w.cell? ⟨bx, 0, none⟩ = some (.pointer (some ⟨sb, 0, none⟩))) (hs : SongOf n0 w sb ts) :
    SeqStopsK Fence.wide n Try.prog 73 #[.pointer (some ⟨bx, 0, none⟩)] (fun x : Tone => #[vT x]) (KeepB n0 bx) (fun ys => ys = ts) (fun pre => pre <+: ts) ts.length w :=
  tones_stopsF id n hn bx n0 sb ts hlen w hnb hbx hb (by simpa using hs)
end Go.Proofs.Ytkjmeeggjmeajaa
