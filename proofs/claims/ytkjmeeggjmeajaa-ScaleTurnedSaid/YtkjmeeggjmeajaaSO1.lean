/- Tones and small facts for the sort. The sort's rows, its comparison, and the insertion sort. -/
import Derived.Test.YtkjmeeggjmeajaaB6
namespace Go.Proofs.Ytkjmeeggjmeajaa
open Go.RowKit

abbrev Tone := Int × Int × Int
def encT (t : Tone) : List Value := [.int .i64 t.1, .int .i64 t.2.1, .int .i64 t.2.2]
def vT (t : Tone) : Value := .agg #[.int .i64 t.1, .int .i64 t.2.1, .int .i64 t.2.2]
def ByHi (ts : List Tone) : Prop := ts.Pairwise fun a b => a.2.1 ≤ b.2.1
theorem encT_len (t : Tone) : (encT t).length = 3 := rfl
theorem grownBy_set' {w w' : World} {b : Nat} (h : w.grownBy w' (some b)) (a : Addr) (ha : a.block = b) (v : Value) : w.grownBy (w'.setCell a v) (some b) :=
  h.trans ⟨rfl, rfl, rfl, by simp, fun k _ hk => heap_setCell_other w' a k v (fun e => hk (by rw [show k = b from by rw [← ha]; exact e]))⟩
theorem own_below' {w w' : World} {base : Nat} {e : TypeId} {size : Nat} {v : Value} {n : Nat} {xs : List Value} (h : w.ownsRow base e size v n xs) (hB : Below w.heap.size w w') : w'.ownsRow base e size v n xs :=
  ⟨h.1, h.2.imp id fun ⟨g, cap, cur, a, b, c, d⟩ => ⟨g, cap, cur, a, b, (hB.block g (blk_lt c)).trans c, d⟩⟩
end Go.Proofs.Ytkjmeeggjmeajaa

namespace Go.Proofs.Ytkjmeeggjmeajaa
open Go.RowKit

/-- the sort's row: n tones at the head of block g -/
def TRow (w : World) (base g c n : Nat) (ts : List Tone) : Prop := ts.length = n ∧ w.ownsRow base 95 3 (.slice (some ⟨g, 0, none⟩) n c) n (ts.flatMap encT)
theorem flatT_get : ∀ (L : List Tone) (k : Nat) (h : k < L.length), (L.flatMap encT)[k * 3]? = some (.int .i64 L[k].1) ∧ (L.flatMap encT)[k * 3 + 1]? = some (.int .i64 L[k].2.1) ∧ (L.flatMap encT)[k * 3 + 2]? = some (.int .i64 L[k].2.2)
  | [], k, h => by simp at h
  | a :: L, 0, _ => by simp [encT]
  | a :: L, k + 1, h => by
    have h := flatT_get L k (by simpa using h)
    rw [List.flatMap_cons, show (k + 1) * 3 = k * 3 + 1 + 1 + 1 by omega]
    simpa [encT] using h
theorem setT_flat : ∀ (L : List Tone) (k : Nat) (x : Tone), (((L.flatMap encT).set (k * 3) (.int .i64 x.1)).set (k * 3 + 1) (.int .i64 x.2.1)).set (k * 3 + 2) (.int .i64 x.2.2) = (L.set k x).flatMap encT
  | [], k, x => by simp
  | a :: L, 0, x => by simp [encT]
  | a :: L, k + 1, x => by
    have h := setT_flat L k x
    rw [List.set_cons_succ, List.flatMap_cons, List.flatMap_cons, ← h]
    rw [show (k + 1) * 3 = k * 3 + 1 + 1 + 1 by omega]
    simp only [encT, List.cons_append, List.nil_append, List.set_cons_succ]
theorem TRow.at_ {w : World} {base g c n : Nat} {ts : List Tone} (h : TRow w base g c n ts) {k : Nat} (hk : k < ts.length) :
    w.cell? ⟨g, k * 3, none⟩ = some (.int .i64 ts[k].1) ∧ w.cell? ⟨g, k * 3 + 1, none⟩ = some (.int .i64 ts[k].2.1) ∧ w.cell? ⟨g, k * 3 + 2, none⟩ = some (.int .i64 ts[k].2.2) := by
  obtain ⟨e0, e1, e2⟩ := flatT_get ts k hk
  have hn := h.1
  exact ⟨(h.2.cellAt _ (by omega)).trans e0, (h.2.cellAt _ (by omega)).trans e1, (h.2.cellAt _ (by omega)).trans e2⟩
theorem TRow.frozen {w : World} {base g c n : Nat} {ts : List Tone} (h : TRow w base g c n ts) (j : Nat) : w.frozen? ⟨g, j, none⟩ = false := h.2.frozenAt j
theorem TRow.put {w : World} {base g c n : Nat} {ts : List Tone} (h : TRow w base g c n ts) (k : Nat) (x1 x2 x3 : Int) :
    TRow (((w.setCell ⟨g, k * 3, none⟩ (.int .i64 x1)).setCell ⟨g, k * 3 + 1, none⟩ (.int .i64 x2)).setCell ⟨g, k * 3 + 2, none⟩ (.int .i64 x3)) base g c n (ts.set k (x1, x2, x3)) :=
  ⟨by rw [List.length_set]; exact h.1, by rw [← setT_flat]; exact (((h.2.stored _ _).1.stored _ _).1.stored _ _).1⟩
theorem grown_put {w w' : World} {g : Nat} (h : w.grownBy w' (some g)) (k : Nat) (u1 u2 u3 : Value) :
    w.grownBy (((w'.setCell ⟨g, k * 3, none⟩ u1).setCell ⟨g, k * 3 + 1, none⟩ u2).setCell ⟨g, k * 3 + 2, none⟩ u3) (some g) :=
  grownBy_set' (grownBy_set' (grownBy_set' h _ rfl _) _ rfl _) _ rfl _
theorem grown_drewN {w w' : World} {row : Option Nat} (h : w.grownBy w' row) (q : Nat) : w.grownBy (w'.drewN q) row := ⟨h.os, h.tape, h.output, h.size, h.block⟩
theorem grown_drew {w w' : World} {row : Option Nat} (h : w.grownBy w' row) : w.grownBy w'.drew row := ⟨h.os, h.tape, h.output, h.size, h.block⟩
theorem TRow.drewN {w : World} {base g c n : Nat} {ts : List Tone} (h : TRow w base g c n ts) (q : Nat) : TRow (w.drewN q) base g c n ts := h
theorem TRow.drew {w : World} {base g c n : Nat} {ts : List Tone} (h : TRow w base g c n ts) : TRow w.drew base g c n ts := h
theorem grown_below {w a b : World} {row : Option Nat} (h : w.grownBy a row) (hB : Below a.heap.size a b) : w.grownBy b row :=
  h.trans ⟨hB.os, hB.tape, hB.output, hB.size, fun k hk _ => hB.block k hk⟩
theorem TRow.below {w w' : World} {base g c n : Nat} {ts : List Tone} (h : TRow w base g c n ts) (hB : Below w.heap.size w w') : TRow w' base g c n ts := ⟨h.1, own_below' h.2 hB⟩
theorem TRow.lt {w : World} {base g c n : Nat} {ts : List Tone} (h : TRow w base g c n ts) : g < w.heap.size := (h.2.lt g rfl).2

theorem TRow.pair {w : World} {base g c n : Nat} {L1 L2 : List Tone} {u x : Tone} (h : TRow w base g c n (L1 ++ u :: x :: L2)) {k : Nat} (hk : k = L1.length) :
    (w.cell? ⟨g, k * 3, none⟩ = some (.int .i64 u.1) ∧ w.cell? ⟨g, k * 3 + 1, none⟩ = some (.int .i64 u.2.1) ∧ w.cell? ⟨g, k * 3 + 2, none⟩ = some (.int .i64 u.2.2)) ∧
    (w.cell? ⟨g, (k + 1) * 3, none⟩ = some (.int .i64 x.1) ∧ w.cell? ⟨g, (k + 1) * 3 + 1, none⟩ = some (.int .i64 x.2.1) ∧ w.cell? ⟨g, (k + 1) * 3 + 2, none⟩ = some (.int .i64 x.2.2)) ∧ k + 1 < n := by
  subst hk
  have h1 := h.1
  have p := h.at_ (k := L1.length) (by simp)
  have q := h.at_ (k := L1.length + 1) (by simp)
  have e0 : (L1 ++ u :: x :: L2)[L1.length]'(by simp) = u := by simp
  have e1 : (L1 ++ u :: x :: L2)[L1.length + 1]'(by simp) = x := by simp
  rw [e0] at p
  rw [e1] at q
  exact ⟨p, q, by simp at h1; omega⟩
theorem TRow.swap2 {w : World} {base g c n : Nat} {L1 L2 : List Tone} {u x : Tone} (h : TRow w base g c n (L1 ++ u :: x :: L2)) {k : Nat} (hk : k = L1.length) :
    TRow ((((((w.setCell ⟨g, (k + 1) * 3, none⟩ (.int .i64 u.1)).setCell ⟨g, (k + 1) * 3 + 1, none⟩ (.int .i64 u.2.1)).setCell ⟨g, (k + 1) * 3 + 2, none⟩ (.int .i64 u.2.2)).setCell ⟨g, k * 3, none⟩ (.int .i64 x.1)).setCell ⟨g, k * 3 + 1, none⟩ (.int .i64 x.2.1)).setCell ⟨g, k * 3 + 2, none⟩ (.int .i64 x.2.2)) base g c n (L1 ++ x :: u :: L2) := by
  have h2 := (h.put (k + 1) u.1 u.2.1 u.2.2).put k x.1 x.2.1 x.2.2
  have e : ((L1 ++ u :: x :: L2).set (k + 1) u).set k x = L1 ++ x :: u :: L2 := by
    subst hk
    rw [List.set_append_right _ _ (by omega), show L1.length + 1 - L1.length = 1 by omega, List.set_append_right _ _ (by omega), Nat.sub_self]; rfl
  exact e ▸ h2

theorem cmp_any (a b : Tone) (ha : inB a.2.1) (hb : inB b.2.1) (w : World) : Calls Try.prog 60 #[vT a, vT b] w (Ret fun v w' => v = .int .i64 (a.2.1 - b.2.1) ∧ Below w.heap.size w w') := by
  obtain ⟨a1, a2, a3⟩ := a
  obtain ⟨b1, b2, b3⟩ := b
  unfold inB at ha hb
  dsimp only [vT] at ha hb ⊢
  have hw : IntKind.i64.wrap (a2 - b2) = a2 - b2 := IntWalk.i64_in _ (by omega)
  obtain ⟨w1, hw1⟩ : ∃ w1, w1 = w.alloc (.cells #[.int .i64 a1, .int .i64 a2, .int .i64 a3] 95) := ⟨_, rfl⟩
  have hz1 : w1.heap.size = w.heap.size + 1 := by rw [hw1]; simp
  have p0 : (w1.alloc (.cells #[.int .i64 b1, .int .i64 b2, .int .i64 b3] 95)).cell? ⟨w.heap.size, 1, none⟩ = some (.int .i64 a2) := by rw [hw1]; exact cell_alloc (by simp only [World.cell?, heap_alloc_new]; rfl) _
  have p1 : (w1.alloc (.cells #[.int .i64 b1, .int .i64 b2, .int .i64 b3] 95)).cell? ⟨w1.heap.size, 1, none⟩ = some (.int .i64 b2) := by simp only [World.cell?, heap_alloc_new]; rfl
  go_enter Try.func60, Try.ntmps60
  go_wp2
  go_ret
  exact Ret.mk' rfl ⟨rfl, below_alloc' (below_alloc' (Below.refl _ _) _) _⟩
end Go.Proofs.Ytkjmeeggjmeajaa
