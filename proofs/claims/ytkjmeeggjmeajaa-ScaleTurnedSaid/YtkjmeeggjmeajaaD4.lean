/- ref: Short, missed, turned. -/
import Derived.Test.YtkjmeeggjmeajaaD3
namespace Go.Proofs.Ytkjmeeggjmeajaa
open Go.RowKit Go.Shelf

/-- m is the greatest of the first k numbers -/
def Top (o : List Int) (k : Nat) (m : Int) : Prop := 0 ≤ m ∧ (∀ j, j < k → o.getD j 0 ≤ m) ∧ (m = 0 ∨ ∃ j, j < k ∧ m = o.getD j 0)
theorem Top.next {o : List Int} {k : Nat} {m : Int} (h : Top o k m) : Top o (k + 1) (max m (o.getD k 0)) := by
  obtain ⟨h0, h1, h2⟩ := h
  refine ⟨by omega, fun j hj => ?_, ?_⟩
  · by_cases e : j = k
    · subst e; omega
    · have := h1 j (by omega); omega
  · by_cases hc : o.getD k 0 ≤ m
    · rw [Int.max_eq_left hc]
      rcases h2 with e | ⟨j, hj, e⟩
      · exact .inl e
      · exact .inr ⟨j, by omega, e⟩
    · exact .inr ⟨k, by omega, by omega⟩
theorem Top.short {l : List Rg} (hg : GoodR l) {o : List Int} (hb : BelowIs l o) {m : Int} (h : Top o l.length m) : ∃ n : Nat, m = n ∧ ShortIs l n ∧ n ≤ l.length := by
  obtain ⟨n, hn, hl⟩ := exists_short hg
  obtain ⟨⟨c, c1, c2, c3⟩, s, s1, s2, s3⟩ := hn
  refine ⟨n, ?_, ⟨⟨c, c1, c2, c3⟩, s, s1, s2, s3⟩, hl⟩
  have h1 : (n : Int) ≤ m := by
    by_cases hz : n = 0
    · have := h.1; omega
    · obtain ⟨r, hr, he⟩ := chain_ends c1 c2 c3 (by omega)
      obtain ⟨j, hj, rfl⟩ := List.mem_iff_getElem.1 hr
      obtain ⟨k, e1, _, e3⟩ := hb.2 j hj
      have := e3 n he
      have := h.2.1 j hj
      omega
  have h2 : m ≤ n := by
    rcases h.2.2 with e | ⟨j, hj, e⟩
    · omega
    · obtain ⟨k, e1, e2, _⟩ := hb.2 j hj
      obtain ⟨d, d1, d2, d3⟩ := ends_chain (List.getElem_mem hj) e2
      have := chain_le d s d2 s1 (fun r hr => s2 r (d1 r hr))
      omega
  omega

set_option maxRecDepth 100000 in
set_option maxHeartbeats 1000000 in
theorem short_any (A : Option Addr) (ca : Nat) (l : List Rg) (w : World) (hl : RangesAt w A l) (hn : l.length ≤ 1000) (hg : GoodR l) :
    Calls Try.prog 38 #[.slice A l.length ca] w (Ret fun v w' => (∃ n : Nat, v = .int .i64 n ∧ ShortIs l n ∧ n ≤ l.length) ∧ Below w.heap.size w w') := by
  have Hl := Lib.hid hl; clear hl
  go_enter Try.func38, Try.ntmps38
  go_wp2_with fail
  refine (below_any _ _ l _ Hl.out hn hg).mono ?_
  rintro e w1 ⟨v, rfl, ⟨o, rfl, hbi, ho⟩, hB1⟩
  have Hbi := Lib.hid hbi
  have Ho := Lib.hid ho
  have HB1 := Lib.hid hB1
  clear hbi ho hB1
  go_wp2
  go_loopw [4, 5] (fun m i wr => ∃ (k : Nat) (x : Int), k ≤ l.length ∧ i = .int .i64 k ∧ m = .int .i64 x ∧ wr = w1 ∧ Top o k x) (fun _ i _ => l.length - (intOf i).toNat)
  case atStart => exact ⟨0, 0, by omega, rfl, rfl, rfl, by omega, fun j hj => by omega, .inl rfl⟩
  case round =>
    obtain ⟨k, x, hk, rfl, rfl, rfl, ht⟩ := hrel
    have Ht := Lib.hid ht; clear ht
    by_cases hkn : k < l.length
    · obtain ⟨b, off, hb, g1⟩ := IntsAt.at_ Ho.out (i := k) (by rw [Hbi.out.1]; exact hkn)
      cases hb
      rw [Nat.zero_add] at g1
      have Hnext := Lib.hid Ht.out.next
      have hgd : o.getD k 0 = o[k]'(by rw [Hbi.out.1]; exact hkn) := by simp [List.getD_eq_getElem?_getD, show k < o.length by rw [Hbi.out.1]; exact hkn]
      rw [hgd] at Hnext
      generalize o[k]'(by rw [Hbi.out.1]; exact hkn) = y at g1 Hnext
      clear hgd
      go_wp2
      go_roundw
      case rel => exact ⟨k + 1, _, by omega, by go_num, rfl, (by first | rfl | trivial), Hnext.out⟩
      case measure => simp [intOf]; omega
    · have hkl : k = l.length := by omega
      subst hkl
      obtain ⟨n, rfl, hs, hle⟩ := Ht.out.short hg Hbi.out
      have Hs := Lib.hid hs; clear hs
      go_wp2
      go_ret
      exact Ret.mk' rfl ⟨⟨n, by first | rfl | trivial, Hs.out, hle⟩, HB1.out⟩

/-- some range lies wholly between two places -/
def missB (l : List Rg) (a b : Int) : Bool := l.any fun r => decide (a < r.1) && decide (r.2 < b)
theorem miss_next {l : List Rg} {a b : Int} {k : Nat} (hk : k < l.length) {x : Rg} (hx : l[k] = x) (h : missB (l.take k) a b = false) (hn : ¬ (a < x.1 ∧ x.2 < b)) : missB (l.take (k+1)) a b = false := by
  unfold missB at h ⊢; rw [take_snoc hk hx, List.any_append, h]; simp; omega
theorem miss_hit {l : List Rg} {a b : Int} {k : Nat} (hk : k < l.length) {x : Rg} (hx : l[k] = x) (hn : a < x.1 ∧ x.2 < b) : missB l a b = true :=
  List.any_eq_true.2 ⟨x, by rw [← hx]; exact List.getElem_mem hk, by simp; omega⟩

set_option maxHeartbeats 1000000 in
theorem missed_any (A : Option Addr) (ca : Nat) (l : List Rg) (a b : Int) (w : World) (hl : RangesAt w A l) (hn : l.length ≤ 1000) :
    Calls Try.prog 65 #[.slice A l.length ca, .int .i64 a, .int .i64 b] w (Ret fun v w' => v = .bool (missB l a b) ∧ ∃ q, w' = w.drewN q) := by
  have Hl := Lib.hid hl; clear hl
  go_enter Try.func65, Try.ntmps65
  go_wp2
  go_loopw [7] (fun i wr => ∃ k q : Nat, k ≤ l.length ∧ i = .int .i64 k ∧ wr = w.drewN q ∧ missB (l.take k) a b = false) (fun i _ => l.length - (intOf i).toNat)
  case atStart => exact ⟨0, 0, by omega, rfl, rfl, by simp [missB]⟩
  case round =>
    obtain ⟨k, q, hk, rfl, rfl, hb⟩ := hrel
    have Hb := Lib.hid hb; clear hb
    by_cases hkn : k < l.length
    · obtain ⟨b1, off, rfl, g1, g2⟩ := Hl.out.at_ hkn
      generalize hx : l[k] = x at g1 g2
      have Hx := Lib.hid hx; clear hx
      obtain ⟨x1, x2⟩ := x
      dsimp only at g1 g2
      go_wp2
      all_goals first
        | (go_ret; refine Ret.mk' ?_ ⟨rfl, q, rfl⟩; rw [miss_hit hkn Hx.out (by dsimp only; omega)]; rfl)
        | (go_roundw; (case rel => exact ⟨k + 1, _, by omega, by go_num, rfl, miss_next hkn Hx.out Hb.out (by dsimp only; omega)⟩); (case measure => (simp [intOf]; omega)))
    · have hkl : k = l.length := by omega
      subst hkl
      have hb := Hb.out
      rw [List.take_length] at hb
      go_wp2
      go_ret
      exact Ret.mk' (by rw [hb]; rfl) ⟨rfl, q, rfl⟩
end Go.Proofs.Ytkjmeeggjmeajaa
