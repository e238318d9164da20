/- Compact at int64. -/
import Derived.Test.YtkjmeeggjmeajaaC3
import Derived.Shelf.SlicesE.Compact
namespace Go.Proofs
open Go.Shelf
def Try.laysCompact_ren : Go.Shelf.Ren := ⟨fun | 43 => 66 | n => n, fun | 22 => 23 | 23 => 2 | 3 => 3 | 4 => 4 | 0 => 0 | n => n, fun | n => n⟩
theorem Try.laysCompact : SlLaysE.n43 Try.prog Try.laysCompact_ren := {
    mixed := by kernel_rfl,
    f43 := ⟨Try.f66.name, by decide, Try.func66.trans (congrArg some (by kernel_rfl))⟩,
    t0 := Try.underlying0,
    a0 := Try.isAgg0,
    z0 := Try.sizeOf0,
    v0 := Try.zeroValue0,
    t3 := Try.underlying3,
    a3 := Try.isAgg3,
    z3 := Try.sizeOf3,
    v3 := Try.zeroValue3,
    t4 := Try.underlying4,
    a4 := Try.isAgg4,
    z4 := Try.sizeOf4,
    v4 := Try.zeroValue4,
    t22 := Try.underlying23,
    a22 := Try.isAgg23,
    z22 := Try.sizeOf23,
    v22 := Try.zeroValue23,
    a23 := Try.isAgg2,
    z23 := Try.sizeOf2 }
end Go.Proofs
namespace Go.Proofs.Ytkjmeeggjmeajaa
open Go.RowKit Go.Shelf

/-- what Compact keeps of a list -/
def dedup (zs : List Int) : List Int := Lib.compactUpTo zs.toArray zs.length
theorem dedup_len (zs : List Int) : (dedup zs).length ≤ zs.length := by
  unfold dedup Lib.compactUpTo
  rw [List.length_map]
  have := List.length_filter_le (Lib.keeps zs.toArray) (List.range zs.length)
  simpa using this
/-- a rising list of what was in an ordered list, with the same members -/
theorem upTo_facts (zs : List Int) (hs : zs.Pairwise (· ≤ ·)) : ∀ m, m ≤ zs.length → Rises (Lib.compactUpTo zs.toArray m) ∧ (∀ x, x ∈ Lib.compactUpTo zs.toArray m ↔ x ∈ zs.take m)
  | 0, _ => by simp [Lib.compactUpTo, Rises]
  | m + 1, hm => by
    obtain ⟨h1, h2⟩ := upTo_facts zs hs m (by omega)
    have hm' : m < zs.length := by omega
    have hgm : zs.toArray[m]! = zs[m] := by simp [getElem!_pos, hm']
    rw [Lib.compactUpTo_succ, hgm, List.take_succ_eq_append_getElem hm']
    by_cases hk : Lib.keeps zs.toArray m = true
    · rw [if_pos hk]
      refine ⟨?_, fun x => by rw [List.mem_append, List.mem_append, h2]⟩
      unfold Rises
      rw [List.pairwise_append]
      refine ⟨h1, by simp, fun a ha b hb => ?_⟩
      rw [List.mem_singleton] at hb
      subst hb
      obtain ⟨j, hj, rfl⟩ := List.mem_iff_getElem.1 ((h2 a).1 ha)
      rw [List.getElem_take]
      rw [List.length_take] at hj
      have hle : zs[j]'(by omega) ≤ zs[m] := List.pairwise_iff_getElem.1 hs _ _ _ _ (by omega)
      have hne : zs[m - 1]'(by omega) ≠ zs[m] := by
        simp only [Lib.keeps, decide_eq_true_eq] at hk
        rcases hk with hk | hk
        · omega
        · intro e; apply hk
          rw [hgm, ← e]; simp [getElem!_pos, show m - 1 < zs.length by omega]
      have h3 : zs[m - 1]'(by omega) ≤ zs[m] := List.pairwise_iff_getElem.1 hs _ _ _ _ (by omega)
      by_cases hjm : j = m - 1
      · subst hjm; omega
      · have h4 : zs[j]'(by omega) ≤ zs[m - 1]'(by omega) := List.pairwise_iff_getElem.1 hs _ _ _ _ (by omega)
        omega
    · rw [if_neg hk]
      refine ⟨by simpa using h1, fun x => ?_⟩
      simp only [List.append_nil, h2, List.mem_append, List.mem_singleton]
      constructor
      · exact .inl
      · rintro (h | rfl)
        · exact h
        · simp only [Lib.keeps, decide_eq_true_eq, not_or, Decidable.not_not] at hk
          rw [hgm] at hk
          have h5 : zs.toArray[m - 1]! = zs[m - 1]'(by omega) := by simp [getElem!_pos, show m - 1 < zs.length by omega]
          rw [h5] at hk
          rw [hk.2]
          exact List.mem_take_iff_getElem.2 ⟨m - 1, by omega, rfl⟩
theorem dedup_rises {zs : List Int} (hs : zs.Pairwise (· ≤ ·)) : Rises (dedup zs) := (upTo_facts zs hs _ (Nat.le_refl _)).1
theorem dedup_mem {zs : List Int} (hs : zs.Pairwise (· ≤ ·)) (x : Int) : x ∈ dedup zs ↔ x ∈ zs := by
  have h := (upTo_facts zs hs _ (Nat.le_refl _)).2 x
  rw [List.take_length] at h; exact h

theorem zero2 (w : World) : (zeroValue 2).run Try.prog w = .ok (.int .i64 0) w := by kernel_rfl
theorem compact_any (base g cap : Nat) (zs : List Int) (w : World) (hown : w.ownsRow base 2 1 (.slice (some ⟨g, 0, none⟩) zs.length cap) zs.length (zs.flatMap encI)) (hn : zs.length ≤ 100000) :
    Calls Try.prog 66 #[.slice (some ⟨g, 0, none⟩) zs.length cap] w (Ret fun v w' => v = .slice (some ⟨g, 0, none⟩) (dedup zs).length cap ∧ w'.ownsRow base 2 1 (.slice (some ⟨g, 0, none⟩) (dedup zs).length cap) (dedup zs).length ((dedup zs).flatMap encI) ∧ w.grownBy w' (some g)) := by
  rcases hown.2 with ⟨h0, _⟩ | ⟨g', cap', cur, hv, hg, hh, h1, h2, h3, h4⟩
  · cases h0
  cases hv
  have hH : Sort.Holds (Value.int .i64) w g 0 zs.toArray := holds_of_blockI hh (by rw [← map_encI, Nat.mul_one] at h4; exact h4)
  refine (show Calls Try.prog 66 _ w _ from AnyE.slices_Compact Try.laysCompact (Value.int .i64) (fun _ => rfl) (EqlAt.intD _ _ _) (NeqAt.intD _ _ _) 0 zero2 g 0 cap zs.toArray w hH (by simp; omega) (by simpa using h1)).mono ?_
  rintro e w' ⟨rfl, n, rfl⟩
  have hdl := dedup_len zs
  refine Ret.mk' rfl ⟨rfl, ?_, ?_⟩
  · have a1 := ownsRow_sortedI (n := n) (os := #[]) (base := base) (ss := zs) (ts := dedup zs ++ List.replicate (zs.length - (dedup zs).length) 0) (by simp; omega) hg hh h1 h2 h3
    rw [grow_none] at a1
    rcases a1.2 with ⟨h0, _⟩ | ⟨g2, cap2, cur2, hv2, hg2, hh2, h12, h22, h32, h42⟩
    · cases h0
    cases hv2
    refine ⟨by rw [flatMap_len encI_len], .inr ⟨g, cap, cur2, rfl, hg2, ?_, by omega, h22, h32, ?_⟩⟩
    · exact hh2
    · rw [Nat.mul_one] at h42 ⊢
      rw [← map_encI]
      have : cur2.toList.take (dedup zs).length = (cur2.toList.take zs.length).take (dedup zs).length := by rw [List.take_take, Nat.min_eq_left hdl]
      rw [this, h42, List.map_append, List.take_append_of_le_length (by simp), List.take_of_length_le (by simp)]
  · have a2 := grownBy_sortedI (w := w) (g := g) (n := n) (os := #[]) (dedup zs ++ List.replicate (zs.length - (dedup zs).length) 0).toArray
    rw [grow_none] at a2
    exact a2
end Go.Proofs.Ytkjmeeggjmeajaa
