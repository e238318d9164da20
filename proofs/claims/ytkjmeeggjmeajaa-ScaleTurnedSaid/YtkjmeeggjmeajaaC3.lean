/- Reverse at int64; Spans. -/
import Derived.Test.YtkjmeeggjmeajaaPL1
import Derived.Ground.SlgnProg
import Derived.Shelf.SlGeneric
import Derived.Shelf.SlicesE.Reverse
namespace Go.Proofs
open Go.Shelf
def Try.laysRev_ren : Go.Shelf.Ren := ⟨fun | 35 => 47 | n => n, fun | 22 => 23 | 23 => 2 | 3 => 3 | 4 => 4 | 0 => 0 | n => n, fun | n => n⟩
theorem Try.laysRev : SlLaysE.n35 Try.prog Try.laysRev_ren := {
    mixed := by kernel_rfl,
    f35 := ⟨Try.f47.name, by decide, Try.func47.trans (congrArg some (by kernel_rfl))⟩,
    t0 := Try.underlying0,
    a0 := Try.isAgg0,
    z0 := Try.sizeOf0,
    v0 := Try.zeroValue0,
    t3 := Try.underlying3,
    a3 := Try.isAgg3,
    z3 := Try.sizeOf3,
    v3 := Try.zeroValue3,
    t4 := Try.underlying4,
    a4 := Try.isAgg4,
    z4 := Try.sizeOf4,
    v4 := Try.zeroValue4,
    t22 := Try.underlying23,
    a22 := Try.isAgg23,
    z22 := Try.sizeOf23,
    v22 := Try.zeroValue23,
    a23 := Try.isAgg2,
    z23 := Try.sizeOf2 }
end Go.Proofs
namespace Go.Proofs.Ytkjmeeggjmeajaa
open Go.RowKit Go.Shelf

theorem grow_none (w : World) : Sort.grow w #[] = w := by simp [Sort.grow]
theorem rev_any (base g cap : Nat) (zs : List Int) (w : World) (hown : w.ownsRow base 2 1 (.slice (some ⟨g, 0, none⟩) zs.length cap) zs.length (zs.flatMap encI)) (hn : zs.length ≤ 100000) :
    Calls Try.prog 47 #[.slice (some ⟨g, 0, none⟩) zs.length cap] w (Ret fun _ w' => w'.ownsRow base 2 1 (.slice (some ⟨g, 0, none⟩) zs.length cap) zs.length (zs.reverse.flatMap encI) ∧ w.grownBy w' (some g)) := by
  rcases hown.2 with ⟨h0, _⟩ | ⟨g', cap', cur, hv, hg, hh, h1, h2, h3, h4⟩
  · cases h0
  cases hv
  have hH : Sort.Holds (Value.int .i64) w g 0 zs.toArray := holds_of_blockI hh (by rw [← map_encI, Nat.mul_one] at h4; exact h4)
  refine (show Calls Try.prog 47 _ w _ from AnyE.slices_Reverse Try.laysRev (Value.int .i64) (fun _ => rfl) g 0 cap zs w hH (by omega)).mono ?_
  rintro e w' ⟨rfl, n, rfl⟩
  have a1 := ownsRow_sortedI (n := n) (os := #[]) (base := base) (ss := zs) (ts := zs.reverse) (by simp) hg hh h1 h2 h3
  have a2 := grownBy_sortedI (w := w) (g := g) (n := n) (os := #[]) zs.reverse.toArray
  rw [grow_none] at a1 a2
  rw [map_encI] at a1
  exact Ret.mk' rfl ⟨a1, a2⟩
end Go.Proofs.Ytkjmeeggjmeajaa
