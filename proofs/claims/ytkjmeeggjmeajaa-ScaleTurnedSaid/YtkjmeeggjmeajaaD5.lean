/- ref: turned. -/
import Derived.Test.YtkjmeeggjmeajaaD4
import Derived.Test.YtkjmeeggjmeajaaC4
import Derived.Deep.RegionHeld3
namespace Go.Proofs.Ytkjmeeggjmeajaa
open Go.RowKit Go.Shelf

set_option maxRecDepth 100000 in
set_option maxHeartbeats 1000000 in
theorem refTurned_any (A : Option Addr) (ca : Nat) (l : List Rg) (w : World) (hl : RangesAt w A l) (hn : l.length ≤ 1000) (hg : GoodR l) :
    Calls Try.prog 49 #[.slice A l.length ca] w (Ret fun v w' => (∃ C c, v = .slice C l.length c ∧ l.length ≤ c ∧ RangesAt w' C (l.map turnedR)) ∧ Below w.heap.size w w') := by
  have Hl := Lib.hid hl; clear hl
  have Hg := Lib.hid hg; clear hg
  obtain ⟨i0, hi0, hz0, hz1, hz2⟩ := info_parts infoR
  go_enter Try.func49, Try.ntmps49
  go_wp2
  go_loopw [3, 4] (fun v i wr => ∃ (k : Nat), k ≤ l.length ∧ i = .int .i64 k ∧ wr.ownsRow w.heap.size 50 2 v ((l.take k).map turnedR).length (((l.take k).map turnedR).flatMap encR) ∧ Below w.heap.size w wr) (fun _ i _ => l.length - (intOf i).toNat)
  case atStart => exact ⟨0, by omega, rfl, World.ownsRow_nil _ _ _ _, Below.refl _ _⟩
  case round =>
    obtain ⟨k, hk, rfl, hown, hB⟩ := hrel
    have HB := Lib.hid hB
    obtain ⟨T, hT⟩ : ∃ T, T = (l.take k).map turnedR := ⟨_, rfl⟩
    rw [← hT] at hown
    have hTl : T.length ≤ 1000 := by rw [hT]; simp; omega
    have HT := Lib.hid hT
    have Hown := Lib.hid hown
    clear hB hown hT
    by_cases hkn : k < l.length
    · obtain ⟨b1, o1, rfl, p1, p2⟩ := (Hl.out.below HB.out).at_ hkn
      have hgd := Hg.out l[k] (List.getElem_mem hkn)
      have htk := take_snoc hkn rfl
      generalize hx : l[k] = x at p1 p2 hgd htk
      clear hx
      have Htk := Lib.hid htk; clear htk
      obtain ⟨x1, x2⟩ := x
      dsimp only at p1 p2 hgd
      have hz3 := HB.out.size
      obtain ⟨b0, o0, e0, p0, _⟩ := Hl.out.at_ hkn
      cases e0
      have NE := own_ne Hown.out (b := b1) (Or.inl (block_lt_of_cell p0))
      clear p0
      have hw1 : IntKind.i64.wrap (10000 - x2) = 10000 - x2 := IntWalk.i64_in _ (by omega)
      have hw2 : IntKind.i64.wrap (10000 - x1) = 10000 - x1 := IntWalk.i64_in _ (by omega)
      go_wp2
      go_region_held3 (fun W => W.cell? ⟨b1, o1 + k * 2, none⟩ = some (.int .i64 x1) ∧ W.cell? ⟨b1, o1 + k * 2 + 1, none⟩ = some (.int .i64 x2)) (first | exact ⟨p1, p2⟩ | exact ⟨cell_alloc p1 _, cell_alloc p2 _⟩ | exact ⟨m1, m2⟩) (first
        | (refine step_append_lies _ (by rfl) _ _ _ (by rfl) w.heap.size 50 i0 _ 2 16 Try.underlying22 hi0 hz0 hz1 hz2 rfl (by omega) _ T.length (T.flatMap encR) (by rfl) (((Hown.out.alloc _)).drew) ⟨wr.heap.size, 0, none⟩ 1 1 (encR (turnedR (x1, x2))) (by rfl) (by rfl) (World.news_of_block (cs := #[.int .i64 (10000 - x2), .int .i64 (10000 - x1)]) (t := 50) (fr := (0, 0)) (heap_alloc_new wr _)) (oneR _) (by omega) (by simp only [maxLen]; omega) (by omega) (by simp; omega) (wr.heap.size + 1) (by simp) ?_
           intro g cap w5 hown5 hgrow hat hlt
           have hB5 : Below w.heap.size wr w5 := (((Below.refl w.heap.size wr).alloc hz3 _).drew).grown hgrow (by simp; omega) (fun r e => own_base Hown.out r e)
           have m1 : w5.cell? ⟨b1, o1 + k * 2, none⟩ = some (.int .i64 x1) := hgrow.cell (cell_alloc p1 _) NE
           have m2 : w5.cell? ⟨b1, o1 + k * 2 + 1, none⟩ = some (.int .i64 x2) := hgrow.cell (cell_alloc p2 _) NE))
      have Hown5 := Lib.hid hown5
      have HB5 := Lib.hid (Below.trans HB.out hB5)
      clear hown5 hB5 hgrow hat hlt m1 m2
      go_wp2
      go_roundw
      case rel => exact ⟨k + 1, by omega, by go_num, by rw [Htk.out, List.map_append, List.map_cons, List.map_nil, ← HT.out, len_snoc, List.flatMap_append]; simpa using Hown5.out, HB5.out⟩
      case measure => simp [intOf]; omega
    · have hkl : k = l.length := by omega
      subst hkl
      have hown := Hown.out
      rw [HT.out, List.take_length] at hown
      obtain ⟨A3, c3, rfl, hc3⟩ := own_form hown
      have HR3 : Hid (RangesAt wr A3 (l.map turnedR)) := RowsAt.of_own encR_len hown
      have hlt : (l.map turnedR).length = l.length := List.length_map _
      rw [hlt] at hc3
      clear hown
      go_wp2
      go_ret
      exact Ret.mk' (by rw [hlt]; rfl) ⟨⟨A3, c3, rfl, hc3, HR3.out⟩, HB.out⟩
end Go.Proofs.Ytkjmeeggjmeajaa
