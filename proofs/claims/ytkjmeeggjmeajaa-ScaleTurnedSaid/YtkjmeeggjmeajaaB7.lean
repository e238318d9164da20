/- newSong: the tones in the order of their upper ends. -/
import Derived.Test.YtkjmeeggjmeajaaS0
import Derived.Deep.RegionHeld3
import Derived.Deep.RegionLaw
import Derived.BigRegion
namespace Go.Proofs.Ytkjmeeggjmeajaa
open Go.RowKit

def tonesUp (l : List (Int × Int)) (k : Nat) : List Tone := (List.range k).map fun i => ((l.getD i (0, 0)).1, (l.getD i (0, 0)).2, (i : Int))
theorem tonesUp_succ {l : List (Int × Int)} {k : Nat} (hk : k < l.length) {x : Int × Int} (hx : l[k] = x) : tonesUp l (k+1) = tonesUp l k ++ [(x.1, x.2, (k : Int))] := by
  unfold tonesUp
  rw [List.range_succ, List.map_append]; simp [List.getD_eq_getElem?_getD, hk, hx]
theorem mem_tonesUp {l : List (Int × Int)} {t : Tone} (h : t ∈ tonesUp l l.length) : ∃ (i : Nat) (hi : i < l.length), t = (l[i].1, l[i].2, (i : Int)) := by
  simp only [tonesUp, List.mem_map, List.mem_range] at h
  obtain ⟨i, hi, rfl⟩ := h
  exact ⟨i, hi, by simp [List.getD_eq_getElem?_getD, hi]⟩
theorem tonesUp_len (l : List (Int × Int)) (k : Nat) : (tonesUp l k).length = k := by simp [tonesUp]
theorem infoT : (Try.prog.info? 95).map (fun i => (i.zero, i.size, i.bytes)) = some (some (.agg #[.int .i64 0, .int .i64 0, .int .i64 0]), 3, 24) := by kernel_rfl

/-- a block that is the call's own song: its list holds ts -/
def SongAt (w : World) (base b : Nat) (ts : List Tone) : Prop :=
  ∃ v, w.heap[b]? = some (.cells #[v] 93 (0, 0)) ∧ w.ownsRow base 95 3 v ts.length (ts.flatMap encT)

set_option maxHeartbeats 1000000 in
theorem newSong_any (A : Option Addr) (ca : Nat) (l : List (Int × Int)) (w : World) (hl : RangesAt w A l) (hn : l.length ≤ 39) (hin : ∀ x ∈ l, inB x.2) :
    Calls Try.prog 41 #[.slice A l.length ca] w (Ret fun v w' => v = .pointer (some ⟨w.heap.size, 0, none⟩) ∧ (∃ ts : List Tone, ts.Perm (tonesUp l l.length) ∧ ByHi ts ∧ SongAt w' (w.heap.size + 1) w.heap.size ts) ∧ Below w.heap.size w w') := by
  have Hl := Lib.hid hl; clear hl
  obtain ⟨i0, hi, hz0, hz1, hz2⟩ := info_parts infoT
  go_enter Try.func41, Try.ntmps41
  go_wp2
  go_loopw [10] (fun i wr => ∃ (k : Nat) (v : Value), k ≤ l.length ∧ i = .int .i64 k ∧ wr.cell? ⟨w.heap.size, 0, none⟩ = some v ∧ wr.heap[w.heap.size]? = some (.cells #[v] 93 (0, 0)) ∧
    wr.ownsRow (w.heap.size + 1) 95 3 v k ((tonesUp l k).flatMap encT) ∧ Below w.heap.size w wr) (fun i _ => l.length - (intOf i).toNat)
  case atStart => exact ⟨0, _, by omega, rfl, new1_0 _ _ _, heap_alloc_new _ _, World.ownsRow_nil _ _ _ _, below_alloc' (Below.refl _ _) _⟩
  case round =>
    obtain ⟨k, v, hk, rfl, hv, hb, hown, hB⟩ := hrel
    have HB := Lib.hid hB
    have Hb := Lib.hid hb
    have Hown := Lib.hid hown
    clear hB hb hown
    by_cases hkn : k < l.length
    · have HL1 := Lib.hid (Hl.out.below HB.out)
      obtain ⟨b1, o1, rfl, p1, p2⟩ := HL1.out.at_ hkn
      generalize hx : l[k] = x at p1 p2
      have Hx := Lib.hid hx; clear hx
      obtain ⟨x1, x2⟩ := x
      dsimp only at p1 p2
      have hsz := HB.out.size
      have p3 : (wr.alloc (.cells #[.int .i64 x1, .int .i64 x2] 50)).cell? ⟨wr.heap.size, 0, none⟩ = some (.int .i64 x1) := new2_0 _ _ _ _
      have p4 : (wr.alloc (.cells #[.int .i64 x1, .int .i64 x2] 50)).cell? ⟨wr.heap.size, 1, none⟩ = some (.int .i64 x2) := new2_1 _ _ _ _
      have hlt0 := block_lt_of_cell hv
      have HNE := Lib.hid (own_ne Hown.out (b := w.heap.size) (by omega))
      have HN : Hid (∀ j u, [Value.int .i64 x1, .int .i64 x2, .int .i64 (k : Int)][j]? = some u → ((wr.alloc (.cells #[.int .i64 x1, .int .i64 x2] 50)).alloc (.cells #[.int .i64 x1, .int .i64 x2, .int .i64 k] 95)).cell? ((⟨wr.heap.size + 1, 0, none⟩ : Addr).add j) = some u) := by
        have h := World.news_of_block (heap_alloc_new (wr.alloc (.cells #[.int .i64 x1, .int .i64 x2] 50)) (.cells #[.int .i64 x1, .int .i64 x2, .int .i64 k] 95))
        rw [World.size_alloc] at h
        exact h
      go_wp2
      go_region_law ((refine step_append_lies _ (by rfl) _ _ _ (by rfl) (w.heap.size + 1) 95 i0 _ 3 24 Try.underlying91 hi hz0 hz1 hz2 rfl (by omega) v k _ (by rfl) (((Hown.out.alloc _).alloc _).drew) ⟨wr.heap.size + 1, 0, none⟩ 1 1 [.int .i64 x1, .int .i64 x2, .int .i64 k] (by rfl) (by rfl) HN.out (by simp [Value.oneCell']) (by omega) (by simp only [maxLen]; omega) (by omega) (by simp; omega) (wr.heap.size + 1 + 1) (by simp) ?_; intro g cap w2 hown2 hgrow hat hlt; (have hc2 : w2.cell? ⟨w.heap.size, 0, none⟩ = some v := hgrow.cell (cell_alloc (cell_alloc hv _) _) HNE.out); (have hf2 : w2.frozen? ⟨w.heap.size, 0, none⟩ = false := (hgrow.frozen_far ⟨w.heap.size, 0, none⟩ (by simp; omega) HNE.out).trans (blk_frozen (blk_alloc (blk_alloc Hb.out _) _)))))
      all_goals go_wp2
      all_goals
        have hb2 := blk_set (i := 0) (blk_grown hgrow (blk_alloc (blk_alloc Hb.out _) _) HNE.out) (.slice (some ⟨g, 0, none⟩) (k + 1) cap)
        go_roundw
        case rel => exact ⟨k + 1, _, by omega, by go_num, (blk_cell hb2).trans rfl, hb2, by rw [tonesUp_succ hkn Hx.out, List.flatMap_append]; exact ownsRow_setCell_below hown2 (by simp) _, ((below_alloc' (below_alloc' HB.out _) _).drew.grown hgrow (by simp; omega) (fun g e => by have := own_base Hown.out g e; omega)).setCell (by simp) _⟩
        case measure => simp [intOf]; omega
    · have hkl : k = l.length := by omega
      subst hkl
      go_wp2_with fail
      refine (sortStable_any (w.heap.size + 1) v (tonesUp l l.length) _ (by rw [tonesUp_len]; exact Hown.out) (by rw [tonesUp_len]; exact hn) ?_).mono ?_
      · intro t ht
        obtain ⟨i, hi, rfl⟩ := mem_tonesUp ht
        exact hin _ (List.getElem_mem hi)
      · rintro e w2 ⟨u, rfl, ⟨ts, hp, ho, hown2⟩, hgrow⟩
        have Hp := Lib.hid hp; clear hp
        have Ho := Lib.hid ho; clear ho
        have HO2 := Lib.hid hown2; clear hown2
        have HG := Lib.hid hgrow; clear hgrow
        go_wp2
        go_ret
        exact Ret.mk' rfl ⟨rfl, ⟨ts, Hp.out, Ho.out, _, blk_grown HG.out Hb.out (own_ne Hown.out (by omega)), HO2.out⟩, HB.out.grown HG.out HB.out.size (fun g e => by have := own_base Hown.out g e; omega)⟩

end Go.Proofs.Ytkjmeeggjmeajaa
