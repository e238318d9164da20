/- Share. -/
import Derived.Test.YtkjmeeggjmeajaaC4
import Derived.Deep.RegionHeld3
namespace Go.Proofs.Ytkjmeeggjmeajaa
open Go.RowKit Go.Shelf

def inL (l : List Rg) (i : Int) : Prop := 0 ≤ i ∧ i < l.length
def atL (l : List Rg) (i : Int) : Rg := l.getD i.toNat (0, 0)
/-- what Share hands back -/
def ShareIs (l : List Rg) (i k : Int) (a b : Bool) (e : Int) : Prop :=
  (songErr l ≠ 0 ∧ a = false ∧ b = false ∧ e = songErr l) ∨
  (songErr l = 0 ∧ ¬ (inL l i ∧ inL l k) ∧ a = false ∧ b = false ∧ e = 3) ∨
  (songErr l = 0 ∧ inL l i ∧ inL l k ∧ (bothR (atL l i) (atL l k)).2 < (bothR (atL l i) (atL l k)).1 ∧ a = false ∧ b = false ∧ e = 0) ∨
  (songErr l = 0 ∧ inL l i ∧ inL l k ∧ (bothR (atL l i) (atL l k)).1 ≤ (bothR (atL l i) (atL l k)).2 ∧ e = 0 ∧ ∃ ts us left tones, Sorted l ts ∧ Sorted (l ++ [bothR (atL l i) (atL l k)]) us ∧ (left, tones) = highGo (bothR (atL l i) (atL l k)) ts [] [] (-1) ∧
    a = decide ((hiAt us).length = (hiAt ts).length) ∧ b = (decide (tones.length < left.length) || decide ((hiAt ts).length < left.length)))

theorem SongOf.mono {n0 n1 sb : Nat} {A : World} {ts : List Tone} (h : SongOf n0 A sb ts) (k : n0 ≤ n1) : SongOf n1 A sb ts := by
  obtain ⟨h1, S, c, hb, hc⟩ := h
  refine ⟨by omega, S, c, hb, fun i hi => ?_⟩
  obtain ⟨b, off, e, hlt, r⟩ := hc i hi
  exact ⟨b, off, e, by omega, r⟩
def ShareV (l : List Rg) (i k : Int) (v : Value) : Prop := ∃ a b e, v = .tuple #[.agg #[.bool a, .bool b], .int .i64 e] ∧ ShareIs l i k a b e

theorem results25 {tmps : Array Value} {W : World} {b0 : Nat} {a b : Bool} {e : Int} (h6 : tmps.getD 6 undef = .pointer (some ⟨b0, 0, none⟩)) (h7 : tmps.getD 7 undef = .int .i64 e) (c0 : W.cell? ⟨b0, 0, none⟩ = some (.bool a)) (c1 : W.cell? ⟨b0, 1, none⟩ = some (.bool b)) :
    (results Try.f25 tmps).run Try.prog W = .ok (.tuple #[.agg #[.bool a, .bool b], .int .i64 e]) W := by
  have h6' : tmps[6]?.getD undef = .pointer (some ⟨b0, 0, none⟩) := by simpa using h6
  have h7' : tmps[7]?.getD undef = .int .i64 e := by simpa using h7
  simp [results, Try.results25, h6', h7', asAddr, go_sem, c0, c1]
theorem two_cells {W : World} {b0 : Nat} {u0 u1 v0 v1 : Value} (c0 : W.cell? ⟨b0, 0, none⟩ = some u0) (c1 : W.cell? ⟨b0, 1, none⟩ = some u1) :
    ((W.setCell ⟨b0, 0, none⟩ v0).setCell ⟨b0, 1, none⟩ v1).cell? ⟨b0, 0, none⟩ = some v0 ∧ ((W.setCell ⟨b0, 0, none⟩ v0).setCell ⟨b0, 1, none⟩ v1).cell? ⟨b0, 1, none⟩ = some v1 :=
  ⟨(World.cell?_setCell_other _ _ _ _ (by simp)).trans (World.cell?_setCell_same _ _ _ c0), World.cell?_setCell_same _ _ _ ((World.cell?_setCell_other _ _ _ _ (by simp)).trans c1)⟩
theorem end25 {l : List Rg} {i k : Int} {w W : World} {a : Act} {b0 : Nat} {x y : Bool} {e : Int} {u0 u1 : Value} (h6 : a.tmps.getD 6 undef = .pointer (some ⟨b0, 0, none⟩)) (h7 : a.tmps.getD 7 undef = .int .i64 e) (hd : a.defers = [])
    (c0 : W.cell? ⟨b0, 0, none⟩ = some u0) (c1 : W.cell? ⟨b0, 1, none⟩ = some u1) (hB : Below w.heap.size w W) (hb : w.heap.size ≤ b0) (hs : ShareIs l i k x y e) :
    bodyPost Try.prog Try.f25 (Ret fun v w' => ShareV l i k v ∧ Below w.heap.size w w') .ret a ((W.setCell ⟨b0, 0, none⟩ (.bool x)).setCell ⟨b0, 1, none⟩ (.bool y)) :=
  bodyPost_ret (results25 h6 h7 (two_cells c0 c1).1 (two_cells c0 c1).2) hd (Ret.mk ⟨⟨x, y, e, rfl, hs⟩, (hB.setCell hb _).setCell hb _⟩)

set_option maxRecDepth 100000 in
set_option maxHeartbeats 1000000 in
theorem share_any (A : Option Addr) (ca : Nat) (l : List (Int × Int)) (i k : Int) (w : World) (hl : RangesAt w A l) (hn : l.length ≤ 100000) (hca : l.length ≤ ca) :
    Calls Try.prog 25 #[.slice A l.length ca, .int .i64 i, .int .i64 k] w (Ret fun v w' => ShareV l i k v ∧ Below w.heap.size w w') := by
  have Hl := Lib.hid hl; clear hl
  go_enter Try.func25, Try.ntmps25
  go_wp2_with fail
  refine (checkSong_any _ _ l _ (Hl.out.alloc _) hn).mono ?_
  rintro e w1 ⟨v, rfl, rfl, hB1⟩
  have HB1 : Hid (Below w.heap.size w w1) := below_alloc_of (Below.refl _ _) hB1
  have p0 : w1.cell? ⟨w.heap.size, 0, none⟩ = some (.bool false) := cell_below hB1 (new2_0 _ _ _ _)
  have p1 : w1.cell? ⟨w.heap.size, 1, none⟩ = some (.bool false) := cell_below hB1 (new2_1 _ _ _ _)
  have f0 : w1.frozen? ⟨w.heap.size, 0, none⟩ = false := frozen_later hB1 (by simp) (new_frozen _ _ _ _)
  have f1 : w1.frozen? ⟨w.heap.size, 1, none⟩ = false := frozen_later hB1 (by simp) (new_frozen _ _ _ _)
  clear hB1
  by_cases h0 : songErr l = 0
  · have hlen := song_len h0
    have hin := song_in h0
    have HG := Lib.hid (song_GoodR h0)
    have d0 : (songErr l != 0) = false := by simp [h0]
    have H0 := Lib.hid h0; clear h0
    have Hin := Lib.hid hin; clear hin
    by_cases hik : inL l i ∧ inL l k
    · obtain ⟨hi, hk⟩ := hik
      unfold inL at hi hk
      go_wp2
      all_goals try (exfalso; omega)
      obtain ⟨i, rfl⟩ := Int.eq_ofNat_of_zero_le hi.1
      obtain ⟨k, rfl⟩ := Int.eq_ofNat_of_zero_le hk.1
      have hin : i < l.length := by omega
      have hkn : k < l.length := by omega
      have HL1 := Lib.hid (Hl.out.below HB1.out)
      obtain ⟨b3, o3, hA, q1, q2⟩ := HL1.out.at_ hin
      obtain ⟨b4, o4, e4, q3, q4⟩ := HL1.out.at_ hkn
      rw [hA] at e4
      injection e4 with e4
      injection e4 with e4 e5
      subst e4 e5
      have hax : atL l (i : Int) = l[i] := by simp [atL, hin]
      have hay : atL l (k : Int) = l[k] := by simp [atL, hkn]
      generalize hlx : l[i] = lx at q1 q2 hax
      generalize hlz : l[k] = lz at q3 q4 hay
      have Hax := Lib.hid hax
      have Hay := Lib.hid hay
      have hgx : 0 ≤ lx.1 ∧ lx.1 ≤ lx.2 ∧ lx.2 ≤ 10000 := by rw [← hlx]; exact HG.out _ (List.getElem_mem hin)
      have hgz : 0 ≤ lz.1 ∧ lz.1 ≤ lz.2 ∧ lz.2 ≤ 10000 := by rw [← hlz]; exact HG.out _ (List.getElem_mem hkn)
      clear hlx hlz hax hay
      obtain ⟨lx1, lx2⟩ := lx
      obtain ⟨lz1, lz2⟩ := lz
      dsimp only at q1 q2 q3 q4 hgx hgz
      have hrb : inB (bothR (lx1, lx2) (lz1, lz2)).1 ∧ inB (bothR (lx1, lx2) (lz1, lz2)).2 := by unfold inB bothR; dsimp only; omega
      have hrg : 0 ≤ (bothR (lx1, lx2) (lz1, lz2)).1 ∧ (bothR (lx1, lx2) (lz1, lz2)).2 ≤ 10000 := by unfold bothR; dsimp only; omega
      generalize hrr : bothR (lx1, lx2) (lz1, lz2) = rr at hrb hrg
      have Hrr := Lib.hid hrr; clear hrr
      obtain ⟨r1, r2⟩ := rr
      have Hrb := Lib.hid hrb; clear hrb
      have Hrg := Lib.hid hrg; clear hrg
      subst hA
      have hb3 : b3 < w1.heap.size := block_lt_of_cell q1
      go_region_held3 (fun W => W.cell? ⟨b3, o3 + i * 2, none⟩ = some (.int .i64 lx1) ∧ W.cell? ⟨b3, o3 + i * 2 + 1, none⟩ = some (.int .i64 lx2) ∧ W.cell? ⟨b3, o3 + k * 2, none⟩ = some (.int .i64 lz1) ∧ W.cell? ⟨b3, o3 + k * 2 + 1, none⟩ = some (.int .i64 lz2)) (first | go_keep | (refine ⟨?_, ?_, ?_, ?_⟩ <;> (repeat (first | exact q1 | exact q2 | exact q3 | exact q4 | refine cell_far ?_ (addr_ne (by first | assumption | (simp; omega))) | refine cell_alloc ?_ _ | refine cell_below hBc ?_)))) (first | (go_at_call 50; refine (both_any (lx1, lx2) (lz1, lz2) _).mono ?_; rintro e wc ⟨v, rfl, hv, hBc⟩; rw [Hrr.out] at hv; (obtain rfl := hv); dsimp only [vR]; (try (have g1 : wc.cell? ⟨w1.heap.size, 0, none⟩ = some (.int .i64 0) := cell_below hBc (new2_0 _ _ _ _); have g2 : wc.cell? ⟨w1.heap.size, 1, none⟩ = some (.int .i64 0) := cell_below hBc (new2_1 _ _ _ _); have g3 : wc.frozen? ⟨w1.heap.size, 0, none⟩ = false := frozen_later hBc (by simp) (new_frozen _ _ _ _); have g4 : wc.frozen? ⟨w1.heap.size, 1, none⟩ = false := frozen_later hBc (by simp) (new_frozen _ _ _ _)))))
      all_goals
        have hB5 := by first
          | exact Lib.hid (below_alloc' (below_drew_of (Below.refl w1.heap.size w1) hBc) (.cells #[.int .i64 r1, .int .i64 r2] 50))
          | exact Lib.hid (((below_alloc_of (Below.refl w1.heap.size w1).drew hBc).setCell (p := ⟨w1.heap.size, 0, none⟩) (Nat.le_refl _) (.int .i64 r1)).setCell (p := ⟨w1.heap.size, 1, none⟩) (Nat.le_refl _) (.int .i64 r2))
      all_goals
        have hz5 : w1.heap.size ≤ wc.heap.size := by have := hBc.size; first | (simpa using this) | (simp at this; omega)
      case' refine_2.refine_3.refine_3.refine_3.refine_3.refine_3.refine_3.refine_3.refine_3.refine_1.refine_2.refine_1.refine_2.refine_1.refine_2 =>
        have e0 : (wc.alloc (.cells #[.int .i64 r1, .int .i64 r2] 50)).cell? ⟨wc.heap.size, 0, none⟩ = some (.int .i64 r1) := new2_0 _ _ _ _
        have e1 : (wc.alloc (.cells #[.int .i64 r1, .int .i64 r2] 50)).cell? ⟨wc.heap.size, 1, none⟩ = some (.int .i64 r2) := new2_1 _ _ _ _
        generalize (wc.alloc (.cells #[.int .i64 r1, .int .i64 r2] 50)) = W2 at e0 e1 hB5 ⊢
        generalize wc.heap.size = b9 at hz5 e0 e1 ⊢
      case' refine_2.refine_3.refine_3.refine_3.refine_3.refine_3.refine_3.refine_3.refine_3.refine_2.refine_1.refine_2.refine_1.refine_2.refine_1.refine_2 =>
        have e0 := (two_cells (v0 := .int .i64 r1) (v1 := .int .i64 r2) g1 g2).1
        have e1 := (two_cells (v0 := .int .i64 r1) (v1 := .int .i64 r2) g1 g2).2
        generalize (wc.setCell ⟨w1.heap.size, 0, none⟩ (.int .i64 r1)).setCell ⟨w1.heap.size, 1, none⟩ (.int .i64 r2) = W2 at e0 e1 hB5 ⊢
        replace hz5 : w1.heap.size ≤ w1.heap.size := Nat.le_refl _
        obtain ⟨b9, hb9⟩ : ∃ b9, b9 = w1.heap.size := ⟨_, rfl⟩
        rw [← hb9] at e0 e1 ⊢
        replace hz5 : w1.heap.size ≤ b9 := by omega
        clear hb9 g1 g2 g3 g4
      all_goals
        clear hBc
        have hp0 : W2.cell? ⟨w.heap.size, 0, none⟩ = some (.bool false) := cell_below hB5.out p0
        have hp1 : W2.cell? ⟨w.heap.size, 1, none⟩ = some (.bool false) := cell_below hB5.out p1
        have hf0 : W2.frozen? ⟨w.heap.size, 0, none⟩ = false := frozen_later hB5.out (block_lt_of_cell p0) f0
        have hf1 : W2.frozen? ⟨w.heap.size, 1, none⟩ = false := frozen_later hB5.out (block_lt_of_cell p1) f1
        clear p0 p1 f0 f1 q1 q2 q3 q4
        clear hgx hgz
        have HB2 : Hid (Below w.heap.size w W2) := below_trans' HB1.out hB5.out
        have hsz1 := HB1.out.size
        by_cases hr : r1 ≤ r2
        · have Hin' : Hid (∀ x ∈ l ++ [(r1, r2)], inB x.2) := fun x hx => by
            rcases List.mem_append.1 hx with hx | hx
            · exact Hin.out x hx
            · rw [List.mem_singleton.1 hx]; exact Hrb.out.2
          go_wp2_with fail
          refine (newSong_any _ _ l _ (Hl.out.below HB2.out) (by omega) Hin.out).mono ?_
          rintro e w3 ⟨v, rfl, rfl, ⟨ts, hp, ho, hsa⟩, hB3⟩
          have HB3 := Lib.hid hB3; clear hB3
          have HS : Hid (Sorted l ts) := ⟨hp, ho⟩
          clear hp ho
          have Hsa := Lib.hid (SongAt.of hsa); clear hsa
          have hh := high_any (1, 0) W2.heap.size ts w3 Hsa.out (by rw [perm_len HS.out.1]; omega) ⟨inB1, inB0⟩
          unfold vR at hh
          have HH := Lib.hid hh; clear hh
          go_wp2_with fail
          refine HH.out.mono ?_
          rintro e w4 ⟨v, rfl, ⟨A1, B1, c1, d1, s, n, rfl, hg, ho1, ho2⟩, hB4⟩
          clear HH
          have HB4 := Lib.hid hB4; clear hB4
          have hs := (highGo_hi HS.out HG.out hg).1
          have Hs := Lib.hid hs
          clear hg ho1 ho2 hs
          have HB24 := Lib.hid (below_trans' HB3.out HB4.out)
          have e0' : w4.cell? ⟨b9, 0, none⟩ = some (.int .i64 r1) := cell_below HB24.out e0
          have e1' : w4.cell? ⟨b9, 1, none⟩ = some (.int .i64 r2) := cell_below HB24.out e1
          have HR4 : Hid (RangesAt w4 (some ⟨b3, o3, none⟩) l) := (Hl.out.below HB2.out).below HB24.out
          obtain ⟨i0, hi0, hz0, hz1, hz2⟩ := info_parts infoR
          have hb9 : b9 < w4.heap.size := block_lt_of_cell e0'
          go_wp2_with fail
          have hca1 : (0 : Int) ≤ (l.length : Int) := by omega
          have hca2 : (l.length : Int) ≤ (ca : Int) := by omega
          go_region_held3 (fun W => W.cell? ⟨b9, 0, none⟩ = some (.int .i64 r1) ∧ W.cell? ⟨b9, 1, none⟩ = some (.int .i64 r2)) (first | exact ⟨e0', e1'⟩ | exact ⟨cell_alloc e0' _, cell_alloc e1' _⟩ | exact ⟨k0, k1⟩ | exact ⟨cell_below hBb k0, cell_below hBb k1⟩ | exact ⟨cell_below hBd (cell_below hBb k0), cell_below hBd (cell_below hBb k1)⟩) (first
            | (refine step_append_grows rfl (.tmp 68) (.tmp 70) 22 rfl 50 i0 (.agg #[.int .i64 0, .int .i64 0]) 2 16 Try.underlying22 hi0 hz0 hz1 hz2 rfl (by omega) (some ⟨b3, o3, none⟩) l.length l.length (l.flatMap encR) (by rfl) (fun h => by cases h) (flatMap_len encR_len l) (fun b hb j u hj => by exact cell_alloc (RowsAt.olds encR_len HR4.out b hb j u hj) _) ⟨w4.heap.size, 0, none⟩ 1 1 (encR (r1, r2)) (by rfl) rfl (World.news_of_block (cs := #[.int .i64 r1, .int .i64 r2]) (t := 50) (fr := (0, 0)) (heap_alloc_new w4 _)) (oneR _) (by omega) (by simp only [maxLen]; omega) (by omega) ?_
               intro va wa hown hgrow
               obtain ⟨A5, c5, rfl, hc5⟩ := own_form hown
               have hra : RangesAt wa A5 (l ++ [(r1, r2)]) := RowsAt.of_own encR_len (by rw [len_snoc, ← push_flat]; exact hown)
               have hBa : Below w4.heap.size w4 wa := (below_alloc' (Below.refl _ _) _).drew.grown hgrow (by simp) (fun k e => by cases e)
               have k0 := cell_below hBa e0'
               have k1 := cell_below hBa e1')
            | (go_at_call 41
               have hns := newSong_any A5 c5 (l ++ [(r1, r2)]) wa hra (by first | omega | (rw [len_snoc]; omega)) Hin'.out
               rw [len_snoc] at hns
               refine hns.mono ?_
               rintro e wb ⟨vb, rfl, rfl, ⟨us, hpu, hou, hsa5⟩, hBb⟩
               have hsa5' : SongOf wb.heap.size wb wa.heap.size us := SongAt.of hsa5)
            | (go_at_call 45
               have hh5 := high_any (1, 0) wa.heap.size us wb hsa5' (by rw [hpu.length_eq, tonesUp_len]; omega) ⟨inB1, inB0⟩
               unfold vR at hh5
               refine hh5.mono ?_
               rintro e wd ⟨vd, rfl, ⟨A6, B6, c6, d6, s6, n6, rfl, hg6, ho61, ho62⟩, hBd⟩))
          have HBd : Hid (Below w4.heap.size w4 wd) := by
            have x1 := below_trans' (below_trans' hBa hBb) hBd
            exact x1
          have HU : Hid (Sorted (l ++ [(r1, r2)]) us) := ⟨by first | exact hpu | (rw [len_snoc]; exact hpu), hou⟩
          have k0' : wd.cell? ⟨b9, 0, none⟩ = some (.int .i64 r1) := cell_below hBd (cell_below hBb k0)
          have k1' : wd.cell? ⟨b9, 1, none⟩ = some (.int .i64 r2) := cell_below hBd (cell_below hBb k1)
          have hgr : GoodR (l ++ [(r1, r2)]) := fun x hx => by
            rcases List.mem_append.1 hx with hx | hx
            · exact HG.out x hx
            · rw [List.mem_singleton.1 hx]; exact ⟨Hrg.out.1, hr, Hrg.out.2⟩
          have hs6 := (highGo_hi HU.out hgr hg6).1
          have Hs6 := Lib.hid hs6
          have HBz := Lib.hid (below_trans' HB24.out HBd.out)
          have Hsaz : Hid (SongOf wd.heap.size wd W2.heap.size ts) := SongOf.mono (SongOf.below Hsa.out (below_trans' HB4.out HBd.out)) (by have := HB4.out.size; have := HBd.out.size; omega)
          clear hs6 hgr hg6 ho61 ho62 hBd hBb hsa5' hou hpu hsa5 k0 k1 hBa hra hgrow hown e0' e1' e0 e1
          have hh := high_any (r1, r2) W2.heap.size ts wd (by exact Hsaz.out) (by rw [perm_len HS.out.1]; omega) Hrb.out
          unfold vR at hh
          have HH := Lib.hid hh; clear hh
          go_wp2_with fail
          refine HH.out.mono ?_
          rintro e wz ⟨v, rfl, ⟨A7, B7, c7, d7, s7, n7, rfl, hg7, ho71, ho72⟩, hB7⟩
          clear HH
          have HB7 := Lib.hid hB7
          have Hg7 := Lib.hid hg7
          clear hB7 hg7 ho71 ho72
          have HBe := Lib.hid (below_trans' HBz.out HB7.out)
          have hp0' : wz.cell? ⟨w.heap.size, 0, none⟩ = some (.bool false) := cell_below HBe.out hp0
          have hp1' : wz.cell? ⟨w.heap.size, 1, none⟩ = some (.bool false) := cell_below HBe.out hp1
          have hf0' : wz.frozen? ⟨w.heap.size, 0, none⟩ = false := frozen_later HBe.out (block_lt_of_cell hp0) hf0
          have hf1' : wz.frozen? ⟨w.heap.size, 1, none⟩ = false := frozen_later HBe.out (block_lt_of_cell hp1) hf1
          go_wp2
          all_goals
            refine end25 rfl rfl rfl hp0' hp1' (below_trans' HB2.out HBe.out) (Nat.le_refl _) (.inr (.inr (.inr ⟨H0.out, hi, hk, by rw [Hax.out, Hay.out, Hrr.out]; exact hr, rfl, ts, us, s7, n7, HS.out, by rw [Hax.out, Hay.out, Hrr.out]; exact HU.out, by rw [Hax.out, Hay.out, Hrr.out]; exact Hg7.out, ?_, ?_⟩)))
            · rw [← Hs.out, ← Hs6.out]
              first | rfl | (simp; done) | (rw [Bool.eq_iff_iff]; simp; omega)
            · rw [← Hs.out]
              first | rfl | (simp; omega) | (rw [Bool.eq_iff_iff]; simp; omega) | skip
        · go_wp2
          exact end25 rfl rfl rfl hp0 hp1 HB2.out (Nat.le_refl _) (.inr (.inr (.inl ⟨H0.out, hi, hk, by rw [Hax.out, Hay.out, Hrr.out]; dsimp only; omega, rfl, rfl, rfl⟩)))
    · have Hik := Lib.hid hik
      unfold inL at hik
      go_wp2
      all_goals first
        | (exfalso; omega)
        | exact end25 rfl rfl rfl p0 p1 HB1.out (Nat.le_refl _) (.inr (.inl ⟨H0.out, Hik.out, rfl, rfl, rfl⟩))
  · have d0 : (songErr l != 0) = true := by simpa using h0
    go_wp2
    exact end25 rfl rfl rfl p0 p1 HB1.out (Nat.le_refl _) (.inl ⟨h0, rfl, rfl, rfl⟩)
end Go.Proofs.Ytkjmeeggjmeajaa
