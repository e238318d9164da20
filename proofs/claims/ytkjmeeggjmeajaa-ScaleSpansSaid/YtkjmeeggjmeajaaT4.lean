/- ref: Share. -/
import Derived.Test.YtkjmeeggjmeajaaT3
import Derived.Test.YtkjmeeggjmeajaaL8
import Derived.Deep.DeepCutAuto
namespace Go.Proofs.Ytkjmeeggjmeajaa
open Go.RowKit Go.Shelf

/-- what the definition's Share hands back -/
def RefShareIs (l : List Rg) (i k : Int) (a b : Bool) (e : Int) : Prop :=
  (songErr l ≠ 0 ∧ a = false ∧ b = false ∧ e = songErr l) ∨
  (songErr l = 0 ∧ ¬ (inL l i ∧ inL l k) ∧ a = false ∧ b = false ∧ e = 3) ∨
  (songErr l = 0 ∧ inL l i ∧ inL l k ∧ e = 0 ∧ (a = true ↔ MayR l (bothR (atL l i) (atL l k))) ∧ (b = true ↔ MustR l (bothR (atL l i) (atL l k))))
theorem shares_agree {l : List Rg} {i k : Int} {a b a2 b2 : Bool} {e e2 : Int} (h : ShareIs l i k a b e) (h2 : RefShareIs l i k a2 b2 e2) : a2 = a ∧ b2 = b ∧ e2 = e := by
  rcases h2 with ⟨h0, rfl, rfl, rfl⟩ | ⟨h0, hik, rfl, rfl, rfl⟩ | ⟨h0, hi, hk, rfl, ha, hb⟩
  · rcases h with ⟨_, rfl, rfl, rfl⟩ | h | h | h
    · exact ⟨rfl, rfl, rfl⟩
    · exact absurd h.1 h0
    · exact absurd h.1 h0
    · exact absurd h.1 h0
  · rcases h with h | ⟨_, _, rfl, rfl, rfl⟩ | h | h
    · exact absurd h0 h.1
    · exact ⟨rfl, rfl, rfl⟩
    · exact absurd ⟨h.2.1, h.2.2.1⟩ hik
    · exact absurd ⟨h.2.1, h.2.2.1⟩ hik
  · obtain ⟨p1, p2, p3⟩ := share_spec h h0 hi hk
    refine ⟨?_, ?_, p1.symm⟩
    · rw [Bool.eq_iff_iff, ha, p2]
    · rw [Bool.eq_iff_iff, hb, p3]
def RefShareV (l : List Rg) (i k : Int) (v : Value) : Prop := ∃ a b e, v = .tuple #[.agg #[.bool a, .bool b], .int .i64 e] ∧ RefShareIs l i k a b e
theorem results26 {tmps : Array Value} {W : World} {b0 : Nat} {a b : Bool} {e : Int} (h6 : tmps.getD 6 undef = .pointer (some ⟨b0, 0, none⟩)) (h7 : tmps.getD 7 undef = .int .i64 e) (c0 : W.cell? ⟨b0, 0, none⟩ = some (.bool a)) (c1 : W.cell? ⟨b0, 1, none⟩ = some (.bool b)) :
    (results Try.f26 tmps).run Try.prog W = .ok (.tuple #[.agg #[.bool a, .bool b], .int .i64 e]) W := by
  have h6' : tmps[6]?.getD undef = .pointer (some ⟨b0, 0, none⟩) := by simpa using h6
  have h7' : tmps[7]?.getD undef = .int .i64 e := by simpa using h7
  simp [results, Try.results26, h6', h7', asAddr, go_sem, c0, c1]
theorem end26 {l : List Rg} {i k : Int} {w W : World} {a : Act} {b0 : Nat} {x y : Bool} {e : Int} {u0 u1 : Value} (h6 : a.tmps.getD 6 undef = .pointer (some ⟨b0, 0, none⟩)) (h7 : a.tmps.getD 7 undef = .int .i64 e) (hd : a.defers = [])
    (c0 : W.cell? ⟨b0, 0, none⟩ = some u0) (c1 : W.cell? ⟨b0, 1, none⟩ = some u1) (hB : Below w.heap.size w W) (hb : w.heap.size ≤ b0) (hs : RefShareIs l i k x y e) :
    bodyPost Try.prog Try.f26 (Ret fun v w' => RefShareV l i k v ∧ Below w.heap.size w w') .ret a ((W.setCell ⟨b0, 0, none⟩ (.bool x)).setCell ⟨b0, 1, none⟩ (.bool y)) :=
  bodyPost_ret (results26 h6 h7 (two_cells c0 c1).1 (two_cells c0 c1).2) hd (Ret.mk ⟨⟨x, y, e, rfl, hs⟩, (hB.setCell hb _).setCell hb _⟩)
theorem may_short {l : List Rg} {r : Rg} {n m : Nat} (hn : ShortIs l n) (hm : ShortIs (l ++ [r]) m) : m = n ↔ MayR l r := by
  constructor
  · rintro rfl
    obtain ⟨_, x, x1, x2, x3⟩ := hm
    obtain ⟨a1, a2⟩ := right_append.1 (⟨x1, x2⟩ : Right (l ++ [r]) x)
    exact ⟨x, a1, a2, by rw [x3]; exact hn⟩
  · rintro ⟨x, a1, a2, a3⟩
    have h1 := short_le_right hm (right_append.2 ⟨a1, a2⟩)
    obtain ⟨_, y, y1, y2, y3⟩ := hm
    have h2 := short_le_right hn (right_append.1 (⟨y1, y2⟩ : Right (l ++ [r]) y)).1
    have := a3.unique hn
    omega
theorem empty_share {l : List Rg} (hg : GoodR l) {r : Rg} (hr : r.2 < r.1) : ¬ MayR l r ∧ ¬ MustR l r := by
  have no : ∀ x, ¬ Hit x r := fun x ⟨y, _, y1, y2⟩ => by omega
  refine ⟨fun ⟨x, _, hx, _⟩ => no x hx, fun h => ?_⟩
  obtain ⟨ts, hts⟩ := exists_tones l
  exact no _ (h _ (hiAt_right hts hg) (hiAt_short hts hg))
theorem must_without {l : List Rg} {r : Rg} {n : Nat} {m : Int} (hn : ShortIs l n) (h1000 : n < 1000) (h : WithoutIs l r m) : (n : Int) < m ↔ MustR l r := by
  rw [h n h1000]
  constructor
  · intro hno x x1 x2
    exact Classical.byContradiction fun hx => hno ⟨x, x1, hx, by rw [x2.unique hn]; exact Nat.le_refl _⟩
  · rintro hm ⟨x, x1, x2, x3⟩
    have := short_le_right hn x1
    have e : x.length = n := by omega
    exact x2 (hm x x1 (e ▸ hn))

set_option maxRecDepth 100000 in
set_option maxHeartbeats 8000000 in
theorem refShare_any (A : Option Addr) (ca : Nat) (l : List Rg) (i k : Int) (w : World) (hl : RangesAt w A l) (hn : l.length ≤ 100000) :
    Calls Try.prog 26 #[.slice A l.length ca, .int .i64 i, .int .i64 k] w (Ret fun v w' => RefShareV l i k v ∧ Below w.heap.size w w') := by
  have Hl := Lib.hid hl; clear hl
  have Hcs := Lib.hid (refCheckSong_any A ca l (w.alloc (.cells #[.bool false, .bool false] 37)) (Hl.out.alloc _) hn)
  go_enter Try.func26, Try.ntmps26
  go_wp2_with fail
  refine Hcs.out.mono ?_
  rintro e w1 ⟨v, rfl, rfl, hq1⟩
  have hB1 : Below (w.alloc (.cells #[.bool false, .bool false] 37)).heap.size (w.alloc (.cells #[.bool false, .bool false] 37)) w1 := by obtain ⟨q, rfl⟩ := hq1; exact below_drewN (Below.refl _ _) _
  have HB1 : Hid (Below w.heap.size w w1) := below_alloc_of (Below.refl _ _) hB1
  have p0 : w1.cell? ⟨w.heap.size, 0, none⟩ = some (.bool false) := cell_below hB1 (new2_0 _ _ _ _)
  have p1 : w1.cell? ⟨w.heap.size, 1, none⟩ = some (.bool false) := cell_below hB1 (new2_1 _ _ _ _)
  have f0 : w1.frozen? ⟨w.heap.size, 0, none⟩ = false := frozen_later hB1 (by simp) (new_frozen _ _ _ _)
  have f1 : w1.frozen? ⟨w.heap.size, 1, none⟩ = false := frozen_later hB1 (by simp) (new_frozen _ _ _ _)
  clear hB1 hq1 Hcs
  by_cases h0 : songErr l = 0
  · have h24 := song_len24 h0
    have HG := Lib.hid (song_GoodR h0)
    have d0 : (songErr l != 0) = false := by simp [h0]
    have H0 := Lib.hid h0; clear h0
    by_cases hik : inL l i ∧ inL l k
    · obtain ⟨hi, hk⟩ := hik
      unfold inL at hi hk
      obtain ⟨i, rfl⟩ := Int.eq_ofNat_of_zero_le hi.1
      obtain ⟨k, rfl⟩ := Int.eq_ofNat_of_zero_le hk.1
      have hil : i < l.length := by omega
      have hkl : k < l.length := by omega
      obtain ⟨b3, o3, hbA, q1, q2⟩ := RangesAt.at_ (Hl.out.below HB1.out) hil
      obtain ⟨b4, o4, hbB, q3, q4⟩ := RangesAt.at_ (Hl.out.below HB1.out) hkl
      rw [hbA] at hbB
      injection hbB with hbB
      injection hbB with e1 e2
      subst e1 e2
      have hax : atL l (i : Int) = l[i] := by simp [atL, hil]
      have hay : atL l (k : Int) = l[k] := by simp [atL, hkl]
      have hgx := HG.out _ (List.getElem_mem hil)
      have hgz := HG.out _ (List.getElem_mem hkl)
      generalize l[i] = lx at q1 q2 hax hgx
      generalize l[k] = lz at q3 q4 hay hgz
      obtain ⟨lx1, lx2⟩ := lx
      obtain ⟨lz1, lz2⟩ := lz
      dsimp only at q1 q2 q3 q4 hgx hgz
      have Hax := Lib.hid hax
      have Hay := Lib.hid hay
      clear hax hay
      obtain ⟨r1, hr1⟩ : ∃ r1, max lx1 lz1 = r1 := ⟨_, rfl⟩
      obtain ⟨r2, hr2⟩ : ∃ r2, min lx2 lz2 = r2 := ⟨_, rfl⟩
      have hrr : bothR (lx1, lx2) (lz1, lz2) = (r1, r2) := by unfold bothR; dsimp only; rw [hr1, hr2]
      have Hrr := Lib.hid hrr
      have hrg : 0 ≤ r1 ∧ r2 ≤ 10000 := by omega
      clear hrr
      subst hbA
      have di : decide ((i : Int) < 0) = false := by simp
      have dk : decide ((k : Int) < 0) = false := by simp
      go_upto_region 5 with fail
      go_cut [8] (fun s8 wx => s8 = .pointer (some ⟨w1.heap.size, 0, none⟩) ∧ wx = (w1.alloc (.cells #[.int .i64 r1, .int .i64 r2] 50)).drew)
      case first =>
        go_region_held3 (fun W => W.cell? ⟨b3, o3 + i * 2, none⟩ = some (.int .i64 lx1) ∧ W.cell? ⟨b3, o3 + i * 2 + 1, none⟩ = some (.int .i64 lx2) ∧ W.cell? ⟨b3, o3 + k * 2, none⟩ = some (.int .i64 lz1) ∧ W.cell? ⟨b3, o3 + k * 2 + 1, none⟩ = some (.int .i64 lz2))
          (first | exact ⟨q1, q2, q3, q4⟩ | exact ⟨cell_alloc q1 _, cell_alloc q2 _, cell_alloc q3 _, cell_alloc q4 _⟩ | (refine ⟨?_, ?_, ?_, ?_⟩ <;> (repeat (first | exact q1 | exact q2 | exact q3 | exact q4 | refine cell_far ?_ (addr_ne (by first | assumption | (simp; omega))) | refine cell_alloc ?_ _)))) (fail)
        all_goals (go_wp2_with fail; go_meet; exact ⟨rfl, rfl⟩)
      case rest =>
        obtain ⟨rfl, hwx⟩ := hcut
        obtain ⟨w5, hw5⟩ : ∃ w5, w5 = wc := ⟨_, rfl⟩
        subst hw5
        have hsz : w.heap.size < w1.heap.size := block_lt_of_cell p0
        have hBc : Below w1.heap.size w1 w5 := by rw [hwx]; exact (below_alloc' (Below.refl _ _) _).drew
        have e0 : w5.cell? ⟨w1.heap.size, 0, none⟩ = some (.int .i64 r1) := by rw [hwx]; exact new2_0 _ _ _ _
        have e1 : w5.cell? ⟨w1.heap.size, 1, none⟩ = some (.int .i64 r2) := by rw [hwx]; exact new2_1 _ _ _ _
        replace f0 := frozen_later hBc (block_lt_of_cell p0) f0
        replace f1 := frozen_later hBc (block_lt_of_cell p1) f1
        replace p0 := cell_below hBc p0
        replace p1 := cell_below hBc p1
        have HBc := Lib.hid (below_trans' HB1.out hBc)
        have HL6 : Hid (RangesAt w5 (some ⟨b3, o3, none⟩) l) := Lib.hid (Hl.out.below HBc.out)
        have hbl : w1.heap.size < w5.heap.size := block_lt_of_cell e0
        generalize w1.heap.size = b9 at e0 e1 hsz hbl
        clear hwx hBc q1 q2 q3 q4 hr1 hr2 HB1
        by_cases hr : r1 ≤ r2
        · obtain ⟨i0, hi0, hz0, hz1, hz2⟩ := info_parts infoR
          have HLZ : Hid ((l.flatMap encR).length = l.length * 2) := Lib.hid (flatMap_len encR_len l)
          go_upto_region 8 with fail
          go_cut [9] (fun s9 wx => ∃ g c, s9 = .slice (some ⟨g, 0, none⟩) (l.length + 1) c ∧ Hid (RangesAt wx (some ⟨g, 0, none⟩) (l ++ [(r1, r2)])) ∧ Hid (Below w5.heap.size w5 wx))
          case first =>
            go_region_held3 (fun W => W.cell? ⟨b9, 0, none⟩ = some (.int .i64 r1) ∧ W.cell? ⟨b9, 1, none⟩ = some (.int .i64 r2))
              (first | exact ⟨e0, e1⟩ | exact ⟨cell_alloc e0 _, cell_alloc e1 _⟩ | exact ⟨cell_alloc (cell_alloc e0 _) _, cell_alloc (cell_alloc e1 _) _⟩ | exact ⟨k0, k1⟩ | exact ⟨cell_alloc k0 _, cell_alloc k1 _⟩ | exact ⟨k2, k3⟩)
              (first
                | (refine step_append_grows rfl (.tmp 65) (.tmp 66) 22 rfl 50 i0 (.agg #[.int .i64 0, .int .i64 0]) 2 16 Try.underlying22 hi0 hz0 hz1 hz2 rfl (by omega) _ 0 0 [] (by rfl) (fun h => by cases h) rfl (fun _ _ j u hj => by simp at hj) ⟨b3, o3, none⟩ l.length ca (l.flatMap encR) (by rfl) HLZ.out (fun j u hj => by first | exact cell_alloc (RowsAt.olds encR_len HL6.out _ rfl j u hj) _ | exact cell_alloc (cell_alloc (RowsAt.olds encR_len HL6.out _ rfl j u hj) _) _) (oneFlat oneR l) (by omega) (by simp only [maxLen]; omega) (by omega) ?_
                   intro va wa hown hgrow
                   rw [Nat.zero_add, List.nil_append] at hown
                   obtain ⟨g7, c7, rfl, _⟩ := hown.form (by omega)
                   have hBa : Below w5.heap.size w5 wa := by first | exact ((below_alloc' (Below.refl _ _) _).drew).grown hgrow (by simp) (fun r e => by cases e) | exact ((below_alloc' (below_alloc' (Below.refl _ _) _) _).drew).grown hgrow (by simp; omega) (fun r e => by cases e)
                   have k0 := cell_below hBa e0
                   have k1 := cell_below hBa e1
                   first
                     | have kb : wa.heap[w5.heap.size + 1]? = some (.cells #[.int .i64 r1, .int .i64 r2] 50 (0, 0)) := blk_grown hgrow (by have := heap_alloc_new (w5.alloc (.cells #[] 50)) (.cells #[.int .i64 r1, .int .i64 r2] 50); rw [World.size_alloc] at this; exact this) (by simp)
                     | have kb : wa.heap[w5.heap.size]? = some (.cells #[.int .i64 r1, .int .i64 r2] 50 (0, 0)) := blk_grown hgrow (blk_alloc (heap_alloc_new w5 _) _) (by simp)
                     | skip
                   have hsa := hBa.size
                   have hsg := hgrow.size)
                | (refine step_append_lies _ (by rfl) _ _ _ (by rfl) (w5.heap.size + 1) 50 i0 _ 2 16 Try.underlying22 hi0 hz0 hz1 hz2 rfl (by omega) _ l.length (l.flatMap encR) (by rfl) (own_mono (hown.alloc _) (by simp)) ⟨wa.heap.size, 0, none⟩ 1 1 (encR (r1, r2)) (by rfl) (by rfl) (World.news_of_block (cs := #[.int .i64 r1, .int .i64 r2]) (t := 50) (fr := (0, 0)) (heap_alloc_new wa _)) (oneR _) (by omega) (by simp only [maxLen]; omega) (by omega) (by simp at hsg ⊢; omega) (wa.heap.size + 1) (by simp) ?_
                   intro g8 c8 w8 hownb hgrowb _ _
                   have hBb : Below w5.heap.size w5 w8 := (below_alloc' hBa _).grown hgrowb (by simp; omega) (fun r e => by have := own_base hown r e; simp at this; omega)
                   have k2 := cell_below hBb e0
                   have k3 := cell_below hBb e1)
                | (refine step_append_lies _ (by rfl) _ _ _ (by rfl) (w5.heap.size + 1) 50 i0 _ 2 16 Try.underlying22 hi0 hz0 hz1 hz2 rfl (by omega) _ l.length (l.flatMap encR) (by rfl) (own_mono hown (by simp)) _ 1 1 (encR (r1, r2)) (by rfl) (by rfl) (World.news_of_block (cs := #[.int .i64 r1, .int .i64 r2]) (t := 50) (fr := (0, 0)) kb) (oneR _) (by omega) (by simp only [maxLen]; omega) (by omega) (by simp at hsg ⊢; omega) wa.heap.size rfl ?_
                   intro g8 c8 w8 hownb hgrowb _ _
                   have hBb : Below w5.heap.size w5 w8 := hBa.grown hgrowb (by omega) (fun r e => by have := own_base hown r e; simp at this; omega)
                   have k2 := cell_below hBb e0
                   have k3 := cell_below hBb e1))
            all_goals (go_wp2_with fail; go_meet; exact ⟨g8, c8, rfl, Lib.hid (RowsAt.of_own encR_len (by rw [len_snoc, ← push_flat]; exact hownb)), Lib.hid hBb⟩)
          case rest =>
            obtain ⟨g8, c8, rfl, HR8, HB8⟩ := hcut
            have e0' := cell_below HB8.out e0
            have e1' := cell_below HB8.out e1
            have p0' := cell_below HB8.out p0
            have p1' := cell_below HB8.out p1
            have f0' := frozen_later HB8.out (block_lt_of_cell p0) f0
            have f1' := frozen_later HB8.out (block_lt_of_cell p1) f1
            have HBe := Lib.hid (below_trans' HBc.out HB8.out)
            obtain ⟨w6, hw6⟩ : ∃ w6, w6 = wc := ⟨_, rfl⟩
            subst hw6
            have hgr : GoodR (l ++ [(r1, r2)]) := fun x hx => by
              rcases List.mem_append.1 hx with hx | hx
              · exact HG.out x hx
              · rw [List.mem_singleton.1 hx]; exact ⟨by dsimp only; omega, by dsimp only; omega, by dsimp only; omega⟩
            have HGR := Lib.hid hgr
            clear e0 e1 p0 p1 f0 f1 HL6 HLZ hgr
            go_wp2_with fail
            refine (short_any (some ⟨b3, o3, none⟩) ca l w6 (Hl.out.below HBe.out) (by omega) HG.out).mono ?_
            rintro e w7 ⟨v, rfl, ⟨n, rfl, hn7, hnl⟩, hB7⟩
            have e0 := cell_below hB7 e0'
            have e1 := cell_below hB7 e1'
            have p0 := cell_below hB7 p0'
            have p1 := cell_below hB7 p1'
            have f0 := frozen_later hB7 (block_lt_of_cell p0') f0'
            have f1 := frozen_later hB7 (block_lt_of_cell p1') f1'
            have HB7 := Lib.hid (below_trans' HBe.out hB7)
            have HL7 : Hid (RangesAt w7 (some ⟨b3, o3, none⟩) l) := Lib.hid (Hl.out.below HB7.out)
            replace HR8 := Lib.hid (HR8.out.below hB7)
            have HN7 := Lib.hid hn7
            clear e0' e1' p0' p1' f0' f1' hB7 hn7 HB8
            have hss := fun W (h : RangesAt W (some ⟨g8, 0, none⟩) (l ++ [(r1, r2)])) => short_any (some ⟨g8, 0, none⟩) c8 (l ++ [(r1, r2)]) W h (by rw [len_snoc]; omega) HGR.out
            rw [len_snoc] at hss
            have HSS := Lib.hid hss
            have HWO := Lib.hid (fun W (h : RangesAt W (some ⟨b3, o3, none⟩) l) => without_any (some ⟨b3, o3, none⟩) ca l r1 r2 W h (by omega) h24.1 HG.out (by omega))
            clear hss
            go_wp2
            go_region_held3 (fun W => W.cell? ⟨b9, 0, none⟩ = some (.int .i64 r1) ∧ W.cell? ⟨b9, 1, none⟩ = some (.int .i64 r2))
              (first | exact ⟨e0, e1⟩ | exact ⟨k0, k1⟩ | exact ⟨k2, k3⟩ | exact ⟨cell_far (cell_far k2 (addr_ne hsz).symm) (addr_ne hsz).symm, cell_far (cell_far k3 (addr_ne hsz).symm) (addr_ne hsz).symm⟩)
              (first
                | (go_at_call 38
                   refine (HSS.out _ (by exact HR8.out)).mono ?_
                   rintro e wb ⟨vb, rfl, ⟨n2, rfl, hn2, hnl2⟩, hBb⟩
                   replace hBb : Below w7.heap.size w7 wb := by first | exact below_drew_of (Below.refl _ _) hBb | exact hBb
                   have k0 := cell_below hBb e0
                   have k1 := cell_below hBb e1)
                | (go_at_call 51
                   refine (HWO.out _ (by exact HL7.out.below hBb)).mono ?_
                   rintro e wd ⟨vd, rfl, ⟨m, rfl, hm⟩, hBd⟩
                   have k2 := cell_below hBd k0
                   have k3 := cell_below hBd k1
                   have z0 := cell_below hBd (cell_below hBb p0)
                   have z1 := cell_below hBd (cell_below hBb p1)
                   have zf0 := frozen_later hBd (block_lt_of_cell (cell_below hBb p0)) (frozen_later hBb (block_lt_of_cell p0) f0)
                   have zf1 := frozen_later hBd (block_lt_of_cell (cell_below hBb p1)) (frozen_later hBb (block_lt_of_cell p1) f1)))
            all_goals
              have hBz : Below w.heap.size w wd := below_trans' (below_trans' HB7.out hBb) hBd
              have hMay : ((n2 : Int) == (n : Int)) = true ↔ MayR l (r1, r2) := by
                rw [← may_short HN7.out hn2, beq_iff_eq]; omega
              have hMust : decide ((n : Int) < m) = true ↔ MustR l (r1, r2) := by
                rw [decide_eq_true_iff]; exact must_without HN7.out (by omega) hm
              have HMay := Lib.hid hMay
              have HMust := Lib.hid hMust
              clear hMay hMust
              go_wp2
              exact end26 rfl rfl rfl z0 z1 hBz (Nat.le_refl _) (.inr (.inr ⟨H0.out, hi, hk, rfl, by rw [Hax.out, Hay.out, Hrr.out]; exact HMay.out, by rw [Hax.out, Hay.out, Hrr.out]; exact HMust.out⟩))
        · have hemp := empty_share HG.out (r := (r1, r2)) (by dsimp only; omega)
          have Hemp := Lib.hid hemp
          clear hemp
          go_wp2
          exact end26 rfl rfl rfl p0 p1 HBc.out (Nat.le_refl _) (.inr (.inr ⟨H0.out, hi, hk, rfl, by rw [Hax.out, Hay.out, Hrr.out]; exact ⟨fun h => (by cases h), fun h => absurd h Hemp.out.1⟩, by rw [Hax.out, Hay.out, Hrr.out]; exact ⟨fun h => (by cases h), fun h => absurd h Hemp.out.2⟩⟩))
    · have Hik := Lib.hid hik
      unfold inL at hik
      go_wp2
      all_goals first
        | (exfalso; omega)
        | exact end26 rfl rfl rfl p0 p1 HB1.out (Nat.le_refl _) (.inr (.inl ⟨H0.out, Hik.out, rfl, rfl, rfl⟩))
  · have d0 : (songErr l != 0) = true := by simpa using h0
    have H0 := Lib.hid h0
    clear h0
    go_wp2_with fail
    refine (refCheckSong_any A ca l w1 (Hl.out.below HB1.out) hn).mono ?_
    rintro e w2 ⟨v, rfl, rfl, hq2⟩
    have HB2 : Hid (Below w.heap.size w w2) := Lib.hid (by obtain ⟨q, rfl⟩ := hq2; exact below_drewN HB1.out _)
    have p0' : w2.cell? ⟨w.heap.size, 0, none⟩ = some (.bool false) := by obtain ⟨q, rfl⟩ := hq2; exact p0
    have p1' : w2.cell? ⟨w.heap.size, 1, none⟩ = some (.bool false) := by obtain ⟨q, rfl⟩ := hq2; exact p1
    have f0' : w2.frozen? ⟨w.heap.size, 0, none⟩ = false := by obtain ⟨q, rfl⟩ := hq2; exact f0
    have f1' : w2.frozen? ⟨w.heap.size, 1, none⟩ = false := by obtain ⟨q, rfl⟩ := hq2; exact f1
    clear p0 p1 f0 f1 hq2
    go_wp2
    exact end26 rfl rfl rfl p0' p1' HB2.out (Nat.le_refl _) (.inl ⟨H0.out, rfl, rfl, rfl⟩)
end Go.Proofs.Ytkjmeeggjmeajaa
