/- ScaleTurned. -/
import Derived.Test.YtkjmeeggjmeajaaL9
import Derived.Test.YtkjmeeggjmeajaaL8
import Derived.Deep.AppendLies
import Derived.Deep.DeepCutAuto
namespace Go.Proofs.Ytkjmeeggjmeajaa
open Go.RowKit Go.Shelf

/-- three rows of ranges that the call made, no two in one block -/
structure Three (w : World) (base : Nat) (v1 v2 v3 : Value) (X Y Z : List Rg) : Prop where
  own1 : w.ownsRow base 50 2 v1 X.length (X.flatMap encR)
  own2 : w.ownsRow base 50 2 v2 Y.length (Y.flatMap encR)
  own3 : w.ownsRow base 50 2 v3 Z.length (Z.flatMap encR)
  d12 : v1.ownBlock = none ∨ v1.ownBlock ≠ v2.ownBlock
  d23 : v2.ownBlock = none ∨ v2.ownBlock ≠ v3.ownBlock
  d31 : v3.ownBlock = none ∨ v3.ownBlock ≠ v1.ownBlock
theorem Three.alloc {w : World} {base : Nat} {v1 v2 v3 : Value} {X Y Z : List Rg} (h : Three w base v1 v2 v3 X Y Z) (o : Obj) : Three (w.alloc o) base v1 v2 v3 X Y Z := ⟨h.own1.alloc o, h.own2.alloc o, h.own3.alloc o, h.d12, h.d23, h.d31⟩
theorem Three.below {w w' : World} {base : Nat} {v1 v2 v3 : Value} {X Y Z : List Rg} (h : Three w base v1 v2 v3 X Y Z) (hB : Below w.heap.size w w') : Three w' base v1 v2 v3 X Y Z := ⟨own_below h.own1 hB, own_below h.own2 hB, own_below h.own3 hB, h.d12, h.d23, h.d31⟩
theorem Three.rot {w : World} {base : Nat} {v1 v2 v3 : Value} {X Y Z : List Rg} (h : Three w base v1 v2 v3 X Y Z) : Three w base v2 v3 v1 Y Z X := ⟨h.own2, h.own3, h.own1, h.d23, h.d31, h.d12⟩
theorem apart_new {a : Option Nat} {g : Nat} (h : a = none ∨ a ≠ some g) : (some g : Option Nat) = none ∨ some g ≠ a := ne_sym h
theorem Three.push1 {w w' : World} {base g cap : Nat} {v1 v2 v3 : Value} {X Y Z : List Rg} {r : Rg} (h : Three w base v1 v2 v3 X Y Z) (hown : w'.ownsRow base 50 2 (.slice (some ⟨g, 0, none⟩) (X.length + 1) cap) (X.length + 1) (X.flatMap encR ++ encR r))
    (hg : w.grownBy w' v1.ownBlock) (hat : v1.ownBlock = some g ∨ g = w.heap.size) : Three w' base (.slice (some ⟨g, 0, none⟩) (X.length + 1) cap) v2 v3 (X ++ [r]) Y Z := by
  have k2 := apart_push h.d12 hat (own_lt h.own2)
  have k3 := apart_push (ne_sym h.d31) hat (own_lt h.own3)
  exact ⟨by rw [len_snoc, ← push_flat]; exact hown, h.own2.kept hg (ne_sym h.d12), h.own3.kept hg h.d31, apart_new k2, h.d23, k3⟩
theorem Three.push2 {w w' : World} {base g cap : Nat} {v1 v2 v3 : Value} {X Y Z : List Rg} {r : Rg} (h : Three w base v1 v2 v3 X Y Z) (hown : w'.ownsRow base 50 2 (.slice (some ⟨g, 0, none⟩) (Y.length + 1) cap) (Y.length + 1) (Y.flatMap encR ++ encR r))
    (hg : w.grownBy w' v2.ownBlock) (hat : v2.ownBlock = some g ∨ g = w.heap.size) : Three w' base v1 (.slice (some ⟨g, 0, none⟩) (Y.length + 1) cap) v3 X (Y ++ [r]) Z := (h.rot.push1 hown hg hat).rot.rot
theorem Three.push3 {w w' : World} {base g cap : Nat} {v1 v2 v3 : Value} {X Y Z : List Rg} {r : Rg} (h : Three w base v1 v2 v3 X Y Z) (hown : w'.ownsRow base 50 2 (.slice (some ⟨g, 0, none⟩) (Z.length + 1) cap) (Z.length + 1) (Z.flatMap encR ++ encR r))
    (hg : w.grownBy w' v3.ownBlock) (hat : v3.ownBlock = some g ∨ g = w.heap.size) : Three w' base v1 v2 (.slice (some ⟨g, 0, none⟩) (Z.length + 1) cap) X Y (Z ++ [r]) := (h.rot.rot.push1 hown hg hat).rot

theorem run_neq37' (a b c d : Bool) (w : World) : (binOp .neq 37 (.agg #[.bool a, .bool b]) (.agg #[.bool c, .bool d])).run Try.prog w = .ok (.bool (!(a == c && b == d))) w := by
  rw [run_neq_struct, run_equal37]; rfl
theorem inL_nat {l : List Rg} {i : Nat} (h : i < l.length) : inL l (i : Int) := ⟨by omega, by omega⟩
theorem atL_nat {l : List Rg} {i : Nat} (h : i < l.length) : atL l (i : Int) = l[i] := by simp [atL, h]
/-- shares stay, if ranges are turned round, turned about, or higher -/
theorem shares_turned {l : List Rg} (h0 : songErr l = 0) {i k i' k' : Nat} (hi : i < l.length) (hk : k < l.length) {a b a2 b2 a3 b3 : Bool} {e e2 e3 : Int} {xs zs : List Rg} (hx : xs = l.map turnedR) (hz : zs = l.reverse) (hx0 : songErr xs = 0) (hz0 : songErr zs = 0)
    (h : ShareIs l i k a b e) (h2 : ShareIs xs i k a2 b2 e2) (hi' : i' = l.length - 1 - i) (hk' : k' = l.length - 1 - k) (h3 : ShareIs zs k' i' a3 b3 e3) : e = 0 ∧ e2 = 0 ∧ e3 = 0 ∧ a2 = a ∧ b2 = b ∧ a3 = a ∧ b3 = b := by
  subst hx hz
  have hxl : (l.map turnedR).length = l.length := List.length_map _
  have hzl : l.reverse.length = l.length := List.length_reverse
  obtain ⟨p1, p2, p3⟩ := share_spec h h0 (inL_nat hi) (inL_nat hk)
  obtain ⟨q1, q2, q3⟩ := share_spec h2 hx0 (inL_nat (by omega)) (inL_nat (by omega))
  obtain ⟨r1, r2, r3⟩ := share_spec h3 hz0 (inL_nat (by omega)) (inL_nat (by omega))
  rw [atL_nat (by omega), atL_nat (by omega)] at p2 p3 q2 q3 r2 r3
  rw [List.getElem_map, List.getElem_map, bothR_turned, may_turned] at q2
  rw [List.getElem_map, List.getElem_map, bothR_turned, must_turned] at q3
  have e1 : l.reverse[k']'(by omega) = l[k] := by rw [List.getElem_reverse]; congr 1; omega
  have e2' : l.reverse[i']'(by omega) = l[i] := by rw [List.getElem_reverse]; congr 1; omega
  rw [e1, e2', bothR_comm, may_congr (l := l) (fun r => List.mem_reverse.symm)] at r2
  rw [e1, e2', bothR_comm, must_congr (l := l) (fun r => List.mem_reverse.symm)] at r3
  have iff_eq : ∀ {x y : Bool} {q : Prop}, (x = true ↔ q) → (y = true ↔ q) → x = y := fun {x y q} h k => by rw [Bool.eq_iff_iff, h, k]
  exact ⟨p1, q1, r1, iff_eq q2 p2, iff_eq q3 p3, iff_eq r2 p2, iff_eq r3 p3⟩

theorem bothR_up (u : Int) (a b : Rg) : bothR (upR u a) (upR u b) = upR u (bothR a b) := by unfold bothR upR; dsimp only; ext <;> dsimp only <;> omega
theorem shares_up {l : List Rg} (h0 : songErr l = 0) {i k : Nat} (hi : i < l.length) (hk : k < l.length) {a b a2 b2 : Bool} {e e2 u : Int} {ys : List Rg} (hy : ys = l.map (upR u)) (hy0 : songErr ys = 0)
    (h : ShareIs l i k a b e) (h2 : ShareIs ys i k a2 b2 e2) : e2 = 0 ∧ a2 = a ∧ b2 = b := by
  subst hy
  have hyl : (l.map (upR u)).length = l.length := List.length_map _
  obtain ⟨p1, p2, p3⟩ := share_spec h h0 (inL_nat hi) (inL_nat hk)
  obtain ⟨q1, q2, q3⟩ := share_spec h2 hy0 (inL_nat (by omega)) (inL_nat (by omega))
  rw [atL_nat (by omega), atL_nat (by omega)] at p2 p3 q2 q3
  rw [List.getElem_map, List.getElem_map, bothR_up, may_up] at q2
  rw [List.getElem_map, List.getElem_map, bothR_up, must_up] at q3
  have iff_eq : ∀ {x y : Bool} {q : Prop}, (x = true ↔ q) → (y = true ↔ q) → x = y := fun {x y q} h k => by rw [Bool.eq_iff_iff, h, k]
  exact ⟨q1, iff_eq q2 p2, iff_eq q3 p3⟩

set_option maxRecDepth 100000 in
set_option maxHeartbeats 40000000 in
theorem scaleTurned_any (A : Option Addr) (ca : Nat) (l : List Rg) (a0 a1 up : Int) (w : World) (hl : RangesAt w A l) (hn : l.length ≤ 9223372036854775807) (hca : l.length ≤ ca) (ha0 : 0 ≤ a0 ∧ a0 ≤ 255) (ha1 : 0 ≤ a1 ∧ a1 ≤ 255) (hup : 0 ≤ up ∧ up ≤ 65535) :
    Calls Try.prog 8 #[.slice A l.length ca, .agg #[.int .u8 a0, .int .u8 a1], .int .u16 up] w (Ret fun v w' => v = .bool true ∧ Below w.heap.size w w') := by
  have Hl := Lib.hid hl; clear hl
  have hf := fine_any A ca l (w.alloc (.cells #[.int .u8 a0, .int .u8 a1] 57)) (Hl.out.alloc _) hn
  have hneq := run_neq37'
  go_enter Try.func8, Try.ntmps8
  by_cases h0 : songErr l = 0
  · have h24 := song_len24 h0
    rw [show (decide (l.length ≤ 30) && decide (songErr l = 0)) = true by simp [h0]; omega] at hf
    have Hf := Lib.hid hf
    have H0 := Lib.hid h0
    clear hf h0 hn
    have HX0 := Lib.hid (heap_alloc_new w (.cells #[.int .u8 a0, .int .u8 a1] 57))
    go_wp2_with fail
    refine Hf.out.mono ?_
    rintro e w1 ⟨v, rfl, rfl, hq1⟩
    have HB1 : Hid (Below w.heap.size w w1) := Lib.hid (by obtain ⟨q, rfl⟩ := hq1; exact below_drewN (below_alloc' (Below.refl _ _) _) _)
    have HY0 : Hid (w1.heap[w.heap.size]? = some (.cells #[.int .u8 a0, .int .u8 a1] 57 (0, 0))) := Lib.hid (by obtain ⟨q, rfl⟩ := hq1; exact HX0.out)
    clear hq1 HX0 Hf
    have HG := Lib.hid (song_GoodR H0.out)
    have c0 : w1.cell? ⟨w.heap.size, 0, none⟩ = some (.int .u8 a0) := (blk_cell HY0.out).trans rfl
    have c1 : w1.cell? ⟨w.heap.size, 1, none⟩ = some (.int .u8 a1) := (blk_cell HY0.out).trans rfl
    have hw0 : IntKind.i64.wrap a0 = a0 := IntWalk.i64_in _ (by omega)
    have hw1 : IntKind.i64.wrap a1 = a1 := IntWalk.i64_in _ (by omega)
    have hmod : ∀ q : Int, 0 ≤ q → ∃ k : Nat, Int.tmod q (l.length : Int) = (k : Int) ∧ k < l.length := fun q hq => by
      rw [Int.tmod_eq_emod_of_nonneg hq]
      have h1 := Int.emod_nonneg q (show (l.length : Int) ≠ 0 by omega)
      have h2 := Int.emod_lt_of_pos q (show (0 : Int) < (l.length : Int) by omega)
      exact ⟨(q % (l.length : Int)).toNat, (Int.toNat_of_nonneg h1).symm, by omega⟩
    obtain ⟨i, hmi, hil⟩ := hmod a0 ha0.1
    obtain ⟨k, hmk, hkl⟩ := hmod a1 ha1.1
    clear hmod
    go_wp2
    refine wp_region_quiet_lit (by kernel_rfl) (by kernel_rfl) ?_
    repeat (any_goals (first | go_big_quiet_step (fail) | quiet_step (fail) | (refine wpQuiet_step (fun K hK => ?_); go_simp; split <;> (refine hK _ ?_; clear hK K))))
    all_goals (refine wpQuiet_nil ?_; intro _ hw'; obtain ⟨nq, hw''⟩ := hw'; subst hw'')
    obtain ⟨w4, hw4⟩ : ∃ w4, w4 = w1.drewN nq := ⟨_, rfl⟩
    have HB4 : Hid (Below w.heap.size w w4) := Lib.hid (by rw [hw4]; exact below_drewN HB1.out _)
    rw [← hw4]
    clear hw4 HB1 c0 c1 hw0 hw1 hmi hmk HY0
    obtain ⟨i0, hi0, hz0, hz1, hz2⟩ := info_parts infoR
    have hrg := rg_any
    unfold vR at hrg
    have Hrg := Lib.hid hrg
    have hwu : IntKind.i64.wrap up = up := IntWalk.i64_in _ (by omega)
    clear hrg
    go_wp2
    go_loopw [10, 11, 12, 13] (fun v1 v2 v3 j wr => ∃ m : Nat, m ≤ l.length ∧ j = .int .i64 m ∧ Hid (Three wr w4.heap.size v1 v2 v3 ((l.map turnedR).take m) ((l.map (upR up)).take m) (l.reverse.take m)) ∧ Below w4.heap.size w4 wr) (fun _ _ _ j _ => l.length - (intOf j).toNat)
    case atStart => exact ⟨0, by omega, rfl, ⟨World.ownsRow_nil _ _ _ _, World.ownsRow_nil _ _ _ _, World.ownsRow_nil _ _ _ _, .inl rfl, .inl rfl, .inl rfl⟩, Below.refl _ _⟩
    case round =>
      obtain ⟨m, hm, rfl, HT, hB⟩ := hrel
      have HB := Lib.hid hB
      clear hB
      obtain ⟨T1, hT1⟩ : ∃ T, T = (l.map turnedR).take m := ⟨_, rfl⟩
      obtain ⟨T2, hT2⟩ : ∃ T, T = (l.map (upR up)).take m := ⟨_, rfl⟩
      obtain ⟨T3, hT3⟩ : ∃ T, T = l.reverse.take m := ⟨_, rfl⟩
      have hl1 : T1.length ≤ 24 := by rw [hT1]; simp; omega
      have hl2 : T2.length ≤ 24 := by rw [hT2]; simp; omega
      have hl3 : T3.length ≤ 24 := by rw [hT3]; simp; omega
      by_cases hmn : m < l.length
      · rw [← hT1, ← hT2, ← hT3] at HT
        obtain ⟨bl, ol, hbA, p1, p2⟩ := RangesAt.at_ (Hl.out.below HB4.out) hmn
        obtain ⟨q, hq⟩ : ∃ q, q = l.length - 1 := ⟨_, rfl⟩
        obtain ⟨p, hp⟩ : ∃ p, p = q - m := ⟨_, rfl⟩
        have hpn : p < l.length := by omega
        have hwq : IntKind.i64.wrap ((l.length : Int) - 1) = (q : Int) := by rw [show (l.length : Int) - 1 = (q : Int) by omega]; exact IntWalk.i64_in _ (by omega)
        have hwp : IntKind.i64.wrap ((q : Int) - (m : Int)) = (p : Int) := by rw [show (q : Int) - (m : Int) = (p : Int) by omega]; exact IntWalk.i64_in _ (by omega)
        obtain ⟨bl', ol', hbA', p3, p4⟩ := RangesAt.at_ (Hl.out.below HB4.out) hpn
        rw [hbA] at hbA'
        injection hbA' with hbA'
        injection hbA' with e1 e2
        subst e1 e2
        have hgx := HG.out _ (List.getElem_mem hmn)
        have hn1 : (l.map turnedR).take (m + 1) = T1 ++ [(10000 - l[m].2, 10000 - l[m].1)] := by rw [take_snoc (x := turnedR l[m]) (by simpa using hmn) (by simp), hT1]; rfl
        have hn2 : (l.map (upR up)).take (m + 1) = T2 ++ [(l[m].1 + up, l[m].2 + up)] := by rw [take_snoc (x := upR up l[m]) (by simpa using hmn) (by simp), hT2]; rfl
        have hn3 : l.reverse.take (m + 1) = T3 ++ [l[p]] := by
          rw [take_snoc (x := l[p]) (by simpa using hmn) (by rw [List.getElem_reverse]; congr 1; omega), hT3]
        generalize l[m] = lx at p1 p2 hgx hn1 hn2
        generalize l[p] = lz at p3 p4 hn3
        obtain ⟨x1, x2⟩ := lx
        obtain ⟨z1, z2⟩ := lz
        dsimp only at p1 p2 p3 p4 hgx hn1 hn2
        have HN1 := Lib.hid hn1
        have HN2 := Lib.hid hn2
        have HN3 := Lib.hid hn3
        have hwa : IntKind.i64.wrap (10000 - x2) = 10000 - x2 := IntWalk.i64_in _ (by omega)
        have hwb : IntKind.i64.wrap (10000 - x1) = 10000 - x1 := IntWalk.i64_in _ (by omega)
        have hwc : IntKind.i64.wrap (x1 + up) = x1 + up := IntWalk.i64_in _ (by omega)
        have hwd : IntKind.i64.wrap (x2 + up) = x2 + up := IntWalk.i64_in _ (by omega)
        subst hbA
        clear hT1 hT2 hT3 hn1 hn2 hn3 hp hq
        have P1 := Lib.hid p1
        have P2 := Lib.hid p2
        have P3 := Lib.hid p3
        have P4 := Lib.hid p4
        have q1 := cell_below HB.out p1
        have q2 := cell_below HB.out p2
        clear p1 p2 p3 p4
        have r0 : (wr.alloc (.cells #[.int .i64 x1, .int .i64 x2] 50)).cell? ⟨wr.heap.size, 0, none⟩ = some (.int .i64 x1) := new2_0 _ _ _ _
        have r1 : (wr.alloc (.cells #[.int .i64 x1, .int .i64 x2] 50)).cell? ⟨wr.heap.size, 1, none⟩ = some (.int .i64 x2) := new2_1 _ _ _ _
        go_wp2_with fail
        refine (Hrg.out (10000 - x2) (10000 - x1) _).mono ?_
        rintro e w5 ⟨v, rfl, rfl, hB5⟩
        have HT5 := Lib.hid ((HT.out.alloc (.cells #[.int .i64 x1, .int .i64 x2] 50)).below hB5)
        have HB5 := Lib.hid (below_alloc_of HB.out hB5)
        have r0' := cell_below hB5 r0
        have r1' := cell_below hB5 r1
        have hlt5 : wr.heap.size < w5.heap.size := block_lt_of_cell r0'
        have hno1 : ∀ b, u10.ownBlock = some b → b < wr.heap.size := own_lt HT.out.own1
        have HNO1 := Lib.hid hno1
        clear r0 r1 q1 q2 hB5 hno1
        go_wp2_with (at_builtin; refine wpList_append_lies _ rfl (.tmp 56) (.tmp 64) 22 rfl w4.heap.size 50 i0 (.agg #[.int .i64 0, .int .i64 0]) 2 16 Try.underlying22 hi0 hz0 hz1 hz2 rfl (by omega) u10 T1.length (T1.flatMap encR) rfl (HT5.out.own1.alloc _) _ 1 1 (encR (10000 - x2, 10000 - x1)) rfl (by rfl) (World.news_of_block (cs := #[.int .i64 (10000 - x2), .int .i64 (10000 - x1)]) (t := 50) (fr := (0, 0)) (heap_alloc_new _ _)) (oneR _) (by omega) (by simp only [maxLen]; omega) (by omega) (by rw [World.size_alloc]; exact Nat.le_succ_of_le HB5.out.size) _ rfl ?_; intro g1 cap1 w6 hown1 hg1 hat1 _; have HT1 := Lib.hid ((HT5.out.alloc _).push1 hown1 hg1 hat1); have HBp1 := Lib.hid ((below_alloc' HB5.out _).grown hg1 (by rw [World.size_alloc]; exact Nat.le_succ_of_le HB5.out.size) (fun r e => own_base HT5.out.own1 r e)); have s0 := (hg1.cell_far ⟨wr.heap.size, 0, none⟩ (by rw [World.size_alloc]; exact Nat.lt_succ_of_lt hlt5) (fun e => Nat.lt_irrefl _ (HNO1.out _ e.symm))).trans (cell_alloc r0' _); have s1 := (hg1.cell_far ⟨wr.heap.size, 1, none⟩ (by rw [World.size_alloc]; exact Nat.lt_succ_of_lt hlt5) (fun e => Nat.lt_irrefl _ (HNO1.out _ e.symm))).trans (cell_alloc r1' _); clear hown1 hg1 hat1)
        refine (Hrg.out (x1 + up) (x2 + up) _).mono ?_
        rintro e w7 ⟨v, rfl, rfl, hB7⟩
        have HT7 := Lib.hid (HT1.out.below hB7)
        have HB7 := Lib.hid (below_trans' HBp1.out hB7)
        clear hB7 s0 s1 r0' r1'
        go_wp2_with (first | (at_builtin; refine wpList_append_lies _ rfl (.tmp 80) (.tmp 88) 22 rfl w4.heap.size 50 i0 (.agg #[.int .i64 0, .int .i64 0]) 2 16 Try.underlying22 hi0 hz0 hz1 hz2 rfl (by omega) u12 T3.length (T3.flatMap encR) rfl (HT2.out.own3.alloc _) _ 1 1 (encR (z1, z2)) rfl (by rfl) (World.news_of_block (cs := #[.int .i64 (z1), .int .i64 (z2)]) (t := 50) (fr := (0, 0)) (heap_alloc_new _ _)) (oneR _) (by omega) (by simp only [maxLen]; omega) (by omega) (by rw [World.size_alloc]; exact Nat.le_succ_of_le HBp2.out.size) _ rfl ?_; intro g3 cap3 w9 hown3 hg3 hat3 _; have HT3 := Lib.hid ((HT2.out.alloc _).push3 hown3 hg3 hat3); have HBp3 := Lib.hid ((below_alloc' HBp2.out _).grown hg3 (by rw [World.size_alloc]; exact Nat.le_succ_of_le HBp2.out.size) (fun r e => own_base HT2.out.own3 r e)); clear hown3 hg3 hat3) | (at_builtin; refine wpList_append_lies _ rfl (.tmp 66) (.tmp 78) 22 rfl w4.heap.size 50 i0 (.agg #[.int .i64 0, .int .i64 0]) 2 16 Try.underlying22 hi0 hz0 hz1 hz2 rfl (by omega) u11 T2.length (T2.flatMap encR) rfl (HT7.out.own2.alloc _) _ 1 1 (encR (x1 + up, x2 + up)) rfl (by rfl) (World.news_of_block (cs := #[.int .i64 (x1 + up), .int .i64 (x2 + up)]) (t := 50) (fr := (0, 0)) (heap_alloc_new _ _)) (oneR _) (by omega) (by simp only [maxLen]; omega) (by omega) (by rw [World.size_alloc]; exact Nat.le_succ_of_le HB7.out.size) _ rfl ?_; intro g2 cap2 w8 hown2 hg2 hat2 _; have HT2 := Lib.hid ((HT7.out.alloc _).push2 hown2 hg2 hat2); have HBp2 := Lib.hid ((below_alloc' HB7.out _).grown hg2 (by rw [World.size_alloc]; exact Nat.le_succ_of_le HB7.out.size) (fun r e => own_base HT7.out.own2 r e)); have q3 := cell_below HBp2.out P3.out; have q4 := cell_below HBp2.out P4.out; clear hown2 hg2 hat2))
        go_roundw
        case rel => exact ⟨m + 1, by omega, by go_num, Lib.hid (by rw [HN1.out, HN2.out, HN3.out]; exact HT3.out), HBp3.out⟩
        case measure => simp [intOf]; omega
      · have hml : m = l.length := by omega
        subst hml
        clear hT1 hT2 hT3 hl1 hl2 hl3
        obtain ⟨xs, hxs⟩ : ∃ xs, xs = l.map turnedR := ⟨_, rfl⟩
        obtain ⟨ys, hys⟩ : ∃ ys, ys = l.map (upR up) := ⟨_, rfl⟩
        obtain ⟨zs, hzs⟩ : ∃ zs, zs = l.reverse := ⟨_, rfl⟩
        have hxl : xs.length = l.length := by rw [hxs, List.length_map]
        have hyl : ys.length = l.length := by rw [hys, List.length_map]
        have hzl : zs.length = l.length := by rw [hzs, List.length_reverse]
        have hT := HT.out
        rw [← hxs, ← hys, ← hzs, List.take_of_length_le (by rw [hxl]; exact Nat.le_refl _), List.take_of_length_le (by rw [hyl]; exact Nat.le_refl _), List.take_of_length_le (by rw [hzl]; exact Nat.le_refl _)] at hT
        have ho1 := hT.own1
        have ho2 := hT.own2
        have ho3 := hT.own3
        rw [hxl] at ho1
        rw [hyl] at ho2
        rw [hzl] at ho3
        clear hT HT
        obtain ⟨Ax, cx, rfl, hcx⟩ := own_form ho1
        obtain ⟨Ay, cy, rfl, hcy⟩ := own_form ho2
        obtain ⟨Az, cz, rfl, hcz⟩ := own_form ho3
        obtain ⟨w10, hw10⟩ : ∃ w10, w10 = wr := ⟨_, rfl⟩
        subst hw10
        have HRx : Hid (RangesAt w10 Ax xs) := Lib.hid (RowsAt.of_own encR_len (by rw [hxl]; exact ho1))
        have HRy : Hid (RangesAt w10 Ay ys) := Lib.hid (RowsAt.of_own encR_len (by rw [hyl]; exact ho2))
        have HRz : Hid (RangesAt w10 Az zs) := Lib.hid (RowsAt.of_own encR_len (by rw [hzl]; exact ho3))
        have HB10 := Lib.hid (below_trans' HB4.out HB.out)
        have HX0 : Hid (songErr xs = 0) := Lib.hid (song_ok (by omega) (by omega) (by rw [hxs]; exact HG.out.turned))
        have HZ0 : Hid (songErr zs = 0) := Lib.hid (song_ok (by omega) (by omega) (fun r hr => HG.out r (by rw [hzs] at hr; exact List.mem_reverse.1 hr)))
        have HXS := Lib.hid hxs
        have HYS := Lib.hid hys
        have HZS := Lib.hid hzs
        have HXL := Lib.hid hxl
        have HYL := Lib.hid hyl
        have HZL := Lib.hid hzl
        clear ho1 ho2 ho3 hxs hys hzs hxl hyl hzl HB hmn hm
        have Hc := Lib.hid (spans_any A ca l w10 (Hl.out.below HB10.out) (by omega))
        go_wp2_with fail
        refine Hc.out.mono ?_
        rintro e w11 ⟨v, rfl, h11, hB11⟩
        have HB11 := Lib.hid (below_trans' HB10.out hB11)
        replace HRx := Lib.hid (HRx.out.below hB11)
        replace HRy := Lib.hid (HRy.out.below hB11)
        replace HRz := Lib.hid (HRz.out.below hB11)
        clear hB11 Hc
        rcases h11 with h11 | ⟨_, ts, us, B1, c1, sp, hts, hus, hsp, rfl, hsc, hI1⟩
        · exact absurd H0.out h11.1
        have HIS : Hid (IsSpans l sp) := Lib.hid ⟨ts, us, hts, hus, hsp⟩
        have HI1 : Hid (RangesAt w11 B1 sp) := Lib.hid hI1
        have hspn : sp.length ≤ 24 := by
          obtain ⟨ts, us, ht, _, _, _, _, e⟩ := HIS.out.ends HG.out
          have h1 := (greedy_sub ts (-1)).length_le
          rw [ts_len ht] at h1
          rw [e]; unfold hiAt; rw [List.length_map]; omega
        clear hts hus hsp hsc hI1
        have hk := spans_any Ax cx xs w11 HRx.out (by rw [HXL.out]; omega)
        rw [HXL.out] at hk
        have HK := Lib.hid hk
        clear hk
        have Hc := Lib.hid (HK.out)
        go_wp2_with fail
        refine Hc.out.mono ?_
        rintro e w12 ⟨v, rfl, h12, hB12⟩
        have HB12 := Lib.hid (below_trans' HB11.out hB12)
        replace HRx := Lib.hid (HRx.out.below hB12)
        replace HRy := Lib.hid (HRy.out.below hB12)
        replace HRz := Lib.hid (HRz.out.below hB12)
        replace HI1 := Lib.hid (HI1.out.below hB12)
        clear hB12 Hc
        clear HK
        rcases h12 with h12 | ⟨_, ts, us, B2, c2, sx, hts, hus, hsp, rfl, hsc, hI2⟩
        · exact absurd HX0.out h12.1
        have hsx : sx = (sp.map turnedR).reverse := IsSpans.turned HG.out HIS.out (by rw [← HXS.out]; exact ⟨ts, us, hts, hus, hsp⟩)
        have HI2 : Hid (RangesAt w12 B2 sx) := Lib.hid hI2
        have hsxl : sx.length = sp.length := by rw [hsx, List.length_reverse, List.length_map]
        have HSX := Lib.hid hsx
        have HSXL := Lib.hid hsxl
        rw [hsxl]
        clear hts hus hsp hsc hI2 hsx hsxl
        have hk := spans_any Az cz zs w12 HRz.out (by rw [HZL.out]; omega)
        rw [HZL.out] at hk
        have HK := Lib.hid hk
        clear hk
        have Hc := Lib.hid (HK.out)
        go_wp2_with fail
        refine Hc.out.mono ?_
        rintro e w13 ⟨v, rfl, h13, hB13⟩
        have HB13 := Lib.hid (below_trans' HB12.out hB13)
        replace HRx := Lib.hid (HRx.out.below hB13)
        replace HRy := Lib.hid (HRy.out.below hB13)
        replace HRz := Lib.hid (HRz.out.below hB13)
        replace HI1 := Lib.hid (HI1.out.below hB13)
        replace HI2 := Lib.hid (HI2.out.below hB13)
        clear hB13 Hc
        clear HK
        rcases h13 with h13 | ⟨_, ts, us, B3, c3, sz, hts, hus, hsp, rfl, hsc, hI3⟩
        · exact absurd HZ0.out h13.1
        obtain rfl : sz = sp := IsSpans.congr (fun r => by rw [HZS.out, List.mem_reverse]) HG.out HIS.out ⟨ts, us, hts, hus, hsp⟩
        have HI3 : Hid (RangesAt w13 B3 sz) := Lib.hid hI3
        clear hts hus hsp hsc hI3
        obtain ⟨q, hq⟩ : ∃ q, q = l.length - 1 := ⟨_, rfl⟩
        obtain ⟨i', hi'⟩ : ∃ i', i' = l.length - 1 - i := ⟨_, rfl⟩
        obtain ⟨k', hk'⟩ : ∃ k', k' = l.length - 1 - k := ⟨_, rfl⟩
        have hwq : IntKind.i64.wrap ((l.length : Int) - 1) = (q : Int) := by rw [show (l.length : Int) - 1 = (q : Int) by omega]; exact IntWalk.i64_in _ (by omega)
        have hwi : IntKind.i64.wrap ((q : Int) - (i : Int)) = (i' : Int) := by rw [show (q : Int) - (i : Int) = (i' : Int) by omega]; exact IntWalk.i64_in _ (by omega)
        have hwk : IntKind.i64.wrap ((q : Int) - (k : Int)) = (k' : Int) := by rw [show (q : Int) - (k : Int) = (k' : Int) by omega]; exact IntWalk.i64_in _ (by omega)
        have HI' := Lib.hid hi'
        have HK' := Lib.hid hk'
        clear hq hi' hk'
        have Hc := Lib.hid (share_any A ca l i k w13 (Hl.out.below HB13.out) (by omega) hca)
        go_wp2_with fail
        refine Hc.out.mono ?_
        rintro e w14 ⟨v, rfl, ⟨a, b, e14, rfl, hsh1⟩, hB14⟩
        have HB14 := Lib.hid (below_trans' HB13.out hB14)
        replace HRx := Lib.hid (HRx.out.below hB14)
        replace HRy := Lib.hid (HRy.out.below hB14)
        replace HRz := Lib.hid (HRz.out.below hB14)
        replace HI1 := Lib.hid (HI1.out.below hB14)
        replace HI2 := Lib.hid (HI2.out.below hB14)
        replace HI3 := Lib.hid (HI3.out.below hB14)
        clear hB14 Hc
        have HB14' := Lib.hid (below_alloc' HB14.out (.cells #[.bool a, .bool b] 37))
        have x0 : (w14.alloc (.cells #[.bool a, .bool b] 37)).cell? ⟨w14.heap.size, 0, none⟩ = some (.bool a) := new2_0 _ _ _ _
        have x1 : (w14.alloc (.cells #[.bool a, .bool b] 37)).cell? ⟨w14.heap.size, 1, none⟩ = some (.bool b) := new2_1 _ _ _ _
        replace HRx := Lib.hid (HRx.out.alloc (.cells #[.bool a, .bool b] 37))
        replace HRy := Lib.hid (HRy.out.alloc (.cells #[.bool a, .bool b] 37))
        replace HRz := Lib.hid (HRz.out.alloc (.cells #[.bool a, .bool b] 37))
        replace HI1 := Lib.hid (HI1.out.alloc (.cells #[.bool a, .bool b] 37))
        replace HI2 := Lib.hid (HI2.out.alloc (.cells #[.bool a, .bool b] 37))
        replace HI3 := Lib.hid (HI3.out.alloc (.cells #[.bool a, .bool b] 37))
        have hc := share_any Ax cx xs i k (w14.alloc (.cells #[.bool a, .bool b] 37)) HRx.out (by rw [HXL.out]; omega) (by rw [HXL.out]; exact hcx)
        rw [HXL.out] at hc
        have Hc := Lib.hid hc
        clear hc
        go_wp2_with fail
        refine Hc.out.mono ?_
        rintro e w15 ⟨v, rfl, ⟨a2, b2, e15, rfl, hsh2⟩, hB15⟩
        have HB15 := Lib.hid (below_trans' HB14'.out hB15)
        replace x0 := cell_below hB15 x0
        replace x1 := cell_below hB15 x1
        replace HRx := Lib.hid (HRx.out.below hB15)
        replace HRy := Lib.hid (HRy.out.below hB15)
        replace HRz := Lib.hid (HRz.out.below hB15)
        replace HI1 := Lib.hid (HI1.out.below hB15)
        replace HI2 := Lib.hid (HI2.out.below hB15)
        replace HI3 := Lib.hid (HI3.out.below hB15)
        clear Hc hB15 HB14'
        have HB15' := Lib.hid (below_alloc' HB15.out (.cells #[.bool a2, .bool b2] 37))
        have y0 : (w15.alloc (.cells #[.bool a2, .bool b2] 37)).cell? ⟨w15.heap.size, 0, none⟩ = some (.bool a2) := new2_0 _ _ _ _
        have y1 : (w15.alloc (.cells #[.bool a2, .bool b2] 37)).cell? ⟨w15.heap.size, 1, none⟩ = some (.bool b2) := new2_1 _ _ _ _
        replace x0 := cell_alloc x0 (.cells #[.bool a2, .bool b2] 37)
        replace x1 := cell_alloc x1 (.cells #[.bool a2, .bool b2] 37)
        replace HRx := Lib.hid (HRx.out.alloc (.cells #[.bool a2, .bool b2] 37))
        replace HRy := Lib.hid (HRy.out.alloc (.cells #[.bool a2, .bool b2] 37))
        replace HRz := Lib.hid (HRz.out.alloc (.cells #[.bool a2, .bool b2] 37))
        replace HI1 := Lib.hid (HI1.out.alloc (.cells #[.bool a2, .bool b2] 37))
        replace HI2 := Lib.hid (HI2.out.alloc (.cells #[.bool a2, .bool b2] 37))
        replace HI3 := Lib.hid (HI3.out.alloc (.cells #[.bool a2, .bool b2] 37))
        have hc := share_any Az cz zs k' i' (w15.alloc (.cells #[.bool a2, .bool b2] 37)) HRz.out (by rw [HZL.out]; omega) (by rw [HZL.out]; exact hcz)
        rw [HZL.out] at hc
        have Hc := Lib.hid hc
        clear hc
        go_wp2_with fail
        refine Hc.out.mono ?_
        rintro e w16 ⟨v, rfl, ⟨a3, b3, e16, rfl, hsh3⟩, hB16⟩
        have HB16 := Lib.hid (below_trans' HB15'.out hB16)
        replace x0 := cell_below hB16 x0
        replace x1 := cell_below hB16 x1
        replace y0 := cell_below hB16 y0
        replace y1 := cell_below hB16 y1
        replace HRx := Lib.hid (HRx.out.below hB16)
        replace HRy := Lib.hid (HRy.out.below hB16)
        replace HRz := Lib.hid (HRz.out.below hB16)
        replace HI1 := Lib.hid (HI1.out.below hB16)
        replace HI2 := Lib.hid (HI2.out.below hB16)
        replace HI3 := Lib.hid (HI3.out.below hB16)
        clear Hc hB16 HB15'
        obtain ⟨rfl, rfl, rfl, rfl, rfl, rfl, rfl⟩ := shares_turned H0.out hil hkl HXS.out HZS.out HX0.out HZ0.out hsh1 hsh2 HI'.out HK'.out hsh3
        have HSH := Lib.hid hsh1
        clear hsh1 hsh2 hsh3 HRx HRz hwq hwi hwk HI' HK' HX0 HZ0 HXS HZS HXL HZL
        have HB16' := Lib.hid (below_alloc' HB16.out (.cells #[.bool a3, .bool b3] 37))
        have z0 : (w16.alloc (.cells #[.bool a3, .bool b3] 37)).cell? ⟨w16.heap.size, 0, none⟩ = some (.bool a3) := new2_0 _ _ _ _
        have z1 : (w16.alloc (.cells #[.bool a3, .bool b3] 37)).cell? ⟨w16.heap.size, 1, none⟩ = some (.bool b3) := new2_1 _ _ _ _
        replace x0 := cell_alloc x0 (.cells #[.bool a3, .bool b3] 37)
        replace x1 := cell_alloc x1 (.cells #[.bool a3, .bool b3] 37)
        replace y0 := cell_alloc y0 (.cells #[.bool a3, .bool b3] 37)
        replace y1 := cell_alloc y1 (.cells #[.bool a3, .bool b3] 37)
        replace HRy := Lib.hid (HRy.out.alloc (.cells #[.bool a3, .bool b3] 37))
        replace HI1 := Lib.hid (HI1.out.alloc (.cells #[.bool a3, .bool b3] 37))
        replace HI2 := Lib.hid (HI2.out.alloc (.cells #[.bool a3, .bool b3] 37))
        replace HI3 := Lib.hid (HI3.out.alloc (.cells #[.bool a3, .bool b3] 37))
        have hc := ranges_any B1 B3 c1 c3 sz sz (w16.alloc (.cells #[.bool a3, .bool b3] 37)) HI1.out HI3.out (by omega) (by omega)
        rw [decide_eq_true rfl] at hc
        have Hc := Lib.hid hc
        clear hc
        go_wp2_with fail
        refine Hc.out.mono ?_
        rintro e w17 ⟨v, rfl, rfl, hq17⟩
        have hB17 : Below (w16.alloc (.cells #[.bool a3, .bool b3] 37)).heap.size (w16.alloc (.cells #[.bool a3, .bool b3] 37)) w17 := by obtain ⟨q, rfl⟩ := hq17; exact below_drewN (Below.refl _ _) _
        clear hq17
        have HB17 := Lib.hid (below_trans' HB16'.out hB17)
        replace x0 := cell_below hB17 x0
        replace x1 := cell_below hB17 x1
        replace y0 := cell_below hB17 y0
        replace y1 := cell_below hB17 y1
        replace z0 := cell_below hB17 z0
        replace z1 := cell_below hB17 z1
        replace HRy := Lib.hid (HRy.out.below hB17)
        replace HI1 := Lib.hid (HI1.out.below hB17)
        replace HI2 := Lib.hid (HI2.out.below hB17)
        clear Hc hB17 HB16'
        go_upto_region 21 with fail
        have X0 := Lib.hid x0
        have X1 := Lib.hid x1
        have HNQ := Lib.hid run_neqR
        have HN37 := Lib.hid hneq
        clear x0 x1 y0 y1 z0 z1 HI3 hneq
        go_wp2
        go_loopw [27] (fun i wr => ∃ m : Nat, m ≤ sz.length ∧ i = .int .i64 m ∧ Below w17.heap.size w17 wr) (fun i _ => sz.length - (intOf i).toNat)
        case atStart => exact ⟨0, by omega, rfl, Below.refl _ _⟩
        case round =>
          obtain ⟨m, hm, rfl, hB⟩ := hrel
          have HB18 := Lib.hid hB
          clear hB
          by_cases hmn : m < sz.length
          · obtain ⟨q, hq⟩ : ∃ q, q = sz.length - 1 := ⟨_, rfl⟩
            obtain ⟨p, hp⟩ : ∃ p, p = q - m := ⟨_, rfl⟩
            have hpn : p < sz.length := by omega
            have hmx : m < sx.length := by rw [HSXL.out]; exact hmn
            have hwq : IntKind.i64.wrap ((sz.length : Int) - 1) = (q : Int) := by rw [show (sz.length : Int) - 1 = (q : Int) by omega]; exact IntWalk.i64_in _ (by omega)
            have hwp : IntKind.i64.wrap ((q : Int) - (m : Int)) = (p : Int) := by rw [show (q : Int) - (m : Int) = (p : Int) by omega]; exact IntWalk.i64_in _ (by omega)
            obtain ⟨bs, os, hbs, q1, q2⟩ := RangesAt.at_ (HI1.out.below HB18.out) hpn
            obtain ⟨bx, ox, hbx, q3, q4⟩ := RangesAt.at_ (HI2.out.below HB18.out) hmx
            have hce := HIS.out.cents HG.out _ (List.getElem_mem hpn)
            have hsxm : sx[m] = (10000 - sz[p].2, 10000 - sz[p].1) := by
              have h1 : (sz.map turnedR).reverse[m]'(by rw [List.length_reverse, List.length_map]; exact hmn) = turnedR sz[p] := by
                rw [List.getElem_reverse, List.getElem_map]; congr 2; rw [List.length_map]; omega
              have h2 : sx[m] = (sz.map turnedR).reverse[m]'(by rw [List.length_reverse, List.length_map]; exact hmn) := by simp only [HSX.out]
              rw [h2, h1]; rfl
            rw [hsxm] at q3 q4
            generalize sz[p] = r at q1 q2 q3 q4 hce
            obtain ⟨r1, r2⟩ := r
            dsimp only at q1 q2 q3 q4 hce
            have hwa : IntKind.i64.wrap (10000 - r2) = 10000 - r2 := IntWalk.i64_in _ (by omega)
            have hwb : IntKind.i64.wrap (10000 - r1) = 10000 - r1 := IntWalk.i64_in _ (by omega)
            obtain ⟨s1, hs1⟩ : ∃ s, 10000 - r2 = s := ⟨_, rfl⟩
            obtain ⟨s2, hs2⟩ : ∃ s, 10000 - r1 = s := ⟨_, rfl⟩
            rw [hs1] at q3 hwa
            rw [hs2] at q4 hwb
            have hrg := fun W => Hrg.out s1 s2 W
            have hne := fun W => HNQ.out s1 s2 s1 s2 W
            rw [show neqRB s1 s2 s1 s2 = false by simp [neqRB]] at hne
            subst hbs
            subst hbx
            clear hsxm hp hq hce
            obtain ⟨w18, hw18⟩ : ∃ w18, w18 = wr := ⟨_, rfl⟩
            subst hw18
            go_upto_region 24 with fail
            go_cut [208] (fun s wx => s = .bool false ∧ Hid (Below w18.heap.size w18 wx))
            case first =>
              as_aux_lemma =>
                go_region_held3 (fun W => W.cell? ⟨bs, os + p * 2, none⟩ = some (.int .i64 r1) ∧ W.cell? ⟨bs, os + p * 2 + 1, none⟩ = some (.int .i64 r2) ∧ W.cell? ⟨bx, ox + m * 2, none⟩ = some (.int .i64 s1) ∧ W.cell? ⟨bx, ox + m * 2 + 1, none⟩ = some (.int .i64 s2))
                  (first | exact ⟨q1, q2, q3, q4⟩ | exact ⟨cell_below hBc q1, cell_below hBc q2, cell_below hBc q3, cell_below hBc q4⟩)
                  (first | (go_at_call 33; refine (hrg _).mono ?_; rintro e wc ⟨v, rfl, rfl, hBc⟩; replace hBc : Below w18.heap.size w18 wc := (by first | exact below_drew_of (Below.refl _ _) hBc | exact hBc)))
                all_goals (go_wp2_with fail; go_meet; exact ⟨rfl, Lib.hid hBc⟩)
            case rest =>
              obtain ⟨rfl, HBc⟩ := hcut
              clear q1 q2 q3 q4 hrg hne hwa hwb hwq hwp hs1 hs2
              go_wp2
              go_roundw
              case rel => exact ⟨m + 1, by omega, by go_num, below_trans' HB18.out HBc.out⟩
              case measure => simp [intOf]; omega
          · have hml : m = sz.length := by omega
            subst hml
            obtain ⟨w19, hw19⟩ : ∃ w19, w19 = wr := ⟨_, rfl⟩
            subst hw19
            have x0 := cell_below HB18.out X0.out
            have x1 := cell_below HB18.out X1.out
            replace HRy := Lib.hid (HRy.out.below HB18.out)
            replace HI1 := Lib.hid (HI1.out.below HB18.out)
            have HB19 := Lib.hid (below_trans' HB17.out HB18.out)
            have hf := fine_any Ay cy ys w19 HRy.out (by rw [HYL.out]; omega)
            rw [HYL.out] at hf
            clear HB18 X0 X1 HI2 HSX HSXL hmn
            by_cases hy0 : songErr ys = 0
            · rw [show (decide (l.length ≤ 30) && decide (songErr ys = 0)) = true by simp [hy0]; omega] at hf
              have Hf := Lib.hid hf
              have HY0 := Lib.hid hy0
              clear hf hy0
              have Hc := Lib.hid (Hf.out)
              go_wp2_with fail
              refine Hc.out.mono ?_
              rintro e w20 ⟨v, rfl, rfl, hq20⟩
              have hB20 : Below w19.heap.size w19 w20 := by obtain ⟨q, rfl⟩ := hq20; exact below_drewN (Below.refl _ _) _
              clear hq20
              have HB20 := Lib.hid (below_trans' HB19.out hB20)
              replace HRy := Lib.hid (HRy.out.below hB20)
              replace HI1 := Lib.hid (HI1.out.below hB20)
              replace x0 := cell_below hB20 x0
              replace x1 := cell_below hB20 x1
              clear hB20 Hc
              clear Hf
              have hk1 := spans_any Ay cy ys w20 HRy.out (by rw [HYL.out]; omega)
              rw [HYL.out] at hk1
              have HK := Lib.hid hk1
              clear hk1
              have Hc := Lib.hid (HK.out)
              go_wp2_with fail
              refine Hc.out.mono ?_
              rintro e w21 ⟨v, rfl, h21, hB21⟩
              have HB21 := Lib.hid (below_trans' HB20.out hB21)
              replace HRy := Lib.hid (HRy.out.below hB21)
              replace HI1 := Lib.hid (HI1.out.below hB21)
              replace x0 := cell_below hB21 x0
              replace x1 := cell_below hB21 x1
              clear hB21 Hc
              clear HK
              rcases h21 with h21 | ⟨_, ts, us, B4, c4, sy, hts, hus, hsp, rfl, hsc, hI4⟩
              · exact absurd HY0.out h21.1
              have hsy : sy = sz.map (upR up) := IsSpans.up HG.out (by rw [← HYS.out]; exact song_GoodR HY0.out) HIS.out (by rw [← HYS.out]; exact ⟨ts, us, hts, hus, hsp⟩)
              have HI4 : Hid (RangesAt w21 B4 sy) := Lib.hid hI4
              have hsyl : sy.length = sz.length := by rw [hsy, List.length_map]
              have HSY := Lib.hid hsy
              have HSYL := Lib.hid hsyl
              rw [hsyl]
              clear hts hus hsp hsc hI4 hsy hsyl
              have hk1 := share_any Ay cy ys i k w21 HRy.out (by rw [HYL.out]; omega) (by rw [HYL.out]; exact hcy)
              rw [HYL.out] at hk1
              have HK := Lib.hid hk1
              clear hk1
              have Hc := Lib.hid (HK.out)
              go_wp2_with fail
              refine Hc.out.mono ?_
              rintro e w22 ⟨v, rfl, ⟨a4, b4, e4, rfl, hsh4⟩, hB22⟩
              have HB22 := Lib.hid (below_trans' HB21.out hB22)
              replace HI1 := Lib.hid (HI1.out.below hB22)
              replace HI4 := Lib.hid (HI4.out.below hB22)
              replace x0 := cell_below hB22 x0
              replace x1 := cell_below hB22 x1
              clear hB22 Hc
              clear HK
              obtain ⟨rfl, rfl, rfl⟩ := shares_up H0.out hil hkl HYS.out HY0.out HSH.out hsh4
              have v0 : (w22.alloc (.cells #[.bool a4, .bool b4] 37)).cell? ⟨w22.heap.size, 0, none⟩ = some (.bool a4) := new2_0 _ _ _ _
              have v1 : (w22.alloc (.cells #[.bool a4, .bool b4] 37)).cell? ⟨w22.heap.size, 1, none⟩ = some (.bool b4) := new2_1 _ _ _ _
              replace x0 := cell_alloc x0 (.cells #[.bool a4, .bool b4] 37)
              replace x1 := cell_alloc x1 (.cells #[.bool a4, .bool b4] 37)
              have hneq := HN37.out
              clear hsh4
              go_upto_region 32 with fail
              obtain ⟨w23, hw23⟩ : ∃ w23, w23 = w22.alloc (.cells #[.bool a4, .bool b4] 37) := ⟨_, rfl⟩
              have HB23 : Hid (Below w.heap.size w w23) := Lib.hid (by rw [hw23]; exact below_alloc' HB22.out _)
              replace HI1 : Hid (RangesAt w23 B1 sz) := Lib.hid (by rw [hw23]; exact HI1.out.alloc _)
              replace HI4 : Hid (RangesAt w23 B4 sy) := Lib.hid (by rw [hw23]; exact HI4.out.alloc _)
              rw [← hw23]
              clear hw23 x0 x1 v0 v1 hneq
              go_wp2
              go_loopw [30] (fun i wr => ∃ m : Nat, m ≤ sz.length ∧ i = .int .i64 m ∧ Below w23.heap.size w23 wr) (fun i _ => sz.length - (intOf i).toNat)
              case atStart => exact ⟨0, by omega, rfl, Below.refl _ _⟩
              case round =>
                obtain ⟨m, hm, rfl, hB⟩ := hrel
                have HB24 := Lib.hid hB
                clear hB
                by_cases hmn : m < sz.length
                · have hmy : m < sy.length := by rw [HSYL.out]; exact hmn
                  obtain ⟨bs, os, hbs, q1, q2⟩ := RangesAt.at_ (HI1.out.below HB24.out) hmn
                  obtain ⟨bx, ox, hbx, q3, q4⟩ := RangesAt.at_ (HI4.out.below HB24.out) hmy
                  have hce := HIS.out.cents HG.out _ (List.getElem_mem hmn)
                  have hsym : sy[m] = (sz[m].1 + up, sz[m].2 + up) := by
                    have h2 : sy[m] = (sz.map (upR up))[m]'(by rw [List.length_map]; exact hmn) := by simp only [HSY.out]
                    rw [h2, List.getElem_map]; rfl
                  rw [hsym] at q3 q4
                  generalize sz[m] = r at q1 q2 q3 q4 hce
                  obtain ⟨r1, r2⟩ := r
                  dsimp only at q1 q2 q3 q4 hce
                  have hwa : IntKind.i64.wrap (r1 + up) = r1 + up := IntWalk.i64_in _ (by omega)
                  have hwb : IntKind.i64.wrap (r2 + up) = r2 + up := IntWalk.i64_in _ (by omega)
                  obtain ⟨s1, hs1⟩ : ∃ s, r1 + up = s := ⟨_, rfl⟩
                  obtain ⟨s2, hs2⟩ : ∃ s, r2 + up = s := ⟨_, rfl⟩
                  rw [hs1] at q3 hwa
                  rw [hs2] at q4 hwb
                  have hrg := fun W => Hrg.out s1 s2 W
                  have hne := fun W => HNQ.out s1 s2 s1 s2 W
                  rw [show neqRB s1 s2 s1 s2 = false by simp [neqRB]] at hne
                  subst hbs
                  subst hbx
                  clear hsym hce
                  obtain ⟨w24, hw24⟩ : ∃ w24, w24 = wr := ⟨_, rfl⟩
                  subst hw24
                  go_upto_region 35 with fail
                  go_cut [270] (fun s wx => s = .bool false ∧ Hid (Below w24.heap.size w24 wx))
                  case first =>
                    as_aux_lemma =>
                      go_region_held3 (fun W => W.cell? ⟨bs, os + m * 2, none⟩ = some (.int .i64 r1) ∧ W.cell? ⟨bs, os + m * 2 + 1, none⟩ = some (.int .i64 r2) ∧ W.cell? ⟨bx, ox + m * 2, none⟩ = some (.int .i64 s1) ∧ W.cell? ⟨bx, ox + m * 2 + 1, none⟩ = some (.int .i64 s2))
                        (first | exact ⟨q1, q2, q3, q4⟩ | exact ⟨cell_below hBc q1, cell_below hBc q2, cell_below hBc q3, cell_below hBc q4⟩)
                        (first | (go_at_call 33; refine (hrg _).mono ?_; rintro e wc ⟨v, rfl, rfl, hBc⟩; replace hBc : Below w24.heap.size w24 wc := (by first | exact below_drew_of (Below.refl _ _) hBc | exact hBc)))
                      all_goals (go_wp2_with fail; go_meet; exact ⟨rfl, Lib.hid hBc⟩)
                  case rest =>
                    obtain ⟨rfl, HBc⟩ := hcut
                    clear q1 q2 q3 q4 hrg hne hwa hwb hs1 hs2
                    go_wp2
                    go_roundw
                    case rel => exact ⟨m + 1, by omega, by go_num, below_trans' HB24.out HBc.out⟩
                    case measure => simp [intOf]; omega
                · have HBz := Lib.hid (below_trans' HB23.out HB24.out)
                  go_wp2_with fail
                  refine (works_any _).mono ?_
                  rintro e wz ⟨v, rfl, rfl, hBz⟩
                  go_wp2
                  go_ret
                  exact Ret.mk' rfl ⟨rfl, below_trans' HBz.out hBz⟩
            · rw [show (decide (l.length ≤ 30) && decide (songErr ys = 0)) = false by simp [hy0]] at hf
              have Hf := Lib.hid hf
              clear hf hy0
              have Hc := Lib.hid (Hf.out)
              go_wp2_with fail
              refine Hc.out.mono ?_
              rintro e w20 ⟨v, rfl, rfl, hq20⟩
              have hB20 : Below w19.heap.size w19 w20 := by obtain ⟨q, rfl⟩ := hq20; exact below_drewN (Below.refl _ _) _
              clear hq20
              have HB20 := Lib.hid (below_trans' HB19.out hB20)
              clear hB20 Hc
              go_wp2_with fail
              refine (works_any _).mono ?_
              rintro e wz ⟨v, rfl, rfl, hBz⟩
              go_wp2
              go_ret
              exact Ret.mk' rfl ⟨rfl, below_trans' HB20.out hBz⟩
  · rw [show (decide (l.length ≤ 30) && decide (songErr l = 0)) = false by simp [h0]] at hf
    have Hf := Lib.hid hf
    clear hf h0 hn
    go_wp2_with fail
    refine Hf.out.mono ?_
    rintro e w1 ⟨v, rfl, rfl, hq1⟩
    have HB1 : Hid (Below w.heap.size w w1) := Lib.hid (by obtain ⟨q, rfl⟩ := hq1; exact below_drewN (below_alloc' (Below.refl _ _) _) _)
    clear hq1 Hf
    go_wp2_with fail
    refine (works_any _).mono ?_
    rintro e wz ⟨v, rfl, rfl, hBz⟩
    go_wp2
    go_ret
    exact Ret.mk' rfl ⟨rfl, below_trans' HB1.out hBz⟩
end Go.Proofs.Ytkjmeeggjmeajaa
