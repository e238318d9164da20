/- ref: Size. -/
import Derived.Test.YtoogfdicmpkkgaaC6
import Derived.Test.YtoogfdicmpkkgaaPS
import Derived.BigRegion
namespace Go.Proofs.Ytoogfdicmpkkgaa
open Go.RowKit Go.Shelf Go.Maps Match

/-- free links of left items below i -/
def Stage (s : Sh) (i : Nat) (x : Pr) : Prop := FreeE s.l (pairsK s) x ∧ x.1 < (i : Int)
/-- and of the first k links those of the item i -/
def Part (s : Sh) (i k : Nat) (x : Pr) : Prop := FreeE s.l (pairsK s) x ∧ (x.1 < (i : Int) ∨ x.1 = (i : Int) ∧ ∃ j : Nat, j < k ∧ atL s.l j = x)
theorem part_zero {s : Sh} {i : Nat} (x : Pr) : Stage s i x ↔ Part s i 0 x := by
  unfold Stage Part
  constructor
  · rintro ⟨h1, h2⟩; exact ⟨h1, .inl h2⟩
  · rintro ⟨h1, h2 | ⟨_, j, hj, _⟩⟩
    · exact ⟨h1, h2⟩
    · omega
theorem part_all {s : Sh} {i : Nat} (x : Pr) : Part s i s.l.length x ↔ Stage s (i + 1) x := by
  unfold Stage Part
  constructor
  · rintro ⟨h1, h2 | ⟨h2, _⟩⟩
    · exact ⟨h1, by omega⟩
    · exact ⟨h1, by omega⟩
  · rintro ⟨h1, h2⟩
    refine ⟨h1, ?_⟩
    by_cases c : x.1 < (i : Int)
    · exact .inl c
    · obtain ⟨j, hj, e⟩ := atL_of_mem h1.1
      exact .inr ⟨by omega, j, hj, e⟩
theorem part_miss {s : Sh} {i k : Nat} (hk : k < s.l.length) (h : ¬ ((atL s.l k).1 = (i : Int) ∧ freeP s k = true)) (x : Pr) : Part s i k x ↔ Part s i (k + 1) x := by
  unfold Part
  constructor
  · rintro ⟨h1, h2 | ⟨h2, j, hj, e⟩⟩
    · exact ⟨h1, .inl h2⟩
    · exact ⟨h1, .inr ⟨h2, j, by omega, e⟩⟩
  · rintro ⟨h1, h2 | ⟨h2, j, hj, e⟩⟩
    · exact ⟨h1, .inl h2⟩
    · refine ⟨h1, .inr ⟨h2, j, ?_, e⟩⟩
      rcases Nat.lt_succ_iff_lt_or_eq.1 hj with hj | rfl
      · exact hj
      · exact absurd ⟨by rw [e]; exact h2, (free_pair hk).2 (by rw [e]; exact h1)⟩ h
theorem part_hit {s : Sh} {i k : Nat} (hk : k < s.l.length) (h1 : (atL s.l k).1 = (i : Int)) (h2 : freeP s k = true) (x : Pr) : Part s i (k + 1) x ↔ Part s i k x ∨ x = atL s.l k := by
  unfold Part
  constructor
  · rintro ⟨g1, g2 | ⟨g2, j, hj, e⟩⟩
    · exact .inl ⟨g1, .inl g2⟩
    · rcases Nat.lt_succ_iff_lt_or_eq.1 hj with hj | rfl
      · exact .inl ⟨g1, .inr ⟨g2, j, hj, e⟩⟩
      · exact .inr e.symm
  · rintro (⟨g1, g2 | ⟨g2, j, hj, e⟩⟩ | rfl)
    · exact ⟨g1, .inl g2⟩
    · exact ⟨g1, .inr ⟨g2, j, by omega, e⟩⟩
    · exact ⟨(free_pair hk).1 h2, .inr ⟨h1, k, by omega, rfl⟩⟩
theorem Sheet.right {s : Sh} (h : Sheet s.L s.R s.l s.t) {r0 : Nat} (hr : s.R = (r0 : Int)) {x : Pr} (hx : x ∈ s.l) : 0 ≤ x.2 ∧ x.2 < r0 := by
  have := h.links x hx
  omega
/-- a round over one link -/
theorem Sheet.stage_more {s : Sh} (h : Sheet s.L s.R s.l s.t) {r0 i k r : Nat} {f f' : Nat → Int} (hr : s.R = (r0 : Int)) (hk : k < s.l.length) (h1 : (atL s.l k).1 = (i : Int)) (h2 : freeP s k = true) (hx : (atL s.l k).2 = (r : Int)) (hrr : r < r0)
    (hf : BestF r0 (Stage s i) f) (hf' : BestF r0 (Part s i k) f') : BestF r0 (Part s i (k + 1)) (stepM f r (2 ^ r0) f') := by
  refine BestF.more hf hf' hx hrr (fun y hy => h.right hr hy.1.1) (fun y hy => ⟨⟨hy.1, .inl hy.2⟩, by rw [h1]; have := hy.2; omega⟩) (fun y hy hne => ?_) (part_hit hk h1 h2)
  rw [h1] at hne
  rcases hy.2 with h3 | ⟨h3, _⟩
  · exact ⟨hy.1, h3⟩
  · exact absurd h3 hne
theorem Sheet.stage_all {s : Sh} (h : Sheet s.L s.R s.l s.t) {r0 : Nat} {f : Nat → Int} (hr : s.R = (r0 : Int)) (hf : BestF r0 (Stage s s.L.toNat) f) : topF f (2 ^ r0) = (mostS s : Int) := by
  refine (hf.congr (E' := FreeE s.l (pairsK s)) (fun x => ⟨fun hx => hx.1, fun hx => ⟨hx, ?_⟩⟩) fun _ _ => rfl).top (fun y hy => h.right hr hy.1) h.most_free
  have := h.links x hx.1
  have := h.dim
  omega
theorem BestF.le {R : Nat} {E : Pr → Prop} {f : Nat → Int} {l : List Pr} (h : BestF R E f) (hE : ∀ y, E y → y ∈ l) {m : Nat} (hm : m < 2 ^ R) : f m ≤ l.length := by
  rcases h m hm with ⟨M, h1, _, h3⟩ | ⟨h1, _⟩
  · have := nodup_leP M l h1.nodup fun x hx => hE x (h1.links x hx)
    omega
  · omega
theorem own_arr {w : World} {base g P c : Nat} {f : Nat → Int} (h : w.ownsRow base 3 1 (.slice (some ⟨g, 0, none⟩) P c) P ((List.range P).map fun j => Value.int .i64 (f j))) : Arr w g 0 P f := fun i hi => by
  have h1 := h.cellAt i (by omega)
  have h2 := h.frozenAt i
  rw [Nat.zero_add]
  exact ⟨by rw [h1]; simp [hi], h2⟩
theorem arr_news {w : World} {g P : Nat} {f : Nat → Int} (h : Arr w g 0 P f) : ∀ j u, ((List.range P).map fun j => Value.int .i64 (f j))[j]? = some u → w.cell? ((⟨g, 0, none⟩ : Addr).add j) = some u := fun j u hj => by
  have hlt : j < P := by have := (List.getElem?_eq_some_iff.1 hj).1; simpa using this
  have h1 := (h j hlt).1
  simp [hlt] at hj
  have hadd : (⟨g, 0, none⟩ : Addr).add j = ⟨g, 0 + j, none⟩ := by unfold Addr.add; split <;> simp_all
  rw [hadd, h1, hj]
theorem arr_one (P : Nat) (f : Nat → Int) : ∀ u ∈ (List.range P).map (fun j => Value.int .i64 (f j)), u.oneCell' = true := fun u hu => by
  obtain ⟨j, _, rfl⟩ := List.mem_map.1 hu; rfl
theorem arr_flen (P : Nat) (f : Nat → Int) : ((List.range P).map (fun j => Value.int .i64 (f j))).length = P * 1 := by simp
set_option maxRecDepth 100000 in
set_option maxHeartbeats 4000000 in
theorem size_any (s : Sh) (w : World) (hs : ShAt w s) (hv : Sheet s.L s.R s.l s.t) :
    Calls Try.prog 24 #[s.v] w (Ret fun v w' => v = .int .i64 ((mostS s + s.t.length : Nat) : Int) ∧ Below w.heap.size w w') := by
  obtain ⟨L, R, A, ca, B, cb, l, t⟩ := s
  have HS := Lib.hid hs
  have HV := Lib.hid hv
  have hdim := hv.dim
  have hmany := hv.many
  have hfew := hs.few
  clear hs hv
  unfold Sh.v vSheet
  dsimp only at hdim hmany hfew ⊢
  obtain ⟨r0, rfl⟩ : ∃ r0 : Nat, R = (r0 : Int) := ⟨R.toNat, by omega⟩
  obtain ⟨n0, rfl⟩ : ∃ n0 : Nat, L = (n0 : Int) := ⟨L.toNat, by omega⟩
  obtain ⟨d1, d2, d3, d4⟩ := hdim
  obtain ⟨P, hPe⟩ : ∃ P, 2 ^ r0 = P := ⟨_, rfl⟩
  have hP : P ≤ 4096 := by
    rw [← hPe]
    have : 2 ^ r0 ≤ 2 ^ 12 := Nat.pow_le_pow_right (by omega) (by omega)
    omega
  have hP0 : 0 < P := by rw [← hPe]; exact Nat.two_pow_pos _
  have hw1 : IntKind.i64.wrap (2 ^ r0) = (P : Int) := by
    rw [show (2 : Int) ^ r0 = ((2 ^ r0 : Nat) : Int) by simp, hPe]
    exact IntWalk.i64_in _ (by omega)
  have hw2 : wrap64 (2 ^ r0) = (P : Int) := by rw [← IntWalk.i64_left]; exact hw1
  have HP := Lib.hid hPe
  clear hPe
  obtain ⟨w0, hw0⟩ : ∃ w0, w0 = w.alloc (.cells #[.int .i64 n0, .int .i64 r0, .slice A l.length ca, .slice B t.length cb] 25) := ⟨_, rfl⟩
  have HB0 : Hid (Below w.heap.size w w0) := Lib.hid (by rw [hw0]; exact below_alloc' (Below.refl _ _) _)
  have hX : w0.heap[w.heap.size]? = some (.cells #[.int .i64 n0, .int .i64 r0, .slice A l.length ca, .slice B t.length cb] 25 (0, 0)) := by rw [hw0]; exact heap_alloc_new _ _
  have y1 : w0.cell? ⟨w.heap.size, 1, none⟩ = some (.int .i64 r0) := (blk_cell hX).trans rfl
  have hs0 : w0.heap.size = w.heap.size + 1 := by rw [hw0]; exact World.size_alloc _ _
  have hmk := fun w => run_make_row' (P := Try.prog) 23 3 (.int .i64 0) 8 Try.underlying23 infoI3 rfl .i64 .i64 P (by omega) (by omega) w
  obtain ⟨zs, hzs⟩ : ∃ zs : Array Value, zs = madeCells #[.int .i64 0] P := ⟨_, rfl⟩
  rw [← hzs] at hmk
  have HA0 : Hid (Arr (w0.alloc (.cells zs 3)) w0.heap.size 0 P (fun j => if j < 0 then -1 else 0)) := Lib.hid fun i hi => by
    refine ⟨(blk_cell (heap_alloc_new w0 (.cells zs 3))).trans ?_, new_frozen _ _ _ _⟩
    rw [hzs, Nat.zero_add, ← Array.getElem?_toList, toList_madeCells_one, List.getElem?_replicate, if_pos hi]
    rfl
  have HB1 : Hid (Below w.heap.size w (w0.alloc (.cells zs 3))) := Lib.hid (below_alloc' HB0.out _)
  have hX1 := blk_alloc hX (.cells zs 3)
  have hs1 : w.heap.size + 1 < (w0.alloc (.cells zs 3)).heap.size := by rw [World.size_alloc]; omega
  clear hzs
  rw [hw0] at y1
  go_enter Try.func24, Try.ntmps24
  go_upto_region 2 with fail
  rw [← hw0]
  clear hmk y1 hw1 hw2
  generalize w0.alloc (.cells zs 3) = w1 at *
  obtain ⟨bI, hbI⟩ : ∃ bI, bI = w0.heap.size := ⟨_, rfl⟩
  have hbI1 : bI = w.heap.size + 1 := by omega
  rw [← hbI] at HA0
  rw [show w.heap.size + 1 = bI by omega] at hs1 ⊢
  have hbl : w.heap.size < bI := by omega
  clear hw0 HB0 hX hs0 hbI hbI1
  go_wp2
  go_loopw [4] (fun i wr => ∃ k : Nat, k ≤ P ∧ i = .int .i64 k ∧ Hid (Arr wr bI 0 P (fun j => if j < k then -1 else 0)) ∧ wr.heap[w.heap.size]? = some (.cells #[.int .i64 n0, .int .i64 r0, .slice A l.length ca, .slice B t.length cb] 25 (0, 0)) ∧ Hid (Below w.heap.size w wr) ∧ bI < wr.heap.size) (fun i _ => P - (intOf i).toNat)
  case atStart => exact ⟨0, by omega, rfl, HA0, hX1, HB1, hs1⟩
  case round =>
    clear hX1 HA0 HB1 hs1
    obtain ⟨k, hk, rfl, HA, hX, HB, hsz⟩ := hrel
    by_cases hkn : k < P
    · have m1 := (HA.out k hkn).1
      have m2 := (HA.out k hkn).2
      rw [Nat.zero_add] at m1 m2
      have ik0 : (0 : Int) ≤ (k : Int) := by omega
      have ik1 : (k : Int) < (P : Int) := by omega
      have hA3 := HA.out.set hkn (-1)
      rw [Nat.zero_add] at hA3
      have HA3 : Hid (Arr (wr.setCell ⟨bI, k, none⟩ (.int .i64 (-1))) bI 0 P (fun j => if j < k + 1 then -1 else 0)) := Lib.hid (hA3.congr fun j _ => by
        by_cases e : j = k
        · rw [if_pos e, if_pos (by omega)]
        · rw [if_neg e]
          by_cases e2 : j < k
          · rw [if_pos e2, if_pos (by omega)]
          · rw [if_neg e2, if_neg (by omega)])
      have hX3 := blk_far (p := ⟨bI, k, none⟩) hX (by dsimp only; omega) (.int .i64 (-1))
      have HB3 := Lib.hid (HB.out.setCell (p := ⟨bI, k, none⟩) (Nat.le_of_lt hbl) (.int .i64 (-1)))
      clear hA3
      go_wp2
      go_roundw
      case rel => exact ⟨k + 1, by omega, by go_num, HA3, hX3, HB3, by simp; omega⟩
      case measure => simp [intOf]; omega
    · have hke : k = P := by omega
      subst hke
      have m1 := (HA.out 0 hP0).1
      have m2 := (HA.out 0 hP0).2
      rw [Nat.zero_add] at m1 m2
      have ip : (0 : Int) < (k : Int) := by omega
      have hA3 := HA.out.set hP0 0
      rw [Nat.zero_add] at hA3
      have HA3 : Hid (Arr (wr.setCell ⟨bI, 0, none⟩ (.int .i64 0)) bI 0 k (fun m => if m = 0 then 0 else -1)) := Lib.hid (hA3.congr fun j hj => by
        by_cases e : j = 0
        · rw [if_pos e, if_pos e]
        · rw [if_neg e, if_neg e, if_pos hj])
      have hX3 := blk_far (p := ⟨bI, 0, none⟩) hX (by dsimp only; omega) (.int .i64 0)
      have HB3 := Lib.hid (HB.out.setCell (p := ⟨bI, 0, none⟩) (Nat.le_of_lt hbl) (.int .i64 0))
      have HF0 : Hid (BestF r0 (Stage ⟨n0, r0, A, ca, B, cb, l, t⟩ 0) (fun m => if m = 0 then 0 else -1)) := Lib.hid ((BestF.start r0).congr (fun x => ⟨fun h => h.elim, fun h => by
        have h1 := HV.out.links x h.1.1
        have h2 := h.2
        try dsimp only at h1
        omega⟩) fun _ _ => rfl)
      clear hA3
      go_upto_region 7 with fail
      obtain ⟨P, rfl⟩ : ∃ P, P = k := ⟨_, rfl⟩
      have hs3 : bI < (wr.setCell ⟨bI, 0, none⟩ (.int .i64 0)).heap.size := by simp; omega
      generalize wr.setCell ⟨bI, 0, none⟩ (.int .i64 0) = w3 at *
      clear hX HB HA m1 m2 hsz hk hkn
      go_wp2
      go_loopw [3, 5] (fun bv iv wr => ∃ (i g c : Nat) (f : Nat → Int), i ≤ n0 ∧ iv = .int .i64 i ∧ bv = .slice (some ⟨g, 0, none⟩) P c ∧ Hid (Arr wr g 0 P f) ∧ Hid (BestF r0 (Stage ⟨n0, r0, A, ca, B, cb, l, t⟩ i) f) ∧ wr.heap[w.heap.size]? = some (.cells #[.int .i64 n0, .int .i64 r0, .slice A l.length ca, .slice B t.length cb] 25 (0, 0)) ∧ Hid (Below w.heap.size w wr) ∧ w.heap.size < g ∧ g < wr.heap.size) (fun _ iv _ => n0 - (intOf iv).toNat)
      case atStart => exact ⟨0, bI, P, _, by omega, rfl, rfl, HA3, HF0, hX3, HB3, hbl, hs3⟩
      case round =>
        clear HA3 HF0 hX3 HB3 hbl hs3
        obtain ⟨i, g, c, f, hi, rfl, rfl, HA, HF, hX, HB, hwg, hsz⟩ := hrel
        have y0 : wr.cell? ⟨w.heap.size, 0, none⟩ = some (.int .i64 n0) := (blk_cell hX).trans rfl
        by_cases hin : i < n0
        · have ii0 : (0 : Int) ≤ (i : Int) := by omega
          have ii1 : (i : Int) < (n0 : Int) := by omega
          obtain ⟨i0, hi0, hz0, hz1, hz2⟩ := info_parts elemI3.info
          have HNW := Lib.hid (arr_news (HA.out.below (below_alloc' (Below.refl wr.heap.size wr) (.cells #[] 3))))
          have HON := Lib.hid (arr_one P f)
          have HLN := Lib.hid (arr_flen P f)
          go_upto_region 11 with (at_builtin; refine wpList_append_own _ rfl (.tmp 33) (.tmp 34) 23 rfl wr.heap.size 3 i0 (.int .i64 0) 1 8 Try.underlying23 hi0 hz0 hz1 hz2 rfl (by omega) _ 0 [] rfl (World.ownsRow_made wr #[] 0 (Nat.le_refl _) (Nat.zero_le _) (by simp)) ⟨g, 0, none⟩ P c _ rfl HLN.out HNW.out HON.out (by simp only [maxLen]; omega) (by omega) (by simp) ?_; intro v' w4 hown hgrow _)
          rw [Nat.zero_add, List.nil_append] at hown
          obtain ⟨g2, c2, rfl, hg2, hg2s⟩ := hown.form hP0
          have HA2 := Lib.hid (own_arr hown)
          have hBw : Below wr.heap.size wr w4 := (below_alloc' (Below.refl _ _) _).grown hgrow (by simp) (fun r e => by injection e with e; exact Nat.le_of_eq e)
          have HA4 := Lib.hid (HA.out.below hBw)
          have hX4 := blk_below hBw hX
          have HB4 := Lib.hid (below_trans' HB.out hBw)
          have hgs := hBw.size
          have hgg : g < g2 := by omega
          have HF2 := Lib.hid (HF.out.congr (E' := Part ⟨n0, r0, A, ca, B, cb, l, t⟩ i 0) part_zero fun _ _ => rfl)
          clear hown hgrow hBw HA hX HB y0 hsz HNW HON HLN
          go_wp2
          go_loopw [7] (fun kv wr => ∃ (k : Nat) (f2 : Nat → Int), k ≤ l.length ∧ kv = .int .i64 k ∧ Hid (Arr wr g 0 P f) ∧ Hid (Arr wr g2 0 P f2) ∧ Hid (BestF r0 (Part ⟨n0, r0, A, ca, B, cb, l, t⟩ i k) f2) ∧ wr.heap[w.heap.size]? = some (.cells #[.int .i64 n0, .int .i64 r0, .slice A l.length ca, .slice B t.length cb] 25 (0, 0)) ∧ Hid (Below w.heap.size w wr) ∧ g2 < wr.heap.size) (fun kv _ => l.length - (intOf kv).toNat)
          case atStart => exact ⟨0, f, by omega, rfl, HA4, HA2, HF2, hX4, HB4, hg2s⟩
          case round =>
            clear HA4 HA2 HF2 hX4 HB4 hg2s
            obtain ⟨k, f2, hk, rfl, HA, HA2, HF2, hX, HB, hsz⟩ := hrel
            have y0 : wr.cell? ⟨w.heap.size, 0, none⟩ = some (.int .i64 n0) := (blk_cell hX).trans rfl
            have y1 : wr.cell? ⟨w.heap.size, 1, none⟩ = some (.int .i64 r0) := (blk_cell hX).trans rfl
            have y2 : wr.cell? ⟨w.heap.size, 2, none⟩ = some (.slice A l.length ca) := (blk_cell hX).trans rfl
            have y3 : wr.cell? ⟨w.heap.size, 3, none⟩ = some (.slice B t.length cb) := (blk_cell hX).trans rfl
            by_cases hkn : k < l.length
            · have ik0 : (0 : Int) ≤ (k : Int) := by omega
              have ik1 : (k : Int) < (l.length : Int) := by omega
              have HFE := Lib.hid (atL_eq (l := l) hkn)
              have hbd := HV.out.links l[k] (List.getElem_mem hkn)
              have Htk := Lib.hid (taken_any n0 r0 A B ca cb l t k wr ((HS.out.links).below HB.out) ((HS.out.known).below HB.out) (by omega) (fun x hx => Sheet.bound (s := ⟨n0, r0, A, ca, B, cb, l, t⟩) HV.out x hx) hkn)
              obtain ⟨b1, o1, rfl, p1, p2⟩ := (HS.out.links.below HB.out).at_ hkn
              try dsimp only at p1 p2 hbd
              generalize l[k] = x at p1 p2 HFE hbd
              obtain ⟨x1, x2⟩ := x
              dsimp only at p1 p2 hbd
              by_cases hx1 : x1 = (i : Int)
              · have dx : (x1 != (i : Int)) = false := by simpa using hx1
                go_wp2_with fail
                refine Htk.out.mono ?_
                rintro e w5 ⟨v, rfl, rfl, hb⟩
                replace HA := Lib.hid (HA.out.below hb)
                replace HA2 := Lib.hid (HA2.out.below hb)
                have HX := Lib.hid (blk_below hb hX)
                replace HB := Lib.hid (below_trans' HB.out hb)
                replace p1 := cell_below hb p1
                replace p2 := cell_below hb p2
                replace y2 := cell_below hb y2
                have hsz5 := hb.size
                clear hb Htk y0 y1 y3 hX
                cases htk : takenB l t k
                · have hfr : freeP ⟨n0, r0, some ⟨b1, o1, none⟩, ca, B, cb, l, t⟩ k = true := by show (!takenB l t k) = true; rw [htk]; rfl
                  obtain ⟨r, hr⟩ : ∃ r : Nat, x2 = (r : Int) := ⟨x2.toNat, by omega⟩
                  subst hr
                  have hrr : r < r0 := by omega
                  have HSM := Lib.hid (Sheet.stage_more (s := ⟨n0, r0, some ⟨b1, o1, none⟩, ca, B, cb, l, t⟩) HV.out rfl hkn (by rw [HFE.out]; exact hx1) hfr (by rw [HFE.out]) hrr HF.out HF2.out)
                  rw [HP.out] at HSM
                  obtain ⟨q, hq⟩ : ∃ q, 2 ^ r = q := ⟨_, rfl⟩
                  have hq12 : q ≤ 2048 := by
                    rw [← hq]
                    have : 2 ^ r ≤ 2 ^ 11 := Nat.pow_le_pow_right (by omega) (by omega)
                    omega
                  have HQ := Lib.hid hq
                  clear hq htk hfr HFE p1
                  have hw1 : IntKind.i64.wrap (2 ^ r) = (q : Int) := by
                    rw [show (2 : Int) ^ r = ((2 ^ r : Nat) : Int) by simp, HQ.out]
                    exact IntWalk.i64_in _ (by omega)
                  have hw2 : wrap64 (2 ^ r) = (q : Int) := by rw [← IntWalk.i64_left]; exact hw1
                  have HW1 := Lib.hid hw1
                  have HW2 := Lib.hid hw2
                  clear hw1 hw2
                  have hg2 : g2 < w5.heap.size := by omega
                  go_upto_region 17 with fail
                  go_wp2
                  clear p2 y2
                  go_loopw [9] (fun mv wq => ∃ m : Nat, m ≤ P ∧ mv = .int .i64 m ∧ Hid (Arr wq g 0 P f) ∧ Hid (Arr wq g2 0 P (stepM f r m f2)) ∧ Hid (wq.heap[w.heap.size]? = some (.cells #[.int .i64 n0, .int .i64 r0, .slice (some ⟨b1, o1, none⟩) l.length ca, .slice B t.length cb] 25 (0, 0))) ∧ Hid (Below w.heap.size w wq) ∧ g2 < wq.heap.size) (fun mv _ => P - (intOf mv).toNat)
                  case atStart => exact ⟨0, by omega, rfl, HA, Lib.hid (HA2.out.congr fun m _ => (stepM_zero f r f2 m).symm), HX, HB, hg2⟩
                  case round =>
                    clear HA HA2 HX HB hg2
                    obtain ⟨m, hm, rfl, HA, HA2, HX, HB, hg2⟩ := hrel
                    by_cases hmn : m < P
                    · have im0 : (0 : Int) ≤ (m : Int) := by omega
                      have im1 : (m : Int) < (P : Int) := by omega
                      have c1 := (HA.out m hmn).1
                      rw [Nat.zero_add] at c1
                      have hub := HF.out.le (fun y hy => hy.1.1) (show m < 2 ^ r0 by rw [HP.out]; exact hmn)
                      have hlb := HF.out.ge (show m < 2 ^ r0 by rw [HP.out]; exact hmn)
                      try dsimp only at hub
                      have HSH := fun h0 hb => stepM_hit (f0 := f) (r := r) (n := m) (f := f2) h0 hb
                      have HSO := stepM_old (f0 := f) (r := r) (n := m) (f := f2)
                      have HSN := fun h => stepM_miss (f0 := f) (r := r) (n := m) (f := f2) h
                      obtain ⟨fm, hfm⟩ : ∃ fm, f m = fm := ⟨_, rfl⟩
                      rw [hfm] at c1 hub hlb HSH HSN
                      have HSH := Lib.hid HSH
                      have HSO := Lib.hid HSO
                      have HSN := Lib.hid HSN
                      clear hfm
                      by_cases h0 : 0 ≤ fm
                      · obtain ⟨d, hd⟩ : ∃ d, m / 2 ^ r = d := ⟨_, rfl⟩
                        have hsq : (m : Int) / 2 ^ r = (d : Int) := by rw [← hd]; simp
                        have hbit : bit m r = decide (d % 2 = 1) := by unfold bit; rw [hd]
                        have HBI := Lib.hid hbit
                        clear hbit hd
                        by_cases hp : d % 2 = 1
                        · have hm2 : (d : Int) % 2 = 1 := by omega
                          have hm3 : (d : Int).tmod 2 = 1 := by rw [Int.tmod_eq_emod_of_nonneg (by omega)]; exact hm2
                          have HS3 : Hid (Arr wr g2 0 P (stepM f r (m + 1) f2)) := Lib.hid (HA2.out.congr fun j _ => (HSN.out (fun h => by have := h.2; rw [HBI.out, decide_eq_true hp] at this; cases this) j).symm)
                          go_wp2
                          go_roundw
                          case rel => exact ⟨m + 1, by omega, by go_num, HA, HS3, HX, HB, hg2⟩
                          case measure => simp [intOf]; omega
                        · have hm2 : (d : Int) % 2 = 0 := by omega
                          have hm3 : (d : Int).tmod 2 = 0 := by rw [Int.tmod_eq_emod_of_nonneg (by omega)]; exact hm2
                          have hbf : bit m r = false := by rw [HBI.out]; exact decide_eq_false hp
                          have hlt := put_lt hbf hrr (show m < 2 ^ r0 by rw [HP.out]; exact hmn)
                          have hor := bits_or_i64 m r (by omega) (by omega) hbf
                          rw [HP.out, HQ.out] at hlt
                          rw [HQ.out] at hor
                          have c2 := (HA2.out (m + q) hlt).1
                          have c3 := (HA2.out (m + q) hlt).2
                          rw [Nat.zero_add] at c2 c3
                          rw [show stepM f r m f2 (m + q) = f2 (m + q) by rw [← HQ.out]; exact HSO.out] at c2
                          have HHH := HSH.out h0 hbf
                          rw [HQ.out] at HHH
                          obtain ⟨v2, hv2⟩ : ∃ v2, f2 (m + q) = v2 := ⟨_, rfl⟩
                          rw [hv2] at c2 HHH
                          have HHH := Lib.hid HHH
                          have hA3 := HA2.out.set hlt (max v2 (fm + 1))
                          rw [Nat.zero_add] at hA3
                          have HA3 : Hid (Arr (wr.setCell ⟨g2, m + q, none⟩ (.int .i64 (max v2 (fm + 1)))) g2 0 P (stepM f r (m + 1) f2)) := Lib.hid (hA3.congr fun j _ => (HHH.out j).symm)
                          have HA1 := Lib.hid (HA.out.far_block (p := ⟨g2, m + q, none⟩) (by dsimp only; omega) (.int .i64 (max v2 (fm + 1))))
                          have HX3 := Lib.hid (blk_far (p := ⟨g2, m + q, none⟩) HX.out (by dsimp only; omega) (.int .i64 (max v2 (fm + 1))))
                          have HB3 := Lib.hid (HB.out.setCell (p := ⟨g2, m + q, none⟩) (by dsimp only; omega) (.int .i64 (max v2 (fm + 1))))
                          have ix0 : (0 : Int) ≤ ((m + q : Nat) : Int) := by omega
                          have ix1 : ((m + q : Nat) : Int) < (P : Int) := by omega
                          have hw1 := HW1.out
                          have hw2 := HW2.out
                          clear hA3 hv2 hbf HHH
                          go_upto_region 20 with fail
                          clear hsq hm2 hm3
                          go_big_region
                          have HA1' : Hid (Arr ((wr.setCell ⟨g2, m + q, none⟩ (.int .i64 (max v2 (fm + 1)))).drew) g 0 P f) := Lib.hid HA1.out
                          have HA3' : Hid (Arr ((wr.setCell ⟨g2, m + q, none⟩ (.int .i64 (max v2 (fm + 1)))).drew) g2 0 P (stepM f r (m + 1) f2)) := Lib.hid HA3.out
                          have HX3' : Hid (((wr.setCell ⟨g2, m + q, none⟩ (.int .i64 (max v2 (fm + 1)))).drew).heap[w.heap.size]? = some (.cells #[.int .i64 n0, .int .i64 r0, .slice (some ⟨b1, o1, none⟩) l.length ca, .slice B t.length cb] 25 (0, 0))) := Lib.hid HX3.out
                          have HB3' := Lib.hid HB3.out.drew
                          clear hor hw1 hw2 c1 c2 c3 ix0 ix1 hlt HW1 HW2 HSM
                          have hsz9 : g2 < ((wr.setCell ⟨g2, m + q, none⟩ (.int .i64 (max v2 (fm + 1)))).drew).heap.size := by simp; omega
                          go_wp2
                          go_roundw
                          case rel => exact ⟨m + 1, by omega, by go_num, HA1', HA3', HX3', HB3', hsz9⟩
                          case measure => simp [intOf]; omega
                      · have h0' : fm < 0 := by omega
                        have HS3 : Hid (Arr wr g2 0 P (stepM f r (m + 1) f2)) := Lib.hid (HA2.out.congr fun j _ => (HSN.out (fun h => h0 h.1) j).symm)
                        go_wp2
                        go_roundw
                        case rel => exact ⟨m + 1, by omega, by go_num, HA, HS3, HX, HB, hg2⟩
                        case measure => simp [intOf]; omega
                    · have hme : m = P := by omega
                      subst hme
                      go_wp2
                      go_roundw
                      case rel => exact ⟨k + 1, _, by omega, by go_num, HA, HA2, HSM, HX.out, HB, hg2⟩
                      case measure => simp [intOf]; omega
                · have hmiss : Hid (BestF r0 (Part ⟨n0, r0, some ⟨b1, o1, none⟩, ca, B, cb, l, t⟩ i (k + 1)) f2) := Lib.hid (HF2.out.congr (part_miss (s := ⟨n0, r0, some ⟨b1, o1, none⟩, ca, B, cb, l, t⟩) hkn (fun h => by
                    have h2 : (!takenB l t k) = true := h.2
                    rw [htk] at h2; cases h2)) fun _ _ => rfl)
                  clear p1 p2 y2
                  go_wp2
                  go_roundw
                  case rel => exact ⟨k + 1, f2, by omega, by go_num, HA, HA2, hmiss, HX.out, HB, by omega⟩
                  case measure => simp [intOf]; omega
              · have dx : (x1 != (i : Int)) = true := by simpa using hx1
                have hmiss : Hid (BestF r0 (Part ⟨n0, r0, some ⟨b1, o1, none⟩, ca, B, cb, l, t⟩ i (k + 1)) f2) := Lib.hid (HF2.out.congr (part_miss (s := ⟨n0, r0, some ⟨b1, o1, none⟩, ca, B, cb, l, t⟩) hkn (fun h => hx1 (by have := h.1; rw [HFE.out] at this; exact this))) fun _ _ => rfl)
                clear Htk
                go_wp2
                go_roundw
                case rel => exact ⟨k + 1, f2, by omega, by go_num, HA, HA2, hmiss, hX, HB, hsz⟩
                case measure => simp [intOf]; omega
            · have hke : k = l.length := by omega
              subst hke
              have HFN := Lib.hid (HF2.out.congr (part_all (s := ⟨n0, r0, A, ca, B, cb, l, t⟩)) fun _ _ => rfl)
              have hwg2 : w.heap.size < g2 := by omega
              clear y0 y1 y3
              go_wp2
              go_roundw
              case rel => exact ⟨i + 1, g2, c2, f2, by omega, by go_num, rfl, HA2, HFN, hX, HB, hwg2, hsz⟩
              case measure => simp [intOf]; omega
        · have hie : i = n0 := by omega
          subst hie
          have HT := Lib.hid (Sheet.stage_all (s := ⟨i, r0, A, ca, B, cb, l, t⟩) HV.out rfl (HF.out.congr (fun x => by rw [show Int.toNat (Sh.L ⟨(i : Int), r0, A, ca, B, cb, l, t⟩) = i from Int.toNat_natCast i]) fun _ _ => rfl))
          rw [HP.out] at HT
          have htl : t.length ≤ 900 := hfew
          go_upto_region 23 with fail
          go_wp2
          go_loopw [10, 11] (fun ov mv wr => ∃ m : Nat, m ≤ P ∧ mv = .int .i64 m ∧ ov = .int .i64 (topF f m) ∧ Hid (Arr wr g 0 P f) ∧ Hid (wr.heap[w.heap.size]? = some (.cells #[.int .i64 i, .int .i64 r0, .slice A l.length ca, .slice B t.length cb] 25 (0, 0))) ∧ Hid (Below w.heap.size w wr)) (fun _ mv _ => P - (intOf mv).toNat)
          case atStart => exact ⟨0, by omega, rfl, rfl, HA, Lib.hid hX, HB⟩
          case round =>
            clear HA hX HB y0
            obtain ⟨m, hm, rfl, rfl, HA, HX, HB⟩ := hrel
            by_cases hmn : m < P
            · have im0 : (0 : Int) ≤ (m : Int) := by omega
              have im1 : (m : Int) < (P : Int) := by omega
              have c1 := (HA.out m hmn).1
              rw [Nat.zero_add] at c1
              have HTS : Hid (topF f (m + 1) = max (topF f m) (f m)) := Lib.hid rfl
              generalize topF f m = tm at HTS ⊢
              generalize f m = fm at c1 HTS
              go_wp2
              go_roundw
              case rel => exact ⟨m + 1, by omega, by go_num, by rw [HTS.out], HA, HX, HB⟩
              case measure => simp [intOf]; omega
            · have hme : m = P := by omega
              subst hme
              have y3 : wr.cell? ⟨w.heap.size, 3, none⟩ = some (.slice B t.length cb) := (blk_cell HX.out).trans rfl
              rw [HT.out]
              have hmo : mostS ⟨i, r0, A, ca, B, cb, l, t⟩ ≤ 40 := by
                obtain ⟨G, hG⟩ := Sheet.gr_ex (s := ⟨i, r0, A, ca, B, cb, l, t⟩) HV.out
                have h1 := (Sheet.gr_iff (s := ⟨i, r0, A, ca, B, cb, l, t⟩) HV.out |>.1 hG).2
                have h2 := nodup_leP G l hG.jn.nodup hG.jn.links
                omega
              go_wp2
              go_ret
              exact Ret.mk' (by go_num) ⟨rfl, HB.out⟩
end Go.Proofs.Ytoogfdicmpkkgaa
