/- high: the scale with the fewest steps, each as high as can be. -/
import Derived.Test.YtkjmeeggjmeajaaR0
namespace Go.Proofs.Ytkjmeeggjmeajaa
open Go.RowKit Go.Shelf
attribute [local go_sem] Oper.semAt_some

theorem own_drewN {w : World} {base : Nat} {e : TypeId} {size : Nat} {v : Value} {n : Nat} {xs : List Value} (h : w.ownsRow base e size v n xs) (q : Nat) : (w.drewN q).ownsRow base e size v n xs := h
theorem own_mono {w : World} {base base' : Nat} {e : TypeId} {size : Nat} {v : Value} {n : Nat} {xs : List Value} (h : w.ownsRow base e size v n xs) (hb : base' ≤ base) : w.ownsRow base' e size v n xs :=
  ⟨h.1, h.2.imp id fun ⟨g, cap, cur, a, b, c⟩ => ⟨g, cap, cur, a, Nat.le_trans hb b, c⟩⟩
def atOf (cl : Int × Int) (hi : Int) : Int := if cl.1 ≤ hi ∧ hi ≤ cl.2 then cl.1 - 1 else hi
def highGo (cl : Int × Int) : List Tone → List Int → List Int → Int → List Int × List Int
  | [], s, n, _ => (s, n)
  | t :: ts, s, n, last => if t.1 ≤ last then highGo cl ts s n last else
      if atOf cl t.2.1 < t.1 then (s ++ [atOf cl t.2.1], n) else highGo cl ts (s ++ [atOf cl t.2.1]) (n ++ [t.2.2]) (atOf cl t.2.1)
theorem highGo_stop {cl : Int × Int} {x1 x2 x3 y last : Int} {rest : List Tone} {s n : List Int} (h : last < x1) (ha : atOf cl x2 = y) (hy : y < x1) : highGo cl ((x1, x2, x3) :: rest) s n last = (s ++ [y], n) := by
  simp only [highGo]; rw [if_neg (by omega), ha, if_pos hy]
theorem highGo_on {cl : Int × Int} {x1 x2 x3 y last : Int} {rest : List Tone} {s n : List Int} (h : last < x1) (ha : atOf cl x2 = y) (hy : x1 ≤ y) : highGo cl ((x1, x2, x3) :: rest) s n last = highGo cl rest (s ++ [y]) (n ++ [x3]) y := by
  simp only [highGo]; rw [if_neg (by omega), ha, if_neg (by omega)]
theorem infoI2 : (Try.prog.info? 2).map (fun i => (i.zero, i.size, i.bytes)) = some (some (.int .i64 0), 1, 8) := by kernel_rfl
theorem infoI3 : (Try.prog.info? 3).map (fun i => (i.zero, i.size, i.bytes)) = some (some (.int .i64 0), 1, 8) := by kernel_rfl
theorem enters73 : ∀ args W, (callFunc 73 args).run Try.prog W = .ok (.enter 73 args) W := fun args W => by simp [go_sem]

def HighI (cl : Int × Int) (m : Nat) (w0 w : World) (pre : List Tone) (W : World) : Prop :=
  ∃ (s n : List Int) (last : Int) (v1 v2 : Value), (∀ rest, highGo cl (pre ++ rest) [] [] (-1) = highGo cl rest s n last) ∧
    W.heap[m]? = some (.cells #[.int .i64 cl.1, .int .i64 cl.2] 50 (0, 0)) ∧ W.heap[m + 1]? = some (.cells #[v1] 23 (0, 0)) ∧ W.heap[m + 1 + 1]? = some (.cells #[v2] 26 (0, 0)) ∧ W.heap[m + 1 + 1 + 1]? = some (.cells #[.int .i64 last] 2 (0, 0)) ∧
    W.ownsRow (m + 1 + 1 + 1 + 1 + 1) 2 1 v1 s.length (s.flatMap encI) ∧ W.ownsRow (m + 1 + 1 + 1 + 1 + 1) 3 1 v2 n.length (n.flatMap encI) ∧ s.length ≤ pre.length ∧ n.length ≤ pre.length ∧ Below m w0 W ∧ w.heap.size ≤ W.heap.size ∧ KeepB m (m + 1 + 1 + 1 + 1) w W
def HighX (cl : Int × Int) (m : Nat) (w0 : World) (c : Code) (pre : List Tone) (W : World) : Prop :=
  c = .exit 0 ∧ ∃ (s n : List Int) (v1 v2 : Value), (∀ rest, highGo cl (pre ++ rest) [] [] (-1) = (s, n)) ∧
    W.heap[m + 1]? = some (.cells #[v1] 23 (0, 0)) ∧ W.heap[m + 1 + 1]? = some (.cells #[v2] 26 (0, 0)) ∧
    W.ownsRow (m + 1 + 1 + 1 + 1 + 1) 2 1 v1 s.length (s.flatMap encI) ∧ W.ownsRow (m + 1 + 1 + 1 + 1 + 1) 3 1 v2 n.length (n.flatMap encI) ∧ Below m w0 W

set_option maxRecDepth 100000 in
set_option maxHeartbeats 2000000 in
theorem high_any (cl : Int × Int) (sb : Nat) (ts : List Tone) (w : World) (hs : SongOf w.heap.size w sb ts) (hlen : ts.length ≤ 1000) (hcl : inB cl.1 ∧ inB cl.2) :
    Calls Try.prog 45 #[.pointer (some ⟨sb, 0, none⟩), vR cl] w (Ret fun v w' => (∃ A B c d s n, v = .tuple #[.slice A s.length c, .slice B n.length d] ∧ (s, n) = highGo cl ts [] [] (-1) ∧ w'.ownsRow w.heap.size 2 1 (.slice A s.length c) s.length (s.flatMap encI) ∧ w'.ownsRow w.heap.size 3 1 (.slice B n.length d) n.length (n.flatMap encI)) ∧ Below w.heap.size w w') := by
  obtain ⟨c1, c2⟩ := cl
  unfold vR
  dsimp only
  refine calls_of_wp_marks Try.func45 rfl ?_
  simp only [Try.ntmps45, List.size_toArray, List.length_cons, List.length_nil, Nat.reduceAdd, Nat.reduceSub, Array.replicate_succ, Array.replicate_zero, List.push_toArray, List.append_toArray, List.nil_append, List.cons_append]
  have Hs := Lib.hid hs; clear hs
  go_wp2
  go_step3
  go_wp2
  go_step3
  go_wp2_with fail
  refine (tones_any _ _ ⟨_, rfl⟩).mono ?_
  rintro e w1 ⟨v, rfl, rfl, rfl⟩
  go_wp2_with fail
  have b0 := heap_alloc_new w (.cells #[.int .i64 c1, .int .i64 c2] 50)
  have b1 := heap_alloc_new (w.alloc (.cells #[.int .i64 c1, .int .i64 c2] 50)) (.cells #[.slice none 0 0] 23)
  have b2 := heap_alloc_new ((w.alloc (.cells #[.int .i64 c1, .int .i64 c2] 50)).alloc (.cells #[.slice none 0 0] 23)) (.cells #[.slice none 0 0] 26)
  have b3 := heap_alloc_new (((w.alloc (.cells #[.int .i64 c1, .int .i64 c2] 50)).alloc (.cells #[.slice none 0 0] 23)).alloc (.cells #[.slice none 0 0] 26)) (.cells #[.int .i64 (-1)] 2)
  have b4 := heap_alloc_new ((((w.alloc (.cells #[.int .i64 c1, .int .i64 c2] 50)).alloc (.cells #[.slice none 0 0] 23)).alloc (.cells #[.slice none 0 0] 26)).alloc (.cells #[.int .i64 (-1)] 2)) (.cells #[.pointer (some ⟨sb, 0, none⟩)] 71)
  have hB0 := below_alloc' (below_alloc' (below_alloc' (below_alloc' (below_alloc' (Below.refl w.heap.size w) (.cells #[.int .i64 c1, .int .i64 c2] 50)) (.cells #[.slice none 0 0] 23)) (.cells #[.slice none 0 0] 26)) (.cells #[.int .i64 (-1)] 2)) (.cells #[.pointer (some ⟨sb, 0, none⟩)] 71)
  replace b3 := blk_alloc b3 (.cells #[.pointer (some ⟨sb, 0, none⟩)] 71)
  replace b2 := blk_alloc (blk_alloc b2 (.cells #[.int .i64 (-1)] 2)) (.cells #[.pointer (some ⟨sb, 0, none⟩)] 71)
  replace b1 := blk_alloc (blk_alloc (blk_alloc b1 (.cells #[.slice none 0 0] 26)) (.cells #[.int .i64 (-1)] 2)) (.cells #[.pointer (some ⟨sb, 0, none⟩)] 71)
  replace b0 := blk_alloc (blk_alloc (blk_alloc (blk_alloc b0 (.cells #[.slice none 0 0] 23)) (.cells #[.slice none 0 0] 26)) (.cells #[.int .i64 (-1)] 2)) (.cells #[.pointer (some ⟨sb, 0, none⟩)] 71)
  simp only [World.size_alloc] at b1 b2 b3 b4
  obtain ⟨wl, hwl⟩ : ∃ wl, ((((w.alloc (.cells #[.int .i64 c1, .int .i64 c2] 50)).alloc (.cells #[.slice none 0 0] 23)).alloc (.cells #[.slice none 0 0] 26)).alloc (.cells #[.int .i64 (-1)] 2)).alloc (.cells #[.pointer (some ⟨sb, 0, none⟩)] 71) = wl := ⟨_, rfl⟩
  rw [hwl] at b0 b1 b2 b3 b4 hB0 ⊢
  have hsz : wl.heap.size = w.heap.size + 1 + 1 + 1 + 1 + 1 := by rw [← hwl]; simp
  clear hwl
  have Hsz := Lib.hid hsz; clear hsz
  have HB0 := Lib.hid hB0; clear hB0
  refine wp_range1 (gf := 73) (lb := #[.pointer (some ⟨w.heap.size + 1 + 1 + 1 + 1, 0, none⟩)]) (q := 9) (xs := ts) rfl enters73 (fun x : Tone => #[.int .i64 x.1, .int .i64 x.2.1, .int .i64 x.2.2]) 95 w.heap.size (w.heap.size + 1 + 1 + 1 + 1) HB0.out.size (by rw [Hsz.out]; omega)
    (tones_stops 9 (by omega) _ _ sb ts (by omega) wl HB0.out.size (by rw [Hsz.out]; omega) ((blk_cell b4).trans rfl) (Hs.out.below HB0.out))
    (HighI (c1, c2) w.heap.size w wl) (HighX (c1, c2) w.heap.size w) ?hI ?hX ?h0 ?hsz ?assign ?body ?done ?stop
  case hI =>
    rintro pre W W' row ⟨s, n, last, v1, v2, hgo, k0, k1, k2, k3, o1, o2, l1, l2, hB, hz, hk⟩ hg hr
    exact ⟨s, n, last, v1, v2, hgo, blk_own k0 hg hr, blk_own k1 hg hr, blk_own k2 hg hr, blk_own k3 hg hr, row_own o1 hg hr, row_own o2 hg hr, l1, l2, below_own hB HB0.out.size (Nat.le_refl _) hg hr, Nat.le_trans hz hg.size,
      fun b hb => (hg.block b (hk.lt HB0.out.size (by rw [Hsz.out]; omega) hb) (fun e => by have := (hr b e.symm).1; rw [Hsz.out] at this; omega)).trans (hk b hb)⟩
  case hX =>
    rintro c pre W W' row ⟨e, s, n, v1, v2, hgo, k1, k2, o1, o2, hB⟩ hg hr
    exact ⟨e, s, n, v1, v2, hgo, blk_own k1 hg hr, blk_own k2 hg hr, row_own o1 hg hr, row_own o2 hg hr, below_own hB HB0.out.size (Nat.le_refl _) hg hr⟩
  case h0 => exact ⟨[], [], -1, _, _, fun rest => rfl, b0, b1, b2, b3, World.ownsRow_nil _ _ _ _, World.ownsRow_nil _ _ _ _, Nat.le_refl _, Nat.le_refl _, HB0.out, Nat.le_refl _, KeepB.refl _ _ _⟩
  case hsz => rintro pre W ⟨s, n, last, v1, v2, hgo, k0, k1, k2, k3, o1, o2, l1, l2, hB, hz, hk⟩; exact hz
  case assign =>
    intro l x W K hW hK
    obtain ⟨x1, x2, x3⟩ := x
    clear b0 b1 b2 b3 b4
    dsimp only [vT] at hK ⊢
    have HK := Lib.hid hK; clear hK
    gi_wp2
    exact HK.out
  case body =>
    rintro l pre x Bx W hBx hb hi hlt
    obtain ⟨x1, x2, x3⟩ := x
    clear b0 b1 b2 b3 b4
    obtain ⟨s, n, last, v1, v2, hgo, k0, k1, k2, k3, o1, o2, l1, l2, hB, hz, hk⟩ := hi
    dsimp only [vT] at hb hBx ⊢
    have hBx' : w.heap.size + 1 + 1 + 1 + 1 + 1 ≤ Bx := by have := Hsz.out; omega
    have q1 : W.cell? ⟨Bx, 0, none⟩ = some (.int .i64 x1) := (blk_cell hb).trans rfl
    have q2 : W.cell? ⟨Bx, 1, none⟩ = some (.int .i64 x2) := (blk_cell hb).trans rfl
    have q3 : W.cell? ⟨Bx, 2, none⟩ = some (.int .i64 x3) := (blk_cell hb).trans rfl
    have p0 : W.cell? ⟨w.heap.size, 0, none⟩ = some (.int .i64 c1) := (blk_cell k0).trans rfl
    have p1 : W.cell? ⟨w.heap.size, 1, none⟩ = some (.int .i64 c2) := (blk_cell k0).trans rfl
    have p2 : W.cell? ⟨w.heap.size + 1, 0, none⟩ = some v1 := (blk_cell k1).trans rfl
    have p3 : W.cell? ⟨w.heap.size + 1 + 1, 0, none⟩ = some v2 := (blk_cell k2).trans rfl
    have p4 : W.cell? ⟨w.heap.size + 1 + 1 + 1, 0, none⟩ = some (.int .i64 last) := (blk_cell k3).trans rfl
    have Hb := Lib.hid hb
    have Hgo := Lib.hid hgo
    have K0 := Lib.hid k0
    have K1 := Lib.hid k1
    have K2 := Lib.hid k2
    have K3 := Lib.hid k3
    have O1 := Lib.hid o1
    have O2 := Lib.hid o2
    have HB := Lib.hid hB
    have Hk := Lib.hid hk
    have Hz := Lib.hid hz
    clear hb hgo k0 k1 k2 k3 o1 o2 hB hk hz
    unfold inB at hcl
    by_cases c0 : x1 ≤ last
    · gi_wp2
      exact ⟨KeepsFrom.refl _ _, KeepB.refl _ _ _, s, n, last, v1, v2, fun rest => by rw [List.append_assoc, Hgo.out]; simp [highGo, c0], K0.out, K1.out, K2.out, K3.out, O1.out, O2.out, by simp; omega, by simp; omega, HB.out, Hz.out, Hk.out⟩
    · have hlen1 : s.length ≤ 100000 := by omega
      have hlen2 : n.length ≤ 100000 := by omega
      have FIN : True := trivial
      have hx0 := hcl.1.1
      have hx0' := hcl.1.2
      have NE1 := Lib.hid (own_ne O1.out (b := w.heap.size + 1) (by omega))
      have NE2 := Lib.hid (own_ne O1.out (b := w.heap.size + 1 + 1) (by omega))
      have NEb : Hid (some Bx ≠ v1.ownBlock) := own_ne_blk O1.out Hb.out (show (95 : Nat) ≠ 2 by decide)
      have hbne : Bx ≠ w.heap.size + 1 ∧ Bx ≠ w.heap.size + 1 + 1 := ⟨by omega, by omega⟩
      have NE3 := Lib.hid (own_ne O2.out (b := w.heap.size + 1 + 1) (by omega))
      have NE4 := Lib.hid (own_ne O1.out (b := w.heap.size + 1 + 1 + 1) (by omega))
      have NE5 := Lib.hid (own_ne O2.out (b := w.heap.size + 1 + 1 + 1) (by omega))
      have AP := Lib.hid (own_apart O2.out O1.out (show (3 : Nat) ≠ 2 by decide))
      have hltm := blk_lt K3.out
      by_cases c3 : c1 ≤ x2
      · by_cases c4 : x2 ≤ c2
        · have HAt : Hid (atOf (c1, c2) x2 = c1 - 1) := by show _ = _; simp [atOf, c3, c4]
          by_cases c5 : c1 - 1 < x1
          · gi_wp2_with (first | (gi_at_builtin; refine wpListIn_push _ rfl (.tmp 35) (.tmp 37) _ rfl elemI2 encI_len oneI Try.underlying23 (w.heap.size + 1 + 1 + 1 + 1 + 1) v1 s rfl (O1.out.alloc _) hlen1 _ W.heap.size rfl _ (by rfl) _ _ (heap_alloc_new _ _) (by simp; omega) ?_; intro g cap W1 hown1 hg1; have r1 := (blk_cell (i := 0) (blk_grown hg1 (blk_alloc K1.out _) NE1.out)).trans rfl; have r2 := blk_frozen (i := 0) (blk_grown hg1 (blk_alloc K1.out _) NE1.out); have J0 := Lib.hid (blk_push (i := 0) (u := .slice (some ⟨g, 0, none⟩) (s.length + 1) cap) Hb.out hg1 NEb.out hbne.1); have J2 := Lib.hid (blk_push (i := 0) (u := .slice (some ⟨g, 0, none⟩) (s.length + 1) cap) K2.out hg1 NE2.out (show w.heap.size + 1 + 1 ≠ w.heap.size + 1 by omega)); have f1 := (blk_cell (i := 0) J0.out).trans rfl; have f2 := (blk_cell (i := 2) J0.out).trans rfl; have f3 := (blk_cell (i := 0) J2.out).trans rfl; have G1 := Lib.hid hg1; have HO1 := Lib.hid hown1; clear hg1 hown1) | (gi_at_builtin; refine wpListIn_push _ rfl (.tmp 44) (.tmp 47) _ rfl elemI3 encI_len oneI Try.underlying26 (w.heap.size + 1 + 1 + 1 + 1 + 1) v2 n rfl ((row_push O2.out G1.out AP.out (by omega)).alloc _) hlen2 _ W1.heap.size rfl _ (by rfl) _ _ (heap_alloc_at _ _ (by simp)) (by have := G1.out.size; simp at this; simp; omega) ?_; intro g2 cap2 W3 hown2 hg2; have J3 := Lib.hid (blk_grown hg2 (blk_alloc J2.out _) NE3.out); have J4 := Lib.hid (blk_grown hg2 (blk_alloc (blk_push (i := 0) (u := .slice (some ⟨g, 0, none⟩) (s.length + 1) cap) K3.out G1.out NE4.out (show w.heap.size + 1 + 1 + 1 ≠ w.heap.size + 1 by omega)) _) NE5.out); have f4 := (blk_cell (i := 0) J3.out).trans rfl; have f5 := blk_frozen (i := 0) J3.out; have f6 := (blk_cell (i := 0) J4.out).trans rfl; have f7 := blk_frozen (i := 0) J4.out; have G2 := Lib.hid hg2; have HO2 := Lib.hid hown2; clear hg2 hown2))
            have hsW : w.heap.size + 1 + 1 + 1 + 1 < W.heap.size := by have := Hsz.out; have := Hz.out; omega
            exact ⟨((Stp.refl _ w.heap.size (w.heap.size + 1 + 1 + 1 + 1) W).push O1.out G1.out (by omega) hsW (by omega) (by omega) (by omega) (by omega) _).kf, rfl, s ++ [c1 - 1], n, _, v2,
              fun rest => by rw [List.append_assoc, Hgo.out]; exact highGo_stop c0 HAt.out c5, blk_set (blk_grown G1.out (blk_alloc K1.out _) NE1.out) _, J2.out, by rw [len_snoc]; exact ownsRow_setCell_below HO1.out (by simp) _, row_push O2.out G1.out AP.out (by omega),
              below_push HB.out (Nat.le_refl _) O1.out G1.out (by omega) (by omega) _⟩
          · gi_wp2_with (first | (gi_at_builtin; refine wpListIn_push _ rfl (.tmp 35) (.tmp 37) _ rfl elemI2 encI_len oneI Try.underlying23 (w.heap.size + 1 + 1 + 1 + 1 + 1) v1 s rfl (O1.out.alloc _) hlen1 _ W.heap.size rfl _ (by rfl) _ _ (heap_alloc_new _ _) (by simp; omega) ?_; intro g cap W1 hown1 hg1; have r1 := (blk_cell (i := 0) (blk_grown hg1 (blk_alloc K1.out _) NE1.out)).trans rfl; have r2 := blk_frozen (i := 0) (blk_grown hg1 (blk_alloc K1.out _) NE1.out); have J0 := Lib.hid (blk_push (i := 0) (u := .slice (some ⟨g, 0, none⟩) (s.length + 1) cap) Hb.out hg1 NEb.out hbne.1); have J2 := Lib.hid (blk_push (i := 0) (u := .slice (some ⟨g, 0, none⟩) (s.length + 1) cap) K2.out hg1 NE2.out (show w.heap.size + 1 + 1 ≠ w.heap.size + 1 by omega)); have f1 := (blk_cell (i := 0) J0.out).trans rfl; have f2 := (blk_cell (i := 2) J0.out).trans rfl; have f3 := (blk_cell (i := 0) J2.out).trans rfl; have G1 := Lib.hid hg1; have HO1 := Lib.hid hown1; clear hg1 hown1) | (gi_at_builtin; refine wpListIn_push _ rfl (.tmp 44) (.tmp 47) _ rfl elemI3 encI_len oneI Try.underlying26 (w.heap.size + 1 + 1 + 1 + 1 + 1) v2 n rfl ((row_push O2.out G1.out AP.out (by omega)).alloc _) hlen2 _ W1.heap.size rfl _ (by rfl) _ _ (heap_alloc_at _ _ (by simp)) (by have := G1.out.size; simp at this; simp; omega) ?_; intro g2 cap2 W3 hown2 hg2; have J3 := Lib.hid (blk_grown hg2 (blk_alloc J2.out _) NE3.out); have J4 := Lib.hid (blk_grown hg2 (blk_alloc (blk_push (i := 0) (u := .slice (some ⟨g, 0, none⟩) (s.length + 1) cap) K3.out G1.out NE4.out (show w.heap.size + 1 + 1 + 1 ≠ w.heap.size + 1 by omega)) _) NE5.out); have f4 := (blk_cell (i := 0) J3.out).trans rfl; have f5 := blk_frozen (i := 0) J3.out; have f6 := (blk_cell (i := 0) J4.out).trans rfl; have f7 := blk_frozen (i := 0) J4.out; have G2 := Lib.hid hg2; have HO2 := Lib.hid hown2; clear hg2 hown2))
            have hsW : w.heap.size + 1 + 1 + 1 + 1 < W.heap.size := by have := Hsz.out; have := Hz.out; omega
            have S1 := (Stp.refl wl.heap.size w.heap.size (w.heap.size + 1 + 1 + 1 + 1) W).push (i := 0) (b0 := w.heap.size + 1) O1.out G1.out (by omega) hsW (by omega) (by omega) (by omega) (by omega) (.slice (some ⟨g, 0, none⟩) (s.length + 1) cap)
            have R2 := row_push (i := 0) (b0 := w.heap.size + 1) (u := .slice (some ⟨g, 0, none⟩) (s.length + 1) cap) O2.out G1.out AP.out (by omega)
            have R1 := ownsRow_setCell_below (a := ⟨w.heap.size + 1, 0, none⟩) HO1.out (by simp) (.slice (some ⟨g, 0, none⟩) (s.length + 1) cap)
            have S2 := S1.push (i := 0) (b0 := w.heap.size + 1 + 1) R2 G2.out (by omega) hsW (by omega) (by omega) (by omega) (by omega) (.slice (some ⟨g2, 0, none⟩) (n.length + 1) cap2)
            have S3 := S2.setCell (p := ⟨w.heap.size + 1 + 1 + 1, 0, none⟩) (by simp; omega) (by simp) (.int .i64 (c1 - 1))
            have B1 := below_push (i := 0) (b0 := w.heap.size + 1) HB.out (Nat.le_refl _) O1.out G1.out (by omega) (by omega) (.slice (some ⟨g, 0, none⟩) (s.length + 1) cap)
            have B2 := below_push (i := 0) (b0 := w.heap.size + 1 + 1) B1 (Nat.le_refl _) R2 G2.out (by omega) (by omega) (.slice (some ⟨g2, 0, none⟩) (n.length + 1) cap2)
            have N0 := own_ne O1.out (b := w.heap.size) (by omega)
            have N1 := own_ne R2 (b := w.heap.size) (by omega)
            have N2 := own_ne R2 (b := w.heap.size + 1) (by omega)
            exact ⟨S3.kf, S3.kb, s ++ [c1 - 1], n ++ [x3], c1 - 1, _, _, fun rest => by rw [List.append_assoc, Hgo.out]; exact highGo_on c0 HAt.out c5,
              blk_far (blk_push (blk_push K0.out G1.out N0 (by omega)) G2.out N1 (by omega)) (by simp; omega) _,
              blk_far (blk_push (blk_set (blk_grown G1.out (blk_alloc K1.out _) NE1.out) _) G2.out N2 (by omega)) (by simp) _,
              blk_far (blk_set J3.out _) (by simp) _,
              blk_set (blk_far J4.out (by simp) _) _,
              by rw [len_snoc]; exact ownsRow_setCell_below (row_push R1 G2.out (own_apart R1 R2 (show (2 : Nat) ≠ 3 by decide)) (by omega)) (by simp) _,
              by rw [len_snoc]; exact ownsRow_setCell_below (ownsRow_setCell_below HO2.out (by simp) _) (by simp) _,
              by simp; omega, by simp; omega, B2.setCell (by simp; omega) _, Nat.le_trans Hz.out S3.kf.size, Hk.out.trans S3.kb⟩
        · have HAt : Hid (atOf (c1, c2) x2 = x2) := by show _ = _; simp [atOf, c4]
          by_cases c5 : x2 < x1
          · gi_wp2_with (first | (gi_at_builtin; refine wpListIn_push _ rfl (.tmp 35) (.tmp 37) _ rfl elemI2 encI_len oneI Try.underlying23 (w.heap.size + 1 + 1 + 1 + 1 + 1) v1 s rfl (O1.out.alloc _) hlen1 _ W.heap.size rfl _ (by rfl) _ _ (heap_alloc_new _ _) (by simp; omega) ?_; intro g cap W1 hown1 hg1; have r1 := (blk_cell (i := 0) (blk_grown hg1 (blk_alloc K1.out _) NE1.out)).trans rfl; have r2 := blk_frozen (i := 0) (blk_grown hg1 (blk_alloc K1.out _) NE1.out); have J0 := Lib.hid (blk_push (i := 0) (u := .slice (some ⟨g, 0, none⟩) (s.length + 1) cap) Hb.out hg1 NEb.out hbne.1); have J2 := Lib.hid (blk_push (i := 0) (u := .slice (some ⟨g, 0, none⟩) (s.length + 1) cap) K2.out hg1 NE2.out (show w.heap.size + 1 + 1 ≠ w.heap.size + 1 by omega)); have f1 := (blk_cell (i := 0) J0.out).trans rfl; have f2 := (blk_cell (i := 2) J0.out).trans rfl; have f3 := (blk_cell (i := 0) J2.out).trans rfl; have G1 := Lib.hid hg1; have HO1 := Lib.hid hown1; clear hg1 hown1) | (gi_at_builtin; refine wpListIn_push _ rfl (.tmp 44) (.tmp 47) _ rfl elemI3 encI_len oneI Try.underlying26 (w.heap.size + 1 + 1 + 1 + 1 + 1) v2 n rfl ((row_push O2.out G1.out AP.out (by omega)).alloc _) hlen2 _ W1.heap.size rfl _ (by rfl) _ _ (heap_alloc_at _ _ (by simp)) (by have := G1.out.size; simp at this; simp; omega) ?_; intro g2 cap2 W3 hown2 hg2; have J3 := Lib.hid (blk_grown hg2 (blk_alloc J2.out _) NE3.out); have J4 := Lib.hid (blk_grown hg2 (blk_alloc (blk_push (i := 0) (u := .slice (some ⟨g, 0, none⟩) (s.length + 1) cap) K3.out G1.out NE4.out (show w.heap.size + 1 + 1 + 1 ≠ w.heap.size + 1 by omega)) _) NE5.out); have f4 := (blk_cell (i := 0) J3.out).trans rfl; have f5 := blk_frozen (i := 0) J3.out; have f6 := (blk_cell (i := 0) J4.out).trans rfl; have f7 := blk_frozen (i := 0) J4.out; have G2 := Lib.hid hg2; have HO2 := Lib.hid hown2; clear hg2 hown2))
            have hsW : w.heap.size + 1 + 1 + 1 + 1 < W.heap.size := by have := Hsz.out; have := Hz.out; omega
            exact ⟨((Stp.refl _ w.heap.size (w.heap.size + 1 + 1 + 1 + 1) W).push O1.out G1.out (by omega) hsW (by omega) (by omega) (by omega) (by omega) _).kf, rfl, s ++ [x2], n, _, v2,
              fun rest => by rw [List.append_assoc, Hgo.out]; exact highGo_stop c0 HAt.out c5, blk_set (blk_grown G1.out (blk_alloc K1.out _) NE1.out) _, J2.out, by rw [len_snoc]; exact ownsRow_setCell_below HO1.out (by simp) _, row_push O2.out G1.out AP.out (by omega),
              below_push HB.out (Nat.le_refl _) O1.out G1.out (by omega) (by omega) _⟩
          · gi_wp2_with (first | (gi_at_builtin; refine wpListIn_push _ rfl (.tmp 35) (.tmp 37) _ rfl elemI2 encI_len oneI Try.underlying23 (w.heap.size + 1 + 1 + 1 + 1 + 1) v1 s rfl (O1.out.alloc _) hlen1 _ W.heap.size rfl _ (by rfl) _ _ (heap_alloc_new _ _) (by simp; omega) ?_; intro g cap W1 hown1 hg1; have r1 := (blk_cell (i := 0) (blk_grown hg1 (blk_alloc K1.out _) NE1.out)).trans rfl; have r2 := blk_frozen (i := 0) (blk_grown hg1 (blk_alloc K1.out _) NE1.out); have J0 := Lib.hid (blk_push (i := 0) (u := .slice (some ⟨g, 0, none⟩) (s.length + 1) cap) Hb.out hg1 NEb.out hbne.1); have J2 := Lib.hid (blk_push (i := 0) (u := .slice (some ⟨g, 0, none⟩) (s.length + 1) cap) K2.out hg1 NE2.out (show w.heap.size + 1 + 1 ≠ w.heap.size + 1 by omega)); have f1 := (blk_cell (i := 0) J0.out).trans rfl; have f2 := (blk_cell (i := 2) J0.out).trans rfl; have f3 := (blk_cell (i := 0) J2.out).trans rfl; have G1 := Lib.hid hg1; have HO1 := Lib.hid hown1; clear hg1 hown1) | (gi_at_builtin; refine wpListIn_push _ rfl (.tmp 44) (.tmp 47) _ rfl elemI3 encI_len oneI Try.underlying26 (w.heap.size + 1 + 1 + 1 + 1 + 1) v2 n rfl ((row_push O2.out G1.out AP.out (by omega)).alloc _) hlen2 _ W1.heap.size rfl _ (by rfl) _ _ (heap_alloc_at _ _ (by simp)) (by have := G1.out.size; simp at this; simp; omega) ?_; intro g2 cap2 W3 hown2 hg2; have J3 := Lib.hid (blk_grown hg2 (blk_alloc J2.out _) NE3.out); have J4 := Lib.hid (blk_grown hg2 (blk_alloc (blk_push (i := 0) (u := .slice (some ⟨g, 0, none⟩) (s.length + 1) cap) K3.out G1.out NE4.out (show w.heap.size + 1 + 1 + 1 ≠ w.heap.size + 1 by omega)) _) NE5.out); have f4 := (blk_cell (i := 0) J3.out).trans rfl; have f5 := blk_frozen (i := 0) J3.out; have f6 := (blk_cell (i := 0) J4.out).trans rfl; have f7 := blk_frozen (i := 0) J4.out; have G2 := Lib.hid hg2; have HO2 := Lib.hid hown2; clear hg2 hown2))
            have hsW : w.heap.size + 1 + 1 + 1 + 1 < W.heap.size := by have := Hsz.out; have := Hz.out; omega
            have S1 := (Stp.refl wl.heap.size w.heap.size (w.heap.size + 1 + 1 + 1 + 1) W).push (i := 0) (b0 := w.heap.size + 1) O1.out G1.out (by omega) hsW (by omega) (by omega) (by omega) (by omega) (.slice (some ⟨g, 0, none⟩) (s.length + 1) cap)
            have R2 := row_push (i := 0) (b0 := w.heap.size + 1) (u := .slice (some ⟨g, 0, none⟩) (s.length + 1) cap) O2.out G1.out AP.out (by omega)
            have R1 := ownsRow_setCell_below (a := ⟨w.heap.size + 1, 0, none⟩) HO1.out (by simp) (.slice (some ⟨g, 0, none⟩) (s.length + 1) cap)
            have S2 := S1.push (i := 0) (b0 := w.heap.size + 1 + 1) R2 G2.out (by omega) hsW (by omega) (by omega) (by omega) (by omega) (.slice (some ⟨g2, 0, none⟩) (n.length + 1) cap2)
            have S3 := S2.setCell (p := ⟨w.heap.size + 1 + 1 + 1, 0, none⟩) (by simp; omega) (by simp) (.int .i64 (x2))
            have B1 := below_push (i := 0) (b0 := w.heap.size + 1) HB.out (Nat.le_refl _) O1.out G1.out (by omega) (by omega) (.slice (some ⟨g, 0, none⟩) (s.length + 1) cap)
            have B2 := below_push (i := 0) (b0 := w.heap.size + 1 + 1) B1 (Nat.le_refl _) R2 G2.out (by omega) (by omega) (.slice (some ⟨g2, 0, none⟩) (n.length + 1) cap2)
            have N0 := own_ne O1.out (b := w.heap.size) (by omega)
            have N1 := own_ne R2 (b := w.heap.size) (by omega)
            have N2 := own_ne R2 (b := w.heap.size + 1) (by omega)
            exact ⟨S3.kf, S3.kb, s ++ [x2], n ++ [x3], x2, _, _, fun rest => by rw [List.append_assoc, Hgo.out]; exact highGo_on c0 HAt.out c5,
              blk_far (blk_push (blk_push K0.out G1.out N0 (by omega)) G2.out N1 (by omega)) (by simp; omega) _,
              blk_far (blk_push (blk_set (blk_grown G1.out (blk_alloc K1.out _) NE1.out) _) G2.out N2 (by omega)) (by simp) _,
              blk_far (blk_set J3.out _) (by simp) _,
              blk_set (blk_far J4.out (by simp) _) _,
              by rw [len_snoc]; exact ownsRow_setCell_below (row_push R1 G2.out (own_apart R1 R2 (show (2 : Nat) ≠ 3 by decide)) (by omega)) (by simp) _,
              by rw [len_snoc]; exact ownsRow_setCell_below (ownsRow_setCell_below HO2.out (by simp) _) (by simp) _,
              by simp; omega, by simp; omega, B2.setCell (by simp; omega) _, Nat.le_trans Hz.out S3.kf.size, Hk.out.trans S3.kb⟩
      · have HAt : Hid (atOf (c1, c2) x2 = x2) := by show _ = _; simp [atOf, c3]
        by_cases c5 : x2 < x1
        · gi_wp2_with (first | (gi_at_builtin; refine wpListIn_push _ rfl (.tmp 35) (.tmp 37) _ rfl elemI2 encI_len oneI Try.underlying23 (w.heap.size + 1 + 1 + 1 + 1 + 1) v1 s rfl (O1.out.alloc _) hlen1 _ W.heap.size rfl _ (by rfl) _ _ (heap_alloc_new _ _) (by simp; omega) ?_; intro g cap W1 hown1 hg1; have r1 := (blk_cell (i := 0) (blk_grown hg1 (blk_alloc K1.out _) NE1.out)).trans rfl; have r2 := blk_frozen (i := 0) (blk_grown hg1 (blk_alloc K1.out _) NE1.out); have J0 := Lib.hid (blk_push (i := 0) (u := .slice (some ⟨g, 0, none⟩) (s.length + 1) cap) Hb.out hg1 NEb.out hbne.1); have J2 := Lib.hid (blk_push (i := 0) (u := .slice (some ⟨g, 0, none⟩) (s.length + 1) cap) K2.out hg1 NE2.out (show w.heap.size + 1 + 1 ≠ w.heap.size + 1 by omega)); have f1 := (blk_cell (i := 0) J0.out).trans rfl; have f2 := (blk_cell (i := 2) J0.out).trans rfl; have f3 := (blk_cell (i := 0) J2.out).trans rfl; have G1 := Lib.hid hg1; have HO1 := Lib.hid hown1; clear hg1 hown1) | (gi_at_builtin; refine wpListIn_push _ rfl (.tmp 44) (.tmp 47) _ rfl elemI3 encI_len oneI Try.underlying26 (w.heap.size + 1 + 1 + 1 + 1 + 1) v2 n rfl ((row_push O2.out G1.out AP.out (by omega)).alloc _) hlen2 _ W1.heap.size rfl _ (by rfl) _ _ (heap_alloc_at _ _ (by simp)) (by have := G1.out.size; simp at this; simp; omega) ?_; intro g2 cap2 W3 hown2 hg2; have J3 := Lib.hid (blk_grown hg2 (blk_alloc J2.out _) NE3.out); have J4 := Lib.hid (blk_grown hg2 (blk_alloc (blk_push (i := 0) (u := .slice (some ⟨g, 0, none⟩) (s.length + 1) cap) K3.out G1.out NE4.out (show w.heap.size + 1 + 1 + 1 ≠ w.heap.size + 1 by omega)) _) NE5.out); have f4 := (blk_cell (i := 0) J3.out).trans rfl; have f5 := blk_frozen (i := 0) J3.out; have f6 := (blk_cell (i := 0) J4.out).trans rfl; have f7 := blk_frozen (i := 0) J4.out; have G2 := Lib.hid hg2; have HO2 := Lib.hid hown2; clear hg2 hown2))
          have hsW : w.heap.size + 1 + 1 + 1 + 1 < W.heap.size := by have := Hsz.out; have := Hz.out; omega
          exact ⟨((Stp.refl _ w.heap.size (w.heap.size + 1 + 1 + 1 + 1) W).push O1.out G1.out (by omega) hsW (by omega) (by omega) (by omega) (by omega) _).kf, rfl, s ++ [x2], n, _, v2,
            fun rest => by rw [List.append_assoc, Hgo.out]; exact highGo_stop c0 HAt.out c5, blk_set (blk_grown G1.out (blk_alloc K1.out _) NE1.out) _, J2.out, by rw [len_snoc]; exact ownsRow_setCell_below HO1.out (by simp) _, row_push O2.out G1.out AP.out (by omega),
            below_push HB.out (Nat.le_refl _) O1.out G1.out (by omega) (by omega) _⟩
        · gi_wp2_with (first | (gi_at_builtin; refine wpListIn_push _ rfl (.tmp 35) (.tmp 37) _ rfl elemI2 encI_len oneI Try.underlying23 (w.heap.size + 1 + 1 + 1 + 1 + 1) v1 s rfl (O1.out.alloc _) hlen1 _ W.heap.size rfl _ (by rfl) _ _ (heap_alloc_new _ _) (by simp; omega) ?_; intro g cap W1 hown1 hg1; have r1 := (blk_cell (i := 0) (blk_grown hg1 (blk_alloc K1.out _) NE1.out)).trans rfl; have r2 := blk_frozen (i := 0) (blk_grown hg1 (blk_alloc K1.out _) NE1.out); have J0 := Lib.hid (blk_push (i := 0) (u := .slice (some ⟨g, 0, none⟩) (s.length + 1) cap) Hb.out hg1 NEb.out hbne.1); have J2 := Lib.hid (blk_push (i := 0) (u := .slice (some ⟨g, 0, none⟩) (s.length + 1) cap) K2.out hg1 NE2.out (show w.heap.size + 1 + 1 ≠ w.heap.size + 1 by omega)); have f1 := (blk_cell (i := 0) J0.out).trans rfl; have f2 := (blk_cell (i := 2) J0.out).trans rfl; have f3 := (blk_cell (i := 0) J2.out).trans rfl; have G1 := Lib.hid hg1; have HO1 := Lib.hid hown1; clear hg1 hown1) | (gi_at_builtin; refine wpListIn_push _ rfl (.tmp 44) (.tmp 47) _ rfl elemI3 encI_len oneI Try.underlying26 (w.heap.size + 1 + 1 + 1 + 1 + 1) v2 n rfl ((row_push O2.out G1.out AP.out (by omega)).alloc _) hlen2 _ W1.heap.size rfl _ (by rfl) _ _ (heap_alloc_at _ _ (by simp)) (by have := G1.out.size; simp at this; simp; omega) ?_; intro g2 cap2 W3 hown2 hg2; have J3 := Lib.hid (blk_grown hg2 (blk_alloc J2.out _) NE3.out); have J4 := Lib.hid (blk_grown hg2 (blk_alloc (blk_push (i := 0) (u := .slice (some ⟨g, 0, none⟩) (s.length + 1) cap) K3.out G1.out NE4.out (show w.heap.size + 1 + 1 + 1 ≠ w.heap.size + 1 by omega)) _) NE5.out); have f4 := (blk_cell (i := 0) J3.out).trans rfl; have f5 := blk_frozen (i := 0) J3.out; have f6 := (blk_cell (i := 0) J4.out).trans rfl; have f7 := blk_frozen (i := 0) J4.out; have G2 := Lib.hid hg2; have HO2 := Lib.hid hown2; clear hg2 hown2))
          have hsW : w.heap.size + 1 + 1 + 1 + 1 < W.heap.size := by have := Hsz.out; have := Hz.out; omega
          have S1 := (Stp.refl wl.heap.size w.heap.size (w.heap.size + 1 + 1 + 1 + 1) W).push (i := 0) (b0 := w.heap.size + 1) O1.out G1.out (by omega) hsW (by omega) (by omega) (by omega) (by omega) (.slice (some ⟨g, 0, none⟩) (s.length + 1) cap)
          have R2 := row_push (i := 0) (b0 := w.heap.size + 1) (u := .slice (some ⟨g, 0, none⟩) (s.length + 1) cap) O2.out G1.out AP.out (by omega)
          have R1 := ownsRow_setCell_below (a := ⟨w.heap.size + 1, 0, none⟩) HO1.out (by simp) (.slice (some ⟨g, 0, none⟩) (s.length + 1) cap)
          have S2 := S1.push (i := 0) (b0 := w.heap.size + 1 + 1) R2 G2.out (by omega) hsW (by omega) (by omega) (by omega) (by omega) (.slice (some ⟨g2, 0, none⟩) (n.length + 1) cap2)
          have S3 := S2.setCell (p := ⟨w.heap.size + 1 + 1 + 1, 0, none⟩) (by simp; omega) (by simp) (.int .i64 (x2))
          have B1 := below_push (i := 0) (b0 := w.heap.size + 1) HB.out (Nat.le_refl _) O1.out G1.out (by omega) (by omega) (.slice (some ⟨g, 0, none⟩) (s.length + 1) cap)
          have B2 := below_push (i := 0) (b0 := w.heap.size + 1 + 1) B1 (Nat.le_refl _) R2 G2.out (by omega) (by omega) (.slice (some ⟨g2, 0, none⟩) (n.length + 1) cap2)
          have N0 := own_ne O1.out (b := w.heap.size) (by omega)
          have N1 := own_ne R2 (b := w.heap.size) (by omega)
          have N2 := own_ne R2 (b := w.heap.size + 1) (by omega)
          exact ⟨S3.kf, S3.kb, s ++ [x2], n ++ [x3], x2, _, _, fun rest => by rw [List.append_assoc, Hgo.out]; exact highGo_on c0 HAt.out c5,
            blk_far (blk_push (blk_push K0.out G1.out N0 (by omega)) G2.out N1 (by omega)) (by simp; omega) _,
            blk_far (blk_push (blk_set (blk_grown G1.out (blk_alloc K1.out _) NE1.out) _) G2.out N2 (by omega)) (by simp) _,
            blk_far (blk_set J3.out _) (by simp) _,
            blk_set (blk_far J4.out (by simp) _) _,
            by rw [len_snoc]; exact ownsRow_setCell_below (row_push R1 G2.out (own_apart R1 R2 (show (2 : Nat) ≠ 3 by decide)) (by omega)) (by simp) _,
            by rw [len_snoc]; exact ownsRow_setCell_below (ownsRow_setCell_below HO2.out (by simp) _) (by simp) _,
            by simp; omega, by simp; omega, B2.setCell (by simp; omega) _, Nat.le_trans Hz.out S3.kf.size, Hk.out.trans S3.kb⟩
  case done =>
    rintro D W hD ⟨s, n, last, v1, v2, hgo, k0, k1, k2, k3, o1, o2, l1, l2, hB, hz, hk⟩ hK
    clear b0 b1 b2 b3 b4
    obtain ⟨A1, d1, rfl, _⟩ := own_form o1
    obtain ⟨A2, d2, rfl, _⟩ := own_form o2
    have p2 : W.cell? ⟨w.heap.size + 1, 0, none⟩ = some (.slice A1 s.length d1) := (blk_cell k1).trans rfl
    have p3 : W.cell? ⟨w.heap.size + 1 + 1, 0, none⟩ = some (.slice A2 n.length d2) := (blk_cell k2).trans rfl
    have Hgo := Lib.hid hgo
    have O1 := Lib.hid o1
    have O2 := Lib.hid o2
    have HB := Lib.hid hB
    have HK := Lib.hid hK
    clear hgo k0 k1 k2 k3 o1 o2 hB hk hz hK
    go_wp2
    go_quiet (fail)
    go_wp2
    rw [Exit.noGoto_ret]
    have hDw : w.heap.size ≤ D := by have := HB0.out.size; omega
    refine leave_mark (.tuple #[.slice A1 s.length d1, .slice A2 n.length d2]) HK.out (by simp [results, Try.results45]) (Ret.mk ⟨⟨A1, A2, d1, d2, s, n, rfl, by have h := Hgo.out []; simp only [List.append_nil, highGo] at h; exact h.symm, ownsRow_putObj (W := W.drewN _) (own_drewN (own_mono O1.out (by omega)) _) _ HK.out rfl, ownsRow_putObj (W := W.drewN _) (own_drewN (own_mono O2.out (by omega)) _) _ HK.out rfl⟩, below_put (below_drewN HB.out _) hDw _ HK.out⟩)
  case stop =>
    rintro D c pre W hD hp ⟨rfl, s, n, v1, v2, hgo, k1, k2, o1, o2, hB⟩ hK
    obtain ⟨rest, rfl⟩ := hp
    clear b0 b1 b2 b3 b4
    obtain ⟨A1, d1, rfl, _⟩ := own_form o1
    obtain ⟨A2, d2, rfl, _⟩ := own_form o2
    have p2 : W.cell? ⟨w.heap.size + 1, 0, none⟩ = some (.slice A1 s.length d1) := (blk_cell k1).trans rfl
    have p3 : W.cell? ⟨w.heap.size + 1 + 1, 0, none⟩ = some (.slice A2 n.length d2) := (blk_cell k2).trans rfl
    have Hgo := Lib.hid hgo
    have O1 := Lib.hid o1
    have O2 := Lib.hid o2
    have HB := Lib.hid hB
    have HK := Lib.hid hK
    clear hgo k1 k2 o1 o2 hB hK
    go_wp2
    go_quiet (fail)
    go_wp2
    rw [Exit.noGoto_ret]
    have hDw : w.heap.size ≤ D := by have := HB0.out.size; omega
    refine leave_mark (.tuple #[.slice A1 s.length d1, .slice A2 n.length d2]) HK.out (by simp [results, Try.results45]) (Ret.mk ⟨⟨A1, A2, d1, d2, s, n, rfl, (Hgo.out rest).symm, ownsRow_putObj (W := W.drewN _) (own_drewN (own_mono O1.out (by omega)) _) _ HK.out rfl, ownsRow_putObj (W := W.drewN _) (own_drewN (own_mono O2.out (by omega)) _) _ HK.out rfl⟩, below_put (below_drewN HB.out _) hDw _ HK.out⟩)
end Go.Proofs.Ytkjmeeggjmeajaa
