/- Spans. -/
import Derived.Test.YtkjmeeggjmeajaaC3
namespace Go.Proofs.Ytkjmeeggjmeajaa
open Go.RowKit Go.Shelf

theorem infoR : (Try.prog.info? 50).map (fun i => (i.zero, i.size, i.bytes)) = some (some (.agg #[.int .i64 0, .int .i64 0]), 2, 16) := by kernel_rfl
theorem short_same {l : List Rg} {ts us : List Tone} (h : Sorted l ts) (hg : GoodR l) (k : Sorted (l.map turnedR) us) : (greedy us (-1)).length = (greedy ts (-1)).length :=
  (greedy_short k hg.turned).unique (greedy_short h hg).turned
theorem song_GoodR {l : List Rg} (h : songErr l = 0) : GoodR l := song_good h
theorem inB_good {x : Int} (h0 : 0 ≤ x) (h1 : x ≤ 10000) : inB x := by unfold inB; omega
theorem own_below {w w' : World} {base : Nat} {e : TypeId} {size : Nat} {v : Value} {n : Nat} {xs : List Value} (h : w.ownsRow base e size v n xs) (hB : Below w.heap.size w w') : w'.ownsRow base e size v n xs :=
  ⟨h.1, h.2.imp id fun ⟨g, cap, cur, a, b, c, d⟩ => ⟨g, cap, cur, a, b, (hB.block g (blk_lt c)).trans c, d⟩⟩
def hiAt (ts : List Tone) : List Int := (greedy ts (-1)).map (·.2.1)
theorem highGo_hi {l : List Rg} {ts : List Tone} (h : Sorted l ts) (hg : GoodR l) {s n : List Int} (e : (s, n) = highGo (1, 0) ts [] [] (-1)) : s = hiAt ts ∧ n = (greedy ts (-1)).map (·.2.2) := by
  rw [highGo_open _ _ _ _ (sorted_good h hg)] at e
  simp only [List.nil_append, Prod.mk.injEq] at e
  exact e
theorem hiAt_good {l : List Rg} {ts : List Tone} (h : Sorted l ts) (hg : GoodR l) : ∀ x ∈ hiAt ts, 0 ≤ x ∧ x ≤ 10000 := fun x hx => by
  obtain ⟨t, ht, rfl⟩ := List.mem_map.1 hx
  have := hg (rT t) ((sorted_rT h _).2 ⟨t, (greedy_sub ts _).subset ht, rfl⟩)
  unfold rT at this; dsimp only at this ⊢; omega
def spansGo (up down : List Int) : List Rg := (List.range up.length).map fun k => (10000 - down.getD k 0, up.getD k 0)

theorem set_flat : ∀ (L : List Rg) (k : Nat) (x : Rg), ((L.flatMap encR).set (k * 2) (.int .i64 x.1)).set (k * 2 + 1) (.int .i64 x.2) = (L.set k x).flatMap encR
  | [], k, x => by simp
  | a :: L, 0, x => by simp [encR]
  | a :: L, k + 1, x => by
    have h := set_flat L k x
    rw [List.set_cons_succ, List.flatMap_cons, List.flatMap_cons, ← h]
    rw [show (k + 1) * 2 = k * 2 + 1 + 1 by omega]
    simp only [encR, List.cons_append, List.nil_append, List.set_cons_succ]
def fillR (sp : List Rg) (n k : Nat) : List Rg := sp.take k ++ List.replicate (n - k) (0, 0)
theorem fillR_len {sp : List Rg} {n k : Nat} (h : sp.length = n) (hk : k ≤ n) : (fillR sp n k).length = n := by simp [fillR]; omega
theorem fillR_set {sp : List Rg} {n k : Nat} (h : sp.length = n) (hk : k < n) {x : Rg} (hx : sp[k]? = some x) : (fillR sp n k).set k x = fillR sp n (k + 1) := by
  have hk' : k < sp.length := by omega
  have hx' : sp[k] = x := by rw [List.getElem?_eq_getElem hk'] at hx; injection hx
  unfold fillR
  rw [take_snoc hk' hx', List.set_append_right _ _ (by simp; omega), show k - (sp.take k).length = 0 by simp; omega, show n - k = (n - (k + 1)) + 1 by omega, List.replicate_succ, List.set_cons_zero, List.append_assoc]; rfl
theorem fillR_get {sp : List Rg} {n k : Nat} (h : sp.length = n) (hk : k < n) : (fillR sp n k)[k]? = some (0, 0) := by
  unfold fillR
  rw [List.getElem?_append_right (by simp; omega), show k - (sp.take k).length = 0 by simp; omega, show n - k = (n - (k + 1)) + 1 by omega, List.replicate_succ]; rfl
theorem flat_get1 : ∀ (L : List Rg) (k : Nat), (L.flatMap encR)[k * 2]? = (L[k]?).map fun r => .int .i64 r.1
  | [], k => by simp
  | a :: L, 0 => by simp [encR]
  | a :: L, k + 1 => by
    have h := flat_get1 L k
    rw [List.flatMap_cons, show (k + 1) * 2 = k * 2 + 1 + 1 by omega]
    simpa [encR] using h
theorem flat_get2 : ∀ (L : List Rg) (k : Nat), (L.flatMap encR)[k * 2 + 1]? = (L[k]?).map fun r => .int .i64 r.2
  | [], k => by simp
  | a :: L, 0 => by simp [encR]
  | a :: L, k + 1 => by
    have h := flat_get2 L k
    rw [List.flatMap_cons, show (k + 1) * 2 + 1 = k * 2 + 1 + 1 + 1 by omega]
    simpa [encR] using h
theorem fillR_all {sp : List Rg} {n : Nat} (h : sp.length = n) : fillR sp n n = sp := by unfold fillR; rw [Nat.sub_self, List.replicate_zero, List.append_nil, List.take_of_length_le (by omega)]
theorem flat_zero : ∀ n : Nat, (List.replicate n ((0, 0) : Rg)).flatMap encR = List.replicate (n * 2) (.int .i64 0)
  | 0 => rfl
  | n + 1 => by rw [List.replicate_succ, List.flatMap_cons, flat_zero n, show (n + 1) * 2 = n * 2 + 1 + 1 by omega, List.replicate_succ, List.replicate_succ]; rfl
theorem fillR_none (sp : List Rg) (n : Nat) : (fillR sp n 0).flatMap encR = List.replicate (n * 2) (.int .i64 0) := by unfold fillR; simp only [List.take_zero, List.nil_append, Nat.sub_zero]; exact flat_zero n
theorem made_zero (n : Nat) : (madeCells #[.int .i64 0, .int .i64 0] (n * 2)).toList = List.replicate (n * 2) (.int .i64 0) := by
  apply List.ext_getElem?
  intro j
  by_cases hj : j < n * 2
  · have : j % 2 = 0 ∨ j % 2 = 1 := by omega
    rcases this with e | e <;> simp [madeCells, hj, e]
  · simp [madeCells, hj]
theorem spansGo_len (up down : List Int) : (spansGo up down).length = up.length := by simp [spansGo]
theorem spansGo_get {up down : List Int} {k : Nat} (h1 : k < up.length) (h2 : k < down.length) {a b : Int} (ha : up[k] = a) (hb : down[k] = b) : (spansGo up down)[k]? = some (10000 - b, a) := by
  simp [spansGo, h1, h2, List.getD_eq_getElem?_getD, ha, hb]
theorem hiAt_pos {l : List Rg} {ts : List Tone} (h : Sorted l ts) (hg : GoodR l) (hl : 1 ≤ l.length) : 1 ≤ (hiAt ts).length := by
  have hm : l[0] ∈ l := List.getElem_mem hl
  obtain ⟨t, ht, e⟩ := (sorted_rT h _).1 hm
  obtain ⟨g, hgm, _⟩ := greedy_hits ts (-1) (sorted_good h hg) h.2 t ht (by have := (hg _ hm).1; rw [← e] at this; unfold rT at this; dsimp only at this; omega)
  exact List.length_pos_of_mem (List.mem_map.2 ⟨g, hgm, rfl⟩)

set_option maxRecDepth 100000 in
set_option maxHeartbeats 1000000 in
theorem spans_any (A : Option Addr) (ca : Nat) (l : List (Int × Int)) (w : World) (hl : RangesAt w A l) (hn : l.length ≤ 100000) :
    Calls Try.prog 23 #[.slice A l.length ca] w (Ret fun v w' => (songErr l ≠ 0 ∧ v = .tuple #[.slice none 0 0, .int .i64 (songErr l)] ∨ songErr l = 0 ∧ ∃ ts us B c sp, Sorted l ts ∧ Sorted (l.map turnedR) us ∧ sp = spansGo (hiAt ts) (hiAt us).reverse ∧ v = .tuple #[.slice B sp.length c, .int .i64 0] ∧
      sp.length ≤ c ∧ RangesAt w' B sp) ∧ Below w.heap.size w w') := by
  have Hl := Lib.hid hl; clear hl
  go_enter Try.func23, Try.ntmps23
  go_wp2_with fail
  refine (checkSong_any _ _ l _ Hl.out hn).mono ?_
  rintro e w1 ⟨v, rfl, rfl, hB1⟩
  have HB1 := Lib.hid hB1; clear hB1
  by_cases h0 : songErr l = 0
  · have hlen := song_len h0
    have hin := song_in h0
    have HG := Lib.hid (song_GoodR h0)
    have d0 : (songErr l != 0) = false := by simp [h0]
    have H0 := Lib.hid h0; clear h0
    have Hin := Lib.hid hin; clear hin
    go_wp2_with fail
    refine (newSong_any _ _ l _ (Hl.out.below HB1.out) (by omega) Hin.out).mono ?_
    rintro e w2 ⟨v, rfl, rfl, ⟨ts, hp, ho, hsa⟩, hB2⟩
    have HB2 := Lib.hid hB2; clear hB2
    have HS : Hid (Sorted l ts) := ⟨hp, ho⟩
    clear hp ho
    have Hsa := Lib.hid (SongAt.of hsa); clear hsa
    have hh := high_any (1, 0) w1.heap.size ts w2 Hsa.out (by rw [perm_len HS.out.1]; omega) ⟨inB1, inB0⟩
    unfold vR at hh
    have HH := Lib.hid hh; clear hh
    go_wp2_with fail
    refine HH.out.mono ?_
    rintro e w3 ⟨v, rfl, ⟨A1, B1, c1, d1, s, n, rfl, hg, ho1, ho2⟩, hB3⟩
    clear HH
    have HB3 := Lib.hid (below_trans' (below_trans' HB1.out HB2.out) hB3); clear hB3
    have hs := (highGo_hi HS.out HG.out hg).1
    have hsl : s.length ≤ 100000 := by
      have h1 := (highGo_len (1, 0) ts [] [] (-1)).1
      rw [← hg] at h1
      have h2 := perm_len HS.out.1
      simp at h1; omega
    have Hs := Lib.hid hs
    have HO1 := Lib.hid ho1
    clear hg ho1 ho2 hs
    go_wp2
    go_loopw [7, 28] (fun v i wr => ∃ (k : Nat), k ≤ l.length ∧ i = .int .i64 k ∧ wr.ownsRow w3.heap.size 50 2 v ((l.take k).map turnedR).length (((l.take k).map turnedR).flatMap encR) ∧ Below w3.heap.size w3 wr) (fun _ i _ => l.length - (intOf i).toNat)
    case atStart => exact ⟨0, by omega, rfl, World.ownsRow_nil _ _ _ _, Below.refl _ _⟩
    case round =>
      obtain ⟨k, hk, rfl, hown, hB⟩ := hrel
      have HB := Lib.hid hB
      obtain ⟨T, hT⟩ : ∃ T, T = (l.take k).map turnedR := ⟨_, rfl⟩
      rw [← hT] at hown
      have hTl : T.length ≤ 100000 := by rw [hT]; simp; omega
      have HT := Lib.hid hT
      have Hown := Lib.hid hown
      clear hB hown hT
      by_cases hkn : k < l.length
      · have HL1 := Lib.hid ((Hl.out.below HB3.out).below HB.out)
        obtain ⟨b1, o1, rfl, p1, p2⟩ := HL1.out.at_ hkn
        have hgd := HG.out l[k] (List.getElem_mem hkn)
        have htk := take_snoc hkn rfl
        generalize hx : l[k] = x at p1 p2 hgd htk
        have Hx := Lib.hid hx; clear hx
        have Htk := Lib.hid htk; clear htk
        obtain ⟨x1, x2⟩ := x
        dsimp only at p1 p2 hgd
        have htu := turned_any (x1, x2) (inB_good (by dsimp only; omega) (by dsimp only; omega)) (inB_good (by dsimp only; omega) (by dsimp only; omega)) (wr.alloc (.cells #[.int .i64 x1, .int .i64 x2] 50))
        simp only [vR, turnedR] at htu
        have Htu := Lib.hid htu; clear htu
        have q1 : (wr.alloc (.cells #[.int .i64 x1, .int .i64 x2] 50)).cell? ⟨wr.heap.size, 0, none⟩ = some (.int .i64 x1) := new2_0 _ _ _ _
        have q2 : (wr.alloc (.cells #[.int .i64 x1, .int .i64 x2] 50)).cell? ⟨wr.heap.size, 1, none⟩ = some (.int .i64 x2) := new2_1 _ _ _ _
        go_wp2_with fail
        refine Htu.out.mono ?_
        rintro e w4 ⟨v4, rfl, rfl, hB4⟩
        have HB4 := Lib.hid hB4; clear hB4
        have hz4 : wr.heap.size + 1 ≤ w4.heap.size := by have := HB4.out.size; simpa using this
        have hz3 := HB.out.size
        have Hown4 := Lib.hid ((own_below (Hown.out.alloc (.cells #[.int .i64 x1, .int .i64 x2] 50)) HB4.out).alloc (.cells #[.int .i64 (10000 - x2), .int .i64 (10000 - x1)] 50))
        go_wp2_with (at_builtin; refine wpList_push _ rfl (.tmp 32) (.tmp 35) _ rfl elemR encR_len oneR Try.underlying22 w3.heap.size _ T rfl Hown4.out hTl (turnedR (x1, x2)) _ rfl _ (by rfl) _ _ (heap_alloc_new _ _) (by rw [World.size_alloc]; omega) ?_; intro g cap w5 hown5 hg5; have Hown5 := Lib.hid hown5; have HG5 := Lib.hid hg5; clear hown5 hg5)
        go_roundw
        case rel => exact ⟨k + 1, by omega, by go_num, by rw [Htk.out, List.map_append, List.map_cons, List.map_nil, ← HT.out, len_snoc]; exact Hown5.out, (below_alloc' (below_trans' (below_alloc' HB.out _) HB4.out) _).grown HG5.out (by rw [World.size_alloc]; omega) (fun r e => own_base Hown.out r e)⟩
        case measure => simp [intOf]; omega
      · have hkl : k = l.length := by omega
        subst hkl
        have hown := Hown.out
        rw [HT.out, List.take_length] at hown
        obtain ⟨A3, c3, rfl, _⟩ := own_form hown
        have HR3 : Hid (RangesAt wr A3 (l.map turnedR)) := RowsAt.of_own encR_len hown
        rw [List.length_map] at hown
        clear hown
        have HBw := Lib.hid (below_trans' HB3.out HB.out)
        have HGt := Lib.hid HG.out.turned
        have Hlt : Hid ((l.map turnedR).length = l.length) := List.length_map _
        have hns := newSong_any A3 c3 (l.map turnedR) wr HR3.out (by rw [Hlt.out]; omega) (fun x hx => by have := HGt.out x hx; exact inB_good (by omega) (by omega))
        rw [Hlt.out] at hns
        have Hns := Lib.hid hns; clear hns
        go_wp2_with fail
        refine Hns.out.mono ?_
        rintro e w5 ⟨v, rfl, rfl, ⟨us, hp, ho, hsa⟩, hB5⟩
        have HB5 := Lib.hid hB5; clear hB5
        have HU : Hid (Sorted (l.map turnedR) us) := ⟨by first | exact hp | (rw [Hlt.out]; exact hp), ho⟩
        clear hp ho
        have Hsa2 := Lib.hid (SongAt.of hsa); clear hsa
        have hh := high_any (1, 0) wr.heap.size us w5 Hsa2.out (by rw [perm_len HU.out.1, Hlt.out]; omega) ⟨inB1, inB0⟩
        unfold vR at hh
        have HH := Lib.hid hh; clear hh
        go_wp2_with fail
        refine HH.out.mono ?_
        rintro e w6 ⟨v, rfl, ⟨A2, B2, c2, d2, s2, n2, rfl, hg2, ho1, ho2⟩, hB6⟩
        clear HH Hns
        have HB6 := Lib.hid (below_trans' (below_trans' HB.out HB5.out) hB6); clear hB6
        have hs2 := (highGo_hi HU.out HGt.out hg2).1
        have hll : s2.length = s.length := by rw [hs2, Hs.out]; unfold hiAt; rw [List.length_map, List.length_map]; exact short_same HS.out HG.out HU.out
        have hpos : 1 ≤ s.length := by rw [Hs.out]; exact hiAt_pos HS.out HG.out (by omega)
        obtain ⟨g, c2', hv2, _⟩ := ho1.form (by omega)
        injection hv2 with hA2 _ hc2
        subst hA2
        clear hc2
        clear hg2 ho2
        have Hs2 := Lib.hid hs2; clear hs2
        have HO2 := Lib.hid ho1; clear ho1
        have Hll := Lib.hid hll; clear hll
        have hgb := own_base HO2.out g rfl
        go_wp2_with fail
        refine (rev_any _ g c2 s2 w6 HO2.out (by rw [Hll.out]; exact hsl)).mono ?_
        rintro e w7 ⟨v, rfl, hown7, hg7⟩
        have HB7 : Hid (Below w3.heap.size w3 w7) := HB6.out.grown hg7 HB6.out.size (fun k e => by cases e; have := HB.out.size; have := HB5.out.size; omega)
        have HR2 : Hid (IntsAt w7 (some ⟨g, 0, none⟩) s2.reverse) := RowsAt.of_own encI_len (by rw [List.length_reverse]; exact hown7)
        have HR1 : Hid (IntsAt w7 A1 s) := (RowsAt.of_own encI_len HO1.out).below HB7.out
        clear hown7 hg7
        obtain ⟨i0, hi, hz0, hz1, hz2⟩ := info_parts infoR
        have hm8 := run_make_full (P := Try.prog) w7 w7.heap.size 22 50 i0 (.agg #[.int .i64 0, .int .i64 0]) 2 Try.underlying22 hi hz0 hz1 .i64 .i64 s.length (by rw [hz2]; omega) (by simp only [maxLen]; omega) (Nat.le_refl _)
        obtain ⟨w8, hm8⟩ := hm8
        obtain ⟨hmk, r1, r2⟩ := hm8
        obtain ⟨sp, hsp⟩ : ∃ sp, sp = spansGo s s2.reverse := ⟨_, rfl⟩
        have hspl : sp.length = s.length := by rw [hsp, spansGo_len]
        have HB8 : Hid (Below w7.heap.size w7 w8) := (Below.refl _ _).grown r2 (Nat.le_refl _) (fun k e => by cases e)
        have HO8 : Hid (w8.ownsRow w7.heap.size 50 2 (.slice (some ⟨w7.heap.size, 0, none⟩) s.length s.length) s.length ((fillR sp s.length 0).flatMap encR)) := by rw [fillR_none, ← made_zero]; exact r1
        have Hsp := Lib.hid hsp
        have Hspl := Lib.hid hspl
        clear r1 r2 hi hz0 hz1 hz2 hsp hspl
        go_wp2
        go_loopw [13, 52] (fun _ i wr => ∃ (k : Nat), k ≤ s.length ∧ i = .int .i64 k ∧ wr.ownsRow w7.heap.size 50 2 (.slice (some ⟨w7.heap.size, 0, none⟩) s.length s.length) s.length ((fillR sp s.length k).flatMap encR) ∧ Below w7.heap.size w7 wr) (fun _ i _ => s.length - (intOf i).toNat)
        case atStart => exact ⟨0, by omega, rfl, HO8.out, HB8.out⟩
        case round =>
          obtain ⟨k, hk, rfl, hown, hB⟩ := hrel
          have HB9 := Lib.hid hB
          have Hown := Lib.hid hown
          clear hB hown
          by_cases hkn : k < s.length
          · have hks2 : k < s2.reverse.length := by rw [List.length_reverse, Hll.out]; exact hkn
            obtain ⟨b1, o1, hb1, p1⟩ := IntsAt.at_ (HR1.out.below HB9.out) hkn
            obtain ⟨b2, o2, hb2, p2⟩ := IntsAt.at_ (HR2.out.below HB9.out) hks2
            generalize hx : s[k] = x at p1
            generalize hy : s2.reverse[k] = y at p2
            have hget : sp[k]? = some (10000 - y, x) := by rw [Hsp.out]; exact spansGo_get hkn hks2 hx hy
            have Hget := Lib.hid hget
            subst hb1
            cases hb2
            rw [Nat.zero_add] at p2
            have hx1 : 0 ≤ x ∧ x ≤ 10000 := by rw [← hx]; exact hiAt_good HS.out HG.out _ (by rw [← Hs.out]; exact List.getElem_mem hkn)
            have hy1 : 0 ≤ y ∧ y ≤ 10000 := by rw [← hy]; exact hiAt_good HU.out HGt.out _ (by rw [← Hs2.out]; exact List.mem_reverse.1 (List.getElem_mem hks2))
            have hk2 : k < s2.length := by rw [Hll.out]; exact hkn
            clear hks2 hx hy hget
            have q1 : wr.cell? ⟨w7.heap.size, k * 2, none⟩ = some (.int .i64 0) := by rw [Hown.out.cellAt _ (by omega), flat_get1, fillR_get Hspl.out hkn]; rfl
            have q2 : wr.cell? ⟨w7.heap.size, k * 2 + 1, none⟩ = some (.int .i64 0) := by rw [Hown.out.cellAt _ (by omega), flat_get2, fillR_get Hspl.out hkn]; rfl
            have f1 := Hown.out.frozenAt (k * 2)
            have f2 := Hown.out.frozenAt (k * 2 + 1)
            go_wp2
            go_big_region
            go_wp2
            go_roundw
            case rel => exact ⟨k + 1, by omega, by go_num, by rw [← fillR_set Hspl.out hkn Hget.out, ← set_flat]; exact ((Hown.out.stored _ _).1.stored _ _).1.drew, ((HB9.out.setCell (by simp) _).setCell (by simp) _).drew⟩
            case measure => simp [intOf]; omega
          · have hkl : k = s.length := by omega
            subst hkl
            have hown := Hown.out
            rw [fillR_all Hspl.out, ← Hspl.out] at hown
            have HR : Hid (RangesAt wr (some ⟨w7.heap.size, 0, none⟩) sp) := RowsAt.of_own encR_len hown
            clear hown
            go_wp2
            go_ret2
            exact Ret.mk' rfl ⟨.inr ⟨H0.out, ts, us, some ⟨w7.heap.size, 0, none⟩, s.length, sp, HS.out, HU.out, by rw [Hsp.out, Hs.out, Hs2.out], by rw [Hspl.out]; rfl, by rw [Hspl.out]; exact Nat.le_refl _, HR.out⟩, below_trans' (below_trans' HB3.out HB7.out) HB9.out⟩
  · have d0 : (songErr l != 0) = true := by simpa using h0
    go_wp2
    go_ret2
    exact Ret.mk' rfl ⟨.inl ⟨h0, rfl⟩, HB1.out⟩
end Go.Proofs.Ytkjmeeggjmeajaa
