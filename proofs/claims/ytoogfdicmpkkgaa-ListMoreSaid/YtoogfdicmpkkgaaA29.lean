/- kinds. -/
import Derived.Test.YtoogfdicmpkkgaaB4
namespace Go.Proofs.Ytoogfdicmpkkgaa
open Go.RowKit Go.Shelf Go.Maps Match

/-- which kind a link of a valid sheet has, by how many links greatest joinings have -/
def kindV (kn fr : Bool) (n a b : Nat) : Int := if kn || (fr && decide (a < n)) then 2 else if fr && decide (1 + b = n) then 1 else 0
def KindIs (s : Sh) (k : Nat) (v : Int) : Prop := ∃ n a b, IsMost (netOf s.l) (freeP s) n ∧ IsMost (netOf s.l) (noneOf s k) a ∧ IsMost (netOf s.l) (farOf s k) b ∧ v = kindV (s.t.contains (k : Int)) (freeP s k) n a b
theorem KeepJ.grown' {jb mb : Nat} {X Y : World} (h : KeepJ X.heap.size jb mb X Y) (h1 : X.heap.size ≤ mb) : X.grownBy Y (some jb) :=
  ⟨h.os, h.tape, h.output, h.size, fun i hi hne => h.block i hi (fun e => hne (by rw [e])) (by omega)⟩
theorem countOf_le (P : Partners) : countOf P ≤ 12 := by
  unfold countOf
  have := List.countP_le_length (p := fun r => (P r).isSome) (l := List.range 12)
  simpa using this
theorem getD_snoc {l : List Int} {x : Int} {j : Nat} : (l ++ [x]).getD j 0 = if j = l.length then x else l.getD j 0 := by
  by_cases h : j < l.length
  · rw [if_neg (by omega)]; simp [List.getD_eq_getElem?_getD, List.getElem?_append_left h]
  · by_cases e : j = l.length
    · subst e; simp
    · rw [if_neg e]; simp [List.getD_eq_getElem?_getD, List.getElem?_eq_none (show l.length ≤ j by omega), List.getElem?_eq_none (show (l ++ [x]).length ≤ j by simp; omega)]
theorem kinds_snoc {s : Sh} {ks : List Int} {v : Int} (h : ∀ j, j < ks.length → KindIs s j (ks.getD j 0)) (hv : KindIs s ks.length v) : ∀ j, j < (ks ++ [v]).length → KindIs s j ((ks ++ [v]).getD j 0) := fun j hj => by
  rw [getD_snoc]
  by_cases e : j = ks.length
  · rw [if_pos e, e]; exact hv
  · rw [if_neg e]; exact h j (by simp at hj; omega)

theorem there_grown {w w' : World} {b o n : Nat} {row : Option Nat} (h : w.there b o n) (hg : w.grownBy w' row) (hne : some b ≠ row) : w'.there b o n := fun j hj => by
  obtain ⟨h1, h2⟩ := h j hj
  obtain ⟨v, hv⟩ := Option.isSome_iff_exists.1 h1
  have e := hg.block b (block_lt_of_cell hv) hne
  exact ⟨by rw [World.cell?_of_block (a := ⟨b, o + j, none⟩) e]; exact h1, (World.frozen?_of_block (a := ⟨b, o + j, none⟩) e).trans h2⟩
theorem row_ne {w : World} {base b : Nat} {e : TypeId} {size : Nat} {v : Value} {n : Nat} {xs : List Value} (h : w.ownsRow base e size v n xs) (hb : b < base) : v.ownBlock = none ∨ v.ownBlock ≠ some b := by
  cases hv : v.ownBlock with
  | none => exact .inl rfl
  | some g => exact .inr (fun e => by injection e with e; have := (h.lt g hv).1; omega)
theorem head_grown {n0 jb : Nat} {X Y : World} {s : Sh} {row : Option Nat} (h : Head n0 X jb s) (hg : X.grownBy Y row) (hr : ∀ r, row = some r → jb < r) (hn : n0 ≤ jb) : Head n0 Y jb s :=
  h.keep (n := n0) (mb := n0) ((KeepJ.refl n0 jb n0 X).grown hg (by have := h.lt; omega) h.lt (fun r e => ⟨.inl (by have := hr r e; omega), by have := hr r e; omega⟩)) (Nat.le_refl _) (Nat.le_refl _)
set_option maxRecDepth 100000 in
set_option maxHeartbeats 2000000 in
theorem kinds_any (s : Sh) (w : World) (hl : RangesAt w s.A s.l) (ht : IntsAt w s.B s.t) (hm : s.t.length ≤ 1000) (hS : Sheet s.L s.R s.l s.t) :
    Calls Try.prog 57 #[s.v] w (Ret fun v w' => (∃ G c ks, v = .slice G ks.length c ∧ IntsAt w' G ks ∧ ks.length = s.l.length ∧ ks.length ≤ c ∧ ∀ j, j < ks.length → KindIs s j (ks.getD j 0)) ∧ Below w.heap.size w w') := by
  have HS := Lib.hid hS; clear hS
  have hlen : s.l.length ≤ 40 := HS.out.many
  have Hl := Lib.hid hl; clear hl
  have Ht := Lib.hid ht; clear ht
  have hX := heap_alloc_new w (.cells #[.int .i64 s.L, .int .i64 s.R, .slice s.A s.l.length s.ca, .slice s.B s.t.length s.cb] 25)
  have hB0 : Below w.heap.size w (w.alloc (.cells #[.int .i64 s.L, .int .i64 s.R, .slice s.A s.l.length s.ca, .slice s.B s.t.length s.cb] 25)) := below_alloc' (Below.refl _ _) _
  have hnj := newJoiner_any s (w.alloc (.cells #[.int .i64 s.L, .int .i64 s.R, .slice s.A s.l.length s.ca, .slice s.B s.t.length s.cb] 25)) (Hl.out.below hB0) (Ht.out.below hB0) (by omega) HS.out.known HS.out.in12
  have hsz0 : (w.alloc (.cells #[.int .i64 s.L, .int .i64 s.R, .slice s.A s.l.length s.ca, .slice s.B s.t.length s.cb] 25)).heap.size = w.heap.size + 1 := World.size_alloc _ _
  unfold Sh.v vSheet at hnj ⊢
  have Hnj := Lib.hid hnj; clear hnj
  go_enter Try.func57, Try.ntmps57
  go_wp2_with fail
  refine Hnj.out.mono ?_
  rintro e w2 ⟨v, rfl, ⟨jb, rfl, hj, ha⟩, hB2⟩
  have hX2 := blk_below hB2 hX
  have hs12 := hB2.size
  have hbj := hj.base
  have HB2 := Lib.hid (below_trans' hB0 hB2)
  rw [hsz0] at hj hs12 hbj
  have hjl := hj.lt
  clear hB2 hB0 hX Hnj hsz0
  have hal : Below w2.heap.size w2 (w2.alloc (.cells #[.pointer (some ⟨jb, 0, none⟩)] 62)) := below_alloc' (Below.refl _ _) _
  have hx3 := blk_below hal hX2
  have hb3 := heap_alloc_new w2 (.cells #[.pointer (some ⟨jb, 0, none⟩)] 62)
  have hj3 := hj.below hal
  have ht3 := (ha.below hal).there
  have HB3 := Lib.hid (below_trans' HB2.out hal)
  have hsz3 : (w2.alloc (.cells #[.pointer (some ⟨jb, 0, none⟩)] 62)).heap.size = w2.heap.size + 1 := World.size_alloc _ _
  have y3 : (w2.alloc (.cells #[.pointer (some ⟨jb, 0, none⟩)] 62)).cell? ⟨w2.heap.size, 0, none⟩ = some (.pointer (some ⟨jb, 0, none⟩)) := (blk_cell hb3).trans rfl
  have hL12 : 0 ≤ s.L ∧ s.L ≤ 12 := by have := HS.out.dim; omega
  have Hc2 := Lib.hid (join_any jb (w.heap.size + 1) s 42 #[.pointer (some ⟨jb, 0, none⟩)] #[] (freeP s) (w2.alloc (.cells #[.pointer (some ⟨jb, 0, none⟩)] 62)) hj3 ht3 hL12 (by omega) HS.out.in12 enters42 (allows_free hj3 (by omega) (by omega) HS.out.in12))
  go_upto_region 2 with fail
  clear hal hX2 ha hj
  generalize w2.alloc (.cells #[.pointer (some ⟨jb, 0, none⟩)] 62) = w3 at *
  generalize hb3n : w2.heap.size = b3 at *
  go_wp2_with fail
  refine Hc2.out.mono ?_
  rintro e w4 ⟨v, rfl, n, P, D, rfl, hq⟩
  obtain ⟨hinv, _, har, hnum, hkeep⟩ := hq
  have HN := Lib.hid (most_of hinv HS.out)
  have hgk := hkeep.grown' (Nat.le_refl _)
  have hj4 := hj3.keep hkeep (by omega) (by omega)
  have ht4 := har.there
  have hx4 := blk_grown hgk hx3 (by simp; omega)
  have hb4 := blk_grown hgk hb3 (by simp; omega)
  have HB4 := Lib.hid (HB3.out.trans (hkeep.toBelow (B := w.heap.size) (by omega) (by omega) (by omega)))
  have hs4 := hkeep.size
  have hnc := countOf_le P
  subst hnum
  generalize hcn : countOf P = n at *
  clear Hc2 hinv har hkeep hgk hj3 ht3 hx3 hb3 y3 hcn

  have x2 : w4.cell? ⟨w.heap.size, 2, none⟩ = some (.slice s.A s.l.length s.ca) := (blk_cell hx4).trans rfl
  go_wp2
  clear x2
  go_loopw [5, 19] (fun ov i wr => ∃ (ks : List Int), ks.length ≤ s.l.length ∧ i = .int .i64 ks.length ∧ wr.ownsRow (b3 + 1) 3 1 ov ks.length (ks.flatMap encI) ∧ Hid (∀ j, j < ks.length → KindIs s j (ks.getD j 0)) ∧ Head (w.heap.size + 1) wr jb s ∧ wr.there jb 28 12 ∧ wr.heap[w.heap.size]? = some (.cells #[.int .i64 s.L, .int .i64 s.R, .slice s.A s.l.length s.ca, .slice s.B s.t.length s.cb] 25 (0, 0)) ∧ wr.heap[b3]? = some (.cells #[.pointer (some ⟨jb, 0, none⟩)] 62 (0, 0)) ∧ Below w.heap.size w wr) (fun _ i _ => s.l.length - (intOf i).toNat)
  case atStart => exact ⟨[], by simp, rfl, World.ownsRow_nil w4 (b3 + 1) 3 1, (fun j hj => absurd hj (by simp)), hj4, ht4, hx4, hb4, HB4.out⟩
  case round =>
    clear hj4 ht4 hx4 hb4 HB4
    obtain ⟨ks, hk, rfl, how, HK, hjr, htr, hxr, hbr, hBr⟩ := hrel
    obtain ⟨k, hkk⟩ : ∃ k, k = ks.length := ⟨_, rfl⟩
    by_cases hkn : ks.length < s.l.length
    · obtain ⟨b4, o4, hb4, _, p1, p2⟩ := hjr.links ks.length hkn
      have hat := atL_eq hkn
      generalize s.l[ks.length] = lx at p1 p2 hat
      obtain ⟨xa, xb⟩ := lx
      dsimp only at p1 p2
      have c2 : wr.cell? ⟨w.heap.size, 2, none⟩ = some (.slice s.A s.l.length s.ca) := (blk_cell hxr).trans rfl
      have hal : Below wr.heap.size wr ((wr.alloc (.cells #[.int .i64 ks.length] 3)).alloc (.cells #[.int .i64 xa, .int .i64 xb] 55)) := below_alloc' (below_alloc' (Below.refl _ _) _) _
      have hb6 : ((wr.alloc (.cells #[.int .i64 ks.length] 3)).alloc (.cells #[.int .i64 xa, .int .i64 xb] 55)).heap[wr.heap.size]? = some (.cells #[.int .i64 ks.length] 3 (0, 0)) := blk_alloc (heap_alloc_new _ _) _
      have hb7 : ((wr.alloc (.cells #[.int .i64 ks.length] 3)).alloc (.cells #[.int .i64 xa, .int .i64 xb] 55)).heap[wr.heap.size + 1]? = some (.cells #[.int .i64 xa, .int .i64 xb] 55 (0, 0)) := heap_alloc_at _ _ (by simp)
      have hsv : ((wr.alloc (.cells #[.int .i64 ks.length] 3)).alloc (.cells #[.int .i64 xa, .int .i64 xb] 55)).heap.size = wr.heap.size + 2 := by simp
      have hjv := hjr.below hal
      have htv : ((wr.alloc (.cells #[.int .i64 ks.length] 3)).alloc (.cells #[.int .i64 xa, .int .i64 xb] 55)).there jb 28 12 := there_grown htr (grown_below hal) (by simp)
      have hxv := blk_below hal hxr
      have hbv := blk_below hal hbr
      have how1 := (how.alloc (.cells #[.int .i64 ks.length] 3)).alloc (.cells #[.int .i64 xa, .int .i64 xb] 55)
      have HBV := Lib.hid (below_trans' hBr hal)
      have hlb := blk_lt hbr
      have hlx := blk_lt hxr
      have ik0 : (0 : Int) ≤ (ks.length : Int) := by omega
      have ik1 : (ks.length : Int) < (s.l.length : Int) := by omega
      have hsA := hb4
      rw [hb4] at c2
      go_upto_region 7 with fail
      clear hal p1 p2 c2 hjr htr hxr hbr hBr how
      generalize (wr.alloc (.cells #[.int .i64 ks.length] 3)).alloc (.cells #[.int .i64 xa, .int .i64 xb] 55) = v1 at *
      generalize hb6n : wr.heap.size = b6 at *
      have y3 : v1.cell? ⟨b3, 0, none⟩ = some (.pointer (some ⟨jb, 0, none⟩)) := (blk_cell hbv).trans rfl
      have hal1 : Allows 81 #[] #[.pointer (some ⟨b3, 0, none⟩), .pointer (some ⟨b6, 0, none⟩)] s.l.length v1.heap.size jb v1.heap.size v1 (noneOf s ks.length) := fun W x hW hx =>
        k81_any (w.heap.size + 1) jb b3 b6 s ks.length x W (hjv.keep hW (by omega) (by omega)) hx HS.out.in12 (hW.cell (by omega) (by omega) (by omega) y3) (hW.cell (by omega) (by omega) (by omega) ((blk_cell hb6).trans rfl))
      have Hc1 := Lib.hid (join_any jb (w.heap.size + 1) s 81 #[] #[.pointer (some ⟨b3, 0, none⟩), .pointer (some ⟨b6, 0, none⟩)] (noneOf s ks.length) v1 hjv htv hL12 (by omega) HS.out.in12 enters81 hal1)
      clear hal1
      go_wp2_with fail
      refine Hc1.out.mono ?_
      rintro e v2 ⟨v, rfl, na, P1, D1, rfl, hq1⟩
      obtain ⟨hinv1, _, har1, hnum1, hkeep1⟩ := hq1
      have HM1 := Lib.hid (most_of hinv1 HS.out)
      have hgk1 := hkeep1.grown' (Nat.le_refl _)
      have hj2 := hjv.keep hkeep1 (by omega) (by omega)
      have hx2 := blk_grown hgk1 hxv (by simp; omega)
      have hbv2 := blk_grown hgk1 hbv (by simp; omega)
      have hb62 := blk_grown hgk1 hb6 (by simp; omega)
      have hb72 := blk_grown hgk1 hb7 (by simp; omega)
      have how2 := how1.kept hgk1 (row_ne how1 (by omega))
      have HBV2 := Lib.hid (HBV.out.trans (hkeep1.toBelow (B := w.heap.size) (by omega) (by omega) (by omega)))
      have hs2 := hkeep1.size
      have hac := countOf_le P1
      subst hnum1
      generalize hcn : countOf P1 = na at *
      clear Hc1 hinv1 hkeep1 hgk1 hjv htv hxv hbv hb6 hb7 how1 y3 hcn
      have hth2 := har1.there
      clear har1
      have y3 : v2.cell? ⟨b3, 0, none⟩ = some (.pointer (some ⟨jb, 0, none⟩)) := (blk_cell hbv2).trans rfl
      have hal2 : Allows 82 #[] #[.pointer (some ⟨b3, 0, none⟩), .pointer (some ⟨w.heap.size, 0, none⟩), .pointer (some ⟨b6 + 1, 0, none⟩)] s.l.length v2.heap.size jb v2.heap.size v2 (farOf s ks.length) := fun W x hW hx =>
        k82_any (w.heap.size + 1) jb b3 w.heap.size (b6 + 1) s ks.length x xa xb W (hj2.keep hW (by omega) (by omega)) hx HS.out.in12 (hW.cell (by omega) (by omega) (by omega) y3) (hW.cell (by omega) (by omega) (by omega) ((blk_cell hx2).trans rfl)) hat (hW.cell (by omega) (by omega) (by omega) ((blk_cell hb72).trans rfl)) (hW.cell (by omega) (by omega) (by omega) ((blk_cell hb72).trans rfl))
      have Hc2 := Lib.hid (join_any jb (w.heap.size + 1) s 82 #[] #[.pointer (some ⟨b3, 0, none⟩), .pointer (some ⟨w.heap.size, 0, none⟩), .pointer (some ⟨b6 + 1, 0, none⟩)] (farOf s ks.length) v2 hj2 hth2 hL12 (by omega) HS.out.in12 enters82 hal2)
      clear hal2
      go_wp2_with fail
      refine Hc2.out.mono ?_
      rintro e v3 ⟨v, rfl, nb, P2, D2, rfl, hq2⟩
      obtain ⟨hinv2, _, har2, hnum2, hkeep2⟩ := hq2
      have HM2 := Lib.hid (most_of hinv2 HS.out)
      have hgk2 := hkeep2.grown' (Nat.le_refl _)
      have hj3 := hj2.keep hkeep2 (by omega) (by omega)
      have hx3 := blk_grown hgk2 hx2 (by simp; omega)
      have hbv3 := blk_grown hgk2 hbv2 (by simp; omega)
      have hb63 := blk_grown hgk2 hb62 (by simp; omega)
      have how3 := how2.kept hgk2 (row_ne how2 (by omega))
      have HBV3 := Lib.hid (HBV2.out.trans (hkeep2.toBelow (B := w.heap.size) (by omega) (by omega) (by omega)))
      have hs3 := hkeep2.size
      have hbc := countOf_le P2
      subst hnum2
      generalize hcn : countOf P2 = nb at *
      have hth3 := har2.there
      clear Hc2 hinv2 har2 hkeep2 hgk2 hj2 hth2 hx2 hbv2 hb62 hb72 how2 y3 hcn hsA
      have HKD := Lib.hid (fun fr kn (h1 : freeP s ks.length = fr) (h2 : s.t.contains (ks.length : Int) = kn) => (show KindIs s ks.length (kindV kn fr n na nb) from ⟨n, na, nb, HN.out, HM1.out, HM2.out, by rw [h1, h2]⟩))
      have hw1 : IntKind.i64.wrap (1 + (nb : Int)) = 1 + (nb : Int) := IntWalk.i64_in _ (by omega)
      have k3 : v3.cell? ⟨w.heap.size, 3, none⟩ = some (.slice s.B s.t.length s.cb) := (blk_cell hx3).trans rfl
      have k6 : v3.cell? ⟨b6, 0, none⟩ = some (.int .i64 ks.length) := (blk_cell hb63).trans rfl
      have Hc3 := Lib.hid (containsI_any s.B s.cb s.t ks.length v3 (Ht.out.below HBV3.out) (by omega))
      rw [contains_any] at Hc3
      go_wp2_with fail
      refine Hc3.out.mono ?_
      rintro e v4 ⟨v, rfl, rfl, hB4⟩
      have hj4 := hj3.below hB4
      have hth4 := there_grown hth3 (grown_below hB4) (by simp)
      have hx4 := blk_below hB4 hx3
      have hb4' := blk_below hB4 hbv3
      have hb64 := blk_below hB4 hb63
      have how4 := how3.kept (grown_below hB4) (Classical.em _)
      have HBV4 := Lib.hid (below_trans' HBV3.out hB4)
      have hs4' := hB4.size
      have k3' : v4.cell? ⟨b3, 0, none⟩ = some (.pointer (some ⟨jb, 0, none⟩)) := (blk_cell hb4').trans rfl
      have k6' : v4.cell? ⟨b6, 0, none⟩ = some (.int .i64 ks.length) := (blk_cell hb64).trans rfl
      clear Hc3 hB4 hj3 hth3 hx3 hbv3 hb63 how3 k3 k6
      cases hkn2 : s.t.contains (ks.length : Int)
      · have HKN := Lib.hid hkn2
        clear hkn2
        have Hc4 := Lib.hid (free_any (w.heap.size + 1) jb s ks.length v4 hj4 hkn HS.out.in12)
        rw [show (!takenB s.l s.t ks.length) = freeP s ks.length from rfl] at Hc4
        go_wp2_with fail
        refine Hc4.out.mono ?_
        rintro e v5 ⟨v, rfl, rfl, hB5⟩
        have hj5 := hj4.below hB5
        have hth5 := there_grown hth4 (grown_below hB5) (by simp)
        have hx5 := blk_below hB5 hx4
        have hb5' := blk_below hB5 hb4'
        have hb65 := blk_below hB5 hb64
        have how5 := how4.kept (grown_below hB5) (Classical.em _)
        have HBV5 := Lib.hid (below_trans' HBV4.out hB5)
        have hs5' := hB5.size
        clear k3' k6'
        have k3' : v5.cell? ⟨b3, 0, none⟩ = some (.pointer (some ⟨jb, 0, none⟩)) := (blk_cell hb5').trans rfl
        have k6' : v5.cell? ⟨b6, 0, none⟩ = some (.int .i64 ks.length) := (blk_cell hb65).trans rfl
        clear Hc4 hB5 hj4 hth4 hx4 hb4' hb64 how4
        cases hfr : freeP s ks.length
        · have HFR := Lib.hid hfr
          clear hfr
          have Hc4 := Lib.hid (free_any (w.heap.size + 1) jb s ks.length v5 hj5 hkn HS.out.in12)
          rw [show (!takenB s.l s.t ks.length) = freeP s ks.length from rfl, HFR.out] at Hc4
          go_wp2_with fail
          refine Hc4.out.mono ?_
          rintro e v6 ⟨v, rfl, rfl, hB5⟩
          have hj6 := hj5.below hB5
          have hth6 := there_grown hth5 (grown_below hB5) (by simp)
          have hx6 := blk_below hB5 hx5
          have hb6' := blk_below hB5 hb5'
          have hb66 := blk_below hB5 hb65
          have how6 := how5.kept (grown_below hB5) (Classical.em _)
          have HBV6 := Lib.hid (below_trans' HBV5.out hB5)
          have hs6' := hB5.size
          clear k3' k6'
          have k3' : v6.cell? ⟨b3, 0, none⟩ = some (.pointer (some ⟨jb, 0, none⟩)) := (blk_cell hb6').trans rfl
          have k6' : v6.cell? ⟨b6, 0, none⟩ = some (.int .i64 ks.length) := (blk_cell hb66).trans rfl
          clear Hc4 hB5 hj5 hth5 hx5 hb5' hb65 how5
          have hbk := heap_alloc_new v6 (.cells #[.int .i64 0] 3)
          have hlA : Below v6.heap.size v6 (v6.alloc (.cells #[.int .i64 0] 3)) := below_alloc' (Below.refl _ _) _
          have HOA := Lib.hid (how6.alloc (.cells #[.int .i64 0] 3))
          have hjA := Lib.hid (hj6.below hlA)
          have htA := Lib.hid (there_grown hth6 (grown_below hlA) (by simp))
          have hxA := Lib.hid (blk_below hlA hx6)
          have hbA := Lib.hid (blk_below hlA hb6')
          have HBA := Lib.hid (below_trans' HBV6.out hlA)
          have hszA : v6.heap.size + 1 ≤ (v6.alloc (.cells #[.int .i64 0] 3)).heap.size := by rw [World.size_alloc]; omega
          have HKV : Hid (KindIs s ks.length 0) := Lib.hid (by have h := HKD.out false false HFR.out HKN.out; rw [show kindV false false n na nb = 0 by simp [kindV]] at h; exact h)
          clear hlA how6 hj6 hth6 hx6 hb6' HKD
          go_wp2_with (first | (at_builtin; refine wpList_push _ rfl (.tmp 31) (.tmp 32) 23 rfl elemI3 encI_len oneI Try.underlying23 (b3 + 1) _ ks rfl HOA.out (by omega) 0 v6.heap.size (by rfl) _ rfl _ _ hbk (by omega) ?_; intro g cap w6 hO6 hg6))
          have hr6 := own_base HOA.out
          have hj6 := head_grown hjA.out hg6 (fun r e => by have := hr6 r e; omega) (by omega)
          have ht6 := there_grown htA.out hg6 (fun e => by have := hr6 _ e.symm; omega)
          have hx6 := blk_grown hg6 hxA.out (fun e => by have := hr6 _ e.symm; omega)
          have hb6 := blk_grown hg6 hbA.out (fun e => by have := hr6 _ e.symm; omega)
          have hB6 := HBA.out.grown hg6 HBA.out.size (fun r e => by have := hr6 r e; omega)
          rw [← hb4]
          go_roundw
          case rel => exact ⟨ks ++ [0], by simp; omega, by simp, by rw [len_snoc]; exact hO6, kinds_snoc HK.out HKV.out, hj6, ht6, hx6, hb6, hB6⟩
          case measure => simp [intOf]; omega
        · have HFR := Lib.hid hfr
          clear hfr
          by_cases hlt : na < n
          · have dlt : decide ((na : Int) < (n : Int)) = true := by simpa using hlt
            have hbk := heap_alloc_new v5 (.cells #[.int .i64 2] 3)
            have hlA : Below v5.heap.size v5 (v5.alloc (.cells #[.int .i64 2] 3)) := below_alloc' (Below.refl _ _) _
            have HOA := Lib.hid (how5.alloc (.cells #[.int .i64 2] 3))
            have hjA := Lib.hid (hj5.below hlA)
            have htA := Lib.hid (there_grown hth5 (grown_below hlA) (by simp))
            have hxA := Lib.hid (blk_below hlA hx5)
            have hbA := Lib.hid (blk_below hlA hb5')
            have HBA := Lib.hid (below_trans' HBV5.out hlA)
            have hszA : v5.heap.size + 1 ≤ (v5.alloc (.cells #[.int .i64 2] 3)).heap.size := by rw [World.size_alloc]; omega
            have HKV : Hid (KindIs s ks.length 2) := Lib.hid (by have h := HKD.out true false HFR.out HKN.out; rw [show kindV false true n na nb = 2 by simp [kindV, hlt]] at h; exact h)
            clear hlA how5 hj5 hth5 hx5 hb5' HKD
            go_wp2_with (first | (at_builtin; refine wpList_push _ rfl (.tmp 47) (.tmp 48) 23 rfl elemI3 encI_len oneI Try.underlying23 (b3 + 1) _ ks rfl HOA.out (by omega) 2 v5.heap.size (by rfl) _ rfl _ _ hbk (by omega) ?_; intro g cap w6 hO6 hg6))
            have hr6 := own_base HOA.out
            have hj6 := head_grown hjA.out hg6 (fun r e => by have := hr6 r e; omega) (by omega)
            have ht6 := there_grown htA.out hg6 (fun e => by have := hr6 _ e.symm; omega)
            have hx6 := blk_grown hg6 hxA.out (fun e => by have := hr6 _ e.symm; omega)
            have hb6 := blk_grown hg6 hbA.out (fun e => by have := hr6 _ e.symm; omega)
            have hB6 := HBA.out.grown hg6 HBA.out.size (fun r e => by have := hr6 r e; omega)
            rw [← hb4]
            go_roundw
            case rel => exact ⟨ks ++ [2], by simp; omega, by simp, by rw [len_snoc]; exact hO6, kinds_snoc HK.out HKV.out, hj6, ht6, hx6, hb6, hB6⟩
            case measure => simp [intOf]; omega
          · have dlt : decide ((na : Int) < (n : Int)) = false := by simpa using hlt
            have Hc4 := Lib.hid (free_any (w.heap.size + 1) jb s ks.length v5 hj5 hkn HS.out.in12)
            rw [show (!takenB s.l s.t ks.length) = freeP s ks.length from rfl, HFR.out] at Hc4
            go_wp2_with fail
            refine Hc4.out.mono ?_
            rintro e v6 ⟨v, rfl, rfl, hB5⟩
            have hj6 := hj5.below hB5
            have hth6 := there_grown hth5 (grown_below hB5) (by simp)
            have hx6 := blk_below hB5 hx5
            have hb6' := blk_below hB5 hb5'
            have hb66 := blk_below hB5 hb65
            have how6 := how5.kept (grown_below hB5) (Classical.em _)
            have HBV6 := Lib.hid (below_trans' HBV5.out hB5)
            have hs6' := hB5.size
            clear k3' k6'
            have k3' : v6.cell? ⟨b3, 0, none⟩ = some (.pointer (some ⟨jb, 0, none⟩)) := (blk_cell hb6').trans rfl
            have k6' : v6.cell? ⟨b6, 0, none⟩ = some (.int .i64 ks.length) := (blk_cell hb66).trans rfl
            clear Hc4 hB5 hj5 hth5 hx5 hb5' hb65 how5
            by_cases heq : 1 + nb = n
            · have deq : ((1 + (nb : Int)) == (n : Int)) = true := by simp; omega
              have hbk := heap_alloc_new v6 (.cells #[.int .i64 1] 3)
              have hlA : Below v6.heap.size v6 (v6.alloc (.cells #[.int .i64 1] 3)) := below_alloc' (Below.refl _ _) _
              have HOA := Lib.hid (how6.alloc (.cells #[.int .i64 1] 3))
              have hjA := Lib.hid (hj6.below hlA)
              have htA := Lib.hid (there_grown hth6 (grown_below hlA) (by simp))
              have hxA := Lib.hid (blk_below hlA hx6)
              have hbA := Lib.hid (blk_below hlA hb6')
              have HBA := Lib.hid (below_trans' HBV6.out hlA)
              have hszA : v6.heap.size + 1 ≤ (v6.alloc (.cells #[.int .i64 1] 3)).heap.size := by rw [World.size_alloc]; omega
              have HKV : Hid (KindIs s ks.length 1) := Lib.hid (by have h := HKD.out true false HFR.out HKN.out; rw [show kindV false true n na nb = 1 by simp [kindV, hlt, heq]] at h; exact h)
              clear hlA how6 hj6 hth6 hx6 hb6' HKD
              go_wp2_with (first | (at_builtin; refine wpList_push _ rfl (.tmp 59) (.tmp 60) 23 rfl elemI3 encI_len oneI Try.underlying23 (b3 + 1) _ ks rfl HOA.out (by omega) 1 v6.heap.size (by rfl) _ rfl _ _ hbk (by omega) ?_; intro g cap w6 hO6 hg6))
              have hr6 := own_base HOA.out
              have hj6 := head_grown hjA.out hg6 (fun r e => by have := hr6 r e; omega) (by omega)
              have ht6 := there_grown htA.out hg6 (fun e => by have := hr6 _ e.symm; omega)
              have hx6 := blk_grown hg6 hxA.out (fun e => by have := hr6 _ e.symm; omega)
              have hb6 := blk_grown hg6 hbA.out (fun e => by have := hr6 _ e.symm; omega)
              have hB6 := HBA.out.grown hg6 HBA.out.size (fun r e => by have := hr6 r e; omega)
              rw [← hb4]
              go_roundw
              case rel => exact ⟨ks ++ [1], by simp; omega, by simp, by rw [len_snoc]; exact hO6, kinds_snoc HK.out HKV.out, hj6, ht6, hx6, hb6, hB6⟩
              case measure => simp [intOf]; omega
            · have deq : ((1 + (nb : Int)) == (n : Int)) = false := by simp; omega
              have hbk := heap_alloc_new v6 (.cells #[.int .i64 0] 3)
              have hlA : Below v6.heap.size v6 (v6.alloc (.cells #[.int .i64 0] 3)) := below_alloc' (Below.refl _ _) _
              have HOA := Lib.hid (how6.alloc (.cells #[.int .i64 0] 3))
              have hjA := Lib.hid (hj6.below hlA)
              have htA := Lib.hid (there_grown hth6 (grown_below hlA) (by simp))
              have hxA := Lib.hid (blk_below hlA hx6)
              have hbA := Lib.hid (blk_below hlA hb6')
              have HBA := Lib.hid (below_trans' HBV6.out hlA)
              have hszA : v6.heap.size + 1 ≤ (v6.alloc (.cells #[.int .i64 0] 3)).heap.size := by rw [World.size_alloc]; omega
              have HKV : Hid (KindIs s ks.length 0) := Lib.hid (by have h := HKD.out true false HFR.out HKN.out; rw [show kindV false true n na nb = 0 by simp [kindV, hlt, heq]] at h; exact h)
              clear hlA how6 hj6 hth6 hx6 hb6' HKD
              go_wp2_with (first | (at_builtin; refine wpList_push _ rfl (.tmp 31) (.tmp 32) 23 rfl elemI3 encI_len oneI Try.underlying23 (b3 + 1) _ ks rfl HOA.out (by omega) 0 v6.heap.size (by rfl) _ rfl _ _ hbk (by omega) ?_; intro g cap w6 hO6 hg6))
              have hr6 := own_base HOA.out
              have hj6 := head_grown hjA.out hg6 (fun r e => by have := hr6 r e; omega) (by omega)
              have ht6 := there_grown htA.out hg6 (fun e => by have := hr6 _ e.symm; omega)
              have hx6 := blk_grown hg6 hxA.out (fun e => by have := hr6 _ e.symm; omega)
              have hb6 := blk_grown hg6 hbA.out (fun e => by have := hr6 _ e.symm; omega)
              have hB6 := HBA.out.grown hg6 HBA.out.size (fun r e => by have := hr6 r e; omega)
              rw [← hb4]
              go_roundw
              case rel => exact ⟨ks ++ [0], by simp; omega, by simp, by rw [len_snoc]; exact hO6, kinds_snoc HK.out HKV.out, hj6, ht6, hx6, hb6, hB6⟩
              case measure => simp [intOf]; omega
      · have HKN := Lib.hid hkn2
        clear hkn2
        obtain ⟨fr, hfr⟩ : ∃ fr, freeP s ks.length = fr := ⟨_, rfl⟩
        have HFR := Lib.hid hfr
        clear hfr
        have hbk := heap_alloc_new v4 (.cells #[.int .i64 2] 3)
        have hlA : Below v4.heap.size v4 (v4.alloc (.cells #[.int .i64 2] 3)) := below_alloc' (Below.refl _ _) _
        have HOA := Lib.hid (how4.alloc (.cells #[.int .i64 2] 3))
        have hjA := Lib.hid (hj4.below hlA)
        have htA := Lib.hid (there_grown hth4 (grown_below hlA) (by simp))
        have hxA := Lib.hid (blk_below hlA hx4)
        have hbA := Lib.hid (blk_below hlA hb4')
        have HBA := Lib.hid (below_trans' HBV4.out hlA)
        have hszA : v4.heap.size + 1 ≤ (v4.alloc (.cells #[.int .i64 2] 3)).heap.size := by rw [World.size_alloc]; omega
        have HKV : Hid (KindIs s ks.length 2) := Lib.hid (by have h := HKD.out fr true HFR.out HKN.out; rw [show kindV true fr n na nb = 2 by simp [kindV]] at h; exact h)
        clear hlA how4 hj4 hth4 hx4 hb4' HKD
        go_wp2_with (first | (at_builtin; refine wpList_push _ rfl (.tmp 47) (.tmp 48) 23 rfl elemI3 encI_len oneI Try.underlying23 (b3 + 1) _ ks rfl HOA.out (by omega) 2 v4.heap.size (by rfl) _ rfl _ _ hbk (by omega) ?_; intro g cap w6 hO6 hg6))
        have hr6 := own_base HOA.out
        have hj6 := head_grown hjA.out hg6 (fun r e => by have := hr6 r e; omega) (by omega)
        have ht6 := there_grown htA.out hg6 (fun e => by have := hr6 _ e.symm; omega)
        have hx6 := blk_grown hg6 hxA.out (fun e => by have := hr6 _ e.symm; omega)
        have hb6 := blk_grown hg6 hbA.out (fun e => by have := hr6 _ e.symm; omega)
        have hB6 := HBA.out.grown hg6 HBA.out.size (fun r e => by have := hr6 r e; omega)
        rw [← hb4]
        go_roundw
        case rel => exact ⟨ks ++ [2], by simp; omega, by simp, by rw [len_snoc]; exact hO6, kinds_snoc HK.out HKV.out, hj6, ht6, hx6, hb6, hB6⟩
        case measure => simp [intOf]; omega
    · obtain ⟨A, c, rfl, hc⟩ := own_form how
      have hke : ks.length = s.l.length := by omega
      have HR := Lib.hid (RowsAt.of_own encI_len how)
      go_wp2
      go_ret
      exact Ret.mk ⟨⟨A, c, ks, rfl, HR.out, hke, hc, HK.out⟩, hBr⟩
end Go.Proofs.Ytoogfdicmpkkgaa
