/- CheckScale, Met. -/
import Derived.Test.YtkjmeeggjmeajaaE0
import Derived.Deep.RegionHeld3
namespace Go.Proofs.Ytkjmeeggjmeajaa
open Go.RowKit

def isMet (l : List (Int × Int)) (s : List Int) (i : Nat) : Bool := s.any (onR (l.getD i (0, 0)))
def scaleErr (l : List (Int × Int)) (s : List Int) : Int := if checkErr l s ≠ 0 then checkErr l s else if (List.range l.length).all (isMet l s) then 0 else 19

theorem marksOf_perm {ts us : List Tone} (h : ts.Perm us) (s : List Int) (i : Nat) : marksOf ts s i = marksOf us s i := by
  unfold marksOf; rw [h.any_eq]
theorem marksOf_up (l : List (Int × Int)) (s : List Int) (i : Nat) : marksOf (tonesUp l l.length) s i = if i < l.length then (if isMet l s i then 1 else 0) else 0 := by
  unfold marksOf
  have e : (tonesUp l l.length).any (fun t => decide (t.2.2 = (i : Int)) && s.any (onT t)) = (decide (i < l.length) && isMet l s i) := by
    rw [Bool.eq_iff_iff, List.any_eq_true, Bool.and_eq_true, decide_eq_true_eq]
    constructor
    · rintro ⟨t, ht, hx⟩
      obtain ⟨j, hj, rfl⟩ := mem_tonesUp ht
      simp only [Bool.and_eq_true, decide_eq_true_eq] at hx
      obtain rfl : j = i := by omega
      exact ⟨hj, by simpa [isMet, List.getD_eq_getElem?_getD, hj, onT, onR] using hx.2⟩
    · rintro ⟨hi, hx⟩
      refine ⟨(l[i].1, l[i].2, (i : Int)), ?_, ?_⟩
      · simp only [tonesUp, List.mem_map, List.mem_range]; exact ⟨i, hi, by simp [List.getD_eq_getElem?_getD, hi]⟩
      · simpa [isMet, List.getD_eq_getElem?_getD, hi, onT, onR] using hx
  rw [e]
  by_cases hi : i < l.length <;> simp [hi]

theorem neqM_met {l : List (Int × Int)} {s : List Int} {ts : List Tone} (hp : ts.Perm (tonesUp l l.length)) (hn : l.length ≤ 25) : neqM (marksOf ts s) (fun i => if i < l.length then 1 else 0) = !((List.range l.length).all (isMet l s)) := by
  unfold neqM eqUpto
  congr 1
  rw [Bool.eq_iff_iff, List.all_eq_true, List.all_eq_true]
  simp only [List.mem_range, beq_iff_eq, marksOf_perm hp, marksOf_up]
  constructor
  · intro h i hi
    have := h i (by omega)
    rw [if_pos hi, if_pos hi] at this
    by_cases e : isMet l s i = true
    · exact e
    · rw [if_neg e] at this; cases this
  · intro h i _
    by_cases hi : i < l.length
    · rw [if_pos hi, if_pos hi, if_pos (h i hi)]
    · rw [if_neg hi, if_neg hi]
theorem SongAt.of {w : World} {base b : Nat} {ts : List Tone} (h : SongAt w base b ts) : SongOf w.heap.size w b ts := by
  obtain ⟨v, hb, ho⟩ := h
  obtain ⟨A, c, rfl, _⟩ := own_form ho
  refine ⟨blk_lt hb, A, c, hb, fun i hi => ?_⟩
  obtain ⟨b', off, e, hc⟩ := RowsAt.of_own encT_len ho i hi
  exact ⟨b', off, e, block_lt_of_cell (hc 0 _ rfl), hc 0 _ rfl, hc 1 _ rfl, hc 2 _ rfl⟩
theorem perm_names {l : List (Int × Int)} {ts : List Tone} (h : ts.Perm (tonesUp l l.length)) (hn : l.length ≤ 25) : ∀ t ∈ ts, 0 ≤ t.2.2 ∧ t.2.2 < 25 := fun t ht => by
  obtain ⟨i, hi, rfl⟩ := mem_tonesUp (h.mem_iff.1 ht)
  dsimp only; omega
theorem perm_len {l : List (Int × Int)} {ts : List Tone} (h : ts.Perm (tonesUp l l.length)) : ts.length = l.length := by rw [h.length_eq, tonesUp_len]
theorem checkErr_song {l : List (Int × Int)} {s : List Int} (h : checkErr l s = 0) : songErr l = 0 := by
  unfold checkErr at h
  by_cases e : songErr l = 0
  · exact e
  · rw [if_pos e] at h; exact absurd h e
theorem song_len {l : List (Int × Int)} (h : songErr l = 0) : 1 ≤ l.length ∧ l.length ≤ 24 := by
  unfold songErr at h
  split at h
  · cases h
  · omega
theorem song_good {l : List (Int × Int)} (h : songErr l = 0) : ∀ x ∈ l, 0 ≤ x.1 ∧ x.1 ≤ x.2 ∧ x.2 ≤ 10000 := by
  unfold songErr at h
  split at h
  · cases h
  · split at h
    · cases h
    · rename_i h2
      intro x hx
      have := (List.any_eq_false.1 (by simpa using h2)) x hx
      simp [badR] at this
      omega
theorem song_in {l : List (Int × Int)} (h : songErr l = 0) : ∀ x ∈ l, inB x.2 := fun x hx => by have := song_good h x hx; unfold inB; omega

def upTo (k : Nat) (i : Nat) : Int := if i < k then 1 else 0
theorem upTo_set (k : Nat) : (marksV (upTo k)).setIfInBounds k (.int .i64 1) = marksV (upTo (k + 1)) := marksV_set _ _ (fun i _ => by
  unfold upTo; by_cases e : i = k
  · subst e; simp
  · rw [if_neg e]; by_cases h : i < k
    · rw [if_pos h, if_pos (by omega)]
    · rw [if_neg h, if_neg (by omega)])

set_option maxRecDepth 100000 in
set_option maxHeartbeats 1000000 in
theorem checkScale_any (A B : Option Addr) (ca cb : Nat) (l : List (Int × Int)) (s : List Int) (w : World) (hl : RangesAt w A l) (hs : IntsAt w B s) (hn : l.length ≤ 100000) (hm : s.length ≤ 100000) :
    Calls Try.prog 20 #[.slice A l.length ca, .slice B s.length cb] w (Ret fun v w' => v = .int .i64 (scaleErr l s) ∧ Below w.heap.size w w') := by
  have Hl := Lib.hid hl; clear hl
  have Hs := Lib.hid hs; clear hs
  go_enter Try.func20, Try.ntmps20
  go_wp2_with fail
  refine (check_any _ _ _ _ l s _ Hl.out Hs.out hn hm).mono ?_
  rintro e w1 ⟨v, rfl, rfl, hB1⟩
  have HB1 := Lib.hid hB1; clear hB1
  by_cases h0 : checkErr l s = 0
  · have d0 : (checkErr l s != 0) = false := by simp [h0]
    have hlen := song_len (checkErr_song h0)
    have H0 := Lib.hid h0; clear h0
    go_wp2
    go_loopw [16] (fun i wr => ∃ k : Nat, k ≤ l.length ∧ i = .int .i64 k ∧ Below w1.heap.size w1 wr ∧ wr.heap[w1.heap.size]? = some (.cells (marksV (upTo k)) 70 (0, 0))) (fun i _ => l.length - (intOf i).toNat)
    case atStart => exact ⟨0, by omega, rfl, below_alloc' (Below.refl _ _) _, heap_alloc_new _ _⟩
    case round =>
      obtain ⟨k, hk, rfl, hB, hb⟩ := hrel
      by_cases hkn : k < l.length
      · have p1 : wr.cell? ⟨w1.heap.size, k, none⟩ = some (.int .i64 (upTo k k)) := (blk_cell hb).trans (marksV_get _ (by omega))
        have p2 : wr.frozen? ⟨w1.heap.size, k, none⟩ = false := blk_frozen hb
        have hk25 : (k : Int) < 25 := by omega
        have HB := Lib.hid hB; clear hB
        have Hb := Lib.hid hb; clear hb
        go_wp2
        go_roundw
        case rel => exact ⟨k + 1, by omega, by go_num, HB.out.setCell (by simp) _, by rw [blk_set Hb.out, upTo_set]⟩
        case measure => simp [intOf]; omega
      · have hke : k = l.length := by omega
        subst hke
        have HB := Lib.hid hB; clear hB
        have Hb := Lib.hid hb; clear hb
        obtain ⟨wo, rfl⟩ : ∃ wo : World, wo = wr := ⟨_, rfl⟩
        have hu := Try.underlying70
        have hi := info70
        have hG := guard70
        have hN := run_neqM
        have HL2 := Lib.hid ((Hl.out.below HB1.out).below HB.out)
        have HS2 := Lib.hid ((Hs.out.below HB1.out).below HB.out)
        have hlen2 := song_in (checkErr_song H0.out)
        have Hlen2 := Lib.hid hlen2; clear hlen2
        have hR : wo.rangeAt w1.heap.size 0 (marksV (upTo l.length)).toList := fun j v hv => (blk_cell Hb.out).trans (by simpa using hv)
        go_wp2
        go_region_held3 (fun W => W.rangeAt w1.heap.size 0 (marksV (upTo l.length)).toList) (first | exact (fun j v hv => cell_below hBb (cell_below hBa (hR j v hv))) | exact (fun j v hv => cell_below hBa (hR j v hv)) | go_keep_ranges) (first | (go_at_call 41; refine (newSong_any _ _ l _ (by exact HL2.out) (by omega) Hlen2.out).mono ?_; rintro e wa ⟨va, rfl, rfl, ⟨ts, hp, ho, hsa⟩, hBa0⟩; have hBa : Below wo.heap.size wo wa := below_drew_of (Below.refl _ wo) hBa0; have hsa' : SongOf wa.heap.size wa wo.heap.size ts := SongAt.of hsa; have hsb : IntsAt wa B s := IntsAt.below HS2.out hBa) | (go_at_call 42; refine (met_any wo.heap.size ts B cb s wa hsa' (by rw [perm_len hp]; omega) hsb hm (perm_names hp (by omega))).mono ?_; rintro e wb ⟨vb, rfl, rfl, hBb⟩))
        clear hG hN hu hi
        have HQ := Lib.hid (neqM_met (s := s) hp (by omega))
        have HE := Lib.hid (below_trans' (below_trans' (below_trans' HB1.out HB.out) hBa) hBb)
        clear hR hp ho hsa hsa' hsb hBa0 hBa hBb
        generalize hq : neqM (marksOf ts s) (upTo l.length) = q
        have HQ2 : Hid (q = !((List.range l.length).all (isMet l s))) := hq.symm.trans HQ.out
        have HA : Hid ((List.range l.length).all (isMet l s) = !q) := by show _ = _; rw [HQ2.out, Bool.not_not]
        clear hq HQ HQ2
        cases q
        · go_wp2
          go_ret
          exact Ret.mk' (by rw [scaleErr, if_neg (by simp [H0.out]), HA.out]; rfl) ⟨rfl, HE.out⟩
        · go_wp2
          go_ret
          exact Ret.mk' (by rw [scaleErr, if_neg (by simp [H0.out]), HA.out]; rfl) ⟨rfl, HE.out⟩
  · have d0 : (checkErr l s != 0) = true := by simpa using h0
    have H0 := Lib.hid h0; clear h0
    go_wp2
    go_ret
    exact Ret.mk' (by simp [scaleErr, H0.out]) ⟨rfl, HB1.out⟩
end Go.Proofs.Ytkjmeeggjmeajaa
