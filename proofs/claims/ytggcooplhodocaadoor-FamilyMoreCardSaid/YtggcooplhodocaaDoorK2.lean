/- come: who comes from whom by some steps. all, every: the numbers of good steps. full: whether all come from the root. full: whether all variants come from the root by some steps. Lost, of the program. -/
import Derived.Test.YtggcooplhodocaaDoorK1
import Derived.Test.YtggcooplhodocaaDoorP0
namespace Go.Proofs.YtggcooplhodocaaDoor
open Go.RowKit Go.Shelf Go.Maps Fam

/-- all bits of the rows that lie in a block -/
def totalW (w : World) (b : Nat) : Nat := total fun u => match w.cell? ⟨b, u, none⟩ with | some (.int _ x) => x.toNat | _ => 0
theorem total_congr {f g : Nat → Nat} (h : ∀ u, u < 16 → f u = g u) : total f = total g := by
  unfold total
  congr 1
  exact List.map_congr_left fun u hu => h u (List.mem_range.1 hu)
theorem totalW_eq {w : World} {b : Nat} {f : Nat → Nat} (h : ArrN w b f) : totalW w b = total f := total_congr fun u hu => by
  have := (h u hu).1
  rw [Nat.zero_add] at this
  rw [this]; simp
theorem first_next {k : Nat} (i : Nat) : (if i = k then 2 ^ k else if i < k then 2 ^ i else 0) = if i < k + 1 then 2 ^ i else 0 := by
  by_cases e : i = k
  · subst e; rw [if_pos rfl, if_pos (by omega)]
  · rw [if_neg e]
    by_cases c : i < k
    · rw [if_pos c, if_pos (by omega)]
    · rw [if_neg c, if_neg (by omega)]
theorem rowV_same {f g : Nat → Nat} : (∀ i, i < 16 → ((f i : Nat) : Int) = ((g i : Nat) : Int)) ↔ ∀ u, u < 16 → f u = g u := ⟨fun h u hu => by have := h u hu; omega, fun h u hu => by rw [h u hu]⟩

set_option maxRecDepth 100000 in
set_option maxHeartbeats 8000000 in
theorem come_any (S R : Int) (A B : Option Addr) (ca cb wb mb : Nat) (u : Value) (l : List St) (st : List Nat) (w : World) (hX : w.heap[wb]? = some (woodC S R A l.length ca u mb)) (hl : StepsAt w A l) (hs : IntsAt w B (st.map fun i : Nat => (i : Int))) (hst : ∀ i ∈ st, i < l.length) (hlen : st.length ≤ 100000) (hok : BookOk S R l) :
    Calls Tryd.prog 34 #[.pointer (some ⟨wb, 0, none⟩), .slice B st.length cb] w (Ret fun v w' => (∃ f, v = .agg (rowN f) ∧ ComesF (netB S R l) st f) ∧ Below w.heap.size w w') := by
  have HX := Lib.hid hX; clear hX
  have Hl := Lib.hid hl; clear hl
  have Hs := Lib.hid hs; clear hs
  have Hst := Lib.hid hst; clear hst
  have hdim := hok.dim
  have hmany := hok.many
  have HK := Lib.hid hok; clear hok
  obtain ⟨n, rfl⟩ := Int.eq_ofNat_of_zero_le (by omega : 0 ≤ S)
  have hn16 : n ≤ 16 := by omega
  have hn1 : 1 ≤ n := by omega
  clear hdim
  have HNn : Hid ((netB (n : Int) R l).n = n) := Lib.hid rfl
  have hB1 := heap_alloc_new w (.cells #[.int .i64 0, .int .i64 0, .int .i64 0, .int .i64 0, .int .i64 0, .int .i64 0, .int .i64 0, .int .i64 0, .int .i64 0, .int .i64 0, .int .i64 0, .int .i64 0, .int .i64 0, .int .i64 0, .int .i64 0, .int .i64 0] 64)
  have hB2 := heap_alloc_at (w.alloc (.cells #[.int .i64 0, .int .i64 0, .int .i64 0, .int .i64 0, .int .i64 0, .int .i64 0, .int .i64 0, .int .i64 0, .int .i64 0, .int .i64 0, .int .i64 0, .int .i64 0, .int .i64 0, .int .i64 0, .int .i64 0, .int .i64 0] 64)) (.cells #[.int .i64 0, .int .i64 0, .int .i64 0, .int .i64 0, .int .i64 0, .int .i64 0, .int .i64 0, .int .i64 0, .int .i64 0, .int .i64 0, .int .i64 0, .int .i64 0, .int .i64 0, .int .i64 0, .int .i64 0, .int .i64 0] 64) (n := w.heap.size + 1) (by simp)
  replace hB1 := blk_alloc hB1 (.cells #[.int .i64 0, .int .i64 0, .int .i64 0, .int .i64 0, .int .i64 0, .int .i64 0, .int .i64 0, .int .i64 0, .int .i64 0, .int .i64 0, .int .i64 0, .int .i64 0, .int .i64 0, .int .i64 0, .int .i64 0, .int .i64 0] 64)
  have hB0 : Below w.heap.size w ((w.alloc (.cells #[.int .i64 0, .int .i64 0, .int .i64 0, .int .i64 0, .int .i64 0, .int .i64 0, .int .i64 0, .int .i64 0, .int .i64 0, .int .i64 0, .int .i64 0, .int .i64 0, .int .i64 0, .int .i64 0, .int .i64 0, .int .i64 0] 64)).alloc (.cells #[.int .i64 0, .int .i64 0, .int .i64 0, .int .i64 0, .int .i64 0, .int .i64 0, .int .i64 0, .int .i64 0, .int .i64 0, .int .i64 0, .int .i64 0, .int .i64 0, .int .i64 0, .int .i64 0, .int .i64 0, .int .i64 0] 64)) := below_alloc' (below_alloc' (Below.refl _ _) _) _
  have hsz : w.heap.size + 2 ≤ ((w.alloc (.cells #[.int .i64 0, .int .i64 0, .int .i64 0, .int .i64 0, .int .i64 0, .int .i64 0, .int .i64 0, .int .i64 0, .int .i64 0, .int .i64 0, .int .i64 0, .int .i64 0, .int .i64 0, .int .i64 0, .int .i64 0, .int .i64 0] 64)).alloc (.cells #[.int .i64 0, .int .i64 0, .int .i64 0, .int .i64 0, .int .i64 0, .int .i64 0, .int .i64 0, .int .i64 0, .int .i64 0, .int .i64 0, .int .i64 0, .int .i64 0, .int .i64 0, .int .i64 0, .int .i64 0, .int .i64 0] 64)).heap.size := by simp
  go_enter Tryd.func34, Tryd.ntmps34
  go_upto_region 2 with fail
  generalize (w.alloc (.cells #[.int .i64 0, .int .i64 0, .int .i64 0, .int .i64 0, .int .i64 0, .int .i64 0, .int .i64 0, .int .i64 0, .int .i64 0, .int .i64 0, .int .i64 0, .int .i64 0, .int .i64 0, .int .i64 0, .int .i64 0, .int .i64 0] 64)).alloc (.cells #[.int .i64 0, .int .i64 0, .int .i64 0, .int .i64 0, .int .i64 0, .int .i64 0, .int .i64 0, .int .i64 0, .int .i64 0, .int .i64 0, .int .i64 0, .int .i64 0, .int .i64 0, .int .i64 0, .int .i64 0, .int .i64 0] 64) = w0 at hB1 hB2 hB0 hsz ⊢
  have H4 : Hid (w0.heap[w.heap.size]? = some (.cells (rowN fun _ => 0) 64 (0, 0))) := Lib.hid hB1
  have H5 : Hid (ArrN w0 (w.heap.size + 1) fun _ => 0) := Lib.hid (ArrN.of_blk (t := 64) hB2)
  have HB := Lib.hid hB0
  clear hB1 hB2 hB0
  have y0 : w0.cell? ⟨wb, 0, none⟩ = some (.int .i64 n) := cell_below HB.out ((blk_cell HX.out).trans rfl)
  go_wp2
  clear y0
  go_loopw [17] (fun i wr => ∃ k : Nat, k ≤ n ∧ i = .int .i64 k ∧ Hid (ArrN wr (w.heap.size + 1) fun x => if x < k then 2 ^ x else 0) ∧ Hid (wr.heap[w.heap.size]? = some (.cells (rowN fun _ => 0) 64 (0, 0))) ∧ Hid (Below w.heap.size w wr) ∧ w.heap.size + 2 ≤ wr.heap.size) (fun i _ => n - (intOf i).toNat)
  case atStart => exact ⟨0, by omega, rfl, Lib.hid (H5.out.congr fun i _ => by simp), H4, HB, hsz⟩
  case round =>
    clear H5 H4 HB hsz
    obtain ⟨k, hk, rfl, H5, H4, HB, hsz⟩ := hrel
    by_cases hkn : k < n
    · have ij0 : (0 : Int) ≤ (k : Int) := by omega
      have ij1 : (k : Int) < 16 := by omega
      obtain ⟨hw1, _, _⟩ := put_bit (m := 0) (by omega) (by omega : k < 16)
      obtain ⟨c1, f1⟩ := H5.out k (by omega)
      rw [Nat.zero_add] at c1 f1
      have h51 := H5.out.set (k := k) (by omega) (2 ^ k)
      obtain ⟨q, hq⟩ : ∃ q, 2 ^ k = q := ⟨_, rfl⟩
      rw [hq] at hw1 h51
      have hw2 : wrap64 (2 ^ k) = (q : Int) := by rw [← IntWalk.i64_left]; exact hw1
      have H51 : Hid (ArrN (wr.setCell ⟨w.heap.size + 1, k, none⟩ (.int .i64 (q : Int))) (w.heap.size + 1) fun x => if x < k + 1 then 2 ^ x else 0) := Lib.hid (h51.congr fun i _ => by rw [← hq]; exact first_next i)
      have H41 := Lib.hid (blk_far (p := ⟨w.heap.size + 1, k, none⟩) H4.out (by dsimp only; omega) (.int .i64 (q : Int)))
      have HB1 := Lib.hid (HB.out.setCell (p := ⟨w.heap.size + 1, k, none⟩) (by dsimp only; omega) (.int .i64 (q : Int)))
      clear h51 hq
      go_wp2
      go_roundw
      case rel => exact ⟨k + 1, by omega, by go_num, H51, H41, HB1, by simp; omega⟩
      case measure => simp [intOf]; omega
    · obtain rfl : k = n := by omega
      have HKn := Lib.hid (KnownF.start (N := netB (k : Int) R l) hn16 st (k := k) HNn.out.symm)
      have HA := H5
      clear H5 hk hkn
      obtain ⟨wo, hwo⟩ : ∃ wo, wo = wr := ⟨_, rfl⟩
      subst hwo
      go_wp2
      go_loopw [] (fun wr => ∃ f : Nat → Nat, Hid (ArrN wr (w.heap.size + 1) f) ∧ Hid (KnownF (netB (k : Int) R l) st f) ∧ Hid (wr.heap[w.heap.size]? = some (.cells (rowN fun _ => 0) 64 (0, 0))) ∧ Hid (Below w.heap.size w wr) ∧ w.heap.size + 2 ≤ wr.heap.size) (fun wr => 16 * 65536 - totalW wr (w.heap.size + 1))
      case atStart => exact ⟨_, HA, HKn, H4, HB, hsz⟩
      case round =>
        clear HA HKn H4 HB hsz
        obtain ⟨g, HA, HKn, H4, HB, hsz⟩ := hrel
        have hB := heap_alloc_new wr (.cells #[.int .i64 0, .int .i64 0, .int .i64 0, .int .i64 0, .int .i64 0, .int .i64 0, .int .i64 0, .int .i64 0, .int .i64 0, .int .i64 0, .int .i64 0, .int .i64 0, .int .i64 0, .int .i64 0, .int .i64 0, .int .i64 0] 64)
        have hT2 : (wr.alloc (.cells #[.int .i64 0, .int .i64 0, .int .i64 0, .int .i64 0, .int .i64 0, .int .i64 0, .int .i64 0, .int .i64 0, .int .i64 0, .int .i64 0, .int .i64 0, .int .i64 0, .int .i64 0, .int .i64 0, .int .i64 0, .int .i64 0] 64)).there wr.heap.size 0 16 := fun j hj => by
          have hB' : (wr.alloc (.cells #[.int .i64 0, .int .i64 0, .int .i64 0, .int .i64 0, .int .i64 0, .int .i64 0, .int .i64 0, .int .i64 0, .int .i64 0, .int .i64 0, .int .i64 0, .int .i64 0, .int .i64 0, .int .i64 0, .int .i64 0, .int .i64 0] 64)).heap[wr.heap.size]? = some (.cells (rowV fun _ => 0) 64 (0, 0)) := hB
          exact ⟨by rw [blk_cell hB', Nat.zero_add, rowV_get _ hj]; rfl, blk_frozen hB'⟩
        have hA7 : ArrN ((wr.alloc (.cells #[.int .i64 0, .int .i64 0, .int .i64 0, .int .i64 0, .int .i64 0, .int .i64 0, .int .i64 0, .int .i64 0, .int .i64 0, .int .i64 0, .int .i64 0, .int .i64 0, .int .i64 0, .int .i64 0, .int .i64 0, .int .i64 0] 64)).setCells wr.heap.size 0 (rowN g).toList) wr.heap.size g := Arr.stored (f := fun i => (g i : Int)) hT2
        rw [← rowV_size (fun i => (g i : Int))] at hT2
        have HT2 := Lib.hid hT2
        have HR2 := Lib.hid (Arr.range HA.out)
        have hB7 : Below wr.heap.size wr ((wr.alloc (.cells #[.int .i64 0, .int .i64 0, .int .i64 0, .int .i64 0, .int .i64 0, .int .i64 0, .int .i64 0, .int .i64 0, .int .i64 0, .int .i64 0, .int .i64 0, .int .i64 0, .int .i64 0, .int .i64 0, .int .i64 0, .int .i64 0] 64)).setCells wr.heap.size 0 (rowN g).toList) := (below_alloc' (Below.refl _ _) _).grown (grown_setCells _ _) (by simp) (fun k e => by injection e; omega)
        clear hT2 hB
        go_upto_region 8 with (first | (refine wpList_load_mid rfl 64 (.tmp 5) rfl (w.heap.size + 1) 0 (by rfl) (rowN g).toList _ HR2.out Tryd.underlying64 rfl (by rw [infoR, Array.length_toList]; unfold rowN; rw [rowV_size]) ?_) | (refine wpList_store_mid rfl 64 (.tmp 7) (.tmp 25) rfl wr.heap.size 0 (rowN g) (by rfl) (by rfl) HT2.out (by unfold rowN; rw [infoR, rowV_size]) (rowV_one _) ?_))
        have HBM := Lib.hid (below_trans' HB.out hB7)
        replace HA := Lib.hid (Arr.below HA.out hB7)
        replace H4 := Lib.hid (blk_below hB7 H4.out)
        have hs7 := hB7.size
        have hlt7 := block_lt_of_cell (hA7 0 (by omega)).1
        dsimp only at hlt7
        have HMS : Hid (totalW wr (w.heap.size + 1) = total g) := Lib.hid (totalW_eq (by
          have := Arr.below (w := wr) (w' := wr) (b := w.heap.size + 1) (o := 0) (n := 16) (f := fun i => (g i : Int)) (fun i hi => by
            have h1 := HR2.out i _ (by rw [Array.getElem?_toList, rowV_get _ hi])
            exact ⟨h1, by
              have h2 := (HA.out i hi).2
              rw [hB7.frozen (by dsimp only; omega)] at h2
              exact h2⟩) (Below.refl _ _)
          exact this))
        obtain ⟨wq, hwq⟩ : ∃ wq, wq = wr := ⟨_, rfl⟩
        generalize hb7 : wr.heap.size = r7 at *
        generalize (wr.alloc (.cells #[.int .i64 0, .int .i64 0, .int .i64 0, .int .i64 0, .int .i64 0, .int .i64 0, .int .i64 0, .int .i64 0, .int .i64 0, .int .i64 0, .int .i64 0, .int .i64 0, .int .i64 0, .int .i64 0, .int .i64 0, .int .i64 0] 64)).setCells r7 0 (rowN g).toList = w1 at *
        have HA7 := Lib.hid hA7
        have hr7 : w.heap.size + 2 ≤ r7 := by omega
        clear hA7 hB7 HT2 HR2 HB hsz
        rw [← hwq] at hb7
        have HZ : Hid (∀ X : Nat, 16 * 65536 - X < 16 * 65536 - totalW wr (w.heap.size + 1) ↔ 16 * 65536 - X < 16 * 65536 - total g) := Lib.hid fun X => by rw [HMS.out]
        clear hwq HMS
        go_wp2
        go_loopw [28] (fun i wr => ∃ (j : Nat) (f : Nat → Nat), j ≤ st.length ∧ i = .int .i64 j ∧ Hid (ArrN wr (w.heap.size + 1) f) ∧ Hid (KnownF (netB (k : Int) R l) st f) ∧ Hid (SubF g f) ∧ Hid (DidAll (netB (k : Int) R l) g f st j) ∧ Hid (ArrN wr r7 g) ∧ Hid (wr.heap[w.heap.size]? = some (.cells (rowN fun _ => 0) 64 (0, 0))) ∧ Hid (Below w.heap.size w wr) ∧ r7 < wr.heap.size) (fun i _ => st.length - (intOf i).toNat)
        case atStart => exact ⟨0, g, by omega, rfl, HA, HKn, Lib.hid (SubF.refl g), Lib.hid (fun k hk h => absurd h (by omega)), HA7, H4, HBM, hlt7⟩
        case round =>
          clear HA H4 HBM hlt7 HA7
          obtain ⟨j, f, hj, rfl, HA, HF, HSb, HD, HA7, H4, HB, hlt7⟩ := hrel
          by_cases hjn : j < st.length
          · obtain ⟨i, hi⟩ : ∃ i, st[j] = i := ⟨_, rfl⟩
            have him : i ∈ st := by rw [← hi]; exact List.getElem_mem hjn
            have hil := Hst.out i him
            obtain ⟨b1, o1, rfl, g1⟩ := IntsAt.at_ (Hs.out.below HB.out) (i := j) (by simpa using hjn)
            rw [List.getElem_map, hi] at g1
            have HDN := Lib.hid (fun f' (h1 : DidAll (netB (k : Int) R l) g f' st j) (h2 : Did (netB (k : Int) R l) g f' i k) => DidAll.next h1 hjn (by rw [hi]; exact h2))
            clear hi
            obtain ⟨b2, o2, hB2, p1, p2, p3⟩ := StepsAt.at_ (Hl.out.below HB.out) hil
            have hbk := HK.out.stp _ (List.getElem_mem hil)
            have hnet : Hid ((netB (k : Int) R l).fr i = l[i].1.toNat ∧ (netB (k : Int) R l).to i = l[i].2.1.toNat) := Lib.hid ⟨by show (stAt l i).1.toNat = _; rw [stAt_eq hil], by show (stAt l i).2.1.toNat = _; rw [stAt_eq hil]⟩
            generalize l[i] = x at p1 p2 p3 hbk hnet
            obtain ⟨x1, x2, x3⟩ := x
            dsimp only at p1 p2 p3 hbk
            obtain ⟨a1, rfl⟩ := Int.eq_ofNat_of_zero_le hbk.1.1
            obtain ⟨a2, rfl⟩ := Int.eq_ofNat_of_zero_le hbk.2.1.1
            have ha1 : a1 < k := by omega
            have ha2 : a2 < k := by omega
            clear hbk
            have y0 : wr.cell? ⟨wb, 0, none⟩ = some (.int .i64 k) := cell_below HB.out ((blk_cell HX.out).trans rfl)
            have y2 : wr.cell? ⟨wb, 2, none⟩ = some (.slice A l.length ca) := cell_below HB.out ((blk_cell HX.out).trans rfl)
            rw [hB2] at y2
            have hbx := heap_alloc_new wr (.cells #[.int .i64 a1, .int .i64 a2, .int .i64 x3] 50)
            have hba := below_alloc' (Below.refl wr.heap.size wr) (.cells #[.int .i64 a1, .int .i64 a2, .int .i64 x3] 50)
            have j0 : (0 : Int) ≤ (j : Int) := by omega
            have j1 : (j : Int) < (st.length : Int) := by omega
            have i0 : (0 : Int) ≤ (i : Int) := by omega
            have i1 : (i : Int) < (l.length : Int) := by omega
            go_upto_region 12 with fail
            replace y0 := cell_below hba y0
            replace HA := Lib.hid (Arr.below HA.out hba)
            replace HA7 := Lib.hid (Arr.below HA7.out hba)
            replace H4 := Lib.hid (blk_below hba H4.out)
            replace HB := Lib.hid (below_trans' HB.out hba)
            have hs8 := hba.size
            generalize hxb : wr.heap.size = xb at hbx hs8 ⊢
            clear hba g1 p1 p2 p3 y2
            generalize wr.alloc (.cells #[.int .i64 a1, .int .i64 a2, .int .i64 x3] 50) = w2 at *
            have hxl := blk_lt hbx
            have HX10 := Lib.hid hbx
            have hx7 : r7 < xb := by omega
            clear hbx hxb hs8 hlt7
            go_wp2
            clear y0
            go_loopw [45] (fun iu wr => ∃ (v : Nat) (f : Nat → Nat), v ≤ k ∧ iu = .int .i64 v ∧ Hid (ArrN wr (w.heap.size + 1) f) ∧ Hid (KnownF (netB (k : Int) R l) st f) ∧ Hid (SubF g f) ∧ Hid (DidAll (netB (k : Int) R l) g f st j) ∧ Hid (Did (netB (k : Int) R l) g f i v) ∧ Hid (ArrN wr r7 g) ∧ Hid (wr.heap[w.heap.size]? = some (.cells (rowN fun _ => 0) 64 (0, 0))) ∧ Hid (wr.heap[xb]? = some (.cells #[.int .i64 a1, .int .i64 a2, .int .i64 x3] 50 (0, 0))) ∧ Hid (Below w.heap.size w wr) ∧ xb < wr.heap.size) (fun iu _ => k - (intOf iu).toNat)
            case atStart => exact ⟨0, f, by omega, rfl, HA, HF, HSb, HD, Lib.hid (fun x hx => absurd hx (by omega)), HA7, H4, HX10, HB, hxl⟩
            case round =>
              clear HA HF HSb HD HA7 H4 HX10 HB hxl
              obtain ⟨v, f, hv, rfl, HA, HF, HSb, HD, HDv, HA7, H4, HX10, HB, hxl⟩ := hrel
              by_cases hvk : v < k
              · have iv0 : (0 : Int) ≤ (v : Int) := by omega
                have iv1 : (v : Int) < 16 := by omega
                obtain ⟨c1, f1⟩ := HA.out v (by omega)
                rw [Nat.zero_add] at c1 f1
                try dsimp only at c1
                have n0 : wr.cell? ⟨xb, 0, none⟩ = some (.int .i64 a1) := (blk_cell HX10.out).trans rfl
                have n1 : wr.cell? ⟨xb, 1, none⟩ = some (.int .i64 a2) := (blk_cell HX10.out).trans rfl
                have hfv := HF.out.lt v (by omega)
                have HST := Lib.hid (HF.out.step (by rw [HNn.out]; exact hn16) him (by rw [HNn.out, hnet.out.2]; exact ha2) (by rw [HNn.out]; exact hvk))
                have HSU := Lib.hid (orS_sub (netB (k : Int) R l) i v f)
                have HDX := Lib.hid (HDv.out.next HSb.out)
                have hos : ∀ x, orS (netB (k : Int) R l) i v f x = if x = v then (if (f v).testBit a1 = true then f v ||| 2 ^ a2 else f v) else f x := fun x => by
                  unfold orS; rw [hnet.out.1, hnet.out.2]; rfl
                have HOS := Lib.hid hos
                clear hos
                obtain ⟨m, hm⟩ : ∃ m, f v = m := ⟨_, rfl⟩
                rw [hm] at c1 hfv HOS
                obtain ⟨hq1, hq2⟩ := ask_bit (r := a1) hfv
                obtain ⟨d, hd⟩ : ∃ d, m / 2 ^ a1 = d := ⟨_, rfl⟩
                rw [hd] at hq1 hq2
                clear hd
                cases hb : m.testBit a1
                · rw [hb, if_neg (by simp)] at hq2
                  have HA' : Hid (ArrN wr (w.heap.size + 1) (orS (netB (k : Int) R l) i v f)) := Lib.hid (HA.out.congr fun x _ => by
                    rw [HOS.out x]
                    by_cases e : x = v
                    · subst e; rw [if_pos rfl, if_neg (by simp [hb]), hm]
                    · rw [if_neg e])
                  clear hb hm
                  go_wp2
                  go_quiet (fail)
                  have HA2 : Hid (ArrN (wr.drewN nq) (w.heap.size + 1) (orS (netB (k : Int) R l) i v f)) := Lib.hid HA'.out
                  have HA72 : Hid (ArrN (wr.drewN nq) r7 g) := Lib.hid HA7.out
                  have H42 : Hid ((wr.drewN nq).heap[w.heap.size]? = some (.cells (rowN fun _ => 0) 64 (0, 0))) := Lib.hid H4.out
                  have HX2 : Hid ((wr.drewN nq).heap[xb]? = some (.cells #[.int .i64 a1, .int .i64 a2, .int .i64 x3] 50 (0, 0))) := Lib.hid HX10.out
                  go_wp2
                  go_roundw
                  case rel => exact ⟨v + 1, _, by omega, by go_num, HA2, HST, Lib.hid (HSb.out.trans HSU.out), Lib.hid (HD.out.mono HSU.out), HDX, HA72, H42, HX2, Lib.hid (below_drewN HB.out _), hxl⟩
                  case measure => simp [intOf]; omega
                · rw [hb, if_pos rfl] at hq2
                  obtain ⟨hw1, hor, hlt⟩ := put_bit hfv (by omega : a2 < 16)
                  go_wp2
                  go_quiet (fail)
                  replace HA : Hid (ArrN (wr.drewN nq) (w.heap.size + 1) f) := Lib.hid HA.out
                  replace HA7 : Hid (ArrN (wr.drewN nq) r7 g) := Lib.hid HA7.out
                  replace H4 : Hid ((wr.drewN nq).heap[w.heap.size]? = some (.cells (rowN fun _ => 0) 64 (0, 0))) := Lib.hid H4.out
                  replace HX10 : Hid ((wr.drewN nq).heap[xb]? = some (.cells #[.int .i64 a1, .int .i64 a2, .int .i64 x3] 50 (0, 0))) := Lib.hid HX10.out
                  replace HB := Lib.hid (below_drewN HB.out nq)
                  replace c1 : (wr.drewN nq).cell? ⟨w.heap.size + 1, v, none⟩ = some (.int .i64 m) := c1
                  replace f1 : (wr.drewN nq).frozen? ⟨w.heap.size + 1, v, none⟩ = false := f1
                  replace n0 : (wr.drewN nq).cell? ⟨xb, 0, none⟩ = some (.int .i64 a1) := n0
                  replace n1 : (wr.drewN nq).cell? ⟨xb, 1, none⟩ = some (.int .i64 a2) := n1
                  replace hxl : xb < (wr.drewN nq).heap.size := hxl
                  generalize wr.drewN nq = w3 at *
                  have hA' := HA.out.set (k := v) (by omega) (m ||| 2 ^ a2)
                  obtain ⟨q, hq⟩ : ∃ q, 2 ^ a2 = q := ⟨_, rfl⟩
                  obtain ⟨m2, hm2⟩ : ∃ m2, m ||| 2 ^ a2 = m2 := ⟨_, rfl⟩
                  rw [hm2] at hA' hor
                  rw [hq] at hw1 hor
                  have hw2 : wrap64 (2 ^ a2) = (q : Int) := by rw [← IntWalk.i64_left]; exact hw1
                  have HA' : Hid (ArrN (w3.setCell ⟨w.heap.size + 1, v, none⟩ (.int .i64 (m2 : Int))).drew (w.heap.size + 1) (orS (netB (k : Int) R l) i v f)) := Lib.hid (hA'.congr fun x _ => by
                    rw [HOS.out x, hb, hm2]
                    by_cases e : x = v
                    · rw [if_pos e, if_pos e, if_pos rfl]
                    · rw [if_neg e, if_neg e])
                  have HA7' : Hid (ArrN (w3.setCell ⟨w.heap.size + 1, v, none⟩ (.int .i64 (m2 : Int))).drew r7 g) := Lib.hid (Arr.far_block (p := ⟨w.heap.size + 1, v, none⟩) HA7.out (by dsimp only; omega) (.int .i64 (m2 : Int)))
                  have H4' : Hid ((w3.setCell ⟨w.heap.size + 1, v, none⟩ (.int .i64 (m2 : Int))).drew.heap[w.heap.size]? = some (.cells (rowN fun _ => 0) 64 (0, 0))) := Lib.hid (blk_far (p := ⟨w.heap.size + 1, v, none⟩) H4.out (by dsimp only; omega) (.int .i64 (m2 : Int)))
                  have HX10' : Hid ((w3.setCell ⟨w.heap.size + 1, v, none⟩ (.int .i64 (m2 : Int))).drew.heap[xb]? = some (.cells #[.int .i64 a1, .int .i64 a2, .int .i64 x3] 50 (0, 0))) := Lib.hid (blk_far (p := ⟨w.heap.size + 1, v, none⟩) HX10.out (by dsimp only; omega) (.int .i64 (m2 : Int)))
                  have HB' := Lib.hid (HB.out.setCell (p := ⟨w.heap.size + 1, v, none⟩) (by dsimp only; omega) (.int .i64 (m2 : Int))).drew
                  have hxl' : xb < (w3.setCell ⟨w.heap.size + 1, v, none⟩ (.int .i64 (m2 : Int))).drew.heap.size := by simpa using hxl
                  clear hA' hq hm2 hb hm hlt HA HA7 H4 HX10 HB
                  go_upto_region 16 with fail
                  go_big_region
                  clear c1 f1 n0 n1 hq1 hq2 hw1 hw2 hor hxl
                  go_wp2
                  go_roundw
                  case rel => exact ⟨v + 1, _, by omega, by go_num, HA', HST, Lib.hid (HSb.out.trans HSU.out), Lib.hid (HD.out.mono HSU.out), HDX, HA7', H4', HX10', HB', hxl'⟩
                  case measure => simp [intOf]; omega
              · obtain rfl : v = k := by omega
                have HDn := Lib.hid (HDN.out f HD.out HDv.out)
                go_wp2
                go_roundw
                case rel => exact ⟨j + 1, f, by omega, by go_num, HA, HF, HSb, HDn, HA7, H4, HB, by omega⟩
                case measure => simp [intOf]; omega
          · obtain rfl : j = st.length := by omega
            have HR5 := Lib.hid (Arr.range HA.out)
            have HR7 := Lib.hid (Arr.range HA7.out)
            have H4T : Hid (wr.there w.heap.size 0 (rowN f).size) := Lib.hid fun i hi => by
              unfold rowN at hi
              rw [rowV_size] at hi
              exact ⟨by rw [blk_cell H4.out, Nat.zero_add]; unfold rowN; rw [rowV_get _ hi]; rfl, blk_frozen H4.out⟩
            by_cases he : ∀ x, x < 16 → f x = g x
            · have hq : ∀ W : World, (Op.equalIn 10000 64 (.agg (rowN f)) (.agg (rowN g))).run Tryd.prog W = .ok true W := fun W => run_eqV (f := fun i => (f i : Int)) (g := fun i => (g i : Int)) (ArrN.wf HF.out.lt) (ArrN.wf HKn.out.lt) W (b := true) (by rw [rowV_same]; exact ⟨fun _ => he, fun _ => rfl⟩)
              have HQ := Lib.hid hq
              have HCO := Lib.hid (HF.out.done fun i hi hk x hx hb => HD.out i hi hk x hx (by
                by_cases e : x < 16
                · rw [← he x e]; exact hb
                · rw [HNn.out] at hx; omega))
              have HBF := Lib.hid (HB.out.grown (grown_setCells (b := w.heap.size) (rowN f).toList 0) (by omega) (fun r e => by injection e; omega))
              have hT := H4T.out
              have HRS := Lib.hid (Arr.range (Arr.stored (f := fun i => (f i : Int)) (w := wr) (b := w.heap.size) (o := 0) (fun i hi => hT i (by unfold rowN; rw [rowV_size]; exact hi))))
              have hq := fun W => HQ.out W
              clear hT he
              go_wp2_with (first | (refine wpList_load_mid rfl 64 (.tmp 5) rfl (w.heap.size + 1) 0 (by rfl) (rowN f).toList _ HR5.out Tryd.underlying64 rfl (by rw [infoR, Array.length_toList]; unfold rowN; rw [rowV_size]) ?_) | (refine wpList_load_mid rfl 64 (.tmp 7) rfl r7 0 (by rfl) (rowN g).toList _ HR7.out Tryd.underlying64 rfl (by rw [infoR, Array.length_toList]; unfold rowN; rw [rowV_size]) ?_) | (refine wpList_store_mid rfl 64 (.tmp 4) (.tmp 69) rfl w.heap.size 0 (rowN f) (by rfl) (by rfl) H4T.out (by unfold rowN; rw [infoR, rowV_size]) (rowV_one _) ?_))
              have hres := fun tmps hp => results_cell_mid (fn := Tryd.f34) (p := 4) (ty := 64) rfl tmps (wr.setCells w.heap.size 0 (rowN f).toList) w.heap.size (rowN f).toList _ hp HRS.out Tryd.underlying64 rfl (by rw [infoR, Array.length_toList]; unfold rowN; rw [rowV_size])
              rw [Array.toArray_toList] at hres
              exact bodyPost_ret (v := .agg (rowN f)) (hres _ rfl) rfl (Ret.mk ⟨⟨f, rfl, HCO.out⟩, HBF.out⟩)
            · have hq : ∀ W : World, (Op.equalIn 10000 64 (.agg (rowN f)) (.agg (rowN g))).run Tryd.prog W = .ok false W := fun W => run_eqV (f := fun i => (f i : Int)) (g := fun i => (g i : Int)) (ArrN.wf HF.out.lt) (ArrN.wf HKn.out.lt) W (b := false) (by rw [rowV_same]; exact ⟨(fun h => nomatch h), fun h => absurd h he⟩)
              have HG := Lib.hid (total_grow HSb.out (fun h => he fun x hx => (h x hx).symm))
              have HTB := Lib.hid (total_bound HF.out.lt)
              have HTE := Lib.hid (totalW_eq HA.out)
              clear he
              go_wp2_with (first | (refine wpList_load_mid rfl 64 (.tmp 5) rfl (w.heap.size + 1) 0 (by rfl) (rowN f).toList _ HR5.out Tryd.underlying64 rfl (by rw [infoR, Array.length_toList]; unfold rowN; rw [rowV_size]) ?_) | (refine wpList_load_mid rfl 64 (.tmp 7) rfl r7 0 (by rfl) (rowN g).toList _ HR7.out Tryd.underlying64 rfl (by rw [infoR, Array.length_toList]; unfold rowN; rw [rowV_size]) ?_))
              go_roundw
              case rel => exact ⟨f, HA, HF, H4, HB, by omega⟩
              case measure =>
                rw [HZ.out, HTE.out]
                have h1 := HG.out
                have h2 := HTB.out
                omega
end Go.Proofs.YtggcooplhodocaaDoor

namespace Go.Proofs.YtggcooplhodocaaDoor
open Go.RowKit Go.Shelf Go.Maps Fam

theorem wp_region_class {id : Nat} {C : World → Prop} {Q : Exit → Act → World → Prop} {a : Act} {w : World} {l : List Oper} (hm : Tryd.prog.follows .mixedOrders = true) (hB : Region.lexB .any l.toArray = true) (hC : C w.drew)
    (h : wpQuiet Tryd.prog l.toArray C (fun a' => ∀ w', C w' → Q .normal a' w') l a) : (Code.region id l.toArray true).wp Tryd.prog Q a w :=
  wp_region_quiet hm hB hC (by simpa using h)
/-- numbers as the program has them -/
def castL (l : List Nat) : List Int := l.map fun i : Nat => (i : Int)
theorem castL_len (l : List Nat) : (castL l).length = l.length := by unfold castL; simp
theorem castL_snoc (l : List Nat) (x : Nat) : castL (l ++ [x]) = castL l ++ [(x : Int)] := by unfold castL; simp
theorem castL_at {l : List Nat} {i : Nat} (h : i < l.length) : (castL l)[i]'(by rw [castL_len]; exact h) = (l[i] : Int) := by unfold castL; simp

theorem own_cap {w : World} {base : Nat} {e : TypeId} {size : Nat} {A : Option Addr} {n c m : Nat} {xs : List Value} (h : w.ownsRow base e size (.slice A n c) m xs) : c ≤ 9223372036854775807 := by
  rcases h.2 with ⟨h1, _⟩ | ⟨g, cap, cur, h1, h2⟩
  · injection h1 with _ _ h3; omega
  · injection h1 with _ _ h3
    have := h2
    unfold maxLen at this
    omega

set_option maxRecDepth 100000 in
theorem every_any (x : St) (w : World) : Calls Tryd.prog 36 #[vT x] w (Ret fun v w' => v = .bool true ∧ Below w.heap.size w w') := by
  obtain ⟨x1, x2, x3⟩ := x
  unfold vT
  go_enter Tryd.func36, Tryd.ntmps36
  go_wp2
  go_ret
  exact Ret.mk' rfl ⟨rfl, below_alloc' (Below.refl _ _) _⟩
theorem entersEvery : ∀ args W, (callFunc 36 args).run Tryd.prog W = .ok (.enter 36 args) W := fun args W => by simp [go_sem]
theorem asksEvery (w : World) : Asks w 36 #[] #[] vT (fun _ => True) (fun _ => true) := fun W x _ _ => every_any x W

set_option maxRecDepth 100000 in
set_option maxHeartbeats 2000000 in
theorem all_any (S R : Int) (A : Option Addr) (ca : Nat) (l : List St) (g : Nat) (fst cpt : Array Value) (p : St → Bool) (w : World) (hl : StepsAt w A l) (hn : l.length ≤ 100000)
    (eg : ∀ args W, (callFunc g args).run Tryd.prog W = .ok (.enter g args) W) (hp : Asks w g fst cpt vT (fun _ => True) p) :
    Calls Tryd.prog 35 #[vBook S R A l.length ca, .func (.func g) fst cpt] w (Ret fun v w' => (∃ G c, v = .slice G (allL p l).length c ∧ IntsAt w' G (castL (allL p l)) ∧ (allL p l).length ≤ c ∧ c ≤ 9223372036854775807) ∧ Below w.heap.size w w') := by
  have Hl := Lib.hid hl; clear hl
  have Hp := Lib.hid hp; clear hp
  unfold vBook
  go_enter Tryd.func35, Tryd.ntmps35
  go_upto_region 1 with fail
  have hX := heap_alloc_new w (.cells #[.int .i64 S, .int .i64 R, .slice A l.length ca] 24)
  have HB0 : Hid (Below w.heap.size w (w.alloc (.cells #[.int .i64 S, .int .i64 R, .slice A l.length ca] 24))) := Lib.hid (below_alloc' (Below.refl _ _) _)
  have hsz : w.heap.size + 1 ≤ (w.alloc (.cells #[.int .i64 S, .int .i64 R, .slice A l.length ca] 24)).heap.size := by simp
  generalize w.alloc (.cells #[.int .i64 S, .int .i64 R, .slice A l.length ca] 24) = w0 at hX HB0 hsz ⊢
  have y2 : w0.cell? ⟨w.heap.size, 2, none⟩ = some (.slice A l.length ca) := (blk_cell hX).trans rfl
  go_wp2
  clear y2 hX
  go_loopw [5, 11] (fun s5 i wr => ∃ (k : Nat) (u : Value), k ≤ l.length ∧ i = .int .i64 k ∧ s5 = u ∧ Hid (wr.ownsRow (w.heap.size + 1) 3 1 u (castL (allK p l k)).length ((castL (allK p l k)).flatMap encI)) ∧ Hid (Below w.heap.size w wr) ∧ w.heap.size + 1 ≤ wr.heap.size) (fun _ i _ => l.length - (intOf i).toNat)
  case atStart => exact ⟨0, .slice none 0 0, by omega, rfl, rfl, Lib.hid (by simpa [castL, allK] using World.ownsRow_nil w0 (w.heap.size + 1) 3 1), HB0, hsz⟩
  case round =>
    clear HB0 hsz
    obtain ⟨k, u, hk, rfl, rfl, HO, HB, hsz⟩ := hrel
    by_cases hkn : k < l.length
    · obtain ⟨b, off, rfl, g1, g2, g3⟩ := StepsAt.at_ (Hl.out.below HB.out) hkn
      have ij0 : (0 : Int) ≤ (k : Int) := by omega
      have ij1 : (k : Int) < (l.length : Int) := by omega
      have HY := Lib.hid (allK_yes (p := p) (l := l) (k := k))
      have HN := Lib.hid (allK_no (p := p) (l := l) (k := k))
      rw [stAt_eq hkn] at HY HN
      have hcl := allK_le p l k
      rw [← castL_len] at hcl
      generalize l[k] = x at g1 g2 g3 HY HN
      obtain ⟨x1, x2, x3⟩ := x
      dsimp only at g1 g2 g3
      have hbx := heap_alloc_new wr (.cells #[.int .i64 x1, .int .i64 x2, .int .i64 x3] 50)
      have hba := below_alloc' (Below.refl wr.heap.size wr) (.cells #[.int .i64 x1, .int .i64 x2, .int .i64 x3] 50)
      go_upto_region 5 with fail
      replace HO := Lib.hid (own_below' HO.out hba)
      replace HB := Lib.hid (below_trans' HB.out hba)
      have hs2 := hba.size
      generalize hxb : wr.heap.size = xb at hbx hs2 ⊢
      clear hba g1 g2 g3
      generalize wr.alloc (.cells #[.int .i64 x1, .int .i64 x2, .int .i64 x3] 50) = w2 at *
      have hsz2 : w.heap.size + 1 ≤ w2.heap.size := by omega
      clear hxb hs2 hsz
      have n0 : w2.cell? ⟨xb, 0, none⟩ = some (.int .i64 x1) := (blk_cell hbx).trans rfl
      have n1 : w2.cell? ⟨xb, 1, none⟩ = some (.int .i64 x2) := (blk_cell hbx).trans rfl
      have n2 : w2.cell? ⟨xb, 2, none⟩ = some (.int .i64 x3) := (blk_cell hbx).trans rfl
      clear hbx
      have hc := Hp.out w2 (x1, x2, x3) HB.out trivial
      unfold vT at hc
      dsimp only at hc
      have Hc := Lib.hid hc
      clear hc
      go_wp2_with fail
      refine Hc.out.mono ?_
      rintro e w3 ⟨v, rfl, rfl, hB3⟩
      replace HO := Lib.hid (own_below' HO.out hB3)
      replace HB := Lib.hid (below_trans' HB.out hB3)
      have hs3 := hB3.size
      have hsz3 : w.heap.size + 1 ≤ w3.heap.size := by omega
      clear hB3 Hc n0 n1 n2 hs3 hsz2
      cases hq : p (x1, x2, x3)
      · have HN' := Lib.hid (HN.out hq)
        clear hq
        go_wp2
        go_roundw
        case rel => exact ⟨k + 1, _, by omega, by go_num, rfl, by rw [HN'.out]; exact HO, HB, hsz3⟩
        case measure => simp [intOf]; omega
      · have HY' := Lib.hid (HY.out hq)
        clear hq
        have hbk := heap_alloc_new w3 (.cells #[.int .i64 (k : Int)] 3)
        have HOA := Lib.hid (HO.out.alloc (.cells #[.int .i64 (k : Int)] 3))
        have hHC := Lib.hid (castL_snoc (allK p l k) k)
        have hr6 := own_base HO.out
        generalize castL (allK p l k) = T at HOA HO hcl hHC
        go_wp2_with (at_builtin; refine wpList_push _ rfl (.tmp 19) (.tmp 21) 25 rfl elemI encI_len oneI Tryd.underlying25 (w.heap.size + 1) _ T rfl HOA.out (by omega) (k : Int) w3.heap.size (by rfl) _ rfl _ _ hbk (by rw [World.size_alloc]; omega) ?_; intro g2 cap w6 hO6 hg6)
        have HB6 := Lib.hid ((below_alloc' HB.out (.cells #[.int .i64 (k : Int)] 3)).grown hg6 (by rw [World.size_alloc]; omega) (fun r e => by have := hr6 r e; omega))
        have hs6 := hg6.size
        rw [World.size_alloc] at hs6
        have HO6 := Lib.hid hO6
        clear hO6 hg6 hr6 HO HOA hbk HB
        go_roundw
        case rel => exact ⟨k + 1, _, by omega, by go_num, rfl, by rw [HY'.out, hHC.out, len_snoc]; exact HO6, HB6, by omega⟩
        case measure => simp [intOf]; omega
    · obtain rfl : k = l.length := by omega
      have HO' : Hid (wr.ownsRow (w.heap.size + 1) 3 1 _ (castL (allL p l)).length ((castL (allL p l)).flatMap encI)) := HO
      obtain ⟨G, c, rfl, hc⟩ := own_form HO'.out
      have hcm : c ≤ 9223372036854775807 := own_cap HO'.out
      rw [castL_len] at hc
      go_wp2
      go_ret
      exact Ret.mk ⟨⟨G, c, by rw [castL_len]; rfl, RowsAt.of_own encI_len HO'.out, hc, hcm⟩, HB.out⟩
end Go.Proofs.YtggcooplhodocaaDoor

namespace Go.Proofs.YtggcooplhodocaaDoor
open Go.RowKit Go.Shelf Go.Maps Fam

theorem come_is (S R : Int) (A B : Option Addr) (ca cb wb mb : Nat) (u : Value) (l : List St) (st : List Nat) (w : World) (hX : w.heap[wb]? = some (woodC S R A l.length ca u mb)) (hl : StepsAt w A l) (hs : IntsAt w B (castL st)) (hst : ∀ i ∈ st, i < l.length) (hlen : st.length ≤ 100000) (hok : BookOk S R l) :
    Calls Tryd.prog 34 #[.pointer (some ⟨wb, 0, none⟩), .slice B st.length cb] w (Ret fun v w' => v = .agg (rowN (comeM (netB S R l) st)) ∧ Below w.heap.size w w') :=
  (come_any S R A B ca cb wb mb u l st w hX hl hs hst hlen hok).mono fun e w' ⟨v, e1, ⟨f, e2, hf⟩, hb⟩ => ⟨v, e1, by rw [e2, hf.uniq (comeM_is (by have := hok.dim; show S.toNat ≤ 16; omega) st)], hb⟩
theorem run_indexV (f : Nat → Int) {k : Nat} (hk : k < 16) (w : World) : (Instr.index 64 (.agg (rowV f)) (.int .i64 k)).run Tryd.prog w = .ok (.int .i64 (f k)) w := by
  have h1 := rowV_get f hk
  have e1 : (0 : Int) ≤ (k : Int) := by omega
  unfold Instr.index
  simp [go_sem, h1, e1]
  intro h; omega
theorem rowN_at (f : Nat → Nat) {k : Nat} (hk : k < 16) (w : World) : (Instr.index 64 (.agg (rowN f)) (.int .i64 k)).run Tryd.prog w = .ok (.int .i64 (f k : Nat)) w := run_indexV _ hk w

set_option maxRecDepth 100000 in
set_option maxHeartbeats 4000000 in
theorem full_any (S R : Int) (A B : Option Addr) (ca cb wb mb : Nat) (u : Value) (l : List St) (st : List Nat) (w : World) (hX : w.heap[wb]? = some (woodC S R A l.length ca u mb)) (hl : StepsAt w A l) (hs : IntsAt w B (castL st)) (hst : ∀ i ∈ st, i < l.length) (hlen : st.length ≤ 100000) (hok : BookOk S R l) :
    Calls Tryd.prog 51 #[.pointer (some ⟨wb, 0, none⟩), .slice B st.length cb] w (Ret fun v w' => v = .bool (fullB (netB S R l) st) ∧ Below w.heap.size w w') := by
  have HX := Lib.hid hX; clear hX
  have Hl := Lib.hid hl; clear hl
  have Hs := Lib.hid hs; clear hs
  have Hst := Lib.hid hst; clear hst
  have hdim := hok.dim
  have hroot := hok.root
  have HK := Lib.hid hok; clear hok
  obtain ⟨n, rfl⟩ := Int.eq_ofNat_of_zero_le (by omega : 0 ≤ S)
  obtain ⟨r, rfl⟩ := Int.eq_ofNat_of_zero_le hroot.1
  have hrn : r < n := by omega
  have hn16 : n ≤ 16 := by omega
  have y0 : w.cell? ⟨wb, 0, none⟩ = some (.int .i64 n) := (blk_cell HX.out).trans rfl
  have y1 : w.cell? ⟨wb, 1, none⟩ = some (.int .i64 r) := (blk_cell HX.out).trans rfl
  have HF := Lib.hid (comeM_is (N := netB (n : Int) (r : Int) l) hn16 st)
  have hfull := HF.out.full (show r < n from hrn)
  have hlt := HF.out.lt r (by omega)
  obtain ⟨q, hq⟩ : ∃ q, 2 ^ n = q := ⟨_, rfl⟩
  have hq2 : q ≤ 65536 := by
    rw [← hq]
    have : 2 ^ n ≤ 2 ^ 16 := Nat.pow_le_pow_right (by omega) hn16
    have h16 : 2 ^ 16 = 65536 := rfl
    omega
  have hq1 : 1 ≤ q := by rw [← hq]; exact Nat.two_pow_pos n
  have hw1 : IntKind.i64.wrap (2 ^ n) = (q : Int) := by
    rw [show (2 : Int) ^ n = ((2 ^ n : Nat) : Int) by simp, hq]
    exact IntWalk.i64_in _ (by omega)
  have hw2 : wrap64 (2 ^ n) = (q : Int) := by rw [← IntWalk.i64_left]; exact hw1
  have hw3 : IntKind.i64.wrap ((q : Int) - 1) = (q : Int) - 1 := IntWalk.i64_in _ (by omega)
  have hrow := rowN_at (comeM (netB (n : Int) (r : Int) l) st) (k := r) (by omega)
  have HFU : Hid ((comeM (netB (n : Int) (r : Int) l) st r = q - 1) ↔ fullB (netB (n : Int) (r : Int) l) st = true) := Lib.hid (by
    rw [fullB_iff, ← hq]; exact hfull)
  clear hq hfull
  have hci := come_is (n : Int) (r : Int) A B ca cb wb mb u l st
  generalize comeM (netB (n : Int) (r : Int) l) st = f at HF hlt hrow HFU hci
  obtain ⟨m, hm⟩ : ∃ m, f r = m := ⟨_, rfl⟩
  rw [hm] at hrow hlt HFU
  have HCI := Lib.hid hci
  clear hci hm HF
  go_enter Tryd.func51, Tryd.ntmps51
  go_upto_region 1 with fail
  refine wp_region_class (C := fun W => Below w.heap.size w W) (by kernel_rfl) (by kernel_rfl) ((Below.refl _ _).drew) ?_
  repeat (first
    | go_big_quiet_skip
    | (go_big_quiet_want
       first
         | (go_big_quiet_op; go_big_quiet_on)
         | (apply Exists.intro
            refine ⟨fun W hW => ?_, ?_⟩
            · replace y0 := cell_below hW y0; replace y1 := cell_below hW y1; go_simp <;> exact rfl
            simp only [Act.put, List.setIfInBounds_toArray, List.set_cons_zero, List.set_cons_succ]
            go_big_quiet_on)))
  go_big_quiet_want
  apply Exists.intro
  refine ⟨fun W hW => ?_, ?_⟩
  · go_simp
    refine (HCI.out W (blk_below hW HX.out) (Hl.out.below hW) (RowsAt.below Hs.out hW) Hst.out hlen HK.out).mono ?_
    rintro e wc ⟨v, rfl, rfl, hBc⟩
    exact ⟨rfl, below_trans' hW hBc⟩
  simp only [Act.put, List.setIfInBounds_toArray, List.set_cons_zero, List.set_cons_succ]
  go_big_quiet_on
  repeat (first
    | go_big_quiet_skip
    | (go_big_quiet_want
       first
         | (go_big_quiet_op; go_big_quiet_on)
         | (apply Exists.intro
            refine ⟨fun W hW => ?_, ?_⟩
            · replace y0 := cell_below hW y0; replace y1 := cell_below hW y1; go_simp <;> exact rfl
            simp only [Act.put, List.setIfInBounds_toArray, List.set_cons_zero, List.set_cons_succ]
            go_big_quiet_on)))
  refine wpQuiet_nil ?_
  intro w1 hB1
  have HB1 := Lib.hid hB1
  have hb : ((m : Int) == (q : Int) - 1) = fullB (netB (n : Int) (r : Int) l) st := by
    rw [Bool.eq_iff_iff, ← HFU.out, beq_iff_eq]
    omega
  have HV := Lib.hid hb
  clear hb
  go_wp2
  go_ret
  exact Ret.mk' (congrArg Value.bool HV.out) ⟨rfl, HB1.out⟩
end Go.Proofs.YtggcooplhodocaaDoor

namespace Go.Proofs.YtggcooplhodocaaDoor
open Go.RowKit Go.Shelf Go.Maps Fam

/-- a list and a number, as they are returned -/
def ListE (w : World) (x : List Int × Int) (v : Value) : Prop := ∃ G c, v = .tuple #[.slice G x.1.length c, .int .i64 x.2] ∧ IntsAt w G x.1 ∧ x.1.length ≤ c ∧ c ≤ 9223372036854775807
theorem ListE.nil (w : World) {x : List Int × Int} {e : Int} (h : x = ([], e)) : ListE w x (.tuple #[.slice none 0 0, .int .i64 e]) := by
  subst h
  exact ⟨none, 0, rfl, IntsAt.nil, Nat.le_refl _, by omega⟩

set_option maxRecDepth 100000 in
set_option maxHeartbeats 4000000 in
theorem lost_any (S R : Int) (A : Option Addr) (ca : Nat) (l : List St) (w : World) (hl : StepsAt w A l) (hn : l.length ≤ 100000) :
    Calls Tryd.prog 16 #[vBook S R A l.length ca] w (Ret fun v w' => ListE w' (lostV S R l) v ∧ Below w.heap.size w w') := by
  have Hl := Lib.hid hl; clear hl
  have hcb := checkBook_any S R A ca l
  have hnw := newWood_any S R A ca l
  unfold vBook at hcb hnw ⊢
  have Hcb := Lib.hid hcb
  have Hnw := Lib.hid hnw
  clear hcb hnw
  go_enter Tryd.func16, Tryd.ntmps16
  go_upto_region 1 with fail
  have hX := heap_alloc_new w (.cells #[.int .i64 S, .int .i64 R, .slice A l.length ca] 24)
  have HB0 : Hid (Below w.heap.size w (w.alloc (.cells #[.int .i64 S, .int .i64 R, .slice A l.length ca] 24))) := Lib.hid (below_alloc' (Below.refl _ _) _)
  have hsz : w.heap.size + 1 ≤ (w.alloc (.cells #[.int .i64 S, .int .i64 R, .slice A l.length ca] 24)).heap.size := by simp
  generalize w.alloc (.cells #[.int .i64 S, .int .i64 R, .slice A l.length ca] 24) = w0 at hX HB0 hsz ⊢
  have y0 : w0.cell? ⟨w.heap.size, 0, none⟩ = some (.int .i64 S) := (blk_cell hX).trans rfl
  have y1 : w0.cell? ⟨w.heap.size, 1, none⟩ = some (.int .i64 R) := (blk_cell hX).trans rfl
  have y2 : w0.cell? ⟨w.heap.size, 2, none⟩ = some (.slice A l.length ca) := (blk_cell hX).trans rfl
  clear hX
  go_wp2_with fail
  refine (Hcb.out w0 (Hl.out.below HB0.out) hn).mono ?_
  rintro e w1 ⟨v, rfl, rfl, hB1⟩
  have HB1 := Lib.hid (below_trans' HB0.out hB1)
  replace y0 := cell_below hB1 y0
  replace y1 := cell_below hB1 y1
  replace y2 := cell_below hB1 y2
  have hs1 := hB1.size
  clear hB1 HB0 Hcb
  by_cases he : bookErr S R l = 0
  rotate_left 1
  · have HF := Lib.hid (lostV_err he)
    have d1 : (bookErr S R l != 0) = true := by simpa using he
    generalize bookErr S R l = er at d1 HF
    go_wp2
    go_ret2
    exact Ret.mk ⟨ListE.nil _ HF.out, HB1.out⟩
  have HK := Lib.hid (bookErr_iff.1 he)
  have HE := Lib.hid he
  rw [he]
  clear he
  have hr := HK.out.root
  have hdim := HK.out.dim
  obtain ⟨n, rfl⟩ := Int.eq_ofNat_of_zero_le (by omega : 0 ≤ S)
  obtain ⟨r, rfl⟩ := Int.eq_ofNat_of_zero_le hr.1
  have hrn : r < n := by omega
  have hn16 : n ≤ 16 := by omega
  clear hr hdim
  go_wp2_with fail
  refine (Hnw.out w1 (Hl.out.below HB1.out) hn).mono ?_
  rintro e w2 ⟨v, rfl, ⟨wb, mb, u, rfl, hX, hO, hM, hwb, hmb⟩, hB2⟩
  replace HX := Lib.hid hX
  have HB2 := Lib.hid (below_trans' HB1.out hB2)
  replace y0 := cell_below hB2 y0
  replace y1 := cell_below hB2 y1
  replace y2 := cell_below hB2 y2
  have hs2 : w.heap.size + 1 ≤ w2.heap.size := by have := hB2.size; omega
  have Hl2 := Lib.hid (Hl.out.below HB2.out)
  clear hX hO hM hwb hmb hB2 Hnw hs1 hsz HB1
  go_upto_region 5 with fail
  have d0 : w2.drew.cell? ⟨w.heap.size, 0, none⟩ = some (.int .i64 n) := y0
  have d1 : w2.drew.cell? ⟨w.heap.size, 1, none⟩ = some (.int .i64 r) := y1
  have d2 : w2.drew.cell? ⟨w.heap.size, 2, none⟩ = some (.slice A l.length ca) := y2
  have HBv : Hid (Below w2.heap.size w2 w2.drew) := Lib.hid ((Below.refl _ _).drew)
  have HLv : Hid (StepsAt w2.drew A l) := Lib.hid Hl2.out
  have HXv : Hid (w2.drew.heap[wb]? = some (woodC n r A l.length ca u mb)) := Lib.hid HX.out
  have hrow := rowN_at (comeM (netB (n : Int) (r : Int) l) (allL (fun _ => true) l)) (k := r) (by omega)
  have hel := every_len l
  go_cut [6] (fun s6 wx => s6 = .int .i64 (comeM (netB (n : Int) (r : Int) l) (allL (fun _ => true) l) r : Nat) ∧ Hid (Below w2.heap.size w2 wx))
  case first =>
    refine wp_region_held (S := fun W => W.cell? ⟨w.heap.size, 0, none⟩ = some (.int .i64 n) ∧ W.cell? ⟨w.heap.size, 1, none⟩ = some (.int .i64 r) ∧ W.cell? ⟨w.heap.size, 2, none⟩ = some (.slice A l.length ca)) (by kernel_rfl) ?_
    refine wpAnyH_take (i := 0) (v := ?_) rfl (by kernel_rfl) (by kernel_rfl) (by kernel_rfl) (fun _ _ _ h => h) (Or.inl ⟨by rfl, ?_⟩) ⟨d0, d1, d2⟩ ?_
    rotate_left 1
    · intro W hW; obtain ⟨s0, s1, s2⟩ := hW; go_simp <;> with_reducible rfl
    refine wpAnyH_take (i := 1) (v := ?_) rfl (by kernel_rfl) (by kernel_rfl) (by kernel_rfl) (fun _ _ _ h => h) (Or.inl ⟨by rfl, ?_⟩) ⟨d0, d1, d2⟩ ?_
    rotate_left 1
    · intro W hW; obtain ⟨s0, s1, s2⟩ := hW; go_simp <;> with_reducible rfl
    refine wpAnyH_take (i := 4) (v := ?_) rfl (by kernel_rfl) (by kernel_rfl) (by kernel_rfl) (fun _ _ _ h => h) (Or.inl ⟨by rfl, ?_⟩) ⟨d0, d1, d2⟩ ?_
    rotate_left 1
    · intro W hW; obtain ⟨s0, s1, s2⟩ := hW; go_simp <;> with_reducible rfl
    refine wpAnyH_take (i := 5) (v := ?_) rfl (by kernel_rfl) (by kernel_rfl) (by kernel_rfl) (fun _ _ _ h => h) (Or.inl ⟨by rfl, ?_⟩) ⟨d0, d1, d2⟩ ?_
    rotate_left 1
    · intro W hW; obtain ⟨s0, s1, s2⟩ := hW; go_simp <;> with_reducible rfl
    simp only [Act.put, List.setIfInBounds_toArray]
    refine wpAnyH_ready (rs := [2]) (by kernel_rfl) (by simp) ?_
    refine AllReadyH.cons rfl (fun K hK => ?_) AllReadyH.nil
    go_simp
    refine (all_any (n : Int) (r : Int) A ca l 36 #[] #[] (fun _ => true) _ HLv.out hn entersEvery (asksEvery _)).mono ?_
    rintro e V2 ⟨v, rfl, ⟨G, c, rfl, hG, hGc, hGm⟩, hb⟩
    replace HBv := Lib.hid (below_trans' HBv.out hb)
    replace HLv := Lib.hid (RowsAt.below HLv.out hb)
    replace HXv := Lib.hid (blk_below hb HXv.out)
    replace d0 := cell_below hb d0
    replace d1 := cell_below hb d1
    replace d2 := cell_below hb d2
    clear hb
    refine hK.out _ _ ⟨d0, d1, d2⟩ (fun _ => ?_)
    clear hK K
    refine wpAnyH_ready (rs := [3]) (by kernel_rfl) (by simp) ?_
    refine AllReadyH.cons rfl (fun K hK => ?_) AllReadyH.nil
    go_simp
    refine (come_is (n : Int) (r : Int) A G ca c wb mb u l (allL (fun _ => true) l) _ HXv.out HLv.out hG (fun i hi => every_mem.1 hi) (by omega) HK.out).mono ?_
    rintro e V3 ⟨v, rfl, rfl, hb⟩
    replace HBv := Lib.hid (below_trans' HBv.out hb)
    replace HLv := Lib.hid (RowsAt.below HLv.out hb)
    replace HXv := Lib.hid (blk_below hb HXv.out)
    replace d0 := cell_below hb d0
    replace d1 := cell_below hb d1
    replace d2 := cell_below hb d2
    clear hb
    refine hK.out _ _ ⟨d0, d1, d2⟩ (fun _ => ?_)
    clear hK K
    refine wpAnyH_take (i := 6) (v := ?_) rfl (by kernel_rfl) (by kernel_rfl) (by kernel_rfl) (fun _ _ _ h => h) (Or.inl ⟨by rfl, ?_⟩) ⟨d0, d1, d2⟩ ?_
    rotate_left 1
    · intro W hW; obtain ⟨s0, s1, s2⟩ := hW; go_simp <;> with_reducible rfl
    refine wpAnyH_take (i := 7) (v := ?_) rfl (by kernel_rfl) (by kernel_rfl) (by kernel_rfl) (fun _ _ _ h => h) (Or.inl ⟨by rfl, ?_⟩) ⟨d0, d1, d2⟩ ?_
    rotate_left 1
    · intro W hW; obtain ⟨s0, s1, s2⟩ := hW; go_simp <;> with_reducible rfl
    simp only [Act.put, List.setIfInBounds_toArray]
    refine wpAnyH_done (by kernel_rfl) ?_ _
    go_simp
    try (go_wp2_with fail)
    go_meet
    exact ⟨rfl, HBv⟩
  case rest =>
    obtain ⟨rfl, HBv2⟩ := hcut
    have HCM := Lib.hid (comeM_is (N := netB (n : Int) (r : Int) l) hn16 (allL (fun _ => true) l))
    have HB3 := Lib.hid (below_trans' HB2.out HBv2.out)
    have y0 := cell_below HBv2.out y0
    have hs3 : w.heap.size + 1 ≤ wc.heap.size := by have := HBv2.out.size; omega
    have hmlt := HCM.out.lt r (by omega)
    have hbits : ∀ k, k < n → ((comeM (netB (n : Int) (r : Int) l) (allL (fun _ => true) l) r).testBit k = true ↔ Rch (netB (n : Int) (r : Int) l) (allS (netB (n : Int) (r : Int) l)) (r : Int).toNat k) := fun k hk => by
      rw [HCM.out.bit r hrn, every_rch]
      exact ⟨fun h => h.2, fun h => ⟨hk, h⟩⟩
    have HBT := Lib.hid hbits
    generalize comeM (netB (n : Int) (r : Int) l) (allL (fun _ => true) l) r = m at HBT hmlt ⊢
    clear hbits d0 d1 d2 HBv HLv HXv hrow hel HBv2 HB2 HX Hl2 HCM y1 y2
    go_wp2
    clear y0
    go_loopw [7, 25] (fun s7 i wr => ∃ k : Nat, k ≤ n ∧ i = .int .i64 k ∧ Hid (wr.ownsRow (w.heap.size + 1) 3 1 s7 (lostK n r l k).length ((lostK n r l k).flatMap encI)) ∧ Hid (Below w.heap.size w wr) ∧ w.heap.size + 1 ≤ wr.heap.size) (fun _ i _ => n - (intOf i).toNat)
    case atStart => exact ⟨0, by omega, rfl, Lib.hid (by simpa [lostK] using World.ownsRow_nil wc (w.heap.size + 1) 3 1), HB3, hs3⟩
    case round =>
      clear HB3 hs3
      obtain ⟨k, hk, rfl, HO, HB, hs⟩ := hrel
      by_cases hkn : k < n
      · obtain ⟨hq1, hq2⟩ := ask_bit (r := k) hmlt
        obtain ⟨d, hd⟩ : ∃ d, m / 2 ^ k = d := ⟨_, rfl⟩
        rw [hd] at hq1 hq2
        clear hd
        have ij0 : (0 : Int) ≤ (k : Int) := by omega
        have HBk := Lib.hid (HBT.out k hkn)
        have hcl := lostK_le n r l k
        cases hb : m.testBit k
        · rw [hb, if_neg (by simp)] at hq2
          have HY := Lib.hid (lostK_lost (S := n) (R := r) (l := l) (k := k) (fun h => by have := HBk.out.2 h; rw [hb] at this; cases this))
          clear hb
          have hbk := heap_alloc_new wr (.cells #[.int .i64 (k : Int)] 3)
          have HOA := Lib.hid (HO.out.alloc (.cells #[.int .i64 (k : Int)] 3))
          have hr6 := own_base HO.out
          generalize lostK n r l k = T at HOA HO hcl HY
          go_wp2_with (at_builtin; refine wpList_push _ rfl (.tmp 33) (.tmp 35) 25 rfl elemI encI_len oneI Tryd.underlying25 (w.heap.size + 1) _ T rfl HOA.out (by omega) (k : Int) wr.heap.size (by rfl) _ rfl _ _ hbk (by rw [World.size_alloc]; omega) ?_; intro g2 cap w6 hO6 hg6)
          have HB6 := Lib.hid ((below_alloc' HB.out (.cells #[.int .i64 (k : Int)] 3)).grown hg6 (by rw [World.size_alloc]; omega) (fun r e => by have := hr6 r e; omega))
          have hs6 := hg6.size
          rw [World.size_alloc] at hs6
          have HO6 := Lib.hid hO6
          clear hO6 hg6 hr6 HO HOA hbk HB
          go_roundw
          case rel => exact ⟨k + 1, by omega, by go_num, by rw [HY.out, len_snoc]; exact HO6, HB6, by omega⟩
          case measure => simp [intOf]; omega
        · rw [hb, if_pos rfl] at hq2
          have HY := Lib.hid (lostK_come (S := n) (R := r) (l := l) (k := k) (HBk.out.1 hb))
          clear hb
          go_wp2
          go_roundw
          case rel => exact ⟨k + 1, by omega, by go_num, by rw [HY.out]; exact HO, HB, hs⟩
          case measure => simp [intOf]; omega
      · obtain rfl : k = n := by omega
        have hO := HO.out
        rw [show lostK (k : Int) r l k = lostL (k : Int) r l from rfl] at hO
        have HO' := Lib.hid hO
        clear hO HO
        obtain ⟨G, c, rfl, hc⟩ := own_form HO'.out
        have hcm : c ≤ 9223372036854775807 := own_cap HO'.out
        by_cases hz : lostL (k : Int) r l = []
        · have HF := Lib.hid (lostV_none HE.out hz)
          have hz0 : (lostL (k : Int) r l).length = 0 := by rw [hz]; rfl
          have hzz : (((lostL (k : Int) r l).length : Int) == 0) = true := by simp; exact hz
          clear hz
          generalize (lostL (k : Int) r l).length = z at *
          go_wp2
          go_ret2
          exact Ret.mk ⟨ListE.nil _ HF.out, HB.out⟩
        · have HF := Lib.hid (lostV_some HE.out hz)
          have hzz : (((lostL (k : Int) r l).length : Int) == 0) = false := by simp; exact hz
          clear hz
          go_wp2
          go_ret2
          exact Ret.mk ⟨⟨G, c, by rw [HF.out]; rfl, by rw [HF.out]; exact RowsAt.of_own encI_len HO'.out, by rw [HF.out]; exact hc, hcm⟩, HB.out⟩
end Go.Proofs.YtggcooplhodocaaDoor
