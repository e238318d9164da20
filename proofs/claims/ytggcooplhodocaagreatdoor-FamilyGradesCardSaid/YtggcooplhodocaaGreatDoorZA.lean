/- Into and Many. -/
import Derived.Test.YtggcooplhodocaaGreatDoorKA
import Derived.Test.YtggcooplhodocaaGreatDoorP4
namespace Go.Proofs.YtggcooplhodocaaGreatDoor
open Go.RowKit Go.Shelf Go.Maps Fam

set_option maxRecDepth 100000 in
set_option maxHeartbeats 4000000 in
theorem rInto_any (S R : Int) (A : Option Addr) (ca : Nat) (l : List St) (v : Nat) (w : World) (hl : StepsAt w A l) (hok : BookOk S R l) :
    Calls Tryz.prog 40 #[vBook S R A l.length ca, .int .i64 v] w (Ret fun u w' => (∃ G c, u = .slice G (intoL (netB S R l) v).length c ∧ IntsAt w' G (intoL (netB S R l) v)) ∧ Below w.heap.size w w') := by
  have HL := Lib.hid hl; clear hl
  have hm := hok.many
  have HK := Lib.hid hok; clear hok
  unfold vBook
  have hX := heap_alloc_new w (.cells #[.int .i64 S, .int .i64 R, .slice A l.length ca] 24)
  have hb := below_alloc' (Below.refl w.heap.size w) (.cells #[.int .i64 S, .int .i64 R, .slice A l.length ca] 24)
  have y2 := (blk_cell (i := 2) hX).trans rfl
  go_enter Tryz.func40, Tryz.ntmps40
  go_upto_region 1 with fail
  have HB1 := Lib.hid hb
  replace HL := Lib.hid (HL.out.below hb)
  clear hb hX
  generalize w.alloc (.cells #[.int .i64 S, .int .i64 R, .slice A l.length ca] 24) = w2 at *
  go_wp2
  go_loopw [5, 6] (fun s5 i wr => ∃ k : Nat, k ≤ l.length ∧ i = .int .i64 k ∧ Hid (wr.ownsRow (w2.heap.size) 3 1 s5 (intoTo (netB S R l) v k).length ((intoTo (netB S R l) v k).flatMap encI)) ∧ Hid (Below w2.heap.size w2 wr)) (fun _ i _ => l.length - (intOf i).toNat)
  case atStart => exact ⟨0, by omega, rfl, Lib.hid (World.ownsRow_nil w2 w2.heap.size 3 1), Lib.hid (Below.refl _ _)⟩
  case round =>
    obtain ⟨k, hk, rfl, HO, HB⟩ := hrel
    have y2 : wr.cell? ⟨w.heap.size, 2, none⟩ = some (.slice A l.length ca) := cell_below HB.out y2
    by_cases hkn : k < l.length
    · obtain ⟨b, off, rfl, g1, g2, g3⟩ := StepsAt.at_ (HL.out.below HB.out) hkn
      have hst := HK.out.stp _ (List.getElem_mem hkn)
      have HT : Hid ((netB S R l).to k = l[k].2.1.toNat) := Lib.hid (by show (stAt l k).2.1.toNat = _; rw [stAt_eq hkn])
      have hcl := intoTo_len (netB S R l) v k
      generalize l[k] = x at g1 g2 g3 hst HT
      obtain ⟨x1, x2, x3⟩ := x
      dsimp only at g1 g2 g3 hst HT
      obtain ⟨q, rfl⟩ := Int.eq_ofNat_of_zero_le hst.2.1.1
      rw [Int.toNat_natCast] at HT
      have ij0 : (0 : Int) ≤ (k : Int) := by omega
      have ij1 : (k : Int) < (l.length : Int) := by omega
      by_cases hq : q = v
      · have d1 : ((q : Int) == (v : Int)) = true := by simp [hq]
        have HY := Lib.hid (intoTo_hit (N := netB S R l) (v := v) (k := k) (HT.out.trans hq))
        have Hq := Lib.hid hq
        clear hq HT
        have hbk := heap_alloc_new wr (.cells #[.int .i64 (k : Int)] 3)
        have HOA := Lib.hid (HO.out.alloc (.cells #[.int .i64 (k : Int)] 3))
        have hr6 := own_base HO.out
        have hsw := HB.out.size
        generalize intoTo (netB S R l) v k = T at HOA HO hcl HY
        go_wp2_with (at_builtin; refine wpList_push _ rfl (.tmp 22) (.tmp 24) 28 rfl elemI encI_len oneI Tryz.underlying28 w2.heap.size _ T rfl HOA.out (by omega) (k : Int) wr.heap.size (by rfl) _ rfl _ _ hbk (by rw [World.size_alloc]; omega) ?_; intro g2 cap w6 hO6 hg6)
        have HB6 := Lib.hid ((below_alloc' HB.out (.cells #[.int .i64 (k : Int)] 3)).grown hg6 (by rw [World.size_alloc]; omega) (fun r e => by have := hr6 r e; omega))
        have HO6 := Lib.hid hO6
        clear hO6 hg6 hr6 HO HOA hbk HB
        go_roundw
        case rel => exact ⟨k + 1, by omega, by go_num, by rw [HY.out, len_snoc]; exact HO6, HB6⟩
        case measure => simp [intOf]; omega
      · have d1 : ((q : Int) == (v : Int)) = false := by rw [beq_eq_false_iff_ne]; omega
        have HY := Lib.hid (intoTo_miss (N := netB S R l) (v := v) (k := k) (fun e => hq (HT.out.symm.trans e)))
        clear hq HT
        go_wp2
        go_roundw
        case rel => exact ⟨k + 1, by omega, by go_num, by rw [HY.out]; exact HO, HB⟩
        case measure => simp [intOf]; omega
    · obtain rfl : k = l.length := by omega
      have hO := HO.out
      rw [show intoTo (netB S R l) v l.length = intoL (netB S R l) v from rfl] at hO
      have HO' := Lib.hid hO
      clear hO HO
      obtain ⟨G, c, rfl, hc⟩ := own_form HO'.out
      have HBF := Lib.hid (below_trans' HB1.out HB.out)
      have HR : Hid (IntsAt wr G (intoL (netB S R l) v)) := Lib.hid (RowsAt.of_own encI_len HO'.out)
      clear HO' hc
      go_wp2
      go_ret
      exact Ret.mk ⟨⟨G, c, rfl, HR.out⟩, HBF.out⟩

set_option maxRecDepth 100000 in
set_option maxHeartbeats 4000000 in
theorem rMany_any (S R : Int) (A : Option Addr) (ca : Nat) (l : List St) (most : Nat) (w : World) (hl : StepsAt w A l) (hok : BookOk S R l) (hm : 1 ≤ most) (hm2 : most ≤ 10000) :
    Calls Tryz.prog 18 #[vBook S R A l.length ca, .int .i64 most] w (Ret fun u w' => u = .int .i64 (manyN (netB S R l) most S.toNat) ∧ Below w.heap.size w w') := by
  have HL := Lib.hid hl; clear hl
  have hmany := hok.many
  have hdim := hok.dim
  have hroot := hok.root
  have HK := Lib.hid hok; clear hok
  obtain ⟨n, rfl⟩ := Int.eq_ofNat_of_zero_le (by omega : 0 ≤ S)
  obtain ⟨r, rfl⟩ := Int.eq_ofNat_of_zero_le hroot.1
  unfold vBook
  have hX := heap_alloc_new w (.cells #[.int .i64 n, .int .i64 r, .slice A l.length ca] 24)
  have hb := below_alloc' (Below.refl w.heap.size w) (.cells #[.int .i64 n, .int .i64 r, .slice A l.length ca] 24)
  have y0 := (blk_cell (i := 0) hX).trans rfl
  have y1 := (blk_cell (i := 1) hX).trans rfl
  have y2 := (blk_cell (i := 2) hX).trans rfl
  go_enter Tryz.func18, Tryz.ntmps18
  go_upto_region 1 with fail
  have HB1 := Lib.hid hb
  replace HL := Lib.hid (HL.out.below hb)
  clear hb hX
  generalize w.alloc (.cells #[.int .i64 n, .int .i64 r, .slice A l.length ca] 24) = w2 at *
  have hn16 : n ≤ 16 := by omega
  clear hdim hroot
  go_wp2
  go_loopw [5, 6] (fun s5 i wr => ∃ k : Nat, k ≤ n ∧ i = .int .i64 k ∧ s5 = .int .i64 (manyN (netB n r l) most k) ∧ Hid (Below w2.heap.size w2 wr)) (fun _ i _ => n - (intOf i).toNat)
  case atStart => exact ⟨0, by omega, rfl, rfl, Lib.hid (Below.refl _ _)⟩
  case round =>
    obtain ⟨k, hk, rfl, rfl, HB⟩ := hrel
    replace y0 := cell_below HB.out y0
    replace y1 := cell_below HB.out y1
    replace y2 := cell_below HB.out y2
    by_cases hkn : k < n
    · have ij0 : (0 : Int) ≤ (k : Int) := by omega
      have hN : (netB (n : Int) (r : Int) l).r = r := rfl
      by_cases hkr : k = r
      · have d1 : ((k : Int) != (r : Int)) = false := by simp [hkr]
        have HY : Hid (manyN (netB n r l) most (k + 1) = manyN (netB n r l) most k) := Lib.hid (by show (if k = (netB (n : Int) (r : Int) l).r then _ else _) = _; rw [if_pos (hkr.trans hN.symm)])
        clear hkr hN
        go_wp2
        go_roundw
        case rel => exact ⟨k + 1, by omega, by go_num, by rw [HY.out], HB⟩
        case measure => simp [intOf]; omega
      · have d1 : ((k : Int) != (r : Int)) = true := by simp; omega
        have HY : Hid (manyN (netB n r l) most (k + 1) = min most (manyN (netB n r l) most k * (intoL (netB n r l) k).length)) := Lib.hid (by show (if k = (netB (n : Int) (r : Int) l).r then _ else _) = _; rw [if_neg (fun e => hkr (e.trans hN))])
        have hle := manyN_le (netB n r l) hm k
        have hle2 := intoL_len (netB n r l) k
        have hle3 : (intoL (netB n r l) k).length ≤ 200 := Nat.le_trans hle2 hmany
        clear hkr hN hle2
        have Hc := Lib.hid (rInto_any (n : Int) (r : Int) A ca l k wr (HL.out.below HB.out) HK.out)
        generalize manyN (netB n r l) most k = p at hle HY
        generalize intoL (netB n r l) k = T at hle3 Hc HY
        obtain ⟨c, hc⟩ : ∃ c, c = T.length := ⟨_, rfl⟩
        obtain ⟨q, hq⟩ : ∃ q, q = p * c := ⟨_, rfl⟩
        have hq3 : q ≤ 10000 * 200 := by rw [hq]; exact Nat.mul_le_mul (by omega) (by omega)
        have hw1 : (p : Int) * (c : Int) = (q : Int) := by rw [hq]; push_cast; rfl
        have hw2 : IntKind.i64.wrap ((p : Int) * (c : Int)) = (q : Int) := by rw [hw1]; exact IntWalk.i64_in _ (by omega)
        rw [← hc, ← hq] at HY
        have Hc2 := Lib.hid hc
        clear hq hc
        go_wp2_with fail
        refine Hc.out.mono ?_
        rintro e wq ⟨v, rfl, ⟨G, cG, rfl, _⟩, hb⟩
        replace HB := Lib.hid (below_trans' HB.out hb)
        rw [← Hc2.out]
        clear hb Hc Hc2 hle3 y0 y1 y2
        go_wp2
        go_roundw
        case rel => exact ⟨k + 1, by omega, by go_num, by rw [HY.out]; congr 1; omega, HB⟩
        case measure => simp [intOf]; omega
    · obtain rfl : k = n := by omega
      go_wp2
      go_ret
      exact Ret.mk ⟨rfl, below_trans' HB1.out HB.out⟩
end Go.Proofs.YtggcooplhodocaaGreatDoor
