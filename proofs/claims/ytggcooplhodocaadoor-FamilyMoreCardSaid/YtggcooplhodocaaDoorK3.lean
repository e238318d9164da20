/- comes, of the reference. Lost and Plan, of the reference. open: a group of variants that come from each other, and from no other one, and not from the root. The steps that go into a group: an iterator; loops over it; marks that such loops leave. What is left of an entry's step; the entry with the least left. Maps of prices: look-ups, stores. What a search for a tree keeps. -/
import Derived.Test.YtggcooplhodocaaDoorK2
import Derived.Test.YtggcooplhodocaaDoorP0
import Derived.Deep.OwnRows
import Derived.WalkMore
import Derived.Deep.LoopGhost
namespace Go.Proofs.YtggcooplhodocaaDoor
open Go.RowKit Go.Shelf Go.Maps Fam

theorem made_arr (w : World) (n : Nat) (t : TypeId) : Arr (w.alloc (.cells (madeCells #[.int .i64 0] n) t)) w.heap.size 0 n (fun _ => 0) := fun i hi => by
  refine ⟨(blk_cell (heap_alloc_new w _)).trans ?_, new_frozen _ _ _ _⟩
  rw [Nat.zero_add, ← Array.getElem?_toList, toList_madeCells_one, List.getElem?_replicate, if_pos hi]
theorem Arr.ints {w : World} {g n : Nat} {f : Nat → Int} (h : Arr w g 0 n f) : IntsAt w (some ⟨g, 0, none⟩) ((List.range n).map f) := fun i hi => by
  have hi' : i < n := by simpa using hi
  refine ⟨g, 0, rfl, fun j v hv => ?_⟩
  obtain rfl : j = 0 := by
    have := (List.getElem?_eq_some_iff.1 hv).1
    simp [encI] at this; omega
  have hv' : Value.int .i64 (f i) = v := by simpa [encI] using hv
  have := (h i hi').1
  rw [← hv', Nat.mul_one, Nat.add_zero]
  exact this

set_option maxRecDepth 100000 in
set_option maxHeartbeats 4000000 in
theorem rcomes_any (S R : Int) (A : Option Addr) (ca : Nat) (l : List St) (most : Int) (w : World) (hl : StepsAt w A l) (hok : BookOk S R l) :
    Calls Tryd.prog 37 #[vBook S R A l.length ca, .int .i64 most] w (Ret fun v w' => (∃ g, v = .slice (some ⟨g, 0, none⟩) (comesL S R l most).length (comesL S R l most).length ∧ IntsAt w' (some ⟨g, 0, none⟩) (comesL S R l most)) ∧ Below w.heap.size w w') := by
  have Hl := Lib.hid hl; clear hl
  have hr := hok.root
  have hdim := hok.dim
  have hmany := hok.many
  have HK := Lib.hid hok; clear hok
  obtain ⟨n, rfl⟩ := Int.eq_ofNat_of_zero_le (by omega : 0 ≤ S)
  obtain ⟨r, rfl⟩ := Int.eq_ofNat_of_zero_le hr.1
  have hrn : r < n := by omega
  have hn16 : n ≤ 16 := by omega
  clear hr hdim
  have HNR : Hid ((netB (n : Int) (r : Int) l).r = r) := Lib.hid rfl
  unfold vBook
  have hmk := fun w => run_make_row' (P := Tryd.prog) 25 3 (.int .i64 0) 8 Tryd.underlying25 infoI3 rfl .i64 .i64 n (by omega) (by omega) w
  obtain ⟨zs, hzs⟩ : ∃ zs : Array Value, zs = madeCells #[.int .i64 0] n := ⟨_, rfl⟩
  have hX := heap_alloc_new w (.cells #[.int .i64 n, .int .i64 r, .slice A l.length ca] 24)
  have hA0 := made_arr (w.alloc (.cells #[.int .i64 n, .int .i64 r, .slice A l.length ca] 24)) n 3
  rw [← hzs] at hmk hA0
  rw [World.size_alloc] at hA0
  replace hX := blk_alloc hX (.cells zs 3)
  have HB0 : Hid (Below w.heap.size w ((w.alloc (.cells #[.int .i64 n, .int .i64 r, .slice A l.length ca] 24)).alloc (.cells zs 3))) := Lib.hid (below_alloc' (below_alloc' (Below.refl _ _) _) _)
  clear hzs
  go_enter Tryd.func37, Tryd.ntmps37
  go_upto_region 2 with fail
  clear hmk
  generalize (w.alloc (.cells #[.int .i64 n, .int .i64 r, .slice A l.length ca] 24)).alloc (.cells zs 3) = w0 at hX hA0 HB0 ⊢
  obtain ⟨c1, f1⟩ := hA0 r hrn
  rw [Nat.zero_add] at c1 f1
  have y1 : w0.cell? ⟨w.heap.size, 1, none⟩ = some (.int .i64 r) := (blk_cell hX).trans rfl
  have hA1 := hA0.set hrn 1
  rw [Nat.zero_add] at hA1
  have hst : ∀ v, (fun i : Nat => if i = r then (1 : Int) else 0) v = if v = (netB (n : Int) (r : Int) l).r then 1 else 0 := fun v => rfl
  have HA1 : Hid (Arr (w0.setCell ⟨w.heap.size + 1, r, none⟩ (.int .i64 1)) (w.heap.size + 1) 0 n (fun i : Nat => if i = r then (1 : Int) else 0)) := Lib.hid hA1
  have HX1 : Hid ((w0.setCell ⟨w.heap.size + 1, r, none⟩ (.int .i64 1)).heap[w.heap.size]? = some (.cells #[.int .i64 n, .int .i64 r, .slice A l.length ca] 24 (0, 0))) := Lib.hid (blk_far (p := ⟨w.heap.size + 1, r, none⟩) hX (by dsimp only; omega) (.int .i64 1))
  have HB1 := Lib.hid (HB0.out.setCell (p := ⟨w.heap.size + 1, r, none⟩) (by dsimp only; omega) (.int .i64 1))
  have HC := Lib.hid (Cms.start (P := atMost (netB (n : Int) (r : Int) l) most) hst)
  have ir0 : (0 : Int) ≤ (r : Int) := by omega
  have ir1 : (r : Int) < (n : Int) := by omega
  clear hA0 hA1 HB0 hst
  go_wp2
  clear c1 f1 y1 hX
  go_loopw [6] (fun i wr => ∃ (c : Nat) (f : Nat → Int), c ≤ n ∧ i = .int .i64 c ∧ Hid (Arr wr (w.heap.size + 1) 0 n f) ∧ Hid (Cms (netB (n : Int) (r : Int) l) (atMost (netB (n : Int) (r : Int) l) most) c 0 f f) ∧ Hid (wr.heap[w.heap.size]? = some (.cells #[.int .i64 n, .int .i64 r, .slice A l.length ca] 24 (0, 0))) ∧ Hid (Below w.heap.size w wr)) (fun i _ => n - (intOf i).toNat)
  case atStart => exact ⟨0, _, by omega, rfl, HA1, HC, HX1, HB1⟩
  case round =>
    clear HA1 HC HX1 HB1
    obtain ⟨c, g, hc, rfl, HA, HC, HX, HB⟩ := hrel
    have y0 : wr.cell? ⟨w.heap.size, 0, none⟩ = some (.int .i64 n) := (blk_cell HX.out).trans rfl
    by_cases hcn : c < n
    · obtain ⟨wo, hwo⟩ : ∃ wo, wo = wr := ⟨_, rfl⟩
      subst hwo
      go_wp2
      clear y0
      go_loopw [7] (fun i wr => ∃ (j : Nat) (f : Nat → Int), j ≤ l.length ∧ i = .int .i64 j ∧ Hid (Arr wr (w.heap.size + 1) 0 n f) ∧ Hid (Cms (netB (n : Int) (r : Int) l) (atMost (netB (n : Int) (r : Int) l) most) c j g f) ∧ Hid (wr.heap[w.heap.size]? = some (.cells #[.int .i64 n, .int .i64 r, .slice A l.length ca] 24 (0, 0))) ∧ Hid (Below w.heap.size w wr)) (fun i _ => l.length - (intOf i).toNat)
      case atStart => exact ⟨0, g, by omega, rfl, HA, HC, HX, HB⟩
      case round =>
        clear HA HC HX HB
        obtain ⟨j, f, hj, rfl, HA, HC, HX, HB⟩ := hrel
        have y2 : wr.cell? ⟨w.heap.size, 2, none⟩ = some (.slice A l.length ca) := (blk_cell HX.out).trans rfl
        by_cases hjn : j < l.length
        · obtain ⟨b, off, rfl, p1, p2, p3⟩ := StepsAt.at_ (Hl.out.below HB.out) hjn
          have hbk := HK.out.stp _ (List.getElem_mem hjn)
          have hnet : (netB (n : Int) (r : Int) l).fr j = l[j].1.toNat ∧ (netB (n : Int) (r : Int) l).to j = l[j].2.1.toNat ∧ (netB (n : Int) (r : Int) l).ch j = l[j].2.2 := ⟨by show (stAt l j).1.toNat = _; rw [stAt_eq hjn], by show (stAt l j).2.1.toNat = _; rw [stAt_eq hjn], by show (stAt l j).2.2 = _; rw [stAt_eq hjn]⟩
          generalize l[j] = x at p1 p2 p3 hbk hnet
          obtain ⟨x1, x2, x3⟩ := x
          dsimp only at p1 p2 p3 hbk hnet
          obtain ⟨a1, rfl⟩ := Int.eq_ofNat_of_zero_le hbk.1.1
          obtain ⟨a2, rfl⟩ := Int.eq_ofNat_of_zero_le hbk.2.1.1
          have ha1 : a1 < n := by omega
          have ha2 : a2 < n := by omega
          obtain ⟨hn1, hn2, hn3⟩ := hnet
          have hat : atMost (netB (n : Int) (r : Int) l) most j ↔ x3 ≤ most := by
            unfold atMost
            rw [hn3]
            exact ⟨fun h => h.2, fun h => ⟨hjn, h⟩⟩
          have hfn : (netB (n : Int) (r : Int) l).fr j < (netB (n : Int) (r : Int) l).n := by rw [hn1]; exact ha1
          have HSK := Lib.hid (fun hs => HC.out.skip hfn hs)
          have HPT := Lib.hid (fun hp hf => HC.out.put hfn hp hf)
          rw [hn1, hat] at HSK HPT
          rw [hn2] at HPT
          clear hbk hn1 hn2 hn3 hat hfn
          obtain ⟨c1, f1⟩ := HA.out a1 ha1
          obtain ⟨c2, f2⟩ := HA.out a2 ha2
          rw [Nat.zero_add] at c1 f1 c2 f2
          have j0 : (0 : Int) ≤ (j : Int) := by omega
          have j1 : (j : Int) < (l.length : Int) := by omega
          have i0 : (0 : Int) ≤ (a1 : Int) := by omega
          have i1 : (a1 : Int) < (n : Int) := by omega
          have i2 : (0 : Int) ≤ (a2 : Int) := by omega
          have i3 : (a2 : Int) < (n : Int) := by omega
          by_cases h1 : x3 ≤ most
          · have e1 : decide (x3 ≤ most) = true := by simpa using h1
            by_cases h2 : f a1 = 1
            · have e2 : (f a1 == 1) = true := by simpa using h2
              have HC2 := Lib.hid (HPT.out h1 h2)
              have hA2 := HA.out.set ha2 1
              rw [Nat.zero_add] at hA2
              have HA2 := Lib.hid hA2
              have HX2 := Lib.hid (blk_far (p := ⟨w.heap.size + 1, a2, none⟩) HX.out (by dsimp only; omega) (.int .i64 1))
              have HB2 := Lib.hid (HB.out.setCell (p := ⟨w.heap.size + 1, a2, none⟩) (by dsimp only; omega) (.int .i64 1))
              clear hA2 HSK HPT h2
              go_wp2
              go_roundw
              case rel => exact ⟨j + 1, _, by omega, by go_num, HA2, HC2, HX2, HB2⟩
              case measure => simp [intOf]; omega
            · have e2 : (f a1 == 1) = false := by simpa using h2
              have HC2 := Lib.hid (HSK.out (.inr h2))
              clear HSK HPT h2
              go_wp2
              go_roundw
              case rel => exact ⟨j + 1, f, by omega, by go_num, HA, HC2, HX, HB⟩
              case measure => simp [intOf]; omega
          · have e1 : decide (x3 ≤ most) = false := by simpa using h1
            have HC2 := Lib.hid (HSK.out (.inl h1))
            clear HSK HPT
            go_wp2
            go_roundw
            case rel => exact ⟨j + 1, f, by omega, by go_num, HA, HC2, HX, HB⟩
            case measure => simp [intOf]; omega
        · obtain rfl : j = l.length := by omega
          have HCN := Lib.hid (HC.out.round (fun i hi => hi.1) (show r < n from hrn))
          go_wp2
          go_roundw
          case rel => exact ⟨c + 1, f, by omega, by go_num, HA, HCN, HX, HB⟩
          case measure => simp [intOf]; omega
    · obtain rfl : c = n := by omega
      have HL : Hid ((List.range c).map g = comesL c r l most) := Lib.hid (List.map_congr_left fun v hv => HC.out.done (fun i hi => HK.out.net.tom i hi.1) (show r < c from hrn) rfl (List.mem_range.1 hv))
      have hl2 : (comesL c r l most).length = c := comesL_len c r l most
      have HL2 := Lib.hid hl2
      clear hl2
      have HI : Hid (IntsAt wr (some ⟨w.heap.size + 1, 0, none⟩) (comesL c r l most)) := Lib.hid (by rw [← HL.out]; exact HA.out.ints)
      go_wp2
      go_ret
      exact Ret.mk ⟨⟨_, by rw [HL2.out]; rfl, HI.out⟩, HB.out⟩
end Go.Proofs.YtggcooplhodocaaDoor

namespace Go.Proofs.YtggcooplhodocaaDoor
open Go.RowKit Go.Shelf Go.Maps Fam

set_option maxRecDepth 100000 in
set_option maxHeartbeats 4000000 in
theorem rLost_any (S R : Int) (A : Option Addr) (ca : Nat) (l : List St) (w : World) (hl : StepsAt w A l) (hn : l.length ≤ 100000) :
    Calls Tryd.prog 17 #[vBook S R A l.length ca] w (Ret fun v w' => ListE w' (lostV S R l) v ∧ Below w.heap.size w w') := by
  have Hl := Lib.hid hl; clear hl
  have hcb := rCheckBook_any S R A ca l
  have hcm := rcomes_any S R A ca l 1000000
  unfold vBook at hcb hcm ⊢
  have Hcb := Lib.hid hcb
  have Hcm := Lib.hid hcm
  clear hcb hcm
  go_enter Tryd.func17, Tryd.ntmps17
  go_upto_region 1 with fail
  have hX := heap_alloc_new w (.cells #[.int .i64 S, .int .i64 R, .slice A l.length ca] 24)
  have HB0 : Hid (Below w.heap.size w (w.alloc (.cells #[.int .i64 S, .int .i64 R, .slice A l.length ca] 24))) := Lib.hid (below_alloc' (Below.refl _ _) _)
  have hsz : w.heap.size + 1 ≤ (w.alloc (.cells #[.int .i64 S, .int .i64 R, .slice A l.length ca] 24)).heap.size := by simp
  generalize w.alloc (.cells #[.int .i64 S, .int .i64 R, .slice A l.length ca] 24) = w0 at hX HB0 hsz ⊢
  have y0 : w0.cell? ⟨w.heap.size, 0, none⟩ = some (.int .i64 S) := (blk_cell hX).trans rfl
  have y1 : w0.cell? ⟨w.heap.size, 1, none⟩ = some (.int .i64 R) := (blk_cell hX).trans rfl
  have y2 : w0.cell? ⟨w.heap.size, 2, none⟩ = some (.slice A l.length ca) := (blk_cell hX).trans rfl
  clear hX
  go_wp2_with fail
  refine (Hcb.out w0 (Hl.out.below HB0.out) hn).mono ?_
  rintro e w1 ⟨v, rfl, rfl, hB1⟩
  have HB1 := Lib.hid (below_trans' HB0.out hB1)
  replace y0 := cell_below hB1 y0
  replace y1 := cell_below hB1 y1
  replace y2 := cell_below hB1 y2
  have hs1 : w.heap.size + 1 ≤ w1.heap.size := by have := hB1.size; omega
  clear hB1 HB0 hsz
  by_cases he : bookErr S R l = 0
  rotate_left 1
  · have HF := Lib.hid (lostV_err he)
    have d1 : (bookErr S R l != 0) = true := by simpa using he
    have Hc := Lib.hid (Hcb.out w1 (Hl.out.below HB1.out) hn)
    generalize bookErr S R l = er at d1 HF Hc
    go_wp2_with fail
    refine Hc.out.mono ?_
    rintro e w2 ⟨v, rfl, rfl, hB2⟩
    have HB2 := Lib.hid (below_trans' HB1.out hB2)
    clear hB2 Hc
    go_wp2
    go_ret2
    exact Ret.mk ⟨ListE.nil _ HF.out, HB2.out⟩
  have HK := Lib.hid (bookErr_iff.1 he)
  have HE := Lib.hid he
  rw [he]
  clear he Hcb
  have hr := HK.out.root
  have hdim := HK.out.dim
  obtain ⟨n, rfl⟩ := Int.eq_ofNat_of_zero_le (by omega : 0 ≤ S)
  obtain ⟨r, rfl⟩ := Int.eq_ofNat_of_zero_le hr.1
  have hrn : r < n := by omega
  have hn16 : n ≤ 16 := by omega
  clear hr hdim
  go_wp2_with fail
  refine (Hcm.out w1 (Hl.out.below HB1.out) HK.out).mono ?_
  rintro e w2 ⟨v, rfl, ⟨g, rfl, hI⟩, hB2⟩
  have HB2 := Lib.hid (below_trans' HB1.out hB2)
  replace y0 := cell_below hB2 y0
  have hs2 : w.heap.size + 1 ≤ w2.heap.size := by have := hB2.size; omega
  have hcl := comesL_len n r l 1000000
  have hcl2 : (comesL n r l 1000000).length = n := hcl
  clear hcl
  have HI := Lib.hid hI
  have HAT := Lib.hid (fun v h => comesL_at (S := n) (R := r) (l := l) (k := 1000000) (v := v) h)
  have HRM := Lib.hid (fun a b => rch_most (a := a) (b := b) HK.out)
  rw [hcl2]
  have HCL := Lib.hid hcl2
  clear hB2 hI hcl2 Hcm y1 y2 HB1 hs1
  go_wp2
  go_loopw [5, 6] (fun s5 i wr => ∃ k : Nat, k ≤ n ∧ i = .int .i64 k ∧ Hid (wr.ownsRow (w2.heap.size) 3 1 s5 (lostK n r l k).length ((lostK n r l k).flatMap encI)) ∧ Hid (Below w2.heap.size w2 wr)) (fun _ i _ => n - (intOf i).toNat)
  case atStart => exact ⟨0, by omega, rfl, Lib.hid (by simpa [lostK] using World.ownsRow_nil w2 w2.heap.size 3 1), Lib.hid (Below.refl _ _)⟩
  case round =>
    obtain ⟨k, hk, rfl, HO, HB⟩ := hrel
    have y0 : wr.cell? ⟨w.heap.size, 0, none⟩ = some (.int .i64 n) := cell_below HB.out y0
    by_cases hkn : k < n
    · obtain ⟨b, off, hg, p1⟩ := IntsAt.at_ (HI.out.below HB.out) (i := k) (by rw [HCL.out]; exact hkn)
      rw [HAT.out k hkn] at p1
      injection hg with hg
      injection hg with e1 e2
      subst e1 e2
      rw [Nat.zero_add] at p1
      have ij0 : (0 : Int) ≤ (k : Int) := by omega
      have ij1 : (k : Int) < (n : Int) := by omega
      have hcl := lostK_le n r l k
      by_cases hb : Rch (netB (n : Int) (r : Int) l) (atMost (netB (n : Int) (r : Int) l) 1000000) (r : Int).toNat k
      · rw [if_pos hb] at p1
        have HY := Lib.hid (lostK_come (S := n) (R := r) (l := l) (k := k) ((HRM.out _ _).1 hb))
        clear hb
        go_wp2
        go_roundw
        case rel => exact ⟨k + 1, by omega, by go_num, by rw [HY.out]; exact HO, HB⟩
        case measure => simp [intOf]; omega
      · rw [if_neg hb] at p1
        have HY := Lib.hid (lostK_lost (S := n) (R := r) (l := l) (k := k) (fun h => hb ((HRM.out _ _).2 h)))
        clear hb
        have hbk := heap_alloc_new wr (.cells #[.int .i64 (k : Int)] 3)
        have HOA := Lib.hid (HO.out.alloc (.cells #[.int .i64 (k : Int)] 3))
        have hr6 := own_base HO.out
        have hsw := HB.out.size
        generalize lostK n r l k = T at HOA HO hcl HY
        go_wp2_with (at_builtin; refine wpList_push _ rfl (.tmp 25) (.tmp 27) 25 rfl elemI encI_len oneI Tryd.underlying25 w2.heap.size _ T rfl HOA.out (by omega) (k : Int) wr.heap.size (by rfl) _ rfl _ _ hbk (by rw [World.size_alloc]; omega) ?_; intro g2 cap w6 hO6 hg6)
        have HB6 := Lib.hid ((below_alloc' HB.out (.cells #[.int .i64 (k : Int)] 3)).grown hg6 (by rw [World.size_alloc]; omega) (fun r e => by have := hr6 r e; omega))
        have HO6 := Lib.hid hO6
        clear hO6 hg6 hr6 HO HOA hbk HB
        go_roundw
        case rel => exact ⟨k + 1, by omega, by go_num, by rw [HY.out, len_snoc]; exact HO6, HB6⟩
        case measure => simp [intOf]; omega
    · obtain rfl : k = n := by omega
      have hO := HO.out
      rw [show lostK (k : Int) r l k = lostL (k : Int) r l from rfl] at hO
      have HO' := Lib.hid hO
      clear hO HO
      obtain ⟨G, c, rfl, hc⟩ := own_form HO'.out
      have hcm : c ≤ 9223372036854775807 := own_cap HO'.out
      have HBF := Lib.hid (below_trans' HB2.out HB.out)
      by_cases hz : lostL (k : Int) r l = []
      · have HF := Lib.hid (lostV_none HE.out hz)
        have hzz : (((lostL (k : Int) r l).length : Int) == 0) = true := by simp; exact hz
        clear hz
        generalize (lostL (k : Int) r l).length = z at *
        go_wp2
        go_ret2
        exact Ret.mk ⟨ListE.nil _ HF.out, HBF.out⟩
      · have HF := Lib.hid (lostV_some HE.out hz)
        have hzz : (((lostL (k : Int) r l).length : Int) == 0) = false := by simp; exact hz
        clear hz
        go_wp2
        go_ret2
        exact Ret.mk ⟨⟨G, c, by rw [HF.out]; rfl, by rw [HF.out]; exact RowsAt.of_own encI_len HO'.out, by rw [HF.out]; exact hc, hcm⟩, HBF.out⟩

theorem plan_lost (S R : Int) (l : List St) : planE S R l = if (lostV S R l).2 = 5 then 0 else if (lostV S R l).2 = 0 then 13 else (lostV S R l).2 := by
  have hne : bookErr S R l = 6 ∨ bookErr S R l = 2 ∨ bookErr S R l = 0 := by
    unfold bookErr
    split
    · exact .inl rfl
    · split
      · exact .inr (.inl rfl)
      · exact .inr (.inr rfl)
  unfold planE
  by_cases h : bookErr S R l = 0
  · rw [if_neg (by simp [h])]
    by_cases k : lostL S R l = []
    · rw [lostV_none h k, if_pos ((lostL_nil S R l).1 k)]; rfl
    · rw [lostV_some h k, if_neg (fun e => k ((lostL_nil S R l).2 e))]; rfl
  · rw [lostV_err h, if_pos h]
    dsimp only
    rcases hne with e | e | e
    · rw [e]; rfl
    · rw [e]; rfl
    · exact absurd e h

set_option maxRecDepth 100000 in
theorem rPlan_any (S R : Int) (A : Option Addr) (ca : Nat) (l : List St) (w : World) (hl : StepsAt w A l) (hn : l.length ≤ 100000) :
    Calls Tryd.prog 25 #[vBook S R A l.length ca] w (Ret fun v w' => v = .int .i64 (planE S R l) ∧ Below w.heap.size w w') := by
  have Hl := Lib.hid hl; clear hl
  have hcb := rLost_any S R A ca l
  have hPL := plan_lost S R l
  unfold vBook at hcb ⊢
  have Hcb := Lib.hid hcb
  clear hcb
  go_enter Tryd.func25, Tryd.ntmps25
  go_upto_region 1 with fail
  have hX := heap_alloc_new w (.cells #[.int .i64 S, .int .i64 R, .slice A l.length ca] 24)
  have HB0 : Hid (Below w.heap.size w (w.alloc (.cells #[.int .i64 S, .int .i64 R, .slice A l.length ca] 24))) := Lib.hid (below_alloc' (Below.refl _ _) _)
  generalize w.alloc (.cells #[.int .i64 S, .int .i64 R, .slice A l.length ca] 24) = w0 at hX HB0 ⊢
  have y0 : w0.cell? ⟨w.heap.size, 0, none⟩ = some (.int .i64 S) := (blk_cell hX).trans rfl
  have y1 : w0.cell? ⟨w.heap.size, 1, none⟩ = some (.int .i64 R) := (blk_cell hX).trans rfl
  have y2 : w0.cell? ⟨w.heap.size, 2, none⟩ = some (.slice A l.length ca) := (blk_cell hX).trans rfl
  clear hX
  go_wp2_with fail
  refine (Hcb.out w0 (Hl.out.below HB0.out) hn).mono ?_
  rintro e w1 ⟨v, rfl, ⟨G, c, rfl, h1, h2, h3⟩, hB1⟩
  have HB1 := Lib.hid (below_trans' HB0.out hB1)
  clear hB1 HB0 Hcb y0 y1 y2 h1 h2 h3
  generalize (lostV S R l).2 = e at hPL ⊢
  generalize (lostV S R l).1.length = z
  by_cases c1 : e = 5
  · rw [if_pos c1] at hPL
    have HF := Lib.hid hPL
    have d : (e == 5) = true := by simpa using c1
    clear hPL c1
    go_wp2
    go_ret
    exact Ret.mk' (congrArg (Value.int .i64) HF.out.symm) ⟨rfl, HB1.out⟩
  · rw [if_neg c1] at hPL
    have d : (e == 5) = false := by simpa using c1
    by_cases c2 : e = 0
    · rw [if_pos c2] at hPL
      have HF := Lib.hid hPL
      have d2 : (e == 0) = true := by simpa using c2
      clear hPL c1 c2
      go_wp2
      go_ret
      exact Ret.mk' (congrArg (Value.int .i64) HF.out.symm) ⟨rfl, HB1.out⟩
    · rw [if_neg c2] at hPL
      have HF := Lib.hid hPL
      have d2 : (e == 0) = false := by simpa using c2
      clear hPL c1 c2
      go_wp2
      go_ret
      exact Ret.mk' (congrArg (Value.int .i64) HF.out.symm) ⟨rfl, HB1.out⟩
end Go.Proofs.YtggcooplhodocaaDoor

namespace Go.Proofs.YtggcooplhodocaaDoor
open Go.RowKit Go.Shelf Go.Maps Fam

set_option maxRecDepth 100000 in
set_option maxHeartbeats 4000000 in
theorem open_any (S R : Int) (A B : Option Addr) (ca cb wb mb : Nat) (u : Value) (l : List St) (st : List Nat) (w : World) (hX : w.heap[wb]? = some (woodC S R A l.length ca u mb)) (hl : StepsAt w A l) (hs : IntsAt w B (castL st)) (hst : ∀ i ∈ st, i < l.length) (hlen : st.length ≤ 100000) (hok : BookOk S R l) :
    Calls Tryd.prog 66 #[.pointer (some ⟨wb, 0, none⟩), .slice B st.length cb] w (Ret fun v w' => (∃ g : Nat, v = .int .i64 g ∧ g < 65536 ∧ OpenQ (netB S R l) st g) ∧ Below w.heap.size w w') := by
  have HX := Lib.hid hX; clear hX
  have Hl := Lib.hid hl; clear hl
  have Hs := Lib.hid hs; clear hs
  have Hst := Lib.hid hst; clear hst
  have hdim := hok.dim
  have hroot := hok.root
  have HK := Lib.hid hok; clear hok
  obtain ⟨n, rfl⟩ := Int.eq_ofNat_of_zero_le (by omega : 0 ≤ S)
  obtain ⟨r, rfl⟩ := Int.eq_ofNat_of_zero_le hroot.1
  have hrn : r < n := by omega
  have hn16 : n ≤ 16 := by omega
  have hFr : Hid (∀ i ∈ st, (netB (n : Int) (r : Int) l).fr i < (netB (n : Int) (r : Int) l).n) := Lib.hid fun i hi => HK.out.net.frm i (Hst.out i hi)
  have hcm := comeM_is (N := netB (n : Int) (r : Int) l) hn16 st
  have hci := come_is (n : Int) (r : Int) A B ca cb wb mb u l st w HX.out Hl.out Hs.out Hst.out hlen HK.out
  clear hdim hroot
  generalize comeM (netB (n : Int) (r : Int) l) st = f at hcm hci
  have HF := Lib.hid hcm
  have Hci := Lib.hid hci
  clear hcm hci
  go_enter Tryd.func66, Tryd.ntmps66
  go_wp2_with fail
  refine Hci.out.mono ?_
  rintro e w1 ⟨v, rfl, rfl, hB1⟩
  have HB1 := Lib.hid hB1
  clear hB1 Hci
  have hT2 : (w1.alloc (.cells #[.int .i64 0, .int .i64 0, .int .i64 0, .int .i64 0, .int .i64 0, .int .i64 0, .int .i64 0, .int .i64 0, .int .i64 0, .int .i64 0, .int .i64 0, .int .i64 0, .int .i64 0, .int .i64 0, .int .i64 0, .int .i64 0] 64)).there w1.heap.size 0 16 := fun j hj => by
    have hB' : (w1.alloc (.cells #[.int .i64 0, .int .i64 0, .int .i64 0, .int .i64 0, .int .i64 0, .int .i64 0, .int .i64 0, .int .i64 0, .int .i64 0, .int .i64 0, .int .i64 0, .int .i64 0, .int .i64 0, .int .i64 0, .int .i64 0, .int .i64 0] 64)).heap[w1.heap.size]? = some (.cells (rowV fun _ => 0) 64 (0, 0)) := heap_alloc_new _ _
    exact ⟨by rw [blk_cell hB', Nat.zero_add, rowV_get _ hj]; rfl, blk_frozen hB'⟩
  have hA7 : ArrN ((w1.alloc (.cells #[.int .i64 0, .int .i64 0, .int .i64 0, .int .i64 0, .int .i64 0, .int .i64 0, .int .i64 0, .int .i64 0, .int .i64 0, .int .i64 0, .int .i64 0, .int .i64 0, .int .i64 0, .int .i64 0, .int .i64 0, .int .i64 0] 64)).setCells w1.heap.size 0 (rowN f).toList) w1.heap.size f := Arr.stored (f := fun i => (f i : Int)) hT2
  rw [← rowV_size (fun i => (f i : Int))] at hT2
  have HT2 := Lib.hid hT2
  have hB7 : Below w1.heap.size w1 ((w1.alloc (.cells #[.int .i64 0, .int .i64 0, .int .i64 0, .int .i64 0, .int .i64 0, .int .i64 0, .int .i64 0, .int .i64 0, .int .i64 0, .int .i64 0, .int .i64 0, .int .i64 0, .int .i64 0, .int .i64 0, .int .i64 0, .int .i64 0] 64)).setCells w1.heap.size 0 (rowN f).toList) := (below_alloc' (Below.refl _ _) _).grown (grown_setCells _ _) (by simp) (fun k e => by injection e; omega)
  clear hT2
  go_upto_region 2 with (first | (refine wpList_store_mid rfl 64 (.tmp 5) (.tmp 12) rfl w1.heap.size 0 (rowN f) (by rfl) (by rfl) HT2.out (by unfold rowN; rw [infoR, rowV_size]) (rowV_one _) ?_))
  have HB2 := Lib.hid (below_trans' HB1.out hB7)
  have HA := Lib.hid hA7
  obtain ⟨rb, hrb⟩ : ∃ rb, rb = w1.heap.size := ⟨_, rfl⟩
  rw [← hrb] at HA HB2 ⊢
  generalize (w1.alloc (.cells #[.int .i64 0, .int .i64 0, .int .i64 0, .int .i64 0, .int .i64 0, .int .i64 0, .int .i64 0, .int .i64 0, .int .i64 0, .int .i64 0, .int .i64 0, .int .i64 0, .int .i64 0, .int .i64 0, .int .i64 0, .int .i64 0] 64)).setCells rb 0 (rowN f).toList = w2 at *
  have HBF : Hid (Below w.heap.size w w2) := HB2
  clear hA7 hB7 HT2 hrb HB1 HB2
  have y0 : w2.cell? ⟨wb, 0, none⟩ = some (.int .i64 n) := cell_below HBF.out ((blk_cell HX.out).trans rfl)
  have y1 : w2.cell? ⟨wb, 1, none⟩ = some (.int .i64 r) := cell_below HBF.out ((blk_cell HX.out).trans rfl)
  go_wp2
  go_loopw [18] (fun i wr => ∃ k : Nat, k ≤ n ∧ i = .int .i64 k ∧ wr = w2 ∧ Hid (∀ x, x < k → ShutF (netB (n : Int) (r : Int) l) st x)) (fun i _ => n - (intOf i).toNat)
  case atStart => exact ⟨0, by omega, rfl, rfl, Lib.hid fun x hx => absurd hx (by omega)⟩
  case round =>
    obtain ⟨k, hk, rfl, rfl, HSh⟩ := hrel
    by_cases hkn : k < n
    · have hk0 : (0 : Int) ≤ (k : Int) := by omega
      have hk1 : (k : Int) < 16 := by omega
      obtain ⟨c2, _⟩ := HA.out k (by omega)
      rw [Nat.zero_add] at c2
      try dsimp only at c2
      have hfk := HF.out.lt k (by omega)
      obtain ⟨wo, hwo⟩ : ∃ wo, wo = wr := ⟨_, rfl⟩
      subst hwo
      go_wp2
      go_loopw [7, 8, 26] (fun s7 s8 i wr => ∃ j g o : Nat, j ≤ n ∧ i = .int .i64 j ∧ s7 = .int .i64 g ∧ s8 = .int .i64 o ∧ wr = wo ∧ Hid (Grp f k j g o)) (fun _ _ i _ => n - (intOf i).toNat)
      case atStart => exact ⟨0, 0, 0, by omega, rfl, rfl, rfl, rfl, Lib.hid (Grp.start f k)⟩
      case round =>
        obtain ⟨j, g, o, hj, rfl, rfl, rfl, rfl, HG⟩ := hrel
        by_cases hjn : j < n
        · have hj0 : (0 : Int) ≤ (j : Int) := by omega
          have hj1 : (j : Int) < 16 := by omega
          obtain ⟨c1, _⟩ := HA.out j (by omega)
          rw [Nat.zero_add] at c1
          try dsimp only at c1
          have hfj := HF.out.lt j (by omega)
          obtain ⟨hq1, hq2⟩ := ask_bit (r := k) hfj
          obtain ⟨d, hd⟩ : ∃ d, f j / 2 ^ k = d := ⟨_, rfl⟩
          obtain ⟨hp1, hp2⟩ := ask_bit (r := j) hfk
          obtain ⟨e, he⟩ : ∃ e, f k / 2 ^ j = e := ⟨_, rfl⟩
          rw [hd] at hq1 hq2
          rw [he] at hp1 hp2
          have HS := Lib.hid (fun h => HG.out.skip h)
          have HI := Lib.hid (fun h1 h2 => HG.out.inn (by omega) h1 h2)
          have HO := Lib.hid (fun h1 h2 => HG.out.out (by omega) h1 h2)
          have hgl := HG.out.glt
          have hol := HG.out.olt
          obtain ⟨x, hx⟩ : ∃ x, f j = x := ⟨_, rfl⟩
          obtain ⟨y, hy⟩ : ∃ y, f k = y := ⟨_, rfl⟩
          rw [hx] at c1 hfj hq1 hq2 HS HI HO
          rw [hy] at c2 hfk hp1 hp2 HI HO
          clear hd he hx hy
          cases h1 : x.testBit k
          · rw [h1, if_neg (by simp)] at hq2
            have HS' := Lib.hid (HS.out h1)
            clear h1 HS HI HO hp2
            go_wp2
            go_roundw
            case rel => exact ⟨j + 1, g, o, by omega, by go_num, rfl, rfl, trivial, HS'⟩
            case measure => simp [intOf]; omega
          · rw [h1, if_pos rfl] at hq2
            obtain ⟨hw1, hor1, _⟩ := put_bit hgl (by omega : j < 16)
            obtain ⟨_, hor2, _⟩ := put_bit hol (by omega : j < 16)
            have HI1 := Lib.hid (HI.out h1)
            have HO1 := Lib.hid (HO.out h1)
            obtain ⟨q, hq⟩ : ∃ q, 2 ^ j = q := ⟨_, rfl⟩
            rw [hq] at hw1 hor1 hor2 HI1 HO1
            have hw2 : wrap64 (2 ^ j) = (q : Int) := by rw [← IntWalk.i64_left]; exact hw1
            have hor1' : bits .or .i64 (g : Int) ((2 : Int) ^ j) = ((g ||| q : Nat) : Int) := by rw [show (2 : Int) ^ j = ((2 ^ j : Nat) : Int) by simp, hq]; exact hor1
            have hor2' : bits .or .i64 (o : Int) ((2 : Int) ^ j) = ((o ||| q : Nat) : Int) := by rw [show (2 : Int) ^ j = ((2 ^ j : Nat) : Int) by simp, hq]; exact hor2
            clear hq HS HI HO h1
            cases h2 : y.testBit j
            · rw [h2, if_neg (by simp)] at hp2
              have HO2 := Lib.hid (HO1.out h2)
              clear h2 HI1 HO1 hor1
              go_wp2
              go_roundw
              case rel => exact ⟨j + 1, g, _, by omega, by go_num, rfl, rfl, trivial, HO2⟩
              case measure => simp [intOf]; omega
            · rw [h2, if_pos rfl] at hp2
              have HI2 := Lib.hid (HI1.out h2)
              clear h2 HI1 HO1 hor2
              go_wp2
              go_roundw
              case rel => exact ⟨j + 1, _, o, by omega, by go_num, rfl, rfl, trivial, HI2⟩
              case measure => simp [intOf]; omega
        · obtain rfl : j = n := by omega
          have hgl := HG.out.glt
          obtain ⟨hq1, hq2⟩ := ask_bit (r := r) hgl
          obtain ⟨d, hd⟩ : ∃ d, g / 2 ^ r = d := ⟨_, rfl⟩
          rw [hd] at hq1 hq2
          clear hd
          by_cases ho : o = 0
          · cases hb : g.testBit r
            · rw [hb, if_neg (by simp)] at hq2
              have HQ := Lib.hid (HG.out.open_ HF.out hFr.out (show k < j from hkn) ho hb)
              subst ho
              clear hb
              go_wp2
              go_ret
              exact Ret.mk ⟨⟨g, rfl, hgl, HQ.out⟩, HBF.out⟩
            · rw [hb, if_pos rfl] at hq2
              have HSn : Hid (∀ x, x < k + 1 → ShutF (netB (j : Int) (r : Int) l) st x) := Lib.hid fun x hx => by
                by_cases e : x = k
                · subst e; exact HG.out.shut HF.out (show x < j from hkn) (.inr hb)
                · exact HSh.out x (by omega)
              subst ho
              clear hb
              go_wp2
              go_roundw
              case rel => exact ⟨k + 1, by omega, by go_num, trivial, HSn⟩
              case measure => simp [intOf]; omega
          · have d0 : ((o : Int) == 0) = false := by simp; exact ho
            have HSn : Hid (∀ x, x < k + 1 → ShutF (netB (j : Int) (r : Int) l) st x) := Lib.hid fun x hx => by
              by_cases e : x = k
              · subst e; exact HG.out.shut HF.out (show x < j from hkn) (.inl ho)
              · exact HSh.out x (by omega)
            go_wp2
            go_roundw
            case rel => exact ⟨k + 1, by omega, by go_num, trivial, HSn⟩
            case measure => simp [intOf]; omega
    · obtain rfl : k = n := by omega
      have HQ := Lib.hid (shut_all (N := netB (k : Int) (r : Int) l) (st := st) HSh.out)
      go_wp2
      go_ret
      exact Ret.mk ⟨⟨0, rfl, by omega, HQ.out⟩, HBF.out⟩
end Go.Proofs.YtggcooplhodocaaDoor

namespace Go.Proofs.YtggcooplhodocaaDoor
open Go.RowKit Go.Shelf Go.Maps Fam
attribute [local go_sem] Oper.semAt_some

/-- what lay below n lies there as it lay, but for block x -/
structure KeepX (n x : Nat) (X Y : World) : Prop where
  os : Y.os = X.os
  tape : Y.tape = X.tape
  output : Y.output = X.output
  size : X.heap.size ≤ Y.heap.size
  block : ∀ b, b < n → b ≠ x → Y.heap[b]? = X.heap[b]?
theorem KeepX.refl (n x : Nat) (X : World) : KeepX n x X X := ⟨rfl, rfl, rfl, Nat.le_refl _, fun _ _ _ => rfl⟩
theorem KeepX.trans {n x : Nat} {X Y Z : World} (h : KeepX n x X Y) (k : KeepX n x Y Z) : KeepX n x X Z := ⟨k.os.trans h.os, k.tape.trans h.tape, k.output.trans h.output, Nat.le_trans h.size k.size, fun b h1 h2 => (k.block b h1 h2).trans (h.block b h1 h2)⟩
theorem KeepX.of_below {n x : Nat} {X Y : World} (h : Below X.heap.size X Y) (hn : n ≤ X.heap.size) : KeepX n x X Y := ⟨h.os, h.tape, h.output, h.size, fun b h1 _ => h.block b (by omega)⟩
theorem KeepX.put {n x l : Nat} (h1 : n ≤ l) (W : World) (o' : Obj) : KeepX n x W (W.putObj l o') := ⟨rfl, rfl, rfl, Nat.le_of_eq (by simp [World.putObj]), fun b hb _ => World.putObj_heap_other (by omega)⟩
theorem KeepX.drewN {n x : Nat} {X Y : World} (h : KeepX n x X Y) (q : Nat) : KeepX n x X (Y.drewN q) := ⟨h.os, h.tape, h.output, h.size, h.block⟩
theorem KeepX.set {n x : Nat} {X Y : World} (h : KeepX n x X Y) {p : Addr} (hp : p.block = x ∨ n ≤ p.block) (v : Value) : KeepX n x X (Y.setCell p v) :=
  ⟨h.os, h.tape, h.output, by simpa using h.size, fun b h1 h2 => (Below.heap_setCell Y p v b (by rcases hp with hp | hp <;> omega)).trans (h.block b h1 h2)⟩
theorem KeepX.grown {n x : Nat} {X Y Z : World} {row : Option Nat} (h : KeepX n x X Y) (hg : Y.grownBy Z row) (hn : n ≤ Y.heap.size) (hr : ∀ r, row = some r → r = x ∨ n ≤ r) : KeepX n x X Z :=
  ⟨hg.os.trans h.os, hg.tape.trans h.tape, hg.output.trans h.output, Nat.le_trans h.size hg.size, fun b h1 h2 => (hg.block b (by omega) (fun e => by rcases hr b e.symm with k | k <;> omega)).trans (h.block b h1 h2)⟩
theorem KeepX.blk {n x b : Nat} {X Y : World} {o : Obj} (h : KeepX n x X Y) (hb : X.heap[b]? = some o) (h1 : b < n) (h2 : b ≠ x) : Y.heap[b]? = some o := (h.block b h1 h2).trans hb
theorem KeepX.rows {α : Type} {enc : α → List Value} {k n x : Nat} {X Y : World} {A : Option Addr} {l : List α} (h : KeepX n x X Y) (hl : RowsAt enc k X A l) (hA : l ≠ [] → ∀ a, A = some a → a.block < n ∧ a.block ≠ x) : RowsAt enc k Y A l := fun i hi => by
  obtain ⟨b, off, e, hc⟩ := hl i hi
  obtain ⟨h1, h2⟩ := hA (by intro e; subst e; simp at hi) _ e
  exact ⟨b, off, e, fun j v hv => (World.cell?_of_block (a := ⟨b, off + i * k + j, none⟩) (h.block b h1 h2)).trans (hc j v hv)⟩

/-- the numbers of the steps that go into a group, below k -/
def intoK (N : Net) (g : Nat) (k : Nat) : List Nat := (List.range k).filter fun i => ent N (fun v => g.testBit v) i
theorem intoK_hit {N : Net} {g k : Nat} (h : ent N (fun v => g.testBit v) k = true) : intoK N g (k + 1) = intoK N g k ++ [k] := by unfold intoK; rw [List.range_succ, List.filter_append]; simp [h]
theorem intoK_miss {N : Net} {g k : Nat} (h : ent N (fun v => g.testBit v) k = false) : intoK N g (k + 1) = intoK N g k := by unfold intoK; rw [List.range_succ, List.filter_append]; simp [h]
theorem intoK_pre (N : Net) (g : Nat) {k m : Nat} (h : k ≤ m) : intoK N g k <+: intoK N g m := by
  induction m with
  | zero => rw [show k = 0 by omega]; exact List.prefix_refl _
  | succ m ih =>
    by_cases e : k = m + 1
    · rw [e]; exact List.prefix_refl _
    · refine (ih (by omega)).trans ?_
      cases hq : ent N (fun v => g.testBit v) m
      · rw [intoK_miss hq]; exact List.prefix_refl _
      · rw [intoK_hit hq]; exact List.prefix_append _ _
theorem intoK_at {α : Type} {f : α → Nat} {xs : List α} {N : Net} {g m k : Nat} (hxs : xs.map f = intoK N g m) (hk : k < m) (hq : ent N (fun v => g.testBit v) k = true) : ∃ h : (intoK N g k).length < xs.length, f xs[(intoK N g k).length] = k := by
  have h1 := intoK_pre N g (show k + 1 ≤ m by omega)
  rw [intoK_hit hq, ← hxs] at h1
  have hl := h1.length_le
  simp at hl
  refine ⟨by omega, ?_⟩
  have h2 : (xs.map f)[(intoK N g k).length]? = some k := by
    obtain ⟨r, hr⟩ := h1
    rw [← hr]; simp
  rw [List.getElem?_map, List.getElem?_eq_getElem (by omega)] at h2
  simpa using h2
theorem grown_of_below {w w' : World} (h : Below w.heap.size w w') : w.grownBy w' none := ⟨h.os, h.tape, h.output, h.size, fun i hi _ => h.block i hi⟩

theorem into_any (S R : Int) (A : Option Addr) (n ca : Nat) (g : Int) (w : World) :
    Calls Tryd.prog 43 #[vBook S R A n ca, .int .i64 g] w (Ret fun v w' => v = .func (.func 56) #[] #[.pointer (some ⟨w.heap.size, 0, none⟩), .pointer (some ⟨w.heap.size + 1, 0, none⟩)] ∧
      w' = (w.alloc (.cells #[.int .i64 S, .int .i64 R, .slice A n ca] 24)).alloc (.cells #[.int .i64 g] 3)) := by
  unfold vBook
  go_enter Tryd.func43, Tryd.ntmps43
  go_wp2
  go_ret
  exact Ret.mk ⟨rfl, rfl⟩

set_option maxRecDepth 100000 in
set_option maxHeartbeats 4000000 in
theorem into1_in {α : Type} (f : α → Nat) (xs : List α) (N : Nat) (hN : 1 ≤ N) (l0 bx n x0 : Nat) (S R : Int) (A : Option Addr) (ca : Nat) (l : List St) (g : Nat) (hg : g < 65536) (hok : BookOk S R l) (hxs : xs.map f = intoK (netB S R l) g l.length) (J Jx : List α → World → Prop) (W : World)
    (hJ : AbidesFrom W.heap.size J) (hn : n ≤ W.heap.size) (hbx : bx + 1 < n) (_hb0 : bx ≠ x0) (hb1 : bx + 1 ≠ x0) (hA : l ≠ [] → ∀ a, A = some a → a.block < n ∧ a.block ≠ x0)
    (hY : ∀ pre x W1, J pre W1 → pre.length < xs.length → YieldAt Fence.wide (N - 1) Tryd.prog l0 #[.int .i64 (f x), vT (stAt l (f x))] W1 fun e W' =>
      (e = .returned (.bool true) ∧ J (pre ++ [x]) W' ∧ KeepX n x0 W1 W') ∨ (e = .returned (.bool false) ∧ Jx (pre ++ [x]) W'))
    (hc0 : W.heap[bx]? = some (.cells #[.int .i64 S, .int .i64 R, .slice A l.length ca] 24 (0, 0))) (hc1 : W.heap[bx + 1]? = some (.cells #[.int .i64 g] 3 (0, 0)))
    (hl : StepsAt W A l) (h0 : J [] W) :
    CallsIn Fence.wide N Tryd.prog 56 #[.func (.yield l0) #[] #[], .pointer (some ⟨bx, 0, none⟩), .pointer (some ⟨bx + 1, 0, none⟩)] W fun e W' => (∃ v, e = .returned v) ∧
      ((∃ ys, ys = xs ∧ J ys W') ∨ (∃ pre, pre <+: xs ∧ Jx pre W')) := by
  have Hxs := Lib.hid hxs; clear hxs
  have HY := Lib.hid hY; clear hY
  have H0 := Lib.hid hc0; clear hc0
  have H1 := Lib.hid hc1; clear hc1
  have Hl := Lib.hid hl; clear hl
  have HA := Lib.hid hA; clear hA
  have hmany := hok.many
  have hdim := hok.dim
  have HK := Lib.hid hok; clear hok
  have y2 : W.cell? ⟨bx, 2, none⟩ = some (.slice A l.length ca) := (blk_cell H0.out).trans rfl
  refine callsIn_of_wp Tryd.func56 rfl trivial ?_ rfl
  simp only [Tryd.ntmps56, List.size_toArray, List.length_cons, List.length_nil, Nat.reduceAdd, Nat.reduceSub, Array.replicate_succ, Array.replicate_zero, List.push_toArray, List.append_toArray, List.nil_append, List.cons_append]
  gi_wp2
  clear y2
  gi_loopw [9] (fun i wr => ∃ k : Nat, k ≤ l.length ∧ i = .int .i64 k ∧ J (xs.take (intoK (netB S R l) g k).length) wr ∧ Hid (KeepX n x0 W wr)) (fun i _ => l.length - (intOf i).toNat)
  case atStart => exact ⟨0, Nat.zero_le _, rfl, h0, Lib.hid (KeepX.refl _ _ _)⟩
  case round =>
    obtain ⟨k, hk, rfl, hJs, HKp⟩ := hrel
    by_cases hlt : k < l.length
    · obtain ⟨b3, o3, rfl, p1, p2, p3⟩ := StepsAt.at_ (HKp.out.rows Hl.out HA.out) hlt
      have hbk := HK.out.stp _ (List.getElem_mem hlt)
      have hat := stAt_eq hlt
      have hnet : (netB S R l).fr k = l[k].1.toNat ∧ (netB S R l).to k = l[k].2.1.toNat := ⟨by show (stAt l k).1.toNat = _; rw [stAt_eq hlt], by show (stAt l k).2.1.toNat = _; rw [stAt_eq hlt]⟩
      generalize l[k] = x at p1 p2 p3 hbk hat hnet
      obtain ⟨x1, x2, x3⟩ := x
      dsimp only at p1 p2 p3 hbk hnet
      obtain ⟨a1, rfl⟩ := Int.eq_ofNat_of_zero_le hbk.1.1
      obtain ⟨a2, rfl⟩ := Int.eq_ofNat_of_zero_le hbk.2.1.1
      have ha1 : a1 < 16 := by omega
      have ha2 : a2 < 16 := by omega
      clear hbk
      have hent : ent (netB S R l) (fun v => g.testBit v) k = (g.testBit a2 && !g.testBit a1) := by unfold ent; rw [hnet.1, hnet.2]; rfl
      clear hnet
      have hal : Below wr.heap.size wr (wr.alloc (.cells #[.int .i64 a1, .int .i64 a2, .int .i64 x3] 50)) := below_alloc' (Below.refl _ _) _
      have hJa := hJ _ _ _ none hJs (grown_of_below hal) (fun r e => by cases e)
      have HK1 := Lib.hid (HKp.out.trans (KeepX.of_below hal (by have := HKp.out.size; omega)))
      have hX := heap_alloc_new wr (.cells #[.int .i64 a1, .int .i64 a2, .int .i64 x3] 50)
      have n0 := (blk_cell (i := 0) hX).trans rfl
      have n1 := (blk_cell (i := 1) hX).trans rfl
      have n2 := (blk_cell (i := 2) hX).trans rfl
      have q0 : (wr.alloc (.cells #[.int .i64 a1, .int .i64 a2, .int .i64 x3] 50)).cell? ⟨bx + 1, 0, none⟩ = some (.int .i64 g) := (blk_cell (HK1.out.blk H1.out (by omega) hb1)).trans rfl
      obtain ⟨hq1, hq2⟩ := ask_bit (r := a2) hg
      obtain ⟨d, hd⟩ : ∃ d, g / 2 ^ a2 = d := ⟨_, rfl⟩
      obtain ⟨hp1, hp2⟩ := ask_bit (r := a1) hg
      obtain ⟨e, he⟩ : ∃ e, g / 2 ^ a1 = e := ⟨_, rfl⟩
      rw [hd] at hq1 hq2
      rw [he] at hp1 hp2
      clear hX hd he
      cases h2 : g.testBit a2
      · have HN := Lib.hid (intoK_miss (N := netB S R l) (g := g) (k := k) (by rw [hent, h2]; rfl))
        rw [h2, if_neg (by simp)] at hq2
        clear hent h2
        gi_wp2
        refine ⟨fun _ h => (by cases h), ?_⟩
        gi_wp2
        go_roundw
        case rel => exact ⟨k + 1, by omega, by go_num, by rw [HN.out]; exact hJa, HK1⟩
        case measure => simp [intOf]; omega
      · rw [h2, if_pos rfl] at hq2
        cases h1 : g.testBit a1
        · have hwt : ent (netB S R l) (fun v => g.testBit v) k = true := by rw [hent, h2, h1]; rfl
          rw [h1, if_neg (by simp)] at hp2
          have HN := Lib.hid (intoK_hit hwt)
          obtain ⟨hlx, hfx⟩ := intoK_at Hxs.out hlt hwt
          clear hent h1 h2 hwt
          generalize hcx : (intoK (netB S R l) g k).length = c at hJa hlx hfx
          have hts := take_snoc hlx rfl
          generalize xs[c] = y at hfx hts
          subst hfx
          have hY' := HY.out _ y _ hJa (by rw [List.length_take]; omega)
          rw [hat] at hY'
          obtain ⟨fn, tmps, assign, body, hy, hR⟩ := hY'
          have HT : Hid (xs.take (intoK (netB S R l) g (f y + 1)).length = xs.take c ++ [y]) := Lib.hid (by rw [HN.out, List.length_append, hcx]; exact hts)
          clear hts hcx hat
          unfold vT at hy
          have HR := Lib.hid hR; clear hR
          gi_wp2
          refine HR.out.mono ?_
          rintro e W3 (⟨rfl, hJ3, hk3⟩ | ⟨rfl, hJx3⟩)
          · have HK3 := Lib.hid hk3; clear hk3
            gi_wp2
            go_roundw
            case rel => exact ⟨f y + 1, by omega, by go_num, by rw [HT.out]; exact hJ3, Lib.hid (HK1.out.trans HK3.out)⟩
            case measure => simp [intOf]; omega
          · gi_wp2
            refine bodyPost_ret (results_none rfl _ _ _) rfl ?_
            exact ⟨⟨_, rfl⟩, .inr ⟨_, by rw [← HT.out]; exact List.take_prefix _ _, hJx3⟩⟩
        · rw [h1, if_pos rfl] at hp2
          have HN := Lib.hid (intoK_miss (N := netB S R l) (g := g) (k := k) (by rw [hent, h2, h1]; rfl))
          clear hent h1 h2
          gi_wp2
          refine ⟨fun _ h => (by cases h), ?_⟩
          gi_wp2
          go_roundw
          case rel => exact ⟨k + 1, by omega, by go_num, by rw [HN.out]; exact hJa, HK1⟩
          case measure => simp [intOf]; omega
    · obtain rfl : k = l.length := by omega
      gi_wp2
      go_end0
      exact ⟨⟨_, rfl⟩, .inl ⟨_, by rw [← Hxs.out, List.length_map, List.take_length], hJs⟩⟩

theorem KeepX.below_t {n x : Nat} {X Y Z : World} (h : KeepX n x X Y) (k : KeepX n x Y Z) : KeepX n x X Z := h.trans k
theorem into_stops {α : Type} (f : α → Nat) (xs : List α) (N : Nat) (hN : 1 ≤ N) (bx n x0 : Nat) (S R : Int) (A : Option Addr) (ca : Nat) (l : List St) (g : Nat) (hg : g < 65536) (hok : BookOk S R l) (hxs : xs.map f = intoK (netB S R l) g l.length) (w : World)
    (hn : n ≤ w.heap.size) (hbx : bx + 1 < n) (hb0 : bx ≠ x0) (hb1 : bx + 1 ≠ x0) (hA : l ≠ [] → ∀ a, A = some a → a.block < n ∧ a.block ≠ x0)
    (hc0 : w.heap[bx]? = some (.cells #[.int .i64 S, .int .i64 R, .slice A l.length ca] 24 (0, 0))) (hc1 : w.heap[bx + 1]? = some (.cells #[.int .i64 g] 3 (0, 0))) (hl : StepsAt w A l) :
    SeqStopsK Fence.wide N Tryd.prog 56 #[.pointer (some ⟨bx, 0, none⟩), .pointer (some ⟨bx + 1, 0, none⟩)] (fun x : α => #[.int .i64 (f x), vT (stAt l (f x))]) (KeepX n x0)
      (fun ys => ys = xs) (fun pre => pre <+: xs) xs.length w := fun l0 J Jx W hW hJ _ hY h0 =>
  into1_in f xs N hN l0 bx n x0 S R A ca l g hg hok hxs J Jx W hJ (Nat.le_trans hn hW.size) hbx hb0 hb1 hA hY (blk_below hW hc0) (blk_below hW hc1) (hl.below hW) h0
theorem enters_into1 : ∀ args w, (callFunc 56 args).run Tryd.prog w = .ok (.enter 56 args) w := fun args w => by simp [go_sem]

/-- a loop over the steps into a group, whose body always goes on -/
theorem wp_rangeX {α : Type} {gop : Operand} {ps : Array Tmp} {assign body : Code} {Q : Exit → Act → World → Prop} {a : Act} {w : World}
    {gf : Nat} {lb : Array Value} (hg : a.eval gop = .func (.func gf) #[] lb) (eg : ∀ args w, (callFunc gf args).run Tryd.prog w = .ok (.enter gf args) w)
    {encs : α → Array Value} (n x0 : Nat) (h1 : n ≤ w.heap.size) {xs : List α} (hseq : SeqStopsK Fence.wide 9 Tryd.prog gf lb encs (KeepX n x0) (fun ys => ys = xs) (fun pre => pre <+: xs) xs.length w)
    (hps : ∀ x, (encs x).size = ps.size)
    (I : List α → World → Prop) (hI : OwnFrom w.heap.size I) (h0 : I [] w) (Ax : α → Act → World → Prop) (hAx : ∀ x a', OwnFrom w.heap.size (fun (_ : Unit) W => Ax x a' W))
    (hassign : ∀ (l : Nat) (pre : List α) (x : α) (W : World) (K : Act → World → Prop), I pre W → (∀ a' W', KeepsFrom w.heap.size W W' → KeepX n x0 W W' → I pre W' → Ax x a' W' → K a' W') →
      assign.wpIn (Fence.wide.inRound l) 8 Tryd.prog (Exit.then K (fun _ _ _ => False)) { tmps := (ps.zip (encs x)).foldl (fun t (p, v) => t.setIfInBounds p v) a.tmps, defers := [] } W)
    (hbody : ∀ (l : Nat) (pre : List α) (x : α) (a' : Act) (W : World), w.heap.size ≤ l → (∃ r, W.heap[l]? = some (.loop r)) → I pre W → Ax x a' W → pre.length < xs.length → body.wpIn (Fence.wide.inRound l) 8 Tryd.prog (ownPostG w.heap.size (KeepX n x0) I (fun _ _ _ => False) (pre ++ [x]) W) a' W)
    (hdone : ∀ (D : Nat) (W : World), w.heap.size ≤ D → I xs W → W.heap[D]? = some (.deferred (some [])) → Q .normal { a with defers := { target := .collected D, args := #[] } :: a.defers } W) :
    (Code.rangeFunc gop ps assign body).wp Tryd.prog Q a w :=
  wpIn_wide.1 (wpIn_rangeFunc_ownH (n := 10) rfl (by omega) hg trivial eg hseq (fun h k => h.trans k) (fun W l o o' hl _ _ _ => KeepX.put (by omega) W o') (Below.refl _ _) hps I (fun _ _ _ => False) hI (fun _ _ _ _ _ h _ _ => h) h0 Ax hAx hassign hbody
    (fun D ys W hD e hi hk => by subst e; exact hdone D W hD hi hk) (fun _ _ _ _ _ _ h _ => h.elim))

theorem calls_of_wp_marks {f : FuncId} {fn : Func} {c : Code} {args : Array Value} {w : World} {R : Ending → World → Prop} (hf : Tryd.prog.funcs[f]? = some fn) (hb : fn.body = some c)
    (h : c.wp Tryd.prog (bodyPostM Fence.wide 10 Tryd.prog fn R) { tmps := args ++ Array.replicate (fn.ntmps - args.size) undef, defers := [] } w) : Calls Tryd.prog f args w R :=
  callsIn_wide.1 (callsIn_of_wp_marks (n := 10) hf hb trivial (wpIn_wide.2 h))
/-! drawn regions within a round -/
section
variable {ops : Array Oper} {Q : Exit → Act → World → Prop} {md : Region.Mode} {n : Nat}
theorem operIn_of_oper {l : Nat} {o : Oper} {a : Act} {w : World} {K : Act → World → Prop} (hnd : ∀ c, o.op ≠ .defer c) (h : o.wp Tryd.prog a w K Q) : o.wpIn (Fence.wide.inRound l) n Tryd.prog a w K Q := by
  unfold Oper.wp at h
  refine ⟨fun _ _ => trivial, ?_⟩
  rw [Oper.semAt_eq _ _ _ hnd]
  generalize (execOp a.eval o).run Tryd.prog w = r at *
  have hd : ((Fence.wide.inRound l).depth.isSome = true → 1 ≤ n) := fun h => by simp [Fence.wide] at h
  cases r with
  | ok x w' =>
    cases x
    case value v => exact h
    case skip => exact h
    case defer d => exact h
    case enter f args => exact ⟨hd, CallsIn.inRound l (callsIn_wide.2 h)⟩
    case row row args => exact ⟨hd, fun c cs _ => let ⟨v, w', r, s⟩ := h c cs; ⟨v, w', r, stepsIn_wide.2 s⟩⟩
    all_goals exact h.elim
  | halt x w' =>
    cases x
    case panic v => exact h
    all_goals exact h.elim
theorem wpOpIn_of_wpOp {l : Nat} (hnd : ∀ (i : Nat) (o : Oper), ops[i]? = some o → ∀ c, o.op ≠ .defer c) (hlo : ¬ LetsOut Q) {i : Nat} {K : Act → World → Prop} {a : Act} {w : World} (h : wpOp Tryd.prog ops Q i K a w) : wpOpIn (Fence.wide.inRound l) n Tryd.prog ops Q i K a w := by
  unfold wpOp at h
  unfold wpOpIn
  cases ho : ops[i]? with
  | none => rw [ho] at h; exact h
  | some o =>
    rw [ho] at h
    dsimp only at h ⊢
    by_cases hw : Region.wanted o (yielded ops a.tmps) = true
    · rw [if_pos hw] at h ⊢
      rcases h with h | ⟨_, h⟩
      · exact operIn_of_oper (hnd i o ho) h
      · exact absurd h hlo
    · rw [if_neg hw] at h ⊢
      exact ⟨fun _ _ => trivial, h⟩
theorem wpAnyIn_of_wpAny {l : Nat} (hnd : ∀ (i : Nat) (o : Oper), ops[i]? = some o → ∀ c, o.op ≠ .defer c) (hlo : ¬ LetsOut Q) : ∀ (fuel : Nat) (listed : Array Bool) (a : Act) (w : World), wpAny Tryd.prog md ops Q fuel listed a w → wpAnyIn (Fence.wide.inRound l) n Tryd.prog md ops Q fuel listed a w
  | 0, _, _, _, h => h
  | fuel + 1, _, _, _, h => ⟨h.1, fun i hi => wpOpIn_mono (fun a' w' h' => wpAnyIn_of_wpAny hnd hlo fuel _ a' w' h') (wpOpIn_of_wpOp hnd hlo (h.2 i hi))⟩
def noDefer (ops : Array Oper) : Bool := ops.all fun o => match o.op with | .defer _ => false | _ => true
theorem noDefer_spec (h : noDefer ops = true) : ∀ (i : Nat) (o : Oper), ops[i]? = some o → ∀ c, o.op ≠ .defer c := fun i o ho c e => by
  unfold noDefer at h
  rw [Array.all_eq_true] at h
  obtain ⟨hi, rfl⟩ := Array.getElem?_eq_some_iff.1 ho
  have := h i hi
  rw [e] at this
  cases this
/-- a drawn region in a round: its steps leave the class C's worlds in C, and yield the same in each of them -/
theorem wpIn_region_class {id l : Nat} {C : World → Prop} {a : Act} {w : World} {ol : List Oper} (hm : Tryd.prog.follows .mixedOrders = true) (hB : Region.lexB .any ol.toArray = true) (hnd : noDefer ol.toArray = true) (hlo : ¬ LetsOut Q) (hC : C w.drew)
    (h : wpQuiet Tryd.prog ol.toArray C (fun a' => ∀ w', C w' → Q .normal a' w') ol a) : (Code.region id ol.toArray true).wpIn (Fence.wide.inRound l) n Tryd.prog Q a w := by
  simp only [Region.lexB, Bool.and_eq_true] at hB
  refine wpIn_region_any hm (wpAnyIn_of_wpAny (noDefer_spec hnd) hlo _ _ _ _ (wpAny_of_quiet (Q := fun a' => ∀ w', C w' → Q .normal a' w') (fun _ w' hw' h => h w' hw') _ _ _ _ hC ?_))
  have := wpAnyQ_lex (C := C) (md := .any) hB.1 ol.toArray.toList 0 (Array.replicate ol.toArray.size false) a (by simp) (by simpa using hB.2) (by simpa using h)
  simpa using this
/-- a drawn region in a round, by the walk that holds S -/
theorem wpIn_region_held {id l : Nat} {S : World → Prop} {a : Act} {w : World} (hm : Tryd.prog.follows .mixedOrders = true) (hnd : noDefer ops = true) (hlo : ¬ LetsOut Q)
    (h : wpAnyH Tryd.prog .any ops Q S ops.size (Array.replicate ops.size false) a w.drew) : (Code.region id ops true).wpIn (Fence.wide.inRound l) n Tryd.prog Q a w :=
  wpIn_region_any hm (wpAnyIn_of_wpAny (noDefer_spec hnd) hlo _ _ _ _ (wpAny_of_held _ _ _ _ h))
end
/-- the marks that loops over an iterator have left -/
def mark (D : Nat) : Deferred := { target := .collected D, args := #[] }
def MarksAt (base : Nat) (ds : List Nat) (W : World) : Prop := ds.Nodup ∧ ∀ D ∈ ds, base ≤ D ∧ W.heap[D]? = some (.deferred (some []))
theorem MarksAt.nil (base : Nat) (W : World) : MarksAt base [] W := ⟨List.nodup_nil, fun _ h => by cases h⟩
def putAll : List Nat → World → World
  | [], W => W
  | D :: ds, W => putAll ds (W.putObj D (.deferred none))
theorem MarksAt.tail {base D : Nat} {ds : List Nat} {W : World} (h : MarksAt base (D :: ds) W) : MarksAt base ds (W.putObj D (.deferred none)) := by
  obtain ⟨h1, h2⟩ := h
  rw [List.nodup_cons] at h1
  exact ⟨h1.2, fun E hE => ⟨(h2 E (by simp [hE])).1, (World.putObj_heap_other (by intro e; subst e; exact h1.1 hE)).trans (h2 E (by simp [hE])).2⟩⟩
theorem leaves_marks {fn : Func} {tmps : Array Value} {R : Ending → World → Prop} {base : Nat} : ∀ (ds : List Nat) (W : World), MarksAt base ds W →
    (∃ v, (results fn tmps).run Tryd.prog (putAll ds W) = .ok v (putAll ds W) ∧ R (.returned v) (putAll ds W)) → LeavesInM Fence.wide 10 Tryd.prog fn tmps R (ds.map mark) .returning W
  | [], W, _, h => h
  | D :: ds, W, hm, h => ⟨by simp, .inl ⟨D, _, rfl, run_takeDeferred (hm.2 D (by simp)).2, leaves_marks ds _ hm.tail h⟩⟩
theorem putAll_cell {base : Nat} {a : Addr} {v : Value} : ∀ (ds : List Nat) (W : World), MarksAt base ds W → W.cell? a = some v → (putAll ds W).cell? a = some v
  | [], _, _, h => h
  | D :: ds, W, hm, h => putAll_cell ds _ hm.tail (cell_put h (hm.2 D (by simp)).2 rfl)
theorem putAll_rows {α : Type} {enc : α → List Value} {k base : Nat} {A : Option Addr} {l : List α} : ∀ (ds : List Nat) (W : World), MarksAt base ds W → RowsAt enc k W A l → RowsAt enc k (putAll ds W) A l
  | [], _, _, h => h
  | D :: ds, W, hm, h => putAll_rows ds _ hm.tail (rows_put h (hm.2 D (by simp)).2 rfl)
theorem putAll_below {base m : Nat} {w0 : World} (hb : m ≤ base) : ∀ (ds : List Nat) (W : World), MarksAt base ds W → Below m w0 W → Below m w0 (putAll ds W)
  | [], _, _, h => h
  | D :: ds, W, hm, h => putAll_below hb ds _ hm.tail (below_put h (Nat.le_trans hb (hm.2 D (by simp)).1) _ (hm.2 D (by simp)).2)
theorem putAll_blk {base b : Nat} {o : Obj} (hc : o.isCells = true) : ∀ (ds : List Nat) (W : World), MarksAt base ds W → W.heap[b]? = some o → (putAll ds W).heap[b]? = some o
  | [], _, _, h => h
  | D :: ds, W, hm, h => putAll_blk hc ds _ hm.tail ((World.putObj_heap_other (fun e => by
      have h1 := (hm.2 D (by simp)).2
      subst e
      rw [h] at h1
      injection h1 with h1
      rw [h1] at hc; cases hc)).trans h)
end Go.Proofs.YtggcooplhodocaaDoor

namespace Go.Proofs.YtggcooplhodocaaDoor
open Go.RowKit Go.Shelf Go.Maps Fam

/-- an entry: a step's number, and the step -/
abbrev En := Nat × St
def encE (x : En) : List Value := [.int .i64 x.1, .int .i64 x.2.1, .int .i64 x.2.2.1, .int .i64 x.2.2.2]
def vE (x : En) : Value := .agg #[.int .i64 x.1, .int .i64 x.2.1, .int .i64 x.2.2.1, .int .i64 x.2.2.2]
theorem encE_len (x : En) : (encE x).length = 4 := rfl
def EnsAt (w : World) (A : Option Addr) (l : List En) : Prop := RowsAt encE 4 w A l
theorem EnsAt.at_ {w : World} {A : Option Addr} {l : List En} (h : EnsAt w A l) {i : Nat} (hi : i < l.length) : ∃ b off, A = some ⟨b, off, none⟩ ∧
    w.cell? ⟨b, off + i * 4, none⟩ = some (.int .i64 l[i].1) ∧ w.cell? ⟨b, off + i * 4 + 1, none⟩ = some (.int .i64 l[i].2.1) ∧ w.cell? ⟨b, off + i * 4 + 2, none⟩ = some (.int .i64 l[i].2.2.1) ∧ w.cell? ⟨b, off + i * 4 + 3, none⟩ = some (.int .i64 l[i].2.2.2) := by
  obtain ⟨b, off, hA, hc⟩ := h i hi
  exact ⟨b, off, hA, hc 0 _ rfl, hc 1 _ rfl, hc 2 _ rfl, hc 3 _ rfl⟩
theorem EnsAt.below {w w' : World} {A : Option Addr} {l : List En} (h : EnsAt w A l) (hb : Below w.heap.size w w') : EnsAt w' A l := RowsAt.below h hb
theorem elemE : ElemT 105 4 32 (.agg #[.int .i64 0, .int .i64 0, .int .i64 0, .int .i64 0]) := ⟨by kernel_rfl, rfl, by omega, by omega⟩
theorem oneE (x : En) : ∀ u ∈ encE x, u.oneCell' = true := by simp [encE, Value.oneCell']
theorem new4 (w : World) (a b c d : Value) (t : TypeId) : (w.alloc (.cells #[a, b, c, d] t)).cell? ⟨w.heap.size, 0, none⟩ = some a ∧ (w.alloc (.cells #[a, b, c, d] t)).cell? ⟨w.heap.size, 1, none⟩ = some b ∧ (w.alloc (.cells #[a, b, c, d] t)).cell? ⟨w.heap.size, 2, none⟩ = some c ∧ (w.alloc (.cells #[a, b, c, d] t)).cell? ⟨w.heap.size, 3, none⟩ = some d := by
  have h := heap_alloc_new w (.cells #[a, b, c, d] t)
  exact ⟨(blk_cell h).trans rfl, (blk_cell h).trans rfl, (blk_cell h).trans rfl, (blk_cell h).trans rfl⟩

/-- what is left of the steps' changes -/
def LeftAt (w : World) (lb : Nat) (u : Value) (m : Nat) (f : Nat → Int) : Prop := ∃ B c, u = .slice B m c ∧ (m ≠ 0 → B = some ⟨lb, 0, none⟩) ∧ Arr w lb 0 m f
theorem LeftAt.below {w w' : World} {lb : Nat} {u : Value} {m : Nat} {f : Nat → Int} (h : LeftAt w lb u m f) (hb : Below w.heap.size w w') : LeftAt w' lb u m f := by
  obtain ⟨B, c, h1, h2, h3⟩ := h
  exact ⟨B, c, h1, h2, h3.below hb⟩

theorem enters_grow1 : ∀ args w, (callFunc 65 args).run Tryd.prog w = .ok (.enter 65 args) w := fun args w => by simp [go_sem]
set_option maxRecDepth 100000 in
set_option maxHeartbeats 1000000 in
theorem grow1_any (S R : Int) (A : Option Addr) (n ca pb wb mb lb : Nat) (u : Value) (m : Nat) (f : Nat → Int) (x : En) (w : World) (hp : w.cell? ⟨pb, 0, none⟩ = some (.pointer (some ⟨wb, 0, none⟩))) (hX : w.heap[wb]? = some (woodC S R A n ca u mb)) (hf : LeftAt w lb u m f) (hi : x.1 < m) :
    Calls Tryd.prog 65 #[vE x, .pointer (some ⟨pb, 0, none⟩)] w (Ret fun v w' => v = .int .i64 (f x.1) ∧ Below w.heap.size w w') := by
  obtain ⟨i, x1, x2, x3⟩ := x
  unfold vE
  dsimp only at hi ⊢
  obtain ⟨B, c, rfl, hB, ha⟩ := hf
  obtain rfl := hB (by omega)
  obtain ⟨c1, _⟩ := ha i hi
  rw [Nat.zero_add] at c1
  have y3 : w.cell? ⟨wb, 3, none⟩ = some (.slice (some ⟨lb, 0, none⟩) m c) := (blk_cell hX).trans rfl
  obtain ⟨n0, _⟩ := new4 w (.int .i64 i) (.int .i64 x1) (.int .i64 x2) (.int .i64 x3) 105
  have hba := below_alloc' (Below.refl w.heap.size w) (.cells #[.int .i64 i, .int .i64 x1, .int .i64 x2, .int .i64 x3] 105)
  replace c1 := cell_below hba c1
  replace y3 := cell_below hba y3
  replace hp := cell_below hba hp
  have i0 : (0 : Int) ≤ (i : Int) := by omega
  have i1 : (i : Int) < (m : Int) := by omega
  clear hX ha hB
  go_enter Tryd.func65, Tryd.ntmps65
  go_upto_region 1 with fail
  generalize w.alloc (.cells #[.int .i64 i, .int .i64 x1, .int .i64 x2, .int .i64 x3] 105) = w2 at *
  have HB := Lib.hid hba
  clear hba
  go_quiet (fail)
  go_wp2
  go_ret
  exact Ret.mk' rfl ⟨rfl, below_drewN HB.out _⟩

/-- a function value that gives a number of each entry -/
def Gives (w0 : World) (g : Nat) (fst cpt : Array Value) (dom : En → Prop) (val : Nat → Int) : Prop :=
  ∀ (W : World) (x : En), Below w0.heap.size w0 W → dom x → Calls Tryd.prog g (fst ++ #[vE x] ++ cpt) W (Ret fun v W' => v = .int .i64 (val x.1) ∧ Below W.heap.size W W')

set_option maxRecDepth 100000 in
set_option maxHeartbeats 4000000 in
theorem least_any (A : Option Addr) (ca : Nat) (es : List En) (g : Nat) (fst cpt : Array Value) (dom : En → Prop) (val : Nat → Int) (w : World) (hl : EnsAt w A es) (hne : 0 < es.length) (hn : es.length ≤ 100000) (hd : ∀ x ∈ es, dom x)
    (eg : ∀ args W, (callFunc g args).run Tryd.prog W = .ok (.enter g args) W) (hp : Gives w g fst cpt dom val) :
    Calls Tryd.prog 67 #[.slice A es.length ca, .func (.func g) fst cpt] w (Ret fun v w' => (∃ e ∈ es, v = vE e ∧ ∀ x ∈ es, val e.1 ≤ val x.1) ∧ Below w.heap.size w w') := by
  have Hl := Lib.hid hl
  have Hd := Lib.hid hd; clear hd
  have Hp := Lib.hid hp; clear hp
  obtain ⟨b0, o0, rfl, p0, p1, p2, p3⟩ := EnsAt.at_ hl hne
  have HM0 := Lib.hid (List.getElem_mem hne)
  clear hl
  generalize es[0] = e0 at p0 p1 p2 p3 HM0
  obtain ⟨i0, x1, x2, x3⟩ := e0
  dsimp only at p0 p1 p2 p3
  rw [Nat.zero_mul, Nat.add_zero] at p0 p1 p2 p3
  have hb1 := heap_alloc_new w (.cells #[.int .i64 0, .int .i64 0, .int .i64 0, .int .i64 0] 105)
  have q0 := cell_alloc p0 (.cells #[.int .i64 0, .int .i64 0, .int .i64 0, .int .i64 0] 105)
  have q1 := cell_alloc p1 (.cells #[.int .i64 0, .int .i64 0, .int .i64 0, .int .i64 0] 105)
  have q2 := cell_alloc p2 (.cells #[.int .i64 0, .int .i64 0, .int .i64 0, .int .i64 0] 105)
  have q3 := cell_alloc p3 (.cells #[.int .i64 0, .int .i64 0, .int .i64 0, .int .i64 0] 105)
  replace hb1 := blk_alloc hb1 (.cells #[.int .i64 i0, .int .i64 x1, .int .i64 x2, .int .i64 x3] 105)
  have hb2 := heap_alloc_at (w.alloc (.cells #[.int .i64 0, .int .i64 0, .int .i64 0, .int .i64 0] 105)) (.cells #[.int .i64 i0, .int .i64 x1, .int .i64 x2, .int .i64 x3] 105) (n := w.heap.size + 1) (by simp)
  have hB0 : Below w.heap.size w ((w.alloc (.cells #[.int .i64 0, .int .i64 0, .int .i64 0, .int .i64 0] 105)).alloc (.cells #[.int .i64 i0, .int .i64 x1, .int .i64 x2, .int .i64 x3] 105)) := below_alloc' (below_alloc' (Below.refl _ _) _) _
  have hsz : w.heap.size + 2 ≤ ((w.alloc (.cells #[.int .i64 0, .int .i64 0, .int .i64 0, .int .i64 0] 105)).alloc (.cells #[.int .i64 i0, .int .i64 x1, .int .i64 x2, .int .i64 x3] 105)).heap.size := by simp
  go_enter Tryd.func67, Tryd.ntmps67
  have hl0 : (0 : Int) < (es.length : Int) := by omega
  go_upto_region 2 with fail
  generalize (w.alloc (.cells #[.int .i64 0, .int .i64 0, .int .i64 0, .int .i64 0] 105)).alloc (.cells #[.int .i64 i0, .int .i64 x1, .int .i64 x2, .int .i64 x3] 105) = w0 at *
  clear p0 p1 p2 p3 q0 q1 q2 q3
  have H1 := Lib.hid hb1
  have H2 := Lib.hid hb2
  have HB := Lib.hid hB0
  clear hb1 hb2 hB0
  go_wp2
  go_loopw [13] (fun i wr => ∃ (k : Nat) (e : En), k ≤ es.length ∧ i = .int .i64 k ∧ Hid (e ∈ es) ∧ Hid (∀ j (hj : j < es.length), j < k → val e.1 ≤ val es[j].1) ∧ Hid (wr.heap[w.heap.size]? = some (.cells #[.int .i64 0, .int .i64 0, .int .i64 0, .int .i64 0] 105 (0, 0))) ∧ Hid (wr.heap[w.heap.size + 1]? = some (.cells #[.int .i64 e.1, .int .i64 e.2.1, .int .i64 e.2.2.1, .int .i64 e.2.2.2] 105 (0, 0))) ∧ Hid (Below w.heap.size w wr) ∧ w.heap.size + 2 ≤ wr.heap.size) (fun i _ => es.length - (intOf i).toNat)
  case atStart => exact ⟨0, (i0, x1, x2, x3), by omega, rfl, HM0, Lib.hid fun j _ h => absurd h (by omega), H1, H2, HB, hsz⟩
  case round =>
    clear H1 H2 HB hsz HM0
    obtain ⟨k, e, hk, rfl, HE, HV, H1, H2, HB, hsz⟩ := hrel
    by_cases hkn : k < es.length
    · obtain ⟨b, off, hb, g0, g1, g2, g3⟩ := EnsAt.at_ (Hl.out.below HB.out) hkn
      injection hb with hb
      injection hb with e1 e2
      subst e1 e2
      have HMk := Lib.hid (List.getElem_mem hkn)
      have HVn : Hid (∀ y : En, val y.1 ≤ val es[k].1 → (∀ j (hj : j < es.length), j < k → val y.1 ≤ val es[j].1) → ∀ j (hj : j < es.length), j < k + 1 → val y.1 ≤ val es[j].1) := Lib.hid fun y hy h j hj hjk => by
        by_cases c : j = k
        · subst c; exact hy
        · exact h j hj (by omega)
      generalize es[k] = z at g0 g1 g2 g3 HMk HVn
      obtain ⟨zi, z1, z2, z3⟩ := z
      obtain ⟨ei, e1, e2, e3⟩ := e
      dsimp only at g0 g1 g2 g3 H2 HV HVn
      have ij0 : (0 : Int) ≤ (k : Int) := by omega
      have ij1 : (k : Int) < (es.length : Int) := by omega
      have hbx := heap_alloc_new wr (.cells #[.int .i64 zi, .int .i64 z1, .int .i64 z2, .int .i64 z3] 105)
      have hba := below_alloc' (Below.refl wr.heap.size wr) (.cells #[.int .i64 zi, .int .i64 z1, .int .i64 z2, .int .i64 z3] 105)
      go_upto_region 5 with fail
      replace H1 := Lib.hid (blk_below hba H1.out)
      replace H2 := Lib.hid (blk_below hba H2.out)
      replace HB := Lib.hid (below_trans' HB.out hba)
      have hs2 := hba.size
      generalize hxb : wr.heap.size = xb at hbx hs2 ⊢
      clear hba g0 g1 g2 g3
      generalize wr.alloc (.cells #[.int .i64 zi, .int .i64 z1, .int .i64 z2, .int .i64 z3] 105) = w2 at *
      have hsz2 : w.heap.size + 2 ≤ w2.heap.size := by omega
      have hx2 : w.heap.size + 2 ≤ xb := by omega
      clear hxb hs2 hsz
      have n0 : w2.cell? ⟨xb, 0, none⟩ = some (.int .i64 zi) := (blk_cell hbx).trans rfl
      have n1 : w2.cell? ⟨xb, 1, none⟩ = some (.int .i64 z1) := (blk_cell hbx).trans rfl
      have n2 : w2.cell? ⟨xb, 2, none⟩ = some (.int .i64 z2) := (blk_cell hbx).trans rfl
      have n3 : w2.cell? ⟨xb, 3, none⟩ = some (.int .i64 z3) := (blk_cell hbx).trans rfl
      have m0 : w2.cell? ⟨w.heap.size + 1, 0, none⟩ = some (.int .i64 ei) := (blk_cell H2.out).trans rfl
      have m1 : w2.cell? ⟨w.heap.size + 1, 1, none⟩ = some (.int .i64 e1) := (blk_cell H2.out).trans rfl
      have m2 : w2.cell? ⟨w.heap.size + 1, 2, none⟩ = some (.int .i64 e2) := (blk_cell H2.out).trans rfl
      have m3 : w2.cell? ⟨w.heap.size + 1, 3, none⟩ = some (.int .i64 e3) := (blk_cell H2.out).trans rfl
      have hz : ∀ W, Below w2.heap.size w2 W → Calls Tryd.prog g (fst ++ #[.agg #[.int .i64 zi, .int .i64 z1, .int .i64 z2, .int .i64 z3]] ++ cpt) W (Ret fun v W' => v = .int .i64 (val zi) ∧ Below W.heap.size W W') := fun W hW => Hp.out W (zi, z1, z2, z3) (below_trans' HB.out hW) (Hd.out _ HMk.out)
      have he : ∀ W, Below w2.heap.size w2 W → Calls Tryd.prog g (fst ++ #[.agg #[.int .i64 ei, .int .i64 e1, .int .i64 e2, .int .i64 e3]] ++ cpt) W (Ret fun v W' => v = .int .i64 (val ei) ∧ Below W.heap.size W W') := fun W hW => Hp.out W (ei, e1, e2, e3) (below_trans' HB.out hW) (Hd.out _ HE.out)
      have HZ := Lib.hid hz
      have HEE := Lib.hid he
      have HX := Lib.hid hbx
      clear hz he hbx
      refine wp_region_class (C := fun W => Below w2.heap.size w2 W) (by kernel_rfl) (by kernel_rfl) ((Below.refl _ _).drew) ?_
      repeat (first
        | go_big_quiet_skip
        | (go_big_quiet_want
           first
             | (go_big_quiet_op; go_big_quiet_on)
             | (apply Exists.intro
                refine ⟨fun W hW => ?_, ?_⟩
                · replace n0 := cell_below hW n0; replace n1 := cell_below hW n1; replace n2 := cell_below hW n2; replace n3 := cell_below hW n3; replace m0 := cell_below hW m0; replace m1 := cell_below hW m1; replace m2 := cell_below hW m2; replace m3 := cell_below hW m3; go_simp <;> exact rfl
                simp only [Act.put, List.setIfInBounds_toArray, List.set_cons_zero, List.set_cons_succ]
                go_big_quiet_on)))
      go_big_quiet_want
      apply Exists.intro
      refine ⟨fun W hW => ?_, ?_⟩
      · go_simp
        refine (HZ.out W hW).mono ?_
        rintro e wc ⟨v, rfl, rfl, hBc⟩
        exact ⟨rfl, below_trans' hW hBc⟩
      simp only [Act.put, List.setIfInBounds_toArray, List.set_cons_zero, List.set_cons_succ]
      go_big_quiet_on
      repeat (first
        | go_big_quiet_skip
        | (go_big_quiet_want
           first
             | (go_big_quiet_op; go_big_quiet_on)
             | (apply Exists.intro
                refine ⟨fun W hW => ?_, ?_⟩
                · replace n0 := cell_below hW n0; replace n1 := cell_below hW n1; replace n2 := cell_below hW n2; replace n3 := cell_below hW n3; replace m0 := cell_below hW m0; replace m1 := cell_below hW m1; replace m2 := cell_below hW m2; replace m3 := cell_below hW m3; go_simp <;> exact rfl
                simp only [Act.put, List.setIfInBounds_toArray, List.set_cons_zero, List.set_cons_succ]
                go_big_quiet_on)))
      go_big_quiet_want
      apply Exists.intro
      refine ⟨fun W hW => ?_, ?_⟩
      · go_simp
        refine (HEE.out W hW).mono ?_
        rintro e wc ⟨v, rfl, rfl, hBc⟩
        exact ⟨rfl, below_trans' hW hBc⟩
      simp only [Act.put, List.setIfInBounds_toArray, List.set_cons_zero, List.set_cons_succ]
      go_big_quiet_on
      repeat (first
        | go_big_quiet_skip
        | (go_big_quiet_want
           first
             | (go_big_quiet_op; go_big_quiet_on)
             | (apply Exists.intro
                refine ⟨fun W hW => ?_, ?_⟩
                · replace n0 := cell_below hW n0; replace n1 := cell_below hW n1; replace n2 := cell_below hW n2; replace n3 := cell_below hW n3; replace m0 := cell_below hW m0; replace m1 := cell_below hW m1; replace m2 := cell_below hW m2; replace m3 := cell_below hW m3; go_simp <;> exact rfl
                simp only [Act.put, List.setIfInBounds_toArray, List.set_cons_zero, List.set_cons_succ]
                go_big_quiet_on)))
      refine wpQuiet_nil ?_
      intro w3 hB3
      have HB3 := Lib.hid (below_trans' HB.out hB3)
      replace H1 := Lib.hid (blk_below hB3 H1.out)
      replace H2 := Lib.hid (blk_below hB3 H2.out)
      replace HX := Lib.hid (blk_below hB3 HX.out)
      have hs3 : w.heap.size + 2 ≤ w3.heap.size := by have := hB3.size; omega
      clear hB3 HB n0 n1 n2 n3 m0 m1 m2 m3 hsz2
      by_cases c : val zi < val ei
      · have d : decide (val zi < val ei) = true := by simpa using c
        have HVz := Lib.hid (HVn.out (zi, z1, z2, z3) (Int.le_refl _) (fun j hj hjk => Int.le_trans (Int.le_of_lt c) (HV.out j hj hjk)))
        have n0 : w3.cell? ⟨xb, 0, none⟩ = some (.int .i64 zi) := (blk_cell HX.out).trans rfl
        have n1 : w3.cell? ⟨xb, 1, none⟩ = some (.int .i64 z1) := (blk_cell HX.out).trans rfl
        have n2 : w3.cell? ⟨xb, 2, none⟩ = some (.int .i64 z2) := (blk_cell HX.out).trans rfl
        have n3 : w3.cell? ⟨xb, 3, none⟩ = some (.int .i64 z3) := (blk_cell HX.out).trans rfl
        have m0 : w3.cell? ⟨w.heap.size + 1, 0, none⟩ = some (.int .i64 ei) := (blk_cell H2.out).trans rfl
        have m1 : w3.cell? ⟨w.heap.size + 1, 1, none⟩ = some (.int .i64 e1) := (blk_cell H2.out).trans rfl
        have m2 : w3.cell? ⟨w.heap.size + 1, 2, none⟩ = some (.int .i64 e2) := (blk_cell H2.out).trans rfl
        have m3 : w3.cell? ⟨w.heap.size + 1, 3, none⟩ = some (.int .i64 e3) := (blk_cell H2.out).trans rfl
        have f0 := blk_frozen (i := 0) H2.out
        have f1 := blk_frozen (i := 1) H2.out
        have f2 := blk_frozen (i := 2) H2.out
        have f3 := blk_frozen (i := 3) H2.out
        have H2n := Lib.hid (blk_set (i := 3) (blk_set (i := 2) (blk_set (i := 1) (blk_set (i := 0) H2.out (.int .i64 zi)) (.int .i64 z1)) (.int .i64 z2)) (.int .i64 z3))
        have H1n := Lib.hid (blk_far (blk_far (blk_far (blk_far H1.out (p := ⟨w.heap.size + 1, 0, none⟩) (by dsimp only; omega) (.int .i64 zi)) (p := ⟨w.heap.size + 1, 1, none⟩) (by dsimp only; omega) (.int .i64 z1)) (p := ⟨w.heap.size + 1, 2, none⟩) (by dsimp only; omega) (.int .i64 z2)) (p := ⟨w.heap.size + 1, 3, none⟩) (by dsimp only; omega) (.int .i64 z3))
        have HBn := Lib.hid ((((HB3.out.setCell (p := ⟨w.heap.size + 1, 0, none⟩) (by dsimp only; omega) (.int .i64 zi)).setCell (p := ⟨w.heap.size + 1, 1, none⟩) (by dsimp only; omega) (.int .i64 z1)).setCell (p := ⟨w.heap.size + 1, 2, none⟩) (by dsimp only; omega) (.int .i64 z2)).setCell (p := ⟨w.heap.size + 1, 3, none⟩) (by dsimp only; omega) (.int .i64 z3))
        go_wp2
        go_roundw
        case rel => exact ⟨k + 1, (zi, z1, z2, z3), by omega, by go_num, HMk, HVz, H1n, H2n, HBn, by simp; omega⟩
        case measure => simp [intOf]; omega
      · have d : decide (val zi < val ei) = false := by simpa using c
        have HVe := Lib.hid (HVn.out (ei, e1, e2, e3) (by dsimp only; omega) HV.out)
        go_wp2
        go_roundw
        case rel => exact ⟨k + 1, (ei, e1, e2, e3), by omega, by go_num, HE, HVe, H1, H2, HB3, hs3⟩
        case measure => simp [intOf]; omega
    · obtain rfl : k = es.length := by omega
      obtain ⟨ei, e1, e2, e3⟩ := e
      dsimp only at H2 HV
      have m0 : wr.cell? ⟨w.heap.size + 1, 0, none⟩ = some (.int .i64 ei) := (blk_cell H2.out).trans rfl
      have m1 : wr.cell? ⟨w.heap.size + 1, 1, none⟩ = some (.int .i64 e1) := (blk_cell H2.out).trans rfl
      have m2 : wr.cell? ⟨w.heap.size + 1, 2, none⟩ = some (.int .i64 e2) := (blk_cell H2.out).trans rfl
      have m3 : wr.cell? ⟨w.heap.size + 1, 3, none⟩ = some (.int .i64 e3) := (blk_cell H2.out).trans rfl
      have n0 : wr.cell? ⟨w.heap.size, 0, none⟩ = some (.int .i64 0) := (blk_cell H1.out).trans rfl
      have n1 : wr.cell? ⟨w.heap.size, 1, none⟩ = some (.int .i64 0) := (blk_cell H1.out).trans rfl
      have n2 : wr.cell? ⟨w.heap.size, 2, none⟩ = some (.int .i64 0) := (blk_cell H1.out).trans rfl
      have n3 : wr.cell? ⟨w.heap.size, 3, none⟩ = some (.int .i64 0) := (blk_cell H1.out).trans rfl
      have f0 := blk_frozen (i := 0) H1.out
      have f1 := blk_frozen (i := 1) H1.out
      have f2 := blk_frozen (i := 2) H1.out
      have f3 := blk_frozen (i := 3) H1.out
      have hF := Lib.hid (blk_set (i := 3) (blk_set (i := 2) (blk_set (i := 1) (blk_set (i := 0) H1.out (.int .i64 ei)) (.int .i64 e1)) (.int .i64 e2)) (.int .i64 e3))
      have HBn := Lib.hid ((((HB.out.setCell (p := ⟨w.heap.size, 0, none⟩) (Nat.le_refl _) (.int .i64 ei)).setCell (p := ⟨w.heap.size, 1, none⟩) (Nat.le_refl _) (.int .i64 e1)).setCell (p := ⟨w.heap.size, 2, none⟩) (Nat.le_refl _) (.int .i64 e2)).setCell (p := ⟨w.heap.size, 3, none⟩) (Nat.le_refl _) (.int .i64 e3))
      have HVF : Hid (∀ x ∈ es, val ei ≤ val x.1) := Lib.hid fun x hx => by
        obtain ⟨j, hj, rfl⟩ := List.mem_iff_getElem.1 hx
        exact HV.out j hj hj
      go_wp2
      clear m0 m1 m2 m3 n0 n1 n2 n3 f0 f1 f2 f3 H1 H2 HB HV
      generalize (World.setCell _ _ _) = V at hF HBn ⊢
      have c0 := (blk_cell (i := 0) hF.out).trans rfl
      have c1 := (blk_cell (i := 1) hF.out).trans rfl
      have c2 := (blk_cell (i := 2) hF.out).trans rfl
      have c3 := (blk_cell (i := 3) hF.out).trans rfl
      exact bodyPost_ret (v := vE (ei, e1, e2, e3)) (by simp [vE, results, Tryd.results67, go_sem, c0, c1, c2, c3]) rfl (Ret.mk ⟨⟨_, HE.out, rfl, HVF.out⟩, HBn.out⟩)
end Go.Proofs.YtggcooplhodocaaDoor

namespace Go.Proofs.YtggcooplhodocaaDoor
open Go.RowKit Go.Shelf Go.Maps Fam

theorem MapD.look {w : World} {b n : Nat} {D : DataW Unit} (h : MapD w b n D) {g x : Int} (hg : okM g) (hx : prAt D g x) : (Instr.lookup 88 (.map (some b)) (.int .i64 g) false).run Tryd.prog w = .ok (.int .i64 x) w := by
  obtain ⟨v, ps, hrun, hv⟩ := World.ownsMap.lookup (t := 88) (e := 2) h Tryd.lawI Tryd.underlying88 (zeroL w) (rB_v 0) (key_M hg)
  unfold prAt at hx
  rw [hx] at hv
  rw [hrun, rB_inv hv]
theorem MapD.upd {w : World} {b n : Nat} {D : DataW Unit} (h : MapD w b n D) {g : Int} (hg : okM g) (x : Int) (hn : n ≤ 1000000) :
    ∃ w', (Instr.mapUpdate 88 (.map (some b)) (.int .i64 g) (.int .i64 x)).run Tryd.prog w = .ok () w' ∧ MapD w' b (n + 1) (D.put (.int .i64 g) (dB x)) ∧ w.grownBy w' (some b) := by
  obtain ⟨w', hrun, hD', hg'⟩ := World.ownsMap.update (t := 88) (e := 2) h Tryd.lawI Tryd.underlying88 (by unfold maxLen; omega) (key_M hg) (rB_v x)
  exact ⟨w', hrun, hD', hg'⟩
theorem key_inj {a b : Int} (h : Lit.int .i64 a = Lit.int .i64 b) : a = b := by simpa using h
/-- the map's prices are those of a history -/
structure PrD (D : DataW Unit) (Hm : List EntM) : Prop where
  at_ : ∀ g : Nat, g < 65536 → prAt D g (prSum Hm g)
  has : ∀ z, Maps.has D z = true → ∃ x ∈ Hm, z = .int .i64 x.1
theorem PrD.nil : PrD (.map []) [] := ⟨fun g _ => by unfold prAt prSum; rfl, fun z h => by cases h⟩
theorem PrD.put {w : World} {b n : Nat} {D : DataW Unit} {Hm : List EntM} (hD : MapD w b n D) (h : PrD D Hm) {g : Nat} (hg : g < 65536) (f : Nat) (p : Int) : PrD (D.put (.int .i64 g) (dB (prSum Hm g + p))) (Hm ++ [(g, f, p)]) := by
  have hm : Maps.IsMap D := by obtain ⟨es, clock, _, _, _, e⟩ := hD; exact ⟨_, e⟩
  refine ⟨fun k hk => ?_, fun z hz => ?_⟩
  · unfold prAt
    rw [prSum_snoc]
    by_cases e : k = g
    · subst e
      rw [atKey_put_same hm (Tryd.lawI.key (key_M ⟨by omega, by omega⟩)), if_pos rfl]
    · have hne : Lit.int .i64 (k : Int) ≠ Lit.int .i64 (g : Int) := fun h => e (by have := key_inj h; omega)
      rw [atKey_put_other hne, if_neg (fun h => e h.symm), Int.add_zero]
      exact h.at_ k hk
  · by_cases e : z = .int .i64 (g : Int)
    · exact ⟨(g, f, p), by simp, e⟩
    · rw [has_put_other e] at hz
      obtain ⟨x, hx, e'⟩ := h.has z hz
      exact ⟨x, by simp [hx], e'⟩
/-- what lay there lies as it lay, but for two blocks -/
structure KeepG (n lb mb : Nat) (X Y : World) : Prop where
  os : Y.os = X.os
  tape : Y.tape = X.tape
  output : Y.output = X.output
  size : X.heap.size ≤ Y.heap.size
  block : ∀ b, b < n → b ≠ lb → b ≠ mb → Y.heap[b]? = X.heap[b]?
theorem KeepG.refl (n lb mb : Nat) (X : World) : KeepG n lb mb X X := ⟨rfl, rfl, rfl, Nat.le_refl _, fun _ _ _ _ => rfl⟩
theorem KeepG.below {n lb mb : Nat} {X Y Z : World} (h : KeepG n lb mb X Y) (k : Below Y.heap.size Y Z) (hn : n ≤ X.heap.size) : KeepG n lb mb X Z := ⟨k.os.trans h.os, k.tape.trans h.tape, k.output.trans h.output, Nat.le_trans h.size k.size, fun b h1 h2 h3 => (k.block b (by have := h.size; omega)).trans (h.block b h1 h2 h3)⟩
theorem KeepG.keepX {n n' x lb mb : Nat} {X Y Z : World} (h : KeepG n lb mb X Y) (k : KeepX n' x Y Z) (hn : n ≤ n') (hx : n ≤ x) : KeepG n lb mb X Z := ⟨k.os.trans h.os, k.tape.trans h.tape, k.output.trans h.output, Nat.le_trans h.size k.size, fun b h1 h2 h3 => (k.block b (by omega) (by omega)).trans (h.block b h1 h2 h3)⟩
theorem KeepG.grown {n lb mb : Nat} {X Y Z : World} {row : Option Nat} (h : KeepG n lb mb X Y) (hg : Y.grownBy Z row) (hn : n ≤ X.heap.size) (hr : ∀ r, row = some r → r = lb ∨ r = mb ∨ n ≤ r) : KeepG n lb mb X Z :=
  ⟨hg.os.trans h.os, hg.tape.trans h.tape, hg.output.trans h.output, Nat.le_trans h.size hg.size, fun b h1 h2 h3 => (hg.block b (by have := h.size; omega) (fun e => by rcases hr b e.symm with k | k | k <;> omega)).trans (h.block b h1 h2 h3)⟩
theorem KeepG.set {n lb mb : Nat} {X Y : World} (h : KeepG n lb mb X Y) (hn : n ≤ X.heap.size) {p : Addr} (hp : p.block = lb ∨ p.block = mb ∨ n ≤ p.block) (v : Value) : KeepG n lb mb X (Y.setCell p v) := h.grown (grown_setCell Y p v) hn (fun r e => by injection e with e; subst e; exact hp)
theorem KeepG.rows {α : Type} {enc : α → List Value} {k n lb mb : Nat} {X Y : World} {A : Option Addr} {l : List α} (h : KeepG n lb mb X Y) (hl : RowsAt enc k X A l) (hA : l ≠ [] → ∀ a, A = some a → a.block < n ∧ a.block ≠ lb ∧ a.block ≠ mb) : RowsAt enc k Y A l := fun i hi => by
  obtain ⟨b, off, e, hc⟩ := hl i hi
  obtain ⟨h1, h2, h3⟩ := hA (by intro e; subst e; simp at hi) _ e
  exact ⟨b, off, e, fun j v hv => (World.cell?_of_block (a := ⟨b, off + i * k + j, none⟩) (h.block b h1 h2 h3)).trans (hc j v hv)⟩
theorem MarksAt.below {base : Nat} {ds : List Nat} {W W' : World} (h : MarksAt base ds W) (hb : Below W.heap.size W W') : MarksAt base ds W' := ⟨h.1, fun D hD => ⟨(h.2 D hD).1, blk_below hb (h.2 D hD).2⟩⟩
theorem MarksAt.grown {base : Nat} {ds : List Nat} {W W' : World} {row : Option Nat} (h : MarksAt base ds W) (hg : W.grownBy W' row) (hr : ∀ r, row = some r → ∀ D ∈ ds, D ≠ r) : MarksAt base ds W' :=
  ⟨h.1, fun D hD => ⟨(h.2 D hD).1, (hg.block D (blk_lt (h.2 D hD).2) (fun e => hr D e.symm D hD rfl)).trans (h.2 D hD).2⟩⟩
/-- a mark's block is no block of cells, and no map -/
theorem MarksAt.ne {base b : Nat} {ds : List Nat} {W : World} {o : Obj} (h : MarksAt base ds W) (hb : W.heap[b]? = some o) (ho : ∀ x, o ≠ .deferred x) : ∀ D ∈ ds, D ≠ b := fun D hD e => by
  have := (h.2 D hD).2
  rw [e, hb] at this
  injection this with this
  exact ho _ this
theorem MarksAt.keepX {n x base : Nat} {ds : List Nat} {W W' : World} (h : MarksAt base ds W) (hk : KeepX n x W W') (hn : W.heap.size ≤ n) (hx : ∀ D ∈ ds, D ≠ x) : MarksAt base ds W' :=
  ⟨h.1, fun D hD => ⟨(h.2 D hD).1, (hk.block D (by have := blk_lt (h.2 D hD).2; omega) (hx D hD)).trans (h.2 D hD).2⟩⟩
theorem MarksAt.cons {base D : Nat} {ds : List Nat} {W : World} (h : MarksAt base ds W) (hD : W.heap[D]? = some (.deferred (some []))) (hb : base ≤ D) (hn : D ∉ ds) : MarksAt base (D :: ds) W :=
  ⟨List.nodup_cons.2 ⟨hn, h.1⟩, fun E hE => by
    rcases List.mem_cons.1 hE with e | e
    · subst e; exact ⟨hb, hD⟩
    · exact h.2 E e⟩
end Go.Proofs.YtggcooplhodocaaDoor
