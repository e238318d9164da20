/- ref: without. -/
import Derived.Test.YtkjmeeggjmeajaaT2
import Derived.Test.YtkjmeeggjmeajaaT1
namespace Go.Proofs.Ytkjmeeggjmeajaa
open Go.RowKit Go.Shelf

def goodUp (l : List Rg) (r : Rg) (p : Int) (j : Nat) : Bool := (p == r.1 - 1) || (p == r.2 + 1) || (l.take j).any fun t => p == t.2 || p == t.1
theorem goodUp_next {l : List Rg} {r : Rg} {p : Int} {j : Nat} (hj : j < l.length) {t : Rg} (ht : l[j] = t) : goodUp l r p (j + 1) = (goodUp l r p j || (p == t.2 || p == t.1)) := by
  unfold goodUp; rw [take_snoc hj ht, List.any_append]; simp [Bool.or_assoc]
theorem goodUp_zero (l : List Rg) (r : Rg) (p : Int) : goodUp l r p 0 = ((p == r.1 - 1) || (p == r.2 + 1)) := by simp [goodUp]
theorem goodUp_all (l : List Rg) (r : Rg) (p : Int) : goodUp l r p l.length = goodP l r p := by unfold goodUp goodP; rw [List.take_length]
/-- what the first k places cost -/
def RowUp (l : List Rg) (P S : List Int) (k : Nat) : Prop := S.length = P.length ∧ ∀ j, j < k → MinPath l P j j (S.getD j 0)
theorem RowUp.set {l : List Rg} {P S : List Int} {k j : Nat} (h : RowUp l P S k) (hj : k ≤ j) (x : Int) : RowUp l P (S.set j x) k :=
  ⟨by rw [List.length_set]; exact h.1, fun i hi => by
    have := h.2 i hi
    rwa [show (S.set j x).getD i 0 = S.getD i 0 by simp [List.getD_eq_getElem?_getD, List.getElem?_set_ne (show j ≠ i by omega)]]⟩
theorem set_getD {S : List Int} {k : Nat} (hk : k < S.length) (x : Int) : (S.set k x).getD k 0 = x := by simp [List.getD_eq_getElem?_getD, hk]
theorem RowUp.more {l : List Rg} {P S : List Int} {k : Nat} (h : RowUp l P S k) (hm : MinPath l P k k (S.getD k 0)) : RowUp l P S (k + 1) := ⟨h.1, fun j hj => by
  by_cases e : j = k
  · subst e; exact hm
  · exact h.2 j (by omega)⟩
def WithoutIs (l : List Rg) (r : Rg) (m : Int) : Prop := ∀ n : Nat, n < 1000 → ((n : Int) < m ↔ ¬ ∃ x, Right l x ∧ ¬ Hit x r ∧ x.length ≤ n)

set_option maxRecDepth 100000 in
set_option maxHeartbeats 2000000 in
theorem without_any (A : Option Addr) (ca : Nat) (l : List Rg) (r1 r2 : Int) (w : World) (hl : RangesAt w A l) (hn : l.length ≤ 100) (hn1 : 1 ≤ l.length) (hg : GoodR l) (hr : 0 ≤ r1 ∧ r1 ≤ r2 ∧ r2 ≤ 10000) :
    Calls Try.prog 51 #[.slice A l.length ca, .agg #[.int .i64 r1, .int .i64 r2]] w (Ret fun v w' => (∃ m : Int, v = .int .i64 m ∧ WithoutIs l (r1, r2) m) ∧ Below w.heap.size w w') := by
  have Hl := Lib.hid hl; clear hl
  have HG := Lib.hid hg; clear hg
  have HX0 := Lib.hid (heap_alloc_new w (.cells #[.int .i64 r1, .int .i64 r2] 50))
  go_enter Try.func51, Try.ntmps51
  go_wp2
  obtain ⟨w0, hw0⟩ : ∃ w0, w0 = w.alloc (.cells #[.int .i64 r1, .int .i64 r2] 50) := ⟨_, rfl⟩
  have HB0 : Hid (Below w.heap.size w w0) := Lib.hid (by rw [hw0]; exact below_alloc' (Below.refl _ _) _)
  have HY0 : Hid (w0.heap[w.heap.size]? = some (.cells #[.int .i64 r1, .int .i64 r2] 50 (0, 0))) := Lib.hid (by rw [hw0]; exact HX0.out)
  rw [← hw0]
  clear hw0 HX0
  have hw1 : IntKind.i64.wrap (r1 - 1) = r1 - 1 := IntWalk.i64_in _ (by omega)
  have hw2 : IntKind.i64.wrap (r2 + 1) = r2 + 1 := IntWalk.i64_in _ (by omega)
  go_loopw [5, 6] (fun v i wr => ∃ k : Nat, k ≤ 10001 ∧ i = .int .i64 k ∧ wr.ownsRow w0.heap.size 2 1 v (placesUp l (r1, r2) k).length ((placesUp l (r1, r2) k).flatMap encI) ∧ Below w0.heap.size w0 wr) (fun _ i _ => 10001 - (intOf i).toNat)
  case atStart => exact ⟨0, by omega, rfl, World.ownsRow_nil _ _ _ _, Below.refl _ _⟩
  case round =>
    obtain ⟨k, hk, rfl, hown, hB⟩ := hrel
    have HB := Lib.hid hB
    have hpl := places_len l (r1, r2) k
    obtain ⟨T, hT⟩ : ∃ T, T = placesUp l (r1, r2) k := ⟨_, rfl⟩
    rw [← hT] at hown hpl
    have HT := Lib.hid hT
    have Hown := Lib.hid hown
    clear hB hown hT
    by_cases hkn : k < 10001
    · have c0 : wr.cell? ⟨w.heap.size, 0, none⟩ = some (.int .i64 r1) := cell_below HB.out ((blk_cell HY0.out).trans rfl)
      have c1 : wr.cell? ⟨w.heap.size, 1, none⟩ = some (.int .i64 r2) := cell_below HB.out ((blk_cell HY0.out).trans rfl)
      have d0 : decide ((k : Int) ≤ 10000) = true := by simp; omega
      have hz := HB.out.size
      have hg0 := goodUp_zero l (r1, r2) (k : Int)
      dsimp only at hg0
      have Hg0 := Lib.hid hg0
      clear hg0
      cases h1 : ((k : Int) == r1 - 1)
      all_goals
        cases h2 : ((k : Int) == r2 + 1)
      all_goals
        have hgz := Hg0.out
        rw [h1, h2] at hgz
        simp only [Bool.or_true, Bool.or_false] at hgz
        have HGZ := Lib.hid hgz
        clear hgz
        go_wp2
        clear h1 h2
        go_loopw [7, 8] (fun g i wq => ∃ j : Nat, j ≤ l.length ∧ i = .int .i64 j ∧ g = .bool (goodUp l (r1, r2) k j) ∧ wq = wr) (fun _ i _ => l.length - (intOf i).toNat)
        case atStart => exact ⟨0, by omega, rfl, by rw [HGZ.out], rfl⟩
        case round =>
          clear HGZ Hg0
          obtain ⟨j, hj, rfl, rfl, rfl⟩ := hrel
          by_cases hjn : j < l.length
          · obtain ⟨bl, ol, rfl, g1, g2⟩ := (Hl.out.below (below_trans' HB0.out HB.out)).at_ hjn
            have hnx := goodUp_next (r := (r1, r2)) (p := (k : Int)) hjn rfl
            generalize l[j] = t at g1 g2 hnx
            obtain ⟨t1, t2⟩ := t
            dsimp only at g1 g2 hnx
            have Hnx := Lib.hid hnx
            clear hnx
            cases hq : goodUp l (r1, r2) k j
            · cases e1 : ((k : Int) == t2)
              · cases e2 : ((k : Int) == t1)
                · have HP := Lib.hid (Hnx.out.trans (by rw [hq, e1, e2]))
                  clear hq Hnx
                  go_wp2
                  go_roundw
                  case rel => exact ⟨j + 1, by omega, by go_num, by rw [HP.out]; rfl, by first | trivial | rfl⟩
                  case measure => simp [intOf]; omega
                · have HP := Lib.hid (Hnx.out.trans (by rw [hq, e1, e2]))
                  clear hq Hnx
                  go_wp2
                  go_roundw
                  case rel => exact ⟨j + 1, by omega, by go_num, by rw [HP.out]; rfl, by first | trivial | rfl⟩
                  case measure => simp [intOf]; omega
              · have HP := Lib.hid (Hnx.out.trans (by rw [hq, e1]))
                clear hq Hnx
                go_wp2
                go_roundw
                case rel => exact ⟨j + 1, by omega, by go_num, by rw [HP.out]; rfl, by first | trivial | rfl⟩
                case measure => simp [intOf]; omega
            · have HP := Lib.hid (Hnx.out.trans (by rw [hq]))
              clear hq Hnx
              go_wp2
              go_roundw
              case rel => exact ⟨j + 1, by omega, by go_num, by rw [HP.out]; rfl, by first | trivial | rfl⟩
              case measure => simp [intOf]; omega
          · obtain rfl : j = l.length := by omega
            have hga := goodUp_all l (r1, r2) (k : Int)
            have hyes := places_yes (l := l) (r := (r1, r2)) (k := k)
            have hno := places_no (l := l) (r := (r1, r2)) (k := k)
            rw [← HT.out] at hyes hno
            unfold outP at hyes hno
            dsimp only at hyes hno
            rw [hga]
            cases hq : goodP l (r1, r2) (k : Int)
            · have HP := Lib.hid (hno (by rw [hq]; rfl))
              clear hyes hno hga hq
              go_wp2
              go_roundw
              case rel => exact ⟨k + 1, by omega, by go_num, by rw [HP.out]; exact Hown.out, HB.out⟩
              case measure => simp [intOf]; omega
            · by_cases e1 : (k : Int) < r1
              · have HP := Lib.hid (hyes (by rw [hq, decide_eq_true e1]; rfl))
                clear hyes hno hga hq
                go_wp2_with (at_builtin; refine wpList_push _ rfl (.tmp 69) (.tmp 71) _ rfl elemI2 encI_len oneI Try.underlying23 w0.heap.size _ T rfl (Hown.out.alloc _) (by omega) (k : Int) _ rfl _ (by rfl) _ _ (heap_alloc_new _ _) (by rw [World.size_alloc]; omega) ?_; intro g cap w6 hown6 hg6; have HB6 := Lib.hid ((below_alloc' HB.out _).grown hg6 (by rw [World.size_alloc]; omega) (fun r e => own_base Hown.out r e)); have Hown6 := Lib.hid hown6; clear hown6 hg6)
                go_roundw
                case rel => exact ⟨k + 1, by omega, by go_num, by rw [HP.out, len_snoc]; exact Hown6.out, HB6.out⟩
                case measure => simp [intOf]; omega
              · by_cases e2 : r2 < (k : Int)
                · have HP := Lib.hid (hyes (by rw [hq, decide_eq_true e2, Bool.or_true]; rfl))
                  clear hyes hno hga hq
                  go_wp2_with (at_builtin; refine wpList_push _ rfl (.tmp 69) (.tmp 71) _ rfl elemI2 encI_len oneI Try.underlying23 w0.heap.size _ T rfl (Hown.out.alloc _) (by omega) (k : Int) _ rfl _ (by rfl) _ _ (heap_alloc_new _ _) (by rw [World.size_alloc]; omega) ?_; intro g cap w6 hown6 hg6; have HB6 := Lib.hid ((below_alloc' HB.out _).grown hg6 (by rw [World.size_alloc]; omega) (fun r e => own_base Hown.out r e)); have Hown6 := Lib.hid hown6; clear hown6 hg6)
                  go_roundw
                  case rel => exact ⟨k + 1, by omega, by go_num, by rw [HP.out, len_snoc]; exact Hown6.out, HB6.out⟩
                  case measure => simp [intOf]; omega
                · have HP := Lib.hid (hno (by rw [hq, decide_eq_false e1, decide_eq_false e2]; rfl))
                  clear hyes hno hga hq
                  go_wp2
                  go_roundw
                  case rel => exact ⟨k + 1, by omega, by go_num, by rw [HP.out]; exact Hown.out, HB.out⟩
                  case measure => simp [intOf]; omega
    · obtain rfl : k = 10001 := by omega
      have d0 : decide ((10001 : Int) ≤ 10000) = false := by decide
      rw [show ((10001 : Nat) : Int) = 10001 from rfl]
      obtain ⟨n, hnn⟩ : ∃ n, n = T.length := ⟨_, rfl⟩
      rw [← hnn] at hpl
      have hown := Hown.out
      obtain ⟨C, c, rfl, hc⟩ := own_form hown
      obtain ⟨w1, hw1'⟩ : ∃ w1, w1 = wr := ⟨_, rfl⟩
      subst hw1'
      have HI : Hid (IntsAt w1 C T) := Lib.hid (RowsAt.of_own encI_len hown)
      rw [← hnn]
      have HNN := Lib.hid hnn
      have HB1 := Lib.hid (below_trans' HB0.out HB.out)
      have HPR := Lib.hid (places_rise l (r1, r2) 10001)
      rw [← HT.out] at HPR
      obtain ⟨zs, hzs⟩ : ∃ zs : Array Value, zs = madeCells #[.int .i64 0] n := ⟨_, rfl⟩
      have hmk := fun w => run_make_row' (P := Try.prog) 26 3 (.int .i64 0) 8 Try.underlying26 infoI3 rfl .i64 .i64 n (by omega) (by omega) w
      rw [← hzs] at hmk
      have Hzs := Lib.hid hzs
      clear hzs hown Hown HB hc hnn hw1 hw2
      go_wp2
      have hrow : IntRow (w1.alloc (.cells zs 3)) w1.heap.size w1.heap.size (List.replicate n 0) := by
        have hz : zs.size = n := by rw [Hzs.out]; simp [madeCells]
        refine ⟨by simp [flatMap_len encI_len], .inr ⟨w1.heap.size, _, zs, rfl, Nat.le_refl _, heap_alloc_new w1 _, Nat.le_refl _, by simp only [maxLen, List.length_replicate]; omega, by simp [hz], ?_⟩⟩
        rw [← map_encI, Hzs.out, toList_madeCells_one]; simp
      have Hrow := Lib.hid hrow
      have HB2 := Lib.hid (below_alloc' (Below.refl w1.heap.size w1) (.cells zs 3))
      clear hrow hmk
      go_loopw [10, 11] (fun b i wr => ∃ (k : Nat) (m : Int) (S : List Int), k ≤ n ∧ i = .int .i64 k ∧ b = .int .i64 m ∧ IntRow wr w1.heap.size w1.heap.size S ∧ Hid (RowUp l T S k) ∧ Hid (BestW l T k m) ∧ Below w1.heap.size w1 wr) (fun _ i _ => n - (intOf i).toNat)
      case atStart => exact ⟨0, 1000, List.replicate n 0, by omega, rfl, rfl, Hrow.out, ⟨by rw [List.length_replicate, HNN.out], fun j h => by omega⟩, BestW.start _ _, HB2.out⟩
      case round =>
        clear Hrow HB2 hk hkn
        obtain ⟨k, m, S, hk, rfl, rfl, hro, HRU, HBW, hB⟩ := hrel
        have Hro := Lib.hid hro
        have HB := Lib.hid hB
        clear hro hB
        by_cases hkn : k < n
        · have hkT : k < T.length := by rw [← HNN.out]; exact hkn
          have hSl : S.length = n := by rw [HRU.out.1, HNN.out]
          have c0 := Hro.out.cell (j := k) (by omega)
          have f0 := Hro.out.frozen k
          go_wp2
          obtain ⟨w3, hw3⟩ : ∃ w3, w3 = wr.setCell ⟨w1.heap.size, k, none⟩ (.int .i64 1000) := ⟨_, rfl⟩
          have Hro3 : Hid (IntRow w3 w1.heap.size w1.heap.size (S.set k 1000)) := Lib.hid (by rw [hw3]; exact Hro.out.set k 1000)
          have HB3 : Hid (Below w1.heap.size w1 w3) := Lib.hid (by rw [hw3]; exact HB.out.setCell (Nat.le_refl _) _)
          have HRU3 : Hid (RowUp l T (S.set k 1000) k) := Lib.hid (HRU.out.set (Nat.le_refl _) _)
          have hS3 : (S.set k 1000).getD k 0 = 1000 := set_getD (by omega) _
          rw [← hw3]
          obtain ⟨S3, hSS⟩ : ∃ S3, S3 = S.set k 1000 := ⟨_, rfl⟩
          rw [← hSS] at Hro3 HRU3 hS3
          have HS3 := Lib.hid hS3
          clear hw3 hSS hS3 c0 f0 Hro HB HRU hSl
          go_loopw [12] (fun i wr => ∃ (J : Nat) (S : List Int), J ≤ k + 1 ∧ i = .int .i64 ((J : Int) - 1) ∧ IntRow wr w1.heap.size w1.heap.size S ∧ Hid (RowUp l T S k) ∧ Hid (J = 0 ∧ S.getD k 0 = 1000 ∨ ∃ J', J = J' + 1 ∧ MinPath l T k J' (S.getD k 0)) ∧ Below w1.heap.size w1 wr) (fun i _ => k + 1 - ((intOf i) + 1).toNat)
          case atStart => exact ⟨0, S3, by omega, rfl, Hro3.out, HRU3, .inl ⟨rfl, HS3.out⟩, HB3.out⟩
          case round =>
            clear Hro3 HB3 HRU3 HS3
            obtain ⟨J, S, hJ, rfl, hro, HRU, HM, hB⟩ := hrel
            have Hro := Lib.hid hro
            have HB := Lib.hid hB
            clear hro hB
            have hSl : S.length = n := by rw [HRU.out.1, HNN.out]
            have HBa := Lib.hid (below_trans' HB1.out HB.out)
            obtain ⟨bp, op, rfl, p1⟩ := IntsAt.at_ (HI.out.below HB.out) hkT
            have hpk : T.getD k 0 = T[k] := by simp [List.getD_eq_getElem?_getD, hkT]
            have c0 := Hro.out.cell (j := k) (by omega)
            have f0 := Hro.out.frozen k
            generalize hpv : T[k] = pk at p1 hpk
            clear hpv
            generalize hsk : S.getD k 0 = sk at c0 HM
            by_cases hJk : J ≤ k
            · rcases J with _ | J'
              · have hsk0 : sk = 1000 := by
                  rcases HM.out with h | ⟨_, h, _⟩
                  · exact h.2
                  · omega
                subst hsk0
                have d1 : decide ((-1 : Int) < (k : Int)) = true := by simp; omega
                rw [show (((0 : Nat) : Int) - 1) = -1 by omega]
                go_wp2_with fail
                refine (missed_any A ca l (-1) pk wr (Hl.out.below HBa.out) (by omega)).mono ?_
                rintro e w5 ⟨v, rfl, rfl, hq5⟩
                have HB5 : Hid (Below w1.heap.size w1 w5) := Lib.hid (by obtain ⟨q, rfl⟩ := hq5; exact below_drewN HB.out _)
                have Hro5 : Hid (IntRow w5 w1.heap.size w1.heap.size S) := Lib.hid (by obtain ⟨q, rfl⟩ := hq5; exact Hro.out.drewN q)
                have hst := MinPath.start HG.out hkT
                rw [hpk] at hst
                clear hq5 c0 f0
                have c0 := Hro5.out.cell (j := k) (by omega)
                have f0 := Hro5.out.frozen k
                rw [hsk] at c0
                cases hm : missB l (-1) pk with
                | true =>
                  rw [hm] at hst
                  simp only [if_true] at hst
                  have HS := Lib.hid hst
                  have HSK := Lib.hid hsk
                  clear hm hst hsk hpk
                  go_wp2
                  go_roundw
                  case rel => exact ⟨1, S, by omega, by go_num, Hro5.out, HRU, .inr ⟨0, rfl, by rw [HSK.out]; exact HS.out⟩, HB5.out⟩
                  case measure => simp [intOf]
                | false =>
                  rw [hm] at hst
                  simp only [Bool.false_eq_true, if_false] at hst
                  have HS := Lib.hid hst
                  have HSK := Lib.hid hsk
                  clear hm hst hsk hpk
                  go_wp2
                  go_roundw
                  case rel => exact ⟨1, S.set k 1, by omega, by go_num, Hro5.out.set k 1, HRU.out.set (Nat.le_refl _) _, .inr ⟨0, rfl, by rw [set_getD (by omega)]; exact HS.out⟩, HB5.out.setCell (Nat.le_refl _) _⟩
                  case measure => simp [intOf]
              · have hM : MinPath l T k J' sk := by
                  rcases HM.out with h | ⟨J'', h, h2⟩
                  · exact absurd h.1 (by omega)
                  · obtain rfl : J'' = J' := by omega
                    exact h2
                have hJk' : J' < k := by omega
                have hsj := HRU.out.2 J' hJk'
                have hJT : J' < T.length := by omega
                obtain ⟨bp', op', hbp', p2⟩ := IntsAt.at_ (HI.out.below HB.out) hJT
                cases hbp'
                have hpj : T.getD J' 0 = T[J'] := by simp [List.getD_eq_getElem?_getD, hJT]
                have c2 := Hro.out.cell (j := J') (by omega)
                have hnx := hM.next HPR.out hJk' hkT hsj
                rw [hpk, hpj] at hnx
                generalize hpv : T[J'] = pj at p2 hpj hnx
                clear hpv
                generalize hsjj : S.getD J' 0 = sj at c2 hsj hnx
                have hsjb := hsj.2.1
                have hskb := hM.2.1
                have hws : IntKind.i64.wrap (sj + 1) = sj + 1 := IntWalk.i64_in _ (by omega)
                have Hnx := Lib.hid hnx
                have HSK := Lib.hid hsk
                rw [show (((J' + 1 : Nat) : Int) - 1) = (J' : Int) by omega]
                have d1 : decide ((J' : Int) < (k : Int)) = true := by simp; omega
                have d2 : decide ((0 : Int) ≤ (J' : Int)) = true := by simp
                have hJn : J' < n := by omega
                clear hnx hM hsj hsjj hpj hsk hpk HM
                go_wp2
                refine wp_region_quiet_lit (by kernel_rfl) (by kernel_rfl) ?_
                repeat (any_goals (first | go_big_quiet_step (fail) | quiet_step (fail) | (refine wpQuiet_step (fun K hK => ?_); go_simp; split <;> (refine hK _ ?_; clear hK K))))
                all_goals (refine wpQuiet_nil ?_; intro _ hw'; obtain ⟨nq, hw''⟩ := hw'; subst hw'')
                go_wp2_with fail
                refine (missed_any A ca l pj pk (wr.drewN nq) ((Hl.out.below HBa.out).drewN nq) (by omega)).mono ?_
                rintro e w5 ⟨v, rfl, rfl, hq5⟩
                have HB5 : Hid (Below w1.heap.size w1 w5) := Lib.hid (by obtain ⟨q, rfl⟩ := hq5; exact below_drewN (below_drewN HB.out _) _)
                have Hro5 : Hid (IntRow w5 w1.heap.size w1.heap.size S) := Lib.hid (by obtain ⟨q, rfl⟩ := hq5; exact (Hro.out.drewN nq).drewN q)
                clear hq5 c0 f0 c2 p1 p2
                have c0 := Hro5.out.cell (j := k) (by omega)
                have f0 := Hro5.out.frozen k
                rw [HSK.out] at c0
                cases hm : missB l pj pk with
                | true =>
                  have hst := Hnx.out
                  rw [hm] at hst
                  simp only [if_true] at hst
                  have HS := Lib.hid hst
                  clear hm hst Hnx
                  go_wp2
                  go_roundw
                  case rel => exact ⟨J' + 1 + 1, S, by omega, by go_num, Hro5.out, HRU, .inr ⟨J' + 1, rfl, by rw [HSK.out]; exact HS.out⟩, HB5.out⟩
                  case measure => simp [intOf]; omega
                | false =>
                  have hst := Hnx.out
                  rw [hm] at hst
                  simp only [Bool.false_eq_true, if_false] at hst
                  have HS := Lib.hid hst
                  clear hm hst Hnx
                  go_wp2
                  go_roundw
                  case rel => exact ⟨J' + 1 + 1, S.set k (min sk (sj + 1)), by omega, by go_num, Hro5.out.set k _, HRU.out.set (Nat.le_refl _) _, .inr ⟨J' + 1, rfl, by rw [set_getD (by omega)]; exact HS.out⟩, HB5.out.setCell (Nat.le_refl _) _⟩
                  case measure => simp [intOf]; omega
            · obtain rfl : J = k + 1 := by omega
              have hM : MinPath l T k k sk := by
                rcases HM.out with h | ⟨J'', h, h2⟩
                · exact absurd h.1 (by omega)
                · obtain rfl : J'' = k := by omega
                  exact h2
              have hbw := HBW.out.next hM
              rw [hpk] at hbw
              have HBN := Lib.hid hbw
              have HRN := Lib.hid (HRU.out.more (by rw [hsk]; exact hM))
              have hskb := hM.2.1
              have HSK := Lib.hid hsk
              have d1 : decide ((k : Int) < (k : Int)) = false := by simp
              rw [show (((k + 1 : Nat) : Int) - 1) = (k : Int) by omega]
              clear hbw hM hsk hpk HM
              go_wp2_with fail
              refine (missed_any A ca l pk 10001 wr (Hl.out.below HBa.out) (by omega)).mono ?_
              rintro e w5 ⟨v, rfl, rfl, hq5⟩
              have HB5 : Hid (Below w1.heap.size w1 w5) := Lib.hid (by obtain ⟨q, rfl⟩ := hq5; exact below_drewN HB.out _)
              have Hro5 : Hid (IntRow w5 w1.heap.size w1.heap.size S) := Lib.hid (by obtain ⟨q, rfl⟩ := hq5; exact Hro.out.drewN q)
              clear hq5 c0 f0 p1
              have c0 := Hro5.out.cell (j := k) (by omega)
              rw [HSK.out] at c0
              cases hm : missB l pk 10001 with
              | true =>
                have hst := HBN.out
                rw [hm] at hst
                simp only [if_true] at hst
                have HS := Lib.hid hst
                clear hm hst HBN
                go_wp2
                go_roundw
                case rel => exact ⟨k + 1, m, S, by omega, by go_num, rfl, Hro5.out, HRN, HS, HB5.out⟩
                case measure => simp [intOf]; omega
              | false =>
                have hst := HBN.out
                rw [hm] at hst
                simp only [Bool.false_eq_true, if_false] at hst
                have HS := Lib.hid hst
                clear hm hst HBN
                go_wp2
                go_roundw
                case rel => exact ⟨k + 1, min m sk, S, by omega, by go_num, rfl, Hro5.out, HRN, HS, HB5.out⟩
                case measure => simp [intOf]; omega
        · have hkl : k = n := by omega
          subst hkl
          have hw : WithoutIs l (r1, r2) m := fun n hn => by
            have hb := HBW.out
            rw [HNN.out, HT.out] at hb
            exact without_law HG.out hn1 hb hn
          have HW := Lib.hid hw
          clear hw
          go_wp2
          go_ret
          exact Ret.mk' rfl ⟨⟨m, rfl, HW.out⟩, below_trans' HB1.out HB.out⟩
end Go.Proofs.Ytkjmeeggjmeajaa
