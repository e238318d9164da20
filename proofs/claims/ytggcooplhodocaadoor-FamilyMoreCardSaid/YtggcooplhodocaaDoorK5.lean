/- slices.Concat of two pieces; the sum of chosen steps' changes. slices.Concat of two pieces. prune: chosen steps are dropped that are not needed. The changes of a list of steps. grown: a tree, its wood, or an error. grown. Cheapest. A map under a range that takes the noughts out of it. math/bits.TrailingZeros at this seat. -/
import Derived.Test.YtggcooplhodocaaDoorK4
import Derived.Lib.AppendZeros
import Derived.Test.YtggcooplhodocaaDoorP0
import Derived.Laws.CopyOwn
import Derived.Shelf.Spec.TrailingZeros
namespace Go.Proofs.YtggcooplhodocaaDoor
open Go.RowKit Go.Shelf Go.Maps Fam

theorem zeros_row (n : Nat) (h0 : 0 < n) (hn : n ≤ 100000) (w : World) : ∃ g cap w2, (Builtin.append_ #[25, 3] 25 #[.slice none 0 0, .int .i64 (n : Nat)]).run Tryd.prog w = .ok (.slice (some ⟨g, 0, none⟩) n cap) w2 ∧ n ≤ cap ∧ cap ≤ maxLen ∧
    w2.ownsRow w.heap.size 3 1 (.slice (some ⟨g, 0, none⟩) 0 cap) 0 [] ∧ Below w.heap.size w w2 := by
  obtain ⟨i0, hi, hz0, hz1, hz2⟩ := info_parts elemI.info
  have hr := Lib.run_append_nil_zeros (P := Tryd.prog) w 25 3 25 3 i0 (.int .i64 0) .i64 .i64 Tryd.underlying25 Tryd.underlying3 hi hz0 n (by omega) (by omega) (by omega) (by rw [hz2]; omega)
  have hc1 := grownCap_ge w n 0 3
  have hc2 := grownCap_le_maxLen w n 0 3 (by unfold maxLen; omega)
  refine ⟨_, _, _, hr, hc1, hc2, ⟨rfl, .inr ⟨w.heap.size, _, _, rfl, Nat.le_refl _, heap_alloc_new w.drew _, Nat.zero_le _, hc2, ?_, rfl⟩⟩, below_alloc' (Below.refl _ _).drew _⟩
  rw [Array.size_append, size_zeroCells, size_zeroCells]
  show n * 1 + _ * 1 = _ * 1
  omega
set_option maxRecDepth 20000 in
set_option maxHeartbeats 1000000 in
theorem sgrow_any (n : Nat) (hn : n ≤ 100000) (w : World) :
    Calls Tryd.prog 85 #[.slice none 0 0, .int .i64 (n : Nat)] w (Ret fun v w' => w'.ownsRow w.heap.size 3 1 v 0 [] ∧ Below w.heap.size w w') := by
  by_cases h0 : n = 0
  · subst h0
    go_enter Tryd.func85, Tryd.ntmps85
    go_wp2
    go_ret
    exact Ret.mk ⟨World.ownsRow_nil w _ _ _, Below.refl _ _⟩
  · obtain ⟨g, cap, w2, hr, hc1, hc2, hown, hb⟩ := zeros_row n (by omega) hn w
    have HO := Lib.hid hown
    have HB := Lib.hid hb
    have d1 : decide ((n : Int) < 0) = false := by rw [decide_eq_false_iff_not]; omega
    have d2 : decide ((0 : Int) < (n : Int)) = true := by rw [decide_eq_true_eq]; omega
    have hc3 : cap ≤ 9223372036854775807 := hc2
    clear hown hb hc2
    go_enter Tryd.func85, Tryd.ntmps85
    go_wp2_with (at_builtin; refine Lib.wpList_append_run _ rfl _ _ _ _ rfl _ _ rfl rfl _ _ hr ?_)
    go_ret
    exact Ret.mk ⟨HO.out, HB.out⟩
end Go.Proofs.YtggcooplhodocaaDoor

namespace Go.Proofs.YtggcooplhodocaaDoor
open Go.RowKit Go.Shelf Go.Maps Fam

theorem oneFlat {α : Type} {enc : α → List Value} (h : ∀ x, ∀ u ∈ enc x, u.oneCell' = true) (l : List α) : ∀ u ∈ l.flatMap enc, u.oneCell' = true := fun u hu => by
  obtain ⟨x, _, hx⟩ := List.mem_flatMap.1 hu
  exact h x u hx
set_option maxRecDepth 100000 in
set_option maxHeartbeats 4000000 in
theorem concat_any (b : Nat) (a1 a2 : Addr) (c1 c2 : Nat) (l1 l2 : List Int) (w : World) (hX : w.heap[b]? = some (.cells #[.slice (some a1) l1.length c1, .slice (some a2) l2.length c2] 25 (0, 0))) (h1 : IntsAt w (some a1) l1) (h2 : IntsAt w (some a2) l2) (hn : l1.length + l2.length ≤ 100000) :
    Calls Tryd.prog 68 #[.slice (some ⟨b, 0, none⟩) 2 2] w (Ret fun v w' => w'.ownsRow w.heap.size 3 1 v (l1 ++ l2).length ((l1 ++ l2).flatMap encI) ∧ Below w.heap.size w w') := by
  have y0 : w.cell? ⟨b, 0, none⟩ = some (.slice (some a1) l1.length c1) := (blk_cell hX).trans rfl
  have y1 : w.cell? ⟨b, 1, none⟩ = some (.slice (some a2) l2.length c2) := (blk_cell hX).trans rfl
  have H1 := Lib.hid h1
  have H2 := Lib.hid h2
  obtain ⟨i0, hi, hz0, hz1, hz2⟩ := info_parts elemI.info
  obtain ⟨n1, hn1⟩ : ∃ n1, l1.length = n1 := ⟨_, rfl⟩
  obtain ⟨n2, hn2⟩ : ∃ n2, l2.length = n2 := ⟨_, rfl⟩
  rw [hn1] at y0 hn
  rw [hn2] at y1 hn
  have HN1 := Lib.hid hn1
  have HN2 := Lib.hid hn2
  clear hX h1 h2 hn1 hn2
  go_enter Tryd.func68, Tryd.ntmps68
  have Hs := Lib.hid (sgrow_any (n1 + n2) hn w)
  go_wp2
  go_loopw [3, 11] (fun s i wr => ∃ k : Nat, k ≤ 2 ∧ i = .int .i64 k ∧ s = .int .i64 (if k = 0 then 0 else if k = 1 then n1 else n1 + n2 : Nat) ∧ wr = w) (fun s i _ => 2 - (intOf i).toNat)
  case atStart => exact ⟨0, by omega, rfl, rfl, rfl⟩
  case round =>
    obtain ⟨k, hk, rfl, rfl, hw⟩ := hrel
    subst wr
    obtain rfl | rfl | rfl : k = 0 ∨ k = 1 ∨ k = 2 := by omega
    · have d1 : decide ((n1 : Int) < 0) = false := by rw [decide_eq_false_iff_not]; omega
      simp only [if_pos]
      go_wp2
      go_roundw
      case rel => exact ⟨1, by omega, by go_num, by simp, trivial⟩
      case measure => simp [intOf]
    · have d1 : decide ((n1 : Int) + (n2 : Int) < 0) = false := by rw [decide_eq_false_iff_not]; omega
      rw [if_neg (by omega), if_pos rfl]
      go_wp2
      go_roundw
      case rel => exact ⟨2, by omega, by go_num, by simp, trivial⟩
      case measure => simp [intOf]
    · rw [if_neg (by omega), if_neg (by omega)]
      go_wp2_with fail
      refine Hs.out.mono ?_
      rintro e w2 ⟨v, rfl, hO, hB⟩
      have HO := Lib.hid hO
      have HB := Lib.hid hB
      clear hO hB Hs
      have z0 := cell_below HB.out y0
      have z1 := cell_below HB.out y1
      clear z0 z1
      go_wp2
      go_loopw [6, 27] (fun t i w2 => ∃ (k : Nat) (v : Value), k ≤ 2 ∧ i = .int .i64 k ∧ t = v ∧ Hid (w2.ownsRow w.heap.size 3 1 v (if k = 0 then [] else if k = 1 then l1 else l1 ++ l2).length ((if k = 0 then [] else if k = 1 then l1 else l1 ++ l2).flatMap encI)) ∧ Hid (Below w.heap.size w w2)) (fun t i _ => 2 - (intOf i).toNat)
      case atStart => exact ⟨0, _, by omega, rfl, rfl, HO, HB⟩
      case round =>
        clear HO HB
        obtain ⟨k, v, hk2, rfl, rfl, HO2, HB2⟩ := hrel
        have z0 := cell_below HB2.out y0
        have z1 := cell_below HB2.out y1
        obtain rfl | rfl | rfl : k = 0 ∨ k = 1 ∨ k = 2 := by omega
        · rw [if_pos rfl] at HO2
          have hr9 := own_base HO2.out
          go_wp2_with (at_builtin; refine wpList_append_own _ rfl (.tmp 31) (.tmp 32) 25 rfl w.heap.size 3 i0 (.int .i64 0) 1 8 Tryd.underlying25 hi hz0 hz1 hz2 rfl (by omega) u6 0 (([] : List Int).flatMap encI) rfl HO2.out a1 n1 c1 (l1.flatMap encI) rfl (by rw [flatMap_len encI_len, HN1.out, Nat.mul_one]) (RowsAt.olds encI_len (IntsAt.below H1.out HB2.out) _ rfl) (oneFlat oneI l1) (by unfold maxLen; omega) (by omega) HB2.out.size ?_; intro v9 w9 hown9 hg9 hz9)
          have HB9 := Lib.hid (HB2.out.grown hg9 HB2.out.size (fun r e => hr9 r e))
          have HO9 : Hid (w9.ownsRow w.heap.size 3 1 v9 l1.length (l1.flatMap encI)) := Lib.hid (by rw [HN1.out]; simpa using hown9)
          clear hown9 hg9 hz9 hr9 HO2 HB2 z0 z1
          go_roundw
          case rel => exact ⟨1, _, by omega, by go_num, rfl, HO9, HB9⟩
          case measure => simp [intOf]
        · rw [if_neg (by omega), if_pos rfl] at HO2
          have hr9 := own_base HO2.out
          have HO3 := HO2.out
          rw [HN1.out] at HO3
          have HO4 := Lib.hid HO3
          clear HO3
          go_wp2_with (at_builtin; refine wpList_append_own _ rfl (.tmp 31) (.tmp 32) 25 rfl w.heap.size 3 i0 (.int .i64 0) 1 8 Tryd.underlying25 hi hz0 hz1 hz2 rfl (by omega) u6 n1 (l1.flatMap encI) rfl HO4.out a2 n2 c2 (l2.flatMap encI) rfl (by rw [flatMap_len encI_len, HN2.out, Nat.mul_one]) (RowsAt.olds encI_len (IntsAt.below H2.out HB2.out) _ rfl) (oneFlat oneI l2) (by unfold maxLen; omega) (by omega) HB2.out.size ?_; intro v9 w9 hown9 hg9 hz9)
          have HB9 := Lib.hid (HB2.out.grown hg9 HB2.out.size (fun r e => hr9 r e))
          have HO9 : Hid (w9.ownsRow w.heap.size 3 1 v9 (l1 ++ l2).length ((l1 ++ l2).flatMap encI)) := Lib.hid (by rw [List.length_append, HN1.out, HN2.out, List.flatMap_append]; exact hown9)
          clear hown9 hg9 hz9 hr9 HO2 HO4 HB2 z0 z1
          go_roundw
          case rel => exact ⟨2, _, by omega, by go_num, rfl, HO9, HB9⟩
          case measure => simp [intOf]
        · rw [if_neg (by omega), if_neg (by omega)] at HO2
          clear z0 z1
          go_wp2
          go_ret
          exact Ret.mk ⟨HO2.out, HB2.out⟩
end Go.Proofs.YtggcooplhodocaaDoor

namespace Go.Proofs.YtggcooplhodocaaDoor
open Go.RowKit Go.Shelf Go.Maps Fam

theorem IntsAt.take {w : World} {A : Option Addr} {l : List Int} (h : IntsAt w A l) (k : Nat) : IntsAt w A (l.take k) := fun i hi => by
  rw [List.length_take] at hi
  obtain ⟨b, off, e, hc⟩ := h i (by omega)
  exact ⟨b, off, e, fun j v hj => hc j v (by rw [List.getElem_take] at hj; exact hj)⟩
theorem IntsAt.drop {w : World} {b off : Nat} {l : List Int} (h : IntsAt w (some ⟨b, off, none⟩) l) (k : Nat) : IntsAt w (some ⟨b, off + k, none⟩) (l.drop k) := fun i hi => by
  rw [List.length_drop] at hi
  obtain ⟨b', off', e, hc⟩ := h (k + i) (by omega)
  injection e with e
  injection e with e1 e2
  subst e1 e2
  exact ⟨b, off + k, rfl, fun j v hj => by
    rw [List.getElem_drop] at hj
    have := hc j v hj
    rw [show off + k + i * 1 + j = off + (k + i) * 1 + j by omega]
    exact this⟩
theorem castL_app (l m : List Nat) : castL (l ++ m) = castL l ++ castL m := by unfold castL; simp
theorem castL_take (l : List Nat) (k : Nat) : castL (l.take k) = (castL l).take k := by unfold castL; simp

set_option maxRecDepth 100000 in
set_option maxHeartbeats 8000000 in
theorem prune_any (S R : Int) (A B : Option Addr) (ca cb wb mb : Nat) (u : Value) (l : List St) (F : List Nat) (w : World) (hX : w.heap[wb]? = some (woodC S R A l.length ca u mb)) (hl : StepsAt w A l) (hs : IntsAt w B (castL F)) (hst : ∀ i ∈ F, i < l.length) (hlen : F.length ≤ 100000) (hcb : F.length ≤ cb) (hcb2 : cb ≤ 9223372036854775807) (hok : BookOk S R l) :
    Calls Tryd.prog 59 #[.pointer (some ⟨wb, 0, none⟩), .slice B F.length cb] w (Ret fun v w' => (∃ K C c, v = .slice C K.length c ∧ K.length ≤ c ∧ c ≤ 9223372036854775807 ∧ Pruned (netB S R l) F 0 K ∧ IntsAt w' C (castL K) ∧ (∀ a, C = some a → C = B ∨ w.heap.size ≤ a.block)) ∧ Below w.heap.size w w') := by
  have HX := Lib.hid hX; clear hX
  have Hl := Lib.hid hl; clear hl
  have Hst := Lib.hid hst; clear hst
  have HK := Lib.hid hok; clear hok
  have H0 := Lib.hid hs; clear hs
  go_enter Tryd.func59, Tryd.ntmps59
  go_wp2
  go_loopw [1, 6] (fun t1 t6 wr => ∃ (i : Nat) (Kl : List Nat) (C : Option Addr) (c : Nat), i ≤ F.length ∧ t6 = .int .i64 ((i : Int) - 1) ∧ t1 = .slice C (i + Kl.length) c ∧ i + Kl.length ≤ F.length ∧ i + Kl.length ≤ c ∧ c ≤ 9223372036854775807 ∧ Hid (Pruned (netB S R l) F i Kl) ∧ Hid (IntsAt wr C (castL (F.take i ++ Kl))) ∧ Hid (Below w.heap.size w wr) ∧ Hid (∀ a, C = some a → C = B ∨ w.heap.size ≤ a.block)) (fun t1 t6 _ => (intOf t6 + 1).toNat)
  case atStart => exact ⟨F.length, [], B, cb, by omega, by go_num, by simp, by simp, by simpa using hcb, hcb2, Lib.hid .start, Lib.hid (by rw [List.take_length, List.append_nil]; exact H0.out), Lib.hid (Below.refl _ _), Lib.hid fun _ _ => .inl rfl⟩
  case round =>
    obtain ⟨i, Kl, C, c, hi, rfl, rfl, hiK, hc, hc2, HP, HI, HB, HCo⟩ := hrel
    by_cases h0 : i = 0
    · subst h0
      rw [List.take_zero, List.nil_append] at HI
      rw [Nat.zero_add] at hc ⊢
      go_wp2
      go_ret
      exact Ret.mk ⟨⟨Kl, C, c, rfl, hc, hc2, HP.out, HI.out, HCo.out⟩, HB.out⟩
    · obtain ⟨j, rfl⟩ : ∃ j, i = j + 1 := ⟨i - 1, by omega⟩
      clear h0
      obtain ⟨b, off, rfl, _⟩ := HI.out 0 (by rw [castL_len, List.length_append, List.length_take]; omega)
      have hj : j < F.length := by omega
      have e0 : (((j + 1 : Nat) : Int) - 1) = (j : Int) := by omega
      rw [e0]
      have HI1 : Hid (IntsAt wr (some ⟨b, off, none⟩) (castL (F.take j))) := Lib.hid (by
        have h := IntsAt.take HI.out j
        rw [← castL_take, List.take_append_of_le_length (by rw [List.length_take]; omega), List.take_take, Nat.min_eq_left (by omega)] at h
        exact h)
      have HI2 : Hid (IntsAt wr (some ⟨b, off + (j + 1), none⟩) (castL Kl)) := Lib.hid (by
        have h := IntsAt.drop HI.out (j + 1)
        rw [castL_app, List.drop_append_of_le_length (by rw [castL_len, List.length_take]; omega), List.drop_of_length_le (by rw [castL_len, List.length_take]; omega), List.nil_append] at h
        exact h)
      have hl1 : (castL (F.take j)).length = j := by rw [castL_len, List.length_take]; omega
      have hl2 := castL_len Kl
      obtain ⟨k, hk⟩ : ∃ k, Kl.length = k := ⟨_, rfl⟩
      rw [hk] at hc hl2 hiK ⊢
      have HKl := Lib.hid hk
      clear hk e0
      have hLn : (F.take j ++ Kl).length = j + k := by rw [List.length_append, List.length_take, HKl.out]; omega
      have hSt : ∀ x ∈ F.take j ++ Kl, x < l.length := fun x hx => by
        rcases List.mem_append.1 hx with h | h
        · exact Hst.out x (List.mem_of_mem_take h)
        · obtain ⟨j', _, e⟩ := HP.out.mem x h
          exact Hst.out x (List.mem_of_getElem? e)
      have HSt := Lib.hid hSt
      have HPd := Lib.hid (fun h => HP.out.drop hj h)
      have HPk := Lib.hid (fun h => HP.out.keep (f := F[j]) (List.getElem?_eq_getElem hj) h)
      have hTs := take_snoc hj rfl
      have HIk : Hid (IntsAt wr (some ⟨b, off, none⟩) (castL (F.take j ++ F[j] :: Kl))) := Lib.hid (by
        have h := HI.out
        rw [hTs, List.append_assoc, List.singleton_append] at h
        exact h)
      clear hSt hTs
      go_upto_region 5 with fail
      have q1 : (j : Int) ≤ (j : Int) + 1 := by omega
      have q2 : IntKind.i64.wrap ((j : Int) + 1) = (j : Int) + 1 := IntWalk.i64_in _ (by omega)
      have q3 : j ≤ c := by omega
      have q4 : (j : Int) + 1 ≤ (j : Int) + 1 + (k : Int) := by omega
      have q5 : ((j : Int) + 1).toNat = j + 1 := by omega
      have q6 : (0 : Int) ≤ (j : Int) + 1 := by omega
      have q7 : j + 1 + k - (j + 1) = k := by omega
      have q8 : j + 1 + k ≤ c := by omega
      by_cases hcap : c = j + 1
      · obtain rfl : k = 0 := by omega
        subst c
        have hnb := heap_alloc_new wr (.cells #[.slice (some ⟨b, off, none⟩) j (j + 1), .slice (some ⟨b, off, none⟩) 0 0] 25)
        have HXb : Hid ((wr.alloc (.cells #[.slice (some ⟨b, off, none⟩) j (j + 1), .slice (some ⟨b, off, none⟩) 0 0] 25)).drew.heap[wr.heap.size]? = some (.cells #[.slice (some ⟨b, off, none⟩) (castL (F.take j)).length (j + 1), .slice (some ⟨b, off, none⟩) (castL Kl).length 0] 25 (0, 0))) := Lib.hid (by rw [hl1, hl2]; exact hnb)
        have hba : Below wr.heap.size wr (wr.alloc (.cells #[.slice (some ⟨b, off, none⟩) j (j + 1), .slice (some ⟨b, off, none⟩) 0 0] 25)).drew := (below_alloc' (Below.refl _ _) _).drew
        have HBv := Lib.hid hba
        have HJ1 := Lib.hid (HI1.out.below hba)
        have HJ2 : Hid (IntsAt (wr.alloc (.cells #[.slice (some ⟨b, off, none⟩) j (j + 1), .slice (some ⟨b, off, none⟩) 0 0] 25)).drew (some ⟨b, off, none⟩) (castL Kl)) := Lib.hid (fun i hi => absurd hi (by omega))
        clear hnb hba
        refine wp_region_held (S := fun W => True) (by kernel_rfl) ?_
        refine wpAnyH_take (i := 0) (v := ?_) rfl (by kernel_rfl) (by kernel_rfl) (by kernel_rfl) (fun _ _ _ h => h) (Or.inl ⟨by rfl, ?_⟩) trivial ?_
        rotate_left 1
        · intro W hW; obtain - := hW; go_simp <;> with_reducible rfl
        refine wpAnyH_take (i := 1) (v := ?_) rfl (by kernel_rfl) (by kernel_rfl) (by kernel_rfl) (fun _ _ _ h => h) (Or.inl ⟨by rfl, ?_⟩) trivial ?_
        rotate_left 1
        · intro W hW; obtain - := hW; go_simp <;> with_reducible rfl
        refine wpAnyH_take (i := 2) (v := ?_) rfl (by kernel_rfl) (by kernel_rfl) (by kernel_rfl) (fun _ _ _ h => h) (Or.inl ⟨by rfl, ?_⟩) trivial ?_
        rotate_left 1
        · intro W hW; obtain - := hW; go_simp <;> with_reducible rfl
        refine wpAnyH_take (i := 3) (v := ?_) rfl (by kernel_rfl) (by kernel_rfl) (by kernel_rfl) (fun _ _ _ h => h) (Or.inl ⟨by rfl, ?_⟩) trivial ?_
        rotate_left 1
        · intro W hW; obtain - := hW; go_simp <;> with_reducible rfl
        refine wpAnyH_take (i := 4) (v := ?_) rfl (by kernel_rfl) (by kernel_rfl) (by kernel_rfl) (fun _ _ _ h => h) (Or.inl ⟨by rfl, ?_⟩) trivial ?_
        rotate_left 1
        · intro W hW; obtain - := hW; go_simp <;> with_reducible rfl
        refine wpAnyH_take (i := 5) (v := ?_) rfl (by kernel_rfl) (by kernel_rfl) (by kernel_rfl) (fun _ _ _ h => h) (Or.inl ⟨by rfl, ?_⟩) trivial ?_
        rotate_left 1
        · intro W hW; obtain - := hW; go_simp <;> with_reducible rfl
        refine wpAnyH_take (i := 6) (v := ?_) rfl (by kernel_rfl) (by kernel_rfl) (by kernel_rfl) (fun _ _ _ h => h) (Or.inl ⟨by rfl, ?_⟩) trivial ?_
        rotate_left 1
        · intro W hW; obtain - := hW; go_simp <;> with_reducible rfl
        simp only [Act.put, List.setIfInBounds_toArray]
        refine wpAnyH_ready (rs := [7]) (by kernel_rfl) (by simp) ?_
        refine AllReadyH.cons rfl (fun K9 hK9 => ?_) AllReadyH.nil
        go_simp
        refine hK9 _ _ trivial (fun _ => ?_)
        clear hK9 K9
        generalize (wr.alloc (Obj.cells #[Value.slice (some ⟨b, off, none⟩) j (j + 1), Value.slice (some ⟨b, off, none⟩) 0 0] 25)).drew = V7 at *
        have hV7 := HBv.out.size
        have hW7 := HB.out.size
        refine wpAnyH_ready (rs := [8]) (by kernel_rfl) (by simp) ?_
        refine AllReadyH.cons rfl (fun K hK => ?_) AllReadyH.nil
        go_simp
        refine (concat_any wr.heap.size ⟨b, off, none⟩ ⟨b, off, none⟩ (j + 1) 0 (castL (F.take j)) (castL Kl) V7 HXb.out HJ1.out HJ2.out (by rw [hl1, hl2]; omega)).mono ?_
        rintro e V8 ⟨v, rfl, hO, hb⟩
        replace HBv := Lib.hid (below_trans' HBv.out hb)
        clear hb
        refine hK.out _ _ trivial (fun _ => ?_)
        clear hK K
        refine wpAnyH_take (i := 9) (v := ?_) rfl (by kernel_rfl) (by kernel_rfl) (by kernel_rfl) (fun _ _ _ h => h) (Or.inl ⟨by rfl, ?_⟩) trivial ?_
        rotate_left 1
        · intro W hW; obtain - := hW; go_simp <;> with_reducible rfl
        simp only [Act.put, List.setIfInBounds_toArray]
        refine wpAnyH_done (by kernel_rfl) ?_ _
        obtain ⟨G9, c9, rfl, hc9⟩ := own_form hO
        have hcc9 := own_cap hO
        have hob := own_base hO
        have HGo : Hid (∀ a, G9 = some a → G9 = B ∨ w.heap.size ≤ a.block) := Lib.hid fun a e => .inr (by have := hob a.block (by rw [e]; rfl); omega)
        clear hob hV7 hW7
        have hL9 : (castL (F.take j) ++ castL Kl).length = j + 0 := by rw [List.length_append, hl1, hl2]
        have HI9 : Hid (IntsAt V8 G9 (castL (F.take j ++ Kl))) := Lib.hid (by rw [castL_app]; exact RowsAt.of_own encI_len hO)
        rw [hL9] at hc9 ⊢
        have HB8 := Lib.hid (below_trans' HB.out HBv.out)
        have HIk8 := Lib.hid (IntsAt.below HIk.out HBv.out)
        have hf := full_any S R A G9 ca c9 wb mb u l (F.take j ++ Kl) V8 (blk_below HB8.out HX.out) (Hl.out.below HB8.out) HI9.out HSt.out (by rw [hLn]; omega) HK.out
        rw [hLn] at hf
        have Hf := Lib.hid hf
        clear hf hO HXb HJ1 HJ2 HBv HI1 HI2 HIk HB hL9
        go_simp
        try (go_wp2_with fail)
        refine Hf.out.mono ?_
        rintro e V9 ⟨v, rfl, rfl, hb9⟩
        have HB9 := Lib.hid (below_trans' HB8.out hb9)
        have HI10 := Lib.hid (IntsAt.below HI9.out hb9)
        have HIk9 := Lib.hid (IntsAt.below HIk8.out hb9)
        clear hb9 HB8 HI9 HIk8 Hf
        cases hq : fullB (netB S R l) (F.take j ++ Kl)
        · have HPn := Lib.hid (HPk.out (fullB_no.1 hq))
          clear hq HPk HPd
          go_wp2
          go_roundw
          case rel => exact ⟨j, F[j] :: Kl, _, _, by omega, by go_num, by rw [List.length_cons, HKl.out]; try first | rfl | (congr 1; omega), by rw [List.length_cons, HKl.out]; omega, by rw [List.length_cons, HKl.out]; omega, hc2, HPn, HIk9, HB9, HCo⟩
          case measure => simp [intOf] <;> omega
        · have HPn := Lib.hid (HPd.out (fullB_iff.1 hq))
          clear hq HPk HPd
          go_wp2
          go_roundw
          case rel => exact ⟨j, Kl, _, _, by omega, by go_num, by (rw [HKl.out]; try rfl), by rw [HKl.out]; omega, by rw [HKl.out]; omega, hcc9, HPn, HI10, HB9, HGo⟩
          case measure => simp [intOf] <;> omega
      · have hcp : ¬ (j + 1 = c) := fun e => hcap e.symm
        have hnb := heap_alloc_new wr (.cells #[.slice (some ⟨b, off, none⟩) j c, .slice (some ⟨b, off + (j + 1), none⟩) k (c - (j + 1))] 25)
        have HXb : Hid ((wr.alloc (.cells #[.slice (some ⟨b, off, none⟩) j c, .slice (some ⟨b, off + (j + 1), none⟩) k (c - (j + 1))] 25)).drew.heap[wr.heap.size]? = some (.cells #[.slice (some ⟨b, off, none⟩) (castL (F.take j)).length c, .slice (some ⟨b, off + (j + 1), none⟩) (castL Kl).length (c - (j + 1))] 25 (0, 0))) := Lib.hid (by rw [hl1, hl2]; exact hnb)
        have hba : Below wr.heap.size wr (wr.alloc (.cells #[.slice (some ⟨b, off, none⟩) j c, .slice (some ⟨b, off + (j + 1), none⟩) k (c - (j + 1))] 25)).drew := (below_alloc' (Below.refl _ _) _).drew
        have HBv := Lib.hid hba
        have HJ1 := Lib.hid (HI1.out.below hba)
        have HJ2 : Hid (IntsAt (wr.alloc (.cells #[.slice (some ⟨b, off, none⟩) j c, .slice (some ⟨b, off + (j + 1), none⟩) k (c - (j + 1))] 25)).drew (some ⟨b, off + (j + 1), none⟩) (castL Kl)) := Lib.hid (HI2.out.below hba)
        clear hnb hba
        refine wp_region_held (S := fun W => True) (by kernel_rfl) ?_
        refine wpAnyH_take (i := 0) (v := ?_) rfl (by kernel_rfl) (by kernel_rfl) (by kernel_rfl) (fun _ _ _ h => h) (Or.inl ⟨by rfl, ?_⟩) trivial ?_
        rotate_left 1
        · intro W hW; obtain - := hW; go_simp <;> with_reducible rfl
        refine wpAnyH_take (i := 1) (v := ?_) rfl (by kernel_rfl) (by kernel_rfl) (by kernel_rfl) (fun _ _ _ h => h) (Or.inl ⟨by rfl, ?_⟩) trivial ?_
        rotate_left 1
        · intro W hW; obtain - := hW; go_simp <;> with_reducible rfl
        refine wpAnyH_take (i := 2) (v := ?_) rfl (by kernel_rfl) (by kernel_rfl) (by kernel_rfl) (fun _ _ _ h => h) (Or.inl ⟨by rfl, ?_⟩) trivial ?_
        rotate_left 1
        · intro W hW; obtain - := hW; go_simp <;> with_reducible rfl
        refine wpAnyH_take (i := 3) (v := ?_) rfl (by kernel_rfl) (by kernel_rfl) (by kernel_rfl) (fun _ _ _ h => h) (Or.inl ⟨by rfl, ?_⟩) trivial ?_
        rotate_left 1
        · intro W hW; obtain - := hW; go_simp <;> with_reducible rfl
        refine wpAnyH_take (i := 4) (v := ?_) rfl (by kernel_rfl) (by kernel_rfl) (by kernel_rfl) (fun _ _ _ h => h) (Or.inl ⟨by rfl, ?_⟩) trivial ?_
        rotate_left 1
        · intro W hW; obtain - := hW; go_simp <;> with_reducible rfl
        refine wpAnyH_take (i := 5) (v := ?_) rfl (by kernel_rfl) (by kernel_rfl) (by kernel_rfl) (fun _ _ _ h => h) (Or.inl ⟨by rfl, ?_⟩) trivial ?_
        rotate_left 1
        · intro W hW; obtain - := hW; go_simp <;> with_reducible rfl
        refine wpAnyH_take (i := 6) (v := ?_) rfl (by kernel_rfl) (by kernel_rfl) (by kernel_rfl) (fun _ _ _ h => h) (Or.inl ⟨by rfl, ?_⟩) trivial ?_
        rotate_left 1
        · intro W hW; obtain - := hW; go_simp <;> with_reducible rfl
        simp only [Act.put, List.setIfInBounds_toArray]
        refine wpAnyH_ready (rs := [7]) (by kernel_rfl) (by simp) ?_
        refine AllReadyH.cons rfl (fun K9 hK9 => ?_) AllReadyH.nil
        go_simp
        refine hK9 _ _ trivial (fun _ => ?_)
        clear hK9 K9
        generalize (wr.alloc (Obj.cells #[Value.slice (some ⟨b, off, none⟩) j c, .slice (some ⟨b, off + (j + 1), none⟩) k (c - (j + 1))] 25)).drew = V7 at *
        have hV7 := HBv.out.size
        have hW7 := HB.out.size
        refine wpAnyH_ready (rs := [8]) (by kernel_rfl) (by simp) ?_
        refine AllReadyH.cons rfl (fun K hK => ?_) AllReadyH.nil
        go_simp
        refine (concat_any wr.heap.size ⟨b, off, none⟩ ⟨b, off + (j + 1), none⟩ (c) (c - (j + 1)) (castL (F.take j)) (castL Kl) V7 HXb.out HJ1.out HJ2.out (by rw [hl1, hl2]; omega)).mono ?_
        rintro e V8 ⟨v, rfl, hO, hb⟩
        replace HBv := Lib.hid (below_trans' HBv.out hb)
        clear hb
        refine hK.out _ _ trivial (fun _ => ?_)
        clear hK K
        refine wpAnyH_take (i := 9) (v := ?_) rfl (by kernel_rfl) (by kernel_rfl) (by kernel_rfl) (fun _ _ _ h => h) (Or.inl ⟨by rfl, ?_⟩) trivial ?_
        rotate_left 1
        · intro W hW; obtain - := hW; go_simp <;> with_reducible rfl
        simp only [Act.put, List.setIfInBounds_toArray]
        refine wpAnyH_done (by kernel_rfl) ?_ _
        obtain ⟨G9, c9, rfl, hc9⟩ := own_form hO
        have hcc9 := own_cap hO
        have hob := own_base hO
        have HGo : Hid (∀ a, G9 = some a → G9 = B ∨ w.heap.size ≤ a.block) := Lib.hid fun a e => .inr (by have := hob a.block (by rw [e]; rfl); omega)
        clear hob hV7 hW7
        have hL9 : (castL (F.take j) ++ castL Kl).length = j + k := by rw [List.length_append, hl1, hl2]
        have HI9 : Hid (IntsAt V8 G9 (castL (F.take j ++ Kl))) := Lib.hid (by rw [castL_app]; exact RowsAt.of_own encI_len hO)
        rw [hL9] at hc9 ⊢
        have HB8 := Lib.hid (below_trans' HB.out HBv.out)
        have HIk8 := Lib.hid (IntsAt.below HIk.out HBv.out)
        have hf := full_any S R A G9 ca c9 wb mb u l (F.take j ++ Kl) V8 (blk_below HB8.out HX.out) (Hl.out.below HB8.out) HI9.out HSt.out (by rw [hLn]; omega) HK.out
        rw [hLn] at hf
        have Hf := Lib.hid hf
        clear hf hO HXb HJ1 HJ2 HBv HI1 HI2 HIk HB hL9
        go_simp
        try (go_wp2_with fail)
        refine Hf.out.mono ?_
        rintro e V9 ⟨v, rfl, rfl, hb9⟩
        have HB9 := Lib.hid (below_trans' HB8.out hb9)
        have HI10 := Lib.hid (IntsAt.below HI9.out hb9)
        have HIk9 := Lib.hid (IntsAt.below HIk8.out hb9)
        clear hb9 HB8 HI9 HIk8 Hf
        cases hq : fullB (netB S R l) (F.take j ++ Kl)
        · have HPn := Lib.hid (HPk.out (fullB_no.1 hq))
          clear hq HPk HPd
          go_wp2
          go_roundw
          case rel => exact ⟨j, F[j] :: Kl, _, _, by omega, by go_num, by rw [List.length_cons, HKl.out]; try first | rfl | (congr 1; omega), by rw [List.length_cons, HKl.out]; omega, by rw [List.length_cons, HKl.out]; omega, hc2, HPn, HIk9, HB9, HCo⟩
          case measure => simp [intOf] <;> omega
        · have HPn := Lib.hid (HPd.out (fullB_iff.1 hq))
          clear hq HPk HPd
          go_wp2
          go_roundw
          case rel => exact ⟨j, Kl, _, _, by omega, by go_num, by (rw [HKl.out]; try rfl), by rw [HKl.out]; omega, by rw [HKl.out]; omega, hcc9, HPn, HI10, HB9, HGo⟩
          case measure => simp [intOf] <;> omega
end Go.Proofs.YtggcooplhodocaaDoor

namespace Go.Proofs.YtggcooplhodocaaDoor
open Go.RowKit Go.Shelf Go.Maps Fam

/-- the changes of the named steps, those below 0 apart -/
def chgL (N : Net) (t : List Int) : Int := sm (fun x => if x < 0 then 0 else N.ch x.toNat) t
theorem chgL_step {N : Net} {t : List Int} {k : Nat} (hk : k < t.length) : chgL N (t.take (k + 1)) = chgL N (t.take k) + (if t[k] < 0 then 0 else N.ch t[k].toNat) := by
  unfold chgL
  rw [take_snoc hk rfl, sm_append]
  simp [sm]
theorem chgL_bound {N : Net} {t : List Int} (h : ∀ x ∈ t, 0 ≤ x → 0 ≤ N.ch x.toNat ∧ N.ch x.toNat ≤ 1000000) : 0 ≤ chgL N t ∧ chgL N t ≤ 1000000 * (t.length : Int) := by
  unfold chgL
  induction t with
  | nil => simp [sm]
  | cons x t ih =>
    have h1 := h x (by simp)
    have h2 := ih fun y hy => h y (by simp [hy])
    simp only [sm, List.length_cons]
    split <;> omega
set_option maxRecDepth 100000 in
set_option maxHeartbeats 4000000 in
theorem changes_any (S R : Int) (A B : Option Addr) (ca cb : Nat) (l : List St) (t : List Int) (w : World) (hl : StepsAt w A l) (ht : IntsAt w B t) (hti : ∀ x ∈ t, x < l.length) (hn : t.length ≤ 100000) (hok : BookOk S R l) :
    Calls Tryd.prog 49 #[vBook S R A l.length ca, .slice B t.length cb] w (Ret fun v w' => v = .int .i64 (chgL (netB S R l) t) ∧ Below w.heap.size w w') := by
  unfold vBook
  have hX := heap_alloc_new w (.cells #[.int .i64 S, .int .i64 R, .slice A l.length ca] 24)
  have hba := below_alloc' (Below.refl w.heap.size w) (.cells #[.int .i64 S, .int .i64 R, .slice A l.length ca] 24)
  have Hl := Lib.hid (hl.below hba)
  have Ht := Lib.hid (ht.below hba)
  have HB := Lib.hid hba
  have HT := Lib.hid hti
  have hmany := hok.many
  have HK := Lib.hid hok
  have y2 : (w.alloc (.cells #[.int .i64 S, .int .i64 R, .slice A l.length ca] 24)).cell? ⟨w.heap.size, 2, none⟩ = some (.slice A l.length ca) := (blk_cell hX).trans rfl
  clear hl ht hti hok hX hba
  go_enter Tryd.func49, Tryd.ntmps49
  go_wp2
  generalize w.alloc (.cells #[.int .i64 S, .int .i64 R, .slice A l.length ca] 24) = w1 at *
  go_loopw [5, 10] (fun s i wr => ∃ k q : Nat, k ≤ t.length ∧ i = .int .i64 k ∧ s = .int .i64 (chgL (netB S R l) (t.take k)) ∧ wr = w1.drewN q) (fun _ i _ => t.length - (intOf i).toNat)
  case atStart => exact ⟨0, 0, by omega, rfl, rfl, rfl⟩
  case round =>
    obtain ⟨k, q, hk, rfl, rfl, rfl⟩ := hrel
    by_cases hkn : k < t.length
    · obtain ⟨b2, o2, rfl, g1⟩ := Ht.out.at_ hkn
      have HS := Lib.hid (chgL_step (N := netB S R l) hkn)
      have hxl := HT.out _ (List.getElem_mem hkn)
      have hbd := chgL_bound (N := netB S R l) (t := t.take k) (fun x hx h0 => by
        have h1 := HT.out x (List.mem_of_mem_take hx)
        have h2 := HK.out.stp _ (List.getElem_mem (show x.toNat < l.length by omega))
        rw [← stAt_eq (by omega)] at h2
        exact h2.2.2.2)
      rw [List.length_take] at hbd
      generalize t[k] = x at g1 HS hxl
      have ij0 : (0 : Int) ≤ (k : Int) := by omega
      have ij1 : (k : Int) < (t.length : Int) := by omega
      obtain ⟨s0, hs0⟩ : ∃ s0, chgL (netB S R l) (t.take k) = s0 := ⟨_, rfl⟩
      rw [hs0] at HS hbd ⊢
      by_cases hx0 : x < 0
      · have d0 : decide (0 ≤ x) = false := by rw [decide_eq_false_iff_not]; omega
        rw [if_pos hx0, Int.add_zero] at HS
        clear hs0
        go_wp2
        go_roundw
        case rel => exact ⟨k + 1, _, by omega, by go_num, by rw [HS.out], rfl⟩
        case measure => simp [intOf]; omega
      · have d0 : decide (0 ≤ x) = true := by rw [decide_eq_true_eq]; omega
        rw [if_neg hx0] at HS
        obtain ⟨m, rfl⟩ := Int.eq_ofNat_of_zero_le (by omega : 0 ≤ x)
        have hml : m < l.length := by omega
        obtain ⟨b3, o3, rfl, p1, p2, p3⟩ := StepsAt.at_ Hl.out hml
        have hc3 := HK.out.stp _ (List.getElem_mem hml)
        have HCH : Hid ((netB S R l).ch (m : Int).toNat = l[m].2.2) := Lib.hid (by show (stAt l _).2.2 = _; rw [Int.toNat_natCast, stAt_eq hml])
        generalize l[m] = y at p1 p2 p3 hc3 HCH
        obtain ⟨y1, y2', y3⟩ := y
        dsimp only at p1 p2 p3 hc3 HCH
        have hc4 := hc3.2.2.2
        clear hc3 hs0
        rw [HCH.out] at HS
        have m0 : (0 : Int) ≤ (m : Int) := by omega
        have m1 : (m : Int) < (l.length : Int) := by omega
        go_wp2
        go_roundw
        case rel => exact ⟨k + 1, _, by omega, by go_num, by rw [HS.out], rfl⟩
        case measure => simp [intOf]; omega
    · obtain rfl : k = t.length := by omega
      rw [List.take_length]
      go_wp2
      go_ret
      exact Ret.mk' rfl ⟨rfl, below_drewN HB.out _⟩
end Go.Proofs.YtggcooplhodocaaDoor

namespace Go.Proofs.YtggcooplhodocaaDoor
open Go.RowKit Go.Shelf Go.Maps Fam

theorem KeepG.to_below {n lb mb m : Nat} {X Y : World} (h : KeepG n lb mb X Y) (h1 : m ≤ lb) (h2 : m ≤ mb) (h3 : m ≤ n) : Below m X Y := ⟨h.os, h.tape, h.output, h.size, fun b hb => h.block b (by omega) (by omega) (by omega)⟩
theorem left_start (S R : Int) {l : List St} {u : Value} {base wb mb : Nat} {cs : Array Value} {w : World} (ho : w.ownsRow base 2 1 u (chs l).length ((chs l).flatMap encI)) (hM : MapD w mb 0 (.map [])) (hX : w.heap[wb]? = some (.cells cs 90 (0, 0))) (e1 : wb = base + 1 + 1) (e2 : mb = base + 1) :
    ∃ lb, LeftAt w lb u l.length (lft (netB S R l) []) ∧ lb ≠ mb ∧ wb ≠ lb ∧ base ≤ lb ∧ lb < w.heap.size := by
  have hwb := blk_lt hX
  by_cases h0 : l.length = 0
  · obtain ⟨A, c, rfl, _⟩ := own_form ho
    refine ⟨base, ⟨A, c, by rw [chs_len], fun h => absurd h0 h, fun i hi => absurd hi (by omega)⟩, by omega, by omega, Nat.le_refl _, by omega⟩
  · rcases ho.2 with ⟨_, h⟩ | ⟨g, cap, cur, hu, hb, hh, _⟩
    · rw [chs_len] at h; exact absurd h h0
    · refine ⟨g, ⟨some ⟨g, 0, none⟩, cap, by rw [hu, chs_len], fun _ => rfl, fun i hi => ?_⟩, fun e => ?_, fun e => ?_, hb, blk_lt hh⟩
      · have h2 : IntsAt w (some ⟨g, 0, none⟩) (chs l) := RowsAt.of_own encI_len (by rw [hu] at ho; exact ho)
        obtain ⟨b, off, e, hc⟩ := h2 i (by rw [chs_len]; exact hi)
        injection e with e
        injection e with e1 e2
        subst e1 e2
        have h3 := hc 0 _ rfl
        refine ⟨?_, blk_frozen hh⟩
        have h4 : (chs l)[i]'(by rw [chs_len]; exact hi) = lft (netB S R l) [] i := by
          unfold lft
          show _ = (stAt l i).2.2 - _
          rw [stAt_eq hi]
          simp [chs, prc, sm]
        rw [← h4]
        simpa using h3
      · obtain ⟨es, clock, hm, _⟩ := hM
        rw [← e, hh] at hm; cases hm
      · rw [e, hh] at hX
        injection hX with hX
        injection hX with _ h2
        exact absurd h2 (by decide)
end Go.Proofs.YtggcooplhodocaaDoor

namespace Go.Proofs.YtggcooplhodocaaDoor
open Go.RowKit Go.Shelf Go.Maps Fam

/-- what grown gives when there is a tree -/
structure GrownQ (S R : Int) (A : Option Addr) (ca : Nat) (l : List St) (base : Nat) (Hm : List EntM) (K : List Nat) (D : DataW Unit) (cnt wb mb : Nat) (u : Value) (G : Option Addr) (w : World) : Prop where
  grown : Grown (netB S R l) (hist Hm)
  full : Full (netB S R l) (· ∈ stM Hm)
  kept : Pruned (netB S R l) (stM Hm) 0 K
  tree : IntsAt w G (layL (netB S R l) K)
  map : MapD w mb cnt D
  cnt : cnt ≤ Hm.length
  pr : PrD D Hm
  wood : w.heap[wb]? = some (woodC S R A l.length ca u mb)
  low : base ≤ mb ∧ base ≤ wb
set_option maxRecDepth 100000 in
set_option maxHeartbeats 8000000 in
theorem grown_any (S R : Int) (A : Option Addr) (ca : Nat) (l : List St) (w : World) (hl : StepsAt w A l) (hn : l.length ≤ 100000) :
    Calls Tryd.prog 47 #[vBook S R A l.length ca] w (Ret fun v w' => ((bookErr S R l ≠ 0 ∧ v = .tuple #[.pointer none, .slice none 0 0, .int .i64 (bookErr S R l)]) ∨ (bookErr S R l = 0 ∧ ¬ Full (netB S R l) (allS (netB S R l)) ∧ v = .tuple #[.pointer none, .slice none 0 0, .int .i64 13]) ∨
      (bookErr S R l = 0 ∧ ∃ Hm K D cnt wb mb u G c, v = .tuple #[.pointer (some ⟨wb, 0, none⟩), .slice G S.toNat c, .int .i64 0] ∧ S.toNat ≤ c ∧ c ≤ 9223372036854775807 ∧ GrownQ S R A ca l w.heap.size Hm K D cnt wb mb u G w')) ∧ Below w.heap.size w w') := by
  have Hcb := Lib.hid (fun W (h : StepsAt W A l) => checkBook_any S R A ca l W h hn)
  have Hnw := Lib.hid (fun W (h : StepsAt W A l) => newWood_any S R A ca l W h hn)
  have Hl := Lib.hid hl; clear hl
  unfold vBook at Hcb Hnw ⊢
  have hX := heap_alloc_new w (.cells #[.int .i64 S, .int .i64 R, .slice A l.length ca] 24)
  have hba := below_alloc' (Below.refl w.heap.size w) (.cells #[.int .i64 S, .int .i64 R, .slice A l.length ca] 24)
  have y0 := (blk_cell (i := 0) hX).trans rfl
  have y1 := (blk_cell (i := 1) hX).trans rfl
  have y2 := (blk_cell (i := 2) hX).trans rfl
  go_enter Tryd.func47, Tryd.ntmps47
  go_wp2_with fail
  have HB0 := Lib.hid hba
  have HX0 := Lib.hid hX
  clear hba hX
  generalize w.alloc (.cells #[.int .i64 S, .int .i64 R, .slice A l.length ca] 24) = w0 at *
  refine (Hcb.out w0 (Hl.out.below HB0.out)).mono ?_
  rintro e w1 ⟨v, rfl, rfl, hB1⟩
  have HB1 := Lib.hid (below_trans' HB0.out hB1)
  have HX1 := Lib.hid (blk_below hB1 HX0.out)
  replace y0 := cell_below hB1 y0
  replace y1 := cell_below hB1 y1
  replace y2 := cell_below hB1 y2
  clear hB1 HB0 HX0
  by_cases he : bookErr S R l = 0
  rotate_left 1
  · have d1 : (bookErr S R l != 0) = true := by simpa using he
    have HE := Lib.hid he
    clear he
    go_wp2
    go_ret3
    exact Ret.mk ⟨.inl ⟨HE.out, rfl⟩, HB1.out⟩
  have hok := bookErr_iff.1 he
  have HK := Lib.hid hok
  have HE := Lib.hid he
  rw [he]
  clear he
  go_wp2_with fail
  refine (Hnw.out w1 (Hl.out.below HB1.out)).mono ?_
  rintro e w2 ⟨v, rfl, ⟨wb, mb, u, rfl, hXw, ho, hM, e1, e2⟩, hB2⟩
  obtain ⟨lb, hLf, n1, n2, n3, n4⟩ := left_start S R ho hM hXw e1 e2
  have hHX2 := blk_below hB2 HX1.out
  have HL2 := Lib.hid (Hl.out.below (below_trans' HB1.out hB2))
  have h3 : wb ≠ mb := by omega
  have hmb : w1.heap.size ≤ mb := by omega
  have hwb : w1.heap.size ≤ wb := by omega
  clear e1 e2
  have hs1 := HB1.out.size
  have hs2 := hB2.size
  have hAA : l ≠ [] → ∀ a, A = some a → a.block < w1.heap.size := fun h a e => by
    obtain ⟨b, off, e', hc⟩ := (Hl.out.below HB1.out) 0 (List.length_pos_iff.2 h)
    rw [e] at e'
    injection e' with e'
    subst e'
    exact block_lt_of_cell (hc 0 _ rfl)
  have HG := Lib.hid (grow_any S R A ca l lb mb wb u w2 hok hXw HL2.out (fun h a e => by have := hAA h a e; omega) hLf hM n1 n2 h3 n4)
  have hbl := blk_lt HX1.out
  have HB2 := Lib.hid hB2
  replace y0 := cell_below hB2 y0
  replace y1 := cell_below hB2 y1
  replace y2 := cell_below hB2 y2
  clear Hcb Hnw hok ho hM hLf hB2
  go_wp2_with fail
  refine HG.out.mono ?_
  rintro e w3 ⟨v, rfl, hres, hKG⟩
  have hB3 : Below w1.heap.size w1 w3 := HB2.out.trans ((hKG.to_below (m := w1.heap.size) n3 hmb hs2))
  have HB3 := Lib.hid (below_trans' HB1.out hB3)
  have HX3 := Lib.hid (blk_below hB3 HX1.out)
  clear y0 y1 y2
  have y0 := (blk_cell (i := 0) HX3.out).trans rfl
  have y1 := (blk_cell (i := 1) HX3.out).trans rfl
  have y2 := (blk_cell (i := 2) HX3.out).trans rfl
  clear HG hKG hB3 HX1 HB2 HL2 hHX2 hXw
  rcases hres with ⟨Hm, D, cnt, C, cc, rfl, hQ⟩ | ⟨rfl, hnf⟩
  rotate_left 1
  · go_wp2
    go_ret3
    exact Ret.mk ⟨.inr (.inl ⟨HE.out, hnf, rfl⟩), HB3.out⟩
  have HQ := Lib.hid hQ
  clear hQ
  have hdim := HK.out.dim
  obtain ⟨n, rfl⟩ := Int.eq_ofNat_of_zero_le (by omega : 0 ≤ S)
  have hn16 : n ≤ 16 := by omega
  have hn1 : 1 ≤ n := by omega
  clear hdim
  have hmk := fun W => run_make_row' (P := Tryd.prog) 25 3 (.int .i64 0) 8 Tryd.underlying25 infoI3 rfl .i64 .i64 n (by omega) (by omega) W
  obtain ⟨zs, hzs⟩ : ∃ zs : Array Value, zs = madeCells #[.int .i64 0] n := ⟨_, rfl⟩
  have hA0 := made_arr w3 n 3
  rw [← hzs] at hmk hA0
  have hbz := below_alloc' (Below.refl w3.heap.size w3) (.cells zs 3)
  have hs3 := HB3.out.size
  clear hzs
  go_upto_region 9 with fail
  clear hmk
  have HB4 := Lib.hid (below_trans' HB3.out hbz)
  have HX4 := Lib.hid (blk_below hbz HX3.out)
  have HA4 := Lib.hid hA0
  have HBz := Lib.hid hbz
  have hs4 := hbz.size
  clear hA0 hbz y0 y1 y2
  obtain ⟨gb, hgb⟩ : ∃ gb, gb = w3.heap.size := ⟨_, rfl⟩
  rw [← hgb] at HA4 hs3 ⊢
  have HGB := Lib.hid hgb
  clear hgb
  generalize w3.alloc (.cells zs 3) = w4 at *
  go_wp2
  go_loopw [32] (fun i wr => ∃ k : Nat, k ≤ n ∧ i = .int .i64 k ∧ Hid (Arr wr gb 0 n fun x => if x < k then -1 else 0) ∧ Hid (Below gb w4 wr)) (fun i _ => n - (intOf i).toNat)
  case atStart => exact ⟨0, by omega, rfl, Lib.hid (HA4.out.congr fun x _ => by simp), Lib.hid (Below.refl _ _)⟩
  case round =>
    clear HA4
    obtain ⟨k, hk, rfl, HA4, HB5⟩ := hrel
    by_cases hkn : k < n
    · obtain ⟨c1, f1⟩ := HA4.out k hkn
      rw [Nat.zero_add] at c1 f1
      have ij0 : (0 : Int) ≤ (k : Int) := by omega
      have ij1 : (k : Int) < (n : Int) := by omega
      have hs5 := HA4.out.set hkn (-1)
      rw [Nat.zero_add] at hs5
      have HA5 : Hid (Arr (wr.setCell ⟨gb, k, none⟩ (.int .i64 (-1))) gb 0 n fun x => if x < k + 1 then -1 else 0) := Lib.hid (Arr.congr hs5 fun x _ => by
        by_cases e : x = k
        · rw [if_pos e, if_pos (by omega)]
        · rw [if_neg e]
          by_cases e2 : x < k
          · rw [if_pos e2, if_pos (by omega)]
          · rw [if_neg e2, if_neg (by omega)])
      have HB6 := Lib.hid (HB5.out.setCell (p := ⟨gb, k, none⟩) (Nat.le_refl _) (.int .i64 (-1)))
      clear hs5
      go_wp2
      clear c1 f1
      go_roundw
      case rel => exact ⟨k + 1, by omega, by go_num, HA5, HB6⟩
      case measure => simp [intOf]; omega
    · obtain rfl : k = n := by omega
      have HA6 : Hid (Arr wr gb 0 k fun _ => -1) := Lib.hid (HA4.out.congr fun x hx => by rw [if_pos hx])
      have hB5 : Below w3.heap.size w3 wr := HBz.out.trans (HGB.out ▸ HB5.out)
      have HB6 := Lib.hid (below_trans' HB3.out hB5)
      have HX6 := Lib.hid (blk_below hB5 HX3.out)
      have HL6 := Lib.hid (Hl.out.below HB6.out)
      have hpr := prune_any (k : Int) R A C ca cc wb mb u l (stM Hm) wr (blk_below hB5 HQ.out.wood) HL6.out (IntsAt.below HQ.out.ints hB5) (fun i hi => HQ.out.grown.lt i hi) (by have := HQ.out.grown.many HK.out.net; rw [hist_len] at this; rw [stM_len]; have h5 : (netB (k : Int) R l).n = k := rfl; omega) HQ.out.cap HQ.out.capm HK.out
      have HPR := Lib.hid hpr
      have HB5' := Lib.hid hB5
      clear hpr hB5 HA4 HX4 HB4 HBz HB5
      go_wp2_with fail
      refine HPR.out.mono ?_
      rintro e w5 ⟨v, rfl, ⟨K, C2, c2, rfl, hc1, hc2, hPd, hI, hCo⟩, hB7⟩
      have hA7 := HA6.out.below hB7
      have hgw : wr.heap.size > gb := block_lt_of_cell (HA6.out 0 (by omega)).1
      have HCn : Hid (K ≠ [] → ∀ a, C2 = some a → a.block ≠ gb) := Lib.hid fun hK a e => by
        rcases hCo a e with h | h
        · obtain ⟨x, hx⟩ := List.exists_mem_of_ne_nil K hK
          obtain ⟨j, _, hj⟩ := hPd.mem x hx
          have hne : 0 < (castL (stM Hm)).length := by rw [castL_len]; exact List.length_pos_of_mem (List.mem_of_getElem? hj)
          obtain ⟨b, off, e', hc'⟩ := HQ.out.ints 0 hne
          rw [← h, e] at e'
          injection e' with e'
          have h6 := block_lt_of_cell (hc' 0 _ rfl)
          have h7 := HGB.out
          rw [e']
          dsimp only at h6 ⊢
          omega
        · omega
      have hB57 : Below w3.heap.size w3 w5 := HB5'.out.trans (hB7.mono HB5'.out.size)
      have hgx : w.heap.size < gb := by have := blk_lt HX3.out; have := HGB.out; omega
      have HAg : Hid (l ≠ [] → ∀ a, A = some a → a.block < gb) := Lib.hid fun h a e => by
        obtain ⟨b, off, e', hc'⟩ := (Hl.out.below HB3.out) 0 (List.length_pos_iff.2 h)
        rw [e] at e'
        injection e' with e'
        have h6 := block_lt_of_cell (hc' 0 _ rfl)
        have h7 := HGB.out
        rw [e']
        dsimp only at h6 ⊢
        omega
      have HXf := Lib.hid (blk_below hB57 HX3.out)
      have HLf := Lib.hid (Hl.out.below (below_trans' HB3.out hB57))
      have HIf := Lib.hid hI
      have HPd := Lib.hid hPd
      have HBf := Lib.hid hB57
      have HAf : Hid (Arr w5 gb 0 k fun x => (layGo (netB (k : Int) R l) (List.replicate k (-1)) (K.take 0)).getD x 0) := Lib.hid (hA7.congr fun x hx => by simp [layGo, hx])
      have hg5 : gb < w5.heap.size := block_lt_of_cell (hA7 0 (by omega)).1
      clear hA7 hB57 hI hPd hB7 HPR HB5' HB6 HX6 HL6 HA6 hCo
      go_wp2
      go_loopw [43] (fun i wr2 => ∃ j : Nat, j ≤ K.length ∧ i = .int .i64 j ∧ Hid (Arr wr2 gb 0 k fun x => (layGo (netB (k : Int) R l) (List.replicate k (-1)) (K.take j)).getD x 0) ∧ Hid (KeepX w5.heap.size gb w5 wr2)) (fun i _ => K.length - (intOf i).toNat)
      case atStart => exact ⟨0, by omega, rfl, HAf, Lib.hid (KeepX.refl _ _ _)⟩
      case round =>
        clear HAf
        obtain ⟨j, hj, rfl, HAf, HKx⟩ := hrel
        by_cases hjn : j < K.length
        · have hKne : K ≠ [] := by intro e; subst e; simp at hjn
          obtain ⟨b, off, rfl, g1⟩ := IntsAt.at_ (KeepX.rows HKx.out HIf.out (fun h a e => by
            have h1 := HCn.out hKne a e
            obtain ⟨b, off, e', hc'⟩ := HIf.out 0 (List.length_pos_iff.2 h)
            rw [e] at e'
            injection e' with e'
            have h6 := block_lt_of_cell (hc' 0 _ rfl)
            rw [e'] at h1 ⊢
            exact ⟨h6, h1⟩)) (i := j) (by rw [castL_len]; exact hjn)
          rw [castL_at hjn] at g1
          obtain ⟨j', _, hj'⟩ := HPd.out.mem _ (List.getElem_mem hjn)
          have hxl : K[j] < l.length := HQ.out.grown.lt _ (List.mem_of_getElem? hj')
          have HTS := Lib.hid (layGo_snoc (netB (k : Int) R l) (List.replicate k (-1)) (K.take j) K[j])
          rw [← take_snoc hjn rfl] at HTS
          clear hj'
          generalize K[j] = x at g1 hxl HTS
          obtain ⟨b3, o3, rfl, p1, p2, p3⟩ := StepsAt.at_ (KeepX.rows HKx.out HLf.out (fun h a e => by have := HAg.out h a e; omega)) hxl
          have hbk := HK.out.stp _ (List.getElem_mem hxl)
          have HTo : Hid ((netB (k : Int) R l).to x = l[x].2.1.toNat) := Lib.hid (by show (stAt l x).2.1.toNat = _; rw [stAt_eq hxl])
          generalize l[x] = y at p1 p2 p3 hbk HTo
          obtain ⟨y1, y2, y3⟩ := y
          dsimp only at p1 p2 p3 hbk HTo
          obtain ⟨a2, rfl⟩ := Int.eq_ofNat_of_zero_le hbk.2.1.1
          have ha2 : a2 < k := by omega
          rw [Int.toNat_natCast] at HTo
          clear hbk
          obtain ⟨c1, f1⟩ := HAf.out a2 ha2
          rw [Nat.zero_add] at c1 f1
          have hs9 := HAf.out.set ha2 (x : Int)
          rw [Nat.zero_add] at hs9
          have HA9 : Hid (Arr (wr.setCell ⟨gb, a2, none⟩ (.int .i64 (x : Nat))) gb 0 k fun i => (layGo (netB (k : Int) R l) (List.replicate k (-1)) (K.take (j + 1))).getD i 0) := Lib.hid (Arr.congr hs9 fun i hi => by
            rw [HTS.out, HTo.out]
            simp only [List.getD_eq_getElem?_getD]
            by_cases e : i = a2
            · subst e; rw [if_pos rfl, List.getElem?_set_self (by rw [layGo_len]; simpa using hi)]; rfl
            · rw [if_neg e, List.getElem?_set_ne (fun h => e h.symm)])
          have HK9 := Lib.hid (HKx.out.set (p := ⟨gb, a2, none⟩) (.inl rfl) (.int .i64 (x : Nat)))
          have z2 := (blk_cell (i := 2) (HKx.out.blk HXf.out (by omega) (by omega))).trans rfl
          have j0 : (0 : Int) ≤ (j : Int) := by omega
          have j1 : (j : Int) < (K.length : Int) := by omega
          have x0 : (0 : Int) ≤ (x : Int) := by omega
          have x1 : (x : Int) < (l.length : Int) := by omega
          have a0 : (0 : Int) ≤ (a2 : Int) := by omega
          have a1 : (a2 : Int) < (k : Int) := by omega
          clear hs9
          go_wp2
          go_roundw
          case rel => exact ⟨j + 1, by omega, by go_num, HA9, HK9⟩
          case measure => simp [intOf]; omega
        · obtain rfl : j = K.length := by omega
          rw [List.take_length] at HAf
          have h7 := HGB.out
          have hBw : Below w3.heap.size w3 wr := by
            have := KeepX.below' (c := gb) (by rw [h7]; exact HBf.out) HKx.out (by omega)
            rw [h7] at this
            exact this
          have hty : IntsAt wr (some ⟨gb, 0, none⟩) (layL (netB (k : Int) R l) K) := by
            have h8 := Arr.ints HAf.out
            have e : (List.range k).map (fun x => (layGo (netB (k : Int) R l) (List.replicate k (-1)) K).getD x 0) = layL (netB (k : Int) R l) K := by
              refine List.ext_getElem ?_ fun i h1 h2 => ?_
              · unfold layL; rw [layGo_len]; simp; rfl
              · rw [List.getElem_map, List.getElem_range, List.getD_eq_getElem?_getD]; show (layL (netB (k : Int) R l) K)[i]?.getD 0 = _; rw [List.getElem?_eq_getElem h2]; rfl
            rw [e] at h8
            exact h8
          have hml := MapD.lt HQ.out.map
          have hQ9 : GrownQ (k : Int) R A ca l w.heap.size Hm K D cnt wb mb u (some ⟨gb, 0, none⟩) wr :=
            ⟨HQ.out.grown, HQ.out.full, HPd.out, hty, HQ.out.map.blk (hBw.block mb hml), HQ.out.cnt, HQ.out.pr, blk_below hBw HQ.out.wood, by omega, by omega⟩
          have HQ9 := Lib.hid hQ9
          have HBw := Lib.hid (below_trans' HB3.out hBw)
          clear h7 hBw hty hml hQ9
          go_wp2
          go_ret3
          exact Ret.mk ⟨.inr (.inr ⟨HE.out, Hm, K, D, cnt, wb, mb, u, _, _, rfl, by simp, by omega, HQ9.out⟩), HBw.out⟩
end Go.Proofs.YtggcooplhodocaaDoor

namespace Go.Proofs.YtggcooplhodocaaDoor
open Go.RowKit Go.Shelf Go.Maps Fam

/-- what Cheapest answers -/
def CheapV (S R : Int) (l : List St) (v : Value) (w : World) : Prop :=
  (bookErr S R l ≠ 0 ∧ v = .tuple #[.slice none 0 0, .int .i64 0, .int .i64 (bookErr S R l)]) ∨
  (bookErr S R l = 0 ∧ ¬ Full (netB S R l) (allS (netB S R l)) ∧ v = .tuple #[.slice none 0 0, .int .i64 0, .int .i64 13]) ∨
  (bookErr S R l = 0 ∧ ∃ t G c, v = .tuple #[.slice G t.length c, .int .i64 (costL (netB S R l) t), .int .i64 0] ∧ t.length ≤ c ∧ c ≤ 9223372036854775807 ∧ t.length = S.toNat ∧ IntsAt w G t ∧ TreeL (netB S R l) t ∧ Best (netB S R l) (costL (netB S R l) t))
set_option maxRecDepth 100000 in
set_option maxHeartbeats 2000000 in
theorem cheapest_any (S R : Int) (A : Option Addr) (ca : Nat) (l : List St) (w : World) (hl : StepsAt w A l) (hn : l.length ≤ 100000) :
    Calls Tryd.prog 24 #[vBook S R A l.length ca] w (Ret fun v w' => CheapV S R l v w' ∧ Below w.heap.size w w') := by
  have Hgr := Lib.hid (fun W (h : StepsAt W A l) => grown_any S R A ca l W h hn)
  have Hch := Lib.hid (fun W (h : StepsAt W A l) => fun B cb t => changes_any S R A B ca cb l t W h)
  have Hl := Lib.hid hl; clear hl
  unfold vBook at Hgr Hch ⊢
  have hX := heap_alloc_new w (.cells #[.int .i64 S, .int .i64 R, .slice A l.length ca] 24)
  have hba := below_alloc' (Below.refl w.heap.size w) (.cells #[.int .i64 S, .int .i64 R, .slice A l.length ca] 24)
  have y0 := (blk_cell (i := 0) hX).trans rfl
  have y1 := (blk_cell (i := 1) hX).trans rfl
  have y2 := (blk_cell (i := 2) hX).trans rfl
  go_enter Tryd.func24, Tryd.ntmps24
  go_wp2_with fail
  have HB0 := Lib.hid hba
  clear hba
  generalize w.alloc (.cells #[.int .i64 S, .int .i64 R, .slice A l.length ca] 24) = w0 at *
  refine (Hgr.out w0 (Hl.out.below HB0.out)).mono ?_
  rintro e w1 ⟨v, rfl, hres, hB1⟩
  have HB1 := Lib.hid (below_trans' HB0.out hB1)
  replace y0 := cell_below hB1 y0
  replace y1 := cell_below hB1 y1
  replace y2 := cell_below hB1 y2
  clear hB1 HB0 hX
  rcases hres with ⟨he, rfl⟩ | ⟨he, hnf, rfl⟩ | ⟨he, Hm, K, D, cnt, wb, mb, u, G, c, rfl, hc1, hc2, hQ⟩
  · have d1 : (bookErr S R l != 0) = true := by simpa using he
    have HE := Lib.hid he
    clear he
    go_wp2
    go_ret3
    exact Ret.mk ⟨.inl ⟨HE.out, rfl⟩, HB1.out⟩
  · have HE := Lib.hid he
    clear he
    go_wp2
    go_ret3
    exact Ret.mk ⟨.inr (.inl ⟨HE.out, hnf, rfl⟩), HB1.out⟩
  · have HE := Lib.hid he
    have HQ := Lib.hid hQ
    clear he hQ
    have hok := bookErr_iff.1 HE.out
    have hdim := hok.dim
    have hN := hok.net
    obtain ⟨htr, hcost⟩ := layL_tree hN HQ.out.grown HQ.out.kept HQ.out.full
    have hbest : Best (netB S R l) (costL (netB S R l) (layL (netB S R l) K)) := best_of htr.2.2.2 (HQ.out.grown.right hN) hcost
    have hsum : chgL (netB S R l) (layL (netB S R l) K) = costL (netB S R l) (layL (netB S R l) K) := htr.sum
    have hlen : (layL (netB S R l) K).length = S.toNat := htr.1
    have hmem : ∀ x ∈ layL (netB S R l) K, x < l.length := fun x hx => by
      obtain ⟨v, hv, rfl⟩ := List.mem_iff_getElem.1 hx
      have hv' : v < (netB S R l).n := by rw [hlen] at hv; exact hv
      have e : (layL (netB S R l) K).getD v 0 = (layL (netB S R l) K)[v] := by rw [List.getD_eq_getElem?_getD, List.getElem?_eq_getElem hv]; rfl
      rw [← e]
      by_cases hr : v = (netB S R l).r
      · rw [hr, htr.2.1]; omega
      · have h1 := (htr.2.2.2.to v hv' hr).1
        unfold treeF at h1
        have h2 : (netB S R l).m = l.length := rfl
        omega
    have HT := Lib.hid HQ.out.tree
    generalize layL (netB S R l) K = t at htr hcost hbest hsum hlen hmem HT
    have HTr := Lib.hid htr
    have HBe := Lib.hid hbest
    have HSu := Lib.hid hsum
    have HMe := Lib.hid hmem
    rw [← hlen] at hc1 ⊢
    have hm16 : t.length ≤ 16 := by omega
    have HLe := Lib.hid hlen
    have HK := Lib.hid hok
    clear htr hcost hbest hsum hmem HQ hok hN hlen hdim
    obtain ⟨zs, hzs⟩ : ∃ zs : Array Value, zs = madeCells #[.int .i64 0] t.length := ⟨_, rfl⟩
    have hzl : zs.toList.length = t.length := by rw [hzs]; simp [madeCells]
    have hmk := fun w => run_make_row' (P := Tryd.prog) 25 3 (.int .i64 0) 8 Tryd.underlying25 infoI3 rfl .i64 .i64 t.length (by omega) (by omega) w
    rw [← hzs] at hmk
    have Hzs := Lib.hid hzs; clear hzs
    obtain ⟨X, hX⟩ : ∃ X : List Value, X = t.flatMap encI := ⟨_, rfl⟩
    have hXl : X.length = t.length := by rw [hX, flatMap_len encI_len]; omega
    have HX1 : Hid (∀ v ∈ X, v.oneCell' = true) := fun v hv => by
      rw [hX] at hv
      exact oneFlat oneI t v hv
    have HXs : Hid (0 < X.length → ∃ ad, G = some ad ∧ ∀ j v, X[j]? = some v → (w1.alloc (.cells zs 3)).cell? (ad.add j) = some v) := fun h0 => by
      obtain ⟨b, off, hb, _⟩ := HT.out 0 (by omega)
      exact ⟨_, hb, fun j v hj => cell_alloc (RowsAt.olds encI_len HT.out _ hb j v (by rw [← hX]; exact hj)) _⟩
    have HXl := Lib.hid hXl
    have HX := Lib.hid hX; clear hX
    have Hzl := Lib.hid hzl
    clear hXl hzl
    go_upto_region 5 with fail
    clear hmk
    go_upto_region 6 with (first
      | (refine wpList_copy_splice (o := ⟨some 23, _, _, _, _, _⟩) rfl (.tmp 21) (.tmp 22) 25 25 rfl 3 Tryd.underlying25 (by kernel_rfl) (some ⟨w1.heap.size, 0, none⟩) G t.length t.length t.length c (by rfl) (by rfl) w1.heap.size 0 zs.toList 3 (by rw [Array.toArray_toList]; exact heap_alloc_new w1 _) X (by rw [HXl.out]; exact (Nat.min_self _).symm) (fun h => ⟨rfl, HXs.out h⟩) (by rw [HXl.out, Hzl.out, Nat.zero_add]; exact Nat.le_refl _) HX1.out w1.heap.size w1 (below_alloc' (Below.refl _ _) _) (Nat.le_refl _) ?_
         intro w4 HG4 hb4))
    have HG : Hid (w4.heap[w1.heap.size]? = some (.cells X.toArray 3 (0, 0))) := by
      show _ = _
      rw [HG4]; simp [splice, HXl.out, Hzl.out]
    have hown : w4.ownsRow w1.heap.size 3 1 (.slice (some ⟨w1.heap.size, 0, none⟩) t.length t.length) t.length (t.flatMap encI) :=
      ⟨by rw [flatMap_len encI_len], .inr ⟨w1.heap.size, t.length, X.toArray, rfl, Nat.le_refl _, HG.out, Nat.le_refl _, by unfold maxLen; omega, by simp [HXl.out], by show List.take (t.length * 1) X = _; rw [HX.out, List.take_of_length_le (by rw [flatMap_len encI_len]; exact Nat.le_refl _)]⟩⟩
    have HI4 : Hid (IntsAt w4 (some ⟨w1.heap.size, 0, none⟩) t) := Lib.hid (RowsAt.of_own encI_len hown)
    have HB4 := Lib.hid (below_trans' HB1.out hb4)
    have HT4 := Lib.hid (IntsAt.below HT.out hb4)
    replace y0 := cell_below hb4 y0
    replace y1 := cell_below hb4 y1
    replace y2 := cell_below hb4 y2
    have hcg := Hch.out w4 (Hl.out.below HB4.out) G c t HT4.out HMe.out (by omega) HK.out
    have Hcg := Lib.hid hcg
    clear hown HG4 hb4 hcg HG HXs HX HX1 HXl Hzl Hzs
    go_wp2_with fail
    refine Hcg.out.mono ?_
    rintro e w5 ⟨v, rfl, rfl, hB5⟩
    have HB5 := Lib.hid (below_trans' HB4.out hB5)
    have HI5 := Lib.hid (IntsAt.below HI4.out hB5)
    clear hB5 Hcg y0 y1 y2
    go_wp2
    go_ret3
    exact Ret.mk ⟨.inr (.inr ⟨HE.out, t, some ⟨w1.heap.size, 0, none⟩, t.length, by rw [HSu.out]; rfl, Nat.le_refl _, by omega, HLe.out, HI5.out, HTr.out, HBe.out⟩), HB5.out⟩
end Go.Proofs.YtggcooplhodocaaDoor

namespace Go.Proofs.YtggcooplhodocaaDoor
open Go.RowKit Go.Shelf Go.Maps Fam

/-- D2 is D without the noughts at the keys that are gone by -/
structure Cut (D D2 : DataW Unit) (left : Lit → Bool) : Prop where
  keep : ∀ z, Maps.has D2 z = true → ∀ zd, D2.atKey z zd = D.atKey z zd
  sub : ∀ z, Maps.has D2 z = true → Maps.has D z = true
  more : ∀ z, left z = true → Maps.has D2 z = true
  gone : ∀ z, left z = false → Maps.has D z = true → (Maps.has D2 z = true ↔ D.atKey z (dB 0) ≠ dB 0)
theorem Cut.start (D : DataW Unit) : Cut D D (Maps.has D) := ⟨fun _ _ _ => rfl, fun _ h => h, fun _ h => h, fun z h h2 => by rw [h] at h2; cases h2⟩
theorem Cut.pass {D D2 : DataW Unit} {left : Lit → Bool} {k : Lit} (h : Cut D D2 left) (hsame : ∀ z : Lit, z.sameKey k = true → z = k) (hk : left k = true) (hv : D2.atKey k (dB 0) ≠ dB 0) : Cut D D2 (fun z => left z && !z.sameKey k) := by
  refine ⟨h.keep, h.sub, fun z hz => h.more z (by simp at hz; exact hz.1), fun z hz hD => ?_⟩
  by_cases e : z = k
  · subst e
    have h1 := h.more z hk
    rw [← h.keep z h1]
    exact ⟨fun _ => hv, fun _ => h1⟩
  · refine h.gone z ?_ hD
    cases hs : z.sameKey k
    · rw [hs] at hz; simpa using hz
    · exact absurd (hsame z hs) e
theorem Cut.drop {D D2 : DataW Unit} {left : Lit → Bool} {k : Lit} (h : Cut D D2 left) (hsame : ∀ z : Lit, z.sameKey k = true → z = k) (hself : k.sameKey k = true) (hk : left k = true) (hv : D2.atKey k (dB 0) = dB 0) : Cut D (D2.del k) (fun z => (left z && !z.sameKey k) && !z.sameKey k) := by
  have h0 : Maps.has (D2.del k) k = false := has_del_same
  refine ⟨fun z hz zd => ?_, fun z hz => ?_, fun z hz => ?_, fun z hz hD => ?_⟩
  · by_cases e : z = k
    · rw [e, h0] at hz; cases hz
    · rw [atKey_del_other e]
      rw [has_del_other e] at hz
      exact h.keep z hz zd
  · by_cases e : z = k
    · rw [e, h0] at hz; cases hz
    · rw [has_del_other e] at hz
      exact h.sub z hz
  · simp only [Bool.and_eq_true, Bool.not_eq_true'] at hz
    have e : z ≠ k := fun e => by rw [e, hself] at hz; exact Bool.noConfusion hz.2
    rw [has_del_other e]
    exact h.more z hz.1.1
  · by_cases e : z = k
    · rw [e, h0]
      have h1 := h.keep k (h.more k hk) (dB 0)
      rw [← h1, hv]
      simp
    · rw [has_del_other e]
      refine h.gone z ?_ hD
      cases hs : z.sameKey k
      · rw [hs] at hz; simpa using hz
      · exact absurd (hsame z hs) e
/-- the noughts are out -/
theorem Cut.ends {D D2 : DataW Unit} {left : Lit → Bool} (h : Cut D D2 left) (hl : ∀ z, left z = false) {Hm : List EntM} (hp : PrD D Hm) : PrD D2 Hm ∧ ∀ g : Nat, g < 65536 → (Maps.has D2 (.int .i64 g) = true ↔ prSum Hm g ≠ 0) := by
  have key : ∀ g : Nat, g < 65536 → (Maps.has D2 (.int .i64 g) = true ↔ prSum Hm g ≠ 0) := fun g hg => by
    have h1 := hp.at_ g hg
    unfold prAt at h1
    by_cases hD : Maps.has D (.int .i64 (g : Int)) = true
    · rw [h.gone _ (hl _) hD, h1]
      exact ⟨fun h2 e => h2 (by rw [e]), fun h2 e => h2 (dB_inj e)⟩
    · have h2 : D.atKey (.int .i64 (g : Int)) (dB 0) = dB 0 := atKey_of_not_has (by simpa using hD) _
      rw [h2] at h1
      have h3 := dB_inj h1
      exact ⟨fun h4 => absurd (h.sub _ h4) hD, fun h4 => absurd h3.symm h4⟩
  refine ⟨⟨fun g hg => ?_, fun z hz => hp.has z (h.sub z hz)⟩, key⟩
  unfold prAt
  by_cases h2 : Maps.has D2 (.int .i64 (g : Int)) = true
  · rw [h.keep _ h2]; exact hp.at_ g hg
  · rw [atKey_of_not_has (by simpa using h2)]
    by_cases h3 : prSum Hm g = 0
    · rw [h3]
    · exact absurd ((key g hg).2 h3) h2
end Go.Proofs.YtggcooplhodocaaDoor

namespace Go.Proofs.YtggcooplhodocaaDoor
open Go.RowKit Go.Shelf Go.Maps Fam

/-- math/bits' table lies as its initialiser laid it -/
def Tab (w : World) : Prop := TabAt 1 Lib.deBruijn64tab w
theorem Tab.below {w w' : World} (h : Tab w) (hb : Below w.heap.size w w') : Tab w' := fun j hj => cell_below hb (h j hj)
set_option maxHeartbeats 1000000 in
theorem tz64_core (x k idx : Nat) (w : World) (hx0 : ((x : Int) == 0) = false)
    (key : IntKind.u64.wrap (bits BinOp.and IntKind.u64 (x : Int) (IntKind.u64.wrap (-(x : Int))) * 285870213051353865) / 288230376151711744 = (idx : Int))
    (hi : idx < 64) (hk : k < 64) (hcell : w.cell? ⟨1, idx, none⟩ = some (.int .u8 k)) :
    Calls Tryd.prog 73 #[.int .u64 x] w (Ret fun v w' => v = .int .i64 k ∧ w' = w) := by
  go_enter Tryd.func73, Tryd.ntmps73
  go_wp2_with (simp only [key])
  go_ret
  exact Ret.mk ⟨rfl, rfl⟩
theorem tz64_any (x : Nat) (hx : x < 65536) (hx0 : x ≠ 0) (w : World) (hT : Tab w) : Calls Tryd.prog 73 #[.int .u64 x] w (Ret fun v w' => v = .int .i64 (Lib.ctz 64 x) ∧ w' = w) := by
  obtain ⟨hlow, hk⟩ := Lib.lowest_bit 64 x hx0 (by omega)
  obtain ⟨hi, htab⟩ := Lib.deBruijn64_at _ hk
  have hcell := hT _ hi
  rw [htab] at hcell
  exact tz64_core x _ _ w (by simp; omega) (tz64_key x _ (by omega) hx0 hlow) hi hk hcell
set_option maxHeartbeats 1000000 in
theorem tz_any (x : Nat) (hx : x < 65536) (hx0 : x ≠ 0) (w : World) (hT : Tab w) : Calls Tryd.prog 62 #[.int .u64 x] w (Ret fun v w' => v = .int .i64 (Lib.ctz 64 x) ∧ w' = w) := by
  have Hc := Lib.hid (tz64_any x hx hx0 w hT)
  clear hT
  have hw : IntKind.u64.wrap (x : Int) = (x : Int) := by rw [IntKind.wrap_u64]; omega
  go_enter Tryd.func62, Tryd.ntmps62
  go_wp2_with fail
  refine Hc.out.mono ?_
  rintro e w1 ⟨v, rfl, rfl, rfl⟩
  go_wp2
  go_ret
  exact Ret.mk ⟨rfl, rfl⟩
end Go.Proofs.YtggcooplhodocaaDoor
