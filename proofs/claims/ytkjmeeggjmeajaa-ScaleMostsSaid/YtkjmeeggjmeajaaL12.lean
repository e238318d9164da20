/- ref: Best: all scales of upper ends. -/
import Derived.Test.YtkjmeeggjmeajaaPC
import Derived.Test.YtkjmeeggjmeajaaD2
namespace Go.Proofs.Ytkjmeeggjmeajaa
open Go.RowKit Go.Shelf

def bitS (s i : Nat) : Bool := decide (s / 2 ^ i % 2 = 1)
/-- the upper ends that are chosen, of the first k ranges -/
def endsS (l : List Rg) (s k : Nat) : List Int := ((List.range k).filter (bitS s)).map fun i => (l.getD i (0, 0)).2
theorem endsS_yes {l : List Rg} {s k : Nat} (hk : k < l.length) {r : Rg} (hr : l[k] = r) (h : bitS s k = true) : endsS l s (k + 1) = endsS l s k ++ [r.2] := by
  unfold endsS; rw [List.range_succ, List.filter_append, List.map_append]; simp [h, List.getD_eq_getElem?_getD, List.getElem?_eq_getElem hk, hr]
theorem endsS_no {l : List Rg} {s k : Nat} (h : bitS s k = false) : endsS l s (k + 1) = endsS l s k := by
  unfold endsS; rw [List.range_succ, List.filter_append, List.map_append]; simp [h]
theorem endsS_len (l : List Rg) (s k : Nat) : (endsS l s k).length ≤ k := by
  unfold endsS; rw [List.length_map]; have := List.length_filter_le (bitS s) (List.range k); simpa using this
/-- m is the most that the scales below number k meet -/
def BestTo (l : List Rg) (steps : Int) (k m : Nat) : Prop :=
  (∀ s, s < k → ((endsS l s l.length).length : Int) ≤ steps → hits l (endsS l s l.length) ≤ m) ∧ (m = 0 ∨ ∃ s, s < k ∧ ((endsS l s l.length).length : Int) ≤ steps ∧ hits l (endsS l s l.length) = m)
theorem BestTo.skip {l : List Rg} {steps : Int} {k m : Nat} (h : BestTo l steps k m) (hs : steps < ((endsS l k l.length).length : Int)) : BestTo l steps (k + 1) m :=
  ⟨fun s h1 h2 => by
    by_cases e : s = k
    · subst e; omega
    · exact h.1 s (by omega) h2, h.2.imp id fun ⟨s, a, b⟩ => ⟨s, by omega, b⟩⟩
theorem BestTo.next {l : List Rg} {steps : Int} {k m : Nat} (h : BestTo l steps k m) (hs : ¬ steps < ((endsS l k l.length).length : Int)) : BestTo l steps (k + 1) (max m (hits l (endsS l k l.length))) := by
  refine ⟨fun s h1 h2 => ?_, ?_⟩
  · by_cases e : s = k
    · subst e; omega
    · have := h.1 s (by omega) h2; omega
  · by_cases hc : hits l (endsS l k l.length) ≤ m
    · rw [Nat.max_eq_left hc]
      exact h.2.imp id fun ⟨s, a, b⟩ => ⟨s, by omega, b⟩
    · exact .inr ⟨k, by omega, by omega, by omega⟩
def hitsTo (l : List Rg) (x : List Int) (k : Nat) : Nat := (l.take k).countP fun r => x.any (onR r)
theorem hitsTo_next {l : List Rg} {x : List Int} {k : Nat} (hk : k < l.length) {r : Rg} (hr : l[k] = r) : hitsTo l x (k + 1) = hitsTo l x k + (if x.any (onR r) then 1 else 0) := by
  unfold hitsTo; rw [take_snoc hk hr, List.countP_append]; simp [List.countP_cons]
theorem hitsTo_le (l : List Rg) (x : List Int) (k : Nat) : hitsTo l x k ≤ k := by
  unfold hitsTo
  have := List.countP_le_length (p := fun r => x.any (onR r)) (l := l.take k)
  rw [List.length_take] at this; omega

theorem bit_eq (k j : Nat) : ((((k : Int) / 2 ^ j).tmod 2) == 1) = bitS k j := by
  have h : ((k : Int) / 2 ^ j).tmod 2 = ((k / 2 ^ j % 2 : Nat) : Int) := by
    rw [show ((k : Int) / 2 ^ j) = ((k / 2 ^ j : Nat) : Int) by simp]; rfl
  rw [h]
  unfold bitS
  generalize k / 2 ^ j % 2 = z
  by_cases h2 : z = 1
  · rw [h2]; rfl
  · rw [decide_eq_false h2]; simp; omega
set_option maxRecDepth 100000 in
set_option maxHeartbeats 1000000 in
theorem best_any (A : Option Addr) (ca : Nat) (l : List Rg) (steps : Int) (w : World) (hl : RangesAt w A l) (hn : l.length ≤ 9) :
    Calls Try.prog 29 #[.slice A l.length ca, .int .i64 steps] w (Ret fun v w' => (∃ m : Nat, v = .int .i64 m ∧ BestTo l steps (2 ^ l.length) m) ∧ Below w.heap.size w w') := by
  have Hl := Lib.hid hl; clear hl
  obtain ⟨N, hN⟩ : ∃ N, N = 2 ^ l.length := ⟨_, rfl⟩
  have hN1 : 1 ≤ N ∧ N ≤ 512 := by
    rw [hN]
    exact ⟨Nat.one_le_two_pow, Nat.pow_le_pow_right (by omega) hn⟩
  have hwN : IntKind.i64.wrap ((2 : Int) ^ l.length) = (N : Int) := by
    rw [show ((2 : Int) ^ l.length) = (N : Int) by rw [hN]; simp]
    exact IntWalk.i64_in _ (by omega)
  rw [← hN]
  have HN := Lib.hid hN
  clear hN
  go_enter Try.func29, Try.ntmps29
  go_wp2
  go_loopw [5, 6] (fun b i wr => ∃ (k m : Nat), k ≤ N ∧ m ≤ 9 ∧ b = .int .i64 m ∧ i = .int .i64 k ∧ Hid (BestTo l steps k m) ∧ Below w.heap.size w wr) (fun _ i _ => N - (intOf i).toNat)
  case atStart => exact ⟨0, 0, by omega, by omega, rfl, rfl, ⟨fun s h => by omega, .inl rfl⟩, Below.refl _ _⟩
  case round =>
    obtain ⟨k, m, hk, hm9, rfl, rfl, HT, hB⟩ := hrel
    have HB := Lib.hid hB; clear hB
    by_cases hkN : k < N
    · go_wp2
      go_loopw [7, 8, 9] (fun v c i wq => ∃ j : Nat, j ≤ l.length ∧ i = .int .i64 j ∧ c = .int .i64 (endsS l k j).length ∧ wq.ownsRow w.heap.size 2 1 v (endsS l k j).length ((endsS l k j).flatMap encI) ∧ Below w.heap.size w wq) (fun _ _ i _ => l.length - (intOf i).toNat)
      case atStart => exact ⟨0, by omega, rfl, rfl, World.ownsRow_nil _ _ _ _, HB.out⟩
      case round =>
        clear HB
        obtain ⟨j, hj, rfl, rfl, hown, hB⟩ := hrel
        have HB := Lib.hid hB
        have Hown := Lib.hid hown
        clear hB hown
        have hel := endsS_len l k j
        by_cases hjn : j < l.length
        · have hbe := bit_eq k j
          obtain ⟨b1, o1, rfl, g1, g2⟩ := (Hl.out.below HB.out).at_ hjn
          have hyes := fun h => endsS_yes (s := k) hjn rfl h
          generalize l[j] = r at g1 g2 hyes
          obtain ⟨r1, r2⟩ := r
          dsimp only at g1 g2 hyes
          have Hyes := Lib.hid hyes
          clear hyes
          have hz := HB.out.size
          cases hq : bitS k j with
          | true =>
            rw [hq] at hbe
            have HP := Lib.hid (Hyes.out hq)
            clear hq Hyes
            obtain ⟨T, hT⟩ : ∃ T, T = endsS l k j := ⟨_, rfl⟩
            rw [← hT] at HP Hown hel
            rw [← hT]
            clear hT
            go_wp2_with (at_builtin; refine wpList_push _ rfl (.tmp 30) (.tmp 36) _ rfl elemI2 encI_len oneI Try.underlying23 w.heap.size _ T rfl (Hown.out.alloc _) (by omega) r2 _ rfl _ (by rfl) _ _ (heap_alloc_new _ _) (by rw [World.size_alloc]; omega) ?_; intro g cap w6 hown6 hg6; have HB6 := Lib.hid ((below_alloc' HB.out _).grown hg6 (by rw [World.size_alloc]; omega) (fun r e => own_base Hown.out r e)); have Hown6 := Lib.hid hown6; clear hown6 hg6)
            go_roundw
            case rel => exact ⟨j + 1, by omega, by go_num, by rw [HP.out, len_snoc]; go_num, by rw [HP.out, len_snoc]; exact Hown6.out, HB6.out⟩
            case measure => simp [intOf]; omega
          | false =>
            rw [hq] at hbe
            have HP := Lib.hid (endsS_no (l := l) hq)
            clear hq Hyes
            go_wp2
            go_roundw
            case rel => exact ⟨j + 1, by omega, by go_num, by rw [HP.out], by rw [HP.out]; exact Hown.out, HB.out⟩
            case measure => simp [intOf]; omega
        · have hjl : j = l.length := by omega
          subst hjl
          obtain ⟨C, c, rfl, hc⟩ := own_form Hown.out
          have HI : Hid (IntsAt wr C (endsS l k l.length)) := RowsAt.of_own encI_len Hown.out
          obtain ⟨T, hT⟩ : ∃ T, T = endsS l k l.length := ⟨_, rfl⟩
          have HTT := Lib.hid hT
          rw [← hT] at HI hel
          rw [← hT]
          clear hT Hown
          by_cases hst : steps < (T.length : Int)
          · have HN1 : Hid (BestTo l steps (k + 1) m) := HT.out.skip (by rw [← HTT.out]; exact hst)
            go_wp2
            go_roundw
            case rel => exact ⟨k + 1, m, by omega, hm9, rfl, by go_num, HN1, HB.out⟩
            case measure => simp [intOf]; omega
          · have hst' : decide (steps < (T.length : Int)) = false := by simpa using hst
            have HN1 : Hid (BestTo l steps (k + 1) (max m (hits l T))) := by rw [HTT.out]; exact HT.out.next (by rw [← HTT.out]; exact hst)
            obtain ⟨w3, hw3⟩ : ∃ w3, w3 = wr := ⟨_, rfl⟩
            subst hw3
            clear hst
            go_wp2
            go_loopw [10, 11] (fun c i wq => ∃ j : Nat, j ≤ l.length ∧ i = .int .i64 j ∧ c = .int .i64 (hitsTo l T j) ∧ Below w3.heap.size w3 wq) (fun _ i _ => l.length - (intOf i).toNat)
            case atStart => exact ⟨0, by omega, rfl, rfl, Below.refl _ _⟩
            case round =>
              obtain ⟨j, hj, rfl, rfl, hB⟩ := hrel
              have HB4 := Lib.hid hB
              clear hB
              have hjt := hitsTo_le l T j
              by_cases hjn : j < l.length
              · obtain ⟨b1, o1, rfl, g1, g2⟩ := ((Hl.out.below HB.out).below HB4.out).at_ hjn
                have hnx := hitsTo_next (x := T) hjn rfl
                generalize l[j] = r at g1 g2 hnx
                obtain ⟨r1, r2⟩ := r
                dsimp only at g1 g2
                have hme := meets_any (r1, r2) C c T wr (HI.out.below HB4.out) (by omega)
                unfold vR at hme
                have Hme := Lib.hid hme
                have Hnx := Lib.hid hnx
                clear hme hnx
                go_wp2_with fail
                refine Hme.out.mono ?_
                rintro e w5 ⟨v, rfl, rfl, hB5⟩
                clear Hme
                have HB5 := Lib.hid (below_trans' HB4.out hB5)
                clear hB5
                cases hq : T.any (onR (r1, r2)) with
                | true =>
                  have HP : Hid (hitsTo l T (j + 1) = hitsTo l T j + 1) := Lib.hid (by rw [Hnx.out, hq]; rfl)
                  clear hq Hnx
                  go_wp2
                  go_roundw
                  case rel => exact ⟨j + 1, by omega, by go_num, by rw [HP.out]; go_num, HB5.out⟩
                  case measure => simp [intOf]; omega
                | false =>
                  have HP : Hid (hitsTo l T (j + 1) = hitsTo l T j) := Lib.hid (by rw [Hnx.out, hq]; rfl)
                  clear hq Hnx
                  go_wp2
                  go_roundw
                  case rel => exact ⟨j + 1, by omega, by go_num, by rw [HP.out], HB5.out⟩
                  case measure => simp [intOf]; omega
              · have hjl : j = l.length := by omega
                subst hjl
                have hht : hitsTo l T l.length = hits l T := by unfold hitsTo hits; rw [List.take_length]
                rw [hht] at hjt
                rw [hht]
                clear hht
                generalize hits l T = h at HN1 hjt
                have hmx : max (m : Int) (h : Int) = ((max m h : Nat) : Int) := by omega
                go_wp2
                go_roundw
                case rel => exact ⟨k + 1, max m h, by omega, by omega, rfl, by go_num, HN1, below_trans' HB.out HB4.out⟩
                case measure => simp [intOf]; omega
    · go_wp2
      go_ret
      exact Ret.mk' rfl ⟨⟨m, rfl, by rw [show N = k by omega]; exact HT.out⟩, HB.out⟩
end Go.Proofs.Ytkjmeeggjmeajaa
