/- put: one number more in a rising list. By: a right scale, by numbers. -/
import Derived.Test.YtkjmeeggjmeajaaPC
namespace Go.Proofs.Ytkjmeeggjmeajaa
open Go.RowKit Go.Shelf

theorem putS_len (x : Int) (s : List Int) : (putS x s).length ≤ s.length + 1 := by
  unfold putS; split
  · exact putM_len x s
  · omega
theorem any_snoc_le (x y : Int) (s : List Int) : (s ++ [y]).any (fun y => decide (x ≤ y)) = (s.any (fun y => decide (x ≤ y)) || decide (x ≤ y)) := by simp
theorem putS_past {x y : Int} {s : List Int} (h : s.any (fun y => decide (x ≤ y)) = true) : putS x (s ++ [y]) = putS x s ++ [y] := by
  unfold putS; rw [any_snoc_le, h]; simp only [Bool.true_or, if_true]; exact putM_past x y s h
theorem putS_hit {x y : Int} {s : List Int} (h : s.any (fun y => decide (x ≤ y)) = false) (hy : x ≤ y) : putS x (s ++ [y]) = putS x s ++ (if x < y then [x, y] else [y]) := by
  unfold putS; rw [any_snoc_le, h, decide_eq_true hy]; simp only [Bool.or_true, if_true]; rw [putM_far x y hy s h]; rfl
theorem putS_low {x y : Int} {s : List Int} (h : s.any (fun y => decide (x ≤ y)) = false) (hy : ¬ x ≤ y) : putS x (s ++ [y]) = putS x s ++ [y] := by
  unfold putS; rw [any_snoc_le, h, decide_eq_false hy]; rfl

theorem own_snoc {α : Type} {w : World} {base : Nat} {e : TypeId} {size : Nat} {v : Value} {l : List α} {x : α} {xs : List Value} (h : w.ownsRow base e size v (l.length + 1) xs) : w.ownsRow base e size v (l ++ [x]).length xs := by rw [len_snoc]; exact h
set_option maxRecDepth 100000 in
set_option maxHeartbeats 1000000 in
theorem put_any (A : Option Addr) (ca : Nat) (s : List Int) (x : Int) (w : World) (hs : IntsAt w A s) (hn : s.length ≤ 1000) :
    Calls Try.prog 53 #[.slice A s.length ca, .int .i64 x] w (Ret fun v w' => (∃ C c, v = .slice C (putM x s).length c ∧ (putM x s).length ≤ c ∧ IntsAt w' C (putM x s)) ∧ Below w.heap.size w w') := by
  have Hs := Lib.hid hs; clear hs
  go_enter Try.func53, Try.ntmps53
  go_wp2
  go_loopw [5, 6, 7] (fun v d i wr => ∃ (k : Nat), k ≤ s.length ∧ i = .int .i64 k ∧ d = .bool ((s.take k).any fun y => decide (x ≤ y)) ∧ wr.ownsRow w.heap.size 2 1 v (putS x (s.take k)).length ((putS x (s.take k)).flatMap encI) ∧ Below w.heap.size w wr) (fun _ _ i _ => s.length - (intOf i).toNat)
  case atStart => exact ⟨0, by omega, rfl, rfl, by simpa [putS] using World.ownsRow_nil _ _ _ _, Below.refl _ _⟩
  case round =>
    obtain ⟨k, hk, rfl, rfl, hown, hB⟩ := hrel
    have HB := Lib.hid hB; clear hB
    have hlen := putS_len x (s.take k)
    rw [List.length_take, Nat.min_eq_left hk] at hlen
    obtain ⟨T, hT⟩ : ∃ T, T = putS x (s.take k) := ⟨_, rfl⟩
    rw [← hT] at hown hlen
    have HT := Lib.hid hT
    have Hown := Lib.hid hown
    clear hown hT
    generalize hD : (s.take k).any (fun y => decide (x ≤ y)) = D
    have HD := Lib.hid hD; clear hD
    by_cases hkn : k < s.length
    · obtain ⟨b, off, hbA, p1⟩ := IntsAt.at_ Hs.out hkn
      obtain ⟨b', off', hbA', g1⟩ := IntsAt.at_ (Hs.out.below HB.out) hkn
      subst hbA
      cases hbA'
      have htk := take_snoc hkn rfl
      generalize hx : s[k] = y at g1 p1 htk
      clear hx
      have Htk := Lib.hid htk; clear htk
      have hz := HB.out.size
      cases D
      · by_cases hxy : x ≤ y
        · have d1 : decide (x ≤ y) = true := by simpa using hxy
          have HN : Hid (((s.take (k + 1)).any fun y => decide (x ≤ y)) = true) := Lib.hid (by rw [Htk.out, any_snoc_le, d1, Bool.or_true])
          by_cases hlt : x < y
          · have d2 : decide (x < y) = true := by simpa using hlt
            have HP : Hid (putS x (s.take (k + 1)) = (T ++ [x]) ++ [y]) := Lib.hid (by rw [Htk.out, putS_hit HD.out hxy, if_pos hlt, HT.out]; simp)
            clear hxy hlt
            go_wp2_with (first | (at_builtin; have hz5 := HB5.out.size; refine wpList_push _ rfl (.tmp 34) (.tmp 39) _ rfl elemI2 encI_len oneI Try.underlying23 w.heap.size _ (T ++ [x]) rfl ((own_snoc Hown5.out).alloc _) (by first | omega | (rw [len_snoc]; omega)) y _ rfl _ (by rfl) _ _ (heap_alloc_new _ _) (by rw [World.size_alloc]; omega) ?_; intro g cap w6 hown6 hg6; have HB6 := Lib.hid ((below_alloc' HB5.out _).grown hg6 (by rw [World.size_alloc]; omega) (fun r e => own_base Hown5.out r e)); have Hown6 := Lib.hid hown6; clear hown6 hg6) | (at_builtin; refine wpList_push _ rfl (.tmp 30) (.tmp 32) _ rfl elemI2 encI_len oneI Try.underlying23 w.heap.size _ T rfl (Hown.out.alloc _) (by first | omega | (rw [len_snoc]; omega)) x _ rfl _ (by rfl) _ _ (heap_alloc_new _ _) (by rw [World.size_alloc]; omega) ?_; intro g cap w5 hown5 hg5; have HB5 := Lib.hid ((below_alloc' HB.out _).grown hg5 (by rw [World.size_alloc]; omega) (fun r e => own_base Hown.out r e)); have g5 := hg5.cell (cell_alloc g1 _) (own_ne Hown.out (Or.inl (block_lt_of_cell p1))); have Hown5 := Lib.hid hown5; clear hown5 hg5))
            go_roundw
            case rel => exact ⟨k + 1, by omega, by go_num, by rw [HN.out], by rw [HP.out, len_snoc, len_snoc]; rw [len_snoc] at Hown6; exact Hown6.out, HB6.out⟩
            case measure => simp [intOf]; omega
          · have d2 : decide (x < y) = false := by simpa using hlt
            have HP : Hid (putS x (s.take (k + 1)) = T ++ [y]) := Lib.hid (by rw [Htk.out, putS_hit HD.out hxy, if_neg hlt, HT.out])
            clear hxy hlt
            go_wp2_with (at_builtin; refine wpList_push _ rfl (.tmp 34) (.tmp 39) _ rfl elemI2 encI_len oneI Try.underlying23 w.heap.size _ T rfl (Hown.out.alloc _) (by first | omega | (rw [len_snoc]; omega)) y _ rfl _ (by rfl) _ _ (heap_alloc_new _ _) (by rw [World.size_alloc]; omega) ?_; intro g cap w6 hown6 hg6; have HB6 := Lib.hid ((below_alloc' HB.out _).grown hg6 (by rw [World.size_alloc]; omega) (fun r e => own_base Hown.out r e)); have Hown6 := Lib.hid hown6; clear hown6 hg6)
            go_roundw
            case rel => exact ⟨k + 1, by omega, by go_num, by rw [HN.out], by rw [HP.out, len_snoc]; exact Hown6.out, HB6.out⟩
            case measure => simp [intOf]; omega
        · have d1 : decide (x ≤ y) = false := by simpa using hxy
          have HN : Hid (((s.take (k + 1)).any fun y => decide (x ≤ y)) = false) := Lib.hid (by rw [Htk.out, any_snoc_le, d1, HD.out, Bool.or_false])
          have HP : Hid (putS x (s.take (k + 1)) = T ++ [y]) := Lib.hid (by rw [Htk.out, putS_low HD.out hxy, HT.out])
          clear hxy
          go_wp2_with (at_builtin; refine wpList_push _ rfl (.tmp 34) (.tmp 39) _ rfl elemI2 encI_len oneI Try.underlying23 w.heap.size _ T rfl (Hown.out.alloc _) (by first | omega | (rw [len_snoc]; omega)) y _ rfl _ (by rfl) _ _ (heap_alloc_new _ _) (by rw [World.size_alloc]; omega) ?_; intro g cap w6 hown6 hg6; have HB6 := Lib.hid ((below_alloc' HB.out _).grown hg6 (by rw [World.size_alloc]; omega) (fun r e => own_base Hown.out r e)); have Hown6 := Lib.hid hown6; clear hown6 hg6)
          go_roundw
          case rel => exact ⟨k + 1, by omega, by go_num, by rw [HN.out], by rw [HP.out, len_snoc]; exact Hown6.out, HB6.out⟩
          case measure => simp [intOf]; omega
      · have HN : Hid (((s.take (k + 1)).any fun y => decide (x ≤ y)) = true) := Lib.hid (by rw [Htk.out, any_snoc_le, HD.out, Bool.true_or])
        have HP : Hid (putS x (s.take (k + 1)) = T ++ [y]) := Lib.hid (by rw [Htk.out, putS_past HD.out, HT.out])
        go_wp2_with (at_builtin; refine wpList_push _ rfl (.tmp 34) (.tmp 39) _ rfl elemI2 encI_len oneI Try.underlying23 w.heap.size _ T rfl (Hown.out.alloc _) (by first | omega | (rw [len_snoc]; omega)) y _ rfl _ (by rfl) _ _ (heap_alloc_new _ _) (by rw [World.size_alloc]; omega) ?_; intro g cap w6 hown6 hg6; have HB6 := Lib.hid ((below_alloc' HB.out _).grown hg6 (by rw [World.size_alloc]; omega) (fun r e => own_base Hown.out r e)); have Hown6 := Lib.hid hown6; clear hown6 hg6)
        go_roundw
        case rel => exact ⟨k + 1, by omega, by go_num, by rw [HN.out], by rw [HP.out, len_snoc]; exact Hown6.out, HB6.out⟩
        case measure => simp [intOf]; omega
    · have hkl : k = s.length := by omega
      subst hkl
      have hT := HT.out
      have hD := HD.out
      rw [List.take_length] at hT hD
      have hz := HB.out.size
      cases D
      · have HP : Hid (putM x s = T ++ [x]) := Lib.hid (by rw [hT, putM_end x s hD]; unfold putS; rw [hD]; rfl)
        clear hT hD
        go_wp2_with (at_builtin; refine wpList_push _ rfl (.tmp 43) (.tmp 45) _ rfl elemI2 encI_len oneI Try.underlying23 w.heap.size _ T rfl (Hown.out.alloc _) (by first | omega | (rw [len_snoc]; omega)) x _ rfl _ (by rfl) _ _ (heap_alloc_new _ _) (by rw [World.size_alloc]; omega) ?_; intro g cap w6 hown6 hg6; have HB6 := Lib.hid ((below_alloc' HB.out _).grown hg6 (by rw [World.size_alloc]; omega) (fun r e => own_base Hown.out r e)); have Hown6 := Lib.hid hown6; clear hown6 hg6)
        obtain ⟨C, c, hv, hc⟩ := own_form Hown6.out
        have HR : Hid (IntsAt w6 C (T ++ [x])) := RowsAt.of_own encI_len (by rw [len_snoc, ← hv]; exact Hown6.out)
        cases hv
        go_ret
        exact Ret.mk' rfl ⟨⟨_, cap, by rw [HP.out, len_snoc]; rfl, by rw [HP.out, len_snoc]; exact hc, by rw [HP.out]; exact HR.out⟩, HB6.out⟩
      · have HP : Hid (putM x s = T) := Lib.hid (by rw [hT]; unfold putS; rw [hD]; rfl)
        clear hT hD
        obtain ⟨C, c, rfl, hc⟩ := own_form Hown.out
        have HR : Hid (IntsAt wr C T) := RowsAt.of_own encI_len Hown.out
        go_wp2
        go_ret
        exact Ret.mk' rfl ⟨⟨C, c, by rw [HP.out]; rfl, by rw [HP.out]; exact hc, by rw [HP.out]; exact HR.out⟩, HB.out⟩
def encU (x : Int) : List Value := [.int .u16 x]
def U16At (w : World) (A : Option Addr) (l : List Int) : Prop := RowsAt encU 1 w A l
theorem U16At.at_ {w : World} {A : Option Addr} {l : List Int} (h : U16At w A l) {i : Nat} (hi : i < l.length) : ∃ b off, A = some ⟨b, off, none⟩ ∧ w.cell? ⟨b, off + i, none⟩ = some (.int .u16 l[i]) := by
  obtain ⟨b, off, hA, hc⟩ := h i hi
  exact ⟨b, off, hA, by have := hc 0 _ rfl; simpa using this⟩

set_option maxRecDepth 100000 in
set_option maxHeartbeats 1000000 in
theorem by_any (A B : Option Addr) (ca cb : Nat) (l : List Rg) (u : List Int) (w : World) (hl : RangesAt w A l) (hu : U16At w B u) (h0 : songErr l = 0) (hun : u.length ≤ 1000) (hu2 : ∀ x ∈ u, 0 ≤ x ∧ x ≤ 65535) :
    Calls Try.prog 32 #[.slice A l.length ca, .slice B u.length cb] w (Ret fun v w' => (∃ C c x, v = .slice C x.length c ∧ x.length ≤ c ∧ IntsAt w' C x ∧ Right l x ∧ InCents x ∧ x.length ≤ l.length) ∧ Below w.heap.size w w') := by
  have Hl := Lib.hid hl; clear hl
  have Hu := Lib.hid hu; clear hu
  have Hu2 := Lib.hid hu2; clear hu2
  have hl24 := song_len24 h0
  have HG := Lib.hid (song_GoodR h0)
  clear h0
  go_enter Try.func32, Try.ntmps32
  go_wp2
  go_loopw [5, 6] (fun v i wr => ∃ (k : Nat) (C : Option Addr) (c : Nat) (x : List Int), k ≤ l.length ∧ i = .int .i64 k ∧ v = .slice C x.length c ∧ IntsAt wr C x ∧ x.length ≤ k ∧ Hid (x.length ≤ c ∧ Rises x ∧ InCents x ∧ ∀ r ∈ l.take k, Hit x r) ∧ Below w.heap.size w wr) (fun _ i _ => l.length - (intOf i).toNat)
  case atStart => exact ⟨0, none, 0, [], by omega, rfl, rfl, IntsAt.nil, by simp, ⟨by simp, List.Pairwise.nil, by simp [InCents], by simp⟩, Below.refl _ _⟩
  case round =>
    obtain ⟨k, C, c, x, hk, rfl, rfl, hx, hxk, HX, hB⟩ := hrel
    have HB := Lib.hid hB; clear hB
    have Hx := Lib.hid hx; clear hx
    by_cases hkn : k < l.length
    · obtain ⟨b, off, rfl, g1, g2⟩ := (Hl.out.below HB.out).at_ hkn
      have hgd := HG.out l[k] (List.getElem_mem hkn)
      have htk := take_snoc hkn rfl
      generalize hx : l[k] = r at g1 g2 hgd htk
      clear hx
      have Htk := Lib.hid htk; clear htk
      obtain ⟨r1, r2⟩ := r
      dsimp only at g1 g2 hgd
      have hme := meets_any (r1, r2) C c x wr Hx.out (by omega)
      unfold vR at hme
      have Hme := Lib.hid hme; clear hme
      go_wp2_with fail
      refine Hme.out.mono ?_
      rintro e w2 ⟨v2, rfl, rfl, hB2⟩
      clear Hme
      replace g1 := cell_below hB2 g1
      replace g2 := cell_below hB2 g2
      replace Hx := Lib.hid (Hx.out.below hB2)
      have HB2 := Lib.hid (below_trans' HB.out hB2); clear hB2
      cases hq : x.any (onR (r1, r2))
      · clear hq
        by_cases hu0 : 0 < u.length
        · have hpl : k % u.length < u.length := Nat.mod_lt _ hu0
          obtain ⟨p, hp⟩ : ∃ p, p = k % u.length := ⟨_, rfl⟩
          rw [← hp] at hpl
          have hrem : Int.tmod (k : Int) (u.length : Int) = (p : Int) := by rw [hp]; rfl
          obtain ⟨bu, ou, rfl, g3⟩ := U16At.at_ (w := w2) (Hu.out.below HB2.out) hpl
          have hy := Hu2.out u[p] (List.getElem_mem hpl)
          generalize u[p] = y at g3 hy
          have hz : 0 ≤ Int.tmod y (r2 - r1 + 1) ∧ Int.tmod y (r2 - r1 + 1) ≤ r2 - r1 := by
            rw [Int.tmod_eq_emod_of_nonneg hy.1]
            have h1 := Int.emod_nonneg y (show r2 - r1 + 1 ≠ 0 by omega)
            have h2 := Int.emod_lt_of_pos y (show 0 < r2 - r1 + 1 by omega)
            omega
          generalize hzz : Int.tmod y (r2 - r1 + 1) = z at hz
          have hwy : IntKind.i64.wrap y = y := IntWalk.i64_in _ (by omega)
          have hwd : IntKind.i64.wrap (r2 - r1) = r2 - r1 := IntWalk.i64_in _ (by omega)
          have hwd1 : IntKind.i64.wrap (r2 - r1 + 1) = r2 - r1 + 1 := IntWalk.i64_in _ (by omega)
          have hwz : IntKind.i64.wrap z = z := IntWalk.i64_in _ (by omega)
          have hws : IntKind.i64.wrap (r1 + z) = r1 + z := IntWalk.i64_in _ (by omega)
          clear hp
          go_wp2
          refine wp_region_quiet_lit (by kernel_rfl) (by kernel_rfl) ?_
          repeat (any_goals (first | go_big_quiet_step (fail) | quiet_step (fail) | (refine wpQuiet_step (fun K hK => ?_); go_simp; split <;> (refine hK _ ?_; clear hK K))))
          all_goals (refine wpQuiet_nil ?_; intro _ hw'; obtain ⟨nq, hw''⟩ := hw'; subst hw'')
          have hpt := put_any C c x (r1 + z) (w2.drewN nq) (Hx.out.drewN nq) (by omega)
          have Hpt := Lib.hid hpt
          clear hpt
          go_wp2_with fail
          refine Hpt.out.mono ?_
          rintro e w4 ⟨v4, rfl, ⟨C4, c4, rfl, hc4, hI4⟩, hB4⟩
          have hl4 := putM_len (r1 + z) x
          have HI4 := Lib.hid hI4
          have HB4 := Lib.hid (below_trans' (below_drewN HB2.out _) hB4)
          have HN : Hid ((putM (r1 + z) x).length ≤ c4 ∧ Rises (putM (r1 + z) x) ∧ InCents (putM (r1 + z) x) ∧ ∀ r ∈ l.take (k + 1), Hit (putM (r1 + z) x) r) := Lib.hid ⟨hc4, putM_rises _ HX.out.2.1, fun q hq => by
              rcases (putM_mem _ _ _).1 hq with rfl | hq
              · omega
              · exact HX.out.2.2.1 q hq, fun r hr => by
              rw [Htk.out] at hr
              rcases List.mem_append.1 hr with hr | hr
              · exact hit_putM (.inl (HX.out.2.2.2 r hr))
              · rw [List.mem_singleton.1 hr]; exact hit_putM (.inr (by dsimp only; omega))⟩
          clear hc4 hI4 hB4 Hpt
          go_wp2
          go_roundw
          case rel => exact ⟨k + 1, C4, c4, putM (r1 + z) x, by omega, by go_num, rfl, HI4.out, by omega, HN, HB4.out⟩
          case measure => simp [intOf]; omega
        · have hpt := put_any C c x (r1) w2 Hx.out (by omega)
          have Hpt := Lib.hid hpt
          clear hpt
          go_wp2_with fail
          refine Hpt.out.mono ?_
          rintro e w4 ⟨v4, rfl, ⟨C4, c4, rfl, hc4, hI4⟩, hB4⟩
          have hl4 := putM_len (r1) x
          have HI4 := Lib.hid hI4
          have HB4 := Lib.hid (below_trans' HB2.out hB4)
          have HN : Hid ((putM (r1) x).length ≤ c4 ∧ Rises (putM (r1) x) ∧ InCents (putM (r1) x) ∧ ∀ r ∈ l.take (k + 1), Hit (putM (r1) x) r) := Lib.hid ⟨hc4, putM_rises _ HX.out.2.1, fun q hq => by
              rcases (putM_mem _ _ _).1 hq with rfl | hq
              · omega
              · exact HX.out.2.2.1 q hq, fun r hr => by
              rw [Htk.out] at hr
              rcases List.mem_append.1 hr with hr | hr
              · exact hit_putM (.inl (HX.out.2.2.2 r hr))
              · rw [List.mem_singleton.1 hr]; exact hit_putM (.inr (by dsimp only; omega))⟩
          clear hc4 hI4 hB4 Hpt
          go_wp2
          go_roundw
          case rel => exact ⟨k + 1, C4, c4, putM (r1) x, by omega, by go_num, rfl, HI4.out, by omega, HN, HB4.out⟩
          case measure => simp [intOf]; omega
      · have HN : Hid (x.length ≤ c ∧ Rises x ∧ InCents x ∧ ∀ r ∈ l.take (k + 1), Hit x r) := Lib.hid ⟨HX.out.1, HX.out.2.1, HX.out.2.2.1, fun r hr => by
              rw [Htk.out] at hr
              rcases List.mem_append.1 hr with hr | hr
              · exact HX.out.2.2.2 r hr
              · rw [List.mem_singleton.1 hr]; exact (hit_iff x _).1 hq⟩
        clear hq
        go_wp2
        go_roundw
        case rel => exact ⟨k + 1, C, c, x, by omega, by go_num, rfl, Hx.out, by omega, HN, HB2.out⟩
        case measure => simp [intOf]; omega
    · have hkl : k = l.length := by omega
      subst hkl
      have hX := HX.out
      rw [List.take_length] at hX
      have HX2 := Lib.hid hX
      clear hX
      go_wp2
      go_ret
      exact Ret.mk' rfl ⟨⟨C, c, x, rfl, HX2.out.1, Hx.out, ⟨HX2.out.2.1, HX2.out.2.2.2⟩, HX2.out.2.2.1, hxk⟩, HB.out⟩
end Go.Proofs.Ytkjmeeggjmeajaa
