/- What some laws of the chapter rest on: Replayed, Runs. -/
import Derived.Test.YtkpmmgeffbhngaaGreatDoorC11
import Derived.Test.YtkpmmgeffbhngaaGreatDoorC43
import Derived.Test.YtkpmmgeffbhngaaGreatDoorC44
import Derived.Test.YtkpmmgeffbhngaaGreatDoorC45
set_option linter.unusedSimpArgs false
set_option linter.unusedVariables false
set_option linter.unnecessarySimpa false
namespace Prot
end Prot
namespace Go.Shelf
end Go.Shelf
namespace Go.Maps
end Go.Maps
namespace Prot
open Go.Lib
theorem text_fair_len (ls : List (List UInt8)) : ∀ cs : List Card, (textL (fairL ls cs)).length ≤ (textL ls).length := by
  induction ls with
  | nil => intro cs; exact Nat.le_refl _
  | cons l ls ih =>
    intro cs
    have e : textL (l :: ls) = (l ++ [10]) ++ textL ls := by unfold textL; simp
    cases cs with
    | nil => exact Nat.zero_le _
    | cons c cs =>
      have ih := ih cs
      by_cases k : c ≠ zeroC
      · have e2 : fairL (l :: ls) (c :: cs) = l :: fairL ls cs := by
          unfold fairL
          rw [List.zip_cons_cons, List.filter_cons_of_pos (by simpa using k), List.map_cons]
        have e3 : textL (l :: fairL ls cs) = (l ++ [10]) ++ textL (fairL ls cs) := by unfold textL; simp
        rw [e2, e3, e]
        simp only [List.length_append]; omega
      · have e2 : fairL (l :: ls) (c :: cs) = fairL ls cs := by
          unfold fairL
          rw [List.zip_cons_cons, List.filter_cons_of_neg (by simpa using k)]
        rw [e2, e, List.length_append]; omega
end Prot
namespace Go.Proofs.YtkpmmgeffbhngaaGreatDoor
open Go.RowKit
theorem own_ne {w : World} {base : Nat} {e : TypeId} {size : Nat} {v : Value} {n : Nat} {xs : List Value} (h : w.ownsRow base e size v n xs) {b : Nat} (hb : b < base ∨ w.heap.size ≤ b) : some b ≠ v.ownBlock := fun e => by
  obtain ⟨h1, h2⟩ := h.lt b e.symm; omega
section
variable {α : Type} {enc : α → List Value} {k : Nat} {w w' : World} {A : Option Addr} {l : List α}
end
section
variable {w w' : World} {A : Option Addr}
end
end Go.Proofs.YtkpmmgeffbhngaaGreatDoor
namespace Go.Proofs.YtkpmmgeffbhngaaGreatDoor
open Go.RowKit Prot Go.Lib
section
variable {w w' : World} {A : Option Addr}
end
/-- what find answers -/
def FindQ (l : List It) (n : Int) (v : Value) : Prop := (∃ (k : Nat) (h : k < l.length), v = .int .i64 k ∧ findI l n = some l[k]) ∨ (v = .int .i64 (-1) ∧ findI l n = none)
theorem findI_hit {l : List It} {n : Int} {k : Nat} (hk : k < l.length) (h : ∀ x ∈ l.take k, x.num ≠ n) (e : l[k].num = n) : findI l n = some l[k] := by
  have hs : l = l.take k ++ l[k] :: l.drop (k + 1) := by rw [List.getElem_cons_drop, List.take_append_drop]
  have h1 := findI_none h
  unfold findI at h1 ⊢
  generalize hy : l[k] = y at *
  rw [hs, List.find?_append, h1, Option.none_or, List.find?_cons_of_pos (by simpa using e)]
set_option maxRecDepth 100000 in
set_option maxHeartbeats 400000 in
theorem rfind_any (A : Option Addr) (ca : Nat) (l : List It) (n : Int) (w : World) (hl : ItemsAt w A l) (hn : l.length ≤ 100000) :
    Calls Tryz.prog 88 #[.slice A l.length ca, .int .i64 n] w (Ret fun v w' => FindQ l n v ∧ ∃ q, w' = w.drewN q) := by
  have Hl := Lib.hid hl; clear hl
  go_enter Tryz.func88, Tryz.ntmps88
  go_wp2
  go_loopw [5] (fun i wr => ∃ k q : Nat, k ≤ l.length ∧ i = .int .i64 k ∧ wr = w.drewN q ∧ Hid (∀ x ∈ l.take k, x.num ≠ n)) (fun i _ => l.length - (intOf i).toNat)
  case atStart => exact ⟨0, 0, by omega, rfl, rfl, Lib.hid fun x hx => by simp at hx⟩
  case round =>
    obtain ⟨k, q, hk, rfl, rfl, HM⟩ := hrel
    by_cases hkn : k < l.length
    · obtain ⟨bb, off, rfl, g1, -⟩ := Hl.out.at_ hkn
      have HN := Lib.hid (fun e => none_next hkn HM.out e)
      have HF := Lib.hid (fun e => findI_hit hkn HM.out e)
      have HX : Hid (∃ y : Int, l[k].num = y) := Lib.hid ⟨_, rfl⟩
      generalize hy : l[k].num = y at g1 HN HF
      clear hy HX HM
      have g1 : (w.drewN q).cell? ⟨bb, off + k * 7, none⟩ = some (.int .i64 y) := g1
      by_cases e : y = n
      · have e1 : (y == n) = true := by simpa using e
        have HR : Hid (FindQ l n (.int .i64 k)) := Lib.hid (.inl ⟨k, hkn, rfl, HF.out e⟩)
        clear e HF HN
        go_wp2
        go_ret
        exact Ret.mk ⟨HR.out, q, rfl⟩
      · have e1 : (y == n) = false := by simpa using e
        have HN2 := Lib.hid (HN.out e)
        clear e HF HN
        go_wp2
        go_roundw
        case rel => exact ⟨k + 1, _, by omega, by go_num, rfl, HN2⟩
        case measure => simp [intOf]; omega
    · have hkl : k = l.length := by omega
      subst hkl
      have HR : Hid (FindQ l n (.int .i64 (-1))) := Lib.hid (.inr ⟨rfl, findI_none (by have := HM.out; rwa [List.take_length] at this)⟩)
      clear HM
      go_wp2
      go_ret
      exact Ret.mk ⟨HR.out, q, rfl⟩
end Go.Proofs.YtkpmmgeffbhngaaGreatDoor
namespace Go.Proofs.YtkpmmgeffbhngaaGreatDoor
open Go.RowKit Go.Shelf Go.Maps
theorem own_mono {w : World} {base base' : Nat} {e : TypeId} {size : Nat} {v : Value} {n : Nat} {xs : List Value} (h : w.ownsRow base e size v n xs) (hb : base' ≤ base) : w.ownsRow base' e size v n xs :=
  ⟨h.1, h.2.imp id fun ⟨g, cap, cur, a, b, c⟩ => ⟨g, cap, cur, a, Nat.le_trans hb b, c⟩⟩
section
variable {α : Type} {enc : α → List Value} {e : TypeId} {size bytes : Nat} {z : Value}
end
section
variable {α : Type} {enc : α → List Value} {e : TypeId} {size bytes : Nat} {z : Value}
end
end Go.Proofs.YtkpmmgeffbhngaaGreatDoor
namespace Go.Proofs.YtkpmmgeffbhngaaGreatDoor
open Go.RowKit Prot Go.Lib
set_option maxRecDepth 100000 in
set_option maxHeartbeats 400000 in
theorem rfresh_any (j : Jn) (A : Option Addr) (ca : Nat) (n : Int) (w : World) (hl : ItemsAt w A j.items) (hn : j.items.length ≤ 100000) :
    Calls Tryz.prog 136 #[vState j A ca, .int .i64 n] w (Ret fun v w' => v = .int .i64 (freshE j n) ∧ Below w.heap.size w w') := by
  obtain ⟨dy, b, l⟩ := j
  dsimp only at hl hn
  have hw1 := heap_alloc_new w (.cells #[.int .i64 dy, .int .i64 b, .slice A l.length ca] 108)
  by_cases h0 : b = 0
  · have HE : Hid (freshE ⟨dy, b, l⟩ n = 9) := Lib.hid (by unfold freshE; rw [if_pos h0])
    have e0 : (b == 0) = true := by simpa using h0
    clear h0
    unfold vState
    dsimp only
    go_enter Tryz.func136, Tryz.ntmps136
    go_wp2
    go_ret
    exact Ret.mk' (by rw [HE.out]; rfl) ⟨rfl, below_alloc' (Below.refl _ _) _⟩
  · have e0 : (b == 0) = false := by simpa using h0
    have HF1 : Hid ((findI l n).isSome = true → freshE ⟨dy, b, l⟩ n = 11) := Lib.hid fun e => by unfold freshE; rw [if_neg h0, if_pos e]
    have HF2 : Hid (findI l n = none → 12 ≤ room l b → freshE ⟨dy, b, l⟩ n = 10) := Lib.hid fun e f => by unfold freshE; rw [if_neg h0, if_neg (by rw [e]; simp), if_pos f]
    have HF3 : Hid (findI l n = none → ¬ 12 ≤ room l b → freshE ⟨dy, b, l⟩ n = 0) := Lib.hid fun e f => by unfold freshE; rw [if_neg h0, if_neg (by rw [e]; simp), if_neg f]
    have hB := below_alloc' (Below.refl w.heap.size w) (.cells #[.int .i64 dy, .int .i64 b, .slice A l.length ca] 108)
    have Hi2 := Lib.hid (ItemsAt.alloc hl (.cells #[.int .i64 dy, .int .i64 b, .slice A l.length ca] 108))
    clear h0 hl
    unfold vState
    dsimp only
    go_enter Tryz.func136, Tryz.ntmps136
    go_wp2_with fail
    refine (rfind_any A ca l n _ Hi2.out hn).mono ?_
    rintro _ w2 ⟨v, rfl, HQ, q, rfl⟩
    rcases HQ with ⟨k, hk, rfl, e⟩ | ⟨rfl, e⟩
    · have HE := Lib.hid (HF1.out (by rw [e]; rfl))
      have d1 : decide ((k : Int) ≥ 0) = true := by simp
      clear HF1 HF2 HF3 e Hi2
      go_wp2
      go_ret
      exact Ret.mk' (by rw [HE.out]; rfl) ⟨rfl, below_drewN hB _⟩
    · have y1 : ((w.alloc (.cells #[.int .i64 dy, .int .i64 b, .slice A l.length ca] 108)).drewN q).cell? ⟨w.heap.size, 1, none⟩ = some (.int .i64 b) := (blk_cell hw1).trans rfl
      have y2 : ((w.alloc (.cells #[.int .i64 dy, .int .i64 b, .slice A l.length ca] 108)).drewN q).cell? ⟨w.heap.size, 2, none⟩ = some (.slice A l.length ca) := (blk_cell hw1).trans rfl
      have e := Lib.hid e
      go_wp2_with fail
      refine (rroom_any A ca l b _ (Hi2.out.drewN q) hn).mono ?_
      rintro _ w3 ⟨v, rfl, rfl, q2, rfl⟩
      by_cases h12 : 12 ≤ room l b
      · have HE := Lib.hid (HF2.out e.out h12)
        have d1 : decide (((room l b : Nat) : Int) ≥ 12) = true := by simp; omega
        clear HF1 HF2 HF3 e Hi2
        go_wp2
        go_ret
        exact Ret.mk' (by rw [HE.out]; rfl) ⟨rfl, below_drewN hB _⟩
      · have HE := Lib.hid (HF3.out e.out h12)
        have d1 : decide (((room l b : Nat) : Int) ≥ 12) = false := by simp; omega
        clear HF1 HF2 HF3 e Hi2
        go_wp2
        go_ret
        exact Ret.mk' (by rw [HE.out]; rfl) ⟨rfl, below_drewN hB _⟩
end Go.Proofs.YtkpmmgeffbhngaaGreatDoor
namespace Go.Proofs.YtkpmmgeffbhngaaGreatDoor
open Go.RowKit Prot Go.Lib Go.Maps
theorem flat_set1 {α : Type} {enc : α → List Value} {n : Nat} (hn : ∀ x, (enc x).length = n) : ∀ (l : List α) (k : Nat) (hk : k < l.length) (j : Nat) (_ : j < n) (x : α) (v : Value), enc x = (enc l[k]).set j v → (l.flatMap enc).set (k * n + j) v = (l.set k x).flatMap enc := fun l => by
  induction l with
  | nil => intro k hk; simp at hk
  | cons y l ih =>
    intro k hk j hj x v he
    rw [List.flatMap_cons]
    cases k with
    | zero =>
      simp only [List.getElem_cons_zero] at he
      rw [Nat.zero_mul, Nat.zero_add, List.set_append_left _ _ (by rw [hn]; exact hj), List.set_cons_zero, List.flatMap_cons, he]
    | succ k =>
      simp only [List.getElem_cons_succ] at he
      rw [List.set_append_right _ _ (by rw [hn, Nat.succ_mul]; omega), hn, show (k + 1) * n + j - n = k * n + j from by rw [Nat.succ_mul]; omega, ih k (by simpa using hk) j hj x v he, List.set_cons_succ, List.flatMap_cons]
theorem putI_set {l : List It} (h : (l.map It.num).Nodup) {k : Nat} (hk : k < l.length) (f : It → It) : putI l l[k].num f = l.set k (f l[k]) := by
  unfold putI
  apply List.ext_getElem
  · simp
  · intro i h1 h2
    rw [List.getElem_map, List.getElem_set]
    have hi : i < l.length := by simpa using h1
    by_cases e : k = i
    · subst e; simp
    · rw [if_neg e, if_neg]
      intro q
      have h3 := List.pairwise_iff_getElem.1 h
      rcases Nat.lt_or_gt_of_ne e with g | g
      · exact h3 k i (by simpa using hk) (by simpa using hi) g (by simpa using q.symm)
      · exact h3 i k (by simpa using hi) (by simpa using hk) g (by simpa using q)
theorem findI_at {l : List It} {n : Int} {k : Nat} (hk : k < l.length) (h : findI l n = some l[k]) : l[k].num = n := (findI_some h).2
section
variable {α : Type} {enc : α → List Value} {e : TypeId} {size bytes : Nat} {z : Value}
/-- an append of all elements of a slice -/
theorem wpList_append_all (w : World) {ops : Array Oper} {rest : List Oper} {o : Oper} {a : Act} {Q : Exit → Act → World → Prop}
    (hg : o.guard = none) (s x : Operand) (t : TypeId) (hop : o.op = Op.call { callee := Callee.builtin Builtin.append, args := #[s, x], argTypes := #[t, t] })
    (E : ElemT e size bytes z) (hk : ∀ x, (enc x).length = size) (h1 : ∀ x, ∀ u ∈ enc x, u.oneCell' = true) (ht : Tryz.prog.underlying t = some (.slice e)) (base : Nat)
    (v : Value) (xs l : List α) (hs : a.eval s = v) (hown : w.ownsRow base e size v xs.length (xs.flatMap enc)) (A : Option Addr) (ca : Nat) (hx : a.eval x = .slice A l.length ca) (hl : RowsAt enc size w A l) (hA : A = none → ca = 0)
    (hlen : xs.length + l.length ≤ 100000) (b3 : base ≤ w.heap.size)
    (hK : ∀ v' w', w'.ownsRow base e size v' (xs ++ l).length ((xs ++ l).flatMap enc) → w.grownBy w' v.ownBlock → wpList Tryz.prog ops Q rest (a.put o.dst v') w') :
    wpList Tryz.prog ops Q (o :: rest) a w := by
  obtain ⟨i0, hi, hz0, hz1, hz2⟩ := info_parts E.info
  cases A with
  | none =>
    have h0 : l = [] := by
      cases l with
      | nil => rfl
      | cons y r =>
        obtain ⟨b, off, hA', _⟩ := hl 0 (by simp)
        cases hA'
    subst h0
    have hc := hA rfl
    subst hc
    refine wpList_append_own_none hg s x t hop base e i0 size ht hi v xs.length _ hs hown hx ?_
    have := hK v w (by simpa using hown) (World.grownBy.refl _ _)
    exact this
  | some ad =>
    have hb : (xs.length + l.length) * bytes ≤ 100000 * 100 := Nat.mul_le_mul (by omega) E.small
    have hfl : ∀ l : List α, (l.flatMap enc).length = l.length * size := fun l => by
      induction l with
      | nil => simp
      | cons y r ih => rw [List.flatMap_cons, List.length_append, hk, ih, List.length_cons, Nat.succ_mul]; omega
    refine wpList_append_own w hg s x t hop base e i0 z size bytes ht hi hz0 hz1 hz2 E.zsz E.pos v xs.length _ hs hown ad l.length ca (l.flatMap enc) hx (hfl l) (fun j u hj => ?_) (fun u hu => ?_) (by simp only [maxLen]; omega) (by omega) b3 ?_
    · have hjl : j < (l.flatMap enc).length := (List.getElem?_eq_some_iff.1 hj).1
      rw [hfl] at hjl
      have hi1 : j / size < l.length := Nat.div_lt_of_lt_mul (by rw [Nat.mul_comm]; exact hjl)
      obtain ⟨b, off, hA', hc⟩ := hl (j / size) hi1
      have hA2 := Option.some.inj hA'
      subst hA2
      have hjm : j % size < size := Nat.mod_lt _ E.pos
      have e1 : j = j / size * size + j % size := by rw [Nat.mul_comm]; exact (Nat.div_add_mod j size).symm
      obtain ⟨u', hu'⟩ : ∃ u', (enc l[j / size])[j % size]? = some u' := ⟨_, List.getElem?_eq_getElem (by rw [hk l[j / size]]; exact hjm)⟩
      have h2 := flatMap_at hk _ _ hi1 u' hu'
      rw [← e1, hj] at h2
      have h4 := Option.some.inj h2
      subst h4
      have h3 := hc (j % size) u hu'
      have ea : (⟨b, off, none⟩ : Addr).add j = ⟨b, off + j / size * size + j % size, none⟩ := by
        unfold Addr.add
        by_cases hj0 : j = 0
        · subst hj0; simp
        · rw [if_neg hj0]
          show (⟨b, off + j, none⟩ : Addr) = _
          rw [Nat.add_assoc off, ← e1]
      rw [ea]; exact h3
    · obtain ⟨y, _, hy⟩ := List.mem_flatMap.1 hu
      exact h1 y u hy
    · intro v' w' hown' hgrow _
      exact hK v' w' (by rw [List.length_append, List.flatMap_append]; exact hown') hgrow
end
/-- an append onto a row of one's own: the cells of the row stay where they lay, too (where the row is laid anew the old one is not touched) -/
theorem run_append_keeps {P : Program} (w : World) (t ty : TypeId) (base : Nat) (e : TypeId) (i : TypeInfo) (z : Value) (size bytes : Nat) (ht : P.underlying t = some (.slice e)) (hi : P.info? e = some i) (hz : i.zero = some z)
    (hsize : i.size = size) (hby : i.bytes = bytes) (hzs : z.cells.size = size) (hsz : 0 < size)
    (v : Value) (n : Nat) (xs : List Value) (hown : w.ownsRow base e size v n xs)
    (ad : Addr) (m c : Nat) (news : List Value) (hl : news.length = m * size) (hnews : ∀ j u, news[j]? = some u → w.cell? (ad.add j) = some u) (h1 : ∀ u ∈ news, u.oneCell' = true)
    (hm : 0 < m) (h63 : n + m ≤ maxLen) (hbytes : (n + m) * bytes ≤ 140737488355328) (hbase : base ≤ w.heap.size) :
    ∃ g cap w', (Builtin.append_ #[t, t] ty #[v, .slice (some ad) m c]).run P w = .ok (.slice (some ⟨g, 0, none⟩) (n + m) cap) w' ∧
      w'.ownsRow base e size (.slice (some ⟨g, 0, none⟩) (n + m) cap) (n + m) (xs ++ news) ∧ w.grownBy w' v.ownBlock ∧ ∀ b j u, v.ownBlock = some b → xs[j]? = some u → w'.cell? ⟨b, j, none⟩ = some u := by
  obtain ⟨g, cap, w', hr, h2, h3, _, _⟩ := run_append_lies (P := P) w t ty base e i z size bytes ht hi hz hsize hby hzs hsz v n xs hown ad m c news hl hnews h1 hm h63 hbytes hbase _ rfl
  refine ⟨g, cap, w', hr, h2, h3, fun b j u hb hj => ?_⟩
  have hjl : j < xs.length := (List.getElem?_eq_some_iff.1 hj).1
  rcases hown.2 with ⟨rfl, rfl⟩ | ⟨g0, cap0, cur, rfl, hbg, hg, hnc, hcm, hcs, htake⟩
  · simp [Value.ownBlock] at hb
  · simp only [Value.ownBlock, Option.some.injEq] at hb
    subst hb
    subst hsize
    subst hby
    by_cases hroom : n + m ≤ cap0
    · have hfit : n * i.size + news.length ≤ cur.size := by rw [hl, hcs, ← Nat.add_mul]; exact Nat.mul_le_mul_right _ hroom
      have hr2 := run_append_room (P := P) w t ty e i ht hi g0 n cap0 cur hg ad m c news hl hnews h1 hroom hfit
      rw [hr] at hr2
      injection hr2 with e1 e2
      injection e1 with e1
      have e1 := Option.some.inj e1
      injection e1 with e1
      subst e1
      have h4 := h2.cells (g := g) rfl j u (by rw [List.getElem?_append_left hjl]; exact hj)
      by_cases h0 : j = 0
      · rw [h0] at h4 ⊢; exact h4
      · unfold Addr.add at h4; rw [if_neg h0] at h4; simpa using h4
    · have hsmall : n + m ≤ 9223372036854775807 := by simp only [maxLen] at h63; omega
      have holds : ∀ j u, xs[j]? = some u → w.cell? ((⟨g0, 0, none⟩ : Addr).add j) = some u := hown.cells (g := g0) rfl
      have hr2 := run_append_grow (P := P) w t ty e i z ht hi hz ⟨g0, 0, none⟩ n cap0 xs hown.1 holds ad m c news hl hnews (by omega) (by omega) (growslice_fits (by omega) hbytes)
      rw [hr] at hr2
      injection hr2 with e1 e2
      have h4 := holds j u hj
      have h5 : w.cell? ⟨g0, j, none⟩ = some u := by
        by_cases h0 : j = 0
        · rw [h0] at h4 ⊢; exact h4
        · unfold Addr.add at h4; rw [if_neg h0] at h4; simpa using h4
      rw [e2]
      exact cell_alloc (w := w.drew) h5 _
section
variable {α : Type} {enc : α → List Value} {e : TypeId} {size bytes : Nat} {z : Value}
/-- step_push, and the cells of the row stay -/
theorem step_push_keeps {ops : Array Oper} {o : Oper} {a : Act} {w : World} {K : Act → World → Prop} {Q : Exit → Act → World → Prop} {X : Prop}
    (hg : o.guard = none) (s x : Operand) (t : TypeId) (hop : o.op = Op.call { callee := Callee.builtin Builtin.append, args := #[s, x], argTypes := #[t, t] })
    (E : ElemT e size bytes z) (hk : ∀ x, (enc x).length = size) (h1 : ∀ x, ∀ u ∈ enc x, u.oneCell' = true) (ht : Tryz.prog.underlying t = some (.slice e)) (base : Nat)
    (v : Value) (l : List α) (hs : a.eval s = v) (hown : w.ownsRow base e size v l.length (l.flatMap enc)) (hlen : l.length ≤ 100000) (y : α) (B : Nat) (hx : a.eval x = .slice (some ⟨B, 0, none⟩) 1 1)
    (cs : Array Value) (hcs : cs.toList = enc y) (tt : TypeId) (fr : Nat × Nat) (hB : w.heap[B]? = some (.cells cs tt fr)) (b3 : base ≤ w.heap.size)
    (hK : ∀ g cap w', w'.ownsRow base e size (.slice (some ⟨g, 0, none⟩) (l.length + 1) cap) (l.length + 1) ((l ++ [y]).flatMap enc) → w.grownBy w' v.ownBlock → (∀ b j u, v.ownBlock = some b → (l.flatMap enc)[j]? = some u → w'.cell? ⟨b, j, none⟩ = some u) → K (a.put o.dst (.slice (some ⟨g, 0, none⟩) (l.length + 1) cap)) w') :
    if Region.wanted o (yielded ops a.tmps) = true then Oper.wp Tryz.prog o a w K Q else X := by
  obtain ⟨i0, hi, hz0, hz1, hz2⟩ := info_parts E.info
  have hb : (l.length + 1) * bytes ≤ 100001 * 100 := Nat.mul_le_mul (by omega) E.small
  have hw : Region.wanted o (yielded ops a.tmps) = true := by simp [Region.wanted, hg]
  rw [if_pos hw]
  obtain ⟨g, cap, w', hr, h2, h3, h4⟩ := run_append_keeps (P := Tryz.prog) w t o.type base e i0 z size bytes ht hi hz0 hz1 hz2 E.zsz E.pos v l.length (l.flatMap enc) hown ⟨B, 0, none⟩ 1 1 (enc y) (by rw [hk]; omega) (news_new hB hcs) (h1 y) (by omega) (by simp only [maxLen]; omega) (by omega) b3
  unfold Oper.wp execOp
  simp only [hop, resolve, invoke, builtin, Sem.run_bind, Sem.run_pure, Result.andThen_ok, List.map_toArray, List.map_cons, List.map_nil, hs, hx, hr]
  exact hK g cap w' (by rw [← push_flat]; exact h2) h3 h4
end
section
variable {w : World} {b : Nat} {a0 a1 a2 : Value} {ty : TypeId}
theorem three_cells (h : w.heap[b]? = some (.cells #[a0, a1, a2] ty (0, 0))) : w.cell? ⟨b, 0, none⟩ = some a0 ∧ w.cell? ⟨b, 1, none⟩ = some a1 ∧ w.cell? ⟨b, 2, none⟩ = some a2 ∧
    w.frozen? ⟨b, 0, none⟩ = false ∧ w.frozen? ⟨b, 1, none⟩ = false ∧ w.frozen? ⟨b, 2, none⟩ = false :=
  ⟨(blk_cell h).trans rfl, (blk_cell h).trans rfl, (blk_cell h).trans rfl, blk_frozen h, blk_frozen h, blk_frozen h⟩
theorem three_put (h : w.heap[b]? = some (.cells #[a0, a1, a2] ty (0, 0))) (u0 u1 u2 : Value) : (((w.setCell ⟨b, 0, none⟩ u0).setCell ⟨b, 1, none⟩ u1).setCell ⟨b, 2, none⟩ u2).heap[b]? = some (.cells #[u0, u1, u2] ty (0, 0)) :=
  blk_set (blk_set (blk_set h u0) u1) u2
theorem three_below {w0 : World} {B : Nat} (h : Below B w0 w) (hb : B ≤ b) (u0 u1 u2 : Value) : Below B w0 (((w.setCell ⟨b, 0, none⟩ u0).setCell ⟨b, 1, none⟩ u1).setCell ⟨b, 2, none⟩ u2) :=
  ((h.setCell (p := ⟨b, 0, none⟩) hb u0).setCell (p := ⟨b, 1, none⟩) hb u1).setCell (p := ⟨b, 2, none⟩) hb u2
theorem three_own {base : Nat} {e : TypeId} {size : Nat} {v : Value} {n : Nat} {xs : List Value} (h : w.ownsRow base e size v n xs) (hb : w.heap[b]? = some (.cells #[a0, a1, a2] ty (0, 0))) (hne : ty ≠ e) (u0 u1 u2 : Value) :
    (((w.setCell ⟨b, 0, none⟩ u0).setCell ⟨b, 1, none⟩ u1).setCell ⟨b, 2, none⟩ u2).ownsRow base e size v n xs :=
  have hn : v.ownBlock ≠ some b := fun e => own_ne_blk h hb hne e.symm
  ownsRow_setCell_other (ownsRow_setCell_other (ownsRow_setCell_other h (a := ⟨b, 0, none⟩) hn u0) (a := ⟨b, 1, none⟩) hn u1) (a := ⟨b, 2, none⟩) hn u2
theorem three_rows {α : Type} {enc : α → List Value} {k : Nat} {A : Option Addr} {l : List α} (h : RowsAt enc k w A l) (hne : ∀ g o, A = some ⟨g, o, none⟩ → l ≠ [] → g ≠ b) (u0 u1 u2 : Value) : RowsAt enc k (((w.setCell ⟨b, 0, none⟩ u0).setCell ⟨b, 1, none⟩ u1).setCell ⟨b, 2, none⟩ u2) A l := fun i hi => by
  obtain ⟨g, off, hA, hc⟩ := h i hi
  have hn := hne g off hA (by intro e; subst e; simp at hi)
  exact ⟨g, off, hA, fun j v hv => cell_far (cell_far (cell_far (hc j v hv) fun e => hn (by injection e)) fun e => hn (by injection e)) fun e => hn (by injection e)⟩
end
theorem DoW.held {b0 : Nat} {w W : World} {j : Jn} {k x y z : Int} {A G : Option Addr} {ca gc : Nat} (h : DoW b0 w W j (k, x, y, z) A ca G gc) :
    W.cell? ⟨w.heap.size, 0, none⟩ = some (.int .i64 j.day) ∧ W.cell? ⟨w.heap.size, 1, none⟩ = some (.int .i64 j.opn) ∧ W.cell? ⟨w.heap.size, 2, none⟩ = some (.slice A j.items.length ca) ∧ W.cell? ⟨w.heap.size + 1, 1, none⟩ = some (.int .i64 x) :=
  ⟨(blk_cell h.st).trans rfl, (blk_cell h.st).trans rfl, (blk_cell h.st).trans rfl, (blk_cell h.card).trans rfl⟩
theorem held_put {W : World} {b : Nat} {a0 a1 a2 a3 : Value} (h : W.cell? ⟨b, 0, none⟩ = some a0 ∧ W.cell? ⟨b, 1, none⟩ = some a1 ∧ W.cell? ⟨b, 2, none⟩ = some a2 ∧ W.cell? ⟨b + 1, 1, none⟩ = some a3) (u0 u1 u2 : Value) :
    (((W.setCell ⟨b + 2, 0, none⟩ u0).setCell ⟨b + 2, 1, none⟩ u1).setCell ⟨b + 2, 2, none⟩ u2).cell? ⟨b, 0, none⟩ = some a0 ∧ (((W.setCell ⟨b + 2, 0, none⟩ u0).setCell ⟨b + 2, 1, none⟩ u1).setCell ⟨b + 2, 2, none⟩ u2).cell? ⟨b, 1, none⟩ = some a1 ∧
    (((W.setCell ⟨b + 2, 0, none⟩ u0).setCell ⟨b + 2, 1, none⟩ u1).setCell ⟨b + 2, 2, none⟩ u2).cell? ⟨b, 2, none⟩ = some a2 ∧ (((W.setCell ⟨b + 2, 0, none⟩ u0).setCell ⟨b + 2, 1, none⟩ u1).setCell ⟨b + 2, 2, none⟩ u2).cell? ⟨b + 1, 1, none⟩ = some a3 := by
  have key : ∀ (c o : Nat) (v : Value), c ≠ b + 2 → W.cell? ⟨c, o, none⟩ = some v → (((W.setCell ⟨b + 2, 0, none⟩ u0).setCell ⟨b + 2, 1, none⟩ u1).setCell ⟨b + 2, 2, none⟩ u2).cell? ⟨c, o, none⟩ = some v := fun c o v hc h =>
    cell_far (cell_far (cell_far h fun e => hc (by injection e)) fun e => hc (by injection e)) fun e => hc (by injection e)
  exact ⟨key _ _ _ (by omega) h.1, key _ _ _ (by omega) h.2.1, key _ _ _ (by omega) h.2.2.1, key _ _ _ (by omega) h.2.2.2⟩
set_option maxRecDepth 100000 in
set_option maxHeartbeats 1000000 in
theorem rDo_day (j : Jn) (x y z : Int) (A : Option Addr) (ca b0 : Nat) (w : World) (hI : OwnIt w b0 A ca j.items) (hb0 : b0 ≤ w.heap.size) (hn : j.items.length ≤ 1000) (once : (j.items.map It.num).Nodup) :
    Calls Tryz.prog 108 #[vState j A ca, vCard (1, x, y, z)] w (Ret (DoQ j (1, x, y, z) b0 w)) := by
  obtain ⟨dy, op, l⟩ := j
  dsimp only at hn hI once ⊢
  have hl := hI.facts.1
  have hA := hI.facts.2.1
  have hold : ∀ g, (Value.slice A l.length ca).ownBlock = some g → g < w.heap.size := fun g h => (hI.lt g h).2
  have HIn := Lib.hid (((((show w.ownsRow b0 67 7 (.slice A l.length ca) l.length (l.flatMap encIt) from hI).alloc (.cells #[.int .i64 dy, .int .i64 op, .slice A l.length ca] 108)).alloc (.cells #[.int .i64 1, .int .i64 x, .int .i64 y, .int .i64 z] 36)).alloc (.cells #[.int .i64 0, .int .i64 0, .slice none 0 0] 108)).alloc (.cells #[] 67))
  have HIA : Hid (ItemsAt ((((w.alloc (.cells #[.int .i64 dy, .int .i64 op, .slice A l.length ca] 108)).alloc (.cells #[.int .i64 1, .int .i64 x, .int .i64 y, .int .i64 z] 36)).alloc (.cells #[.int .i64 0, .int .i64 0, .slice none 0 0] 108)).alloc (.cells #[] 67)) A l) := Lib.hid ((((ItemsAt.alloc hl _).alloc _).alloc _).alloc _)
  have hb4 := below_alloc' (below_alloc' (below_alloc' (below_alloc' (Below.refl w.heap.size w) (.cells #[.int .i64 dy, .int .i64 op, .slice A l.length ca] 108)) (.cells #[.int .i64 1, .int .i64 x, .int .i64 y, .int .i64 z] 36)) (.cells #[.int .i64 0, .int .i64 0, .slice none 0 0] 108)) (.cells #[] 67)
  have HOA := Lib.hid (World.ownsRow_lit (base := w.heap.size + 3) (e := 67) (size := 7) (((w.alloc (.cells #[.int .i64 dy, .int .i64 op, .slice A l.length ca] 108)).alloc (.cells #[.int .i64 1, .int .i64 x, .int .i64 y, .int .i64 z] 36)).alloc (.cells #[.int .i64 0, .int .i64 0, .slice none 0 0] 108)) #[] 0 (by simp) (by simp [maxLen]) rfl)
  have hs3 : (((w.alloc (.cells #[.int .i64 dy, .int .i64 op, .slice A l.length ca] 108)).alloc (.cells #[.int .i64 1, .int .i64 x, .int .i64 y, .int .i64 z] 36)).alloc (.cells #[.int .i64 0, .int .i64 0, .slice none 0 0] 108)).heap.size = w.heap.size + 3 := by simp
  rw [hs3] at HOA
  have Hb4 := Lib.hid hb4
  have HAn := Lib.hid hA
  have Hold := Lib.hid hold
  have Honce := Lib.hid once
  have hle : l.length ≤ 1000 := hn
  have Hb0 := Lib.hid hb0
  clear hb4 hs3 hl hA hold once hn hI hb0
  unfold vState vCard
  dsimp only
  go_enter Tryz.func108, Tryz.ntmps108
  go_upto_region 2 with (at_builtin; refine wpList_append_all _ rfl (.tmp 9) (.tmp 11) 44 rfl elemIt encIt_len oneIt Tryz.underlying44 (w.heap.size + 3) _ [] l (by rfl) HOA.out A ca (by rfl) HIA.out HAn.out (by simp; omega) (by simp) ?_; intro u w6 hO6 hg6)
  rw [List.nil_append] at hO6
  obtain ⟨G, gc, rfl, -⟩ := own_form hO6
  have hRo : OwnIt w6 b0 A ca l := HIn.out.kept hg6 (by
    cases hob : (Value.slice A l.length ca).ownBlock with
    | none => exact .inl rfl
    | some g =>
      refine .inr fun e => ?_
      have := Hold.out g hob
      simp [Value.ownBlock] at e
      omega)
  have hD : DoW b0 w w6 ⟨dy, op, l⟩ (1, x, y, z) A ca G gc := ⟨
    blk_grown hg6 (blk_alloc (blk_alloc (blk_alloc (heap_alloc_new w _) _) _) _) (by simp [Value.ownBlock]),
    blk_grown hg6 (blk_alloc (blk_alloc (heap_alloc_at _ _ (by simp)) _) _) (by simp [Value.ownBlock]),
    blk_grown hg6 (blk_alloc (heap_alloc_at _ _ (by simp)) _) (by simp [Value.ownBlock]),
    hO6, hRo, Hb4.out.grown hg6 (by simp; omega) (fun r e => by simp [Value.ownBlock] at e; omega)⟩
  have HD := Lib.hid hD
  clear hD hO6 hg6 HIA HOA Hb4 hRo HIn
  have y1 : w6.cell? ⟨w.heap.size + 1, 1, none⟩ = some (.int .i64 x) := (blk_cell HD.out.card).trans rfl
  go_wp2_with fail
  refine (rfind_any G gc l x _ HD.out.copy.1 (by omega)).mono ?_
  rintro _ w7 ⟨v, rfl, HQ, q, rfl⟩
  have HDq := Lib.hid (HD.out.drewN q)
  clear HD y1
  generalize w6.drewN q = W at HDq ⊢
  clear w6 q
  obtain ⟨p0, p1, p2, -, -, -⟩ := three_cells HDq.out.st
  obtain ⟨c0, c1, c2, c3, -, -, -, -⟩ := four_cells HDq.out.card
  obtain ⟨-, -, -, f0, f1, f2⟩ := three_cells HDq.out.res
  obtain ⟨r0, r1, r2, -, -, -⟩ := three_cells HDq.out.res
  dsimp only at p0 p1 p2 c0 c1 c2 c3
  clear HQ
  by_cases h : x ≤ dy
  · have HV : Hid (doV ⟨dy, op, l⟩ (1, x, y, z) = (⟨dy, op, l⟩, 12)) := Lib.hid (by unfold doV; dsimp only; rw [if_pos rfl, if_pos h])
    have t1 : decide (dy ≥ x) = true := decide_eq_true h
    have t2 : decide (x ≤ dy) = true := decide_eq_true h
    clear h
    go_wp2
    (try simp only [Exit.inBlock, Exit.then])
    refine bodyPost_ret (results_row_tmp rfl _ _ (w.heap.size + 2) _ _ _ _ rfl (three_put HDq.out.res _ _ _) Tryz.underlying108 rfl rfl) rfl ?_
    exact Ret.mk (DoQ.mk HV.out rfl rfl (three_own HDq.out.inp HDq.out.res (by decide) _ _ _) (three_below HDq.out.below (by omega) _ _ _))
  · have HV : Hid (doV ⟨dy, op, l⟩ (1, x, y, z) = (⟨x, op, l⟩, 0)) := Lib.hid (by unfold doV; dsimp only; rw [if_pos rfl, if_neg h])
    have t1 : decide (dy ≥ x) = false := decide_eq_false h
    have t2 : decide (x ≤ dy) = false := decide_eq_false h
    clear h
    go_wp2
    (try simp only [Exit.inBlock, Exit.then])
    refine bodyPost_ret (results_row_tmp rfl _ _ (w.heap.size + 2) _ _ _ _ rfl (three_put HDq.out.res _ _ _) Tryz.underlying108 rfl rfl) rfl ?_
    exact Ret.mk (DoQ.mk HV.out rfl rfl (three_own (own_mono HDq.out.own (by have := Hb0.out; omega)) HDq.out.res (by decide) _ _ _) (three_below HDq.out.below (by omega) _ _ _))
set_option maxRecDepth 100000 in
set_option maxHeartbeats 1000000 in
theorem rDo_box (j : Jn) (x y z : Int) (A : Option Addr) (ca b0 : Nat) (w : World) (hI : OwnIt w b0 A ca j.items) (hb0 : b0 ≤ w.heap.size) (hn : j.items.length ≤ 1000) (once : (j.items.map It.num).Nodup) :
    Calls Tryz.prog 108 #[vState j A ca, vCard (2, x, y, z)] w (Ret (DoQ j (2, x, y, z) b0 w)) := by
  obtain ⟨dy, op, l⟩ := j
  dsimp only at hn hI once ⊢
  have hl := hI.facts.1
  have hA := hI.facts.2.1
  have hold : ∀ g, (Value.slice A l.length ca).ownBlock = some g → g < w.heap.size := fun g h => (hI.lt g h).2
  have HIn := Lib.hid (((((show w.ownsRow b0 67 7 (.slice A l.length ca) l.length (l.flatMap encIt) from hI).alloc (.cells #[.int .i64 dy, .int .i64 op, .slice A l.length ca] 108)).alloc (.cells #[.int .i64 2, .int .i64 x, .int .i64 y, .int .i64 z] 36)).alloc (.cells #[.int .i64 0, .int .i64 0, .slice none 0 0] 108)).alloc (.cells #[] 67))
  have HIA : Hid (ItemsAt ((((w.alloc (.cells #[.int .i64 dy, .int .i64 op, .slice A l.length ca] 108)).alloc (.cells #[.int .i64 2, .int .i64 x, .int .i64 y, .int .i64 z] 36)).alloc (.cells #[.int .i64 0, .int .i64 0, .slice none 0 0] 108)).alloc (.cells #[] 67)) A l) := Lib.hid ((((ItemsAt.alloc hl _).alloc _).alloc _).alloc _)
  have hb4 := below_alloc' (below_alloc' (below_alloc' (below_alloc' (Below.refl w.heap.size w) (.cells #[.int .i64 dy, .int .i64 op, .slice A l.length ca] 108)) (.cells #[.int .i64 2, .int .i64 x, .int .i64 y, .int .i64 z] 36)) (.cells #[.int .i64 0, .int .i64 0, .slice none 0 0] 108)) (.cells #[] 67)
  have HOA := Lib.hid (World.ownsRow_lit (base := w.heap.size + 3) (e := 67) (size := 7) (((w.alloc (.cells #[.int .i64 dy, .int .i64 op, .slice A l.length ca] 108)).alloc (.cells #[.int .i64 2, .int .i64 x, .int .i64 y, .int .i64 z] 36)).alloc (.cells #[.int .i64 0, .int .i64 0, .slice none 0 0] 108)) #[] 0 (by simp) (by simp [maxLen]) rfl)
  have hs3 : (((w.alloc (.cells #[.int .i64 dy, .int .i64 op, .slice A l.length ca] 108)).alloc (.cells #[.int .i64 2, .int .i64 x, .int .i64 y, .int .i64 z] 36)).alloc (.cells #[.int .i64 0, .int .i64 0, .slice none 0 0] 108)).heap.size = w.heap.size + 3 := by simp
  rw [hs3] at HOA
  have Hb4 := Lib.hid hb4
  have HAn := Lib.hid hA
  have Hold := Lib.hid hold
  have Honce := Lib.hid once
  have hle : l.length ≤ 1000 := hn
  have Hb0 := Lib.hid hb0
  clear hb4 hs3 hl hA hold once hn hI hb0
  unfold vState vCard
  dsimp only
  go_enter Tryz.func108, Tryz.ntmps108
  go_upto_region 2 with (at_builtin; refine wpList_append_all _ rfl (.tmp 9) (.tmp 11) 44 rfl elemIt encIt_len oneIt Tryz.underlying44 (w.heap.size + 3) _ [] l (by rfl) HOA.out A ca (by rfl) HIA.out HAn.out (by simp; omega) (by simp) ?_; intro u w6 hO6 hg6)
  rw [List.nil_append] at hO6
  obtain ⟨G, gc, rfl, -⟩ := own_form hO6
  have hRo : OwnIt w6 b0 A ca l := HIn.out.kept hg6 (by
    cases hob : (Value.slice A l.length ca).ownBlock with
    | none => exact .inl rfl
    | some g =>
      refine .inr fun e => ?_
      have := Hold.out g hob
      simp [Value.ownBlock] at e
      omega)
  have hD : DoW b0 w w6 ⟨dy, op, l⟩ (2, x, y, z) A ca G gc := ⟨
    blk_grown hg6 (blk_alloc (blk_alloc (blk_alloc (heap_alloc_new w _) _) _) _) (by simp [Value.ownBlock]),
    blk_grown hg6 (blk_alloc (blk_alloc (heap_alloc_at _ _ (by simp)) _) _) (by simp [Value.ownBlock]),
    blk_grown hg6 (blk_alloc (heap_alloc_at _ _ (by simp)) _) (by simp [Value.ownBlock]),
    hO6, hRo, Hb4.out.grown hg6 (by simp; omega) (fun r e => by simp [Value.ownBlock] at e; omega)⟩
  have HD := Lib.hid hD
  clear hD hO6 hg6 HIA HOA Hb4 hRo HIn
  have y1 : w6.cell? ⟨w.heap.size + 1, 1, none⟩ = some (.int .i64 x) := (blk_cell HD.out.card).trans rfl
  go_wp2_with fail
  refine (rfind_any G gc l x _ HD.out.copy.1 (by omega)).mono ?_
  rintro _ w7 ⟨v, rfl, HQ, q, rfl⟩
  have HDq := Lib.hid (HD.out.drewN q)
  clear HD y1
  generalize w6.drewN q = W at HDq ⊢
  clear w6 q
  obtain ⟨p0, p1, p2, -, -, -⟩ := three_cells HDq.out.st
  obtain ⟨c0, c1, c2, c3, -, -, -, -⟩ := four_cells HDq.out.card
  obtain ⟨-, -, -, f0, f1, f2⟩ := three_cells HDq.out.res
  obtain ⟨r0, r1, r2, -, -, -⟩ := three_cells HDq.out.res
  dsimp only at p0 p1 p2 c0 c1 c2 c3
  clear HQ
  by_cases h : dy = 0
  · have HV : Hid (doV ⟨dy, op, l⟩ (2, x, y, z) = (⟨dy, op, l⟩, 9)) := Lib.hid (by unfold doV; dsimp only; rw [if_neg (by omega), if_pos rfl, if_pos h])
    have t1 : (dy == 0) = true := by simpa using h
    clear h
    go_wp2
    (try simp only [Exit.inBlock, Exit.then])
    refine bodyPost_ret (results_row_tmp rfl _ _ (w.heap.size + 2) _ _ _ _ rfl (three_put HDq.out.res _ _ _) Tryz.underlying108 rfl rfl) rfl ?_
    exact Ret.mk (DoQ.mk HV.out rfl rfl (three_own HDq.out.inp HDq.out.res (by decide) _ _ _) (three_below HDq.out.below (by omega) _ _ _))
  · have HV : Hid (doV ⟨dy, op, l⟩ (2, x, y, z) = (⟨dy, x, l⟩, 0)) := Lib.hid (by unfold doV; dsimp only; rw [if_neg (by omega), if_pos rfl, if_neg h])
    have t1 : (dy == 0) = false := by simpa using h
    clear h
    go_wp2
    (try simp only [Exit.inBlock, Exit.then])
    refine bodyPost_ret (results_row_tmp rfl _ _ (w.heap.size + 2) _ _ _ _ rfl (three_put HDq.out.res _ _ _) Tryz.underlying108 rfl rfl) rfl ?_
    exact Ret.mk (DoQ.mk HV.out rfl rfl (three_own (own_mono HDq.out.own (by have := Hb0.out; omega)) HDq.out.res (by decide) _ _ _) (three_below HDq.out.below (by omega) _ _ _))
set_option maxRecDepth 100000 in
set_option maxHeartbeats 1000000 in
theorem rDo_sing (j : Jn) (x y z : Int) (A : Option Addr) (ca b0 : Nat) (w : World) (hI : OwnIt w b0 A ca j.items) (hb0 : b0 ≤ w.heap.size) (hn : j.items.length ≤ 1000) (once : (j.items.map It.num).Nodup) :
    Calls Tryz.prog 108 #[vState j A ca, vCard (3, x, y, z)] w (Ret (DoQ j (3, x, y, z) b0 w)) := by
  obtain ⟨dy, op, l⟩ := j
  dsimp only at hn hI once ⊢
  have hl := hI.facts.1
  have hA := hI.facts.2.1
  have hold : ∀ g, (Value.slice A l.length ca).ownBlock = some g → g < w.heap.size := fun g h => (hI.lt g h).2
  have HIn := Lib.hid (((((show w.ownsRow b0 67 7 (.slice A l.length ca) l.length (l.flatMap encIt) from hI).alloc (.cells #[.int .i64 dy, .int .i64 op, .slice A l.length ca] 108)).alloc (.cells #[.int .i64 3, .int .i64 x, .int .i64 y, .int .i64 z] 36)).alloc (.cells #[.int .i64 0, .int .i64 0, .slice none 0 0] 108)).alloc (.cells #[] 67))
  have HIA : Hid (ItemsAt ((((w.alloc (.cells #[.int .i64 dy, .int .i64 op, .slice A l.length ca] 108)).alloc (.cells #[.int .i64 3, .int .i64 x, .int .i64 y, .int .i64 z] 36)).alloc (.cells #[.int .i64 0, .int .i64 0, .slice none 0 0] 108)).alloc (.cells #[] 67)) A l) := Lib.hid ((((ItemsAt.alloc hl _).alloc _).alloc _).alloc _)
  have hb4 := below_alloc' (below_alloc' (below_alloc' (below_alloc' (Below.refl w.heap.size w) (.cells #[.int .i64 dy, .int .i64 op, .slice A l.length ca] 108)) (.cells #[.int .i64 3, .int .i64 x, .int .i64 y, .int .i64 z] 36)) (.cells #[.int .i64 0, .int .i64 0, .slice none 0 0] 108)) (.cells #[] 67)
  have HOA := Lib.hid (World.ownsRow_lit (base := w.heap.size + 3) (e := 67) (size := 7) (((w.alloc (.cells #[.int .i64 dy, .int .i64 op, .slice A l.length ca] 108)).alloc (.cells #[.int .i64 3, .int .i64 x, .int .i64 y, .int .i64 z] 36)).alloc (.cells #[.int .i64 0, .int .i64 0, .slice none 0 0] 108)) #[] 0 (by simp) (by simp [maxLen]) rfl)
  have hs3 : (((w.alloc (.cells #[.int .i64 dy, .int .i64 op, .slice A l.length ca] 108)).alloc (.cells #[.int .i64 3, .int .i64 x, .int .i64 y, .int .i64 z] 36)).alloc (.cells #[.int .i64 0, .int .i64 0, .slice none 0 0] 108)).heap.size = w.heap.size + 3 := by simp
  rw [hs3] at HOA
  have Hb4 := Lib.hid hb4
  have HAn := Lib.hid hA
  have Hold := Lib.hid hold
  have Honce := Lib.hid once
  have hle : l.length ≤ 1000 := hn
  have Hb0 := Lib.hid hb0
  clear hb4 hs3 hl hA hold once hn hI hb0
  unfold vState vCard
  dsimp only
  go_enter Tryz.func108, Tryz.ntmps108
  go_upto_region 2 with (at_builtin; refine wpList_append_all _ rfl (.tmp 9) (.tmp 11) 44 rfl elemIt encIt_len oneIt Tryz.underlying44 (w.heap.size + 3) _ [] l (by rfl) HOA.out A ca (by rfl) HIA.out HAn.out (by simp; omega) (by simp) ?_; intro u w6 hO6 hg6)
  rw [List.nil_append] at hO6
  obtain ⟨G, gc, rfl, -⟩ := own_form hO6
  have hRo : OwnIt w6 b0 A ca l := HIn.out.kept hg6 (by
    cases hob : (Value.slice A l.length ca).ownBlock with
    | none => exact .inl rfl
    | some g =>
      refine .inr fun e => ?_
      have := Hold.out g hob
      simp [Value.ownBlock] at e
      omega)
  have hD : DoW b0 w w6 ⟨dy, op, l⟩ (3, x, y, z) A ca G gc := ⟨
    blk_grown hg6 (blk_alloc (blk_alloc (blk_alloc (heap_alloc_new w _) _) _) _) (by simp [Value.ownBlock]),
    blk_grown hg6 (blk_alloc (blk_alloc (heap_alloc_at _ _ (by simp)) _) _) (by simp [Value.ownBlock]),
    blk_grown hg6 (blk_alloc (heap_alloc_at _ _ (by simp)) _) (by simp [Value.ownBlock]),
    hO6, hRo, Hb4.out.grown hg6 (by simp; omega) (fun r e => by simp [Value.ownBlock] at e; omega)⟩
  have HD := Lib.hid hD
  clear hD hO6 hg6 HIA HOA Hb4 hRo HIn
  have y1 : w6.cell? ⟨w.heap.size + 1, 1, none⟩ = some (.int .i64 x) := (blk_cell HD.out.card).trans rfl
  go_wp2_with fail
  refine (rfind_any G gc l x _ HD.out.copy.1 (by omega)).mono ?_
  rintro _ w7 ⟨v, rfl, HQ, q, rfl⟩
  have HDq := Lib.hid (HD.out.drewN q)
  clear HD y1
  generalize w6.drewN q = W at HDq ⊢
  clear w6 q
  obtain ⟨p0, p1, p2, -, -, -⟩ := three_cells HDq.out.st
  obtain ⟨c0, c1, c2, c3, -, -, -, -⟩ := four_cells HDq.out.card
  obtain ⟨-, -, -, f0, f1, f2⟩ := three_cells HDq.out.res
  obtain ⟨r0, r1, r2, -, -, -⟩ := three_cells HDq.out.res
  dsimp only at p0 p1 p2 c0 c1 c2 c3
  clear HQ
  have HF : Hid (∀ V, ItemsAt V A l → Calls Tryz.prog 136 #[.agg #[.int .i64 dy, .int .i64 op, .slice A l.length ca], .int .i64 x] V (Ret fun v w' => v = .int .i64 (freshE ⟨dy, op, l⟩ x) ∧ Below V.heap.size V w')) := Lib.hid fun V h => rfresh_any ⟨dy, op, l⟩ A ca x V h (by dsimp only; omega)
  go_wp2_with fail
  refine (HF.out _ HDq.out.rows).mono ?_
  rintro _ w8 ⟨v, rfl, rfl, hB8⟩
  have HD8 := Lib.hid (HDq.out.go hB8)
  clear p0 p1 p2 c0 c1 c2 c3 f0 f1 f2 r0 r1 r2 hB8 HDq
  obtain ⟨p0, p1, p2, -, -, -⟩ := three_cells HD8.out.st
  obtain ⟨c0, c1, c2, c3, -, -, -, -⟩ := four_cells HD8.out.card
  dsimp only at p0 p1 p2 c0 c1 c2 c3
  by_cases hf : freshE ⟨dy, op, l⟩ x = 0
  rotate_left 1
  · have HV : Hid (doV ⟨dy, op, l⟩ (3, x, y, z) = (⟨dy, op, l⟩, freshE ⟨dy, op, l⟩ x)) := Lib.hid (by unfold doV; dsimp only; rw [if_neg (by omega), if_neg (by omega), if_pos rfl, if_pos hf])
    generalize freshE ⟨dy, op, l⟩ x = er at *
    have t1 : (er != 0) = true := by simpa using hf
    clear hf
    go_upto_region 13 with fail
    have HDd := Lib.hid HD8.out.drew
    clear HD8
    refine wp_region_held_drew (S := fun V => V.cell? ⟨w.heap.size, 0, none⟩ = some (.int .i64 dy) ∧ V.cell? ⟨w.heap.size, 1, none⟩ = some (.int .i64 op) ∧ V.cell? ⟨w.heap.size, 2, none⟩ = some (.slice A l.length ca) ∧ V.cell? ⟨w.heap.size + 1, 1, none⟩ = some (.int .i64 x)) (by kernel_rfl) ⟨p0, p1, p2, c1⟩ (fun hS9 => ?_)
    clear p0 p1 p2 c0 c1 c2 c3 hS9
    generalize w8.drew = W9 at HDd ⊢
    have hq := HDd.out.held
    dsimp only at hq
    refine wpAnyH_take (i := 0) (v := ?_) rfl (by kernel_rfl) (by kernel_rfl) (by kernel_rfl) (fun _ _ _ h => h) (Or.inl ⟨by rfl, ?_⟩) hq ?_
    rotate_left 1
    · intro W hW; obtain ⟨s0, s1, s2, s3⟩ := hW; go_simp <;> with_reducible rfl
    refine wpAnyH_take (i := 1) (v := ?_) rfl (by kernel_rfl) (by kernel_rfl) (by kernel_rfl) (fun _ _ _ h => h) (Or.inl ⟨by rfl, ?_⟩) hq ?_
    rotate_left 1
    · intro W hW; obtain ⟨s0, s1, s2, s3⟩ := hW; go_simp <;> with_reducible rfl
    refine wpAnyH_take (i := 2) (v := ?_) rfl (by kernel_rfl) (by kernel_rfl) (by kernel_rfl) (fun _ _ _ h => h) (Or.inl ⟨by rfl, ?_⟩) hq ?_
    rotate_left 1
    · intro W hW; obtain ⟨s0, s1, s2, s3⟩ := hW; go_simp <;> with_reducible rfl
    refine wpAnyH_take (i := 3) (v := ?_) rfl (by kernel_rfl) (by kernel_rfl) (by kernel_rfl) (fun _ _ _ h => h) (Or.inl ⟨by rfl, ?_⟩) hq ?_
    rotate_left 1
    · intro W hW; obtain ⟨s0, s1, s2, s3⟩ := hW; go_simp <;> with_reducible rfl
    simp only [Act.put, List.setIfInBounds_toArray]
    clear hq
    refine wpAnyH_ready (rs := [4]) (by kernel_rfl) (by simp) ?_
    refine AllReadyH.cons rfl (fun K hK => ?_) AllReadyH.nil
    go_simp
    refine (HF.out _ HDd.out.rows).mono ?_
    rintro e V4 ⟨v, rfl, rfl, hb⟩
    have HD4 := Lib.hid (HDd.out.go hb)
    clear hb HDd
    have hq := Lib.hid HD4.out.held
    refine hK.out _ _ hq.out (fun _ => ?_)
    clear hK K
    obtain ⟨r0, r1, r2, f0, f1, f2⟩ := three_cells HD4.out.res
    refine wpAnyH_ready (rs := [5]) (by kernel_rfl) (by simp) ?_
    refine AllReadyH.cons rfl (fun K hK => ?_) AllReadyH.nil
    go_simp
    refine hK.out _ _ (held_put hq.out _ _ _) (fun _ => ?_)
    clear hK K
    refine wpAnyH_ready (rs := [6]) (by kernel_rfl) (by simp) ?_
    refine AllReadyH.cons rfl (fun K hK => ?_) AllReadyH.nil
    go_simp
    refine hK.out _ _ (held_put hq.out _ _ _) (fun _ => ?_)
    clear hK K
    refine wpAnyH_done (by kernel_rfl) ?_ _
    go_wp2
    (try simp only [Exit.inBlock, Exit.then])
    refine bodyPost_ret (results_row_tmp rfl _ _ (w.heap.size + 2) _ _ _ _ rfl (three_put HD4.out.res _ _ _) Tryz.underlying108 rfl rfl) rfl ?_
    exact Ret.mk (DoQ.mk HV.out rfl rfl (three_own HD4.out.inp HD4.out.res (by decide) _ _ _) (three_below HD4.out.below (by omega) _ _ _))
  have HV : Hid (doV ⟨dy, op, l⟩ (3, x, y, z) = (⟨dy, op, l ++ [⟨x, op, dy, y, z, 0, false⟩]⟩, 0)) := Lib.hid (by unfold doV; dsimp only; rw [if_neg (by omega), if_neg (by omega), if_pos rfl, if_neg (by omega)])
  rw [hf]
  clear hf
  have hsz8 := blk_lt HD8.out.res
  have hbk := heap_alloc_new w8 (.cells #[.int .i64 x, .int .i64 op, .int .i64 dy, .int .i64 y, .int .i64 z, .int .i64 0, .bool false] 67)
  have HOA := Lib.hid (HD8.out.own.alloc (.cells #[.int .i64 x, .int .i64 op, .int .i64 dy, .int .i64 y, .int .i64 z, .int .i64 0, .bool false] 67))
  dsimp only at HOA
  go_upto_region 15 with (at_builtin; go_must (refine wpList_push _ rfl (.tmp 58) (.tmp 70) 44 rfl elemIt encIt_len oneIt Tryz.underlying44 (w.heap.size + 3) (.slice G l.length gc) l (by rfl) HOA.out (by omega) ⟨x, op, dy, y, z, 0, false⟩ w8.heap.size (by rfl) _ rfl _ _ hbk (by rw [World.size_alloc]; omega) ?_); intro g2 cap w9 hO9 hg9)
  have hcap : Hid (l.length + 1 ≤ cap) := Lib.hid (by obtain ⟨A', c', e', h⟩ := own_form hO9; injection e' with _ _ e'; omega)
  have h2 := blk_grown hg9 (blk_alloc HD8.out.st _) (own_ne HD8.out.own (.inl (by omega)))
  have h3 := blk_grown hg9 (blk_alloc HD8.out.card _) (own_ne HD8.out.own (.inl (by omega)))
  have H4 := Lib.hid (blk_grown hg9 (blk_alloc HD8.out.res _) (own_ne HD8.out.own (.inl (by omega))))
  have HB9 := Lib.hid ((below_alloc' HD8.out.below _).grown hg9 (by rw [World.size_alloc]; omega) (fun r e => by have := own_base HD8.out.own r e; omega))
  have HO9 := Lib.hid hO9
  clear p0 p1 p2 c0 c1 c2 c3 hO9 hg9 HOA hbk HD8
  obtain ⟨p0, p1, p2, -, -, -⟩ := three_cells h2
  obtain ⟨c0, c1, c2, c3, -, -, -, -⟩ := four_cells h3
  obtain ⟨r0, r1, r2, f0, f1, f2⟩ := three_cells H4.out
  dsimp only at p0 p1 p2 c0 c1 c2 c3
  clear h2 h3
  go_wp2
  (try simp only [Exit.inBlock, Exit.then])
  refine bodyPost_ret (results_row_tmp rfl _ _ (w.heap.size + 2) _ _ _ _ rfl (three_put H4.out _ _ _) Tryz.underlying108 rfl rfl) rfl ?_
  exact Ret.mk (DoQ.mk HV.out rfl (len_snoc _ _) (three_own (own_mono HO9.out (by have := Hb0.out; omega)) H4.out (by decide) _ _ _) (three_below HB9.out (by omega) _ _ _))
set_option maxRecDepth 100000 in
set_option maxHeartbeats 1000000 in
theorem rDo_copy (j : Jn) (x y z : Int) (A : Option Addr) (ca b0 : Nat) (w : World) (hI : OwnIt w b0 A ca j.items) (hb0 : b0 ≤ w.heap.size) (hn : j.items.length ≤ 1000) (once : (j.items.map It.num).Nodup) :
    Calls Tryz.prog 108 #[vState j A ca, vCard (4, x, y, z)] w (Ret (DoQ j (4, x, y, z) b0 w)) := by
  obtain ⟨dy, op, l⟩ := j
  dsimp only at hn hI once ⊢
  have hl := hI.facts.1
  have hA := hI.facts.2.1
  have hold : ∀ g, (Value.slice A l.length ca).ownBlock = some g → g < w.heap.size := fun g h => (hI.lt g h).2
  have HIn := Lib.hid (((((show w.ownsRow b0 67 7 (.slice A l.length ca) l.length (l.flatMap encIt) from hI).alloc (.cells #[.int .i64 dy, .int .i64 op, .slice A l.length ca] 108)).alloc (.cells #[.int .i64 4, .int .i64 x, .int .i64 y, .int .i64 z] 36)).alloc (.cells #[.int .i64 0, .int .i64 0, .slice none 0 0] 108)).alloc (.cells #[] 67))
  have HIA : Hid (ItemsAt ((((w.alloc (.cells #[.int .i64 dy, .int .i64 op, .slice A l.length ca] 108)).alloc (.cells #[.int .i64 4, .int .i64 x, .int .i64 y, .int .i64 z] 36)).alloc (.cells #[.int .i64 0, .int .i64 0, .slice none 0 0] 108)).alloc (.cells #[] 67)) A l) := Lib.hid ((((ItemsAt.alloc hl _).alloc _).alloc _).alloc _)
  have hb4 := below_alloc' (below_alloc' (below_alloc' (below_alloc' (Below.refl w.heap.size w) (.cells #[.int .i64 dy, .int .i64 op, .slice A l.length ca] 108)) (.cells #[.int .i64 4, .int .i64 x, .int .i64 y, .int .i64 z] 36)) (.cells #[.int .i64 0, .int .i64 0, .slice none 0 0] 108)) (.cells #[] 67)
  have HOA := Lib.hid (World.ownsRow_lit (base := w.heap.size + 3) (e := 67) (size := 7) (((w.alloc (.cells #[.int .i64 dy, .int .i64 op, .slice A l.length ca] 108)).alloc (.cells #[.int .i64 4, .int .i64 x, .int .i64 y, .int .i64 z] 36)).alloc (.cells #[.int .i64 0, .int .i64 0, .slice none 0 0] 108)) #[] 0 (by simp) (by simp [maxLen]) rfl)
  have hs3 : (((w.alloc (.cells #[.int .i64 dy, .int .i64 op, .slice A l.length ca] 108)).alloc (.cells #[.int .i64 4, .int .i64 x, .int .i64 y, .int .i64 z] 36)).alloc (.cells #[.int .i64 0, .int .i64 0, .slice none 0 0] 108)).heap.size = w.heap.size + 3 := by simp
  rw [hs3] at HOA
  have Hb4 := Lib.hid hb4
  have HAn := Lib.hid hA
  have Hold := Lib.hid hold
  have Honce := Lib.hid once
  have hle : l.length ≤ 1000 := hn
  have Hb0 := Lib.hid hb0
  clear hb4 hs3 hl hA hold once hn hI hb0
  unfold vState vCard
  dsimp only
  go_enter Tryz.func108, Tryz.ntmps108
  go_upto_region 2 with (at_builtin; refine wpList_append_all _ rfl (.tmp 9) (.tmp 11) 44 rfl elemIt encIt_len oneIt Tryz.underlying44 (w.heap.size + 3) _ [] l (by rfl) HOA.out A ca (by rfl) HIA.out HAn.out (by simp; omega) (by simp) ?_; intro u w6 hO6 hg6)
  rw [List.nil_append] at hO6
  obtain ⟨G, gc, rfl, -⟩ := own_form hO6
  have hRo : OwnIt w6 b0 A ca l := HIn.out.kept hg6 (by
    cases hob : (Value.slice A l.length ca).ownBlock with
    | none => exact .inl rfl
    | some g =>
      refine .inr fun e => ?_
      have := Hold.out g hob
      simp [Value.ownBlock] at e
      omega)
  have hD : DoW b0 w w6 ⟨dy, op, l⟩ (4, x, y, z) A ca G gc := ⟨
    blk_grown hg6 (blk_alloc (blk_alloc (blk_alloc (heap_alloc_new w _) _) _) _) (by simp [Value.ownBlock]),
    blk_grown hg6 (blk_alloc (blk_alloc (heap_alloc_at _ _ (by simp)) _) _) (by simp [Value.ownBlock]),
    blk_grown hg6 (blk_alloc (heap_alloc_at _ _ (by simp)) _) (by simp [Value.ownBlock]),
    hO6, hRo, Hb4.out.grown hg6 (by simp; omega) (fun r e => by simp [Value.ownBlock] at e; omega)⟩
  have HD := Lib.hid hD
  clear hD hO6 hg6 HIA HOA Hb4 hRo HIn
  have y1 : w6.cell? ⟨w.heap.size + 1, 1, none⟩ = some (.int .i64 x) := (blk_cell HD.out.card).trans rfl
  go_wp2_with fail
  refine (rfind_any G gc l x _ HD.out.copy.1 (by omega)).mono ?_
  rintro _ w7 ⟨v, rfl, HQ, q, rfl⟩
  have HDq := Lib.hid (HD.out.drewN q)
  clear HD y1
  generalize w6.drewN q = W at HDq ⊢
  clear w6 q
  obtain ⟨p0, p1, p2, -, -, -⟩ := three_cells HDq.out.st
  obtain ⟨c0, c1, c2, c3, -, -, -, -⟩ := four_cells HDq.out.card
  obtain ⟨-, -, -, f0, f1, f2⟩ := three_cells HDq.out.res
  obtain ⟨r0, r1, r2, -, -, -⟩ := three_cells HDq.out.res
  dsimp only at p0 p1 p2 c0 c1 c2 c3
  clear HQ
  have HF : Hid (∀ V, ItemsAt V A l → Calls Tryz.prog 136 #[.agg #[.int .i64 dy, .int .i64 op, .slice A l.length ca], .int .i64 x] V (Ret fun v w' => v = .int .i64 (freshE ⟨dy, op, l⟩ x) ∧ Below V.heap.size V w')) := Lib.hid fun V h => rfresh_any ⟨dy, op, l⟩ A ca x V h (by dsimp only; omega)
  go_wp2_with fail
  refine (HF.out _ HDq.out.rows).mono ?_
  rintro _ w8 ⟨v, rfl, rfl, hB8⟩
  have HD8 := Lib.hid (HDq.out.go hB8)
  clear p0 p1 p2 c0 c1 c2 c3 f0 f1 f2 r0 r1 r2 hB8 HDq
  obtain ⟨p0, p1, p2, -, -, -⟩ := three_cells HD8.out.st
  obtain ⟨c0, c1, c2, c3, -, -, -, -⟩ := four_cells HD8.out.card
  dsimp only at p0 p1 p2 c0 c1 c2 c3
  by_cases hf : freshE ⟨dy, op, l⟩ x = 0
  rotate_left 1
  · have HV : Hid (doV ⟨dy, op, l⟩ (4, x, y, z) = (⟨dy, op, l⟩, freshE ⟨dy, op, l⟩ x)) := Lib.hid (by unfold doV; dsimp only; rw [if_neg (by omega), if_neg (by omega), if_neg (by omega), if_pos rfl, if_pos hf])
    generalize freshE ⟨dy, op, l⟩ x = er at *
    have t1 : (er != 0) = true := by simpa using hf
    clear hf
    go_upto_region 17 with fail
    have HDd := Lib.hid HD8.out.drew
    clear HD8
    refine wp_region_held_drew (S := fun V => V.cell? ⟨w.heap.size, 0, none⟩ = some (.int .i64 dy) ∧ V.cell? ⟨w.heap.size, 1, none⟩ = some (.int .i64 op) ∧ V.cell? ⟨w.heap.size, 2, none⟩ = some (.slice A l.length ca) ∧ V.cell? ⟨w.heap.size + 1, 1, none⟩ = some (.int .i64 x)) (by kernel_rfl) ⟨p0, p1, p2, c1⟩ (fun hS9 => ?_)
    clear p0 p1 p2 c0 c1 c2 c3 hS9
    generalize w8.drew = W9 at HDd ⊢
    have hq := HDd.out.held
    dsimp only at hq
    refine wpAnyH_take (i := 0) (v := ?_) rfl (by kernel_rfl) (by kernel_rfl) (by kernel_rfl) (fun _ _ _ h => h) (Or.inl ⟨by rfl, ?_⟩) hq ?_
    rotate_left 1
    · intro W hW; obtain ⟨s0, s1, s2, s3⟩ := hW; go_simp <;> with_reducible rfl
    refine wpAnyH_take (i := 1) (v := ?_) rfl (by kernel_rfl) (by kernel_rfl) (by kernel_rfl) (fun _ _ _ h => h) (Or.inl ⟨by rfl, ?_⟩) hq ?_
    rotate_left 1
    · intro W hW; obtain ⟨s0, s1, s2, s3⟩ := hW; go_simp <;> with_reducible rfl
    refine wpAnyH_take (i := 2) (v := ?_) rfl (by kernel_rfl) (by kernel_rfl) (by kernel_rfl) (fun _ _ _ h => h) (Or.inl ⟨by rfl, ?_⟩) hq ?_
    rotate_left 1
    · intro W hW; obtain ⟨s0, s1, s2, s3⟩ := hW; go_simp <;> with_reducible rfl
    refine wpAnyH_take (i := 3) (v := ?_) rfl (by kernel_rfl) (by kernel_rfl) (by kernel_rfl) (fun _ _ _ h => h) (Or.inl ⟨by rfl, ?_⟩) hq ?_
    rotate_left 1
    · intro W hW; obtain ⟨s0, s1, s2, s3⟩ := hW; go_simp <;> with_reducible rfl
    simp only [Act.put, List.setIfInBounds_toArray]
    clear hq
    refine wpAnyH_ready (rs := [4]) (by kernel_rfl) (by simp) ?_
    refine AllReadyH.cons rfl (fun K hK => ?_) AllReadyH.nil
    go_simp
    refine (HF.out _ HDd.out.rows).mono ?_
    rintro e V4 ⟨v, rfl, rfl, hb⟩
    have HD4 := Lib.hid (HDd.out.go hb)
    clear hb HDd
    have hq := Lib.hid HD4.out.held
    refine hK.out _ _ hq.out (fun _ => ?_)
    clear hK K
    obtain ⟨r0, r1, r2, f0, f1, f2⟩ := three_cells HD4.out.res
    refine wpAnyH_ready (rs := [5]) (by kernel_rfl) (by simp) ?_
    refine AllReadyH.cons rfl (fun K hK => ?_) AllReadyH.nil
    go_simp
    refine hK.out _ _ (held_put hq.out _ _ _) (fun _ => ?_)
    clear hK K
    refine wpAnyH_ready (rs := [6]) (by kernel_rfl) (by simp) ?_
    refine AllReadyH.cons rfl (fun K hK => ?_) AllReadyH.nil
    go_simp
    refine hK.out _ _ (held_put hq.out _ _ _) (fun _ => ?_)
    clear hK K
    refine wpAnyH_done (by kernel_rfl) ?_ _
    go_wp2
    (try simp only [Exit.inBlock, Exit.then])
    refine bodyPost_ret (results_row_tmp rfl _ _ (w.heap.size + 2) _ _ _ _ rfl (three_put HD4.out.res _ _ _) Tryz.underlying108 rfl rfl) rfl ?_
    exact Ret.mk (DoQ.mk HV.out rfl rfl (three_own HD4.out.inp HD4.out.res (by decide) _ _ _) (three_below HD4.out.below (by omega) _ _ _))
  rw [hf]
  have hf0 := freshE_ok hf
  go_wp2_with fail
  refine (rfind_any G gc l y _ HD8.out.copy.1 (by omega)).mono ?_
  rintro _ w10 ⟨v2, rfl, HQ2, q2, rfl⟩
  have HD10 := Lib.hid (HD8.out.drewN q2)
  clear HD8 p0 p1 p2 c0 c1 c2 c3
  generalize w8.drewN q2 = w11 at HD10 ⊢
  clear q2
  obtain ⟨p0, p1, p2, -, -, -⟩ := three_cells HD10.out.st
  obtain ⟨c0, c1, c2, c3, -, -, -, -⟩ := four_cells HD10.out.card
  dsimp only at p0 p1 p2 c0 c1 c2 c3
  rcases HQ2 with ⟨k, hk, rfl, he⟩ | ⟨rfl, he⟩
  rotate_left 1
  · have HV : Hid (doV ⟨dy, op, l⟩ (4, x, y, z) = (⟨dy, op, l⟩, 5)) := Lib.hid (by unfold doV; dsimp only; rw [if_neg (by omega), if_neg (by omega), if_neg (by omega), if_pos rfl, if_neg (by omega), he])
    obtain ⟨r0, r1, r2, f0, f1, f2⟩ := three_cells HD10.out.res
    clear hf hf0 he
    go_wp2
    (try simp only [Exit.inBlock, Exit.then])
    refine bodyPost_ret (results_row_tmp rfl _ _ (w.heap.size + 2) _ _ _ _ rfl (three_put HD10.out.res _ _ _) Tryz.underlying108 rfl rfl) rfl ?_
    exact Ret.mk (DoQ.mk HV.out rfl rfl (three_own HD10.out.inp HD10.out.res (by decide) _ _ _) (three_below HD10.out.below (by omega) _ _ _))
  obtain ⟨b, o, rfl, g0, g1, g2, g3, g4, g5, g6⟩ := ItemsAt.at_ HD10.out.copy.1 hk
  have i0 : (0 : Int) ≤ (k : Int) := by omega
  have i1 : (k : Int) < (l.length : Int) := by omega
  have t0 : decide ((k : Int) < 0) = false := decide_eq_false (by omega)
  dsimp only at g3 g4 g6
  obtain ⟨it, hit⟩ : ∃ it, it = l[k] := ⟨_, rfl⟩
  rw [← hit] at g3 g4 g6 he
  by_cases hc : it.cracked = true
  · have HV : Hid (doV ⟨dy, op, l⟩ (4, x, y, z) = (⟨dy, op, l⟩, 22)) := Lib.hid (by unfold doV; dsimp only; rw [if_neg (by omega), if_neg (by omega), if_neg (by omega), if_pos rfl, if_neg (by omega), he]; dsimp only; rw [if_pos hc])
    obtain ⟨r0, r1, r2, f0, f1, f2⟩ := three_cells HD10.out.res
    rw [hc] at g6
    clear hf hf0 he hc hit
    go_wp2
    (try simp only [Exit.inBlock, Exit.then])
    refine bodyPost_ret (results_row_tmp rfl _ _ (w.heap.size + 2) _ _ _ _ rfl (three_put HD10.out.res _ _ _) Tryz.underlying108 rfl rfl) rfl ?_
    exact Ret.mk (DoQ.mk HV.out rfl rfl (three_own HD10.out.inp HD10.out.res (by decide) _ _ _) (three_below HD10.out.below (by omega) _ _ _))
  have hc2 : it.cracked = false := by simpa using hc
  have HV : Hid (doV ⟨dy, op, l⟩ (4, x, y, z) = (⟨dy, op, l ++ [⟨x, op, dy, it.voice, it.turns, y, false⟩]⟩, 0)) := Lib.hid (by unfold doV; dsimp only; rw [if_neg (by omega), if_neg (by omega), if_neg (by omega), if_pos rfl, if_neg (by omega), he]; dsimp only; rw [if_neg hc])
  rw [hc2] at g6
  clear hf hf0 he hc hc2 hit g0 g1 g2 g5
  generalize it.voice = vo at *
  generalize it.turns = tu at *
  clear it
  have hsz8 := blk_lt HD10.out.res
  have hB23 := hsz8
  go_upto_region 23 with fail
  clear hB23
  refine wp_region_held_drew (S := fun V => V.cell? ⟨w.heap.size, 0, none⟩ = some (.int .i64 dy) ∧ V.cell? ⟨w.heap.size, 1, none⟩ = some (.int .i64 op) ∧ V.cell? ⟨w.heap.size + 1, 1, none⟩ = some (.int .i64 x) ∧ V.cell? ⟨w.heap.size + 1, 2, none⟩ = some (.int .i64 y) ∧ V.cell? ⟨b, o + k * 7 + 3, none⟩ = some (.int .i64 vo) ∧ V.cell? ⟨b, o + k * 7 + 4, none⟩ = some (.int .i64 tu)) (by kernel_rfl) ⟨p0, p1, c1, c2, g3, g4⟩ (fun hS9 => ?_)
  have HDd := Lib.hid HD10.out.drew
  have hq : w11.drew.cell? ⟨w.heap.size, 0, none⟩ = some (.int .i64 dy) ∧ w11.drew.cell? ⟨w.heap.size, 1, none⟩ = some (.int .i64 op) ∧ w11.drew.cell? ⟨w.heap.size + 1, 1, none⟩ = some (.int .i64 x) ∧ w11.drew.cell? ⟨w.heap.size + 1, 2, none⟩ = some (.int .i64 y) ∧ w11.drew.cell? ⟨b, o + k * 7 + 3, none⟩ = some (.int .i64 vo) ∧ w11.drew.cell? ⟨b, o + k * 7 + 4, none⟩ = some (.int .i64 tu) := ⟨p0, p1, c1, c2, g3, g4⟩
  have hsz9 : w.heap.size + 2 < w11.drew.heap.size := hsz8
  clear hS9 HD10 p0 p1 p2 c0 c1 c2 c3 g3 g4 g6 hsz8
  generalize w11.drew = W9 at HDd hq hsz9 ⊢
  clear w11
  refine wpAnyH_take (i := 0) (v := ?_) rfl (by kernel_rfl) (by kernel_rfl) (by kernel_rfl) (fun _ _ _ h => h) (Or.inl ⟨by rfl, ?_⟩) hq ?_
  rotate_left 1
  · intro W hW; obtain ⟨s0, s1, s2, s3, s4, s5⟩ := hW; go_simp <;> with_reducible rfl
  refine wpAnyH_take (i := 1) (v := ?_) rfl (by kernel_rfl) (by kernel_rfl) (by kernel_rfl) (fun _ _ _ h => h) (Or.inl ⟨by rfl, ?_⟩) hq ?_
  rotate_left 1
  · intro W hW; obtain ⟨s0, s1, s2, s3, s4, s5⟩ := hW; go_simp <;> with_reducible rfl
  refine wpAnyH_take (i := 2) (v := ?_) rfl (by kernel_rfl) (by kernel_rfl) (by kernel_rfl) (fun _ _ _ h => h) (Or.inl ⟨by rfl, ?_⟩) hq ?_
  rotate_left 1
  · intro W hW; obtain ⟨s0, s1, s2, s3, s4, s5⟩ := hW; go_simp <;> with_reducible rfl
  refine wpAnyH_take (i := 3) (v := ?_) rfl (by kernel_rfl) (by kernel_rfl) (by kernel_rfl) (fun _ _ _ h => h) (Or.inl ⟨by rfl, ?_⟩) hq ?_
  rotate_left 1
  · intro W hW; obtain ⟨s0, s1, s2, s3, s4, s5⟩ := hW; go_simp <;> with_reducible rfl
  refine wpAnyH_take (i := 4) (v := ?_) rfl (by kernel_rfl) (by kernel_rfl) (by kernel_rfl) (fun _ _ _ h => h) (Or.inl ⟨by rfl, ?_⟩) hq ?_
  rotate_left 1
  · intro W hW; obtain ⟨s0, s1, s2, s3, s4, s5⟩ := hW; go_simp <;> with_reducible rfl
  refine wpAnyH_take (i := 5) (v := ?_) rfl (by kernel_rfl) (by kernel_rfl) (by kernel_rfl) (fun _ _ _ h => h) (Or.inl ⟨by rfl, ?_⟩) hq ?_
  rotate_left 1
  · intro W hW; obtain ⟨s0, s1, s2, s3, s4, s5⟩ := hW; go_simp <;> with_reducible rfl
  refine wpAnyH_take (i := 6) (v := ?_) rfl (by kernel_rfl) (by kernel_rfl) (by kernel_rfl) (fun _ _ _ h => h) (Or.inl ⟨by rfl, ?_⟩) hq ?_
  rotate_left 1
  · intro W hW; obtain ⟨s0, s1, s2, s3, s4, s5⟩ := hW; go_simp <;> with_reducible rfl
  refine wpAnyH_take (i := 7) (v := ?_) rfl (by kernel_rfl) (by kernel_rfl) (by kernel_rfl) (fun _ _ _ h => h) (Or.inl ⟨by rfl, ?_⟩) hq ?_
  rotate_left 1
  · intro W hW; obtain ⟨s0, s1, s2, s3, s4, s5⟩ := hW; go_simp <;> with_reducible rfl
  refine wpAnyH_take (i := 8) (v := ?_) rfl (by kernel_rfl) (by kernel_rfl) (by kernel_rfl) (fun _ _ _ h => h) (Or.inl ⟨by rfl, ?_⟩) hq ?_
  rotate_left 1
  · intro W hW; obtain ⟨s0, s1, s2, s3, s4, s5⟩ := hW; go_simp <;> with_reducible rfl
  refine wpAnyH_take (i := 9) (v := ?_) rfl (by kernel_rfl) (by kernel_rfl) (by kernel_rfl) (fun _ _ _ h => h) (Or.inl ⟨by rfl, ?_⟩) hq ?_
  rotate_left 1
  · intro W hW; obtain ⟨s0, s1, s2, s3, s4, s5⟩ := hW; go_simp <;> with_reducible rfl
  refine wpAnyH_take (i := 10) (v := ?_) rfl (by kernel_rfl) (by kernel_rfl) (by kernel_rfl) (fun _ _ _ h => h) (Or.inl ⟨by rfl, ?_⟩) hq ?_
  rotate_left 1
  · intro W hW; obtain ⟨s0, s1, s2, s3, s4, s5⟩ := hW; go_simp <;> with_reducible rfl
  refine wpAnyH_take (i := 11) (v := ?_) rfl (by kernel_rfl) (by kernel_rfl) (by kernel_rfl) (fun _ _ _ h => h) (Or.inl ⟨by rfl, ?_⟩) hq ?_
  rotate_left 1
  · intro W hW; obtain ⟨s0, s1, s2, s3, s4, s5⟩ := hW; go_simp <;> with_reducible rfl
  refine wpAnyH_take (i := 12) (v := ?_) rfl (by kernel_rfl) (by kernel_rfl) (by kernel_rfl) (fun _ _ _ h => h) (Or.inl ⟨by rfl, ?_⟩) hq ?_
  rotate_left 1
  · intro W hW; obtain ⟨s0, s1, s2, s3, s4, s5⟩ := hW; go_simp <;> with_reducible rfl
  refine wpAnyH_take (i := 13) (v := ?_) rfl (by kernel_rfl) (by kernel_rfl) (by kernel_rfl) (fun _ _ _ h => h) (Or.inl ⟨by rfl, ?_⟩) hq ?_
  rotate_left 1
  · intro W hW; obtain ⟨s0, s1, s2, s3, s4, s5⟩ := hW; go_simp <;> with_reducible rfl
  refine wpAnyH_take (i := 14) (v := ?_) rfl (by kernel_rfl) (by kernel_rfl) (by kernel_rfl) (fun _ _ _ h => h) (Or.inl ⟨by rfl, ?_⟩) hq ?_
  rotate_left 1
  · intro W hW; obtain ⟨s0, s1, s2, s3, s4, s5⟩ := hW; go_simp <;> with_reducible rfl
  refine wpAnyH_take (i := 15) (v := ?_) rfl (by kernel_rfl) (by kernel_rfl) (by kernel_rfl) (fun _ _ _ h => h) (Or.inl ⟨by rfl, ?_⟩) hq ?_
  rotate_left 1
  · intro W hW; obtain ⟨s0, s1, s2, s3, s4, s5⟩ := hW; go_simp <;> with_reducible rfl
  refine wpAnyH_take (i := 16) (v := ?_) rfl (by kernel_rfl) (by kernel_rfl) (by kernel_rfl) (fun _ _ _ h => h) (Or.inl ⟨by rfl, ?_⟩) hq ?_
  rotate_left 1
  · intro W hW; obtain ⟨s0, s1, s2, s3, s4, s5⟩ := hW; go_simp <;> with_reducible rfl
  refine wpAnyH_take (i := 17) (v := ?_) rfl (by kernel_rfl) (by kernel_rfl) (by kernel_rfl) (fun _ _ _ h => h) (Or.inl ⟨by rfl, ?_⟩) hq ?_
  rotate_left 1
  · intro W hW; obtain ⟨s0, s1, s2, s3, s4, s5⟩ := hW; go_simp <;> with_reducible rfl
  refine wpAnyH_take (i := 18) (v := ?_) rfl (by kernel_rfl) (by kernel_rfl) (by kernel_rfl) (fun _ _ _ h => h) (Or.inl ⟨by rfl, ?_⟩) hq ?_
  rotate_left 1
  · intro W hW; obtain ⟨s0, s1, s2, s3, s4, s5⟩ := hW; go_simp <;> with_reducible rfl
  refine wpAnyH_take (i := 19) (v := ?_) rfl (by kernel_rfl) (by kernel_rfl) (by kernel_rfl) (fun _ _ _ h => h) (Or.inl ⟨by rfl, ?_⟩) hq ?_
  rotate_left 1
  · intro W hW; obtain ⟨s0, s1, s2, s3, s4, s5⟩ := hW; go_simp <;> with_reducible rfl
  simp only [Act.put, List.setIfInBounds_toArray]
  refine wpAnyH_ready (rs := [20]) (by kernel_rfl) (by simp) ?_
  refine AllReadyH.cons rfl (fun K hK => ?_) AllReadyH.nil
  go_simp
  refine hK.out _ _ ⟨cell_alloc hq.1 _, cell_alloc hq.2.1 _, cell_alloc hq.2.2.1 _, cell_alloc hq.2.2.2.1 _, cell_alloc hq.2.2.2.2.1 _, cell_alloc hq.2.2.2.2.2 _⟩ (fun _ => ?_)
  clear hK K
  have hbk := heap_alloc_new W9 (.cells #[.int .i64 x, .int .i64 op, .int .i64 dy, .int .i64 vo, .int .i64 tu, .int .i64 y, .bool false] 67)
  have HOA := Lib.hid (HDd.out.own.alloc (.cells #[.int .i64 x, .int .i64 op, .int .i64 dy, .int .i64 vo, .int .i64 tu, .int .i64 y, .bool false] 67))
  dsimp only at HOA
  refine wpAnyH_ready (rs := [21]) (by kernel_rfl) (by simp) ?_
  refine AllReadyH.cons rfl (fun K hK => ?_) AllReadyH.nil
  refine step_push_keeps rfl (.tmp 98) (.tmp 118) 44 rfl elemIt encIt_len oneIt Tryz.underlying44 (w.heap.size + 3) (.slice (some ⟨b, o, none⟩) l.length gc) l (by rfl) HOA.out (by omega) ⟨x, op, dy, vo, tu, y, false⟩ W9.heap.size (by rfl) _ rfl _ _ hbk (by rw [World.size_alloc]; omega) ?_
  intro g2 cap w9 hO9 hg9 hkp
  have hcap : Hid (l.length + 1 ≤ cap) := Lib.hid (by obtain ⟨A', c', e', h⟩ := own_form hO9; injection e' with _ _ e'; omega)
  have hob := (HDd.out.copy.2.2.2 b o rfl).2
  subst hob
  have hn0 := own_ne (b := w.heap.size) HDd.out.own (.inl (by omega))
  have hn1 := own_ne (b := w.heap.size + 1) HDd.out.own (.inl (by omega))
  have hn2 := own_ne (b := w.heap.size + 2) HDd.out.own (.inl (by omega))
  have hkc : ∀ i u, W9.cell? ⟨b, 0 + k * 7 + i, none⟩ = some u → i < 7 → w9.cell? ⟨b, 0 + k * 7 + i, none⟩ = some u := fun i u hu hi => by
    have hc := HDd.out.own.cellAt (k * 7 + i) (by dsimp only; omega)
    rw [Nat.zero_add] at hu ⊢
    rw [hu] at hc
    exact hkp b (k * 7 + i) u rfl hc.symm
  have hS : w9.cell? ⟨w.heap.size, 0, none⟩ = some (.int .i64 dy) ∧ w9.cell? ⟨w.heap.size, 1, none⟩ = some (.int .i64 op) ∧ w9.cell? ⟨w.heap.size + 1, 1, none⟩ = some (.int .i64 x) ∧ w9.cell? ⟨w.heap.size + 1, 2, none⟩ = some (.int .i64 y) ∧ w9.cell? ⟨b, 0 + k * 7 + 3, none⟩ = some (.int .i64 vo) ∧ w9.cell? ⟨b, 0 + k * 7 + 4, none⟩ = some (.int .i64 tu) :=
    ⟨hg9.cell (cell_alloc hq.1 _) hn0, hg9.cell (cell_alloc hq.2.1 _) hn0, hg9.cell (cell_alloc hq.2.2.1 _) hn1, hg9.cell (cell_alloc hq.2.2.2.1 _) hn1, hkc _ _ hq.2.2.2.2.1 (by omega), hkc _ _ hq.2.2.2.2.2 (by omega)⟩
  refine hK.out _ _ hS (fun _ => ?_)
  clear hK K
  refine wpAnyH_ready (rs := [22]) (by kernel_rfl) (by simp) ?_
  refine AllReadyH.cons rfl (fun K hK => ?_) AllReadyH.nil
  go_simp
  refine hK.out _ _ hS (fun _ => ?_)
  clear hK K hS hkc hkp hn0 hn1 hn2 hq
  refine wpAnyH_done (by kernel_rfl) ?_ _
  have h2 := blk_grown hg9 (blk_alloc HDd.out.st _) (own_ne HDd.out.own (.inl (by omega)))
  have h3 := blk_grown hg9 (blk_alloc HDd.out.card _) (own_ne HDd.out.own (.inl (by omega)))
  have H4 := Lib.hid (blk_grown hg9 (blk_alloc HDd.out.res _) (own_ne HDd.out.own (.inl (by omega))))
  have HB9 := Lib.hid ((below_alloc' HDd.out.below _).grown hg9 (by rw [World.size_alloc]; omega) (fun r e => by have := own_base HDd.out.own r e; omega))
  have HO9 := Lib.hid hO9
  clear hO9 hg9 HOA hbk HDd
  obtain ⟨p0, p1, p2, -, -, -⟩ := three_cells h2
  obtain ⟨c0, c1, c2, c3, -, -, -, -⟩ := four_cells h3
  obtain ⟨r0, r1, r2, f0, f1, f2⟩ := three_cells H4.out
  dsimp only at p0 p1 p2 c0 c1 c2 c3
  clear h2 h3
  go_simp
  go_wp2
  (try simp only [Exit.inBlock, Exit.then])
  refine bodyPost_ret (results_row_tmp rfl _ _ (w.heap.size + 2) _ _ _ _ rfl (three_put H4.out _ _ _) Tryz.underlying108 rfl rfl) rfl ?_
  exact Ret.mk (DoQ.mk HV.out rfl (len_snoc _ _) (three_own (own_mono HO9.out (by have := Hb0.out; omega)) H4.out (by decide) _ _ _) (three_below HB9.out (by omega) _ _ _))
set_option maxRecDepth 100000 in
set_option maxHeartbeats 1000000 in
theorem rDo_crack (j : Jn) (x y z : Int) (A : Option Addr) (ca b0 : Nat) (w : World) (hI : OwnIt w b0 A ca j.items) (hb0 : b0 ≤ w.heap.size) (hn : j.items.length ≤ 1000) (once : (j.items.map It.num).Nodup) :
    Calls Tryz.prog 108 #[vState j A ca, vCard (5, x, y, z)] w (Ret (DoQ j (5, x, y, z) b0 w)) := by
  obtain ⟨dy, op, l⟩ := j
  dsimp only at hn hI once ⊢
  have hl := hI.facts.1
  have hA := hI.facts.2.1
  have hold : ∀ g, (Value.slice A l.length ca).ownBlock = some g → g < w.heap.size := fun g h => (hI.lt g h).2
  have HIn := Lib.hid (((((show w.ownsRow b0 67 7 (.slice A l.length ca) l.length (l.flatMap encIt) from hI).alloc (.cells #[.int .i64 dy, .int .i64 op, .slice A l.length ca] 108)).alloc (.cells #[.int .i64 5, .int .i64 x, .int .i64 y, .int .i64 z] 36)).alloc (.cells #[.int .i64 0, .int .i64 0, .slice none 0 0] 108)).alloc (.cells #[] 67))
  have HIA : Hid (ItemsAt ((((w.alloc (.cells #[.int .i64 dy, .int .i64 op, .slice A l.length ca] 108)).alloc (.cells #[.int .i64 5, .int .i64 x, .int .i64 y, .int .i64 z] 36)).alloc (.cells #[.int .i64 0, .int .i64 0, .slice none 0 0] 108)).alloc (.cells #[] 67)) A l) := Lib.hid ((((ItemsAt.alloc hl _).alloc _).alloc _).alloc _)
  have hb4 := below_alloc' (below_alloc' (below_alloc' (below_alloc' (Below.refl w.heap.size w) (.cells #[.int .i64 dy, .int .i64 op, .slice A l.length ca] 108)) (.cells #[.int .i64 5, .int .i64 x, .int .i64 y, .int .i64 z] 36)) (.cells #[.int .i64 0, .int .i64 0, .slice none 0 0] 108)) (.cells #[] 67)
  have HOA := Lib.hid (World.ownsRow_lit (base := w.heap.size + 3) (e := 67) (size := 7) (((w.alloc (.cells #[.int .i64 dy, .int .i64 op, .slice A l.length ca] 108)).alloc (.cells #[.int .i64 5, .int .i64 x, .int .i64 y, .int .i64 z] 36)).alloc (.cells #[.int .i64 0, .int .i64 0, .slice none 0 0] 108)) #[] 0 (by simp) (by simp [maxLen]) rfl)
  have hs3 : (((w.alloc (.cells #[.int .i64 dy, .int .i64 op, .slice A l.length ca] 108)).alloc (.cells #[.int .i64 5, .int .i64 x, .int .i64 y, .int .i64 z] 36)).alloc (.cells #[.int .i64 0, .int .i64 0, .slice none 0 0] 108)).heap.size = w.heap.size + 3 := by simp
  rw [hs3] at HOA
  have Hb4 := Lib.hid hb4
  have HAn := Lib.hid hA
  have Hold := Lib.hid hold
  have Honce := Lib.hid once
  have hle : l.length ≤ 1000 := hn
  have Hb0 := Lib.hid hb0
  clear hb4 hs3 hl hA hold once hn hI hb0
  unfold vState vCard
  dsimp only
  go_enter Tryz.func108, Tryz.ntmps108
  go_upto_region 2 with (at_builtin; refine wpList_append_all _ rfl (.tmp 9) (.tmp 11) 44 rfl elemIt encIt_len oneIt Tryz.underlying44 (w.heap.size + 3) _ [] l (by rfl) HOA.out A ca (by rfl) HIA.out HAn.out (by simp; omega) (by simp) ?_; intro u w6 hO6 hg6)
  rw [List.nil_append] at hO6
  obtain ⟨G, gc, rfl, -⟩ := own_form hO6
  have hRo : OwnIt w6 b0 A ca l := HIn.out.kept hg6 (by
    cases hob : (Value.slice A l.length ca).ownBlock with
    | none => exact .inl rfl
    | some g =>
      refine .inr fun e => ?_
      have := Hold.out g hob
      simp [Value.ownBlock] at e
      omega)
  have hD : DoW b0 w w6 ⟨dy, op, l⟩ (5, x, y, z) A ca G gc := ⟨
    blk_grown hg6 (blk_alloc (blk_alloc (blk_alloc (heap_alloc_new w _) _) _) _) (by simp [Value.ownBlock]),
    blk_grown hg6 (blk_alloc (blk_alloc (heap_alloc_at _ _ (by simp)) _) _) (by simp [Value.ownBlock]),
    blk_grown hg6 (blk_alloc (heap_alloc_at _ _ (by simp)) _) (by simp [Value.ownBlock]),
    hO6, hRo, Hb4.out.grown hg6 (by simp; omega) (fun r e => by simp [Value.ownBlock] at e; omega)⟩
  have HD := Lib.hid hD
  clear hD hO6 hg6 HIA HOA Hb4 hRo HIn
  have y1 : w6.cell? ⟨w.heap.size + 1, 1, none⟩ = some (.int .i64 x) := (blk_cell HD.out.card).trans rfl
  go_wp2_with fail
  refine (rfind_any G gc l x _ HD.out.copy.1 (by omega)).mono ?_
  rintro _ w7 ⟨v, rfl, HQ, q, rfl⟩
  have HDq := Lib.hid (HD.out.drewN q)
  clear HD y1
  generalize w6.drewN q = W at HDq ⊢
  clear w6 q
  obtain ⟨p0, p1, p2, -, -, -⟩ := three_cells HDq.out.st
  obtain ⟨c0, c1, c2, c3, -, -, -, -⟩ := four_cells HDq.out.card
  obtain ⟨-, -, -, f0, f1, f2⟩ := three_cells HDq.out.res
  obtain ⟨r0, r1, r2, -, -, -⟩ := three_cells HDq.out.res
  dsimp only at p0 p1 p2 c0 c1 c2 c3
  rcases HQ with ⟨k, hk, rfl, he⟩ | ⟨rfl, he⟩
  rotate_left 1
  · have HV : Hid (doV ⟨dy, op, l⟩ (5, x, y, z) = (⟨dy, op, l⟩, 5)) := Lib.hid (by unfold doV; dsimp only; rw [if_neg (by omega), if_neg (by omega), if_neg (by omega), if_neg (by omega), if_pos rfl, he])
    clear he
    go_wp2
    (try simp only [Exit.inBlock, Exit.then])
    refine bodyPost_ret (results_row_tmp rfl _ _ (w.heap.size + 2) _ _ _ _ rfl (three_put HDq.out.res _ _ _) Tryz.underlying108 rfl rfl) rfl ?_
    exact Ret.mk (DoQ.mk HV.out rfl rfl (three_own HDq.out.inp HDq.out.res (by decide) _ _ _) (three_below HDq.out.below (by omega) _ _ _))
  obtain ⟨b, o, rfl, g0, g1, g2, g3, g4, g5, g6⟩ := ItemsAt.at_ HDq.out.copy.1 hk
  have i0 : (0 : Int) ≤ (k : Int) := by omega
  have i1 : (k : Int) < (l.length : Int) := by omega
  have t0 : decide ((k : Int) < 0) = false := decide_eq_false (by omega)
  dsimp only at g1 g6
  have hnum := findI_at hk he
  by_cases hc : l[k].cracked = true
  · have HV : Hid (doV ⟨dy, op, l⟩ (5, x, y, z) = (⟨dy, op, l⟩, 22)) := Lib.hid (by unfold doV; dsimp only; rw [if_neg (by omega), if_neg (by omega), if_neg (by omega), if_neg (by omega), if_pos rfl, he]; dsimp only; rw [if_pos hc])
    rw [hc] at g6
    clear he hc hnum g0 g1 g2 g3 g4 g5
    go_wp2
    (try simp only [Exit.inBlock, Exit.then])
    refine bodyPost_ret (results_row_tmp rfl _ _ (w.heap.size + 2) _ _ _ _ rfl (three_put HDq.out.res _ _ _) Tryz.underlying108 rfl rfl) rfl ?_
    exact Ret.mk (DoQ.mk HV.out rfl rfl (three_own HDq.out.inp HDq.out.res (by decide) _ _ _) (three_below HDq.out.below (by omega) _ _ _))
  have hc2 : l[k].cracked = false := by simpa using hc
  have HV : Hid (doV ⟨dy, op, l⟩ (5, x, y, z) = (⟨dy, op, l.set k { l[k] with cracked := true }⟩, 0)) := Lib.hid (by
    unfold doV; dsimp only; rw [if_neg (by omega), if_neg (by omega), if_neg (by omega), if_neg (by omega), if_pos rfl, he]; dsimp only; rw [if_neg hc, ← hnum, putI_set Honce.out hk])
  rw [hc2] at g6
  clear he hc hc2 hnum g0 g1 g2 g3 g4 g5
  have hob := (HDq.out.copy.2.2.2 b o rfl).2
  subst hob
  (try rw [Nat.zero_add] at g6)
  (try rw [Nat.zero_add] at g1)
  have hge := (HDq.out.copy.2.2.2 b 0 rfl).1
  have hst := (HDq.out.own.stored (k * 7 + 6) (.bool true)).1
  dsimp only at hst
  rw [flat_set1 encIt_len l k hk 6 (by omega) { l[k] with cracked := true } (.bool true) rfl] at hst
  have hls : (l.set k { l[k] with cracked := true }).length = l.length := List.length_set
  have HO9 := Lib.hid hst
  have fz : W.frozen? ⟨b, k * 7 + 6, none⟩ = false := HDq.out.own.frozenAt (k * 7 + 6)
  have H2 := Lib.hid (blk_far (p := ⟨b, k * 7 + 6, none⟩) HDq.out.st (by dsimp only; omega) (.bool true))
  have H3 := Lib.hid (blk_far (p := ⟨b, k * 7 + 6, none⟩) HDq.out.card (by dsimp only; omega) (.bool true))
  have H4 := Lib.hid (blk_far (p := ⟨b, k * 7 + 6, none⟩) HDq.out.res (by dsimp only; omega) (.bool true))
  have HB9 := Lib.hid (HDq.out.below.setCell (p := ⟨b, k * 7 + 6, none⟩) (by dsimp only; omega) (.bool true))
  obtain ⟨z0, z1, z2, -, -, -⟩ := three_cells H2.out
  obtain ⟨y0, y1, y2, y3, -, -, -, -⟩ := four_cells H3.out
  obtain ⟨x0, x1, x2, x3, x4, x5⟩ := three_cells H4.out
  dsimp only at z0 z1 z2 y0 y1 y2 y3
  have hcap := Lib.hid HDq.out.copy.2.2.1
  have Hls := Lib.hid hls
  have Hge := Lib.hid hge
  clear hst hls HDq r0 r1 r2 f0 f1 f2 H2 H3 hge
  go_wp2
  (try simp only [Exit.inBlock, Exit.then])
  refine bodyPost_ret (results_row_tmp rfl _ _ (w.heap.size + 2) _ _ _ _ rfl (three_put H4.out _ _ _) Tryz.underlying108 rfl rfl) rfl ?_
  exact Ret.mk (DoQ.mk HV.out rfl Hls.out (three_own (own_mono HO9.out (by have := Hb0.out; omega)) H4.out (by decide) _ _ _) (three_below HB9.out (by omega) _ _ _))
set_option maxRecDepth 100000 in
set_option maxHeartbeats 1000000 in
theorem rDo_move (j : Jn) (x y z : Int) (A : Option Addr) (ca b0 : Nat) (w : World) (hI : OwnIt w b0 A ca j.items) (hb0 : b0 ≤ w.heap.size) (hn : j.items.length ≤ 1000) (once : (j.items.map It.num).Nodup) :
    Calls Tryz.prog 108 #[vState j A ca, vCard (6, x, y, z)] w (Ret (DoQ j (6, x, y, z) b0 w)) := by
  obtain ⟨dy, op, l⟩ := j
  dsimp only at hn hI once ⊢
  have hl := hI.facts.1
  have hA := hI.facts.2.1
  have hold : ∀ g, (Value.slice A l.length ca).ownBlock = some g → g < w.heap.size := fun g h => (hI.lt g h).2
  have HIn := Lib.hid (((((show w.ownsRow b0 67 7 (.slice A l.length ca) l.length (l.flatMap encIt) from hI).alloc (.cells #[.int .i64 dy, .int .i64 op, .slice A l.length ca] 108)).alloc (.cells #[.int .i64 6, .int .i64 x, .int .i64 y, .int .i64 z] 36)).alloc (.cells #[.int .i64 0, .int .i64 0, .slice none 0 0] 108)).alloc (.cells #[] 67))
  have HIA : Hid (ItemsAt ((((w.alloc (.cells #[.int .i64 dy, .int .i64 op, .slice A l.length ca] 108)).alloc (.cells #[.int .i64 6, .int .i64 x, .int .i64 y, .int .i64 z] 36)).alloc (.cells #[.int .i64 0, .int .i64 0, .slice none 0 0] 108)).alloc (.cells #[] 67)) A l) := Lib.hid ((((ItemsAt.alloc hl _).alloc _).alloc _).alloc _)
  have hb4 := below_alloc' (below_alloc' (below_alloc' (below_alloc' (Below.refl w.heap.size w) (.cells #[.int .i64 dy, .int .i64 op, .slice A l.length ca] 108)) (.cells #[.int .i64 6, .int .i64 x, .int .i64 y, .int .i64 z] 36)) (.cells #[.int .i64 0, .int .i64 0, .slice none 0 0] 108)) (.cells #[] 67)
  have HOA := Lib.hid (World.ownsRow_lit (base := w.heap.size + 3) (e := 67) (size := 7) (((w.alloc (.cells #[.int .i64 dy, .int .i64 op, .slice A l.length ca] 108)).alloc (.cells #[.int .i64 6, .int .i64 x, .int .i64 y, .int .i64 z] 36)).alloc (.cells #[.int .i64 0, .int .i64 0, .slice none 0 0] 108)) #[] 0 (by simp) (by simp [maxLen]) rfl)
  have hs3 : (((w.alloc (.cells #[.int .i64 dy, .int .i64 op, .slice A l.length ca] 108)).alloc (.cells #[.int .i64 6, .int .i64 x, .int .i64 y, .int .i64 z] 36)).alloc (.cells #[.int .i64 0, .int .i64 0, .slice none 0 0] 108)).heap.size = w.heap.size + 3 := by simp
  rw [hs3] at HOA
  have Hb4 := Lib.hid hb4
  have HAn := Lib.hid hA
  have Hold := Lib.hid hold
  have Honce := Lib.hid once
  have hle : l.length ≤ 1000 := hn
  have Hb0 := Lib.hid hb0
  clear hb4 hs3 hl hA hold once hn hI hb0
  unfold vState vCard
  dsimp only
  go_enter Tryz.func108, Tryz.ntmps108
  go_upto_region 2 with (at_builtin; refine wpList_append_all _ rfl (.tmp 9) (.tmp 11) 44 rfl elemIt encIt_len oneIt Tryz.underlying44 (w.heap.size + 3) _ [] l (by rfl) HOA.out A ca (by rfl) HIA.out HAn.out (by simp; omega) (by simp) ?_; intro u w6 hO6 hg6)
  rw [List.nil_append] at hO6
  obtain ⟨G, gc, rfl, -⟩ := own_form hO6
  have hRo : OwnIt w6 b0 A ca l := HIn.out.kept hg6 (by
    cases hob : (Value.slice A l.length ca).ownBlock with
    | none => exact .inl rfl
    | some g =>
      refine .inr fun e => ?_
      have := Hold.out g hob
      simp [Value.ownBlock] at e
      omega)
  have hD : DoW b0 w w6 ⟨dy, op, l⟩ (6, x, y, z) A ca G gc := ⟨
    blk_grown hg6 (blk_alloc (blk_alloc (blk_alloc (heap_alloc_new w _) _) _) _) (by simp [Value.ownBlock]),
    blk_grown hg6 (blk_alloc (blk_alloc (heap_alloc_at _ _ (by simp)) _) _) (by simp [Value.ownBlock]),
    blk_grown hg6 (blk_alloc (heap_alloc_at _ _ (by simp)) _) (by simp [Value.ownBlock]),
    hO6, hRo, Hb4.out.grown hg6 (by simp; omega) (fun r e => by simp [Value.ownBlock] at e; omega)⟩
  have HD := Lib.hid hD
  clear hD hO6 hg6 HIA HOA Hb4 hRo HIn
  have y1 : w6.cell? ⟨w.heap.size + 1, 1, none⟩ = some (.int .i64 x) := (blk_cell HD.out.card).trans rfl
  go_wp2_with fail
  refine (rfind_any G gc l x _ HD.out.copy.1 (by omega)).mono ?_
  rintro _ w7 ⟨v, rfl, HQ, q, rfl⟩
  have HDq := Lib.hid (HD.out.drewN q)
  clear HD y1
  generalize w6.drewN q = W at HDq ⊢
  clear w6 q
  obtain ⟨p0, p1, p2, -, -, -⟩ := three_cells HDq.out.st
  obtain ⟨c0, c1, c2, c3, -, -, -, -⟩ := four_cells HDq.out.card
  obtain ⟨-, -, -, f0, f1, f2⟩ := three_cells HDq.out.res
  obtain ⟨r0, r1, r2, -, -, -⟩ := three_cells HDq.out.res
  dsimp only at p0 p1 p2 c0 c1 c2 c3
  by_cases ho : op = 0
  · have HV : Hid (doV ⟨dy, op, l⟩ (6, x, y, z) = (⟨dy, op, l⟩, 9)) := Lib.hid (by unfold doV; dsimp only; rw [if_neg (by omega), if_neg (by omega), if_neg (by omega), if_neg (by omega), if_neg (by omega), if_pos rfl, if_pos ho])
    have t1 : (op == 0) = true := by simpa using ho
    clear ho HQ
    go_wp2
    (try simp only [Exit.inBlock, Exit.then])
    refine bodyPost_ret (results_row_tmp rfl _ _ (w.heap.size + 2) _ _ _ _ rfl (three_put HDq.out.res _ _ _) Tryz.underlying108 rfl rfl) rfl ?_
    exact Ret.mk (DoQ.mk HV.out rfl rfl (three_own HDq.out.inp HDq.out.res (by decide) _ _ _) (three_below HDq.out.below (by omega) _ _ _))
  have t1 : (op == 0) = false := by simpa using ho
  rcases HQ with ⟨k, hk, rfl, he⟩ | ⟨rfl, he⟩
  rotate_left 1
  · have HV : Hid (doV ⟨dy, op, l⟩ (6, x, y, z) = (⟨dy, op, l⟩, 5)) := Lib.hid (by unfold doV; dsimp only; rw [if_neg (by omega), if_neg (by omega), if_neg (by omega), if_neg (by omega), if_neg (by omega), if_pos rfl, if_neg ho, he])
    clear he ho
    go_wp2
    (try simp only [Exit.inBlock, Exit.then])
    refine bodyPost_ret (results_row_tmp rfl _ _ (w.heap.size + 2) _ _ _ _ rfl (three_put HDq.out.res _ _ _) Tryz.underlying108 rfl rfl) rfl ?_
    exact Ret.mk (DoQ.mk HV.out rfl rfl (three_own HDq.out.inp HDq.out.res (by decide) _ _ _) (three_below HDq.out.below (by omega) _ _ _))
  obtain ⟨b, o, rfl, g0, g1, g2, g3, g4, g5, g6⟩ := ItemsAt.at_ HDq.out.copy.1 hk
  have i0 : (0 : Int) ≤ (k : Int) := by omega
  have i1 : (k : Int) < (l.length : Int) := by omega
  have t0 : decide ((k : Int) < 0) = false := decide_eq_false (by omega)
  dsimp only at g1 g6
  have hnum := findI_at hk he
  have HDq2 := Lib.hid (fun q => HDq.out.drewN q)
  by_cases hc : l[k].box = op
  · have HV : Hid (doV ⟨dy, op, l⟩ (6, x, y, z) = (⟨dy, op, l⟩, 15)) := Lib.hid (by unfold doV; dsimp only; rw [if_neg (by omega), if_neg (by omega), if_neg (by omega), if_neg (by omega), if_neg (by omega), if_pos rfl, if_neg ho, he]; dsimp only; rw [if_pos hc])
    rw [hc] at g1
    clear he hc ho hnum g0 g2 g3 g4 g5
    go_upto_region 35 with fail
    go_quiet (fail)
    have HDr := Lib.hid (HDq2.out nq)
    clear HDq HDq2 p0 p1 p2 c0 c1 c2 c3 f0 f1 f2 r0 r1 r2 g1 g6
    generalize W.drewN nq = V at HDr ⊢
    obtain ⟨p0, p1, p2, -, -, -⟩ := three_cells HDr.out.st
    obtain ⟨r0, r1, r2, f0, f1, f2⟩ := three_cells HDr.out.res
    dsimp only at p0 p1 p2
    go_wp2
    (try simp only [Exit.inBlock, Exit.then])
    refine bodyPost_ret (results_row_tmp rfl _ _ (w.heap.size + 2) _ _ _ _ rfl (three_put HDr.out.res _ _ _) Tryz.underlying108 rfl rfl) rfl ?_
    exact Ret.mk (DoQ.mk HV.out rfl rfl (three_own HDr.out.inp HDr.out.res (by decide) _ _ _) (three_below HDr.out.below (by omega) _ _ _))
  have t2 : (l[k].box == op) = false := by simpa using hc
  have HDV : Hid (∀ e, (if 12 ≤ room l op then ((⟨dy, op, l⟩ : Jn), (10 : Int)) else (⟨dy, op, l.set k { l[k] with box := op }⟩, 0)) = e → doV ⟨dy, op, l⟩ (6, x, y, z) = e) := Lib.hid (by
    intro e h
    rw [← h]
    unfold doV; dsimp only; rw [if_neg (by omega), if_neg (by omega), if_neg (by omega), if_neg (by omega), if_neg (by omega), if_pos rfl, if_neg ho, he]; dsimp only; rw [if_neg hc, ← hnum, putI_set Honce.out hk])
  clear he hc ho hnum g0 g2 g3 g4 g5 g6
  generalize hbx : l[k].box = bx at g1 t2
  clear hbx
  go_upto_region 35 with fail
  go_quiet (fail)
  have HDr := Lib.hid (HDq2.out nq)
  clear HDq HDq2 p0 p1 p2 c0 c1 c2 c3 f0 f1 f2 r0 r1 r2 g1
  generalize W.drewN nq = V at HDr ⊢
  clear W nq
  have q1 : V.cell? ⟨w.heap.size, 1, none⟩ = some (.int .i64 op) := (blk_cell HDr.out.st).trans rfl
  go_wp2_with fail
  refine (rroom_any (some ⟨b, o, none⟩) gc l op _ HDr.out.copy.1 (by omega)).mono ?_
  rintro _ w10 ⟨v2, rfl, rfl, q2, rfl⟩
  have HDq := Lib.hid (HDr.out.drewN q2)
  clear HDr q1
  generalize V.drewN q2 = W at HDq ⊢
  clear V q2
  obtain ⟨p0, p1, p2, -, -, -⟩ := three_cells HDq.out.st
  obtain ⟨c0, c1, c2, c3, -, -, -, -⟩ := four_cells HDq.out.card
  obtain ⟨-, -, -, f0, f1, f2⟩ := three_cells HDq.out.res
  obtain ⟨r0, r1, r2, -, -, -⟩ := three_cells HDq.out.res
  dsimp only at p0 p1 p2 c0 c1 c2 c3
  by_cases hr : 12 ≤ room l op
  · have HV : Hid (doV ⟨dy, op, l⟩ (6, x, y, z) = (⟨dy, op, l⟩, 10)) := Lib.hid (HDV.out _ (by rw [if_pos hr]))
    have t3 : decide (((room l op : Nat) : Int) ≥ 12) = true := decide_eq_true (by omega)
    have t4 : decide ((12 : Int) ≤ ((room l op : Nat) : Int)) = true := decide_eq_true (by omega)
    clear hr HDV
    generalize room l op = rm at *
    go_wp2
    (try simp only [Exit.inBlock, Exit.then])
    refine bodyPost_ret (results_row_tmp rfl _ _ (w.heap.size + 2) _ _ _ _ rfl (three_put HDq.out.res _ _ _) Tryz.underlying108 rfl rfl) rfl ?_
    exact Ret.mk (DoQ.mk HV.out rfl rfl (three_own HDq.out.inp HDq.out.res (by decide) _ _ _) (three_below HDq.out.below (by omega) _ _ _))
  have HV : Hid (doV ⟨dy, op, l⟩ (6, x, y, z) = (⟨dy, op, l.set k { l[k] with box := op }⟩, 0)) := Lib.hid (HDV.out _ (by rw [if_neg hr]))
  have t3 : decide (((room l op : Nat) : Int) ≥ 12) = false := decide_eq_false (by omega)
  have t4 : decide ((12 : Int) ≤ ((room l op : Nat) : Int)) = false := decide_eq_false (by omega)
  clear hr HDV
  generalize room l op = rm at *
  have g1 : W.cell? ⟨b, o + k * 7 + 1, none⟩ = some (.int .i64 l[k].box) := by
    obtain ⟨b', o', hG, -, g, -⟩ := ItemsAt.at_ HDq.out.copy.1 hk
    injection hG with hG
    injection hG with h1 h2
    subst h1; subst h2
    exact g
  have hob := (HDq.out.copy.2.2.2 b o rfl).2
  subst hob
  (try rw [Nat.zero_add] at g6)
  (try rw [Nat.zero_add] at g1)
  have hge := (HDq.out.copy.2.2.2 b 0 rfl).1
  have hst := (HDq.out.own.stored (k * 7 + 1) (.int .i64 op)).1
  dsimp only at hst
  rw [flat_set1 encIt_len l k hk 1 (by omega) { l[k] with box := op } (.int .i64 op) rfl] at hst
  have hls : (l.set k { l[k] with box := op }).length = l.length := List.length_set
  have HO9 := Lib.hid hst
  have fz : W.frozen? ⟨b, k * 7 + 1, none⟩ = false := HDq.out.own.frozenAt (k * 7 + 1)
  have H2 := Lib.hid (blk_far (p := ⟨b, k * 7 + 1, none⟩) HDq.out.st (by dsimp only; omega) (.int .i64 op))
  have H3 := Lib.hid (blk_far (p := ⟨b, k * 7 + 1, none⟩) HDq.out.card (by dsimp only; omega) (.int .i64 op))
  have H4 := Lib.hid (blk_far (p := ⟨b, k * 7 + 1, none⟩) HDq.out.res (by dsimp only; omega) (.int .i64 op))
  have HB9 := Lib.hid (HDq.out.below.setCell (p := ⟨b, k * 7 + 1, none⟩) (by dsimp only; omega) (.int .i64 op))
  obtain ⟨z0, z1, z2, -, -, -⟩ := three_cells H2.out
  obtain ⟨y0, y1, y2, y3, -, -, -, -⟩ := four_cells H3.out
  obtain ⟨x0, x1, x2, x3, x4, x5⟩ := three_cells H4.out
  dsimp only at z0 z1 z2 y0 y1 y2 y3
  have hcap := Lib.hid HDq.out.copy.2.2.1
  have Hls := Lib.hid hls
  have Hge := Lib.hid hge
  clear hst hls HDq r0 r1 r2 f0 f1 f2 H2 H3 hge
  go_wp2
  (try simp only [Exit.inBlock, Exit.then])
  refine bodyPost_ret (results_row_tmp rfl _ _ (w.heap.size + 2) _ _ _ _ rfl (three_put H4.out _ _ _) Tryz.underlying108 rfl rfl) rfl ?_
  exact Ret.mk (DoQ.mk HV.out rfl Hls.out (three_own (own_mono HO9.out (by have := Hb0.out; omega)) H4.out (by decide) _ _ _) (three_below HB9.out (by omega) _ _ _))
set_option maxRecDepth 100000 in
set_option maxHeartbeats 1000000 in
theorem rDo_other (j : Jn) (k : Int) (x y z : Int) (A : Option Addr) (ca b0 : Nat) (w : World) (hI : OwnIt w b0 A ca j.items) (hb0 : b0 ≤ w.heap.size) (hn : j.items.length ≤ 1000) (once : (j.items.map It.num).Nodup) (hk : ∀ i : Int, 1 ≤ i → i ≤ 6 → k ≠ i) :
    Calls Tryz.prog 108 #[vState j A ca, vCard (k, x, y, z)] w (Ret (DoQ j (k, x, y, z) b0 w)) := by
  have Hk := Lib.hid hk
  clear hk
  obtain ⟨dy, op, l⟩ := j
  dsimp only at hn hI once ⊢
  have hl := hI.facts.1
  have hA := hI.facts.2.1
  have hold : ∀ g, (Value.slice A l.length ca).ownBlock = some g → g < w.heap.size := fun g h => (hI.lt g h).2
  have HIn := Lib.hid (((((show w.ownsRow b0 67 7 (.slice A l.length ca) l.length (l.flatMap encIt) from hI).alloc (.cells #[.int .i64 dy, .int .i64 op, .slice A l.length ca] 108)).alloc (.cells #[.int .i64 k, .int .i64 x, .int .i64 y, .int .i64 z] 36)).alloc (.cells #[.int .i64 0, .int .i64 0, .slice none 0 0] 108)).alloc (.cells #[] 67))
  have HIA : Hid (ItemsAt ((((w.alloc (.cells #[.int .i64 dy, .int .i64 op, .slice A l.length ca] 108)).alloc (.cells #[.int .i64 k, .int .i64 x, .int .i64 y, .int .i64 z] 36)).alloc (.cells #[.int .i64 0, .int .i64 0, .slice none 0 0] 108)).alloc (.cells #[] 67)) A l) := Lib.hid ((((ItemsAt.alloc hl _).alloc _).alloc _).alloc _)
  have hb4 := below_alloc' (below_alloc' (below_alloc' (below_alloc' (Below.refl w.heap.size w) (.cells #[.int .i64 dy, .int .i64 op, .slice A l.length ca] 108)) (.cells #[.int .i64 k, .int .i64 x, .int .i64 y, .int .i64 z] 36)) (.cells #[.int .i64 0, .int .i64 0, .slice none 0 0] 108)) (.cells #[] 67)
  have HOA := Lib.hid (World.ownsRow_lit (base := w.heap.size + 3) (e := 67) (size := 7) (((w.alloc (.cells #[.int .i64 dy, .int .i64 op, .slice A l.length ca] 108)).alloc (.cells #[.int .i64 k, .int .i64 x, .int .i64 y, .int .i64 z] 36)).alloc (.cells #[.int .i64 0, .int .i64 0, .slice none 0 0] 108)) #[] 0 (by simp) (by simp [maxLen]) rfl)
  have hs3 : (((w.alloc (.cells #[.int .i64 dy, .int .i64 op, .slice A l.length ca] 108)).alloc (.cells #[.int .i64 k, .int .i64 x, .int .i64 y, .int .i64 z] 36)).alloc (.cells #[.int .i64 0, .int .i64 0, .slice none 0 0] 108)).heap.size = w.heap.size + 3 := by simp
  rw [hs3] at HOA
  have Hb4 := Lib.hid hb4
  have HAn := Lib.hid hA
  have Hold := Lib.hid hold
  have Honce := Lib.hid once
  have hle : l.length ≤ 1000 := hn
  have Hb0 := Lib.hid hb0
  clear hb4 hs3 hl hA hold once hn hI hb0
  unfold vState vCard
  dsimp only
  go_enter Tryz.func108, Tryz.ntmps108
  go_upto_region 2 with (at_builtin; refine wpList_append_all _ rfl (.tmp 9) (.tmp 11) 44 rfl elemIt encIt_len oneIt Tryz.underlying44 (w.heap.size + 3) _ [] l (by rfl) HOA.out A ca (by rfl) HIA.out HAn.out (by simp; omega) (by simp) ?_; intro u w6 hO6 hg6)
  rw [List.nil_append] at hO6
  obtain ⟨G, gc, rfl, -⟩ := own_form hO6
  have hRo : OwnIt w6 b0 A ca l := HIn.out.kept hg6 (by
    cases hob : (Value.slice A l.length ca).ownBlock with
    | none => exact .inl rfl
    | some g =>
      refine .inr fun e => ?_
      have := Hold.out g hob
      simp [Value.ownBlock] at e
      omega)
  have hD : DoW b0 w w6 ⟨dy, op, l⟩ (k, x, y, z) A ca G gc := ⟨
    blk_grown hg6 (blk_alloc (blk_alloc (blk_alloc (heap_alloc_new w _) _) _) _) (by simp [Value.ownBlock]),
    blk_grown hg6 (blk_alloc (blk_alloc (heap_alloc_at _ _ (by simp)) _) _) (by simp [Value.ownBlock]),
    blk_grown hg6 (blk_alloc (heap_alloc_at _ _ (by simp)) _) (by simp [Value.ownBlock]),
    hO6, hRo, Hb4.out.grown hg6 (by simp; omega) (fun r e => by simp [Value.ownBlock] at e; omega)⟩
  have HD := Lib.hid hD
  clear hD hO6 hg6 HIA HOA Hb4 hRo HIn
  have y1 : w6.cell? ⟨w.heap.size + 1, 1, none⟩ = some (.int .i64 x) := (blk_cell HD.out.card).trans rfl
  go_wp2_with fail
  refine (rfind_any G gc l x _ HD.out.copy.1 (by omega)).mono ?_
  rintro _ w7 ⟨v, rfl, HQ, q, rfl⟩
  have HDq := Lib.hid (HD.out.drewN q)
  clear HD y1
  generalize w6.drewN q = W at HDq ⊢
  clear w6 q
  obtain ⟨p0, p1, p2, -, -, -⟩ := three_cells HDq.out.st
  obtain ⟨c0, c1, c2, c3, -, -, -, -⟩ := four_cells HDq.out.card
  obtain ⟨-, -, -, f0, f1, f2⟩ := three_cells HDq.out.res
  obtain ⟨r0, r1, r2, -, -, -⟩ := three_cells HDq.out.res
  dsimp only at p0 p1 p2 c0 c1 c2 c3
  clear HQ
  have HV : Hid (doV ⟨dy, op, l⟩ (k, x, y, z) = (⟨dy, op, l⟩, 0)) := Lib.hid (by unfold doV; dsimp only; rw [if_neg (Hk.out 1 (by omega) (by omega)), if_neg (Hk.out 2 (by omega) (by omega)), if_neg (Hk.out 3 (by omega) (by omega)), if_neg (Hk.out 4 (by omega) (by omega)), if_neg (Hk.out 5 (by omega) (by omega)), if_neg (Hk.out 6 (by omega) (by omega))])
  have e1 : (k == 1) = false := by rw [beq_eq_false_iff_ne]; exact Hk.out 1 (by omega) (by omega)
  have e2 : (k == 2) = false := by rw [beq_eq_false_iff_ne]; exact Hk.out 2 (by omega) (by omega)
  have e3 : (k == 3) = false := by rw [beq_eq_false_iff_ne]; exact Hk.out 3 (by omega) (by omega)
  have e4 : (k == 4) = false := by rw [beq_eq_false_iff_ne]; exact Hk.out 4 (by omega) (by omega)
  have e5 : (k == 5) = false := by rw [beq_eq_false_iff_ne]; exact Hk.out 5 (by omega) (by omega)
  have e6 : (k == 6) = false := by rw [beq_eq_false_iff_ne]; exact Hk.out 6 (by omega) (by omega)
  go_wp2
  (try simp only [Exit.inBlock, Exit.then])
  refine bodyPost_ret (results_row_tmp rfl _ _ (w.heap.size + 2) _ _ _ _ rfl (three_put HDq.out.res _ _ _) Tryz.underlying108 rfl rfl) rfl ?_
  exact Ret.mk (DoQ.mk HV.out rfl rfl (three_own (own_mono HDq.out.own (by have := Hb0.out; omega)) HDq.out.res (by decide) _ _ _) (three_below HDq.out.below (by omega) _ _ _))
theorem rDo_any (j : Jn) (c : Card) (A : Option Addr) (ca b0 : Nat) (w : World) (hI : OwnIt w b0 A ca j.items) (hb0 : b0 ≤ w.heap.size) (hn : j.items.length ≤ 1000) (once : (j.items.map It.num).Nodup) :
    Calls Tryz.prog 108 #[vState j A ca, vCard c] w (Ret (DoQ j c b0 w)) := by
  obtain ⟨k, x, y, z⟩ := c
  by_cases h : 1 ≤ k ∧ k ≤ 6
  · have : k = 1 ∨ k = 2 ∨ k = 3 ∨ k = 4 ∨ k = 5 ∨ k = 6 := by omega
    rcases this with rfl | rfl | rfl | rfl | rfl | rfl
    · exact rDo_day j x y z A ca b0 w hI hb0 hn once
    · exact rDo_box j x y z A ca b0 w hI hb0 hn once
    · exact rDo_sing j x y z A ca b0 w hI hb0 hn once
    · exact rDo_copy j x y z A ca b0 w hI hb0 hn once
    · exact rDo_crack j x y z A ca b0 w hI hb0 hn once
    · exact rDo_move j x y z A ca b0 w hI hb0 hn once
  · exact rDo_other j k x y z A ca b0 w hI hb0 hn once (fun i h1 h6 e => h (by omega))
end Go.Proofs.YtkpmmgeffbhngaaGreatDoor
namespace Prot
/-- cards whose numbers count, but for one -/
def pickV (cs : List Card) (ks : List Int) (but : Int) : List Card := (ks.filter fun k => decide (k ≠ but)).map fun k => cs.getD k.toNat zeroC
/-- the cards that count, by their indexes -/
theorem counts_cards (cs ds : List Card) (h : ∀ k ∈ countsOf cs, ds.getD k.toNat zeroC = cs.getD k.toNat zeroC) : (countsOf cs).map (fun k => ds.getD k.toNat zeroC) = liveC cs := by
  have e1 : (countsOf cs).map (fun k => ds.getD k.toNat zeroC) = (countsOf cs).map fun k => cs.getD k.toNat zeroC := List.map_congr_left h
  rw [e1]
  clear e1 h
  induction cs using snoc_ind with
  | h0 => rfl
  | h1 cs c ih =>
    rw [countsOf_snoc, liveC_append, List.map_append]
    congr 1
    · rw [← ih]
      apply List.map_congr_left
      intro k hk
      exact getD_snoc_lt (mem_countsOf.1 hk).2.1
    · by_cases h : c = zeroC
      · rw [if_pos h]; subst h; rfl
      · rw [if_neg h]
        unfold liveC
        rw [List.filter_cons_of_pos (by simpa using h), List.map_cons, Int.toNat_natCast, getD_snoc_eq]; rfl
theorem pick_live {cs ds : List Card} {a : Nat} (h : ∀ k ∈ countsOf cs, ds.getD k.toNat zeroC = cs.getD k.toNat zeroC) : pickV ds (countsOf cs) a = liveC (butC cs a) := by
  unfold pickV
  rw [← countsOf_but]
  have hm : ∀ k ∈ countsOf (butC cs a), k ∈ countsOf cs ∧ k ≠ (a : Int) := fun k hk => by
    rw [countsOf_but, List.mem_filter] at hk
    exact ⟨hk.1, by simpa using hk.2⟩
  rw [← counts_cards (butC cs a) ds]
  intro k hk
  obtain ⟨h1, h2⟩ := hm k hk
  rw [h k h1, butC_at (mem_countsOf.1 h1).2.1, if_neg]
  have := (mem_countsOf.1 h1).1
  omega
/-- numbers stay apart, and few -/
theorem once_put {l : List It} {n : Int} {f : It → It} (hf : ∀ x, (f x).num = x.num) : (putI l n f).map It.num = l.map It.num := by
  unfold putI
  rw [List.map_map]
  apply List.map_congr_left
  intro x _
  show (if x.num = n then f x else x).num = x.num
  split
  · exact hf x
  · rfl
theorem once_snoc {l : List It} {x : It} (h : (l.map It.num).Nodup) (hf : findI l x.num = none) : ((l ++ [x]).map It.num).Nodup := by
  rw [List.map_append]
  refine List.nodup_append.2 ⟨h, by simp, fun a ha b hb => ?_⟩
  obtain ⟨y, hy, rfl⟩ := List.mem_map.1 ha
  simp only [List.map_cons, List.map_nil, List.mem_singleton] at hb
  subst hb
  exact findI_none.1 hf y hy
theorem doV_once {j : Jn} (h : (j.items.map It.num).Nodup) (c : Card) : ((doV j c).1.items.map It.num).Nodup ∧ (doV j c).1.items.length ≤ j.items.length + 1 := by
  unfold doV
  repeat' split
  all_goals first
    | exact ⟨h, by simp⟩
    | (refine ⟨?_, by simp⟩
       dsimp only
       refine once_snoc h ?_
       dsimp only
       refine (freshE_ok (j := j) ?_).2.1
       simp_all; done)
    | (refine ⟨?_, by simp [putI]⟩
       dsimp only
       refine (congrArg List.Nodup (once_put (l := j.items) (n := c.2.1) ?_)).mpr h
       intro x; rfl)
theorem replay_once : ∀ (cs : List Card) (j k : Jn), (j.items.map It.num).Nodup → replay cs j = some k → (k.items.map It.num).Nodup ∧ k.items.length ≤ j.items.length + cs.length
  | [], j, k, h, e => by injection e with e; subst e; exact ⟨h, by simp⟩
  | c :: cs, j, k, h, e => by
    have e' : (if (doV j c).2 = 0 then replay cs (doV j c).1 else none) = some k := e
    split at e'
    · obtain ⟨h1, h2⟩ := doV_once h c
      obtain ⟨h3, h4⟩ := replay_once cs _ k h1 e'
      exact ⟨h3, by rw [List.length_cons]; omega⟩
    · cases e'
theorem replay_snoc (cs : List Card) (c : Card) (j : Jn) : replay (cs ++ [c]) j = (replay cs j).bind fun k => if (doV k c).2 = 0 then some (doV k c).1 else none := by
  rw [replay_append]
  congr 1
end Prot
namespace Go.Proofs.YtkpmmgeffbhngaaGreatDoor
open Go.RowKit Prot Go.Lib Go.Maps
section
variable {w w' : World} {A : Option Addr} {l : List Card}
end
theorem pick_next {cs : List Card} {ks : List Int} {but : Int} {i m : Nat} (hi : i < ks.length) (hm : ks[i] = (m : Int)) (hc : m < cs.length) : pickV cs (ks.take (i + 1)) but = pickV cs (ks.take i) but ++ (if (m : Int) = but then [] else [cs[m]]) := by
  unfold pickV
  rw [List.take_succ_eq_append_getElem hi, List.filter_append, List.map_append, hm]
  congr 1
  by_cases h : (m : Int) = but
  · rw [if_pos h]; simp [h]
  · rw [if_neg h, List.filter_cons_of_pos (by simpa using h), List.map_cons, Int.toNat_natCast, List.getD_eq_getElem?_getD, List.getElem?_eq_getElem hc]; rfl
/-- rows that a call answers -/
def CardsQ (cs : List Card) (w : World) (v : Value) (w' : World) : Prop := ∃ A ca, v = .slice A cs.length ca ∧ cs.length ≤ ca ∧ CardsAt w' A cs ∧ Below w.heap.size w w'
set_option maxRecDepth 100000 in
set_option maxHeartbeats 1000000 in
theorem rpick_any (A : Option Addr) (ca : Nat) (cs : List Card) (B : Option Addr) (cb : Nat) (ks : List Int) (but : Int) (w : World) (hl : CardsAt w A cs) (hk : IntsAt w B ks) (hn : cs.length ≤ 1000) (hm : ks.length ≤ 1000) (hks : ∀ k ∈ ks, 0 ≤ k ∧ k.toNat < cs.length) :
    Calls Tryz.prog 110 #[.slice A cs.length ca, .slice B ks.length cb, .int .i64 but] w (Ret (CardsQ (pickV cs ks but) w)) := by
  have Hl := Lib.hid hl
  have Hk := Lib.hid hk
  have Hks := Lib.hid hks
  clear hl hk hks
  go_enter Tryz.func110, Tryz.ntmps110
  go_wp2
  go_loopw [7, 8] (fun u i wr => ∃ (k : Nat) (o : List Card), k ≤ ks.length ∧ i = .int .i64 k ∧ o.length ≤ k ∧ Hid (pickV cs (ks.take k) but = o) ∧ Hid (wr.ownsRow w.heap.size 36 4 u o.length (o.flatMap encCd)) ∧ Hid (Below w.heap.size w wr)) (fun _ i _ => ks.length - (intOf i).toNat)
  case atStart => exact ⟨0, [], by omega, rfl, by simp, Lib.hid rfl, Lib.hid (by simpa using World.ownsRow_nil w w.heap.size 36 4), Lib.hid (Below.refl _ _)⟩
  case round =>
    obtain ⟨i, o, hi, rfl, ho, HP, HO, HB⟩ := hrel
    by_cases hin : i < ks.length
    · obtain ⟨b2, o2, rfl, g1⟩ := (Hk.out.below HB.out).at_ hin
      obtain ⟨h0, hlt⟩ := Hks.out ks[i] (List.getElem_mem hin)
      obtain ⟨m, hmk⟩ : ∃ m : Nat, ks[i] = (m : Int) := ⟨ks[i].toNat, by omega⟩
      have hmc : m < cs.length := by rw [hmk] at hlt; simpa using hlt
      have HN := Lib.hid (pick_next (but := but) hin hmk hmc)
      rw [HP.out] at HN
      rw [hmk] at g1
      have i0 : (0 : Int) ≤ (i : Int) := by omega
      have i1 : (i : Int) < (ks.length : Int) := by omega
      clear h0 hlt hmk
      by_cases hb : (m : Int) = but
      · have t1 : ((m : Int) != but) = false := by simpa using hb
        rw [if_pos hb, List.append_nil] at HN
        clear hb
        go_wp2
        go_roundw
        case rel => exact ⟨i + 1, o, by omega, by go_num, by omega, HN, HO, HB⟩
        case measure => simp [intOf]; omega
      · have t1 : ((m : Int) != but) = true := by simpa using hb
        rw [if_neg hb] at HN
        obtain ⟨b1, o1, rfl, c0, c1, c2, c3⟩ := (Hl.out.below HB.out).at_ hmc
        obtain ⟨x, hx⟩ : ∃ x, x = cs[m] := ⟨_, rfl⟩
        rw [← hx] at c0 c1 c2 c3 HN
        obtain ⟨x0, x1, x2, x3⟩ := x
        dsimp only at c0 c1 c2 c3
        have m0 : (0 : Int) ≤ (m : Int) := by omega
        have m1 : (m : Int) < (cs.length : Int) := by omega
        have hbk := heap_alloc_new wr (.cells #[.int .i64 x0, .int .i64 x1, .int .i64 x2, .int .i64 x3] 36)
        have HOA := Lib.hid (HO.out.alloc (.cells #[.int .i64 x0, .int .i64 x1, .int .i64 x2, .int .i64 x3] 36))
        have hr6 := own_base HO.out
        have hsw := HB.out.size
        clear hb hx
        go_wp2_with (at_builtin; refine wpList_push _ rfl (.tmp 21) (.tmp 29) 104 rfl elemCd encCd_len oneCd Tryz.underlying104 w.heap.size _ o rfl HOA.out (by omega) (x0, x1, x2, x3) wr.heap.size (by rfl) _ rfl _ _ hbk (by rw [World.size_alloc]; omega) ?_; intro g2 cap w6 hO6 hg6)
        have HB6 := Lib.hid ((below_alloc' HB.out (.cells #[.int .i64 x0, .int .i64 x1, .int .i64 x2, .int .i64 x3] 36)).grown hg6 (by rw [World.size_alloc]; omega) (fun r e => by have := hr6 r e; omega))
        have HO6 := Lib.hid hO6
        clear hO6 hg6 hr6 HO HOA hbk HB
        go_roundw
        case rel => exact ⟨i + 1, o ++ [(x0, x1, x2, x3)], by omega, by go_num, by rw [len_snoc]; omega, HN, by rw [len_snoc]; exact HO6, HB6⟩
        case measure => simp [intOf]; omega
    · obtain rfl : i = ks.length := by omega
      rw [List.take_length] at HP
      obtain ⟨A', c, rfl, hc⟩ := own_form HO.out
      have HI := Lib.hid (RowsAt.of_own encCd_len HO.out)
      clear HO
      go_wp2
      go_ret
      exact Ret.mk (by rw [HP.out]; exact ⟨A', c, rfl, hc, HI.out, HB.out⟩)
theorem joinDag {P G : Prop} (h1 : Hid P → G) (h2 : P) : G := h1 (Lib.hid h2)
/-- what Replay of the definition answers -/
def RepQ (r : Option Jn) (w : World) (v : Value) (w' : World) : Prop :=
  (r = none ∧ v = .tuple #[.agg #[.int .i64 0, .int .i64 0, .slice none 0 0], .bool false] ∨ ∃ k A ca, r = some k ∧ v = .tuple #[vState k A ca, .bool true] ∧ OwnIt w' w.heap.size A ca k.items) ∧ Below w.heap.size w w'
set_option maxRecDepth 100000 in
set_option maxHeartbeats 1000000 in
theorem rReplay_any (A : Option Addr) (ca : Nat) (cs : List Card) (w : World) (hl : CardsAt w A cs) (hn : cs.length ≤ 100) : Calls Tryz.prog 109 #[.slice A cs.length ca] w (Ret (RepQ (replay cs Jn.start) w)) := by
  have Hl := Lib.hid hl
  clear hl
  go_enter Tryz.func109, Tryz.ntmps109
  go_wp2
  go_loopw [5] (fun i wr => ∃ (k : Nat) (j : Jn) (G : Option Addr) (gc : Nat), k ≤ cs.length ∧ i = .int .i64 k ∧ Hid (replay (cs.take k) Jn.start = some j) ∧ Hid (OwnIt wr (w.heap.size + 2) G gc j.items) ∧
    Hid (wr.heap[w.heap.size + 1]? = some (.cells #[.int .i64 j.day, .int .i64 j.opn, .slice G j.items.length gc] 108 (0, 0))) ∧ Hid (wr.heap[w.heap.size]? = some (.cells #[.int .i64 0, .int .i64 0, .slice none 0 0] 108 (0, 0))) ∧ Hid (Below w.heap.size w wr)) (fun i _ => cs.length - (intOf i).toNat)
  case atStart => exact ⟨0, Jn.start, none, 0, by omega, rfl, Lib.hid rfl, Lib.hid (World.ownsRow_nil _ _ _ _), Lib.hid (heap_alloc_at _ _ (by simp)), Lib.hid (blk_alloc (heap_alloc_new _ _) _), Lib.hid (below_alloc' (below_alloc' (Below.refl _ _) _) _)⟩
  case round =>
    obtain ⟨i, j, G, gc, hi, rfl, HR, HI, HJ, HZ, HB⟩ := hrel
    by_cases hin : i < cs.length
    · obtain ⟨b, o, rfl, c0, c1, c2, c3⟩ := (Hl.out.below HB.out).at_ hin
      obtain ⟨hon, hfew⟩ := replay_once _ _ _ (by simp [Jn.start]) HR.out
      have hfew2 : j.items.length ≤ 100 := by
        rw [List.length_take] at hfew
        simp [Jn.start] at hfew
        omega
      obtain ⟨⟨⟨dy, op, its⟩, er⟩, hr⟩ : ∃ r, doV j cs[i] = r := ⟨_, rfl⟩
      have HC : Hid (∀ W, Below wr.heap.size wr W → Calls Tryz.prog 108 #[vState j G gc, vCard cs[i]] W (Ret fun v w' => (∃ A ca, v = .tuple #[.agg #[.int .i64 dy, .int .i64 op, .slice A its.length ca], .int .i64 er] ∧ OwnIt w' (w.heap.size + 2) A ca its) ∧ Below W.heap.size W w')) := Lib.hid fun W hb => by
        have := rDo_any j cs[i] G gc (w.heap.size + 2) W (HI.out.below hb) (by have := blk_lt HJ.out; have := hb.size; omega) (by omega) hon
        unfold DoQ at this
        rw [hr] at this
        exact this
      have HS : Hid (er ≠ 0 → replay cs Jn.start = none) := Lib.hid fun h2 => Prot.replay_stop hin HR.out (by rw [hr]; exact h2)
      have HN : Hid (er = 0 → replay (cs.take (i + 1)) Jn.start = some ⟨dy, op, its⟩) := Lib.hid fun h => by
        rw [List.take_succ_eq_append_getElem hin, replay_snoc, HR.out]
        show (if (doV j cs[i]).2 = 0 then some (doV j cs[i]).1 else none) = _
        rw [hr, if_pos h]
      unfold vState vCard at HC
      have i0 : (0 : Int) ≤ (i : Int) := by omega
      have i1 : (i : Int) < (cs.length : Int) := by omega
      obtain ⟨p0, p1, p2, -, -, -⟩ := three_cells HJ.out
      have hlt := blk_lt HJ.out
      clear hr hfew hfew2 hon
      generalize cs[i] = c at *
      obtain ⟨k0, k1, k2, k3⟩ := c
      obtain ⟨jd, jo, jl⟩ := j
      dsimp only at c0 c1 c2 c3 HC p0 p1 p2 HJ ⊢
      have HSF : Hid (∀ V, Below wr.heap.size wr V → V.cell? ⟨w.heap.size + 1, 0, none⟩ = some (.int .i64 jd) ∧ V.cell? ⟨w.heap.size + 1, 1, none⟩ = some (.int .i64 jo) ∧ V.cell? ⟨w.heap.size + 1, 2, none⟩ = some (.slice G jl.length gc) ∧
          V.cell? ⟨b, o + i * 4, none⟩ = some (.int .i64 k0) ∧ V.cell? ⟨b, o + i * 4 + 1, none⟩ = some (.int .i64 k1) ∧ V.cell? ⟨b, o + i * 4 + 2, none⟩ = some (.int .i64 k2) ∧ V.cell? ⟨b, o + i * 4 + 3, none⟩ = some (.int .i64 k3)) := Lib.hid fun V h =>
        ⟨cell_below h p0, cell_below h p1, cell_below h p2, cell_below h c0, cell_below h c1, cell_below h c2, cell_below h c3⟩
      go_upto_region 5 with fail
      clear p0 p1 p2 c0 c1 c2 c3
      have Hlt := Lib.hid hlt
      clear hlt
      have HBv : Hid (Below wr.heap.size wr wr.drew) := Lib.hid ((Below.refl _ _).drew)
      refine wp_region_held_drew (S := fun V => V.cell? ⟨w.heap.size + 1, 0, none⟩ = some (.int .i64 jd) ∧ V.cell? ⟨w.heap.size + 1, 1, none⟩ = some (.int .i64 jo) ∧ V.cell? ⟨w.heap.size + 1, 2, none⟩ = some (.slice G jl.length gc) ∧
          V.cell? ⟨b, o + i * 4, none⟩ = some (.int .i64 k0) ∧ V.cell? ⟨b, o + i * 4 + 1, none⟩ = some (.int .i64 k1) ∧ V.cell? ⟨b, o + i * 4 + 2, none⟩ = some (.int .i64 k2) ∧ V.cell? ⟨b, o + i * 4 + 3, none⟩ = some (.int .i64 k3)) (by kernel_rfl) (HSF.out _ HBv.out) (fun hS9 => ?_)
      clear hS9
      generalize wr.drew = W9 at HBv ⊢
      refine wpAnyH_take (i := 0) (v := ?_) rfl (by kernel_rfl) (by kernel_rfl) (by kernel_rfl) (fun _ _ _ h => h) (Or.inl ⟨by rfl, ?_⟩) (HSF.out _ HBv.out) ?_
      rotate_left 1
      · intro W hW; obtain ⟨s0, s1, s2, s3, s4, s5, s6⟩ := hW; go_simp <;> with_reducible rfl
      refine wpAnyH_take (i := 1) (v := ?_) rfl (by kernel_rfl) (by kernel_rfl) (by kernel_rfl) (fun _ _ _ h => h) (Or.inl ⟨by rfl, ?_⟩) (HSF.out _ HBv.out) ?_
      rotate_left 1
      · intro W hW; obtain ⟨s0, s1, s2, s3, s4, s5, s6⟩ := hW; go_simp <;> with_reducible rfl
      refine wpAnyH_take (i := 2) (v := ?_) rfl (by kernel_rfl) (by kernel_rfl) (by kernel_rfl) (fun _ _ _ h => h) (Or.inl ⟨by rfl, ?_⟩) (HSF.out _ HBv.out) ?_
      rotate_left 1
      · intro W hW; obtain ⟨s0, s1, s2, s3, s4, s5, s6⟩ := hW; go_simp <;> with_reducible rfl
      refine wpAnyH_take (i := 3) (v := ?_) rfl (by kernel_rfl) (by kernel_rfl) (by kernel_rfl) (fun _ _ _ h => h) (Or.inl ⟨by rfl, ?_⟩) (HSF.out _ HBv.out) ?_
      rotate_left 1
      · intro W hW; obtain ⟨s0, s1, s2, s3, s4, s5, s6⟩ := hW; go_simp <;> with_reducible rfl
      refine wpAnyH_take (i := 4) (v := ?_) rfl (by kernel_rfl) (by kernel_rfl) (by kernel_rfl) (fun _ _ _ h => h) (Or.inl ⟨by rfl, ?_⟩) (HSF.out _ HBv.out) ?_
      rotate_left 1
      · intro W hW; obtain ⟨s0, s1, s2, s3, s4, s5, s6⟩ := hW; go_simp <;> with_reducible rfl
      simp only [Act.put, List.setIfInBounds_toArray]
      apply joinDag
      · intro F
        refine wpAnyH_ready (rs := [5, 9]) (by kernel_rfl) (by simp) ?_
        refine AllReadyH.cons rfl (fun K hK => ?_) (AllReadyH.cons rfl (fun K hK => ?_) AllReadyH.nil)
        · go_simp
          refine (HC.out _ HBv.out).mono ?_
          rintro e V ⟨v, rfl, ⟨G', gc', rfl, hI'⟩, hb⟩
          have hB' := HBv.out.trans (hb.mono HBv.out.size)
          refine hK.out _ _ (HSF.out _ hB') (fun _ => ?_)
          clear hK K
          refine wpAnyH_take (i := 6) (v := ?_) rfl (by kernel_rfl) (by kernel_rfl) (by kernel_rfl) (fun _ _ _ h => h) (Or.inl ⟨by rfl, ?_⟩) (HSF.out _ hB') ?_
          rotate_left 1
          · intro W hW; obtain ⟨s0, s1, s2, s3, s4, s5, s6⟩ := hW; go_simp <;> with_reducible rfl
          refine wpAnyH_take (i := 7) (v := ?_) rfl (by kernel_rfl) (by kernel_rfl) (by kernel_rfl) (fun _ _ _ h => h) (Or.inl ⟨by rfl, ?_⟩) (HSF.out _ hB') ?_
          rotate_left 1
          · intro W hW; obtain ⟨s0, s1, s2, s3, s4, s5, s6⟩ := hW; go_simp <;> with_reducible rfl
          refine wpAnyH_take (i := 8) (v := ?_) rfl (by kernel_rfl) (by kernel_rfl) (by kernel_rfl) (fun _ _ _ h => h) (Or.inl ⟨by rfl, ?_⟩) (HSF.out _ hB') ?_
          rotate_left 1
          · intro W hW; obtain ⟨s0, s1, s2, s3, s4, s5, s6⟩ := hW; go_simp <;> with_reducible rfl
          simp only [Act.put, List.setIfInBounds_toArray]
          refine wpAnyH_ready (rs := [9]) (by kernel_rfl) (by simp) ?_
          refine AllReadyH.cons rfl (fun K hK => ?_) AllReadyH.nil
          go_simp
          have hB6 := below_alloc' hB' (.cells #[.int .i64 0, .int .i64 0, .slice none 0 0] 108)
          refine hK.out _ _ (HSF.out _ hB6) (fun _ => ?_)
          clear hK K
          have h6 := heap_alloc_new V (.cells #[.int .i64 0, .int .i64 0, .slice none 0 0] 108)
          have hI6 := World.ownsRow.alloc hI' (.cells #[.int .i64 0, .int .i64 0, .slice none 0 0] 108)
          have hb6 : wr.heap.size ≤ V.heap.size := hB'.size
          generalize V.alloc (.cells #[.int .i64 0, .int .i64 0, .slice none 0 0] 108) = Z at h6 hI6 hB6 ⊢
          generalize V.heap.size = b6 at h6 hb6 ⊢
          clear hb hB' hI'
          revert hb6
          revert h6
          revert hB6
          revert hI6
          revert Z
          revert b6
          revert gc'
          revert G'
          exact F.out
        · go_simp
          have hB1 := below_alloc' HBv.out (.cells #[.int .i64 0, .int .i64 0, .slice none 0 0] 108)
          refine hK.out _ _ (HSF.out _ hB1) (fun _ => ?_)
          clear hK K
          have h6 := heap_alloc_new W9 (.cells #[.int .i64 0, .int .i64 0, .slice none 0 0] 108)
          refine wpAnyH_ready (rs := [5]) (by kernel_rfl) (by simp) ?_
          refine AllReadyH.cons rfl (fun K hK => ?_) AllReadyH.nil
          go_simp
          refine (HC.out _ hB1).mono ?_
          rintro e V ⟨v, rfl, ⟨G', gc', rfl, hI'⟩, hb⟩
          have hB' := hB1.trans (hb.mono hB1.size)
          refine hK.out _ _ (HSF.out _ hB') (fun _ => ?_)
          clear hK K
          refine wpAnyH_take (i := 6) (v := ?_) rfl (by kernel_rfl) (by kernel_rfl) (by kernel_rfl) (fun _ _ _ h => h) (Or.inl ⟨by rfl, ?_⟩) (HSF.out _ hB') ?_
          rotate_left 1
          · intro W hW; obtain ⟨s0, s1, s2, s3, s4, s5, s6⟩ := hW; go_simp <;> with_reducible rfl
          refine wpAnyH_take (i := 7) (v := ?_) rfl (by kernel_rfl) (by kernel_rfl) (by kernel_rfl) (fun _ _ _ h => h) (Or.inl ⟨by rfl, ?_⟩) (HSF.out _ hB') ?_
          rotate_left 1
          · intro W hW; obtain ⟨s0, s1, s2, s3, s4, s5, s6⟩ := hW; go_simp <;> with_reducible rfl
          refine wpAnyH_take (i := 8) (v := ?_) rfl (by kernel_rfl) (by kernel_rfl) (by kernel_rfl) (fun _ _ _ h => h) (Or.inl ⟨by rfl, ?_⟩) (HSF.out _ hB') ?_
          rotate_left 1
          · intro W hW; obtain ⟨s0, s1, s2, s3, s4, s5, s6⟩ := hW; go_simp <;> with_reducible rfl
          simp only [Act.put, List.setIfInBounds_toArray]
          exact F.out G' gc' W9.heap.size V hI' hB' (blk_below hb h6) HBv.out.size
      · intro G' gc' b6 Z hI6 hB6 h6 hb6
        have HI6 := Lib.hid hI6
        have H6 := Lib.hid h6
        have HB6 := Lib.hid hB6
        have Hb6 := Lib.hid hb6
        clear hI6 h6 hB6 hb6
        obtain ⟨r0, r1, r2, f0, f1, f2⟩ := three_cells H6.out
        have HBn := Lib.hid (three_below HB6.out Hb6.out (.int .i64 dy) (.int .i64 op) (.slice G' its.length gc'))
        refine wpAnyH_ready (rs := [10]) (by kernel_rfl) (by simp) ?_
        refine AllReadyH.cons rfl (fun K hK => ?_) AllReadyH.nil
        go_simp
        refine hK.out _ _ (HSF.out _ HBn.out) (fun _ => ?_)
        clear hK K
        refine wpAnyH_ready (rs := [11]) (by kernel_rfl) (by simp) ?_
        refine AllReadyH.cons rfl (fun K hK => ?_) AllReadyH.nil
        go_simp
        refine hK.out _ _ (HSF.out _ HBn.out) (fun _ => ?_)
        clear hK K
        refine wpAnyH_done (by kernel_rfl) ?_ _
        have H6n := Lib.hid (three_put H6.out (.int .i64 dy) (.int .i64 op) (.slice G' its.length gc'))
        have HIn := Lib.hid (three_own HI6.out H6.out (by decide) (.int .i64 dy) (.int .i64 op) (.slice G' its.length gc'))
        clear r0 r1 r2 f0 f1 f2 HI6 H6 HB6
        generalize (((Z.setCell ⟨b6, 0, none⟩ (.int .i64 dy)).setCell ⟨b6, 1, none⟩ (.int .i64 op)).setCell ⟨b6, 2, none⟩ (.slice G' its.length gc')) = Y at H6n HIn HBn ⊢
        have HJn := Lib.hid (blk_below HBn.out HJ.out)
        have HZn := Lib.hid (blk_below HBn.out HZ.out)
        have HBw := Lib.hid (below_trans' HB.out HBn.out)
        clear HI HBn
        by_cases he : er = 0
        · have HR2 := Lib.hid (HN.out he)
          subst he
          have hb6 := Hb6.out
          have hlt := Hlt.out
          obtain ⟨p0, p1, p2, -, -, -⟩ := three_cells H6n.out
          obtain ⟨q0, q1, q2, f0, f1, f2⟩ := three_cells HJn.out
          have HJ3 := Lib.hid (three_put HJn.out (.int .i64 dy) (.int .i64 op) (.slice G' its.length gc'))
          have HI3 := Lib.hid (three_own HIn.out HJn.out (by decide) (.int .i64 dy) (.int .i64 op) (.slice G' its.length gc'))
          have HZ3 := Lib.hid (blk_far (p := ⟨w.heap.size + 1, 2, none⟩) (blk_far (p := ⟨w.heap.size + 1, 1, none⟩) (blk_far (p := ⟨w.heap.size + 1, 0, none⟩) HZn.out (by simp) (.int .i64 dy)) (by simp) (.int .i64 op)) (by simp) (.slice G' its.length gc'))
          have HB3 := Lib.hid (three_below HBw.out (b := w.heap.size + 1) (by omega) (.int .i64 dy) (.int .i64 op) (.slice G' its.length gc'))
          clear HS HN HSF HC HR HJ HZ HB HBv hb6 hlt
          go_simp
          go_wp2
          go_roundw
          case rel => exact ⟨i + 1, ⟨dy, op, its⟩, G', gc', by omega, by go_num, HR2, HI3, HJ3, HZ3, HB3⟩
          case measure => simp [intOf]; omega
        · have HV := Lib.hid (HS.out he)
          have t1 : (er != 0) = true := by simpa using he
          have t2 : (er == 0) = false := by simpa using he
          obtain ⟨x0, x1, x2, f0, f1, f2⟩ := three_cells HZn.out
          clear HS HN HSF HC HR HJ HZ HB HBv he
          go_simp
          go_wp2
          (try simp only [Exit.inBlock, Exit.then])
          refine bodyPost_ret (results_row_tmp rfl _ _ w.heap.size _ _ _ _ rfl (three_put HZn.out _ _ _) Tryz.underlying108 rfl rfl) rfl ?_
          exact Ret.mk ⟨.inl ⟨HV.out, rfl⟩, three_below HBw.out (Nat.le_refl _) _ _ _⟩
    · obtain rfl : i = cs.length := by omega
      rw [List.take_length] at HR
      obtain ⟨p0, p1, p2, -, -, -⟩ := three_cells HJ.out
      obtain ⟨x0, x1, x2, f0, f1, f2⟩ := three_cells HZ.out
      have hlt := blk_lt HJ.out
      go_wp2
      (try simp only [Exit.inBlock, Exit.then])
      refine bodyPost_ret (results_row_tmp rfl _ _ w.heap.size _ _ _ _ rfl (three_put HZ.out _ _ _) Tryz.underlying108 rfl rfl) rfl ?_
      exact Ret.mk ⟨.inr ⟨j, G, gc, HR.out, rfl, three_own (own_mono HI.out (by omega)) HZ.out (by decide) _ _ _⟩, three_below HB.out (Nat.le_refl _) _ _ _⟩
end Go.Proofs.YtkpmmgeffbhngaaGreatDoor
namespace Go.Proofs.YtkpmmgeffbhngaaGreatDoor
open Go.RowKit Prot Go.Lib Go.Maps
theorem AllR.refuse {s : St} {ds : List Card} {ks : List Int} (h : AllR s ds ks) (es : List Int) (c : Card) (j : Jn) : AllR ⟨es, s.cards ++ [zeroC], j⟩ (ds ++ [c]) ks := by
  refine ⟨?_, fun k hk => ?_, by simp [h.len]⟩
  · dsimp only; rw [countsOf_snoc, if_pos rfl, List.append_nil]; exact h.are
  · have hlt := (mem_countsOf.1 (h.are ▸ hk)).2.1
    dsimp only
    rw [getD_snoc_lt hlt, getD_snoc_lt (by rw [h.len]; exact hlt)]
    exact h.same k hk
theorem AllR.in_ {s : St} {ds : List Card} {ks : List Int} (h : AllR s ds ks) {k : Int} (hk : k ∈ ks) : 0 ≤ k ∧ k.toNat < ds.length := by
  have := mem_countsOf.1 (h.are ▸ hk)
  exact ⟨this.1, by rw [h.len]; exact this.2.1⟩
theorem countsOf_le (cs : List Card) : (countsOf cs).length ≤ cs.length := by
  unfold countsOf
  rw [List.length_map]
  exact Nat.le_trans (List.length_filter_le _ _) (by simp)
/-- a strike, in the definition's words -/
theorem strike_words {s : St} {ds : List Card} {ks : List Int} (h : AllR s ds ks) {a : Int} (ha : 1 ≤ a) : strikeV s a =
    if ks.any (fun k => decide (k = a - 1)) = false then ⟨s.errs ++ [3], s.cards ++ [zeroC], s.jn⟩ else match replay (pickV ds ks (a - 1)) Jn.start with
      | none => ⟨s.errs ++ [24], s.cards ++ [zeroC], s.jn⟩
      | some k => ⟨s.errs ++ [0], butC s.cards (a - 1).toNat ++ [zeroC], k⟩ := by
  have hiff : (ks.any fun k => decide (k = a - 1)) = true ↔ (1 ≤ a ∧ (a - 1).toNat < s.cards.length ∧ s.cards.getD (a - 1).toNat zeroC ≠ zeroC) := by
    rw [List.any_eq_true, h.are]
    constructor
    · rintro ⟨k, hk, e⟩
      have e : k = a - 1 := by simpa using e
      subst e
      exact ⟨ha, (mem_countsOf.1 hk).2⟩
    · rintro ⟨_, h1⟩
      exact ⟨a - 1, mem_countsOf.2 ⟨by omega, h1⟩, by simp⟩
  unfold strikeV
  by_cases c : (ks.any fun k => decide (k = a - 1)) = true
  · rw [if_neg (fun k => k (hiff.1 c)), if_neg (by rw [c]; simp)]
    have e : a - 1 = ((a - 1).toNat : Int) := by omega
    have := pick_live (cs := s.cards) (ds := ds) (a := (a - 1).toNat) (fun k hk => h.same k (h.are ▸ hk))
    rw [← e, ← h.are] at this
    rw [this]
    cases replay (liveC (butC s.cards (a - 1).toNat)) Jn.start <;> rfl
  · have c2 : (ks.any fun k => decide (k = a - 1)) = false := Bool.eq_false_iff.2 c
    rw [if_pos (fun k => c (hiff.2 k)), if_pos c2]
section
variable {B : Nat} {w W V : World} {A : Option Addr} {ls : List (List UInt8)} {jb : Nat} {E C K : Value} {es : List Int} {ds : List Card} {ks : List Int} {j : Jn} {G : Option Addr} {gc : Nat}
theorem AllW.pushK (h : AllW B w W A ls jb E C K es ds ks j G gc) (o : Obj) (hg : (W.alloc o).grownBy V K.ownBlock) {K' : Value} {ks' : List Int} (hO : V.ownsRow B 3 1 K' ks'.length (ks'.flatMap encI)) : AllW B w V A ls jb E C K' es ds ks' j G gc :=
  ⟨(h.errs.alloc o).kept hg (own_apart h.errs h.counts (by decide)), (h.cards.alloc o).kept hg (own_apart h.cards h.counts (by decide)), hO, (World.ownsRow.alloc h.items o).kept hg (own_apart h.items h.counts (by decide)),
    blk_grown hg (blk_alloc h.jn o) (own_ne_blk h.counts h.jn (by decide)), blk_grown hg (blk_alloc h.res o) (own_ne_blk h.counts h.res (by decide)),
    rows_grown (h.lines.alloc o) hg (fun g a e hne k => by have := own_base h.counts g k.symm; have := h.old g a e hne; omega), h.old, (below_alloc' h.below o).grown hg (by have := h.below.size; simp; omega) (fun r e => by have := own_base h.counts r e; have := h.lo; have := h.mid; omega), h.lo, h.mid⟩
theorem AllW.setJ (h : AllW B w W A ls jb E C K es ds ks j G gc) {dy op : Int} {its : List It} {G' : Option Addr} {gc' : Nat} (hI : OwnIt W w.heap.size G' gc' its) :
    AllW B w (((W.setCell ⟨jb, 0, none⟩ (.int .i64 dy)).setCell ⟨jb, 1, none⟩ (.int .i64 op)).setCell ⟨jb, 2, none⟩ (.slice G' its.length gc')) A ls jb E C K es ds ks ⟨dy, op, its⟩ G' gc' :=
  ⟨three_own h.errs h.jn (by decide) _ _ _, three_own h.cards h.jn (by decide) _ _ _, three_own h.counts h.jn (by decide) _ _ _, three_own hI h.jn (by decide) _ _ _, three_put h.jn _ _ _,
    blk_far (p := ⟨jb, 2, none⟩) (blk_far (p := ⟨jb, 1, none⟩) (blk_far (p := ⟨jb, 0, none⟩) h.res (by have := h.lo; dsimp only; omega) _) (by have := h.lo; dsimp only; omega) _) (by have := h.lo; dsimp only; omega) _,
    three_rows h.lines (fun g o e hne k => by
      have hl : 0 < ls.length := Nat.pos_of_ne_zero fun e => hne (List.eq_nil_of_length_eq_zero e)
      obtain ⟨b', off, hA, h6⟩ := StrsAt.at_ h.lines hl
      rw [e] at hA
      injection hA with hA
      injection hA with h1 h2
      subst h1; subst k
      rw [blk_cell h.jn] at h6
      have hlt : off + 0 < 3 := by
        have := (Array.getElem?_eq_some_iff.1 h6).1
        simpa using this
      have : off = 0 ∨ off = 1 ∨ off = 2 := by omega
      rcases this with rfl | rfl | rfl <;> simp at h6) _ _ _,
    h.old, three_below h.below (by have := h.lo; omega) _ _ _, h.lo, h.mid⟩
theorem AllW.setK (h : AllW B w W A ls jb E C K es ds ks j G gc) {K' : Value} {ks' : List Int} (hO : W.ownsRow B 3 1 K' ks'.length (ks'.flatMap encI)) : AllW B w W A ls jb E C K' es ds ks' j G gc :=
  ⟨h.errs, h.cards, hO, h.items, h.jn, h.res, h.lines, h.old, h.below, h.lo, h.mid⟩
end
/-- what All of the definition answers -/
def AllQ (t : List UInt8) (w : World) (v : Value) (w' : World) : Prop :=
  (textErr t ≠ 0 ∧ v = .tuple #[.slice none 0 0, .agg #[.int .i64 0, .int .i64 0, .slice none 0 0], .slice none 0 0, .int .i64 (textErr t)] ∨
    textErr t = 0 ∧ ∃ E ec G gc K kc, v = .tuple #[.slice E (runV (rowsL t)).errs.length ec, vState (runV (rowsL t)).jn G gc, .slice K (countsOf (runV (rowsL t)).cards).length kc, .int .i64 0] ∧
      IntsAt w' E (runV (rowsL t)).errs ∧ (runV (rowsL t)).errs.length ≤ ec ∧ OwnIt w' w.heap.size G gc (runV (rowsL t)).jn.items ∧ IntsAt w' K (countsOf (runV (rowsL t)).cards)) ∧ Below w.heap.size w w'
theorem results_four {P : Program} {fn : Func} {t p u v : Tmp} {ty : TypeId} (h : fn.results = #[.tmp t, .cell p ty, .tmp u, .tmp v]) (tmps : Array Value) (w : World) (g : Nat) (tt : TypeId) (cs : Array Value) (fr : Nat × Nat) (d : TypeDesc)
    (hp : tmps.getD p undef = .pointer (some ⟨g, 0, none⟩)) (hg : w.heap[g]? = some (.cells cs tt fr))
    (hu : P.underlying ty = some d) (hd : (match d with | .struct _ | .array _ _ => true | _ => false) = true) (hi : (P.info? ty).map (·.size) = some cs.size) :
    (results fn tmps).run P w = .ok (.tuple #[tmps.getD t undef, .agg cs, tmps.getD u undef, tmps.getD v undef]) w := by
  have hp' : tmps[p]?.getD undef = .pointer (some ⟨g, 0, none⟩) := by simpa using hp
  simp [results, h, hp', asAddr, run_loadVar_row w g tt ty cs fr d hg hu hd hi]
theorem text_len (ls : List (List UInt8)) : ∀ l ∈ ls, l.length ≤ (textL ls).length := by
  induction ls with
  | nil => intro l h; cases h
  | cons k ls ih =>
    intro l h
    rw [textL_cons, List.length_append, List.length_cons]
    rcases List.mem_cons.1 h with rfl | h
    · omega
    · have := ih l h; omega
end Go.Proofs.YtkpmmgeffbhngaaGreatDoor
namespace Go.Proofs.YtkpmmgeffbhngaaGreatDoor
open Go.RowKit Prot Go.Lib Go.Maps
set_option maxRecDepth 100000 in
set_option maxHeartbeats 1500000 in
theorem rAll_any (s : ByteArray) (w : World) (hs : s.size ≤ 9223372036854775807) : Calls Tryz.prog 72 #[.string s] w (Ret (AllQ s.data.toList w)) := by
  obtain ⟨t, ht⟩ : ∃ t, t = s.data.toList := ⟨_, rfl⟩
  have HL : Hid (∀ W, Calls Tryz.prog 44 #[.string s] W (Ret (LinesQ t W))) := Lib.hid fun W => by rw [ht]; exact rLines_any s W hs
  rw [← ht]
  have hB0 := below_alloc' (Below.refl w.heap.size w) (.cells #[.int .i64 0, .int .i64 0, .slice none 0 0] 108)
  have hw0 := heap_alloc_new w (.cells #[.int .i64 0, .int .i64 0, .slice none 0 0] 108)
  clear ht hs
  go_enter Tryz.func72, Tryz.ntmps72
  go_wp2_with fail
  refine (HL.out _).mono ?_
  rintro _ w2 ⟨v, rfl, hQ, hB2⟩
  have H2 := Lib.hid (blk_below hB2 hw0)
  have HB2 := Lib.hid (below_trans' hB0 hB2)
  clear hB2 hB0 hw0
  rcases hQ with ⟨he, rfl⟩ | ⟨he, A, ca, rfl, hca, hA⟩
  · have he2 := Lib.hid he
    have t1 : (textErr t != 0) = true := by simpa using he
    obtain ⟨r0, r1, r2, f0, f1, f2⟩ := three_cells H2.out
    have HV : Hid (∀ v w', v = .tuple #[.slice none 0 0, .agg #[.int .i64 0, .int .i64 0, .slice none 0 0], .slice none 0 0, .int .i64 (textErr t)] → Below w.heap.size w w' → AllQ t w v w') := Lib.hid fun v w' h hb => ⟨.inl ⟨he2.out, h⟩, hb⟩
    clear he
    generalize textErr t = er at *
    go_wp2
    (try simp only [Exit.inBlock, Exit.then])
    refine bodyPost_ret (results_four rfl _ _ w.heap.size _ _ _ _ rfl (three_put H2.out _ _ _) Tryz.underlying108 rfl rfl) rfl ?_
    exact Ret.mk (HV.out _ _ rfl (three_below HB2.out (Nat.le_refl _) _ _ _))
  · obtain ⟨htl, hends, hl60⟩ := textErr_ok he
    obtain ⟨ls, hls⟩ : ∃ ls, ls = rowsL t := ⟨_, rfl⟩
    have HV : Hid (∀ v w', (∃ E ec G gc K kc, v = .tuple #[.slice E (runV ls).errs.length ec, vState (runV ls).jn G gc, .slice K (countsOf (runV ls).cards).length kc, .int .i64 0] ∧
      IntsAt w' E (runV ls).errs ∧ (runV ls).errs.length ≤ ec ∧ OwnIt w' w.heap.size G gc (runV ls).jn.items ∧ IntsAt w' K (countsOf (runV ls).cards)) → Below w.heap.size w w' → AllQ t w v w') := Lib.hid fun v w' h hb => ⟨.inr ⟨he, by rw [← hls]; exact h⟩, hb⟩
    have hlen : ∀ l ∈ ls, l.length ≤ 65536 := fun l h => by
      have := text_len ls l h
      rw [hls, text_rows hends] at this
      omega
    rw [← hls] at hl60 hA hca ⊢
    have Hlen := Lib.hid hlen
    have HA := Lib.hid hA
    have hsz2 := blk_lt H2.out
    have hold := rows_old encS_len (by omega) hA
    have HW0 : Hid (AllW (w2.heap.size + 1) w (w2.alloc (.cells #[.int .i64 0, .int .i64 0, .slice none 0 0] 108)) A ls w2.heap.size (.slice none 0 0) (.slice none 0 0) (.slice none 0 0) [] [] [] Jn.start none 0) := Lib.hid
      ⟨World.ownsRow_nil _ _ _ _, World.ownsRow_nil _ _ _ _, World.ownsRow_nil _ _ _ _, World.ownsRow_nil _ _ _ _, heap_alloc_new _ _, blk_alloc H2.out _, HA.out.alloc _, (fun g o e h => by have := hold g o e h; omega), below_alloc' HB2.out _, hsz2, by omega⟩
    clear hls hlen he htl hends hA hold H2 HB2 HA hca hsz2
    go_wp2
    go_loopw [8, 9, 10, 12] (fun E C K i wr => ∃ (n : Nat) (st : St) (ds : List Card) (ks : List Int) (G : Option Addr) (gc : Nat), n ≤ ls.length ∧ i = .int .i64 n ∧ Hid (st = runV (ls.take n)) ∧ Hid (AllR st ds ks) ∧
      Hid (AllW (w2.heap.size + 1) w wr A ls w2.heap.size E C K st.errs ds ks st.jn G gc)) (fun _ _ _ i _ => ls.length - (intOf i).toNat)
    case atStart => exact ⟨0, St.start, [], [], none, 0, by omega, rfl, Lib.hid rfl, Lib.hid AllR.start, HW0⟩
    case round =>
      clear HW0
      obtain ⟨n, st, ds, ks, G, gc, hn, rfl, HSt, HR, HW⟩ := hrel
      by_cases hnl : n < ls.length
      · have hok := runV_ok (ls.take n)
        rw [← HSt.out] at hok
        have hnt : (ls.take n).length = n := by rw [List.length_take]; omega
        have hes : st.errs.length = n := hok.errs.trans hnt
        have hcs : st.cards.length = n := hok.len.trans hnt
        have hds : ds.length = n := HR.out.len.trans hcs
        have hks : ks.length ≤ n := by rw [HR.out.are, ← hcs]; exact countsOf_le _
        obtain ⟨honce, hfew⟩ := replay_once _ _ _ (by simp [Jn.start]) hok.jn
        have hfew2 : st.jn.items.length ≤ 60 := by
          have h1 : (liveC st.cards).length ≤ st.cards.length := List.length_filter_le _ _
          have h2 : Jn.start.items.length = 0 := rfl
          omega
        have Honce := Lib.hid honce
        have Hok := Lib.hid hok
        have HN : Hid (runV (ls.take (n + 1)) = stepV st ls[n]) := Lib.hid (by rw [List.take_succ_eq_append_getElem hnl, runV_snoc, ← HSt.out])
        have hll := Hlen.out ls[n] (List.getElem_mem hnl)
        obtain ⟨b, o, rfl, g1⟩ := HW.out.lines.at_ hnl
        obtain ⟨l, hl⟩ : ∃ l, l = ls[n] := ⟨_, rfl⟩
        rw [← hl] at g1 HN hll
        have i0 : (0 : Int) ≤ (n : Int) := by omega
        have i1 : (n : Int) < (ls.length : Int) := by omega
        have HP : Hid (∀ W, Calls Tryz.prog 28 #[.string (bs l)] W (Ret fun v w' => v = parseT l ∧ Below W.heap.size W w')) := Lib.hid fun W => rParse_any (bs l) W (by rw [bs_size]; omega)
        obtain ⟨k, x, y, z, e, hp⟩ : ∃ k x y z e, parseV l = ((k, x, y, z), e) := ⟨_, _, _, _, _, rfl⟩
        have HPT := Lib.hid (parseT_of hp)
        have HPV := Lib.hid hp
        have hes2 : st.errs.length ≤ 60 := by omega
        have hds2 : ds.length ≤ 60 := by omega
        have hks2 : ks.length ≤ 60 := by omega
        have Hds := Lib.hid hds
        clear hl hll hok honce hfew hnt hes hcs hp hds HSt
        go_wp2_with fail
        refine (HP.out _).mono ?_
        rintro _ w3 ⟨v, rfl, rfl, hB3⟩
        rw [HPT.out]
        have HW3 := Lib.hid (HW.out.go hB3)
        clear hB3 HP g1 HW
        go_upto_region 12 with fail
        have HX4 := Lib.hid (heap_alloc_new w3 (.cells #[.int .i64 k, .int .i64 x, .int .i64 y, .int .i64 z] 36))
        have HW4 := Lib.hid (HW3.out.go ((Below.refl _ w3).alloc (Nat.le_refl _) (.cells #[.int .i64 k, .int .i64 x, .int .i64 y, .int .i64 z] 36)))
        have Hxc := Lib.hid (own_ne (b := w3.heap.size) HW3.out.cards (.inr (Nat.le_refl _)))
        have Hxj := Lib.hid HW3.out.size
        clear HW3
        generalize w3.alloc (.cells #[.int .i64 k, .int .i64 x, .int .i64 y, .int .i64 z] 36) = w4 at HX4 HW4 ⊢
        generalize w3.heap.size = xb at HX4 Hxc Hxj ⊢
        clear w3
        obtain ⟨c0, c1, c2, c3, -, -, -, -⟩ := four_cells HX4.out
        have hbk := heap_alloc_new w4 (.cells #[.int .i64 k, .int .i64 x, .int .i64 y, .int .i64 z] 36)
        have HOA := Lib.hid (HW4.out.cards.alloc (.cells #[.int .i64 k, .int .i64 x, .int .i64 y, .int .i64 z] 36))
        have hsz4 := HW4.out.size
        go_upto_region 13 with (at_builtin; go_must (refine wpList_push _ rfl (.tmp 44) (.tmp 46) 104 rfl elemCd encCd_len oneCd Tryz.underlying104 (w2.heap.size + 1) u9 ds (by rfl) HOA.out (by omega) (k, x, y, z) w4.heap.size (by rfl) _ rfl _ _ hbk (by rw [World.size_alloc]; omega) ?_); intro gC capC w5 hO5 hg5)
        have HW5 := Lib.hid (HW4.out.pushC (ds' := ds ++ [(k, x, y, z)]) _ hg5 (by rw [len_snoc]; exact hO5))
        have HX5 := Lib.hid (blk_grown hg5 (blk_alloc HX4.out (.cells #[.int .i64 k, .int .i64 x, .int .i64 y, .int .i64 z] 36)) Hxc.out)
        clear hO5 hg5 HOA hbk HW4 HX4 c0 c1 c2 c3 hsz4 Hxc
        obtain ⟨c0, c1, c2, c3, -, -, -, -⟩ := four_cells HX5.out
        obtain ⟨j0, j1, j2, jf0, jf1, jf2⟩ := three_cells HW5.out.jn
        by_cases he0 : e = 0
        rotate_left 1
        · have HS2 : Hid (stepV st l = ⟨st.errs ++ [e], st.cards ++ [zeroC], st.jn⟩) := Lib.hid (by unfold stepV; rw [HPV.out]; dsimp only; rw [if_pos he0])
          have t1 : (e == 0) = false := by simpa using he0
          have t2 : (e != 0) = true := by simpa using he0
          clear he0 HPV HPT
          have hbk := heap_alloc_new w5 (.cells #[.int .i64 e] 23)
          have HOA := Lib.hid (HW5.out.errs.alloc (.cells #[.int .i64 e] 23))
          have hsz8 := HW5.out.size
          have hmid := HW5.out.mid
          go_wp2_with (at_builtin; go_must (refine wpList_push _ rfl (.tmp 123) (.tmp 125) 41 rfl elemEr encI_len oneI Tryz.underlying41 (w2.heap.size + 1) u8 st.errs (by rfl) HOA.out (by omega) e w5.heap.size (by rfl) _ rfl _ _ hbk (by rw [World.size_alloc]; omega) ?_); intro g9 cap9 w9 hO9 hg9)
          have HWt := Lib.hid (HW5.out.pushE (es' := st.errs ++ [e]) _ hg9 (by rw [len_snoc]; exact hO9))
          clear hO9 hg9 HOA hbk HW5
          go_roundw
          case rel => exact ⟨n + 1, ⟨st.errs ++ [e], st.cards ++ [zeroC], st.jn⟩, ds ++ [(k, x, y, z)], ks, G, gc, by omega, by go_num, Lib.hid (by rw [HN.out, HS2.out]), Lib.hid (HR.out.refuse _ _ _), HWt⟩
          case measure => simp [intOf]; omega
        · subst he0
          have hcard : CardOk (k, x, y, z) := by have := parse_card (l := l) (by rw [HPV.out]); rw [HPV.out] at this; exact this
          by_cases h7 : k = 7
          rotate_left 1
          · obtain ⟨⟨⟨dy, op, its⟩, er⟩, hr⟩ : ∃ r, doV st.jn (k, x, y, z) = r := ⟨_, rfl⟩
            have HC : Hid (Calls Tryz.prog 108 #[.agg #[.int .i64 st.jn.day, .int .i64 st.jn.opn, .slice G st.jn.items.length gc], .agg #[.int .i64 k, .int .i64 x, .int .i64 y, .int .i64 z]] w5 (Ret fun v w' => (∃ A ca, v = .tuple #[.agg #[.int .i64 dy, .int .i64 op, .slice A its.length ca], .int .i64 er] ∧ OwnIt w' w.heap.size A ca its) ∧ Below w5.heap.size w5 w')) := Lib.hid (by
              have := rDo_any st.jn (k, x, y, z) G gc w.heap.size w5 HW5.out.items HW5.out.below.size (by omega) Honce.out
              unfold DoQ at this
              rw [hr] at this
              exact this)
            have t1 : (k != 7) = true := by simpa using h7
            have t2 : (k == 7) = false := by simpa using h7
            have HS2 : Hid (stepV st l = if er ≠ 0 then ⟨st.errs ++ [er], st.cards ++ [zeroC], st.jn⟩ else ⟨st.errs ++ [0], st.cards ++ [(k, x, y, z)], ⟨dy, op, its⟩⟩) := Lib.hid (by
              unfold stepV; rw [HPV.out]; dsimp only; rw [if_neg (by simp), if_neg h7, hr])
            have HSame : Hid (er ≠ 0 → (⟨dy, op, its⟩ : Jn) = st.jn) := Lib.hid fun h => by
              have := doV_same (j := st.jn) (c := (k, x, y, z)) (by rw [hr]; exact h)
              rw [hr] at this
              exact this
            have Hz := Lib.hid hcard.ne
            clear h7 hcard HPV HPT hr
            go_wp2_with fail
            refine HC.out.mono ?_
            rintro _ w6 ⟨v, rfl, ⟨G', gc', rfl, hOw⟩, hB6⟩
            have HW6 := Lib.hid (HW5.out.go hB6)
            have hX6 := blk_below hB6 HX5.out
            clear c0 c1 c2 c3 j0 j1 j2 jf0 jf1 jf2 HW5 HX5 hB6 HC
            obtain ⟨j0, j1, j2, jf0, jf1, jf2⟩ := three_cells HW6.out.jn
            go_upto_region 15 with fail
            have HW7 := Lib.hid (HW6.out.setJ (dy := dy) (op := op) hOw)
            clear j0 j1 j2 jf0 jf1 jf2 HW6 hX6 hOw
            generalize (((w6.setCell ⟨w2.heap.size, 0, none⟩ (.int .i64 dy)).setCell ⟨w2.heap.size, 1, none⟩ (.int .i64 op)).setCell ⟨w2.heap.size, 2, none⟩ (.slice G' its.length gc')) = w7 at HW7 ⊢
            clear w6
            by_cases her : er = 0
            · subst her
              rw [if_neg (by simp)] at HS2
              have hbk := heap_alloc_new w7 (.cells #[.int .i64 (n : Int)] 3)
              have HOA := Lib.hid (HW7.out.counts.alloc (.cells #[.int .i64 (n : Int)] 3))
              have hsz7 := HW7.out.size
              go_upto_region 36 with (at_builtin; go_must (refine wpList_push _ rfl (.tmp 63) (.tmp 65) 109 rfl elemI encI_len oneI Tryz.underlying109 (w2.heap.size + 1) u10 ks (by rfl) HOA.out (by omega) (n : Int) w7.heap.size (by rfl) _ rfl _ _ hbk (by rw [World.size_alloc]; omega) ?_); intro gK capK w8 hO8 hg8)
              have HW8 := Lib.hid (HW7.out.pushK (ks' := ks ++ [(n : Int)]) _ hg8 (by rw [len_snoc]; exact hO8))
              have HR8 := Lib.hid (HR.out.take (st.errs ++ [0]) Hz.out ⟨dy, op, its⟩)
              rw [Hds.out] at HR8
              clear hO8 hg8 HOA hbk HW7 hsz7
              have hbk := heap_alloc_new w8 (.cells #[.int .i64 0] 23)
              have HOA := Lib.hid (HW8.out.errs.alloc (.cells #[.int .i64 0] 23))
              have hsz8 := HW8.out.size
              have hmid := HW8.out.mid
              go_wp2_with (at_builtin; go_must (refine wpList_push _ rfl (.tmp 123) (.tmp 125) 41 rfl elemEr encI_len oneI Tryz.underlying41 (w2.heap.size + 1) u8 st.errs (by rfl) HOA.out (by omega) 0 w8.heap.size (by rfl) _ rfl _ _ hbk (by rw [World.size_alloc]; omega) ?_); intro g9 cap9 w9 hO9 hg9)
              have HWt := Lib.hid (HW8.out.pushE (es' := st.errs ++ [0]) _ hg9 (by rw [len_snoc]; exact hO9))
              clear hO9 hg9 HOA hbk HW8
              go_roundw
              case rel => exact ⟨n + 1, ⟨st.errs ++ [0], st.cards ++ [(k, x, y, z)], ⟨dy, op, its⟩⟩, ds ++ [(k, x, y, z)], ks ++ [(n : Int)], G', gc', by omega, by go_num, Lib.hid (by rw [HN.out, HS2.out]), HR8, HWt⟩
              case measure => simp [intOf]; omega
            · rw [if_pos her] at HS2
              have hsm := HSame.out her
              rw [hsm] at HW7
              have t3 : (er == 0) = false := by simpa using her
              have t4 : (er != 0) = true := by simpa using her
              clear her HSame hsm
              have hbk := heap_alloc_new w7 (.cells #[.int .i64 er] 23)
              have HOA := Lib.hid (HW7.out.errs.alloc (.cells #[.int .i64 er] 23))
              have hsz8 := HW7.out.size
              have hmid := HW7.out.mid
              go_wp2_with (at_builtin; go_must (refine wpList_push _ rfl (.tmp 123) (.tmp 125) 41 rfl elemEr encI_len oneI Tryz.underlying41 (w2.heap.size + 1) u8 st.errs (by rfl) HOA.out (by omega) er w7.heap.size (by rfl) _ rfl _ _ hbk (by rw [World.size_alloc]; omega) ?_); intro g9 cap9 w9 hO9 hg9)
              have HWt := Lib.hid (HW7.out.pushE (es' := st.errs ++ [er]) _ hg9 (by rw [len_snoc]; exact hO9))
              clear hO9 hg9 HOA hbk HW7
              go_roundw
              case rel => exact ⟨n + 1, ⟨st.errs ++ [er], st.cards ++ [zeroC], st.jn⟩, ds ++ [(k, x, y, z)], ks, G', gc', by omega, by go_num, Lib.hid (by rw [HN.out, HS2.out]), Lib.hid (HR.out.refuse _ _ _), HWt⟩
              case measure => simp [intOf]; omega
          · subst h7
            have hx1 : 1 ≤ x ∧ x ≤ 60 := ⟨hcard.one, hcard.strike rfl⟩
            have HS2 : Hid (stepV st l = strikeV st x) := Lib.hid (by unfold stepV; rw [HPV.out]; dsimp only; rw [if_neg (by simp), if_pos rfl])
            rw [strike_words HR.out hx1.1] at HS2
            obtain ⟨a, hax⟩ : ∃ a : Nat, x = (a : Int) + 1 := ⟨(x - 1).toNat, by omega⟩
            have hxa : x - 1 = (a : Int) := by omega
            rw [hxa, Int.toNat_natCast] at HS2
            have e1 : IntKind.i64.wrap (x - 1) = (a : Int) := by rw [hxa]; exact IntWalk.i64_in _ (by omega)
            have hin := fun k hk => HR.out.in_ (k := k) hk
            have Hin := Lib.hid hin
            obtain ⟨KA, kc, rfl, hkc⟩ := own_form HW5.out.counts
            have HIK := Lib.hid (RowsAt.of_own encI_len HW5.out.counts)
            clear hcard HPV HPT hxa hin j0 j1 j2 jf0 jf1 jf2 c2 c3 hax
            go_wp2
            go_loopw [15, 16] (fun th i wr => ∃ (m q : Nat), m ≤ ks.length ∧ i = .int .i64 m ∧ th = .bool ((ks.take m).any fun k => decide (k = (a : Int))) ∧ wr = w5.drewN q) (fun _ i _ => ks.length - (intOf i).toNat)
            case atStart => exact ⟨0, 0, by omega, rfl, rfl, rfl⟩
            case round =>
              obtain ⟨m, q, hm, rfl, rfl, rfl⟩ := hrel
              by_cases hmk : m < ks.length
              · obtain ⟨kb, ko, rfl, gk⟩ := IntsAt.at_ HIK.out hmk
                have HT : Hid (((ks.take (m + 1)).any fun k => decide (k = (a : Int))) = (((ks.take m).any fun k => decide (k = (a : Int))) || decide (ks[m] = (a : Int)))) := Lib.hid (by
                  rw [List.take_succ_eq_append_getElem hmk, List.any_append]; simp)
                generalize ks[m] = km at gk HT
                generalize ((ks.take m).any fun k => decide (k = (a : Int))) = T at *
                have gk : (w5.drewN q).cell? ⟨kb, ko + m, none⟩ = some (.int .i64 km) := gk
                have c0 : (w5.drewN q).cell? ⟨xb, 0, none⟩ = some (.int .i64 7) := c0
                have c1 : (w5.drewN q).cell? ⟨xb, 1, none⟩ = some (.int .i64 x) := c1
                have m0 : (0 : Int) ≤ (m : Int) := by omega
                have m1 : (m : Int) < (ks.length : Int) := by omega
                cases T
                · by_cases hka : km = (a : Int)
                  · have t1 : (km == (a : Int)) = true := by simpa using hka
                    have HT2 : Hid (((ks.take (m + 1)).any fun k => decide (k = (a : Int))) = true) := Lib.hid (by rw [HT.out]; simpa using hka)
                    clear hka HT
                    go_upto_region 22 with fail
                    go_quiet (fail)
                    go_wp2
                    go_roundw
                    case rel => exact ⟨m + 1, _, by omega, by go_num, by rw [HT2.out], rfl⟩
                    case measure => simp [intOf]; omega
                  · have t1 : (km == (a : Int)) = false := by simpa using hka
                    have HT2 : Hid (((ks.take (m + 1)).any fun k => decide (k = (a : Int))) = false) := Lib.hid (by rw [HT.out]; simpa using hka)
                    clear hka HT
                    go_upto_region 22 with fail
                    go_quiet (fail)
                    go_wp2
                    go_roundw
                    case rel => exact ⟨m + 1, _, by omega, by go_num, by rw [HT2.out], rfl⟩
                    case measure => simp [intOf]; omega
                · have HT2 : Hid (((ks.take (m + 1)).any fun k => decide (k = (a : Int))) = true) := Lib.hid (by rw [HT.out]; rfl)
                  clear HT
                  go_upto_region 22 with fail
                  go_quiet (fail)
                  go_wp2
                  go_roundw
                  case rel => exact ⟨m + 1, _, by omega, by go_num, by rw [HT2.out], rfl⟩
                  case measure => simp [intOf]; omega
              · obtain rfl : m = ks.length := by omega
                rw [List.take_length]
                have HW6 := Lib.hid (HW5.out.go (below_drewN (Below.refl _ w5) q))
                have HX6 := Lib.hid (show (w5.drewN q).heap[xb]? = some (.cells #[.int .i64 7, .int .i64 x, .int .i64 y, .int .i64 z] 36 (0, 0)) from HX5.out)
                have HIK6 := Lib.hid (show RowsAt encI 1 (w5.drewN q) KA ks from HIK.out)
                clear HW5 HX5 HIK c0 c1
                generalize w5.drewN q = w6 at HW6 HX6 HIK6 ⊢
                have HPk : Hid (∀ W, CardsAt W (some ⟨gC, 0, none⟩) (ds ++ [((7 : Int), x, y, z)]) → IntsAt W KA ks → Calls Tryz.prog 110 #[.slice (some ⟨gC, 0, none⟩) (ds.length + 1) capC, .slice KA ks.length kc, .int .i64 (a : Int)] W (Ret (CardsQ (pickV ds ks (a : Int)) W))) := Lib.hid fun W h1 h2 => by
                  have := rpick_any (some ⟨gC, 0, none⟩) capC (ds ++ [((7 : Int), x, y, z)]) KA kc ks (a : Int) W h1 h2 (by rw [len_snoc]; omega) (by omega) (fun k hk => ⟨(Hin.out k hk).1, by rw [len_snoc]; have := (Hin.out k hk).2; omega⟩)
                  rw [len_snoc] at this
                  have e : pickV (ds ++ [((7 : Int), x, y, z)]) ks (a : Int) = pickV ds ks (a : Int) := by
                    unfold pickV
                    apply List.map_congr_left
                    intro k hk
                    exact getD_snoc_lt (Hin.out k (List.mem_filter.1 hk).1).2
                  rw [e] at this
                  exact this
                have hpl : (pickV ds ks (a : Int)).length ≤ 100 := by
                  unfold pickV
                  rw [List.length_map]
                  exact Nat.le_trans (List.length_filter_le _ _) (by omega)
                have HIC6 : Hid (CardsAt w6 (some ⟨gC, 0, none⟩) (ds ++ [((7 : Int), x, y, z)])) := Lib.hid (RowsAt.of_own encCd_len (c := capC) (e := 36) (base := w2.heap.size + 1) (by rw [len_snoc]; have := HW6.out.cards; rw [len_snoc] at this; exact this))
                have c1 : w6.cell? ⟨xb, 1, none⟩ = some (.int .i64 x) := (blk_cell HX6.out).trans rfl
                generalize hT : (ks.any fun k => decide (k = (a : Int))) = T at HS2 ⊢
                clear hT hm hmk
                go_wp2_with fail
                refine (HPk.out _ HIC6.out HIK6.out).mono ?_
                rintro _ w7 ⟨v, rfl, PA, pc, rfl, hpc, hPI, hB7⟩
                have HW7 := Lib.hid (HW6.out.go hB7)
                have HX7 := Lib.hid (blk_below hB7 HX6.out)
                have HIK7 := Lib.hid (RowsAt.below HIK6.out hB7)
                have hRp := rReplay_any PA pc (pickV ds ks (a : Int)) w7 hPI hpl
                have hs7 : w.heap.size ≤ w7.heap.size := HW7.out.below.size
                clear hB7 hPI hpl HW6 HX6 HIK6 HIC6 HPk c1 hpc
                go_wp2_with fail
                refine hRp.mono ?_
                rintro _ w8 ⟨v, rfl, hRQ, hB8⟩
                have HW8 := Lib.hid (HW7.out.go hB8)
                have HX8 := Lib.hid (blk_below hB8 HX7.out)
                have HIK8 := Lib.hid (RowsAt.below HIK7.out hB8)
                clear hB8 HW7 HX7 HIK7 hRp
                cases T
                · -- no such line counts
                  rw [if_pos rfl] at HS2
                  rcases hRQ with ⟨-, rfl⟩ | ⟨kj, G8, gc8, -, rfl, -⟩
                  · go_upto_region 24 with fail
                    have HW9 := Lib.hid (HW8.out.go ((Below.refl _ w8).alloc (Nat.le_refl _) (.cells #[.int .i64 0, .int .i64 0, .slice none 0 0] 108)))
                    clear HW8 HX8 HIK8
                    generalize w8.alloc (.cells #[.int .i64 0, .int .i64 0, .slice none 0 0] 108) = w10 at HW9 ⊢
                    have hbk := heap_alloc_new w10 (.cells #[.int .i64 3] 23)
                    have HOA := Lib.hid (HW9.out.errs.alloc (.cells #[.int .i64 3] 23))
                    have hsz8 := HW9.out.size
                    have hmid := HW9.out.mid
                    go_wp2_with (at_builtin; go_must (refine wpList_push _ rfl (.tmp 123) (.tmp 125) 41 rfl elemEr encI_len oneI Tryz.underlying41 (w2.heap.size + 1) u8 st.errs (by rfl) HOA.out (by omega) 3 w10.heap.size (by rfl) _ rfl _ _ hbk (by rw [World.size_alloc]; omega) ?_); intro g9 cap9 w9 hO9 hg9)
                    have HWt := Lib.hid (HW9.out.pushE (es' := st.errs ++ [3]) _ hg9 (by rw [len_snoc]; exact hO9))
                    clear hO9 hg9 HOA hbk HW9
                    go_roundw
                    case rel => exact ⟨n + 1, ⟨st.errs ++ [3], st.cards ++ [zeroC], st.jn⟩, ds ++ [((7 : Int), x, y, z)], ks, G, gc, by omega, by go_num, Lib.hid (by rw [HN.out, HS2.out]), Lib.hid (HR.out.refuse _ _ _), HWt⟩
                    case measure => simp [intOf]; omega
                  · unfold vState
                    go_upto_region 24 with fail
                    have HW9 := Lib.hid (HW8.out.go ((Below.refl _ w8).alloc (Nat.le_refl _) (.cells #[.int .i64 kj.day, .int .i64 kj.opn, .slice G8 kj.items.length gc8] 108)))
                    clear HW8 HX8 HIK8
                    generalize w8.alloc (.cells #[.int .i64 kj.day, .int .i64 kj.opn, .slice G8 kj.items.length gc8] 108) = w10 at HW9 ⊢
                    have hbk := heap_alloc_new w10 (.cells #[.int .i64 3] 23)
                    have HOA := Lib.hid (HW9.out.errs.alloc (.cells #[.int .i64 3] 23))
                    have hsz8 := HW9.out.size
                    have hmid := HW9.out.mid
                    go_wp2_with (at_builtin; go_must (refine wpList_push _ rfl (.tmp 123) (.tmp 125) 41 rfl elemEr encI_len oneI Tryz.underlying41 (w2.heap.size + 1) u8 st.errs (by rfl) HOA.out (by omega) 3 w10.heap.size (by rfl) _ rfl _ _ hbk (by rw [World.size_alloc]; omega) ?_); intro g9 cap9 w9 hO9 hg9)
                    have HWt := Lib.hid (HW9.out.pushE (es' := st.errs ++ [3]) _ hg9 (by rw [len_snoc]; exact hO9))
                    clear hO9 hg9 HOA hbk HW9
                    go_roundw
                    case rel => exact ⟨n + 1, ⟨st.errs ++ [3], st.cards ++ [zeroC], st.jn⟩, ds ++ [((7 : Int), x, y, z)], ks, G, gc, by omega, by go_num, Lib.hid (by rw [HN.out, HS2.out]), Lib.hid (HR.out.refuse _ _ _), HWt⟩
                    case measure => simp [intOf]; omega
                · rw [if_neg (by simp)] at HS2
                  rcases hRQ with ⟨hno, rfl⟩ | ⟨⟨kd, ko, ki⟩, G8, gc8, hso, rfl, hOw⟩
                  · rw [hno] at HS2
                    dsimp only at HS2
                    go_upto_region 24 with fail
                    have HW9 := Lib.hid (HW8.out.go ((Below.refl _ w8).alloc (Nat.le_refl _) (.cells #[.int .i64 0, .int .i64 0, .slice none 0 0] 108)))
                    clear HW8 HX8 HIK8 hno
                    generalize w8.alloc (.cells #[.int .i64 0, .int .i64 0, .slice none 0 0] 108) = w10 at HW9 ⊢
                    have hbk := heap_alloc_new w10 (.cells #[.int .i64 24] 23)
                    have HOA := Lib.hid (HW9.out.errs.alloc (.cells #[.int .i64 24] 23))
                    have hsz8 := HW9.out.size
                    have hmid := HW9.out.mid
                    go_wp2_with (at_builtin; go_must (refine wpList_push _ rfl (.tmp 123) (.tmp 125) 41 rfl elemEr encI_len oneI Tryz.underlying41 (w2.heap.size + 1) u8 st.errs (by rfl) HOA.out (by omega) 24 w10.heap.size (by rfl) _ rfl _ _ hbk (by rw [World.size_alloc]; omega) ?_); intro g9 cap9 w9 hO9 hg9)
                    have HWt := Lib.hid (HW9.out.pushE (es' := st.errs ++ [24]) _ hg9 (by rw [len_snoc]; exact hO9))
                    clear hO9 hg9 HOA hbk HW9
                    go_roundw
                    case rel => exact ⟨n + 1, ⟨st.errs ++ [24], st.cards ++ [zeroC], st.jn⟩, ds ++ [((7 : Int), x, y, z)], ks, G, gc, by omega, by go_num, Lib.hid (by rw [HN.out, HS2.out]), Lib.hid (HR.out.refuse _ _ _), HWt⟩
                    case measure => simp [intOf]; omega
                  · rw [hso] at HS2
                    dsimp only at HS2 hOw
                    unfold vState
                    dsimp only
                    go_upto_region 24 with fail
                    have HW9 := Lib.hid (HW8.out.go ((Below.refl _ w8).alloc (Nat.le_refl _) (.cells #[.int .i64 kd, .int .i64 ko, .slice G8 ki.length gc8] 108)))
                    have HX9 := Lib.hid (blk_alloc HX8.out (.cells #[.int .i64 kd, .int .i64 ko, .slice G8 ki.length gc8] 108))
                    have HIK9 := Lib.hid (RowsAt.alloc HIK8.out (.cells #[.int .i64 kd, .int .i64 ko, .slice G8 ki.length gc8] 108))
                    have HOw9 : Hid (OwnIt (w8.alloc (.cells #[.int .i64 kd, .int .i64 ko, .slice G8 ki.length gc8] 108)) w.heap.size G8 gc8 ki) := Lib.hid (own_mono (World.ownsRow.alloc hOw _) hs7)
                    have hN9 := heap_alloc_new w8 (.cells #[.int .i64 kd, .int .i64 ko, .slice G8 ki.length gc8] 108)
                    clear HW8 HX8 HIK8 hso hOw hs7
                    generalize w8.alloc (.cells #[.int .i64 kd, .int .i64 ko, .slice G8 ki.length gc8] 108) = w10 at HW9 HX9 HIK9 HOw9 hN9 ⊢
                    generalize w8.heap.size = nb at hN9 ⊢
                    clear w8
                    obtain ⟨p0, p1, p2, -, -, -⟩ := three_cells hN9
                    obtain ⟨j0, j1, j2, jf0, jf1, jf2⟩ := three_cells HW9.out.jn
                    go_upto_region 29 with fail
                    have HW10 := Lib.hid (HW9.out.setJ (dy := kd) (op := ko) HOw9.out)
                    have HX10 := Lib.hid (blk_far (p := ⟨w2.heap.size, 2, none⟩) (blk_far (p := ⟨w2.heap.size, 1, none⟩) (blk_far (p := ⟨w2.heap.size, 0, none⟩) HX9.out (by have := Hxj.out; dsimp only; omega) (.int .i64 kd)) (by have := Hxj.out; dsimp only; omega) (.int .i64 ko)) (by have := Hxj.out; dsimp only; omega) (.slice G8 ki.length gc8))
                    have HIK10 := Lib.hid (RowsAt.of_own encI_len HW10.out.counts)
                    clear j0 j1 j2 jf0 jf1 jf2 p0 p1 p2 hN9 HW9 HX9 HIK9 HOw9
                    generalize (((w10.setCell ⟨w2.heap.size, 0, none⟩ (.int .i64 kd)).setCell ⟨w2.heap.size, 1, none⟩ (.int .i64 ko)).setCell ⟨w2.heap.size, 2, none⟩ (.slice G8 ki.length gc8)) = w11 at HW10 HX10 HIK10 ⊢
                    clear w10
                    have hsz11 := HW10.out.size
                    have hmid11 := HW10.out.mid
                    go_wp2
                    go_loopw [19, 20] (fun u i wr => ∃ (m : Nat) (o : List Int), m ≤ ks.length ∧ i = .int .i64 m ∧ o.length ≤ m ∧ Hid (((ks.take m).filter fun k => decide (k ≠ (a : Int))) = o) ∧ Hid (wr.ownsRow w11.heap.size 3 1 u o.length (o.flatMap encI)) ∧ Hid (Below w11.heap.size w11 wr)) (fun _ i _ => ks.length - (intOf i).toNat)
                    case atStart => exact ⟨0, [], by omega, rfl, by simp, Lib.hid rfl, Lib.hid (World.ownsRow_nil _ _ _ _), Lib.hid (Below.refl _ _)⟩
                    case round =>
                      obtain ⟨m, o2, hm, rfl, ho2, HF, HO, HB⟩ := hrel
                      by_cases hmk : m < ks.length
                      · obtain ⟨kb, kof, rfl, gk⟩ := IntsAt.at_ (RowsAt.below HIK10.out HB.out) hmk
                        have HT : Hid (((ks.take (m + 1)).filter fun k => decide (k ≠ (a : Int))) = o2 ++ (if ks[m] = (a : Int) then [] else [ks[m]])) := Lib.hid (by
                          rw [List.take_succ_eq_append_getElem hmk, List.filter_append, HF.out]
                          by_cases e : ks[m] = (a : Int)
                          · rw [if_pos e]; simp [e]
                          · rw [if_neg e]; simp [e])
                        generalize ks[m] = km at gk HT
                        have c1 : wr.cell? ⟨xb, 1, none⟩ = some (.int .i64 x) := (blk_cell (blk_below HB.out HX10.out)).trans rfl
                        have m0 : (0 : Int) ≤ (m : Int) := by omega
                        have m1 : (m : Int) < (ks.length : Int) := by omega
                        by_cases hka : km = (a : Int)
                        · have t1 : (km != (a : Int)) = false := by simpa using hka
                          rw [if_pos hka, List.append_nil] at HT
                          clear hka HF
                          go_upto_region 33 with fail
                          go_quiet (fail)
                          go_wp2
                          go_roundw
                          case rel => exact ⟨m + 1, o2, by omega, by go_num, by omega, HT, Lib.hid (own_drewN HO.out _), Lib.hid (below_drewN HB.out _)⟩
                          case measure => simp [intOf]; omega
                        · have t1 : (km != (a : Int)) = true := by simpa using hka
                          rw [if_neg hka] at HT
                          clear hka HF
                          go_upto_region 33 with fail
                          go_quiet (fail)
                          have HO3 := Lib.hid (own_drewN HO.out nq)
                          have HB3 := Lib.hid (below_drewN HB.out nq)
                          have gk : (wr.drewN nq).cell? ⟨kb, kof + m, none⟩ = some (.int .i64 km) := gk
                          clear HO HB c1
                          generalize wr.drewN nq = wv at HO3 HB3 gk ⊢
                          have hbk := heap_alloc_new wv (.cells #[.int .i64 km] 3)
                          have HOA := Lib.hid (HO3.out.alloc (.cells #[.int .i64 km] 3))
                          have hr6 := own_base HO3.out
                          have hsw := HB3.out.size
                          go_wp2_with (at_builtin; go_must (refine wpList_push _ rfl (.tmp 115) (.tmp 120) 109 rfl elemI encI_len oneI Tryz.underlying109 w11.heap.size u19 o2 (by rfl) HOA.out (by omega) km wv.heap.size (by rfl) _ rfl _ _ hbk (by rw [World.size_alloc]; omega) ?_); intro g7 cap7 w12 hO7 hg7)
                          have HB7 := Lib.hid ((below_alloc' HB3.out (.cells #[.int .i64 km] 3)).grown hg7 (by rw [World.size_alloc]; omega) (fun r e => by have := hr6 r e; omega))
                          have HO7 := Lib.hid hO7
                          clear hO7 hg7 hr6 HO3 HOA hbk HB3
                          go_roundw
                          case rel => exact ⟨m + 1, o2 ++ [km], by omega, by go_num, by rw [len_snoc]; omega, HT, by rw [len_snoc]; exact HO7, HB7⟩
                          case measure => simp [intOf]; omega
                      · obtain rfl : m = ks.length := by omega
                        rw [List.take_length] at HF
                        have hsw := HB.out.size
                        have HW11 := Lib.hid ((HW10.out.go HB.out).setK (ks' := o2) (own_mono HO.out (by omega)))
                        obtain ⟨wz, hwz⟩ : ∃ x, x = wr := ⟨_, rfl⟩
                        subst hwz
                        have HRn := Lib.hid (HR.out.strike (st.errs ++ [0]) ((7 : Int), x, y, z) ⟨kd, ko, ki⟩ a)
                        rw [HF.out] at HRn
                        clear HW10 HX10 HIK10 HB HO hsz11 hmid11
                        have hbk := heap_alloc_new wz (.cells #[.int .i64 0] 23)
                        have HOA := Lib.hid (HW11.out.errs.alloc (.cells #[.int .i64 0] 23))
                        have hsz8 := HW11.out.size
                        have hmid := HW11.out.mid
                        go_wp2_with (at_builtin; go_must (refine wpList_push _ rfl (.tmp 123) (.tmp 125) 41 rfl elemEr encI_len oneI Tryz.underlying41 (w2.heap.size + 1) u8 st.errs (by rfl) HOA.out (by omega) 0 wz.heap.size (by rfl) _ rfl _ _ hbk (by rw [World.size_alloc]; omega) ?_); intro g9 cap9 w9 hO9 hg9)
                        have HWt := Lib.hid (HW11.out.pushE (es' := st.errs ++ [0]) _ hg9 (by rw [len_snoc]; exact hO9))
                        clear hO9 hg9 HOA hbk HW11
                        go_roundw
                        case rel => exact ⟨n + 1, ⟨st.errs ++ [0], butC st.cards a ++ [zeroC], ⟨kd, ko, ki⟩⟩, ds ++ [((7 : Int), x, y, z)], o2, G8, gc8, by omega, by go_num, Lib.hid (by rw [HN.out, HS2.out]), HRn, HWt⟩
                        case measure => simp [intOf]; omega
      · obtain rfl : n = ls.length := by omega
        rw [List.take_length] at HSt
        rw [← HSt.out] at HV
        obtain ⟨EA, ec, rfl, hec⟩ := own_form HW.out.errs
        obtain ⟨KA, kc, rfl, hkc⟩ := own_form HW.out.counts
        have HIE := Lib.hid (RowsAt.of_own encI_len HW.out.errs)
        have HIK := Lib.hid (RowsAt.of_own encI_len HW.out.counts)
        obtain ⟨j0, j1, j2, -, -, -⟩ := three_cells HW.out.jn
        obtain ⟨r0, r1, r2, f0, f1, f2⟩ := three_cells HW.out.res
        have HRs := Lib.hid HW.out.res
        have HBw := Lib.hid HW.out.below
        have HIt := Lib.hid HW.out.items
        have HRk := Lib.hid HR.out.are
        have hlo := HW.out.lo
        have HEA : Hid (∀ g o, EA = some ⟨g, o, none⟩ → st.errs ≠ [] → g ≠ w.heap.size) := Lib.hid fun g o h _ => by
          have := own_base HW.out.errs g (by rw [h]; rfl)
          have := HW.out.mid
          omega
        have HKA : Hid (∀ g o, KA = some ⟨g, o, none⟩ → ks ≠ [] → g ≠ w.heap.size) := Lib.hid fun g o h _ => by
          have := own_base HW.out.counts g (by rw [h]; rfl)
          have := HW.out.mid
          omega
        clear HW HSt HR
        go_upto_region 37 with fail
        have q0 : wr.drew.cell? ⟨w2.heap.size, 0, none⟩ = some (.int .i64 st.jn.day) ∧ wr.drew.cell? ⟨w2.heap.size, 1, none⟩ = some (.int .i64 st.jn.opn) ∧ wr.drew.cell? ⟨w2.heap.size, 2, none⟩ = some (.slice G st.jn.items.length gc) := ⟨j0, j1, j2⟩
        refine wp_region_held_drew (S := fun V => V.cell? ⟨w2.heap.size, 0, none⟩ = some (.int .i64 st.jn.day) ∧ V.cell? ⟨w2.heap.size, 1, none⟩ = some (.int .i64 st.jn.opn) ∧ V.cell? ⟨w2.heap.size, 2, none⟩ = some (.slice G st.jn.items.length gc)) (by kernel_rfl) q0 (fun hS9 => ?_)
        clear hS9 j0 j1 j2
        have HRd := Lib.hid (show wr.drew.heap[w.heap.size]? = some (.cells #[.int .i64 0, .int .i64 0, .slice none 0 0] 108 (0, 0)) from HRs.out)
        have HBd := Lib.hid HBw.out.drew
        have HItd := Lib.hid (show OwnIt wr.drew w.heap.size G gc st.jn.items from HIt.out)
        have HIEd := Lib.hid (show RowsAt encI 1 wr.drew EA st.errs from HIE.out)
        have HIKd := Lib.hid (show RowsAt encI 1 wr.drew KA ks from HIK.out)
        clear HRs HBw HIt HIE HIK r0 r1 r2 f0 f1 f2
        generalize wr.drew = W9 at HRd HBd HItd HIEd HIKd q0 ⊢
        obtain ⟨r0, r1, r2, f0, f1, f2⟩ := three_cells HRd.out
        refine wpAnyH_take (i := 0) (v := ?_) rfl (by kernel_rfl) (by kernel_rfl) (by kernel_rfl) (fun _ _ _ h => h) (Or.inl ⟨by rfl, ?_⟩) q0 ?_
        rotate_left 1
        · intro W hW; obtain ⟨s0, s1, s2⟩ := hW; go_simp <;> with_reducible rfl
        refine wpAnyH_take (i := 1) (v := ?_) rfl (by kernel_rfl) (by kernel_rfl) (by kernel_rfl) (fun _ _ _ h => h) (Or.inl ⟨by rfl, ?_⟩) q0 ?_
        rotate_left 1
        · intro W hW; obtain ⟨s0, s1, s2⟩ := hW; go_simp <;> with_reducible rfl
        refine wpAnyH_take (i := 2) (v := ?_) rfl (by kernel_rfl) (by kernel_rfl) (by kernel_rfl) (fun _ _ _ h => h) (Or.inl ⟨by rfl, ?_⟩) q0 ?_
        rotate_left 1
        · intro W hW; obtain ⟨s0, s1, s2⟩ := hW; go_simp <;> with_reducible rfl
        refine wpAnyH_take (i := 3) (v := ?_) rfl (by kernel_rfl) (by kernel_rfl) (by kernel_rfl) (fun _ _ _ h => h) (Or.inl ⟨by rfl, ?_⟩) q0 ?_
        rotate_left 1
        · intro W hW; obtain ⟨s0, s1, s2⟩ := hW; go_simp <;> with_reducible rfl
        simp only [Act.put, List.setIfInBounds_toArray]
        refine wpAnyH_ready (rs := [4]) (by kernel_rfl) (by simp) ?_
        refine AllReadyH.cons rfl (fun K hK => ?_) AllReadyH.nil
        go_simp
        have q4 : ∀ (i : Nat) (v : Value), W9.cell? ⟨w2.heap.size, i, none⟩ = some v → (((W9.setCell ⟨w.heap.size, 0, none⟩ (.int .i64 st.jn.day)).setCell ⟨w.heap.size, 1, none⟩ (.int .i64 st.jn.opn)).setCell ⟨w.heap.size, 2, none⟩ (.slice G st.jn.items.length gc)).cell? ⟨w2.heap.size, i, none⟩ = some v := fun i v h =>
          cell_far (cell_far (cell_far h fun e => by injection e; omega) fun e => by injection e; omega) fun e => by injection e; omega
        have q5 := And.intro (q4 _ _ q0.1) (And.intro (q4 _ _ q0.2.1) (q4 _ _ q0.2.2))
        refine hK.out _ _ q5 (fun _ => ?_)
        clear hK K
        refine wpAnyH_take (i := 5) (v := ?_) rfl (by kernel_rfl) (by kernel_rfl) (by kernel_rfl) (fun _ _ _ h => h) (Or.inl ⟨by rfl, ?_⟩) q5 ?_
        rotate_left 1
        · intro W hW; obtain ⟨s0, s1, s2⟩ := hW; go_simp <;> with_reducible rfl
        refine wpAnyH_take (i := 6) (v := ?_) rfl (by kernel_rfl) (by kernel_rfl) (by kernel_rfl) (fun _ _ _ h => h) (Or.inl ⟨by rfl, ?_⟩) q5 ?_
        rotate_left 1
        · intro W hW; obtain ⟨s0, s1, s2⟩ := hW; go_simp <;> with_reducible rfl
        simp only [Act.put, List.setIfInBounds_toArray]
        refine wpAnyH_done (by kernel_rfl) ?_ _
        clear q4 q5 q0
        go_simp
        go_wp2
        (try simp only [Exit.inBlock, Exit.then])
        refine bodyPost_ret (results_four rfl _ _ w.heap.size _ _ _ _ rfl (three_put HRd.out _ _ _) Tryz.underlying108 rfl rfl) rfl ?_
        have hI3 := three_rows HIKd.out HKA.out (.int .i64 st.jn.day) (.int .i64 st.jn.opn) (.slice G st.jn.items.length gc)
        have hk := HRk.out
        refine Ret.mk (HV.out _ _ ⟨EA, ec, G, gc, KA, kc, ?_, three_rows HIEd.out HEA.out _ _ _, hec, three_own HItd.out HRd.out (by decide) _ _ _, ?_⟩ (three_below HBd.out (Nat.le_refl _) _ _ _))
        · rw [← hk]; rfl
        · rw [← hk]; exact hI3
end Go.Proofs.YtkpmmgeffbhngaaGreatDoor
namespace Go.Proofs.YtkpmmgeffbhngaaGreatDoor
open Go.RowKit Prot Go.Lib Go.Maps
set_option maxRecDepth 100000 in
set_option maxHeartbeats 1000000 in
theorem rRun_any (s : ByteArray) (w : World) (hs : s.size ≤ 9223372036854775807) : Calls Tryz.prog 30 #[.string s] w (Ret (DecQ (runA s.data.toList) w)) := by
  have HA := Lib.hid (fun W => rAll_any s W hs)
  generalize s.data.toList = t at *
  clear hs
  go_enter Tryz.func30, Tryz.ntmps30
  go_wp2_with fail
  refine (HA.out _).mono ?_
  rintro _ w2 ⟨v, rfl, hQ, hB2⟩
  rcases hQ with ⟨he, rfl⟩ | ⟨he, E, ec, G, gc, K, kc, rfl, hE, hec, -, -⟩
  · have HR := Lib.hid (runA_err he)
    clear he
    generalize textErr t = er at *
    go_wp2
    go_ret2
    exact Ret.mk (by rw [HR.out]; exact ⟨none, 0, rfl, by simp, IntsAt.nil, below_alloc' hB2 _⟩)
  · have HR := Lib.hid (runA_ok he)
    have HE := Lib.hid hE
    clear he hE
    unfold vState
    generalize (runV (rowsL t)).errs = es at *
    generalize (countsOf (runV (rowsL t)).cards).length = kl at *
    generalize (runV (rowsL t)).jn = j at *
    go_wp2
    go_ret2
    exact Ret.mk (by rw [HR.out]; exact ⟨E, ec, rfl, hec, HE.out.alloc _, below_alloc' hB2 _⟩)
end Go.Proofs.YtkpmmgeffbhngaaGreatDoor
namespace Prot
open Go.Lib
theorem runA_len (t : List UInt8) : (runA t).1.length ≤ 60 := by
  unfold runA
  split
  · exact Nat.zero_le _
  · rename_i h
    have h0 : textErr t = 0 := Classical.byContradiction fun k => h k
    show (runV (rowsL t)).errs.length ≤ 60
    rw [(runV_ok (rowsL t)).errs]
    exact (textErr_ok h0).2.2
end Prot
