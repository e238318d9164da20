/- What the laws of the chapter rest on, part 39. -/
import Derived.Test.YtkpmmgeffbhngaaGreatDoorC31
import Derived.Test.YtkpmmgeffbhngaaGreatDoorC36
import Derived.Laws.CopyOwn
import Derived.Deep.OwnRows
set_option linter.unusedSimpArgs false
set_option linter.unusedVariables false
set_option linter.unnecessarySimpa false
namespace Prot
end Prot
namespace Go.Shelf
end Go.Shelf
namespace Go.Maps
end Go.Maps
namespace Go.Proofs.YtkpmmgeffbhngaaGreatDoor
open Go.RowKit Go.Shelf Prot Go.Lib Go.Maps
theorem flatMap_inv {α : Type} {enc : α → List Value} {k : Nat} (hk : ∀ x, (enc x).length = k) : ∀ (l : List α) (j : Nat) (u : Value), (l.flatMap enc)[j]? = some u → ∃ (i r : Nat) (hi : i < l.length), j = i * k + r ∧ (enc l[i])[r]? = some u
  | [], j, u, h => by simp at h
  | x :: l, j, u, h => by
    rw [List.flatMap_cons] at h
    by_cases hj : j < k
    · rw [List.getElem?_append_left (by rw [hk]; exact hj)] at h
      exact ⟨0, j, by simp, by simp, by simpa using h⟩
    · rw [List.getElem?_append_right (by rw [hk]; omega), hk] at h
      obtain ⟨i, r, hi, e, hr⟩ := flatMap_inv hk l (j - k) u h
      exact ⟨i + 1, r, by simpa using hi, by rw [Nat.succ_mul]; omega, by simpa using hr⟩
theorem RowsAt.olds {α : Type} {enc : α → List Value} {k : Nat} {w : World} {A : Option Addr} {l : List α} (hk : ∀ x, (enc x).length = k) (h : RowsAt enc k w A l) : ∀ b, A = some b → ∀ j u, (l.flatMap enc)[j]? = some u → w.cell? (b.add j) = some u := fun b hA j u hj => by
  obtain ⟨i, r, hi, e, hr⟩ := flatMap_inv hk l j u hj
  obtain ⟨b', off, hA', hc⟩ := h i hi
  rw [hA] at hA'
  injection hA' with e'
  subst e'
  have := hc r u hr
  rw [Addr.add_mid, e, ← Nat.add_assoc]; exact this
theorem flatMap_len {α : Type} {enc : α → List Value} {k : Nat} (hk : ∀ x, (enc x).length = k) : ∀ l : List α, (l.flatMap enc).length = l.length * k
  | [] => by simp
  | x :: l => by rw [List.flatMap_cons, List.length_append, hk, flatMap_len hk l, List.length_cons, Nat.succ_mul]; omega
theorem oneFlatI (l : List Int) : ∀ u ∈ l.flatMap encI, u.oneCell' = true := fun u hu => by
  rw [List.mem_flatMap] at hu
  obtain ⟨x, _, hx⟩ := hu
  exact oneI x u hx
set_option maxRecDepth 100000 in
set_option maxHeartbeats 1000000 in
theorem State_any (t : List UInt8) (w : World) (hT : Tab w) (ht : t.length ≤ 100000) : Calls Tryz.prog 31 #[.string (bs t)] w (Ret (ItQ (stateA t) w)) := by
  have HA := Lib.hid (look_any t w hT ht)
  clear hT ht
  go_enter Tryz.func31, Tryz.ntmps31
  go_wp2_with fail
  refine HA.out.mono ?_
  rintro _ w2 ⟨v, rfl, hQ, hB2⟩
  rcases hQ with ⟨he, rfl⟩ | ⟨he, bb, jb, mb, n, C, E, rfl, hb, hbk⟩
  · have HR := Lib.hid (stateA_err he)
    have t1 : (textErr t != 0) = true := by simpa using he
    clear he
    generalize textErr t = er at *
    go_wp2
    go_ret2
    exact Ret.mk (by rw [HR.out]; exact ⟨none, 0, rfl, by simp, ItemsAt.nil, hB2⟩)
  · have HR := Lib.hid (stateA_ok he)
    have b0 : w2.cell? ⟨bb, 0, none⟩ = some (.pointer (some ⟨jb, 0, none⟩)) := (blk_cell hbk.blk).trans rfl
    have HTo := Lib.hid (told_any jb mb n _ w2 hbk.jn (runV_ok (rowsL t)).ok (by have := hbk.few.2; omega))
    have HB2 := Lib.hid hB2
    clear hbk hB2 he HA
    go_wp2_with fail
    refine HTo.out.mono ?_
    rintro _ w3 ⟨v, rfl, A, ca, rfl, h1, h2, h3⟩
    have HB3 := Lib.hid (below_trans' HB2.out h3)
    have HI := Lib.hid h2
    clear h3 h2
    go_wp2
    go_ret2
    exact Ret.mk (by rw [HR.out]; exact ⟨A, ca, rfl, h1, HI.out, HB3.out⟩)
set_option maxRecDepth 100000 in
set_option maxHeartbeats 1000000 in
theorem Run_any (t : List UInt8) (w : World) (hT : Tab w) (ht : t.length ≤ 100000) : Calls Tryz.prog 29 #[.string (bs t)] w (Ret (DecQ (runA t) w)) := by
  have HA := Lib.hid (look_any t w hT ht)
  clear hT ht
  go_enter Tryz.func29, Tryz.ntmps29
  go_wp2_with fail
  refine HA.out.mono ?_
  rintro _ w1 ⟨v, rfl, hQ, hB2⟩
  rcases hQ with ⟨he, rfl⟩ | ⟨he, bb, jb, mb, n, C, E, rfl, hb, hbk⟩
  · have HR := Lib.hid (runA_err he)
    have t1 : (textErr t != 0) = true := by simpa using he
    clear he
    generalize textErr t = er at *
    go_wp2
    go_ret2
    exact Ret.mk (by rw [HR.out]; exact ⟨none, 0, rfl, by simp, IntsAt.nil, hB2⟩)
  · have HR := Lib.hid (runA_ok he)
    have hlen : (runV (rowsL t)).errs.length ≤ 60 := by
      rw [(runV_ok (rowsL t)).errs]; exact (textErr_ok he).2.2
    obtain ⟨G, c, hE, hGc⟩ := own_form hbk.errs
    subst hE
    have HTe := Lib.hid (RowsAt.of_own encI_len hbk.errs)
    have hbks := hbk.blk
    have HB1 := Lib.hid hB2
    clear hbk hB2 he HA
    generalize (runV (rowsL t)).errs = es at *
    have b2 : w1.cell? ⟨bb, 2, none⟩ = some (.slice G es.length c) := (blk_cell hbks).trans rfl
    obtain ⟨zs, hzs⟩ : ∃ zs : Array Value, zs = madeCells #[.int .i64 0] es.length := ⟨_, rfl⟩
    have hzl : zs.toList.length = es.length := by rw [hzs]; simp [madeCells]
    have hmk := fun w => run_make_row' (P := Tryz.prog) 41 23 (.int .i64 0) 8 Tryz.underlying41 elemEr.info rfl .i64 .i64 es.length (by omega) (by omega) w
    rw [← hzs] at hmk
    have Hzs := Lib.hid hzs; clear hzs
    obtain ⟨X, hX⟩ : ∃ X : List Value, X = es.flatMap encI := ⟨_, rfl⟩
    have hXl : X.length = es.length := by rw [hX, flatMap_len encI_len]; omega
    have HX1 : Hid (∀ v ∈ X, v.oneCell' = true) := fun v hv => by
      rw [hX] at hv
      exact oneFlatI es v hv
    have HXs : Hid (0 < X.length → ∃ ad, G = some ad ∧ ∀ j v, X[j]? = some v → (w1.alloc (.cells zs 23)).cell? (ad.add j) = some v) := fun h0 => by
      obtain ⟨b, off, hb, _⟩ := HTe.out 0 (by omega)
      exact ⟨_, hb, fun j v hj => cell_alloc (RowsAt.olds encI_len HTe.out _ hb j v (by rw [← hX]; exact hj)) _⟩
    have HXl := Lib.hid hXl
    have HX := Lib.hid hX; clear hX
    have Hzl := Lib.hid hzl
    have b2' := cell_alloc b2 (.cells zs 23)
    clear hXl hzl hbks
    go_upto_region 5 with fail
    clear hmk b2
    go_upto_region 6 with (first
      | (refine wpList_copy_splice (o := ⟨some 26, _, _, _, _, _⟩) rfl (.tmp 21) (.tmp 25) 41 41 rfl 23 Tryz.underlying41 (by kernel_rfl) (some ⟨w1.heap.size, 0, none⟩) G es.length es.length es.length c (by rfl) (by rfl) w1.heap.size 0 zs.toList 23 (by rw [Array.toArray_toList]; exact heap_alloc_new w1 _) X (by rw [HXl.out]; exact (Nat.min_self _).symm) (fun h => ⟨rfl, HXs.out h⟩) (by rw [HXl.out, Hzl.out, Nat.zero_add]; exact Nat.le_refl _) HX1.out w1.heap.size w1 (below_alloc' (Below.refl _ _) _) (Nat.le_refl _) ?_
         intro w4 HG4 hb4))
    have HG : Hid (w4.heap[w1.heap.size]? = some (.cells X.toArray 23 (0, 0))) := by
      show _ = _
      rw [HG4]; simp [splice, HXl.out, Hzl.out]
    have hown : w4.ownsRow w1.heap.size 23 1 (.slice (some ⟨w1.heap.size, 0, none⟩) es.length es.length) es.length (es.flatMap encI) :=
      ⟨by rw [flatMap_len encI_len], .inr ⟨w1.heap.size, es.length, X.toArray, rfl, Nat.le_refl _, HG.out, Nat.le_refl _, by unfold maxLen; omega, by simp [HXl.out], by show List.take (es.length * 1) X = _; rw [HX.out, List.take_of_length_le (by rw [flatMap_len encI_len]; exact Nat.le_refl _)]⟩⟩
    have HI4 : Hid (IntsAt w4 (some ⟨w1.heap.size, 0, none⟩) es) := Lib.hid (RowsAt.of_own encI_len hown)
    have HB4 := Lib.hid (below_trans' HB1.out hb4)
    clear hown HG4 hb4 HG HXs HX HX1 HXl Hzl Hzs b2'
    go_wp2
    go_ret2
    exact Ret.mk (by rw [HR.out]; exact ⟨some ⟨w1.heap.size, 0, none⟩, es.length, rfl, Nat.le_refl _, HI4.out, HB4.out⟩)
end Go.Proofs.YtkpmmgeffbhngaaGreatDoor
