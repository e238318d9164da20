/- What the laws of the chapter rest on, part 18. -/
import Derived.Test.YtkpmmgeffbhngaaGreatDoorC15
import Derived.Test.YtkpmmgeffbhngaaGreatDoorC17
set_option linter.unusedSimpArgs false
set_option linter.unusedVariables false
set_option linter.unnecessarySimpa false
namespace Prot
end Prot
namespace Go.Shelf
end Go.Shelf
namespace Go.Maps
end Go.Maps
namespace Go.Proofs.YtkpmmgeffbhngaaGreatDoor
open Go.RowKit Go.Shelf Prot Go.Lib Go.Maps
theorem Tryz.lawN : Keyed Tryz.prog 2 := int_keyed Tryz.underlying2
def dIt (x : It) : DataW Unit := .agg [.lit (.int .i64 x.num), .lit (.int .i64 x.box), .lit (.int .i64 x.day), .lit (.int .i64 x.voice), .lit (.int .i64 x.turns), .lit (.int .i64 x.src), .lit (.bool x.cracked)]
theorem dIt_inj {x y : It} (h : dIt x = dIt y) : x = y := by
  unfold dIt at h
  injection h with h
  simp only [List.cons.injEq, DataW.lit.injEq, Lit.int.injEq, Lit.bool.injEq, and_true, true_and] at h
  obtain ⟨h1, h2, h3, h4, h5, h6, h7⟩ := h
  cases x; cases y
  simp_all
/-- a reader of cylinders -/
def rIt (v : Value) : Option (DataW Unit × List MemPlace) :=
  match v with
  | .agg ⟨[.int .i64 a, .int .i64 b, .int .i64 c, .int .i64 d, .int .i64 e, .int .i64 f, .bool g]⟩ => some (dIt ⟨a, b, c, d, e, f, g⟩, [])
  | _ => none
theorem rIt_v (x : It) : rIt (vItem x) = some (dIt x, []) := rfl
theorem rIt_inv {v : Value} {x : It} {ps : List MemPlace} (h : rIt v = some (dIt x, ps)) : v = vItem x := by
  unfold rIt at h
  split at h
  · simp only [Option.some.injEq, Prod.mk.injEq] at h
    rw [← dIt_inj h.1]; rfl
  · cases h
def noIt : It := ⟨0, 0, 0, 0, 0, 0, false⟩
theorem zeroIt (w : World) : (zeroValue 67).run Tryz.prog w = .ok (vItem noIt) w := by kernel_rfl
theorem key_N {g : Int} (h1 : -9223372036854775808 ≤ g) (h2 : g ≤ 9223372036854775807) : keyOf Tryz.prog 2 (.int .i64 g) = some (.int .i64 g) := keyOf_int_mk Tryz.underlying2 (WalkArith.wf_i64 (by omega))
theorem keyN_inj {a b : Int} (h : Lit.int .i64 a = Lit.int .i64 b) : a = b := by simpa using h
/-- what a map's content says of the cylinders l -/
structure ItsD (D : DataW Unit) (l : List It) : Prop where
  at_ : ∀ k : Int, -9223372036854775808 ≤ k → k ≤ 9223372036854775807 → Maps.has D (.int .i64 k) = (findI l k).isSome ∧ D.atKey (.int .i64 k) (dIt noIt) = dIt ((findI l k).getD noIt)
  keys : ∀ z, Maps.has D z = true → ∃ x ∈ l, z = .int .i64 x.num
theorem ItsD.nil : ItsD (.map []) [] := ⟨fun k _ _ => ⟨rfl, rfl⟩, fun z h => by cases h⟩
/-- block b is a map that holds the cylinders l -/
def MapJ (w : World) (b n : Nat) (l : List It) : Prop := ∃ D, w.ownsMap Tryz.prog 2 rIt b n D ∧ ItsD D l
theorem MapJ.made (w : World) : MapJ (w.alloc (.map #[] 0)) w.heap.size 0 [] := ⟨_, World.ownsMap_made _ _ _ _, ItsD.nil⟩
theorem MapJ.look {w : World} {b n : Nat} {l : List It} (h : MapJ w b n l) {k : Int} (h1 : -9223372036854775808 ≤ k) (h2 : k ≤ 9223372036854775807) :
    (Instr.lookup 157 (.map (some b)) (.int .i64 k) true).run Tryz.prog w = .ok (.tuple #[vItem ((findI l k).getD noIt), .bool (findI l k).isSome]) w := by
  obtain ⟨D, ho, hD⟩ := h
  obtain ⟨e1, e2⟩ := hD.at_ k h1 h2
  obtain ⟨v, ps, hrun, hv⟩ := ho.look_ok Tryz.lawN Tryz.underlying157 (zeroIt w) (rIt_v noIt) (key_N h1 h2)
  rw [e2] at hv
  rw [rIt_inv hv] at hrun
  rw [e1] at hrun
  exact hrun
theorem MapJ.kept {w w' : World} {b n : Nat} {l : List It} (h : MapJ w b n l) (e : w'.heap[b]? = w.heap[b]?) : MapJ w' b n l := by
  obtain ⟨D, ⟨es, clock, h1, h2⟩, hD⟩ := h
  exact ⟨D, ⟨es, clock, e.trans h1, h2⟩, hD⟩
theorem MapJ.lt {w : World} {b n : Nat} {l : List It} (h : MapJ w b n l) : b < w.heap.size := by
  obtain ⟨D, ho, _⟩ := h
  exact World.ownsMap.lt ho
theorem MapJ.below {w w' : World} {b n : Nat} {l : List It} (h : MapJ w b n l) (hb : Below w.heap.size w w') : MapJ w' b n l := h.kept (hb.block _ h.lt)
theorem MapJ.upd {w : World} {b n : Nat} {l : List It} (h : MapJ w b n l) (x : It) (h1 : -9223372036854775808 ≤ x.num) (h2 : x.num ≤ 9223372036854775807) (hn : n ≤ 1000000) (l' : List It)
    (hf : ∀ k, findI l' k = if k = x.num then some x else findI l k) (hk : ∀ y, (y = x.num ∨ ∃ u ∈ l, u.num = y) → ∃ u ∈ l', u.num = y) :
    ∃ w', (Instr.mapUpdate 157 (.map (some b)) (.int .i64 x.num) (vItem x)).run Tryz.prog w = .ok () w' ∧ MapJ w' b (n + 1) l' ∧ w.grownBy w' (some b) := by
  obtain ⟨D, ho, hD⟩ := h
  have hm : Maps.IsMap D := by obtain ⟨es, clock, _, _, _, e⟩ := ho; exact ⟨_, e⟩
  have hkey : WideAt.IsKeyLit (Lit.int .i64 x.num) := Tryz.lawN.key (key_N h1 h2)
  obtain ⟨w', hrun, hD', hg'⟩ := World.ownsMap.update (t := 157) (e := 67) ho Tryz.lawN Tryz.underlying157 (by unfold maxLen; omega) (key_N h1 h2) (rIt_v x)
  refine ⟨w', hrun, ⟨_, hD', ⟨fun k k1 k2 => ?_, fun z hz => ?_⟩⟩, hg'⟩
  · rw [hf]
    by_cases e : k = x.num
    · rw [if_pos e, e, has_put_same hm hkey, atKey_put_same hm hkey]; exact ⟨rfl, rfl⟩
    · have hne : Lit.int .i64 k ≠ Lit.int .i64 x.num := fun h => e (keyN_inj h)
      rw [if_neg e, has_put_other hne, atKey_put_other hne]; exact hD.at_ k k1 k2
  · by_cases e : z = .int .i64 x.num
    · obtain ⟨u, hu, e2⟩ := hk x.num (.inl rfl)
      exact ⟨u, hu, by rw [e2]; exact e⟩
    · rw [has_put_other e] at hz
      obtain ⟨v, hv, e'⟩ := hD.keys z hz
      obtain ⟨u, hu, e2⟩ := hk v.num (.inr ⟨v, hv, rfl⟩)
      exact ⟨u, hu, by rw [e2]; exact e'⟩
theorem ItsD.del {D : DataW Unit} {l l' : List It} (h : ItsD D l) (c : Int) (hf : ∀ k, findI l' k = if k = c then none else findI l k) (hk : ∀ y, y ≠ c → (∃ u ∈ l, u.num = y) → ∃ u ∈ l', u.num = y) : ItsD (D.del (.int .i64 c)) l' :=
  ⟨fun k k1 k2 => by
    rw [hf]
    by_cases e : k = c
    · rw [if_pos e, e, has_del_same, atKey_del_same]; exact ⟨rfl, rfl⟩
    · have hne : Lit.int .i64 k ≠ Lit.int .i64 c := fun h => e (keyN_inj h)
      rw [if_neg e, has_del_other hne, atKey_del_other hne]; exact h.at_ k k1 k2,
   fun z hz => by
    by_cases e : z = .int .i64 c
    · rw [e, has_del_same] at hz; cases hz
    · rw [has_del_other e] at hz
      obtain ⟨v, hv, e'⟩ := h.keys z hz
      obtain ⟨u, hu, e2⟩ := hk v.num (fun q => e (by rw [e', q])) ⟨v, hv, rfl⟩
      exact ⟨u, hu, by rw [e2]; exact e'⟩⟩
end Go.Proofs.YtkpmmgeffbhngaaGreatDoor
namespace Go.Proofs.YtkpmmgeffbhngaaGreatDoor
open Go.RowKit Go.Shelf Prot Go.Lib Go.Maps
/-- a journey in memory -/
structure JAt (W : World) (jb mb n : Nat) (j : Jn) : Prop where
  box : JBox W jb mb j.day j.opn (fun b => (room j.items (b : Nat) : Nat))
  map : MapJ W mb n j.items
  ne : mb ≠ jb
theorem JAt.below {W W' : World} {jb mb n : Nat} {j : Jn} (h : JAt W jb mb n j) (hb : Below W.heap.size W W') : JAt W' jb mb n j := ⟨h.box.below hb, h.map.below hb, h.ne⟩
set_option maxRecDepth 100000 in
set_option maxHeartbeats 1000000 in
theorem fresh_any (jb mb n : Nat) (j : Jn) (num : Int) (w : World) (hj : JAt w jb mb n j) (h1 : -9223372036854775808 ≤ num) (h2 : num ≤ 9223372036854775807) (ho0 : 0 ≤ j.opn) (ho1 : j.opn < 1000) (hr : room j.items j.opn ≤ 12) :
    Calls Tryz.prog 133 #[.pointer (some ⟨jb, 0, none⟩), .int .i64 num] w (Ret fun v w' => v = .int .i64 (freshE j num) ∧ Below w.heap.size w w') := by
  have hlk := hj.map.look h1 h2
  have y1 := hj.box.opn
  have y2 := hj.box.map
  obtain ⟨o, ho⟩ : ∃ o : Nat, j.opn = (o : Int) := ⟨j.opn.toNat, by omega⟩
  have y3 := hj.box.sh o (by omega)
  have HB : ∀ x : It, Below w.heap.size w (w.alloc (.cells #[.int .i64 x.num, .int .i64 x.box, .int .i64 x.day, .int .i64 x.voice, .int .i64 x.turns, .int .i64 x.src, .bool x.cracked] 67)) := fun x => below_alloc' (Below.refl _ _) _
  rw [ho] at y1 hr
  have HF : Hid (freshE j num = if (o : Int) = 0 then 9 else if (findI j.items num).isSome then 11 else if 12 ≤ room j.items (o : Int) then 10 else 0) := Lib.hid (by unfold freshE; rw [ho])
  generalize findI j.items num = fi at *
  obtain ⟨r, hrr⟩ : ∃ r, room j.items (o : Int) = r := ⟨_, rfl⟩
  rw [hrr] at HF hr
  have y3 : w.cell? ⟨jb, 3 + o, none⟩ = some (.int .i64 (r : Nat)) := by rw [← hrr]; exact y3
  have o0 : (0 : Int) ≤ (o : Int) := by omega
  have o1 : (o : Int) < 1000 := by omega
  have hjlt := hj.box.lt
  clear hj ho ho0 ho1 hrr h1 h2
  have HLk := Lib.hid hlk
  clear hlk
  have main : ∀ x : It, (Instr.lookup 157 (.map (some mb)) (.int .i64 num) true).run Tryz.prog w = .ok (.tuple #[.agg #[.int .i64 x.num, .int .i64 x.box, .int .i64 x.day, .int .i64 x.voice, .int .i64 x.turns, .int .i64 x.src, .bool x.cracked], .bool fi.isSome]) w → Calls Tryz.prog 133 #[.pointer (some ⟨jb, 0, none⟩), .int .i64 num] w (Ret fun v w' => v = .int .i64 (freshE j num) ∧ Below w.heap.size w w') := fun x hlk => by
    obtain ⟨a1, a2, a3, a4, a5, a6, a7⟩ := x
    dsimp only at hlk
    have hB := HB ⟨a1, a2, a3, a4, a5, a6, a7⟩
    dsimp only at hB
    have y1' := cell_below hB y1
    have y3' := cell_below hB y3
    have HBd := Lib.hid hB
    clear hB HB y3 HLk
    by_cases e0 : (o : Int) = 0
    · have HV : Hid (freshE j num = 9) := Lib.hid (by rw [HF.out, if_pos e0])
      have t1 : ((o : Int) == 0) = true := by rw [e0]; rfl
      clear HF e0
      go_enter Tryz.func133, Tryz.ntmps133
      go_wp2
      go_ret
      exact Ret.mk ⟨by rw [HV.out]; rfl, HBd.out⟩
    have t1 : ((o : Int) == 0) = false := by rw [beq_eq_false_iff_ne]; exact e0
    rw [if_neg e0] at HF
    cases hs : fi.isSome with
    | true =>
      rw [hs] at HF hlk
      have HV : Hid (freshE j num = 11) := Lib.hid (by rw [HF.out]; rfl)
      clear HF e0 hs
      go_enter Tryz.func133, Tryz.ntmps133
      go_wp2
      go_ret
      exact Ret.mk ⟨by rw [HV.out]; rfl, HBd.out⟩
    | false =>
      rw [hs] at HF hlk
      clear hs
      by_cases e12 : r = 12
      · have HV : Hid (freshE j num = 10) := Lib.hid (by rw [HF.out, if_pos (by omega : 12 ≤ r)]; rfl)
        have t2 : ((r : Int) == 12) = true := by rw [e12]; rfl
        clear HF e0 e12
        go_enter Tryz.func133, Tryz.ntmps133
        go_upto_region 6 with fail
        generalize w.alloc (.cells #[.int .i64 a1, .int .i64 a2, .int .i64 a3, .int .i64 a4, .int .i64 a5, .int .i64 a6, .bool a7] 67) = w2 at *
        go_quiet (fail)
        go_wp2
        go_ret
        exact Ret.mk ⟨by rw [HV.out]; rfl, below_drewN HBd.out _⟩
      · have HV : Hid (freshE j num = 0) := Lib.hid (by rw [HF.out, if_neg (by omega : ¬ 12 ≤ r)]; rfl)
        have t2 : ((r : Int) == 12) = false := by rw [beq_eq_false_iff_ne]; omega
        clear HF e0 e12
        go_enter Tryz.func133, Tryz.ntmps133
        go_upto_region 6 with fail
        generalize w.alloc (.cells #[.int .i64 a1, .int .i64 a2, .int .i64 a3, .int .i64 a4, .int .i64 a5, .int .i64 a6, .bool a7] 67) = w2 at *
        go_quiet (fail)
        go_wp2
        go_ret
        exact Ret.mk ⟨by rw [HV.out]; rfl, below_drewN HBd.out _⟩
  exact main (fi.getD noIt) HLk.out
end Go.Proofs.YtkpmmgeffbhngaaGreatDoor
namespace Go.Proofs.YtkpmmgeffbhngaaGreatDoor
open Go.RowKit Go.Shelf Prot Go.Lib Go.Maps
theorem MapJ.lookA {w : World} {b n : Nat} {l : List It} (h : MapJ w b n l) {k : Int} (h1 : -9223372036854775808 ≤ k) (h2 : k ≤ 9223372036854775807) (W : World) (e : W.heap[b]? = w.heap[b]?) :
    (Instr.lookup 157 (.map (some b)) (.int .i64 k) true).run Tryz.prog W = .ok (.tuple #[vItem ((findI l k).getD noIt), .bool (findI l k).isSome]) W := (h.kept e).look h1 h2
set_option maxRecDepth 100000 in
set_option maxHeartbeats 2000000 in
theorem doDay_any (jb mb n : Nat) (j : Jn) (x y z : Int) (w : World) (hj : JAt w jb mb n j) (h1 : -9223372036854775808 ≤ x) (h2 : x ≤ 9223372036854775807) :
    Calls Tryz.prog 107 #[.pointer (some ⟨jb, 0, none⟩), .agg #[.int .i64 1, .int .i64 x, .int .i64 y, .int .i64 z]] w (Ret fun v w' => v = .int .i64 (doV j (1, x, y, z)).2 ∧ JAt w' jb mb n (doV j (1, x, y, z)).1 ∧ KeepC w.heap.size jb mb w w') := by
  have hB := below_alloc' (Below.refl w.heap.size w) (.cells #[.int .i64 1, .int .i64 x, .int .i64 y, .int .i64 z] 36)
  have hX := heap_alloc_new w (.cells #[.int .i64 1, .int .i64 x, .int .i64 y, .int .i64 z] 36)
  have HX := Lib.hid hX
  have HB := Lib.hid hB
  have HJ1 := Lib.hid (hj.below hB)
  clear hX hB hj
  go_enter Tryz.func107, Tryz.ntmps107
  go_upto_region 1 with fail
  generalize w.alloc (.cells #[.int .i64 1, .int .i64 x, .int .i64 y, .int .i64 z] 36) = w1 at *
  have hlk := HJ1.out.map.lookA h1 h2 w1.drew rfl
  have hml := HJ1.out.map.lt
  have hlk2 := fun o => HJ1.out.map.lookA h1 h2 ((w1.alloc o).drew) (Below.heap_alloc w1 o mb hml)
  obtain ⟨xi, hxi⟩ : ∃ xi, (findI j.items x).getD noIt = xi := ⟨_, rfl⟩
  rw [hxi] at hlk hlk2
  obtain ⟨a1, a2, a3, a4, a5, a6, a7⟩ := xi
  unfold vItem at hlk hlk2
  generalize (findI j.items x).isSome = ok at *
  dsimp only at hlk hlk2
  have y2 := HJ1.out.box.map
  have n1 := (blk_cell (i := 1) HX.out).trans rfl
  clear hxi
  go_region_held3 (fun W => W.cell? ⟨jb, 2, none⟩ = some (.map (some mb)) ∧ W.cell? ⟨w.heap.size, 1, none⟩ = some (.int .i64 x)) (first | exact ⟨y2, n1⟩ | exact ⟨cell_alloc y2 _, cell_alloc n1 _⟩) (fail)
  all_goals
    have hb2 := below_alloc' (Below.refl w1.heap.size w1) (.cells #[.int .i64 a1, .int .i64 a2, .int .i64 a3, .int .i64 a4, .int .i64 a5, .int .i64 a6, .bool a7] 67)
    have HJ2 : Hid (JAt ((w1.alloc (.cells #[.int .i64 a1, .int .i64 a2, .int .i64 a3, .int .i64 a4, .int .i64 a5, .int .i64 a6, .bool a7] 67)).drew) jb mb n j) := Lib.hid (HJ1.out.below hb2.drew)
    have HX2 : Hid (((w1.alloc (.cells #[.int .i64 a1, .int .i64 a2, .int .i64 a3, .int .i64 a4, .int .i64 a5, .int .i64 a6, .bool a7] 67)).drew).heap[w.heap.size]? = some (.cells #[.int .i64 1, .int .i64 x, .int .i64 y, .int .i64 z] 36 (0, 0))) := Lib.hid (blk_alloc HX.out _)
    have HB2 : Hid (Below w.heap.size w ((w1.alloc (.cells #[.int .i64 a1, .int .i64 a2, .int .i64 a3, .int .i64 a4, .int .i64 a5, .int .i64 a6, .bool a7] 67)).drew)) := Lib.hid (below_alloc' HB.out _).drew
    clear hb2 hlk hlk2 y2 n1
    generalize (w1.alloc (.cells #[.int .i64 a1, .int .i64 a2, .int .i64 a3, .int .i64 a4, .int .i64 a5, .int .i64 a6, .bool a7] 67)).drew = w2 at *
    have l0 := (blk_cell (i := 0) HX2.out).trans rfl
    have l1 := (blk_cell (i := 1) HX2.out).trans rfl
    have d0 := HJ2.out.box.day
    have f0 := HJ2.out.box.frozen 0
    have hkc := KeepC.of_below (x := jb) (y := mb) HB2.out (Nat.le_refl _)
    have HK := Lib.hid hkc
    clear hkc
    by_cases hd : x ≤ j.day
    · have HV : Hid (doV j (1, x, y, z) = (j, 12)) := Lib.hid (by unfold doV; rw [if_pos rfl, if_pos hd])
      have t1 : decide (x ≤ j.day) = true := decide_eq_true hd
      clear hd
      go_upto_region 4 with fail
      go_quiet (fail)
      go_wp2
      go_ret
      exact Ret.mk ⟨by rw [HV.out]; rfl, by rw [HV.out]; exact HJ2.out.below (below_drewN (Below.refl _ _) _), HK.out.drewN _⟩
    · have HV : Hid (doV j (1, x, y, z) = (⟨x, j.opn, j.items⟩, 0)) := Lib.hid (by unfold doV; rw [if_pos rfl, if_neg hd])
      have t1 : decide (x ≤ j.day) = false := decide_eq_false hd
      clear hd
      go_upto_region 4 with fail
      go_quiet (fail)
      have HN : Hid (JAt ((w2.drewN nq).setCell ⟨jb, 0, none⟩ (.int .i64 x)) jb mb n ⟨x, j.opn, j.items⟩) := Lib.hid ⟨(HJ2.out.box.drewN nq).setDay x, HJ2.out.map.kept (Below.heap_setCell _ ⟨jb, 0, none⟩ _ mb HJ2.out.ne), HJ2.out.ne⟩
      have HKn := Lib.hid ((HK.out.drewN nq).set (p := ⟨jb, 0, none⟩) (.inl rfl) (.int .i64 x))
      go_wp2
      go_ret
      exact Ret.mk ⟨by rw [HV.out]; rfl, by rw [HV.out]; exact HN.out, HKn.out⟩
end Go.Proofs.YtkpmmgeffbhngaaGreatDoor
