/- What the laws of the chapter rest on, part 32. -/
import Derived.Test.YtkpmmgeffbhngaaGreatDoorC27
import Derived.Test.YtkpmmgeffbhngaaGreatDoorC28
set_option linter.unusedSimpArgs false
set_option linter.unusedVariables false
set_option linter.unnecessarySimpa false
namespace Prot
end Prot
namespace Go.Shelf
end Go.Shelf
namespace Go.Maps
end Go.Maps
namespace Go.Proofs.YtkpmmgeffbhngaaGreatDoor
open Go.RowKit Go.Shelf Prot Go.Lib Go.Maps
theorem findI_cons (z : It) (l : List It) (k : Int) : findI (z :: l) k = if z.num = k then some z else findI l k := by
  unfold findI; rw [List.find?_cons]; by_cases e : z.num = k <;> simp [e]
def delI (l : List It) (c : Int) : List It := l.filter fun x => decide (x.num ≠ c)
theorem findI_del (l : List It) (c k : Int) : findI (delI l c) k = if k = c then none else findI l k := by
  induction l with
  | nil => unfold delI findI; split <;> rfl
  | cons y l ih =>
    by_cases e : y.num = c
    · have h : delI (y :: l) c = delI l c := by unfold delI; rw [List.filter_cons_of_neg (by simpa using e)]
      rw [h, ih, findI_cons]
      by_cases e2 : k = c
      · rw [if_pos e2, if_pos e2]
      · rw [if_neg e2, if_neg e2, if_neg (fun q => e2 (q.symm.trans e))]
    · have h : delI (y :: l) c = y :: delI l c := by unfold delI; rw [List.filter_cons_of_pos (by simpa using e)]
      rw [h, findI_cons, ih, findI_cons]
      by_cases e2 : y.num = k
      · rw [if_pos e2, if_pos e2, if_neg (fun q => e (e2.trans q))]
      · rw [if_neg e2, if_neg e2]
theorem room_cons (y : It) (l : List It) (b : Int) : room (y :: l) b = (if y.box = b then 1 else 0) + room l b := by
  unfold room
  by_cases c : y.box = b
  · rw [List.filter_cons_of_pos (by simpa using c), if_pos c, List.length_cons]; omega
  · rw [List.filter_cons_of_neg (by simpa using c), if_neg c]; omega
theorem room_del {l : List It} (once : (l.map It.num).Nodup) {c : Int} {u : It} (h : findI l c = some u) (b : Int) : room l b = room (delI l c) b + if u.box = b then 1 else 0 := by
  induction l with
  | nil => cases h
  | cons y l ih =>
    rw [List.map_cons, List.nodup_cons] at once
    rw [findI_cons] at h
    by_cases e : y.num = c
    · rw [if_pos e] at h
      injection h with h
      subst h
      have h1 : delI (y :: l) c = l := by
        unfold delI
        rw [List.filter_cons_of_neg (by simpa using e), List.filter_eq_self]
        intro z hz
        have : z.num ≠ c := fun q => once.1 (List.mem_map.2 ⟨z, hz, q.trans e.symm⟩)
        simpa using this
      rw [h1, room_cons]; omega
    · rw [if_neg e] at h
      have h1 : delI (y :: l) c = y :: delI l c := by unfold delI; rw [List.filter_cons_of_pos (by simpa using e)]
      rw [h1, room_cons, room_cons, ih once.2 h]; omega
theorem MapJ.del {w : World} {b n : Nat} {l : List It} (h : MapJ w b n l) {c : Int} (h1 : -9223372036854775808 ≤ c) (h2 : c ≤ 9223372036854775807) :
    ∃ w', (∀ ty, (Builtin.delete_ #[157, 2] ty #[.map (some b), .int .i64 c]).run Tryz.prog w = .ok (.tuple #[]) w') ∧ MapJ w' b n (delI l c) ∧ w.mapTurned w' b := by
  obtain ⟨D, ho, hD⟩ := h
  obtain ⟨w', hrun, ho', ht⟩ := World.ownsMap.drop ho Tryz.lawN Tryz.underlying157 (key_N h1 h2) 0
  refine ⟨w', fun ty => hrun, ⟨_, ho', hD.del c (findI_del l c) ?_⟩, ht⟩
  rintro y hy ⟨u, hu, rfl⟩
  exact ⟨u, by unfold delI; rw [List.mem_filter]; exact ⟨hu, by simpa using hy⟩, rfl⟩
set_option maxRecDepth 100000 in
set_option maxHeartbeats 2000000 in
theorem doMove_any (jb mb n : Nat) (j : Jn) (x y z : Int) (w : World) (hj : JAt w jb mb n j) (hok : JnOk j) (hn : n ≤ 1000000) (h1 : -9223372036854775808 ≤ x) (h2 : x ≤ 9223372036854775807) :
    Calls Tryz.prog 107 #[.pointer (some ⟨jb, 0, none⟩), .agg #[.int .i64 6, .int .i64 x, .int .i64 y, .int .i64 z]] w (Ret fun v w' => v = .int .i64 (doV j (6, x, y, z)).2 ∧ (∃ n', n' ≤ n + 1 ∧ JAt w' jb mb n' (doV j (6, x, y, z)).1) ∧ KeepC w.heap.size jb mb w w') := by
  have hB := below_alloc' (Below.refl w.heap.size w) (.cells #[.int .i64 6, .int .i64 x, .int .i64 y, .int .i64 z] 36)
  have hX := heap_alloc_new w (.cells #[.int .i64 6, .int .i64 x, .int .i64 y, .int .i64 z] 36)
  have HX := Lib.hid hX
  have HB := Lib.hid hB
  have HJ1 := Lib.hid (hj.below hB)
  have hjl := hj.box.lt
  have hmlw := hj.map.lt
  clear hX hB hj
  go_enter Tryz.func107, Tryz.ntmps107
  go_upto_region 1 with fail
  generalize w.alloc (.cells #[.int .i64 6, .int .i64 x, .int .i64 y, .int .i64 z] 36) = w1 at *
  have hlk := HJ1.out.map.lookA h1 h2 w1.drew rfl
  have hml := HJ1.out.map.lt
  have hlk2 := fun o => HJ1.out.map.lookA h1 h2 ((w1.alloc o).drew) (Below.heap_alloc w1 o mb hml)
  obtain ⟨xi, hxi⟩ : ∃ xi, (findI j.items x).getD noIt = xi := ⟨_, rfl⟩
  rw [hxi] at hlk hlk2
  obtain ⟨a1, a2, a3, a4, a5, a6, a7⟩ := xi
  unfold vItem at hlk hlk2
  have HFi : Hid ((findI j.items x).isSome = true → findI j.items x = some ⟨a1, a2, a3, a4, a5, a6, a7⟩) := Lib.hid fun h => by
    cases e : findI j.items x with
    | none => rw [e] at h; cases h
    | some u => rw [e] at hxi; exact congrArg some hxi
  have HFn : Hid ((findI j.items x).isSome = false → findI j.items x = none) := Lib.hid fun h => by
    cases e : findI j.items x with
    | none => rfl
    | some u => rw [e] at h; cases h
  generalize (findI j.items x).isSome = ok at *
  dsimp only at hlk hlk2
  have y2 := HJ1.out.box.map
  have n1 := (blk_cell (i := 1) HX.out).trans rfl
  clear hxi
  go_region_held3 (fun W => W.cell? ⟨jb, 2, none⟩ = some (.map (some mb)) ∧ W.cell? ⟨w.heap.size, 1, none⟩ = some (.int .i64 x)) (first | exact ⟨y2, n1⟩ | exact ⟨cell_alloc y2 _, cell_alloc n1 _⟩) (fail)
  all_goals
    have hb2 := below_alloc' (Below.refl w1.heap.size w1) (.cells #[.int .i64 a1, .int .i64 a2, .int .i64 a3, .int .i64 a4, .int .i64 a5, .int .i64 a6, .bool a7] 67)
    have HJ2 : Hid (JAt ((w1.alloc (.cells #[.int .i64 a1, .int .i64 a2, .int .i64 a3, .int .i64 a4, .int .i64 a5, .int .i64 a6, .bool a7] 67)).drew) jb mb n j) := Lib.hid (HJ1.out.below hb2.drew)
    have HX2 : Hid (((w1.alloc (.cells #[.int .i64 a1, .int .i64 a2, .int .i64 a3, .int .i64 a4, .int .i64 a5, .int .i64 a6, .bool a7] 67)).drew).heap[w.heap.size]? = some (.cells #[.int .i64 6, .int .i64 x, .int .i64 y, .int .i64 z] 36 (0, 0))) := Lib.hid (blk_alloc HX.out _)
    have HB2 : Hid (Below w.heap.size w ((w1.alloc (.cells #[.int .i64 a1, .int .i64 a2, .int .i64 a3, .int .i64 a4, .int .i64 a5, .int .i64 a6, .bool a7] 67)).drew)) := Lib.hid (below_alloc' HB.out _).drew
    have HF2 : Hid (((w1.alloc (.cells #[.int .i64 a1, .int .i64 a2, .int .i64 a3, .int .i64 a4, .int .i64 a5, .int .i64 a6, .bool a7] 67)).drew).heap[w1.heap.size]? = some (.cells #[.int .i64 a1, .int .i64 a2, .int .i64 a3, .int .i64 a4, .int .i64 a5, .int .i64 a6, .bool a7] 67 (0, 0))) := Lib.hid (heap_alloc_new w1 _)
    have HS1 : Hid (w.heap.size < w1.heap.size) := Lib.hid (blk_lt HX.out)
    clear hb2 hlk hlk2 y2 n1
    generalize (w1.alloc (.cells #[.int .i64 a1, .int .i64 a2, .int .i64 a3, .int .i64 a4, .int .i64 a5, .int .i64 a6, .bool a7] 67)).drew = w2 at *
    generalize w1.heap.size = fb at *
    have l0 := (blk_cell (i := 0) HX2.out).trans rfl
    have f0 := (blk_cell (i := 0) HF2.out).trans rfl
    have f1 := (blk_cell (i := 1) HF2.out).trans rfl
    have f2 := (blk_cell (i := 2) HF2.out).trans rfl
    have f3 := (blk_cell (i := 3) HF2.out).trans rfl
    have f4 := (blk_cell (i := 4) HF2.out).trans rfl
    have f5 := (blk_cell (i := 5) HF2.out).trans rfl
    have f6 := (blk_cell (i := 6) HF2.out).trans rfl
    have hkc := KeepC.of_below (x := jb) (y := mb) HB2.out (Nat.le_refl _)
    have HK := Lib.hid hkc
    clear hkc
    have d1 := HJ2.out.box.opn
    have hop := hok.opn
    have hfew := hok.few j.opn
    have HOk := Lib.hid hok
    clear hok HX HB HJ1 HB2
    have HDv : Hid (doV j (6, x, y, z) = if j.opn = 0 then (j, (9 : Int)) else match findI j.items x with
      | none => (j, 5)
      | some u => if u.box = j.opn then (j, 15) else if 12 ≤ room j.items j.opn then (j, 10) else (⟨j.day, j.opn, putI j.items x fun y => { y with box := j.opn }⟩, 0)) := Lib.hid (by unfold doV; rw [if_neg (by dsimp only; omega), if_neg (by dsimp only; omega), if_neg (by dsimp only; omega), if_neg (by dsimp only; omega), if_neg (by dsimp only; omega), if_pos rfl]; dsimp only; cases findI j.items x <;> rfl)
    by_cases h0 : j.opn = 0
    · have HV : Hid (doV j (6, x, y, z) = (j, 9)) := Lib.hid (by rw [HDv.out, if_pos h0])
      have t1 : (j.opn == 0) = true := by simpa using h0
      clear h0 HDv f0 f1 f2 f3 f4 f5 f6
      go_wp2
      go_ret
      exact Ret.mk ⟨by rw [HV.out]; rfl, ⟨n, by omega, by rw [HV.out]; exact HJ2.out⟩, HK.out⟩
    rw [if_neg h0] at HDv
    have t1 : (j.opn == 0) = false := by simpa using h0
    cases ok with
    | false =>
      have HV : Hid (doV j (6, x, y, z) = (j, 5)) := Lib.hid (by rw [HDv.out, HFn.out rfl])
      clear h0 HDv f0 f1 f2 f3 f4 f5 f6
      go_wp2
      go_ret
      exact Ret.mk ⟨by rw [HV.out]; rfl, ⟨n, by omega, by rw [HV.out]; exact HJ2.out⟩, HK.out⟩
    | true =>
      have hfi := HFi.out rfl
      rw [hfi] at HDv
      dsimp only at HDv
      have ha1 : a1 = x := findI_num hfi
      by_cases he : a2 = j.opn
      · have HV : Hid (doV j (6, x, y, z) = (j, 15)) := Lib.hid (by rw [HDv.out, if_pos he])
        have t2 : (a2 == j.opn) = true := by simpa using he
        clear h0 HDv he hfi ha1 HFi HFn hop hfew
        go_upto_region 36 with fail
        go_quiet (fail)
        go_wp2
        go_ret
        exact Ret.mk ⟨by rw [HV.out]; rfl, ⟨n, by omega, by rw [HV.out]; exact HJ2.out.same rfl rfl⟩, HK.out.drewN _⟩
      rw [if_neg he] at HDv
      have t2 : (a2 == j.opn) = false := by simpa using he
      obtain ⟨o, ho⟩ : ∃ o : Nat, j.opn = (o : Int) := ⟨j.opn.toNat, by omega⟩
      have y3 := HJ2.out.box.sh o (by omega)
      have hro : ((room j.items (o : Int) : Nat) : Int) = ((room j.items j.opn : Nat) : Int) := by rw [ho]
      have y3 : w2.cell? ⟨jb, 3 + o, none⟩ = some (.int .i64 (room j.items j.opn : Nat)) := by rw [← hro]; exact y3
      have o0 : (0 : Int) ≤ j.opn := by omega
      have o1 : j.opn < 1000 := by omega
      have o2 : j.opn.toNat = o := by omega
      obtain ⟨r, hr⟩ : ∃ r, room j.items j.opn = r := ⟨_, rfl⟩
      rw [hr] at y3 hfew HDv
      by_cases h12 : r = 12
      · have HV : Hid (doV j (6, x, y, z) = (j, 10)) := Lib.hid (by rw [HDv.out, if_pos (by omega)])
        have t3 : ((r : Int) == 12) = true := by rw [h12]; rfl
        clear h0 HDv he hfi ha1 HFi HFn hop hfew hro hr h12
        go_upto_region 36 with fail
        go_quiet (fail)
        go_upto_region 38 with fail
        have HJ3 : Hid (JAt (w2.drewN nq) jb mb n j) := Lib.hid (HJ2.out.same rfl rfl)
        have HK3 := Lib.hid (HK.out.drewN nq)
        have d1 : (w2.drewN nq).cell? ⟨jb, 1, none⟩ = some (.int .i64 j.opn) := d1
        have y3 : (w2.drewN nq).cell? ⟨jb, 3 + o, none⟩ = some (.int .i64 (r : Nat)) := y3
        clear f0 f1 f2 f3 f4 f5 f6 l0 HX2 HF2 HJ2 HK
        generalize w2.drewN nq = w3 at *
        go_quiet (fail)
        go_wp2
        go_ret
        exact Ret.mk ⟨by rw [HV.out]; rfl, ⟨n, by omega, by rw [HV.out]; exact HJ3.out.same rfl rfl⟩, HK3.out.drewN _⟩
      · have hr12 : r < 12 := by omega
        have HV : Hid (doV j (6, x, y, z) = (⟨j.day, j.opn, putI j.items x fun y => { y with box := j.opn }⟩, 0)) := Lib.hid (by rw [HDv.out, if_neg (by omega)])
        have t3 : ((r : Int) == 12) = false := by rw [beq_eq_false_iff_ne]; omega
        subst ha1
        have HFi2 := Lib.hid hfi
        have HR := Lib.hid hr
        have hxm := (findI_some hfi).1
        have hab := HOk.out.box _ hxm
        dsimp only at hab
        have HNe := Lib.hid he
        clear h0 HDv he hfi HFi HFn hop hro hr h12 hfew hxm
        go_upto_region 36 with fail
        go_quiet (fail)
        go_upto_region 38 with fail
        have HJ3 : Hid (JAt (w2.drewN nq) jb mb n j) := Lib.hid (HJ2.out.same rfl rfl)
        have HK3 := Lib.hid (HK.out.drewN nq)
        have HX3 : Hid ((w2.drewN nq).heap[w.heap.size]? = some (.cells #[.int .i64 6, .int .i64 a1, .int .i64 y, .int .i64 z] 36 (0, 0))) := HX2
        have HF3 : Hid ((w2.drewN nq).heap[fb]? = some (.cells #[.int .i64 a1, .int .i64 a2, .int .i64 a3, .int .i64 a4, .int .i64 a5, .int .i64 a6, .bool a7] 67 (0, 0))) := HF2
        have d1 : (w2.drewN nq).cell? ⟨jb, 1, none⟩ = some (.int .i64 j.opn) := d1
        have y3 : (w2.drewN nq).cell? ⟨jb, 3 + o, none⟩ = some (.int .i64 (r : Nat)) := y3
        clear f0 f1 f2 f3 f4 f5 f6 l0 HX2 HF2 HJ2 HK
        generalize w2.drewN nq = w3 at *
        go_quiet (fail)
        clear d1 y3 ho o2
        go_upto_region 40 with fail
        have HJ4 : Hid (JAt (w3.drewN nq) jb mb n j) := Lib.hid (HJ3.out.same rfl rfl)
        have HK4 := Lib.hid (HK3.out.drewN nq)
        have HX4 : Hid ((w3.drewN nq).heap[w.heap.size]? = some (.cells #[.int .i64 6, .int .i64 a1, .int .i64 y, .int .i64 z] 36 (0, 0))) := HX3
        have HF4 : Hid ((w3.drewN nq).heap[fb]? = some (.cells #[.int .i64 a1, .int .i64 a2, .int .i64 a3, .int .i64 a4, .int .i64 a5, .int .i64 a6, .bool a7] 67 (0, 0))) := HF3
        clear HX3 HF3 HJ3 HK3
        generalize w3.drewN nq = w4 at *
        obtain ⟨w5, hdel, hM5, ht5⟩ := (show MapJ w4.drew mb n j.items from HJ4.out.map.kept rfl).del h1 h2
        have hg5 := ht5.grown
        have y2 := HJ4.out.box.map
        have n1 := (blk_cell (i := 1) HX4.out).trans rfl
        have hls := blk_lt HF4.out
        have hne := HJ4.out.ne
        have hs1 := HS1.out
        have ej : w5.heap[jb]? = w4.heap[jb]? := hg5.block jb (by show jb < w4.heap.size; omega) (fun e => hne (by injection e with e; exact e.symm))
        have ex : w5.heap[w.heap.size]? = w4.heap[w.heap.size]? := hg5.block _ (by show w.heap.size < w4.heap.size; omega) (fun e => by injection e with e; omega)
        have ef : w5.heap[fb]? = w4.heap[fb]? := hg5.block fb hls (fun e => by injection e with e; omega)
        have y2' := (World.cell?_of_block (a := ⟨jb, 2, none⟩) ej).trans y2
        have n1' := (World.cell?_of_block (a := ⟨w.heap.size, 1, none⟩) ex).trans n1
        have HB5 := Lib.hid (HJ4.out.box.same ej)
        have HM5 := Lib.hid hM5
        have HF5 := Lib.hid (ef.trans HF4.out)
        have HK5 := Lib.hid (HK4.out.drew.grown hg5 (by show _ ≤ w4.heap.size; omega) (fun r e => .inr (.inl (by injection e with e; exact e.symm))))
        clear hM5 hg5 ej ex ef ht5
        go_region_held3 (fun W => W.cell? ⟨jb, 2, none⟩ = some (.map (some mb)) ∧ W.cell? ⟨w.heap.size, 1, none⟩ = some (.int .i64 a1)) (first | exact ⟨y2, n1⟩ | exact ⟨y2', n1'⟩) (fail)
        clear y2 n1 y2' n1' hdel HX4 HF4 HJ4 HK4
        obtain ⟨bo, hbo⟩ : ∃ bo : Nat, a2 = (bo : Int) := ⟨a2.toNat, by omega⟩
        subst hbo
        have m1 := HB5.out.sh bo (by omega)
        have HRd := Lib.hid (room_del HOk.out.once HFi2.out (bo : Int))
        rw [if_pos rfl] at HRd
        obtain ⟨r2, hr2⟩ : ∃ r2, room j.items (bo : Int) = r2 := ⟨_, rfl⟩
        rw [hr2] at m1 HRd
        have hr2b : r2 ≤ 12 := by rw [← hr2]; exact HOk.out.few _
        have hr21 : 1 ≤ r2 := by have := HRd.out; omega
        have l1 := (blk_cell (i := 1) HF5.out).trans rfl
        have q0 : (0 : Int) ≤ (bo : Int) := by omega
        have q1 : (bo : Int) < 1000 := by omega
        have fr := HB5.out.frozen (3 + bo)
        have e1 : IntKind.i64.wrap ((r2 : Int) - 1) = (r2 : Int) - 1 := IntWalk.i64_in _ (by omega)
        go_upto_region 41 with fail
        go_region_law (fail)
        have HRA : Hid (∀ b : Int, room j.items b = room (delI j.items a1) b + if (bo : Int) = b then 1 else 0) := Lib.hid fun b => room_del HOk.out.once HFi2.out b
        have hJ6 : JAt ((w5.setCell ⟨jb, 3 + bo, none⟩ (.int .i64 ((r2 : Int) - 1))).drew) jb mb n ⟨j.day, j.opn, delI j.items a1⟩ := by
          refine ⟨?_, HM5.out.kept (Below.heap_setCell w5 ⟨jb, 3 + bo, none⟩ _ mb hne), hne⟩
          have e : (fun b : Nat => ((room (delI j.items a1) (b : Int) : Nat) : Int)) = fun k => if k = bo then (r2 : Int) - 1 else ((room j.items (k : Int) : Nat) : Int) := funext fun b => by
            have h1 := HRA.out (b : Int)
            by_cases e : b = bo
            · rw [if_pos e]; rw [if_pos (by omega)] at h1; rw [e] at h1 ⊢; rw [hr2] at h1; omega
            · rw [if_neg e]; rw [if_neg (by omega)] at h1; omega
          show JBox _ jb mb j.day j.opn (fun b : Nat => ((room (delI j.items a1) (b : Int) : Nat) : Int))
          rw [e]
          exact (HB5.out.setSh (b := bo) (by omega) ((r2 : Int) - 1)).same rfl
        have HJ6 := Lib.hid hJ6
        have HF6 : Hid (((w5.setCell ⟨jb, 3 + bo, none⟩ (.int .i64 ((r2 : Int) - 1))).drew).heap[fb]? = some (.cells #[.int .i64 a1, .int .i64 (bo : Int), .int .i64 a3, .int .i64 a4, .int .i64 a5, .int .i64 a6, .bool a7] 67 (0, 0))) := Lib.hid ((Below.heap_setCell w5 ⟨jb, 3 + bo, none⟩ _ fb (by show fb ≠ jb; omega)).trans HF5.out)
        have HK6 := Lib.hid (HK5.out.set (p := ⟨jb, 3 + bo, none⟩) (.inl rfl) (.int .i64 ((r2 : Int) - 1))).drew
        clear hJ6 HB5 HM5 HF5 HK5 m1 l1 fr e1 hr21 hr2b hr2
        generalize (w5.setCell ⟨jb, 3 + bo, none⟩ (.int .i64 ((r2 : Int) - 1))).drew = w6 at *
        have d1 := HJ6.out.box.opn
        have f1 := (blk_cell (i := 1) HF6.out).trans rfl
        have fr := blk_frozen (i := 1) HF6.out
        have HF7 : Hid ((w6.setCell ⟨fb, 1, none⟩ (.int .i64 j.opn)).heap[fb]? = some (.cells #[.int .i64 a1, .int .i64 j.opn, .int .i64 a3, .int .i64 a4, .int .i64 a5, .int .i64 a6, .bool a7] 67 (0, 0))) := Lib.hid (blk_set HF6.out (i := 1) (.int .i64 j.opn))
        have HJ7 : Hid (JAt (w6.setCell ⟨fb, 1, none⟩ (.int .i64 j.opn)) jb mb n ⟨j.day, j.opn, delI j.items a1⟩) := Lib.hid (HJ6.out.same (Below.heap_setCell w6 ⟨fb, 1, none⟩ _ jb (by show jb ≠ fb; omega)) (Below.heap_setCell w6 ⟨fb, 1, none⟩ _ mb (by show mb ≠ fb; omega)))
        have HK7 := Lib.hid (HK6.out.set (p := ⟨fb, 1, none⟩) (.inr (.inr (by show w.heap.size ≤ fb; omega))) (.int .i64 j.opn))
        clear HF6 HJ6 HK6
        go_upto_region 43 with fail
        clear d1 f1 fr
        generalize w6.setCell ⟨fb, 1, none⟩ (.int .i64 j.opn) = w7 at *
        have c0 := (blk_cell (i := 0) HF7.out).trans rfl
        have c1 := (blk_cell (i := 1) HF7.out).trans rfl
        have c2 := (blk_cell (i := 2) HF7.out).trans rfl
        have c3 := (blk_cell (i := 3) HF7.out).trans rfl
        have c4 := (blk_cell (i := 4) HF7.out).trans rfl
        have c5 := (blk_cell (i := 5) HF7.out).trans rfl
        have c6 := (blk_cell (i := 6) HF7.out).trans rfl
        have hdn : findI (delI j.items a1) a1 = none := by rw [findI_del, if_pos rfl]
        have HDn := Lib.hid hdn
        have HLy := Lib.hid (lay_any jb mb n ⟨j.day, j.opn, delI j.items a1⟩ ⟨a1, j.opn, a3, a4, a5, a6, a7⟩ w7 HJ7.out h1 h2 o0 o1 hdn hn (by
          have h1 := HRA.out j.opn
          have h2 := HOk.out.few j.opn
          dsimp only; omega))
        unfold vItem at HLy
        dsimp only at HLy
        have hlt7 := blk_lt HF7.out
        clear hdn
        go_wp2_with fail
        refine HLy.out.mono ?_
        rintro _ w8 ⟨v, rfl, hJ8, hK8⟩
        clear HLy c0 c1 c2 c3 c4 c5 c6 HF7 HJ7
        have HJ8 : Hid (JAt w8 jb mb (n + 1) ⟨j.day, j.opn, putI j.items a1 fun y => { y with box := j.opn }⟩) := Lib.hid (by
          have hx := (findI_some HFi2.out).1
          refine hJ8.cong (fun k => ?_) (fun u hu => ?_) (fun b => ?_)
          · dsimp only
            rw [findI_put (f := fun y : It => { y with box := j.opn }) (fun _ => rfl), findI_snoc (x := ⟨a1, j.opn, a3, a4, a5, a6, a7⟩) HDn.out, HFi2.out, findI_del]
            by_cases e : k = a1
            · rw [if_pos e, if_pos e]; rfl
            · rw [if_neg e, if_neg e, if_neg e]
          · dsimp only at hu
            rcases List.mem_append.1 hu with hu | hu
            · exact ⟨_, mem_putI.2 ⟨u, (List.mem_filter.1 hu).1, rfl⟩, by split <;> rfl⟩
            · rw [List.mem_singleton] at hu
              subst hu
              exact ⟨_, mem_putI.2 ⟨_, hx, rfl⟩, by split <;> rfl⟩
          · dsimp only
            have h1 := room_move HOk.out.once hx (o := j.opn) (by exact HNe.out) b
            have h2 := HRA.out b
            have h3 := room_snoc (delI j.items a1) ⟨a1, j.opn, a3, a4, a5, a6, a7⟩ b
            dsimp only at h1 h3
            rw [h3]
            split at h1 <;> split at h1 <;> split at h2 <;> split <;> omega)
        have HK8 := Lib.hid (HK7.out.trans (show KeepC w.heap.size jb mb w7 w8 from ⟨hK8.os, hK8.tape, hK8.output, hK8.size, fun b h => hK8.block b (by omega)⟩))
        clear hJ8 hK8
        go_wp2
        go_ret
        exact Ret.mk ⟨by rw [HV.out]; rfl, ⟨n + 1, Nat.le_refl _, by rw [HV.out]; exact HJ8.out⟩, HK8.out⟩
end Go.Proofs.YtkpmmgeffbhngaaGreatDoor
