/- What the laws of the chapter rest on, part 28. -/
import Derived.Test.YtkpmmgeffbhngaaGreatDoorC18
set_option linter.unusedSimpArgs false
set_option linter.unusedVariables false
set_option linter.unnecessarySimpa false
namespace Prot
end Prot
namespace Go.Shelf
end Go.Shelf
namespace Go.Maps
end Go.Maps
namespace Go.Proofs.YtkpmmgeffbhngaaGreatDoor
open Go.RowKit Go.Shelf Prot Go.Lib Go.Maps
theorem MapJ.cong {w : World} {b n : Nat} {l l' : List It} (h : MapJ w b n l) (hf : ∀ k, findI l' k = findI l k) (hk : ∀ u ∈ l, ∃ u' ∈ l', u'.num = u.num) : MapJ w b n l' := by
  obtain ⟨D, ho, hD⟩ := h
  refine ⟨D, ho, ⟨fun k k1 k2 => by rw [hf]; exact hD.at_ k k1 k2, fun z hz => ?_⟩⟩
  obtain ⟨u, hu, e⟩ := hD.keys z hz
  obtain ⟨u', hu', e'⟩ := hk u hu
  exact ⟨u', hu', by rw [e']; exact e⟩
theorem JAt.cong {w : World} {jb mb n : Nat} {j : Jn} {l' : List It} (h : JAt w jb mb n j) (hf : ∀ k, findI l' k = findI j.items k) (hk : ∀ u ∈ j.items, ∃ u' ∈ l', u'.num = u.num) (hr : ∀ b, room l' b = room j.items b) : JAt w jb mb n ⟨j.day, j.opn, l'⟩ := by
  refine ⟨?_, h.map.cong hf hk, h.ne⟩
  have e : (fun b : Nat => ((room l' (b : Int) : Nat) : Int)) = fun b : Nat => ((room j.items (b : Int) : Nat) : Int) := funext fun b => by rw [hr]
  show JBox w jb mb j.day j.opn (fun b : Nat => ((room l' (b : Int) : Nat) : Int))
  rw [e]; exact h.box
theorem findI_num {l : List It} {k : Int} {x : It} (h : findI l k = some x) : x.num = k := by
  unfold findI at h
  have := List.find?_some h
  simpa using this
theorem findI_put {l : List It} {c : Int} {f : It → It} (hf : ∀ y, (f y).num = y.num) (k : Int) : findI (putI l c f) k = if k = c then (findI l c).map f else findI l k := by
  induction l with
  | nil => unfold putI findI; split <;> rfl
  | cons y l ih =>
    have hc : ∀ (z : It) (l : List It) (k : Int), findI (z :: l) k = if z.num = k then some z else findI l k := fun z l k => by
      unfold findI; rw [List.find?_cons]; by_cases e : z.num = k <;> simp [e]
    have hp : putI (y :: l) c f = (if y.num = c then f y else y) :: putI l c f := rfl
    rw [hp, hc, hc, hc, ih]
    by_cases e1 : y.num = c
    · rw [if_pos e1, hf]
      by_cases e2 : k = c
      · rw [if_pos (e1.trans e2.symm), if_pos e2, if_pos e1]; rfl
      · rw [if_neg (fun q => e2 (q.symm.trans e1)), if_neg e2, if_neg e2, if_neg (fun q => e2 (q.symm.trans e1))]
    · rw [if_neg e1, if_neg e1]
      by_cases e2 : k = c
      · rw [if_pos e2, if_pos e2, if_neg (fun q => e1 (q.trans e2))]
      · rw [if_neg e2, if_neg e2]
end Go.Proofs.YtkpmmgeffbhngaaGreatDoor
namespace Go.Proofs.YtkpmmgeffbhngaaGreatDoor
open Go.RowKit Go.Shelf Go.Maps Prot
theorem sortsN (m : Nat) : AnyZI.SortsIn Tryz.prog Tryz.laysSorted_ren Fence.wide m :=
  ⟨fun blk off cap ss W hH hblk hsz => callsIn_wide.2 (Tryz.slices_Sort_int blk off cap ss W hH hblk hsz),
   fun p cap W => callsIn_wide.2 (Tryz.slices_Sort_int_none p cap W)⟩
theorem keys_any (mb : Option Nat) (W : World) : Calls Tryz.prog 112 #[.map mb] W (Ret fun v w' => v = .func (.func 139) #[] #[.pointer (some ⟨W.heap.size, 0, none⟩)] ∧ w' = W.alloc (.cells #[.map mb] 157)) := by
  have h : CallsIn Fence.wide 5 Tryz.prog 112 #[.map mb] W fun e w' => e = .returned (.func (.func 139) #[] #[.pointer (some ⟨W.heap.size, 0, none⟩)]) ∧ w' = W.alloc (.cells #[.map mb] 157) := AnyZI.keys_in Tryz.laysKeys Fence.wide 5 trivial rfl mb W
  refine (callsIn_wide.1 h).mono ?_
  rintro e w' ⟨rfl, rfl⟩
  exact Ret.mk ⟨rfl, rfl⟩
theorem map_encZ (l : List Int) : l.map encZ = l.flatMap encI := by
  induction l with
  | nil => rfl
  | cons x l ih => rw [List.map_cons, List.flatMap_cons, ih]; rfl
theorem mem_intKeys {W : World} {b n : Nat} {D : DataW Unit} (hD : W.ownsMap Tryz.prog 2 rIt b n D) (x : Int) : x ∈ intKeys D ↔ Maps.has D (.int .i64 x) = true := by
  obtain ⟨es, rfl, hko⟩ := World.ownsMap.keysOf hD
  show x ∈ (es.map fun p => Go.intOf p.1) ↔ _
  rw [has_eq, List.any_eq_true, List.mem_map]
  constructor
  · rintro ⟨p, hp, rfl⟩
    obtain ⟨v, hv⟩ := hko p hp
    obtain ⟨y, _, hy, _⟩ := Maps.keyOf_i64 Tryz.underlying2 hv
    exact ⟨p, hp, by rw [hy]; simp [Lit.sameKey, Go.intOf]⟩
  · rintro ⟨p, hp, hs⟩
    obtain ⟨v, hv⟩ := hko p hp
    obtain ⟨y, _, hy, _⟩ := Maps.keyOf_i64 Tryz.underlying2 hv
    rw [hy] at hs
    exact ⟨p, hp, by rw [hy]; simpa [Lit.sameKey, Go.intOf] using hs⟩
theorem nodup_intKeys {W : World} {b n : Nat} {D : DataW Unit} (hD : W.ownsMap Tryz.prog 2 rIt b n D) : (intKeys D).Nodup := by
  obtain ⟨es, hE, hpw, _⟩ := World.ownsMap.entries hD Tryz.lawN
  obtain ⟨es', hE', hko⟩ := World.ownsMap.keysOf hD
  obtain rfl : es = es' := by rw [hE] at hE'; simpa using hE'
  subst hE
  refine List.pairwise_map.2 (hpw.imp_of_mem fun {p q} hp' hq' hne e => hne ?_)
  obtain ⟨_, ha⟩ := hko p hp'
  obtain ⟨_, hb⟩ := hko q hq'
  obtain ⟨a, _, ha, _⟩ := Maps.keyOf_i64 Tryz.underlying2 ha
  obtain ⟨b, _, hb, _⟩ := Maps.keyOf_i64 Tryz.underlying2 hb
  rw [ha, hb] at e ⊢
  exact congrArg _ e
theorem sorted_eq : ∀ {a b : List Int}, a.Pairwise (· ≤ ·) → b.Pairwise (· ≤ ·) → a.Perm b → a = b
  | [], [], _, _, _ => rfl
  | [], y :: b, _, _, h => by have := h.length_eq; simp at this
  | x :: a, [], _, _, h => by have := h.length_eq; simp at this
  | x :: a, y :: b, ha, hb, h => by
    have ha' := List.pairwise_cons.1 ha
    have hb' := List.pairwise_cons.1 hb
    have e : x = y := by
      have m1 : x ∈ y :: b := h.subset (by simp)
      have m2 : y ∈ x :: a := h.symm.subset (by simp)
      rcases List.mem_cons.1 m1 with e | m1
      · exact e
      · rcases List.mem_cons.1 m2 with e | m2
        · exact e.symm
        · have := ha'.1 y m2; have := hb'.1 x m1; omega
    subst e
    rw [sorted_eq ha'.2 hb'.2 (List.Perm.cons_inv h)]
/-- the keys of the map, sorted, are the numbers of the cylinders told -/
theorem told_keysJ {W : World} {b n : Nat} {D : DataW Unit} {l : List It} (hD : W.ownsMap Tryz.prog 2 rIt b n D) (hI : ItsD D l) (once : (l.map It.num).Nodup) (hin : ∀ x ∈ l, 1 ≤ x.num ∧ x.num ≤ (maxN : Int)) {ss : List Int} (hs : ss.Perm (intKeys D)) :
    ss.mergeSort leI = (toldL l).map It.num := by
  have hmx : (maxN : Int) = 1099511627776 := rfl
  have hperm : (ss.mergeSort leI).Perm (intKeys D) := (List.mergeSort_perm _ _).trans hs
  have hkey : ∀ x : Int, x ∈ intKeys D ↔ x ∈ l.map It.num := fun x => by
    rw [mem_intKeys hD, List.mem_map]
    constructor
    · intro h
      obtain ⟨u, hu, e⟩ := hI.keys _ h
      exact ⟨u, hu, (keyN_inj e).symm⟩
    · rintro ⟨u, hu, rfl⟩
      have hb := hin u hu
      have := (hI.at_ u.num (by omega) (by omega)).1
      rw [this, findI_mem once hu]; rfl
  have hp2 : (intKeys D).Perm ((toldL l).map It.num) := by
    refine List.Perm.trans ?_ ((told_perm l).map It.num).symm
    exact (List.perm_ext_iff_of_nodup (nodup_intKeys hD) once).2 hkey
  refine sorted_eq ?_ ?_ (hperm.trans hp2)
  · have h := List.pairwise_mergeSort (le := leI) (fun a b c h1 h2 => by simp only [leI, decide_eq_true_eq] at *; omega) (fun a b => by simp only [leI, Bool.or_eq_true, decide_eq_true_eq]; omega) ss
    exact h.imp fun h => by simpa [leI] using h
  · exact List.pairwise_map.2 ((told_rise once).imp fun h => Int.le_of_lt h)
theorem sortedJ_any (mb n : Nat) (l : List It) (W : World) (hM : MapJ W mb n l) (hn : n ≤ 100000) (once : (l.map It.num).Nodup) (hin : ∀ x ∈ l, 1 ≤ x.num ∧ x.num ≤ (maxN : Int)) :
    Calls Tryz.prog 111 #[.func (.func 139) #[] #[.pointer (some ⟨W.heap.size, 0, none⟩)]] (W.alloc (.cells #[.map (some mb)] 157)) (Ret fun v w' => w'.ownsRow (W.heap.size + 1) 2 1 v ((toldL l).map It.num).length (((toldL l).map It.num).flatMap encI) ∧ Below (W.heap.size + 1) (W.alloc (.cells #[.map (some mb)] 157)) w') := by
  have hbl := hM.lt
  obtain ⟨D, hD, hI⟩ := hM
  have hsz := World.ownsMap.size_le hD
  have hD0 := hD
  have hseq : SeqGives Fence.wide 2 Tryz.prog 139 #[.pointer (some ⟨W.heap.size, 0, none⟩)] encZ (fun ss => ss.Perm (intKeys D)) (Maps.size D) (W.alloc (.cells #[.map (some mb)] 157)) :=
    AnyZI.keys_gives (ρ := Tryz.laysKeys_ren) { Tryz.laysKeys with } Fence.wide _ trivial rfl (by omega) W.heap.size mb n D _ (by simp) (by simp) (by
      obtain ⟨es, clock, hb, Ft, hs, hD⟩ := hD
      exact ⟨es, clock, (Below.heap_alloc _ _ mb hbl).trans hb, Ft, hs, hD⟩)
  have cS := AnyZI.sorted_in Tryz.laysSorted Fence.wide 5 trivial trivial trivial trivial rfl (by omega) (sortsN _) (enters_of Tryz.func138 (by kernel_rfl) rfl) 139 #[.pointer (some ⟨W.heap.size, 0, none⟩)] trivial (enters_of Tryz.func139 (by kernel_rfl) rfl) _ _ (by unfold maxLen; omega) (by omega) _ hseq
  change CallsIn _ _ Tryz.prog 111 _ _ _ at cS
  refine (callsIn_wide.1 cS).mono ?_
  rintro e w' ⟨v, ss, rfl, hS, hrow, _, hb⟩
  rw [World.size_alloc] at hrow hb
  refine Ret.mk ⟨?_, hb⟩
  rw [← told_keysJ hD0 hI once hin hS, List.length_mergeSort, ← map_encZ]
  exact hrow
end Go.Proofs.YtkpmmgeffbhngaaGreatDoor
namespace Go.Proofs.YtkpmmgeffbhngaaGreatDoor
open Go.RowKit Go.Shelf Prot Go.Lib Go.Maps
theorem room_put {l : List It} {c : Int} {f : It → It} (hf : ∀ y, (f y).box = y.box) (b : Int) : room (putI l c f) b = room l b := by
  have h1 : ∀ l : List It, room l b = ((l.map It.box).filter fun z => decide (z = b)).length := fun l => by
    unfold room
    rw [List.filter_map, List.length_map]; rfl
  rw [h1, h1, putI_map (g := It.box) hf]
theorem JAt.same {W W' : World} {jb mb n : Nat} {j : Jn} (h : JAt W jb mb n j) (e1 : W'.heap[jb]? = W.heap[jb]?) (e2 : W'.heap[mb]? = W.heap[mb]?) : JAt W' jb mb n j := ⟨h.box.same e1, h.map.kept e2, h.ne⟩
theorem JAt.drew {W : World} {jb mb n : Nat} {j : Jn} (h : JAt W jb mb n j) : JAt W.drew jb mb n j := h.same rfl rfl
set_option maxRecDepth 100000 in
set_option maxHeartbeats 2000000 in
theorem doCrack_any (jb mb n : Nat) (j : Jn) (x y z : Int) (w : World) (hj : JAt w jb mb n j) (hn : n ≤ 1000000) (h1 : -9223372036854775808 ≤ x) (h2 : x ≤ 9223372036854775807) :
    Calls Tryz.prog 107 #[.pointer (some ⟨jb, 0, none⟩), .agg #[.int .i64 5, .int .i64 x, .int .i64 y, .int .i64 z]] w (Ret fun v w' => v = .int .i64 (doV j (5, x, y, z)).2 ∧ (∃ n', n' ≤ n + 1 ∧ JAt w' jb mb n' (doV j (5, x, y, z)).1) ∧ KeepC w.heap.size jb mb w w') := by
  have hB := below_alloc' (Below.refl w.heap.size w) (.cells #[.int .i64 5, .int .i64 x, .int .i64 y, .int .i64 z] 36)
  have hX := heap_alloc_new w (.cells #[.int .i64 5, .int .i64 x, .int .i64 y, .int .i64 z] 36)
  have HX := Lib.hid hX
  have HB := Lib.hid hB
  have HJ1 := Lib.hid (hj.below hB)
  have hjl := hj.box.lt
  have hmlw := hj.map.lt
  clear hX hB hj
  go_enter Tryz.func107, Tryz.ntmps107
  go_upto_region 1 with fail
  generalize w.alloc (.cells #[.int .i64 5, .int .i64 x, .int .i64 y, .int .i64 z] 36) = w1 at *
  have hlk := HJ1.out.map.lookA h1 h2 w1.drew rfl
  have hml := HJ1.out.map.lt
  have hlk2 := fun o => HJ1.out.map.lookA h1 h2 ((w1.alloc o).drew) (Below.heap_alloc w1 o mb hml)
  obtain ⟨xi, hxi⟩ : ∃ xi, (findI j.items x).getD noIt = xi := ⟨_, rfl⟩
  rw [hxi] at hlk hlk2
  obtain ⟨a1, a2, a3, a4, a5, a6, a7⟩ := xi
  unfold vItem at hlk hlk2
  have HFi : Hid ((findI j.items x).isSome = true → findI j.items x = some ⟨a1, a2, a3, a4, a5, a6, a7⟩) := Lib.hid fun h => by
    cases e : findI j.items x with
    | none => rw [e] at h; cases h
    | some u => rw [e] at hxi; exact congrArg some hxi
  have HFn : Hid ((findI j.items x).isSome = false → findI j.items x = none) := Lib.hid fun h => by
    cases e : findI j.items x with
    | none => rfl
    | some u => rw [e] at h; cases h
  generalize (findI j.items x).isSome = ok at *
  dsimp only at hlk hlk2
  have y2 := HJ1.out.box.map
  have n1 := (blk_cell (i := 1) HX.out).trans rfl
  clear hxi
  go_region_held3 (fun W => W.cell? ⟨jb, 2, none⟩ = some (.map (some mb)) ∧ W.cell? ⟨w.heap.size, 1, none⟩ = some (.int .i64 x)) (first | exact ⟨y2, n1⟩ | exact ⟨cell_alloc y2 _, cell_alloc n1 _⟩) (fail)
  all_goals
    have hb2 := below_alloc' (Below.refl w1.heap.size w1) (.cells #[.int .i64 a1, .int .i64 a2, .int .i64 a3, .int .i64 a4, .int .i64 a5, .int .i64 a6, .bool a7] 67)
    have HJ2 : Hid (JAt ((w1.alloc (.cells #[.int .i64 a1, .int .i64 a2, .int .i64 a3, .int .i64 a4, .int .i64 a5, .int .i64 a6, .bool a7] 67)).drew) jb mb n j) := Lib.hid (HJ1.out.below hb2.drew)
    have HX2 : Hid (((w1.alloc (.cells #[.int .i64 a1, .int .i64 a2, .int .i64 a3, .int .i64 a4, .int .i64 a5, .int .i64 a6, .bool a7] 67)).drew).heap[w.heap.size]? = some (.cells #[.int .i64 5, .int .i64 x, .int .i64 y, .int .i64 z] 36 (0, 0))) := Lib.hid (blk_alloc HX.out _)
    have HB2 : Hid (Below w.heap.size w ((w1.alloc (.cells #[.int .i64 a1, .int .i64 a2, .int .i64 a3, .int .i64 a4, .int .i64 a5, .int .i64 a6, .bool a7] 67)).drew)) := Lib.hid (below_alloc' HB.out _).drew
    have HF2 : Hid (((w1.alloc (.cells #[.int .i64 a1, .int .i64 a2, .int .i64 a3, .int .i64 a4, .int .i64 a5, .int .i64 a6, .bool a7] 67)).drew).heap[w1.heap.size]? = some (.cells #[.int .i64 a1, .int .i64 a2, .int .i64 a3, .int .i64 a4, .int .i64 a5, .int .i64 a6, .bool a7] 67 (0, 0))) := Lib.hid (heap_alloc_new w1 _)
    have HS1 : Hid (w.heap.size < w1.heap.size) := Lib.hid (blk_lt HX.out)
    clear hb2 hlk hlk2 y2 n1
    generalize (w1.alloc (.cells #[.int .i64 a1, .int .i64 a2, .int .i64 a3, .int .i64 a4, .int .i64 a5, .int .i64 a6, .bool a7] 67)).drew = w2 at *
    generalize w1.heap.size = fb at *
    have l0 := (blk_cell (i := 0) HX2.out).trans rfl
    have f0 := (blk_cell (i := 0) HF2.out).trans rfl
    have f1 := (blk_cell (i := 1) HF2.out).trans rfl
    have f2 := (blk_cell (i := 2) HF2.out).trans rfl
    have f3 := (blk_cell (i := 3) HF2.out).trans rfl
    have f4 := (blk_cell (i := 4) HF2.out).trans rfl
    have f5 := (blk_cell (i := 5) HF2.out).trans rfl
    have f6 := (blk_cell (i := 6) HF2.out).trans rfl
    have hkc := KeepC.of_below (x := jb) (y := mb) HB2.out (Nat.le_refl _)
    have HK := Lib.hid hkc
    clear hkc
    have HWh := Lib.hid (whole_any ⟨a1, a2, a3, a4, a5, a6, a7⟩ ok w2)
    unfold vItem at HWh
    go_wp2_with fail
    refine HWh.out.mono ?_
    rintro _ w3 ⟨v, rfl, rfl, hB3⟩
    clear HWh f0 f1 f2 f3 f4 f5 f6 l0
    have HJ3 := Lib.hid (HJ2.out.below hB3)
    have HX3 := Lib.hid (blk_below hB3 HX2.out)
    have HF3 := Lib.hid (blk_below hB3 HF2.out)
    have HK3 := Lib.hid (HK.out.trans (KeepC.of_below hB3 HK.out.size))
    clear hB3 HJ2 HX2 HF2 HB2 HK HJ1 HX HB
    by_cases hw : wholeV ⟨a1, a2, a3, a4, a5, a6, a7⟩ ok = 0
    · have hok : ok = true := by
        cases ok with
        | false => simp [wholeV] at hw
        | true => rfl
      have hcr : a7 = false := by
        rw [hok] at hw
        cases a7 with
        | true => simp [wholeV] at hw
        | false => rfl
      have hfi := HFi.out hok
      have ha1 : a1 = x := findI_num hfi
      subst ha1
      have HV : Hid (doV j (5, a1, y, z) = (⟨j.day, j.opn, putI j.items a1 fun y => { y with cracked := true }⟩, 0)) := Lib.hid (by unfold doV; rw [if_neg (by dsimp only; omega), if_neg (by dsimp only; omega), if_neg (by dsimp only; omega), if_neg (by dsimp only; omega), if_pos rfl]; dsimp only; rw [hfi]; dsimp only; rw [hcr]; rfl)
      have HFp : Hid (∀ k, findI (putI j.items a1 fun y => { y with cracked := true }) k = if k = a1 then some ⟨a1, a2, a3, a4, a5, a6, true⟩ else findI j.items k) := Lib.hid fun k => by
        rw [findI_put (f := fun y : It => { y with cracked := true }) (fun _ => rfl), hfi]; rfl
      have HKp : Hid (∀ y, (y = a1 ∨ ∃ u ∈ j.items, u.num = y) → ∃ u ∈ putI j.items a1 (fun y => { y with cracked := true }), u.num = y) := Lib.hid fun y hy => by
        have hx : ∃ u ∈ j.items, u.num = y := by
          rcases hy with rfl | h
          · exact ⟨_, (findI_some hfi).1, rfl⟩
          · exact h
        obtain ⟨u, hu, e⟩ := hx
        refine ⟨_, mem_putI.2 ⟨u, hu, rfl⟩, ?_⟩
        split <;> exact e
      have HRm : Hid (∀ b : Int, room (putI j.items a1 fun y => { y with cracked := true }) b = room j.items b) := Lib.hid fun b => room_put (f := fun y : It => { y with cracked := true }) (fun _ => rfl) b
      rw [hw]
      subst hcr
      have hs1 := HS1.out
      have hffr : w3.frozen? ⟨fb, 6, none⟩ = false := blk_frozen (i := 6) HF3.out
      have f6 := (blk_cell (i := 6) HF3.out).trans rfl
      have HF4 : Hid ((w3.setCell ⟨fb, 6, none⟩ (.bool true)).heap[fb]? = some (.cells #[.int .i64 a1, .int .i64 a2, .int .i64 a3, .int .i64 a4, .int .i64 a5, .int .i64 a6, .bool true] 67 (0, 0))) := Lib.hid (blk_set HF3.out (i := 6) (.bool true))
      have HX4 : Hid ((w3.setCell ⟨fb, 6, none⟩ (.bool true)).heap[w.heap.size]? = some (.cells #[.int .i64 5, .int .i64 a1, .int .i64 y, .int .i64 z] 36 (0, 0))) := Lib.hid ((Below.heap_setCell w3 ⟨fb, 6, none⟩ _ w.heap.size (by show w.heap.size ≠ fb; omega)).trans HX3.out)
      have HJ4 : Hid (JAt (w3.setCell ⟨fb, 6, none⟩ (.bool true)) jb mb n j) := Lib.hid (HJ3.out.same (Below.heap_setCell w3 ⟨fb, 6, none⟩ _ jb (by show jb ≠ fb; omega)) (Below.heap_setCell w3 ⟨fb, 6, none⟩ _ mb (by show mb ≠ fb; omega)))
      have HK4 := Lib.hid (HK3.out.set (p := ⟨fb, 6, none⟩) (.inr (.inr (by show w.heap.size ≤ fb; omega))) (.bool true))
      clear HF3 HX3 HJ3 HK3 hw hok hfi HFi HFn
      go_upto_region 30 with fail
      clear f6 hffr
      generalize w3.setCell ⟨fb, 6, none⟩ (.bool true) = w4 at *
      obtain ⟨w5, hrun, hM5, hg5⟩ := (show MapJ w4.drew mb n j.items from HJ4.out.map.kept rfl).upd ⟨a1, a2, a3, a4, a5, a6, true⟩ h1 h2 hn _ HFp.out HKp.out
      unfold vItem at hrun
      dsimp only at hrun
      have y2 := HJ4.out.box.map
      have n1 := (blk_cell (i := 1) HX4.out).trans rfl
      have c0 := (blk_cell (i := 0) HF4.out).trans rfl
      have c1 := (blk_cell (i := 1) HF4.out).trans rfl
      have c2 := (blk_cell (i := 2) HF4.out).trans rfl
      have c3 := (blk_cell (i := 3) HF4.out).trans rfl
      have c4 := (blk_cell (i := 4) HF4.out).trans rfl
      have c5 := (blk_cell (i := 5) HF4.out).trans rfl
      have c6 := (blk_cell (i := 6) HF4.out).trans rfl
      have hls := blk_lt HF4.out
      have hne := HJ4.out.ne
      have ej : w5.heap[jb]? = w4.heap[jb]? := hg5.block jb (by show jb < w4.heap.size; omega) (fun e => hne (by injection e with e; exact e.symm))
      have ex : w5.heap[w.heap.size]? = w4.heap[w.heap.size]? := hg5.block _ (by show w.heap.size < w4.heap.size; omega) (fun e => by injection e with e; omega)
      have ef : w5.heap[fb]? = w4.heap[fb]? := hg5.block fb hls (fun e => by injection e with e; omega)
      have y2' := (World.cell?_of_block (a := ⟨jb, 2, none⟩) ej).trans y2
      have n1' := (World.cell?_of_block (a := ⟨w.heap.size, 1, none⟩) ex).trans n1
      have c0' := (World.cell?_of_block (a := ⟨fb, 0, none⟩) ef).trans c0
      have c1' := (World.cell?_of_block (a := ⟨fb, 1, none⟩) ef).trans c1
      have c2' := (World.cell?_of_block (a := ⟨fb, 2, none⟩) ef).trans c2
      have c3' := (World.cell?_of_block (a := ⟨fb, 3, none⟩) ef).trans c3
      have c4' := (World.cell?_of_block (a := ⟨fb, 4, none⟩) ef).trans c4
      have c5' := (World.cell?_of_block (a := ⟨fb, 5, none⟩) ef).trans c5
      have c6' := (World.cell?_of_block (a := ⟨fb, 6, none⟩) ef).trans c6
      have HJ5 : Hid (JAt w5 jb mb (n + 1) ⟨j.day, j.opn, putI j.items a1 fun y => { y with cracked := true }⟩) := Lib.hid (by
        refine ⟨?_, hM5, hne⟩
        have e : (fun b : Nat => ((room (putI j.items a1 fun y => { y with cracked := true }) (b : Int) : Nat) : Int)) = fun b : Nat => ((room j.items (b : Int) : Nat) : Int) := funext fun b => by rw [HRm.out]
        show JBox w5 jb mb j.day j.opn (fun b : Nat => ((room (putI j.items a1 fun y => { y with cracked := true }) (b : Int) : Nat) : Int))
        rw [e]
        exact HJ4.out.box.same ej)
      have HK5 := Lib.hid (HK4.out.drew.grown hg5 (by show _ ≤ w4.heap.size; omega) (fun r e => .inr (.inl (by injection e with e; exact e.symm))))
      clear hM5 hg5 ej ex ef hne
      go_region_held3 (fun W => W.cell? ⟨jb, 2, none⟩ = some (.map (some mb)) ∧ W.cell? ⟨w.heap.size, 1, none⟩ = some (.int .i64 a1) ∧ W.cell? ⟨fb, 0, none⟩ = some (.int .i64 a1) ∧ W.cell? ⟨fb, 1, none⟩ = some (.int .i64 a2) ∧ W.cell? ⟨fb, 2, none⟩ = some (.int .i64 a3) ∧ W.cell? ⟨fb, 3, none⟩ = some (.int .i64 a4) ∧ W.cell? ⟨fb, 4, none⟩ = some (.int .i64 a5) ∧ W.cell? ⟨fb, 5, none⟩ = some (.int .i64 a6) ∧ W.cell? ⟨fb, 6, none⟩ = some (.bool true)) (first | exact ⟨y2, n1, c0, c1, c2, c3, c4, c5, c6⟩ | exact ⟨y2', n1', c0', c1', c2', c3', c4', c5', c6'⟩) (fail)
      all_goals
        clear y2 n1 c0 c1 c2 c3 c4 c5 c6 y2' n1' c0' c1' c2' c3' c4' c5' c6' hrun
        go_wp2
        go_ret
        exact Ret.mk ⟨by rw [HV.out]; rfl, ⟨n + 1, Nat.le_refl _, by rw [HV.out]; exact HJ5.out⟩, HK5.out⟩
    · have HV : Hid (doV j (5, x, y, z) = (j, wholeV ⟨a1, a2, a3, a4, a5, a6, a7⟩ ok)) := Lib.hid (by
        unfold doV
        rw [if_neg (by dsimp only; omega), if_neg (by dsimp only; omega), if_neg (by dsimp only; omega), if_neg (by dsimp only; omega), if_pos rfl]
        dsimp only
        cases ok with
        | false => rw [HFn.out rfl]; rfl
        | true =>
          rw [HFi.out rfl]
          cases a7 with
          | false => exact absurd rfl hw
          | true => rfl)
      generalize wholeV ⟨a1, a2, a3, a4, a5, a6, a7⟩ ok = e at *
      have t1 : (e != 0) = true := by simpa using hw
      have t2 : (e == 0) = false := by simpa using hw
      clear hw HFi HFn
      go_wp2
      go_ret
      exact Ret.mk ⟨by rw [HV.out]; rfl, ⟨n, by omega, by rw [HV.out]; exact HJ3.out⟩, HK3.out⟩
end Go.Proofs.YtkpmmgeffbhngaaGreatDoor
namespace Go.Proofs.YtkpmmgeffbhngaaGreatDoor
open Go.RowKit Go.Shelf Prot Go.Lib
open Go.Sort (HoldsK get_flatK size_flatK)
theorem holds_own {w : World} {base g cap : Nat} {l : List It} (h : w.ownsRow base 67 7 (.slice (some ⟨g, 0, none⟩) l.length cap) l.length (l.flatMap encIt)) : HoldsK encIt 7 w g 0 l.toArray := by
  have hI : ItemsAt w (some ⟨g, 0, none⟩) l := RowsAt.of_own encIt_len h
  intro j hj
  rw [size_flatK] at hj
  refine ⟨?_, h.frozenAt _⟩
  rw [get_flatK _ _ _ _ hj]
  have hi : j / 7 < l.length := by have : l.toArray.size = l.length := by simp
                                   omega
  have hc : j % 7 < 7 := Nat.mod_lt _ (by omega)
  obtain ⟨b, off, e, hcell⟩ := hI (j / 7) hi
  injection e with e; injection e with e1 e2
  subst e1; subst e2
  have hu : j % 7 < (encIt l[j / 7]).length := by rw [encIt_len]; exact hc
  have h2 := hcell (j % 7) _ (List.getElem?_eq_getElem hu)
  rw [show (0 : Nat) + j / 7 * 7 + j % 7 = 0 + j by omega] at h2
  rw [h2, getElem!_pos l.toArray (j / 7) (by simpa using hi)]
  rw [show l.toArray[j / 7]'(by simpa using hi) = l[j / 7] from by simp]
  rw [getElem!_pos (encIt l[j / 7]) (j % 7) hu]
  first | done | rfl
/-- the sort of ReadList at a row of its own -/
theorem sortF_own {w : World} {base cap : Nat} {g : Nat} {l : List It} (h : w.ownsRow base 67 7 (.slice (some ⟨g, 0, none⟩) l.length cap) l.length (l.flatMap encIt)) (hg : g < w.heap.size) (hn : l.length ≤ 100000) :
    Calls Tryz.prog 86 #[.slice (some ⟨g, 0, none⟩) l.length cap, .func (.func 87) #[] #[]] w fun e w' => e = .returned (.tuple #[]) ∧ ∃ d : List It, d.Perm l ∧ d.Pairwise (fun a b => a.num ≤ b.num) ∧ ItemsAt w' (some ⟨g, 0, none⟩) d ∧ w.heap.size ≤ w'.heap.size ∧ (∀ b, b < w.heap.size → b ≠ g → w'.heap[b]? = w.heap[b]?) ∧ (∀ N, N ≤ g → Below N w w') := by
  have hH := holds_own h
  refine (sortF_any g 0 cap l w hH hg hn).mono ?_
  rintro e w' ⟨rfl, d, n, os, hp, hs, rfl⟩
  exact ⟨rfl, d.toList, hp, hs, sorted_items w g 0 n l d os hH hg hp, sorted_size w g 0 n d os, fun b hb hne => sorted_block w g 0 n d os b hb hne, fun N hN => sorted_below w g 0 n d os hN (by omega)⟩
end Go.Proofs.YtkpmmgeffbhngaaGreatDoor
namespace Go.Proofs.YtkpmmgeffbhngaaGreatDoor
open Go.RowKit Go.Shelf Prot Go.Lib
theorem sortF_row {w : World} {base c : Nat} {A : Option Addr} {l : List It} (h : w.ownsRow base 67 7 (.slice A l.length c) l.length (l.flatMap encIt)) (hb : base ≤ w.heap.size) (hn : l.length ≤ 100000) :
    Calls Tryz.prog 86 #[.slice A l.length c, .func (.func 87) #[] #[]] w fun e w' => e = .returned (.tuple #[]) ∧ ∃ d : List It, d.Perm l ∧ d.Pairwise (fun a b => a.num ≤ b.num) ∧ ItemsAt w' A d ∧ w.heap.size ≤ w'.heap.size ∧ (∀ b, b < w.heap.size → some b ≠ (Value.slice A l.length c).ownBlock → w'.heap[b]? = w.heap[b]?) ∧ Below base w w' := by
  by_cases h0 : l.length = 0
  · have hl := List.length_eq_zero_iff.1 h0
    subst hl
    refine (AnyF.slices_SortFunc_none Tryz.laysSortF A c _ w).mono ?_
    rintro e w' ⟨rfl, rfl⟩
    exact ⟨rfl, [], List.Perm.refl _, List.Pairwise.nil, RowsAt.nil A, Nat.le_refl _, fun _ _ _ => rfl, Below.refl _ _⟩
  · obtain ⟨g, c', e, -⟩ := h.form (by omega)
    injection e with eA eN eC
    subst eA
    have hg := h.lt g rfl
    refine (sortF_own h hg.2 hn).mono ?_
    rintro e w' ⟨rfl, d, h1, h2, h3, h4, h5, h6⟩
    exact ⟨rfl, d, h1, h2, h3, h4, fun b hb hne => h5 b hb (fun e => hne (by rw [e]; rfl)), h6 base hg.1⟩
end Go.Proofs.YtkpmmgeffbhngaaGreatDoor
