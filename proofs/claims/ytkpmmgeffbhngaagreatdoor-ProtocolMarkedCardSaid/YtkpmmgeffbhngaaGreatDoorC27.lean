/- What the laws of the chapter rest on, part 27. -/
import Derived.Test.YtkpmmgeffbhngaaGreatDoorC18
set_option linter.unusedSimpArgs false
set_option linter.unusedVariables false
set_option linter.unnecessarySimpa false
namespace Prot
end Prot
namespace Go.Shelf
end Go.Shelf
namespace Go.Maps
end Go.Maps
namespace Go.Proofs.YtkpmmgeffbhngaaGreatDoor
open Go.RowKit Go.Shelf Prot Go.Lib Go.Maps
theorem findI_snoc {l : List It} {x : It} (h : findI l x.num = none) (k : Int) : findI (l ++ [x]) k = if k = x.num then some x else findI l k := by
  unfold findI at h ⊢
  rw [List.find?_append]
  by_cases e : k = x.num
  · rw [if_pos e, e, h]; simp
  · rw [if_neg e]
    have : [x].find? (fun y => decide (y.num = k)) = none := by simp [Ne.symm e]
    rw [this]; simp
theorem room_snoc (l : List It) (x : It) (b : Int) : room (l ++ [x]) b = room l b + if x.box = b then 1 else 0 := by
  unfold room
  rw [List.filter_append, List.length_append]
  congr 1
  by_cases e : x.box = b <;> simp [e]
set_option maxRecDepth 100000 in
set_option maxHeartbeats 2000000 in
theorem lay_any (jb mb n : Nat) (j : Jn) (x : It) (w : World) (hj : JAt w jb mb n j) (h1 : -9223372036854775808 ≤ x.num) (h2 : x.num ≤ 9223372036854775807) (hb0 : 0 ≤ x.box) (hb1 : x.box < 1000) (hf : findI j.items x.num = none) (hn : n ≤ 1000000) (hr : room j.items x.box ≤ 1000) :
    Calls Tryz.prog 134 #[.pointer (some ⟨jb, 0, none⟩), vItem x] w (Ret fun _ w' => JAt w' jb mb (n + 1) ⟨j.day, j.opn, j.items ++ [x]⟩ ∧ KeepC w.heap.size jb mb w w') := by
  have hB := below_alloc' (Below.refl w.heap.size w) (.cells #[.int .i64 x.num, .int .i64 x.box, .int .i64 x.day, .int .i64 x.voice, .int .i64 x.turns, .int .i64 x.src, .bool x.cracked] 67)
  have hX := heap_alloc_new w (.cells #[.int .i64 x.num, .int .i64 x.box, .int .i64 x.day, .int .i64 x.voice, .int .i64 x.turns, .int .i64 x.src, .bool x.cracked] 67)
  have HX := Lib.hid hX
  have HJ1 := Lib.hid (hj.below hB)
  have HB := Lib.hid hB
  have hlt := hj.box.lt
  have hml := hj.map.lt
  have hne := hj.ne
  unfold vItem
  clear hX hB hj
  go_enter Tryz.func134, Tryz.ntmps134
  go_upto_region 1 with fail
  generalize w.alloc (.cells #[.int .i64 x.num, .int .i64 x.box, .int .i64 x.day, .int .i64 x.voice, .int .i64 x.turns, .int .i64 x.src, .bool x.cracked] 67) = w1 at *
  obtain ⟨w2, hrun, hM2, hg2⟩ := (show MapJ w1.drew mb n j.items from HJ1.out.map).upd x h1 h2 hn (j.items ++ [x]) (findI_snoc hf) (fun y hy => by
    rcases hy with rfl | ⟨u, hu, rfl⟩
    · exact ⟨x, by simp, rfl⟩
    · exact ⟨u, by simp [hu], rfl⟩)
  unfold vItem at hrun
  have y2 := HJ1.out.box.map
  have n0 := (blk_cell (i := 0) HX.out).trans rfl
  have n1 := (blk_cell (i := 1) HX.out).trans rfl
  have n2 := (blk_cell (i := 2) HX.out).trans rfl
  have n3 := (blk_cell (i := 3) HX.out).trans rfl
  have n4 := (blk_cell (i := 4) HX.out).trans rfl
  have n5 := (blk_cell (i := 5) HX.out).trans rfl
  have n6 := (blk_cell (i := 6) HX.out).trans rfl
  have HM2 := Lib.hid hM2
  have hw1 : w.heap.size < w1.heap.size := blk_lt HX.out
  have ebj : w2.heap[jb]? = w1.heap[jb]? := hg2.block jb (by show jb < w1.heap.size; omega) (fun e => hne (by injection e with e; exact e.symm))
  have ebx : w2.heap[w.heap.size]? = w1.heap[w.heap.size]? := hg2.block _ hw1 (fun e => by injection e with e; omega)
  have HJ2 : Hid (JBox w2 jb mb j.day j.opn (fun b => (room j.items (b : Nat) : Nat))) := Lib.hid (HJ1.out.box.same ebj)
  have HX2 := Lib.hid (ebx.trans HX.out)
  have HK2 : Hid (KeepC w.heap.size jb mb w w2) := Lib.hid (KeepC.grown (KeepC.drew (KeepC.of_below HB.out (Nat.le_refl _))) hg2 (by show _ ≤ w1.heap.size; omega) (fun r e => .inr (.inl (by injection e with e; exact e.symm))))
  clear hM2 hg2 hf ebj ebx
  obtain ⟨bo, hbo⟩ : ∃ bo : Nat, x.box = (bo : Int) := ⟨x.box.toNat, by omega⟩
  have HRm : Hid (∀ b : Nat, ((room (j.items ++ [x]) (b : Int) : Nat) : Int) = if b = bo then ((room j.items (bo : Int) : Nat) : Int) + 1 else ((room j.items (b : Int) : Nat) : Int)) := Lib.hid fun b => by
    rw [room_snoc, hbo]
    by_cases e : b = bo
    · rw [if_pos e, if_pos (by omega), e]; push_cast; rfl
    · rw [if_neg e, if_neg (by omega)]; simp
  have m1 := HJ2.out.sh bo (by omega)
  have m2 := HJ2.out.map
  have l1 := (blk_cell (i := 1) HX2.out).trans rfl
  have k0 := (blk_cell (i := 0) HX2.out).trans rfl
  have k2 := (blk_cell (i := 2) HX2.out).trans rfl
  have k3 := (blk_cell (i := 3) HX2.out).trans rfl
  have k4 := (blk_cell (i := 4) HX2.out).trans rfl
  have k5 := (blk_cell (i := 5) HX2.out).trans rfl
  have k6 := (blk_cell (i := 6) HX2.out).trans rfl
  obtain ⟨a1, a2, a3, a4, a5, a6, a7⟩ := x
  dsimp only at *
  subst hbo
  go_region_held3 (fun W => W.cell? ⟨jb, 2, none⟩ = some (.map (some mb)) ∧ W.cell? ⟨w.heap.size, 0, none⟩ = some (.int .i64 a1) ∧ W.cell? ⟨w.heap.size, 1, none⟩ = some (.int .i64 (bo : Int)) ∧ W.cell? ⟨w.heap.size, 2, none⟩ = some (.int .i64 a3) ∧ W.cell? ⟨w.heap.size, 3, none⟩ = some (.int .i64 a4) ∧ W.cell? ⟨w.heap.size, 4, none⟩ = some (.int .i64 a5) ∧ W.cell? ⟨w.heap.size, 5, none⟩ = some (.int .i64 a6) ∧ W.cell? ⟨w.heap.size, 6, none⟩ = some (.bool a7)) (first | exact ⟨y2, n0, n1, n2, n3, n4, n5, n6⟩ | exact ⟨m2, k0, l1, k2, k3, k4, k5, k6⟩) (fail)
  obtain ⟨r, hrr⟩ : ∃ r, room j.items (bo : Int) = r := ⟨_, rfl⟩
  rw [hrr] at HRm hr m1
  have o0 : (0 : Int) ≤ (bo : Int) := by omega
  have o1 : (bo : Int) < 1000 := by omega
  have f1 := HJ2.out.frozen (3 + bo)
  have e1 : IntKind.i64.wrap ((r : Int) + 1) = (r : Int) + 1 := IntWalk.i64_in _ (by omega)
  clear y2 n0 n1 n2 n3 n4 n5 n6 hrun k0 k2 k3 k4 k5 k6 m2
  go_upto_region 2 with fail
  go_region_law (fail)
  all_goals
    have hset := HJ2.out.setSh (b := bo) (by omega) ((r : Int) + 1)
    have hmap : MapJ (w2.setCell ⟨jb, 3 + bo, none⟩ (.int .i64 ((r : Int) + 1))) mb (n + 1) (j.items ++ [⟨a1, (bo : Int), a3, a4, a5, a6, a7⟩]) := HM2.out.kept (Below.heap_setCell w2 ⟨jb, 3 + bo, none⟩ _ mb hne)
    have hkc := HK2.out.set (p := ⟨jb, 3 + bo, none⟩) (.inl rfl) (.int .i64 ((r : Int) + 1))
    refine bodyPost_ret (results_none rfl _ _ _) rfl ?_
    refine Ret.mk ⟨⟨?_, hmap, hne⟩, hkc.drew⟩
    have e : (fun b : Nat => ((room (j.items ++ [(⟨a1, (bo : Int), a3, a4, a5, a6, a7⟩ : It)]) (b : Int) : Nat) : Int)) = fun k => if k = bo then (r : Int) + 1 else ((room j.items (k : Int) : Nat) : Int) := funext fun b => HRm.out b
    show JBox _ jb mb j.day j.opn _
    rw [e]
    exact hset.same rfl
end Go.Proofs.YtkpmmgeffbhngaaGreatDoor
namespace Prot
open Go.Lib
def boxIn (b : Int) : Prop := 0 ≤ b ∧ b ≤ 999
def RdOk (s : RSt) : Prop := boxIn s.1 ∧ ∀ x ∈ s.2, boxIn x.box
theorem RdOk.start : RdOk (0, []) := ⟨⟨by decide, by decide⟩, fun x hx => by cases hx⟩
/-- what a line is to ReadList -/
inductive LineIs (s : RSt) (l : List UInt8) : Prop
  | box (v : List UInt8) : splitSp l = [boxWord, v] → numP v ≤ 999 → readLine waysP s l = some (max 0 (numP v), s.2) → LineIs s l
  | item (m a b c d e : List UInt8) : splitSp l = [m, a, b, c, d, e] → readLine waysP s l = some (s.1, s.2 ++ [⟨(cmV m).1, s.1, numP a, numP b, numP c, numP d, decide (e = [49])⟩]) → LineIs s l
  | two (w v : List UInt8) : splitSp l = [w, v] → (w ≠ boxWord ∨ w = boxWord ∧ 999 < numP v) → readLine waysP s l = none → LineIs s l
  | bad : (splitSp l).length ≠ 2 → (splitSp l).length ≠ 6 → readLine waysP s l = none → LineIs s l
theorem line_is (s : RSt) (l : List UInt8) : LineIs s l := by
  have hr : readLine waysP s l = match splitSp l with
    | [w, v] => if w = boxWord then (waysP.head v).map fun b => (b, s.2) else none
    | [m, a, b, c, d, e] => match waysP.mark m with
      | none => none
      | some n => (waysP.item n (waysP.num a) (waysP.num b) (waysP.num c) (waysP.num d) e).map fun k => (s.1, s.2 ++ [⟨n, s.1, waysP.num a, waysP.num b, waysP.num c, waysP.num d, k⟩])
    | _ => none := rfl
  match h : splitSp l with
  | [w, v] =>
    rw [h] at hr
    dsimp only at hr
    by_cases hw : w = boxWord
    · rw [if_pos hw] at hr
      by_cases hv : numP v ≤ 999
      · refine .box v (by rw [h, hw]) hv ?_
        rw [hr]
        show ((if numP v ≤ 999 then some (max 0 (numP v)) else none).map _) = _
        rw [if_pos hv]; rfl
      · refine .two w v h (.inr ⟨hw, by omega⟩) ?_
        rw [hr]
        show ((if numP v ≤ 999 then some (max 0 (numP v)) else none).map _) = _
        rw [if_neg hv]; rfl
    · rw [if_neg hw] at hr
      exact .two w v h (.inl hw) hr
  | [m, a, b, c, d, e] =>
    rw [h] at hr
    exact .item m a b c d e h hr
  | [] => rw [h] at hr; exact .bad (by rw [h]; simp) (by rw [h]; simp) hr
  | [_] => rw [h] at hr; exact .bad (by rw [h]; simp) (by rw [h]; simp) hr
  | [_, _, _] => rw [h] at hr; exact .bad (by rw [h]; simp) (by rw [h]; simp) hr
  | [_, _, _, _] => rw [h] at hr; exact .bad (by rw [h]; simp) (by rw [h]; simp) hr
  | [_, _, _, _, _] => rw [h] at hr; exact .bad (by rw [h]; simp) (by rw [h]; simp) hr
  | _ :: _ :: _ :: _ :: _ :: _ :: _ :: _ => rw [h] at hr; exact .bad (by rw [h]; simp) (by rw [h]; simp) hr
theorem readGo_snoc (ls : List (List UInt8)) (l : List UInt8) (s s2 : RSt) (h : readGo waysP ls s = some s2) : readGo waysP (ls ++ [l]) s = readLine waysP s2 l := by
  rw [readGo_append, h]
  show (match readLine waysP s2 l with | none => none | some s' => readGo waysP [] s') = _
  cases readLine waysP s2 l <;> rfl
theorem readGo_more (ls ms : List (List UInt8)) (s : RSt) (h : readGo waysP ls s = none) : readGo waysP (ls ++ ms) s = none := by
  rw [readGo_append, h]; rfl
/-- any sorted order of what was read will do -/
theorem read_sorted {t : List UInt8} {xs d : List It} (hp : d.Perm xs) (hs : d.Pairwise fun a b => a.num ≤ b.num) :
    (if itemsErr (toldL xs) = 0 ∧ shelfT (toldL xs) = t then (toldL xs, (0 : Int)) else ([], 8)) = if itemsErr d = 0 ∧ shelfT d = t then (d, (0 : Int)) else ([], 8) := by
  have key : Rise d → toldL xs = d := fun hr => by
    have hn : (d.map It.num).Nodup := by
      rw [List.Nodup, List.pairwise_map]
      exact hr.imp fun k e => by omega
    exact rise_uniq (told_rise ((hp.map _).nodup_iff.1 hn)) hr fun x => by rw [(told_perm xs).mem_iff, hp.mem_iff]
  by_cases h : itemsErr d = 0
  · rw [key (itemsErr_iff.1 h).rise]
  · have h1 : ¬ (itemsErr (toldL xs) = 0 ∧ shelfT (toldL xs) = t) := fun k => by
      have hr := (itemsErr_iff.1 k.1).rise
      have hn : (xs.map It.num).Nodup := by
        refine ((told_perm xs).map _).nodup_iff.1 ?_
        rw [List.Nodup, List.pairwise_map]
        exact hr.imp fun k e => by omega
      have hd : Rise d := by
        have h1 : (d.map It.num).Nodup := (hp.map _).nodup_iff.2 hn
        rw [List.Nodup, List.pairwise_map] at h1
        exact (hs.and h1).imp fun k => by have k1 := k.1; have k2 := k.2; omega
      rw [key hd] at k
      exact h k.1
    have h2 : ¬ (itemsErr d = 0 ∧ shelfT d = t) := fun k => h k.1
    rw [if_neg h1, if_neg h2]
end Prot
