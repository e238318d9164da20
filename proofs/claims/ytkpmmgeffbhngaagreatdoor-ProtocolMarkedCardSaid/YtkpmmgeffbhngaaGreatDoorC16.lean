/- What the laws of the chapter rest on, part 16. -/
import Derived.Test.YtkpmmgeffbhngaaGreatDoorC05
import Derived.Test.YtkpmmgeffbhngaaGreatDoorC13
set_option linter.unusedSimpArgs false
set_option linter.unusedVariables false
set_option linter.unnecessarySimpa false
namespace Prot
end Prot
namespace Go.Shelf
end Go.Shelf
namespace Go.Maps
end Go.Maps
namespace Go.Proofs.YtkpmmgeffbhngaaGreatDoor
open Go.RowKit Go.Shelf Prot Go.Lib Go.Maps
theorem builder_kept {T e : TypeId} {B b : Nat} {bs : List Value} {W W' : World} (h : IsBuilderF T e B b bs W) (hk : ∀ k c t fr, W.heap[k]? = some (.cells c t fr) → (t = e ∨ k = b) → W'.heap[k]? = some (.cells c t fr)) : IsBuilderF T e B b bs W' := by
  have one : ∀ p, BuilderAtF T e B b p bs W → BuilderAtF T e B b p bs W' := fun p h => by
    obtain ⟨hB, v, hb, hown, hne⟩ := h
    refine ⟨hB, v, hk _ _ _ _ hb (.inr rfl), ⟨hown.1, ?_⟩, hne⟩
    rcases hown.2 with hn | ⟨g, cap, cur, fz, hv, hbg, hg, rest⟩
    · exact .inl hn
    · exact .inr ⟨g, cap, cur, fz, hv, hbg, hk _ _ _ _ hg (.inl rfl), rest⟩
  exact h.elim (fun x => .inl (one _ x)) (fun x => .inr (one _ x))
theorem builder_grown {T e : TypeId} {B b : Nat} {bs : List Value} {W W' : World} {row : Option Nat} (h : IsBuilderF T e B b bs W) (hg : W.grownBy W' row) (hr : ∀ r, row = some r → ∃ o : Obj, W.heap[r]? = some o ∧ o.isCells = false) : IsBuilderF T e B b bs W' :=
  builder_kept h fun k c t fr hk _ => (hg.block k (blk_lt hk) (fun q => by
    obtain ⟨o, h1, h2⟩ := hr k q.symm
    rw [hk] at h1; injection h1 with h1; rw [← h1] at h2; cases h2)).trans hk
theorem builder_set {T e : TypeId} {B b x : Nat} {bs : List Value} {W : World} (h : IsBuilderF T e B b bs W) {cs : Array Value} {t : TypeId} {fr : Nat × Nat} (hx : W.heap[x]? = some (.cells cs t fr)) (hne : t ≠ e) (hxb : x ≠ b) (i : Nat) (u : Value) : IsBuilderF T e B b bs (W.setCell ⟨x, i, none⟩ u) :=
  builder_kept h fun k c t2 fr2 hk ho => blk_far hk (p := ⟨x, i, none⟩) (by
    show k ≠ x
    rintro rfl
    rcases ho with ho | ho
    · rw [hx] at hk; injection hk with hk; injection hk with _ h2; exact hne (h2.trans ho)
    · exact hxb ho) u
theorem builder_new (w : World) : IsBuilderF 81 5 w.heap.size w.heap.size [] (w.alloc (.cells #[.pointer none, .slice none 0 0] 81)) :=
  .inl ⟨Nat.le_refl _, _, heap_alloc_new w _, ⟨rfl, .inl ⟨rfl, rfl⟩⟩, by simp [Value.ownBlock]⟩
end Go.Proofs.YtkpmmgeffbhngaaGreatDoor
namespace Go.Proofs.YtkpmmgeffbhngaaGreatDoor
open Go.RowKit Go.Shelf Prot Go.Lib Go.Maps
attribute [local go_sem] Oper.semAt_some
set_option maxRecDepth 100000 in
theorem rows_any (s : ByteArray) (w : World) : Calls Tryz.prog 75 #[.string s] w (Ret fun v w' => v = .func (.func 113) #[] #[.pointer (some ⟨w.heap.size, 0, none⟩)] ∧ w' = w.alloc (.cells #[.string s] 9)) := by
  go_enter Tryz.func75, Tryz.ntmps75
  go_wp2
  go_ret
  exact Ret.mk ⟨rfl, rfl⟩
theorem cut_row {r : List UInt8} (h : r ≠ []) : ∃ l r' b, cut r [10] = (l, r', b) ∧ rowsL r = l :: rowsL r' ∧ r'.length ≤ r.length := by
  by_cases h10 : (10 : UInt8) ∈ r
  · obtain ⟨p, q, rfl, hp⟩ := first_of h10
    exact ⟨p, q, true, cut_hit hp q, rows_cut (fun c hc e => hp (e ▸ hc)), by simp; omega⟩
  · exact ⟨r, [], false, cut_no h10, rows_rest (fun c hc e => h10 (e ▸ hc)) h, by simp⟩
theorem drop_next {α : Type} {L : List α} {k : Nat} {l : α} {R : List α} (h : L.drop k = l :: R) : ∃ hk : k < L.length, L[k] = l ∧ L.drop (k + 1) = R := by
  have hk : k < L.length := by
    have := congrArg List.length h
    rw [List.length_drop, List.length_cons] at this; omega
  have h2 := List.drop_eq_getElem_cons hk
  rw [h2] at h
  injection h with h3 h4
  exact ⟨hk, h3, h4⟩
theorem cut_any (r : List UInt8) (m : Int) (w : World) (hr : r.length ≤ 1000000) (hm : w.cell? ⟨5, 0, none⟩ = some (.int .i64 m)) {l r' : List UInt8} {b : Bool} (hc : cut r [10] = (l, r', b)) :
    Calls Tryz.prog 114 #[.string (bs r), .string ⟨#[10]⟩] w (Ret fun v w' => v = .tuple #[.string (bs l), .string (bs r'), .bool b] ∧ ∃ q, w' = w.drewN q) := by
  have h := Tryz.strings_Cut (bs r) ⟨#[10]⟩ m w (by rw [bs_size]; omega) hm
  rw [bs_list, show (⟨#[10]⟩ : ByteArray).data.toList = [10] from rfl, hc] at h
  refine h.mono ?_
  rintro _ w' ⟨rfl, q, rfl⟩
  exact Ret.mk ⟨rfl, q, rfl⟩
/-- what a loop's body has to leave as it is, for the lines -/
def KeepB (bx : Nat) (A B : World) : Prop := B.heap[bx]? = A.heap[bx]? ∧ ∀ m, A.cell? ⟨5, 0, none⟩ = some (.int .i64 m) → B.cell? ⟨5, 0, none⟩ = some (.int .i64 m)
end Go.Proofs.YtkpmmgeffbhngaaGreatDoor
namespace Go.Proofs.YtkpmmgeffbhngaaGreatDoor
open Go.RowKit Prot
theorem ItOk.ok {x : It} (h : ItOk x) : okI x := by
  have hm : (maxN : Int) = 1099511627776 := rfl
  have := h.num
  unfold okI; omega
theorem hi_uniq : ∀ {a b : List It}, ByHi a → ByHi b → a.Perm b → (∀ x ∈ a, ∀ y ∈ a, keyI x = keyI y → x = y) → a = b
  | [], [], _, _, _, _ => rfl
  | [], y :: b, _, _, h, _ => by have := h.length_eq; simp at this
  | x :: a, [], _, _, h, _ => by have := h.length_eq; simp at this
  | x :: a, y :: b, ha, hb, h, hi => by
    have ha' := List.pairwise_cons.1 ha
    have hb' := List.pairwise_cons.1 hb
    have m1 : x ∈ y :: b := h.subset (by simp)
    have m2 : y ∈ x :: a := h.symm.subset (by simp)
    have k1 : keyI y ≤ keyI x := by
      rcases List.mem_cons.1 m1 with e | m1
      · rw [e]; exact Int.le_refl _
      · exact hb'.1 x m1
    have k2 : keyI x ≤ keyI y := by
      rcases List.mem_cons.1 m2 with e | m2
      · rw [e]; exact Int.le_refl _
      · exact ha'.1 y m2
    have e : x = y := hi x (by simp) y m2 (by omega)
    subst e
    rw [hi_uniq ha'.2 hb'.2 (List.Perm.cons_inv h) (fun u hu v hv => hi u (by simp [hu]) v (by simp [hv]))]
theorem byBox_hi {l : List It} (h : ListOk l) : ByHi (byBox l) := by
  unfold ByHi byBox
  rw [List.pairwise_flatMap]
  have hm : (maxN : Int) = 1099511627776 := rfl
  constructor
  · intro b _
    have h1 : (inBox l b).Pairwise fun x y => x.num < y.num := List.Pairwise.sublist (List.filter_sublist) h.rise
    refine h1.imp_of_mem fun {x y} hx hy hlt => ?_
    have hx1 : x.box = (b : Int) := by simpa using (List.mem_filter.1 hx).2
    have hy1 : y.box = (b : Int) := by simpa using (List.mem_filter.1 hy).2
    unfold keyI; omega
  · refine boxesN_rise.imp fun {b c} hbc x hx y hy => ?_
    have hx1 : x.box = (b : Int) := by simpa using (List.mem_filter.1 hx).2
    have hy1 : y.box = (c : Int) := by simpa using (List.mem_filter.1 hy).2
    have hx2 := (h.ok x (List.mem_filter.1 hx).1).num
    have hy2 := (h.ok y (List.mem_filter.1 hy).1).num
    unfold keyI; omega
theorem sorted_is {l Z : List It} (h : ListOk l) (hp : Z.Perm l) (ho : ByHi Z) : Z = byBox l := by
  have hm : (maxN : Int) = 1099511627776 := rfl
  have hn : (l.map It.num).Nodup := by
    rw [List.Nodup, List.pairwise_map]
    exact h.rise.imp fun k e => by omega
  refine hi_uniq ho (byBox_hi h) (hp.trans (byBox_perm h.ok hn).symm) fun x hx y hy e => ?_
  have hx1 := hp.subset hx
  have hy1 := hp.subset hy
  have a1 := (h.ok x hx1).num; have a2 := (h.ok y hy1).num
  refine once_mem hn hx1 hy1 ?_
  unfold keyI at e; omega
end Go.Proofs.YtkpmmgeffbhngaaGreatDoor
namespace Go.Proofs.YtkpmmgeffbhngaaGreatDoor
open Go.RowKit Go.Shelf Prot Go.Lib
open Go.Sort (grow)
theorem grow2 (w : World) (a b : Obj) (q : Nat) : ((w.alloc a).alloc b).drewN q = grow (w.drewN q) #[a, b] := by
  show (((w.drewN q).alloc a).alloc b) = _
  unfold grow World.alloc
  simp
  apply Array.ext'
  simp
set_option maxRecDepth 100000 in
set_option maxHeartbeats 1000000 in
theorem ReadList1_lays (a b : It) (w : World) : Calls Tryz.prog 87 #[vIt a, vIt b] w (fun e w' => e = .returned (.int .i64 (cmpV a.num b.num)) ∧ ∃ q os, w' = grow (w.drewN q) os) := by
  obtain ⟨a1, a2, a3, a4, a5, a6, a7⟩ := a
  obtain ⟨b1, b2, b3, b4, b5, b6, b7⟩ := b
  unfold vIt
  dsimp only
  have p0 : ((w.alloc (.cells #[.int .i64 a1, .int .i64 a2, .int .i64 a3, .int .i64 a4, .int .i64 a5, .int .i64 a6, .bool a7] 67)).alloc (.cells #[.int .i64 b1, .int .i64 b2, .int .i64 b3, .int .i64 b4, .int .i64 b5, .int .i64 b6, .bool b7] 67)).cell? ⟨w.heap.size, 0, none⟩ = some (.int .i64 a1) := (blk_cell (blk_alloc (heap_alloc_new w _) _)).trans rfl
  have p1 : ((w.alloc (.cells #[.int .i64 a1, .int .i64 a2, .int .i64 a3, .int .i64 a4, .int .i64 a5, .int .i64 a6, .bool a7] 67)).alloc (.cells #[.int .i64 b1, .int .i64 b2, .int .i64 b3, .int .i64 b4, .int .i64 b5, .int .i64 b6, .bool b7] 67)).cell? ⟨w.heap.size + 1, 0, none⟩ = some (.int .i64 b1) := (blk_cell (heap_alloc_at (w.alloc (.cells #[.int .i64 a1, .int .i64 a2, .int .i64 a3, .int .i64 a4, .int .i64 a5, .int .i64 a6, .bool a7] 67)) (.cells #[.int .i64 b1, .int .i64 b2, .int .i64 b3, .int .i64 b4, .int .i64 b5, .int .i64 b6, .bool b7] 67) (by simp))).trans rfl
  have HC := Lib.hid (compare_any a1 b1)
  go_enter Tryz.func87, Tryz.ntmps87
  go_wp2_with fail
  refine (HC.out _).mono ?_
  rintro _ w2 ⟨v, rfl, rfl, q, rfl⟩
  go_wp2
  go_ret
  exact ⟨rfl, q, #[.cells #[.int .i64 a1, .int .i64 a2, .int .i64 a3, .int .i64 a4, .int .i64 a5, .int .i64 a6, .bool a7] 67, .cells #[.int .i64 b1, .int .i64 b2, .int .i64 b3, .int .i64 b4, .int .i64 b5, .int .i64 b6, .bool b7] 67], grow2 _ _ _ _⟩
end Go.Proofs.YtkpmmgeffbhngaaGreatDoor
namespace Go.Proofs.YtkpmmgeffbhngaaGreatDoor
open Go.RowKit Prot Go.Lib Go.Maps
theorem guardIt : Tryz.prog.eqGuardType Tryz.prog.depth 67 = false := by kernel_rfl
theorem it_ext (x y : It) : decide (x = y) = (x.num == y.num && (x.box == y.box && (x.day == y.day && (x.voice == y.voice && (x.turns == y.turns && (x.src == y.src && x.cracked == y.cracked)))))) := by
  cases x; cases y
  simp [Bool.decide_and]
  rfl
theorem run_equalIt (x y : It) (w : World) : (Op.equalIn 10000 67 (vIt x) (vIt y)).run Tryz.prog w = .ok (decide (x = y)) w := by
  rw [it_ext]
  cases x with
  | mk a1 a2 a3 a4 a5 a6 a7 =>
  cases y with
  | mk b1 b2 b3 b4 b5 b6 b7 =>
  have u2 := Tryz.underlying2
  have u4 := Tryz.underlying4
  have a2' := Tryz.isAgg2
  have a4' := Tryz.isAgg4
  have z2 := Tryz.sizeOf2
  have z4 := Tryz.sizeOf4
  have hS : Tryz.prog.underlying 67 = some (.struct (Tryz.prog.fieldsOf 67)) := by kernel_rfl
  have hp : Tryz.prog.stoodInHeld 67 = false := by kernel_rfl
  unfold vIt
  rw [show (10000 : Nat) = 9999 + 1 from rfl, run_equalIn_agg w 9999 67 _ _ hS hp]
  simp only [Program.fieldsOf, Tryz.underlying67]
  go_simp
  by_cases h1 : a1 = b1 <;> by_cases h2 : a2 = b2 <;> by_cases h3 : a3 = b3 <;> by_cases h4 : a4 = b4 <;> by_cases h5 : a5 = b5 <;> by_cases h6 : a6 = b6 <;> by_cases h7 : a7 = b7 <;> simp [h1, h2, h3, h4, h5, h6, h7]
theorem neq_items (x y : It) (w : World) : (binOp .neq 67 (vIt x) (vIt y)).run Tryz.prog w = .ok (.bool (!(decide (x = y)))) w := by
  show (binOp .neq 67 (.agg _) (.agg _)).run Tryz.prog w = _
  rw [run_neq_struct]
  have h := run_equalIt x y w
  unfold vIt at h
  rw [h]; rfl
set_option maxRecDepth 100000 in
set_option maxHeartbeats 1000000 in
theorem items_any (A B : Option Addr) (ca cb : Nat) (l m : List It) (w : World) (hl : ItemsAt w A l) (hm : ItemsAt w B m) (hn : l.length ≤ 1000000) :
    Calls Tryz.prog 36 #[.slice A l.length ca, .slice B m.length cb] w (Ret fun v w' => v = .bool (decide (l = m)) ∧ ∃ q, w' = w.drewN q) := by
  have Hl := Lib.hid hl
  have Hm := Lib.hid hm
  clear hl hm
  by_cases hlen : l.length = m.length
  rotate_left 1
  · have t1 : ((l.length : Int) != (m.length : Int)) = true := by simp; omega
    have HV : Hid (decide (l = m) = false) := Lib.hid (decide_eq_false fun e => hlen (by rw [e]))
    clear hlen
    go_enter Tryz.func36, Tryz.ntmps36
    go_wp2
    go_ret
    exact Ret.mk ⟨by rw [HV.out]; rfl, 0, rfl⟩
  have t1 : ((l.length : Int) != (m.length : Int)) = false := by simp; omega
  have HLn := Lib.hid hlen
  clear hlen
  go_enter Tryz.func36, Tryz.ntmps36
  go_wp2
  go_loopw [5] (fun i wr => ∃ k q : Nat, k ≤ l.length ∧ i = .int .i64 k ∧ wr = w.drewN q ∧ Hid (l.take k = m.take k)) (fun i _ => l.length - (intOf i).toNat)
  case atStart => exact ⟨0, 0, Nat.zero_le _, rfl, rfl, Lib.hid rfl⟩
  case round =>
    obtain ⟨k, q, hk, rfl, rfl, HT⟩ := hrel
    by_cases hkl : k < l.length
    · have hkm : k < m.length := by have := HLn.out; omega
      obtain ⟨b1, o1, rfl, g0, g1, g2, g3, g4, g5, g6⟩ := Hl.out.at_ hkl
      obtain ⟨b2, o2, rfl, h0, h1, h2, h3, h4, h5, h6⟩ := Hm.out.at_ hkm
      have e1 := List.take_succ_eq_append_getElem hkl
      have e2 := List.take_succ_eq_append_getElem hkm
      have t2 : decide ((k : Int) < (l.length : Int)) = true := decide_eq_true (by omega)
      have k0 : (0 : Int) ≤ (k : Int) := by omega
      have k1 : (k : Int) < (l.length : Int) := by omega
      have k2 : (k : Int) < (m.length : Int) := by omega
      by_cases he : l[k] = m[k]
      · have HT2 : Hid (l.take (k + 1) = m.take (k + 1)) := Lib.hid (by rw [e1, e2, HT.out, he])
        have t3 := fun w => neq_items l[k] m[k] w
        unfold vIt at t3
        have hG := guardIt
        simp only [decide_eq_true he, Bool.not_true] at t3
        clear e1 e2 he
        generalize l[k] = x at *
        generalize m[k] = y at *
        go_upto_region 6 with fail
        go_quiet (fail)
        go_wp2
        go_roundw
        case rel => exact ⟨k + 1, _, by omega, by go_num, rfl, HT2⟩
        case measure => simp [intOf]; omega
      · have HV : Hid (decide (l = m) = false) := Lib.hid (decide_eq_false fun e => he (by simp [e]))
        have t3 := fun w => neq_items l[k] m[k] w
        unfold vIt at t3
        have hG := guardIt
        simp only [decide_eq_false he, Bool.not_false] at t3
        clear e1 e2 he
        generalize l[k] = x at *
        generalize m[k] = y at *
        go_upto_region 6 with fail
        go_quiet (fail)
        go_wp2
        go_ret
        exact Ret.mk ⟨by rw [HV.out]; rfl, _, (by first | rfl | exact World.drewN_drewN _ _ _)⟩
    · have HV : Hid (decide (l = m) = true) := Lib.hid (decide_eq_true (by
        have h := HT.out
        rw [List.take_of_length_le (by omega), List.take_of_length_le (by have := HLn.out; omega)] at h
        exact h))
      have t2 : decide ((k : Int) < (l.length : Int)) = false := decide_eq_false (by omega)
      go_wp2
      go_ret
      exact Ret.mk ⟨by rw [HV.out]; rfl, q, rfl⟩
end Go.Proofs.YtkpmmgeffbhngaaGreatDoor
