/- Rows of twelve numbers, loaded, stored and compared; a map of sides that is cleared. join: the walk. Rows that grow: the laws of append for this seat. Visits: what can be come to, there and back. -/
import Derived.Test.YtoogfdicmpkkgaaA19
import Derived.Maps.RangeWalk
import Derived.ChangeKeysEq
import Derived.Carry
import Derived.Deep.MidRow
import Derived.ArgAppend
import Derived.Deep.RegionLawGrows
namespace Go.Proofs.Ytoogfdicmpkkgaa
open Go.RowKit Go.Shelf Go.Maps Match

def rowV (f : Nat → Int) : Array Value := ((List.range 12).map fun i => Value.int .i64 (f i)).toArray
theorem rowV_get (f : Nat → Int) {k : Nat} (hk : k < 12) : (rowV f)[k]? = some (.int .i64 (f k)) := by simp [rowV, hk]
theorem rowV_size (f : Nat → Int) : (rowV f).size = 12 := by simp [rowV]
theorem rowV_one (f : Nat → Int) : (rowV f).all (·.oneCell') = true := all_oneCell_toArray (fun v hv => by
  simp only [List.mem_map] at hv
  obtain ⟨i, _, rfl⟩ := hv
  rfl)
theorem rowV_list (f : Nat → Int) : (rowV f).toList = [.int .i64 (f 0), .int .i64 (f 1), .int .i64 (f 2), .int .i64 (f 3), .int .i64 (f 4), .int .i64 (f 5), .int .i64 (f 6), .int .i64 (f 7), .int .i64 (f 8), .int .i64 (f 9), .int .i64 (f 10), .int .i64 (f 11)] := rfl
theorem info73 : (Try.prog.info? 73).map (·.size) = some 12 := by kernel_rfl
theorem Arr.range {w : World} {b o : Nat} {f : Nat → Int} (h : Arr w b o 12 f) : w.rangeAt b o (rowV f).toList := fun j v hj => by
  have hlt := (List.getElem?_eq_some_iff.1 hj).1
  rw [Array.length_toList, rowV_size] at hlt
  rw [Array.getElem?_toList, rowV_get f hlt] at hj
  injection hj with hj
  subst hj
  exact (h j hlt).1
theorem Arr.there {w : World} {b o : Nat} {f : Nat → Int} (h : Arr w b o 12 f) : w.there b o 12 := fun j hj => ⟨by rw [(h j hj).1]; rfl, (h j hj).2⟩
theorem frozen_setCells (b : Nat) : ∀ (vs : List Value) (o : Nat) (w : World) (p : Addr), (w.setCells b o vs).frozen? p = w.frozen? p
  | [], _, _, _ => rfl
  | v :: vs, o, w, p => (frozen_setCells b vs (o + 1) _ p).trans (frozen_set w _ p v)
theorem Arr.stored {w : World} {b o : Nat} {f : Nat → Int} (h : w.there b o 12) : Arr (w.setCells b o (rowV f).toList) b o 12 f := fun i hi => by
  refine ⟨World.rangeAt_setCells_same w b o (rowV f).toList (by rw [Array.length_toList, rowV_size]; exact h) i _ (by rw [Array.getElem?_toList, rowV_get f hi]), ?_⟩
  rw [frozen_setCells]; exact (h i hi).2
theorem setCells_block {b k : Nat} (hk : k ≠ b) : ∀ (vs : List Value) (o : Nat) (w : World), (w.setCells b o vs).heap[k]? = w.heap[k]?
  | [], _, _ => rfl
  | v :: r, o, w => (setCells_block hk r (o + 1) _).trans (Below.heap_setCell w ⟨b, o, none⟩ v k hk)
theorem setCells_size (b : Nat) : ∀ (vs : List Value) (o : Nat) (w : World), (w.setCells b o vs).heap.size = w.heap.size
  | [], _, _ => rfl
  | v :: r, o, w => (setCells_size b r (o + 1) _).trans (by simp)
theorem KeepJ.setRow {n jb mb : Nat} {X : World} : ∀ {Y : World} (_ : KeepJ n jb mb X Y) (vs : List Value) (r : Nat), KeepJ n jb mb X (Y.setCells jb (28 + r) vs)
  | _, h, [], _ => h
  | _, h, v :: vs, r => KeepJ.setRow (h.setP r v) vs (r + 1)
theorem grown_setCells {w : World} {b : Nat} (vs : List Value) (o : Nat) : w.grownBy (w.setCells b o vs) (some b) := by
  induction vs generalizing w o with
  | nil => exact ⟨rfl, rfl, rfl, Nat.le_refl _, fun _ _ _ => rfl⟩
  | cons v vs ih =>
    have h := ih (w := w.setCell ⟨b, o, none⟩ v) (o + 1)
    exact ⟨h.os, h.tape, h.output, by have h1 := h.size; rw [World.size_setCell] at h1; exact h1, fun i hi hne => (h.block i (by simpa using hi) hne).trans (Below.heap_setCell w ⟨b, o, none⟩ v i (fun e => hne (by rw [e])))⟩

theorem keyT73 : Try.prog.keyTypeAt 2 73 = true := by kernel_rfl
theorem cells73 : Try.prog.cellsOf 73 = 12 := by kernel_rfl
theorem formed73 (f : Nat → Int) : (Value.agg (rowV f)).formed Try.prog 73 = true := by simp [Value.formed, Try.underlying73, cells73, rowV_size]
def litsV (f : Nat → Int) : List Lit := (List.range 12).map fun i => Lit.int .i64 (f i)
theorem lits73 (d : Nat) {f : Nat → Int} (h : ∀ i, i < 12 → (Lit.int .i64 (f i)).wf = true) : Try.prog.keyLits (d + 2) 73 (rowV f).toList = some (litsV f) := by
  rw [Program.keyLits.eq_def]
  simp only [Try.underlying73, cells73, Try.cells3]
  rw [if_pos (by rw [Array.length_toList, rowV_size])]
  rw [rowV_list]
  simp only [List.range_succ_eq_map, List.range_zero]
  simp [List.mapM_cons, lit3 d (h 0 (by omega)), lit3 d (h 1 (by omega)), lit3 d (h 2 (by omega)), lit3 d (h 3 (by omega)), lit3 d (h 4 (by omega)), lit3 d (h 5 (by omega)), lit3 d (h 6 (by omega)), lit3 d (h 7 (by omega)), lit3 d (h 8 (by omega)), lit3 d (h 9 (by omega)), lit3 d (h 10 (by omega)), lit3 d (h 11 (by omega))]
  rfl
theorem litsV_inj {f g : Nat → Int} (h : litsV f = litsV g) : ∀ i, i < 12 → f i = g i := fun i hi => by
  have e : (litsV f)[i]? = (litsV g)[i]? := by rw [h]
  simp [litsV, hi] at e
  exact e
theorem litsV_ext {f g : Nat → Int} (h : ∀ i, i < 12 → f i = g i) : litsV f = litsV g := List.map_congr_left fun i hi => by rw [h i (List.mem_range.1 hi)]
theorem run_neqV {f g : Nat → Int} (hf : ∀ i, i < 12 → (Lit.int .i64 (f i)).wf = true) (hg : ∀ i, i < 12 → (Lit.int .i64 (g i)).wf = true) (w : World) {b : Bool} (hb : b = true ↔ ∀ i, i < 12 → f i = g i) :
    (binOp .neq 73 (.agg (rowV f)) (.agg (rowV g))).run Try.prog w = .ok (.bool (!b)) w := by
  obtain ⟨r, hr, hi⟩ := run_equalIn_deep (P := Try.prog) 9998 2 73 keyT73 w 2 2 (.agg (rowV f)) (.agg (rowV g)) (litsV f) (litsV g) (formed73 f) (formed73 g) (lits73 0 hf) (lits73 0 hg)
  have e : (10000 : Nat) = 9998 + 2 := by omega
  rw [run_neq_struct, e, hr]
  have : r = b := by
    rw [Bool.eq_iff_iff, hi, hb]
    exact ⟨litsV_inj, litsV_ext⟩
  rw [this]; rfl

theorem keyOf_struct_inv {P : Program} {k : TypeId} {fs : Array Field} {v : Value} {l : Lit} (hu : P.underlying k = some (.struct fs)) (h : keyOf P k v = some l) :
    v.formed P k = true ∧ ∃ ls, P.keyLits (P.types.size + 1) k v.cells.toList = some ls ∧ l = .string (keyBytes ls) := by
  unfold keyOf at h
  simp only [hu] at h
  split at h
  · rename_i hc
    rw [Bool.and_eq_true] at hc
    rw [Option.map_eq_some_iff] at h
    obtain ⟨ls, h1, h2⟩ := h
    exact ⟨hc.2, ls, h1, h2.symm⟩
  · cases h
theorem keyLits_two {P : Program} {d : Nat} {t : TypeId} {fs : Array Field} {f0 f1 : Field} (hu : P.underlying t = some (.struct fs)) (hfs : fs.toList = [f0, f1]) (h0 : f0.offset = 0) (h1 : f1.offset = 1) (hc0 : P.cellsOf f0.type = 1) (hc1 : P.cellsOf f1.type = 1) (hct : P.cellsOf t = 2)
    (hb : P.underlying f0.type = some .bool) (hi : P.underlying f1.type = some (.int .i64)) {cs : List Value} {l : List Lit} (h : P.keyLits (d + 1) t cs = some l) : ∃ b n, cs = [.bool b, .int .i64 n] ∧ l = [.bool b, .int .i64 n] := by
  rw [Program.keyLits.eq_def] at h
  simp only [hu] at h
  split at h
  · rename_i hc
    rw [hct] at hc
    rw [hfs, Option.map_eq_some_iff] at h
    obtain ⟨ll, h2, rfl⟩ := h
    simp only [List.mapM_cons, List.mapM_nil, bind, Option.bind_eq_some_iff, pure, Option.some.injEq, h0, h1, hc0, hc1, List.drop_zero] at h2
    obtain ⟨la, ha, lbs, ⟨lb, hb2, _, rfl, rfl⟩, rfl⟩ := h2
    obtain ⟨b, ha1, ha2⟩ := keyLits_bool' hb ha
    obtain ⟨n, hb1, hb3⟩ := keyLits_int' hi hb2
    match cs, hc.1 with
    | [x, y], _ =>
      simp at ha1 hb1
      subst ha1 hb1 ha2 hb3
      exact ⟨b, n, rfl, rfl⟩
  · cases h
theorem fields98 : ∃ f0 f1 : Field, ∃ fs : Array Field, Try.prog.underlying 98 = some (.struct fs) ∧ fs.toList = [f0, f1] ∧ f0.offset = 0 ∧ f1.offset = 1 ∧ f0.type = 4 ∧ f1.type = 3 := ⟨_, _, _, Try.underlying98, rfl, rfl, rfl, rfl, rfl⟩
theorem formed_agg {P : Program} {k : TypeId} {fs : Array Field} {v : Value} (hu : P.underlying k = some (.struct fs)) (h : v.formed P k = true) : ∃ cs, v = .agg cs := by
  unfold Value.formed at h
  simp only [hu] at h
  cases v with
  | agg cs => exact ⟨cs, rfl⟩
  | _ => simp at h
/-- what is a key of a side's type is a side -/
theorem key_inv {key : Value} {kl : Lit} (h : keyOf Try.prog 98 key = some kl) : ∃ s : Sd, key = vS s ∧ kl = kS s := by
  obtain ⟨f0, f1, fs, hu, hfs, h0, h1, h2, h3⟩ := fields98
  obtain ⟨hf, ls, hl, rfl⟩ := keyOf_struct_inv hu h
  obtain ⟨cs, rfl⟩ := formed_agg hu hf
  obtain ⟨b, n, e1, rfl⟩ := keyLits_two hu hfs h0 h1 (by rw [h2]; exact Try.cells4) (by rw [h3]; exact Try.cells3) Try.cells98 (by rw [h2]; exact Try.underlying4) (by rw [h3]; exact Try.underlying3) hl
  refine ⟨(b, n), ?_, rfl⟩
  unfold vS
  have : cs = #[.bool b, .int .i64 n] := by rw [← Array.toList_inj]; exact e1
  rw [this]
theorem same_eq {z : Lit} {s : Sd} (h : z.sameKey (kS s) = true) : z = kS s := by
  unfold kS at h ⊢
  cases z with
  | string b => simp [Lit.sameKey] at h; rw [h]
  | _ => simp [Lit.sameKey] at h
end Go.Proofs.Ytoogfdicmpkkgaa

namespace Go.Proofs.Ytoogfdicmpkkgaa
open Go.RowKit Go.Shelf Go.Maps Match

def countOf (P : Partners) : Nat := (List.range 12).countP fun r => (P r).isSome
/-- what a join leaves behind -/
structure JoinQ (w : World) (jb : Nat) (s : Sh) (p : Nat → Bool) (n : Int) (w' : World) (P : Partners) (D : Nat → Prop) : Prop where
  inv : Inv (netOf s.l) p s.L.toNat P D
  ok : okP s.l.length P
  arr : Arr w' jb 28 12 (encP P)
  num : n = (countOf P : Int)
  keep : KeepJ w.heap.size jb w.heap.size w w'

/-- a map under a range that clears it: what is no more to come is not there -/
def Clears (w : World) (b r n : Nat) (left : Lit → Bool) (cnt : Nat) : Prop := ∃ D : DataW Unit, w.ranges Try.prog 98 rB b r n D left cnt ∧ ∀ z, left z = false → Maps.has D z = false
theorem Clears.done {w : World} {b r n : Nat} {left : Lit → Bool} {cnt : Nat} (h : Clears w b r n left cnt) (hl : ∀ z, left z = false) : MapIs w b n (fun _ => 0) := by
  obtain ⟨D, h1, h2⟩ := h
  exact ⟨D, h1.owns, fun s _ => atKey_of_not_has (h2 _ (hl _)) _⟩

theorem clear_step {D : DataW Unit} {left : Lit → Bool} {s : Sd} (h : ∀ z, left z = false → Maps.has D z = false) : ∀ z, ((left z && !z.sameKey (kS s)) && !z.sameKey (kS s)) = false → Maps.has (D.del (kS s)) z = false := fun z hz => by
  by_cases e : z = kS s
  · rw [e]; exact has_del_same
  · rw [has_del_other e]
    refine h z ?_
    cases hk : z.sameKey (kS s)
    · rw [hk] at hz; simpa using hz
    · exact absurd (same_eq hk) e
theorem quiet_load_mid {o : Oper} {a : Act} {C : World → Prop} {K : Act → Prop} (ty : TypeId) (x : Operand) (ho : o.op = .load ty x) (b off : Nat) (hx : a.eval x = .pointer (some ⟨b, off, none⟩)) (cells : Array Value) (d : TypeDesc) (hC : ∀ w, C w → w.rangeAt b off cells.toList)
    (hu : Try.prog.underlying ty = some d) (hd : d.isRow = true) (hi : (Try.prog.info? ty).map (·.size) = some cells.size) (hk : K (a.put o.dst (.agg cells))) : o.quiet Try.prog a C K :=
  ⟨_, fun w hw => by
    unfold Oper.quietAt execOp
    simp only [ho, hx, Instr.loadAt, Instr.sureAddr, Sem.run_bind, Sem.run_pure, Result.andThen_ok, run_loadVar_mid w b off ty cells.toList d (hC w hw) hu hd (by rw [hi, Array.length_toList])]
    exact ⟨rfl, rfl⟩, hk⟩
theorem seen_none : Seen (fun _ => 0) = fun _ => False := by funext r; unfold Seen; simp
theorem encP_wf {m : Nat} {P : Partners} (h : okP m P) (hm : m ≤ 100000) (i : Nat) : (Lit.int .i64 (encP P i)).wf = true := by
  unfold encP
  cases hp : P i with
  | none => exact WalkArith.wf_i64 (by dsimp only; omega)
  | some k => have := h i k hp; exact WalkArith.wf_i64 (by dsimp only; omega)
set_option maxRecDepth 100000 in
set_option maxHeartbeats 2000000 in
theorem join_any (jb n0 : Nat) (s : Sh) (g : Nat) (fst cpt : Array Value) (p : Nat → Bool) (w : World) (hh : Head n0 w jb s) (hth : w.there jb 28 12) (hL : 0 ≤ s.L ∧ s.L ≤ 12) (hlen : s.l.length ≤ 100000) (hli : ∀ x ∈ s.l, (0 ≤ x.1 ∧ x.1 < 12) ∧ 0 ≤ x.2 ∧ x.2 < 12)
    (eg : ∀ args w, (callFunc g args).run Try.prog w = .ok (.enter g args) w) (hal : Allows g fst cpt s.l.length w.heap.size jb w.heap.size w p) :
    Calls Try.prog 54 #[.pointer (some ⟨jb, 0, none⟩), .func (.func g) fst cpt] w (Ret fun v w' => ∃ n P D, v = .int .i64 n ∧ JoinQ w jb s p n w' P D) := by
  have HH := Lib.hid hh
  have HL := Lib.hid hal; clear hal
  have Hli := Lib.hid hli; clear hli
  have hjlt := hh.lt
  have hbase := hh.base
  have c0 := hh.c0
  clear hh
  obtain ⟨nL, hnL⟩ := Int.eq_ofNat_of_zero_le hL.1
  have hT := hth
  rw [← rowV_size (fun _ => 0)] at hT
  have HT := Lib.hid hT; clear hT
  go_enter Try.func54, Try.ntmps54
  go_upto_region 1 with fail
  go_upto_region 2 with (first | (refine wpList_store_mid rfl 73 (.tmp 13) (.tmp 11) rfl jb 28 (rowV fun _ => 0) (by rfl) (by rfl) HT.out (by rw [info73, rowV_size]) (rowV_one _) ?_))
  have hmm := @run_makeMap Try.prog
  have hk0 : KeepJ w.heap.size jb w.heap.size w (w.setCells jb 28 (rowV fun _ => 0).toList) := (KeepJ.refl w.heap.size jb w.heap.size w).setRow (rowV fun _ => 0).toList 0
  have ha0 : Arr (w.setCells jb 28 (rowV fun _ => 0).toList) jb 28 12 (fun _ => 0) := Arr.stored hth
  have hs0 := setCells_size jb (rowV fun _ => 0).toList 28 w
  clear hth HT c0
  generalize hw0 : w.setCells jb 28 (rowV fun _ => 0).toList = w0 at *
  have hal0 : Below w0.heap.size w0 (w0.alloc (.map #[] 0)) := below_alloc' (Below.refl _ _) _
  have hm0 : MapIs (w0.alloc (.map #[] 0)) w.heap.size 0 (fun _ => 0) := by have h := MapIs.made w0; rwa [hs0] at h
  have hk1 := hk0.trans (KeepJ.below (n := w.heap.size) (jb := jb) (mb := w.heap.size) hal0 (by omega) (by omega))
  have ha1 := ha0.below hal0
  have hs1 : (w0.alloc (.map #[] 0)).heap.size = w.heap.size + 1 := by rw [World.size_alloc, hs0]
  have HH1 := Lib.hid (HH.out.keep hk1 (by omega) (by omega))
  have c0 := HH1.out.c0
  rw [hnL] at c0
  go_upto_region 4 with fail
  clear hk0 ha0 hal0 hw0 hmm
  generalize w0.alloc (.map #[] 0) = w1 at *
  go_wp2
  clear hs0 c0 HH1
  clear w0
  go_loopw [6, 20] (fun nv i wr => ∃ (k : Nat) (P : Partners) (D : Nat → Prop) (f : Sd → Int) (cnt : Nat), k ≤ nL ∧ i = .int .i64 k ∧ nv = .int .i64 (countOf P) ∧ countOf P ≤ k ∧ Hid (Inv (netOf s.l) p k P D) ∧ okP s.l.length P ∧ Arr wr jb 28 12 (encP P) ∧ MapIs wr w.heap.size cnt f ∧ cnt ≤ 12 * k ∧ KeepJ w.heap.size jb w.heap.size w wr ∧ w.heap.size + 1 ≤ wr.heap.size) (fun _ i _ => nL - (intOf i).toNat)
  case atStart => exact ⟨0, fun _ => none, fun _ => False, fun _ => 0, 0, by omega, rfl, by simp [countOf], by simp [countOf], Inv.start _ _, fun _ _ h => (by cases h), ha1.congr (fun _ _ => rfl), hm0, by omega, hk1, by omega⟩
  case round =>
    clear ha1 hm0 hk1 hs1
    obtain ⟨k, P, D, f, cnt, hk, rfl, rfl, hct, HI, ho, ha, hm, hcn, hkp, hsz⟩ := hrel
    have HO := Lib.hid ho
    have HA := Lib.hid ha
    have HM := Lib.hid hm
    have HK := Lib.hid hkp
    have HW := Lib.hid (HH.out.keep HK.out (by omega) (by omega))
    clear ho ha hm hkp
    by_cases hkn : k < nL
    · obtain ⟨wr0, hwr0⟩ : ∃ wr0, wr0 = wr := ⟨_, rfl⟩
      have hZ : (rowV fun _ => 0) = #[Value.int .i64 0, Value.int .i64 0, Value.int .i64 0, Value.int .i64 0, Value.int .i64 0, Value.int .i64 0, Value.int .i64 0, Value.int .i64 0, Value.int .i64 0, Value.int .i64 0, Value.int .i64 0, Value.int .i64 0] := rfl
      have hB := heap_alloc_new wr (.cells #[Value.int .i64 0, Value.int .i64 0, Value.int .i64 0, Value.int .i64 0, Value.int .i64 0, Value.int .i64 0, Value.int .i64 0, Value.int .i64 0, Value.int .i64 0, Value.int .i64 0, Value.int .i64 0, Value.int .i64 0] 73)
      have hT2 : (wr.alloc (.cells #[Value.int .i64 0, Value.int .i64 0, Value.int .i64 0, Value.int .i64 0, Value.int .i64 0, Value.int .i64 0, Value.int .i64 0, Value.int .i64 0, Value.int .i64 0, Value.int .i64 0, Value.int .i64 0, Value.int .i64 0] 73)).there wr.heap.size 0 12 := fun j hj => by
        rw [← hZ] at hB ⊢
        exact ⟨by rw [blk_cell hB, Nat.zero_add, rowV_get _ hj]; rfl, blk_frozen hB⟩
      have hA2 := Arr.stored (f := encP P) hT2
      rw [← rowV_size (encP P)] at hT2
      have HT2 := Lib.hid hT2
      have HR2 := Lib.hid HA.out.range
      have hB2 : Below wr.heap.size wr ((wr.alloc (.cells #[Value.int .i64 0, Value.int .i64 0, Value.int .i64 0, Value.int .i64 0, Value.int .i64 0, Value.int .i64 0, Value.int .i64 0, Value.int .i64 0, Value.int .i64 0, Value.int .i64 0, Value.int .i64 0, Value.int .i64 0] 73)).setCells wr.heap.size 0 (rowV (encP P)).toList) := (below_alloc' (Below.refl _ _) _).grown (grown_setCells _ _) (by simp) (fun k e => by injection e; omega)
      clear hT2 hB hZ
      go_upto_region 7 with fail
      go_upto_region 8 with (first | (refine wpList_load_mid rfl 73 (.tmp 25) rfl jb 28 (by rfl) (rowV (encP P)).toList _ HR2.out Try.underlying73 rfl (by rw [info73, Array.length_toList, rowV_size]) ?_) | (refine wpList_store_mid rfl 73 (.tmp 8) (.tmp 26) rfl wr.heap.size 0 (rowV (encP P)) (by rfl) (by rfl) HT2.out (by rw [info73, rowV_size]) (rowV_one _) ?_))
      replace hB2 : Below wr.heap.size wr ((wr.alloc (.cells #[Value.int .i64 0, Value.int .i64 0, Value.int .i64 0, Value.int .i64 0, Value.int .i64 0, Value.int .i64 0, Value.int .i64 0, Value.int .i64 0, Value.int .i64 0, Value.int .i64 0, Value.int .i64 0, Value.int .i64 0] 73)).setCells wr.heap.size 0 (rowV (encP P)).toList) := hB2
      generalize hbb : wr.heap.size = bb at *
      generalize ((wr.alloc (.cells #[Value.int .i64 0, Value.int .i64 0, Value.int .i64 0, Value.int .i64 0, Value.int .i64 0, Value.int .i64 0, Value.int .i64 0, Value.int .i64 0, Value.int .i64 0, Value.int .i64 0, Value.int .i64 0, Value.int .i64 0] 73)).setCells bb 0 (rowV (encP P)).toList) = W1 at *
      subst hbb
      have hsz1 : wr.heap.size + 1 ≤ W1.heap.size := block_lt_of_cell (hA2 0 (by omega)).1
      obtain ⟨Dm, hown, _⟩ := HM.out.kept (grown_below hB2) (by simp)
      go_wp2_with (first | (at_range; refine wpList_range_own _ rfl (.tmp 27) 96 rfl 98 3 Try.law98 Try.underlying96 rB w.heap.size cnt Dm rfl hown ?_; intro W2 hrg2 hg2 hs2))
      subst hwr0
      go_frame
      go_loopw [] (fun w3 => ∃ (left : Lit → Bool) (c2 : Nat), Clears w3 w.heap.size W1.heap.size cnt left c2 ∧ W1.grownBy w3 (some w.heap.size) ∧ W1.heap.size + 1 ≤ w3.heap.size) (fun w3 => w3.rangeLeft w.heap.size W1.heap.size)
      case atStart => exact ⟨_, _, ⟨Dm, hrg2, fun z h => h⟩, hg2.but _, by omega⟩
      case round =>
        clear hrg2 hg2 hs2
        obtain ⟨left, c2, ⟨D2, hrg, hz⟩, hg, hs3⟩ := hrel
        go_wp2_with (first | (at_next; refine wpList_next_ranges _ rfl (.tmp 28) rfl 98 Try.law98 rB (fun x : Value => x) (fun x : Value => x) (fun key _ _ => ⟨key, rfl⟩) (fun v _ _ => ⟨v, rfl⟩) w.heap.size W1.heap.size cnt D2 left c2 rfl hrg ?_ ?_))
        · intro hc0 hl0
          have hm3 := Clears.done ⟨D2, hrg, hz⟩ hl0
          clear hrg hz
          go_upto_region 12 with fail
          have hA3 : Arr W1 jb 28 12 (encP P) := HA.out.below hB2
          replace hA3 := hA3.grown hg (by simp; omega)
          have hA4 := hA2.grown hg (by simp; omega)
          have hk3 := (HK.out.trans (KeepJ.below (n := w.heap.size) (jb := jb) (mb := w.heap.size) hB2 (by omega) (by omega))).grown hg (Nat.le_refl _) hjlt (fun r e => ⟨.inr (by injection e with e; exact e.symm), by injection e with e; omega⟩)
          have hc := find_any jb w.heap.size n0 s g fst cpt p (by omega) (by omega) hlen Hli.out eg (unseen fun _ => 0) k P (fun _ => 0) cnt wr (Nat.le_refl _) (by have := unseen_le (fun _ => 0); omega) (HH.out.keep hk3 (by omega) (by omega)) hA3 HO.out hm3 ((HL.out.keep hk3).less (by omega))
          have Hc := Lib.hid hc
          clear hc
          go_wp2_with fail
          refine Hc.out.mono ?_
          rintro e w4 ⟨v, rfl, b, P', f', cnt', rfl, hq⟩
          have hbk := hA4 0 (by omega)
          have hbl := block_lt_of_cell hbk.1
          have hA6 : Arr w4 wr0.heap.size 0 12 (encP P) := fun i hi => by
            have e := hq.keep.block _ hbl (by simp; omega) (by simp; omega)
            exact ⟨(World.cell?_of_block (a := ⟨wr0.heap.size, 0 + i, none⟩) e).trans (hA4 i hi).1, (World.frozen?_of_block (a := ⟨wr0.heap.size, 0 + i, none⟩) e).trans (hA4 i hi).2⟩
          have HA5 := Lib.hid hq.arr
          have HA6 := Lib.hid hA6
          have HK4 := Lib.hid (hk3.trans (hq.keep.less (by omega)))
          have HO4 := Lib.hid hq.ok
          have hcn4 := hq.cnt
          have hu12 := unseen_le (fun _ => 0)
          have hmp4 := hq.map
          have hrun := hq.run
          rw [seen_none] at hrun
          have hw1 : ∀ i, i < 12 → (Lit.int .i64 (encP P' i)).wf = true := fun i _ => encP_wf hq.ok hlen i
          have hw2 : ∀ i, i < 12 → (Lit.int .i64 (encP P i)).wf = true := fun i _ => encP_wf HO.out hlen i
          have hs4 : w.heap.size + 1 ≤ w4.heap.size := by have := hq.keep.size; omega
          clear hq Hc hA3 hA4 hA6 hbk hbl hk3 hm3 hg hs3 hown hB2 hA2
          cases b
          · obtain ⟨rfl, hinv⟩ := HI.out.failed hrun
            have hne := fun W => run_neqV hw1 hw2 W (b := true) (by simp)
            have HI4 := Lib.hid hinv
            clear hrun hinv hw1 hw2
            go_upto_region 13 with fail
            refine wp_region_quiet_lit (by kernel_rfl) (by kernel_rfl) ?_
            repeat (go_big_quiet_step (fail))
            go_big_quiet_want
            refine quiet_load_mid 73 (.tmp 42) rfl jb 28 (by rfl) (rowV (encP P')) _ (fun w hw => by obtain ⟨n, rfl⟩ := hw; exact HA5.out.range) Try.underlying73 rfl (by rw [info73, rowV_size]) ?_
            simp only [Act.put, List.setIfInBounds_toArray, List.set_cons_zero, List.set_cons_succ]
            go_big_quiet_on
            go_big_quiet_want
            refine quiet_load_mid 73 (.tmp 8) rfl wr0.heap.size 0 (by rfl) (rowV (encP P')) _ (fun w hw => by obtain ⟨n, rfl⟩ := hw; exact HA6.out.range) Try.underlying73 rfl (by rw [info73, rowV_size]) ?_
            simp only [Act.put, List.setIfInBounds_toArray, List.set_cons_zero, List.set_cons_succ]
            go_big_quiet_on
            repeat (go_big_quiet_step (fail))
            refine wpQuiet_nil ?_
            intro _ hw'
            obtain ⟨nq, hw''⟩ := hw'
            subst hw''
            go_wp2
            go_roundw
            case rel => exact ⟨k + 1, P', _, f', cnt', by omega, by go_num, rfl, by omega, HI4, HO4.out, HA5.out, hmp4.kept (grown_drewN w4 nq) (by simp), by omega, HK4.out.drewN nq, hs4⟩
            case measure => simp [intOf]; omega
          · obtain ⟨hinv, q0, hq1, hq2⟩ := HI.out.found hrun
            obtain ⟨kk, hkk⟩ := (hq2 q0).2 (.inr rfl)
            have hq12 : q0 < 12 := by
              have h := (hinv.valid.ok q0 kk hkk).2
              have h1 := (hinv.valid.ok q0 kk hkk).1.1
              have h2 := Hli.out s.l[kk] (List.getElem_mem h1)
              unfold netOf at h
              dsimp only at h
              rw [atL_eq h1] at h
              omega
            have hct4 : countOf P' = countOf P + 1 := (countP_one q0 (by rw [hkk]; rfl) (by rw [hq1]; rfl) (fun x hx => by
              have h := hq2 x
              cases h1 : P x <;> cases h2 : P' x <;> simp [h1, h2, hx] at h ⊢) 12 hq12).symm
            have hne := fun W => run_neqV hw1 hw2 W (b := false) (by
              simp only [Bool.false_eq_true, false_iff]
              intro h
              have h1 := h q0 hq12
              rw [encP_none.2 hq1] at h1
              rw [encP_none.1 h1] at hkk
              cases hkk)
            have HI4 := Lib.hid hinv
            have hwc : IntKind.i64.wrap ((countOf P : Int) + 1) = (countOf P : Int) + 1 := IntWalk.i64_in _ (by omega)
            clear hrun hinv hw1 hw2 hq1 hq2 hkk
            go_upto_region 13 with fail
            refine wp_region_quiet_lit (by kernel_rfl) (by kernel_rfl) ?_
            repeat (go_big_quiet_step (fail))
            go_big_quiet_want
            refine quiet_load_mid 73 (.tmp 42) rfl jb 28 (by rfl) (rowV (encP P')) _ (fun w hw => by obtain ⟨n, rfl⟩ := hw; exact HA5.out.range) Try.underlying73 rfl (by rw [info73, rowV_size]) ?_
            simp only [Act.put, List.setIfInBounds_toArray, List.set_cons_zero, List.set_cons_succ]
            go_big_quiet_on
            go_big_quiet_want
            refine quiet_load_mid 73 (.tmp 8) rfl wr0.heap.size 0 (by rfl) (rowV (encP P)) _ (fun w hw => by obtain ⟨n, rfl⟩ := hw; exact HA6.out.range) Try.underlying73 rfl (by rw [info73, rowV_size]) ?_
            simp only [Act.put, List.setIfInBounds_toArray, List.set_cons_zero, List.set_cons_succ]
            go_big_quiet_on
            repeat (go_big_quiet_step (fail))
            refine wpQuiet_nil ?_
            intro _ hw'
            obtain ⟨nq, hw''⟩ := hw'
            subst hw''
            go_wp2
            go_roundw
            case rel => exact ⟨k + 1, P', _, f', cnt', by omega, by go_num, by rw [hct4]; go_num, by omega, HI4, HO4.out, HA5.out, hmp4.kept (grown_drewN w4 nq) (by simp), by omega, HK4.out.drewN nq, hs4⟩
            case measure => simp [intOf]; omega
        · intro x c kl yd yp w4 cnt4 hkey hlk hv hat hrg4 hlt hg4 hs4 hen
          obtain ⟨⟨k1, k2⟩, rfl, rfl⟩ := key_inv hkey
          dsimp only [vS] at hen hkey
          have hrg5 := hrg4.alloc (.cells #[.bool k1, .int .i64 k2] 98)
          clear hv hat hs4
          go_upto_region 11 with fail
          have n0 := new2_0 w4 (.bool k1) (.int .i64 k2) 98
          have n1 := new2_1 w4 (.bool k1) (.int .i64 k2) 98
          have hg5 := hg4.andThen (World.grownBy_alloc w4 (.cells #[.bool k1, .int .i64 k2] 98) none) (fun j e => by cases e)
          clear hen hg4
          generalize hkb : w4.heap.size = kb at n0 n1 ⊢
          generalize w4.alloc (.cells #[.bool k1, .int .i64 k2] 98) = w5 at *
          go_wp2_with (first | (at_delete; refine wpList_delete_ranges _ rfl (.tmp 33) (.tmp 34) 96 98 rfl 3 Try.law98 Try.underlying96 rB w.heap.size W1.heap.size cnt D2 _ _ rfl hrg5 (.agg #[.bool k1, .int .i64 k2]) _ rfl hkey ?_; intro w6 cnt6 hrg6 hle hturn))
          have hg6 := (hg.andThen hg5 (fun j e => .inl (by injection e with e; omega))).andThen hturn.grown (fun j e => .inr e)
          have hs6 := hturn.grown.size
          have hs5 := hg5.size
          simp only [Act.put]
          go_roundw
          case rel => exact ⟨_, cnt6, ⟨_, hrg6, clear_step hz⟩, hg6, by omega⟩
          case measure => rw [hrg6.left_eq, hrg.left_eq]; omega
    · obtain rfl : k = nL := by omega
      go_wp2
      go_ret
      exact Ret.mk ⟨_, P, D, rfl, ⟨by rw [hnL]; exact HI.out, HO.out, HA.out, rfl, HK.out⟩⟩
end Go.Proofs.Ytoogfdicmpkkgaa

namespace Go.Proofs.Ytoogfdicmpkkgaa
open Go.RowKit Go.Shelf

theorem own_drewN {w : World} {base : Nat} {e : TypeId} {size : Nat} {v : Value} {n : Nat} {xs : List Value} (h : w.ownsRow base e size v n xs) (q : Nat) : (w.drewN q).ownsRow base e size v n xs := h
theorem own_mono {w : World} {base base' : Nat} {e : TypeId} {size : Nat} {v : Value} {n : Nat} {xs : List Value} (h : w.ownsRow base e size v n xs) (hb : base' ≤ base) : w.ownsRow base' e size v n xs :=
  ⟨h.1, h.2.imp id fun ⟨g, cap, cur, a, b, c⟩ => ⟨g, cap, cur, a, Nat.le_trans hb b, c⟩⟩
theorem infoI3 : (Try.prog.info? 3).map (fun i => (i.zero, i.size, i.bytes)) = some (some (.int .i64 0), 1, 8) := by kernel_rfl
theorem own_cells {w : World} {base : Nat} {e : TypeId} {size : Nat} {v : Value} {n : Nat} {xs : List Value} (h : w.ownsRow base e size v n xs) : ∀ r, v.ownBlock = some r → ∃ cs t fr, w.heap[r]? = some (.cells cs t fr) := fun r e => by
  rcases h.2 with ⟨rfl, _⟩ | ⟨g, cap, cur, rfl, _, hh, _⟩
  · simp [Value.ownBlock] at e
  · simp only [Value.ownBlock, Option.some.injEq] at e; subst e; exact ⟨_, _, _, hh⟩

/-- an element type of the seat: its size in cells and its zero -/
structure ElemT (e : TypeId) (size bytes : Nat) (z : Value) : Prop where
  info : (Try.prog.info? e).map (fun i => (i.zero, i.size, i.bytes)) = some (some z, size, bytes)
  zsz : z.cells.size = size
  pos : 0 < size
  small : bytes ≤ 100
theorem elemI3 : ElemT 3 1 8 (.int .i64 0) := ⟨by kernel_rfl, rfl, by omega, by omega⟩
theorem elemR : ElemT 55 2 16 (.agg #[.int .i64 0, .int .i64 0]) := ⟨by kernel_rfl, rfl, by omega, by omega⟩

theorem push_flat {α : Type} {enc : α → List Value} (l : List α) (x : α) : l.flatMap enc ++ enc x = (l ++ [x]).flatMap enc := by simp
theorem news_new {α : Type} {enc : α → List Value} {w : World} {x : α} {B : Nat} {cs : Array Value} {t : TypeId} {fr : Nat × Nat} (hB : w.heap[B]? = some (.cells cs t fr)) (hcs : cs.toList = enc x) :
    ∀ j u, (enc x)[j]? = some u → w.cell? ((⟨B, 0, none⟩ : Addr).add j) = some u := by rw [← hcs]; exact World.news_of_block hB

section
variable {α : Type} {enc : α → List Value} {e : TypeId} {size bytes : Nat} {z : Value}
theorem wpListIn_push {F : Fence} {n : Nat} (w : World) {ops : Array Oper} {rest : List Oper} {o : Oper} {a : Act} {Q : Exit → Act → World → Prop}
    (hg : o.guard = none) (s x : Operand) (t : TypeId) (hop : o.op = Op.call { callee := Callee.builtin Builtin.append, args := #[s, x], argTypes := #[t, t] })
    (E : ElemT e size bytes z) (hk : ∀ x, (enc x).length = size) (h1 : ∀ x, ∀ u ∈ enc x, u.oneCell' = true) (ht : Try.prog.underlying t = some (.slice e)) (base : Nat)
    (v : Value) (l : List α) (hs : a.eval s = v) (hown : w.ownsRow base e size v l.length (l.flatMap enc)) (hlen : l.length ≤ 100000) (y : α) (B : Nat) (hx : a.eval x = .slice (some ⟨B, 0, none⟩) 1 1)
    (cs : Array Value) (hcs : cs.toList = enc y) (tt : TypeId) (fr : Nat × Nat) (hB : w.heap[B]? = some (.cells cs tt fr)) (b3 : base ≤ w.heap.size)
    (hK : ∀ g cap w', w'.ownsRow base e size (.slice (some ⟨g, 0, none⟩) (l.length + 1) cap) (l.length + 1) ((l ++ [y]).flatMap enc) → w.grownBy w' v.ownBlock → wpListIn F n Try.prog ops Q rest (a.put o.dst (.slice (some ⟨g, 0, none⟩) (l.length + 1) cap)) w') :
    wpListIn F n Try.prog ops Q (o :: rest) a w := by
  obtain ⟨i0, hi, hz0, hz1, hz2⟩ := info_parts E.info
  have hb : (l.length + 1) * bytes ≤ 100001 * 100 := Nat.mul_le_mul (by omega) E.small
  refine wpListIn_append_own w hg s x t hop base e i0 z size bytes ht hi hz0 hz1 hz2 E.zsz E.pos v l.length _ hs hown ⟨B, 0, none⟩ 1 1 (enc y) hx (by rw [hk]; omega) (news_new hB hcs) (h1 y) (by simp only [maxLen]; omega) (by omega) b3 ?_
  intro v' w' hown' hgrow _
  obtain ⟨g, cap, rfl⟩ := ownsRow_succ hown'
  exact hK g cap w' (by rw [← push_flat]; exact hown') hgrow
theorem wpList_push (w : World) {ops : Array Oper} {rest : List Oper} {o : Oper} {a : Act} {Q : Exit → Act → World → Prop}
    (hg : o.guard = none) (s x : Operand) (t : TypeId) (hop : o.op = Op.call { callee := Callee.builtin Builtin.append, args := #[s, x], argTypes := #[t, t] })
    (E : ElemT e size bytes z) (hk : ∀ x, (enc x).length = size) (h1 : ∀ x, ∀ u ∈ enc x, u.oneCell' = true) (ht : Try.prog.underlying t = some (.slice e)) (base : Nat)
    (v : Value) (l : List α) (hs : a.eval s = v) (hown : w.ownsRow base e size v l.length (l.flatMap enc)) (hlen : l.length ≤ 100000) (y : α) (B : Nat) (hx : a.eval x = .slice (some ⟨B, 0, none⟩) 1 1)
    (cs : Array Value) (hcs : cs.toList = enc y) (tt : TypeId) (fr : Nat × Nat) (hB : w.heap[B]? = some (.cells cs tt fr)) (b3 : base ≤ w.heap.size)
    (hK : ∀ g cap w', w'.ownsRow base e size (.slice (some ⟨g, 0, none⟩) (l.length + 1) cap) (l.length + 1) ((l ++ [y]).flatMap enc) → w.grownBy w' v.ownBlock → wpList Try.prog ops Q rest (a.put o.dst (.slice (some ⟨g, 0, none⟩) (l.length + 1) cap)) w') :
    wpList Try.prog ops Q (o :: rest) a w := by
  obtain ⟨i0, hi, hz0, hz1, hz2⟩ := info_parts E.info
  have hb : (l.length + 1) * bytes ≤ 100001 * 100 := Nat.mul_le_mul (by omega) E.small
  refine wpList_append_own w hg s x t hop base e i0 z size bytes ht hi hz0 hz1 hz2 E.zsz E.pos v l.length _ hs hown ⟨B, 0, none⟩ 1 1 (enc y) hx (by rw [hk]; omega) (news_new hB hcs) (h1 y) (by simp only [maxLen]; omega) (by omega) b3 ?_
  intro v' w' hown' hgrow _
  obtain ⟨g, cap, rfl⟩ := ownsRow_succ hown'
  exact hK g cap w' (by rw [← push_flat]; exact hown') hgrow
end
theorem oneI (x : Int) : ∀ u ∈ encI x, u.oneCell' = true := by simp [encI, Value.oneCell']
theorem oneR (x : Int × Int) : ∀ u ∈ encR x, u.oneCell' = true := by simp [encR, Value.oneCell']
theorem own_apart {w : World} {base base' : Nat} {e e' : TypeId} {size size' : Nat} {v v' : Value} {n n' : Nat} {xs xs' : List Value} (h : w.ownsRow base e size v n xs) (h' : w.ownsRow base' e' size' v' n' xs') (hne : e ≠ e') :
    v.ownBlock = none ∨ v.ownBlock ≠ v'.ownBlock := by
  rcases h.2 with ⟨rfl, _⟩ | ⟨g, cap, cur, rfl, _, hh, _⟩
  · exact .inl rfl
  · right
    rcases h'.2 with ⟨rfl, _⟩ | ⟨g', cap', cur', rfl, _, hh', _⟩
    · simp [Value.ownBlock]
    · simp only [Value.ownBlock]
      intro e1
      injection e1 with e1
      subst e1
      rw [hh] at hh'; injection hh' with hh'; injection hh' with _ h2; exact hne h2
/-- an append behind a new block, and the store of its result into block b0: another block lies as it lay -/
theorem blk_push {W W1 : World} {o : Obj} {row : Option Nat} {b b0 i : Nat} {u : Value} {o' : Obj} (h : W.heap[b]? = some o') (hg : (W.alloc o).grownBy W1 row) (hne : some b ≠ row) (hb : b ≠ b0) :
    (W1.setCell ⟨b0, i, none⟩ u).heap[b]? = some o' := blk_far (blk_grown hg (blk_alloc h o) hne) hb u
theorem row_push {W W1 : World} {o : Obj} {row : Option Nat} {b0 i : Nat} {u : Value} {base : Nat} {e : TypeId} {size : Nat} {v : Value} {n : Nat} {xs : List Value} (h : W.ownsRow base e size v n xs) (hg : (W.alloc o).grownBy W1 row)
    (hne : v.ownBlock = none ∨ v.ownBlock ≠ row) (hb : b0 < base) : (W1.setCell ⟨b0, i, none⟩ u).ownsRow base e size v n xs := ownsRow_setCell_below ((h.alloc o).kept hg hne) hb u
theorem own_ne_blk {w : World} {base : Nat} {e : TypeId} {size : Nat} {v : Value} {n : Nat} {xs : List Value} (h : w.ownsRow base e size v n xs) {b : Nat} {cs : Array Value} {t : TypeId} {fr : Nat × Nat} (hb : w.heap[b]? = some (.cells cs t fr)) (hne : t ≠ e) : some b ≠ v.ownBlock := by
  rcases h.2 with ⟨rfl, _⟩ | ⟨g, cap, cur, rfl, _, hh, _⟩
  · simp [Value.ownBlock]
  · simp only [Value.ownBlock]
    intro e1
    injection e1 with e1
    subst e1
    rw [hh] at hb; injection hb with hb; injection hb with _ h2; exact hne h2.symm
theorem below_push {B0 : Nat} {w0 Y Z : World} {o : Obj} {base : Nat} {e : TypeId} {size : Nat} {v : Value} {n : Nat} {xs : List Value} (h : Below B0 w0 Y) (hs : B0 ≤ w0.heap.size) (hown : Y.ownsRow base e size v n xs) (hg : (Y.alloc o).grownBy Z v.ownBlock)
    (h3 : B0 ≤ base) {b0 i : Nat} (h5 : B0 ≤ b0) (u : Value) : Below B0 w0 (Z.setCell ⟨b0, i, none⟩ u) :=
  ((h.alloc (Nat.le_trans hs h.size) o).grown hg (by have := h.size; simp; omega) (fun r e => by have := own_base hown r e; omega)).setCell h5 u
theorem len_snoc {α : Type} (l : List α) (x : α) : (l ++ [x]).length = l.length + 1 := by simp
theorem cell_put {W : World} {D : Nat} {o o' : Obj} {a : Addr} {v : Value} (h : W.cell? a = some v) (hK : W.heap[D]? = some o) (hc : o.isCells = false) : (W.putObj D o').cell? a = some v :=
  (World.cell?_of_block (World.putObj_heap_other (fun e => by
    simp only [World.cell?, e, hK] at h
    cases o <;> first | (simp [Obj.isCells] at hc; done) | (simp at h; done)))).trans h
theorem rows_put {α : Type} {enc : α → List Value} {k : Nat} {W : World} {A : Option Addr} {l : List α} {D : Nat} {o o' : Obj} (h : RowsAt enc k W A l) (hK : W.heap[D]? = some o) (hc : o.isCells = false) : RowsAt enc k (W.putObj D o') A l := fun i hi => by
  obtain ⟨b, off, hA, hv⟩ := h i hi
  exact ⟨b, off, hA, fun j v hj => cell_put (hv j v hj) hK hc⟩
theorem below_put {m D : Nat} {w0 W : World} {o : Obj} (h : Below m w0 W) (hD : m ≤ D) (o' : Obj) (_hK : W.heap[D]? = some o) : Below m w0 (W.putObj D o') :=
  h.trans ⟨rfl, rfl, rfl, by simp, fun k hk => World.putObj_heap_other (by omega)⟩
theorem results_cell_mid {fn : Func} {p : Tmp} {ty : TypeId} (h : fn.results = #[.cell p ty]) (tmps : Array Value) (w : World) (g : Nat) (cs : List Value) (d : TypeDesc)
    (hp : tmps.getD p undef = .pointer (some ⟨g, 0, none⟩)) (hc : w.rangeAt g 0 cs)
    (hu : Try.prog.underlying ty = some d) (hd : d.isRow = true) (hi : (Try.prog.info? ty).map (·.size) = some cs.length) :
    (results fn tmps).run Try.prog w = .ok (.agg cs.toArray) w := by
  have hp' : tmps[p]?.getD undef = .pointer (some ⟨g, 0, none⟩) := by simpa using hp
  simp [results, h, hp', asAddr, run_loadVar_mid w g 0 ty cs d hc hu hd hi]
theorem setCells_far {b k : Nat} (hk : k ≠ b) : ∀ (vs : List Value) (o : Nat) (w : World), (w.setCells b o vs).heap[k]? = w.heap[k]?
  | [], _, _ => rfl
  | v :: r, o, w => (setCells_far hk r (o + 1) _).trans (Below.heap_setCell w ⟨b, o, none⟩ v k hk)
theorem below_setCells {B b : Nat} (hb : B ≤ b) {w0 : World} : ∀ (vs : List Value) (o : Nat) (w : World), Below B w0 w → Below B w0 (w.setCells b o vs)
  | [], _, _, h => h
  | v :: r, o, _, h => below_setCells hb r (o + 1) _ (h.setCell (p := ⟨b, o, none⟩) hb v)
theorem flatMap_inv {α : Type} {enc : α → List Value} {k : Nat} (hk : ∀ x, (enc x).length = k) : ∀ (l : List α) (j : Nat) (u : Value), (l.flatMap enc)[j]? = some u → ∃ (i r : Nat) (hi : i < l.length), j = i * k + r ∧ (enc l[i])[r]? = some u
  | [], j, u, h => by simp at h
  | x :: l, j, u, h => by
    rw [List.flatMap_cons] at h
    by_cases hj : j < k
    · rw [List.getElem?_append_left (by rw [hk]; exact hj)] at h
      exact ⟨0, j, by simp, by simp, by simpa using h⟩
    · rw [List.getElem?_append_right (by rw [hk]; omega), hk] at h
      obtain ⟨i, r, hi, e, hr⟩ := flatMap_inv hk l (j - k) u h
      exact ⟨i + 1, r, by simpa using hi, by rw [Nat.succ_mul]; omega, by simpa using hr⟩
theorem RowsAt.olds {α : Type} {enc : α → List Value} {k : Nat} {w : World} {A : Option Addr} {l : List α} (hk : ∀ x, (enc x).length = k) (h : RowsAt enc k w A l) : ∀ b, A = some b → ∀ j u, (l.flatMap enc)[j]? = some u → w.cell? (b.add j) = some u := fun b hA j u hj => by
  obtain ⟨i, r, hi, e, hr⟩ := flatMap_inv hk l j u hj
  obtain ⟨b', off, hA', hc⟩ := h i hi
  rw [hA] at hA'
  injection hA' with e'
  subst e'
  have := hc r u hr
  rw [Addr.add_mid, e, ← Nat.add_assoc]; exact this
theorem flatMap_len {α : Type} {enc : α → List Value} {k : Nat} (hk : ∀ x, (enc x).length = k) : ∀ l : List α, (l.flatMap enc).length = l.length * k
  | [] => by simp
  | x :: l => by rw [List.flatMap_cons, List.length_append, hk, flatMap_len hk l, List.length_cons, Nat.succ_mul]; omega
section
variable {α : Type} {enc : α → List Value} {e : TypeId} {size bytes : Nat} {z : Value}
theorem rows_of_grown {w w' : World} {v : Value} {l : List α} (hk : ∀ x, (enc x).length = size) {m : Nat} (hm : l.length = m + 1) (h : w'.ownsRow w.heap.size e size v l.length (l.flatMap enc)) :
    ∃ g cap, v = .slice (some ⟨g, 0, none⟩) l.length cap ∧ l.length ≤ cap ∧ RowsAt enc size w' (some ⟨g, 0, none⟩) l := by
  obtain ⟨A, c, rfl, hc⟩ := own_form h
  obtain ⟨g, cap, hv, _⟩ := h.form (by omega)
  injection hv with hA _ _
  subst hA
  exact ⟨g, c, rfl, hc, RowsAt.of_own hk h⟩
theorem wpList_pushg (w : World) {ops : Array Oper} {rest : List Oper} {o : Oper} {a : Act} {Q : Exit → Act → World → Prop}
    (hg : o.guard = none) (s x : Operand) (t : TypeId) (hop : o.op = Op.call { callee := Callee.builtin Builtin.append, args := #[s, x], argTypes := #[t, t] })
    (E : ElemT e size bytes z) (hk : ∀ x, (enc x).length = size) (h1 : ∀ x, ∀ u ∈ enc x, u.oneCell' = true) (ht : Try.prog.underlying t = some (.slice e))
    (A : Option Addr) (l : List α) (hs : a.eval s = .slice A l.length l.length) (hnil : A = none → l = []) (hrow : RowsAt enc size w A l) (hlen : l.length ≤ 100000) (y : α) (B : Nat) (hx : a.eval x = .slice (some ⟨B, 0, none⟩) 1 1)
    (cs : Array Value) (hcs : cs.toList = enc y) (tt : TypeId) (fr : Nat × Nat) (hB : w.heap[B]? = some (.cells cs tt fr))
    (hK : ∀ g cap w', l.length + 1 ≤ cap → RowsAt enc size w' (some ⟨g, 0, none⟩) (l ++ [y]) → Below w.heap.size w w' → wpList Try.prog ops Q rest (a.put o.dst (.slice (some ⟨g, 0, none⟩) (l.length + 1) cap)) w') :
    wpList Try.prog ops Q (o :: rest) a w := by
  obtain ⟨i0, hi, hz0, hz1, hz2⟩ := info_parts E.info
  have hb : (l.length + 1) * bytes ≤ 100001 * 100 := Nat.mul_le_mul (by omega) E.small
  refine wpList_append_grows w hg s x t hop e i0 z size bytes ht hi hz0 hz1 hz2 E.zsz E.pos A l.length l.length (l.flatMap enc) hs (fun h => by rw [hnil h]; simp) (flatMap_len hk l) (hrow.olds hk) ⟨B, 0, none⟩ 1 1 (enc y) hx (by rw [hk]; omega) (news_new hB hcs) (h1 y) (by omega) (by simp only [maxLen]; omega) (by omega) ?_
  intro v' w' hown hgrow
  rw [push_flat, ← len_snoc l y] at hown
  obtain ⟨g, cap, rfl, hc, hr⟩ := rows_of_grown hk (len_snoc l y) hown
  rw [len_snoc] at hc ⊢
  exact hK g cap w' hc hr ((Below.refl _ w).grown hgrow (Nat.le_refl _) (fun k e => by cases e))
end
end Go.Proofs.Ytoogfdicmpkkgaa

namespace Go.Proofs.Ytoogfdicmpkkgaa
open Go.RowKit Go.Shelf Go.Maps Match
attribute [local go_sem] Oper.semAt_some

theorem enters42 : ∀ args w, (callFunc 42 args).run Try.prog w = .ok (.enter 42 args) w := fun args w => by simp [go_sem]
/-- which links are free -/
def freeP (s : Sh) (k : Nat) : Bool := !takenB s.l s.t k
theorem allows_free {n0 jb mb n : Nat} {s : Sh} {w : World} (hh : Head n0 w jb s) (h1 : n0 ≤ n) (h2 : n0 ≤ mb) (hli : ∀ x ∈ s.l, (0 ≤ x.1 ∧ x.1 < 12) ∧ 0 ≤ x.2 ∧ x.2 < 12) :
    Allows 42 #[.pointer (some ⟨jb, 0, none⟩)] #[] s.l.length n jb mb w (freeP s) := fun W k hW hk => free_any n0 jb s k W (hh.keep hW h1 h2) hk hli

def Sn (f : Sd → Int) (b : Bool) (x : Nat) : Prop := f (b, (x : Int)) = 1
def markS (f : Sd → Int) (b : Bool) (r : Nat) : Sd → Int := fun t => if t = (b, (r : Int)) then 1 else f t
theorem sn_mark (f : Sd → Int) (b : Bool) (r : Nat) (c : Bool) (x : Nat) : Sn (markS f b r) c x ↔ Sn f c x ∨ (c = b ∧ x = r) := by
  unfold Sn markS
  by_cases e : c = b ∧ x = r
  · obtain ⟨rfl, rfl⟩ := e; simp
  · rw [if_neg (fun h => e (by injection h with h1 h2; exact ⟨h1, by omega⟩))]
    exact ⟨.inl, fun h => h.resolve_right e⟩
def unseenL (f : Sd → Int) : Nat := (List.range 12).countP fun r => !(f (false, ((r : Nat) : Int)) == 1)
theorem unseenL_mark {f : Sd → Int} {r : Nat} (h : f (false, (r : Int)) ≠ 1) (hr : r < 12) : unseenL (markS f false r) + 1 = unseenL f := by
  unfold unseenL
  refine countP_one r (by simpa using h) (by simp [markS]) (fun x hx => ?_) 12 hr
  unfold markS
  rw [if_neg (fun e => hx (by injection e with _ e; omega))]
theorem unseenL_right (f : Sd → Int) (r : Nat) : unseenL (markS f true r) = unseenL f := by
  unfold unseenL
  refine List.countP_congr fun x _ => ?_
  unfold markS
  rw [if_neg (fun e => by injection e with e _; cases e)]
theorem unseenL_le (f : Sd → Int) : unseenL f ≤ 12 := by
  unfold unseenL
  have := List.countP_le_length (p := fun r => !(f (false, ((r : Nat) : Int)) == 1)) (l := List.range 12)
  simpa using this

section
variable {N : Net} {p : Nat → Bool} {P : Partners}
/-- what a visit of an item of the left list adds -/
structure VQ (N : Net) (p : Nat → Bool) (P : Partners) (left : Nat) (S S' : Bool → Nat → Prop) : Prop where
  grow : ∀ b x, S b x → S' b x
  here : S' false left
  shut : ∀ a, S' false a → ¬ S false a → ∀ k, N.ok p k → (N.e k).1 = a → S' true (N.e k).2 ∧ ∀ k', P (N.e k).2 = some k' → S' false (N.e k').1
  sound : ∀ X Y : Nat → Prop, (∀ k, N.ok p k → X (N.e k).1 → Y (N.e k).2) → (∀ r k, Y r → P r = some k → X (N.e k).1) → X left → (∀ x, S' false x → S false x ∨ X x) ∧ ∀ x, S' true x → S true x ∨ Y x
/-- on the way: the links in pre have been gone along -/
structure VI (N : Net) (p : Nat → Bool) (P : Partners) (left : Nat) (S : Bool → Nat → Prop) (pre : List Nat) (S1 : Bool → Nat → Prop) : Prop where
  grow : ∀ b x, S b x → S1 b x
  here : S1 false left
  shut : ∀ a, a ≠ left → S1 false a → ¬ S false a → ∀ k, N.ok p k → (N.e k).1 = a → S1 true (N.e k).2 ∧ ∀ k', P (N.e k).2 = some k' → S1 false (N.e k').1
  gone : ∀ k ∈ pre, S1 true (N.e k).2 ∧ ∀ k', P (N.e k).2 = some k' → S1 false (N.e k').1
  sound : (∀ k ∈ pre, N.ok p k ∧ (N.e k).1 = left) → ∀ X Y : Nat → Prop, (∀ k, N.ok p k → X (N.e k).1 → Y (N.e k).2) → (∀ r k, Y r → P r = some k → X (N.e k).1) → X left → (∀ x, S1 false x → S false x ∨ X x) ∧ ∀ x, S1 true x → S true x ∨ Y x
theorem VQ.same {left : Nat} {S : Bool → Nat → Prop} (h : S false left) : VQ N p P left S S :=
  ⟨fun _ _ h => h, h, fun _ h1 h2 => absurd h1 h2, fun _ _ _ _ _ => ⟨fun _ h => .inl h, fun _ h => .inl h⟩⟩
theorem VI.start {left : Nat} {S S1 : Bool → Nat → Prop} (h : ∀ b x, S1 b x ↔ S b x ∨ (b = false ∧ x = left)) : VI N p P left S [] S1 :=
  ⟨fun b x hs => (h b x).2 (.inl hs), (h _ _).2 (.inr ⟨rfl, rfl⟩), fun a hne h1 h2 => ((h _ _).1 h1).elim (fun h => absurd h h2) (fun h => absurd h.2 hne), fun k hk => (by cases hk),
   fun _ X Y _ _ hx => ⟨fun x hs => ((h _ _).1 hs).imp id (fun e => by rw [e.2]; exact hx), fun x hs => ((h _ _).1 hs).imp id (fun e => by cases e.1)⟩⟩
/-- a link to an item that has no partner -/
theorem VI.none {left k : Nat} {S S1 S2 : Bool → Nat → Prop} {pre : List Nat} (h : VI N p P left S pre S1) (h2 : ∀ b x, S2 b x ↔ S1 b x ∨ (b = true ∧ x = (N.e k).2)) (hP : P (N.e k).2 = Option.none) : VI N p P left S (pre ++ [k]) S2 := by
  have up : ∀ b x, S1 b x → S2 b x := fun b x hs => (h2 b x).2 (.inl hs)
  have same : ∀ x, S2 false x → S1 false x := fun x hs => ((h2 _ _).1 hs).elim id (fun e => by cases e.1)
  refine ⟨fun b x hs => up _ _ (h.grow b x hs), up _ _ h.here, fun a hne h1 h3 k' hk' he => ?_, fun k' hk' => ?_, fun hall X Y h3 h4 hx => ?_⟩
  · obtain ⟨g1, g2⟩ := h.shut a hne (same a h1) h3 k' hk' he
    exact ⟨up _ _ g1, fun k'' hk'' => up _ _ (g2 k'' hk'')⟩
  · rcases List.mem_append.1 hk' with hk' | hk'
    · obtain ⟨g1, g2⟩ := h.gone k' hk'
      exact ⟨up _ _ g1, fun k'' hk'' => up _ _ (g2 k'' hk'')⟩
    · simp at hk'; subst hk'
      exact ⟨(h2 _ _).2 (.inr ⟨rfl, rfl⟩), fun k'' hk'' => by rw [hP] at hk''; cases hk''⟩
  · obtain ⟨g1, g2⟩ := h.sound (fun k hk => hall k (List.mem_append_left _ hk)) X Y h3 h4 hx
    obtain ⟨o1, o2⟩ := hall k (by simp)
    exact ⟨fun x hs => g1 x (same x hs), fun x hs => ((h2 _ _).1 hs).elim (fun h => g2 x h) (fun e => .inr (by rw [e.2]; exact h3 k o1 (by rw [o2]; exact hx)))⟩
/-- a link to an item that has one: its partner is visited -/
theorem VI.some {left k k0 : Nat} {S S1 S2 S3 : Bool → Nat → Prop} {pre : List Nat} (h : VI N p P left S pre S1) (h2 : ∀ b x, S2 b x ↔ S1 b x ∨ (b = true ∧ x = (N.e k).2)) (hP : P (N.e k).2 = Option.some k0) (hv : VQ N p P (N.e k0).1 S2 S3) : VI N p P left S (pre ++ [k]) S3 := by
  have up : ∀ b x, S1 b x → S2 b x := fun b x hs => (h2 b x).2 (.inl hs)
  have up3 : ∀ b x, S1 b x → S3 b x := fun b x hs => hv.grow _ _ (up b x hs)
  have same : ∀ x, S2 false x → S1 false x := fun x hs => ((h2 _ _).1 hs).elim id (fun e => by cases e.1)
  refine ⟨fun b x hs => up3 _ _ (h.grow b x hs), up3 _ _ h.here, fun a hne h1 h3 k' hk' he => ?_, fun k' hk' => ?_, fun hall X Y h3 h4 hx => ?_⟩
  · by_cases e : S2 false a
    · obtain ⟨g1, g2⟩ := h.shut a hne (same a e) h3 k' hk' he
      exact ⟨up3 _ _ g1, fun k'' hk'' => up3 _ _ (g2 k'' hk'')⟩
    · exact hv.shut a h1 e k' hk' he
  · rcases List.mem_append.1 hk' with hk' | hk'
    · obtain ⟨g1, g2⟩ := h.gone k' hk'
      exact ⟨up3 _ _ g1, fun k'' hk'' => up3 _ _ (g2 k'' hk'')⟩
    · simp at hk'; subst hk'
      exact ⟨hv.grow _ _ ((h2 _ _).2 (.inr ⟨rfl, rfl⟩)), fun k'' hk'' => by rw [hP] at hk''; injection hk'' with e; rw [← e]; exact hv.here⟩
  · obtain ⟨g1, g2⟩ := h.sound (fun k hk => hall k (List.mem_append_left _ hk)) X Y h3 h4 hx
    obtain ⟨o1, o2⟩ := hall k (by simp)
    have hy := h3 k o1 (by rw [o2]; exact hx)
    obtain ⟨v1, v2⟩ := hv.sound X Y h3 h4 (h4 _ _ hy hP)
    exact ⟨fun x hs => (v1 x hs).elim (fun h => g1 x (same x h)) .inr, fun x hs => (v2 x hs).elim (fun h => ((h2 _ _).1 h).elim (fun h => g2 x h) (fun e => .inr (by rw [e.2]; exact hy))) .inr⟩
theorem VI.finish {left : Nat} {S S1 : Bool → Nat → Prop} {pre : List Nat} (h : VI N p P left S pre S1) (hall : ∀ k ∈ pre, N.ok p k ∧ (N.e k).1 = left) (hev : ∀ k, N.ok p k → (N.e k).1 = left → k ∈ pre) : VQ N p P left S S1 :=
  ⟨h.grow, h.here, fun a h1 h2 k hk he => by
    by_cases e : a = left
    · exact h.gone k (hev k hk (by rw [he, e]))
    · exact h.shut a e h1 h2 k hk he, h.sound hall⟩
end
end Go.Proofs.Ytoogfdicmpkkgaa
