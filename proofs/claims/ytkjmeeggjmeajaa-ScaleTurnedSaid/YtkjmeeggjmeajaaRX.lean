/- Rows: arguments opened, and read again behind a call that changed nothing that was there. Rows: slices that came in. -/
import Derived.Test.YtkjmeeggjmeajaaPW
import Derived.ProofKit
import Derived.Below
import Derived.ChangeSame
import Derived.Deep.SlicePairs
namespace Go.Proofs.Ytkjmeeggjmeajaa
open Go.ChangeShapes Go.WideShapes Go.ChangeAt Go.RowKit

section
variable {H : Type} {enc : TypeId × Value → H}

theorem post_of_below {P : Program} {f : Func} {s : ChangeSpec} {apart fresh handsOn again : Bool} {W W' : World} {args : Array Value} {v : Value} {ds gs : List (DataW H)} {before pa pv : List MemPlace}
    (hW : DataW.Whole enc P f.params.toList s.vars apart W args.toList ds gs before)
    (hres : ∀ (b : Nat) (sp : Nat → Bool) (hd : Bool), DataW.TrodAll enc P W' b sp hd f.resultTypes.toList (v.resultList f.resultTypes.size) (s.fn H (ds ++ gs)).results [])
    (hargs : ∀ sp : Nat → Bool, (∀ p ∈ before, sp p.block = true) → DataW.TrodAll enc P W' 0 sp true f.params.toList args.toList (s.fn H (ds ++ gs)).args pa)
    (hvars : ∀ sp : Nat → Bool, (∀ p ∈ before, sp p.block = true) → DataW.TrodVars enc P W' sp s.vars (s.fn H (ds ++ gs)).vars pv)
    (hps : before = pa ++ pv) (hb : Below W.heap.size W W')
    (hok : ∀ (j : Nat) (t : TypeId) (r : Value), f.resultTypes[j]? = some t → (v.resultList f.resultTypes.size)[j]? = some r → Value.okWide P W' .any 0 t r) :
    s.post enc P f apart fresh handsOn again W args v W' := by
  have hlt : ∀ p ∈ before, p.block < W.heap.size := fun p hp => hW.lt p hp
  have hold : ∀ p ∈ before, (fun b => decide (b < W.heap.size)) p.block = true := fun p hp => by simpa using hlt p hp
  refine ⟨ds, gs, before, [], pa, pv, hW, hres _ _ _, hargs _ hold, hvars _ hold, World.keptBut_mono (fun p hp => ⟨hp, ?_⟩) (hb.frame (· ∈ before)), fun _ => ?_⟩
  · rw [hps, List.mem_append] at hp
    exact Or.inr hp
  · obtain ⟨_, _, _, _, _, hz, hn⟩ := hW
    refine ⟨hok, _, _, ([] ++ pa) ++ pv, ⟨[] ++ pa, pv, trodAll_append (hargs _ (fun _ _ => rfl)) (hres _ _ _), hvars _ (fun _ _ => rfl), rfl, ?_, ?_⟩, ?_⟩
    · intro b off hp
      have hin : MemPlace.cell b off ∈ before := by rw [hps]; simpa using hp
      rw [hb.frozen (hlt _ hin)]
      exact hz b off hin
    · intro ha
      have := hn ha
      rw [hps] at this
      simpa using this
    · intro p hp _
      rw [hps]
      simpa using hp

theorem Try.own : ownKnob Try.prog.godebug = none := by kernel_rfl

/-- an argument reads as it did -/
theorem reads_again {t : TypeId} (hr : Try.prog.readableRec t = true) (hrow : t < Try.prog.types.size) {W W' : World} {v : Value} {d : DataW H} {ps : List MemPlace}
    (h : DataW.Trod enc Try.prog W 0 (fun _ => true) true t v d ps) (hb : Below W.heap.size W W') (hlt : ∀ x ∈ ps, x.block < W.heap.size) {sp : Nat → Bool} (hsp : ∀ x ∈ ps, sp x.block = true) :
    DataW.Trod enc Try.prog W' 0 sp true t v d ps :=
  WideElems.Trod_stays Try.laidOut hr hrow h (fun x hx => hb.same (hlt x hx)) hsp
theorem all_again {W W' : World} (hb : Below W.heap.size W W') {sp : Nat → Bool} : ∀ {ts : List TypeId} {vs : List Value} {ds : List (DataW H)} {ps : List MemPlace},
    (∀ t ∈ ts, Try.prog.readableRec t = true ∧ t < Try.prog.types.size) → DataW.TrodAll enc Try.prog W 0 (fun _ => true) true ts vs ds ps → (∀ x ∈ ps, x.block < W.heap.size) → (∀ x ∈ ps, sp x.block = true) →
    DataW.TrodAll enc Try.prog W' 0 sp true ts vs ds ps
  | [], [], [], _, _, h, _, _ => h
  | _ :: _, _ :: _, _ :: _, _, hT, ⟨p, q, h1, h2, e⟩, hlt, hs =>
    ⟨p, q, reads_again (hT _ (List.mem_cons_self ..)).1 (hT _ (List.mem_cons_self ..)).2 h1 hb (fun x hx => hlt x (by rw [e]; exact List.mem_append_left _ hx)) (fun x hx => hs x (by rw [e]; exact List.mem_append_left _ hx)),
      all_again hb (fun t ht => hT t (List.mem_cons_of_mem _ ht)) h2 (fun x hx => hlt x (by rw [e]; exact List.mem_append_right _ hx)) (fun x hx => hs x (by rw [e]; exact List.mem_append_right _ hx)), e⟩
end
end Go.Proofs.Ytkjmeeggjmeajaa

namespace Go.Proofs.Ytkjmeeggjmeajaa
open Go.ChangeShapes Go.WideShapes Go.ChangeAt Go.RowKit Go.Deep

section
variable {H : Type} {enc : TypeId × Value → H} {W : World} {base : Nat}
theorem Try.cells50 : Try.prog.cellsOf 50 = 2 := by kernel_rfl
theorem addr_add {b off i : Nat} : (⟨b, off, none⟩ : Addr).add i = ⟨b, off + i, none⟩ := by
  unfold Addr.add
  by_cases h : i = 0
  · subst h; simp
  · rw [if_neg h]
theorem plain_of_cell {a : Addr} {v : Value} (h : W.cell? (a.add 0) = some v) : ∃ b off, a = ⟨b, off, none⟩ := by
  obtain ⟨b, off, e⟩ := a
  cases e with
  | none => exact ⟨b, off, rfl⟩
  | some e => exact absurd (World.cell?_spot h) (by simp [Addr.add])
set_option maxRecDepth 100000 in
theorem openI {t e : TypeId} (ht : Try.prog.underlying t = some (.slice e)) (he : Try.prog.underlying e = some (.int .i64)) (hc : Try.prog.cellsOf e = 1) {v : Value} {d : DataW H} {p : List MemPlace} (hval : Value.okWide Try.prog W .any base t v) (h : DataW.Trod enc Try.prog W 0 (fun _ => true) true t v d p) :
    ∃ A l c, v = .slice A l.length c ∧ l.length ≤ c ∧ c ≤ maxLen ∧ IntsAt W A l ∧ ∀ x ∈ l, (Lit.int .i64 x).wf = true := by
  obtain ⟨a0, len, cap, rfl⟩ := okWide_slice ht hval
  obtain ⟨fuel, hf⟩ := h
  rcases open_ints ht he hc hf with ⟨hcs, hx⟩ | ⟨a, len', cap', zs, hcs, _, hl, hm, hz, hx, hcell, hwz⟩
  · simp [Value.cells] at hcs
    obtain ⟨rfl, rfl, rfl⟩ := hcs
    exact ⟨none, [], 0, rfl, Nat.le_refl _, by unfold maxLen; omega, RowsAt.nil _, by simp⟩
  · simp [Value.cells] at hcs
    obtain ⟨rfl, rfl, rfl⟩ := hcs
    simp only [if_true] at hz
    refine ⟨some a, zs.take len, cap, by rw [List.length_take, hz, Nat.min_eq_left hl], by rw [List.length_take, hz, Nat.min_eq_left hl]; exact hl, hm, ?_, fun x hx => hwz x (List.mem_of_mem_take hx)⟩
    intro i hi
    rw [List.length_take, hz, Nat.min_eq_left hl] at hi
    have h0 := hcell 0 (by omega)
    obtain ⟨b, off, rfl⟩ := plain_of_cell h0
    refine ⟨b, off, rfl, fun j u hu => ?_⟩
    obtain rfl : j = 0 := by
      have := (List.getElem?_eq_some_iff.1 hu).1
      simp [encI] at this; omega
    have hu' : Value.int .i64 (zs.take len)[i] = u := by simpa [encI] using hu
    have hci := hcell i (by omega)
    rw [addr_add] at hci
    rw [Nat.mul_one, Nat.add_zero, hci, ← hu']
    rw [List.getElem_take, List.getD_eq_getElem?_getD, List.getElem?_eq_getElem (by omega)]; rfl
theorem pair_choose {n : Nat} {P : Nat → Int × Int → Prop} (h : ∀ i, i < n → ∃ x, P i x) : ∃ l : List (Int × Int), l.length = n ∧ ∀ i (hi : i < l.length), P i l[i] := by
  induction n with
  | zero => exact ⟨[], rfl, fun i hi => by simp at hi⟩
  | succ n ih =>
    obtain ⟨l, hl, h1⟩ := ih (fun i hi => h i (by omega))
    obtain ⟨x, hx⟩ := h n (by omega)
    refine ⟨l ++ [x], by simp [hl], fun i hi => ?_⟩
    by_cases e : i < l.length
    · rw [List.getElem_append_left e]; exact h1 i e
    · have : i = n := by simp at hi; omega
      subst this
      rw [List.getElem_append_right (by omega)]
      simpa [hl] using hx
set_option maxRecDepth 100000 in
theorem openR {v : Value} {d : DataW H} {p : List MemPlace} (hval : Value.okWide Try.prog W .any base 22 v) (h : DataW.Trod enc Try.prog W 0 (fun _ => true) true 22 v d p) :
    ∃ A l c, v = .slice A l.length c ∧ l.length ≤ c ∧ c ≤ maxLen ∧ RangesAt W A l ∧ ∀ x ∈ l, (Lit.int .i64 x.1).wf = true ∧ (Lit.int .i64 x.2).wf = true := by
  obtain ⟨a0, len, cap, rfl⟩ := okWide_slice Try.underlying22 hval
  obtain ⟨fuel, hf⟩ := h
  rcases open_slice_pairs Try.underlying22 Try.underlying50 Try.cells50 rfl rfl Try.cells2 Try.cells2 hf with ⟨hcs, hx⟩ | ⟨a, len', cap', m, n, V0, V1, D0, D1, P0, P1, hcs, _, hl, hm, hmm, hx, hcell⟩
  · simp [Value.cells] at hcs
    obtain ⟨rfl, rfl, rfl⟩ := hcs
    exact ⟨none, [], 0, rfl, Nat.le_refl _, by unfold maxLen; omega, RowsAt.nil _, by simp⟩
  · simp [Value.cells] at hcs
    obtain ⟨rfl, rfl, rfl⟩ := hcs
    simp only [if_true] at hmm
    subst hmm
    have each : ∀ i, i < len → ∃ x : Int × Int, W.cell? (a.add (i * 2)) = some (.int .i64 x.1) ∧ W.cell? (a.add (i * 2 + 1)) = some (.int .i64 x.2) ∧ (Lit.int .i64 x.1).wf = true ∧ (Lit.int .i64 x.2).wf = true := fun i hi => by
      obtain ⟨h1, h2, h3, h4⟩ := hcell i (by omega)
      obtain ⟨x, e1, _, w1⟩ := DataW.trod_int Try.underlying2 h3
      obtain ⟨y, e2, _, w2⟩ := DataW.trod_int Try.underlying2 h4
      simp at e1 e2
      exact ⟨(x, y), by rw [h1, e1], by rw [h2, e2], w1, w2⟩
    obtain ⟨l, hll, hl2⟩ := pair_choose each
    refine ⟨some a, l, _, by rw [hll], by rw [hll]; exact hl, hm, fun i hi => ?_, fun x hx => by obtain ⟨i, hi, rfl⟩ := List.mem_iff_getElem.1 hx; exact (hl2 i hi).2.2⟩
    have h0 := (hl2 0 (by omega)).1
    rw [Nat.zero_mul] at h0
    obtain ⟨b, off, rfl⟩ := plain_of_cell h0
    obtain ⟨g1, g2, _, _⟩ := hl2 i hi
    rw [addr_add] at g1 g2
    refine ⟨b, off, rfl, fun j u hu => ?_⟩
    have hj := (List.getElem?_eq_some_iff.1 hu).1
    simp [encR] at hj
    have : j = 0 ∨ j = 1 := by omega
    rcases this with rfl | rfl
    · simp [encR] at hu; rw [← hu]; exact g1
    · simp [encR] at hu; rw [← hu, Nat.add_assoc]; exact g2
theorem Try.cells26e : Try.prog.cellsOf 3 = 1 := by kernel_rfl
theorem all_again' {W W' : World} (hb : Below W.heap.size W W') {sp : Nat → Bool} {ts : List TypeId} {vs : List Value} {ds : List (DataW H)} {ps : List MemPlace}
    (hT : (ts.all fun t => Try.prog.readableRec t && decide (t < Try.prog.types.size)) = true) (h : DataW.TrodAll enc Try.prog W 0 (fun _ => true) true ts vs ds ps) (hlt : ∀ x ∈ ps, x.block < W.heap.size) (hs : ∀ x ∈ ps, sp x.block = true) :
    DataW.TrodAll enc Try.prog W' 0 sp true ts vs ds ps :=
  all_again hb (fun t ht => by have := List.all_eq_true.1 hT t ht; simp only [Bool.and_eq_true, decide_eq_true_eq] at this; exact this) h hlt hs
theorem resTrue (b : Nat) (sp : Nat → Bool) (hd : Bool) (W' : World) : DataW.Trod enc Try.prog W' b sp hd 4 (.bool true) (.lit (.bool true)) [] := shut_bool Try.underlying4 true
end
end Go.Proofs.Ytkjmeeggjmeajaa
