/- Rows: arguments opened, and read again behind a call that changed nothing that was there. Rows: slices that came in. -/
import Derived.Test.YtggcooplhodocaaDoorKA
import Derived.ProofKit
import Derived.Below
import Derived.ChangeSame
import Derived.Deep.SlicePairs
import Derived.OpenShut
import Derived.LaidMore
import Derived.Stop.Joined
import Derived.SevenTiedAt
namespace Go.Proofs.YtggcooplhodocaaDoor
open Go.ChangeShapes Go.WideShapes Go.ChangeAt Go.RowKit

section
variable {H : Type} {enc : TypeId × Value → H}

theorem post_of_below {P : Program} {f : Func} {s : ChangeSpec} {apart fresh handsOn again : Bool} {W W' : World} {args : Array Value} {v : Value} {ds gs : List (DataW H)} {before pa pv : List MemPlace}
    (hW : DataW.Whole enc P f.params.toList s.vars apart W args.toList ds gs before)
    (hres : ∀ (b : Nat) (sp : Nat → Bool) (hd : Bool), DataW.TrodAll enc P W' b sp hd f.resultTypes.toList (v.resultList f.resultTypes.size) (s.fn H (ds ++ gs)).results [])
    (hargs : ∀ sp : Nat → Bool, (∀ p ∈ before, sp p.block = true) → DataW.TrodAll enc P W' 0 sp true f.params.toList args.toList (s.fn H (ds ++ gs)).args pa)
    (hvars : ∀ sp : Nat → Bool, (∀ p ∈ before, sp p.block = true) → DataW.TrodVars enc P W' sp s.vars (s.fn H (ds ++ gs)).vars pv)
    (hps : before = pa ++ pv) (hb : Below W.heap.size W W')
    (hok : ∀ (j : Nat) (t : TypeId) (r : Value), f.resultTypes[j]? = some t → (v.resultList f.resultTypes.size)[j]? = some r → Value.okWide P W' .any 0 t r) :
    s.post enc P f apart fresh handsOn again W args v W' := by
  have hlt : ∀ p ∈ before, p.block < W.heap.size := fun p hp => hW.lt p hp
  have hold : ∀ p ∈ before, (fun b => decide (b < W.heap.size)) p.block = true := fun p hp => by simpa using hlt p hp
  refine ⟨ds, gs, before, [], pa, pv, hW, hres _ _ _, hargs _ hold, hvars _ hold, World.keptBut_mono (fun p hp => ⟨hp, ?_⟩) (hb.frame (· ∈ before)), fun _ => ?_⟩
  · rw [hps, List.mem_append] at hp
    exact Or.inr hp
  · obtain ⟨_, _, _, _, _, hz, hn⟩ := hW
    refine ⟨hok, _, _, ([] ++ pa) ++ pv, ⟨[] ++ pa, pv, trodAll_append (hargs _ (fun _ _ => rfl)) (hres _ _ _), hvars _ (fun _ _ => rfl), rfl, ?_, ?_⟩, ?_⟩
    · intro b off hp
      have hin : MemPlace.cell b off ∈ before := by rw [hps]; simpa using hp
      rw [hb.frozen (hlt _ hin)]
      exact hz b off hin
    · intro ha
      have := hn ha
      rw [hps] at this
      simpa using this
    · intro p hp _
      rw [hps]
      simpa using hp

theorem Tryd.laidOut : laidOutB Tryd.prog = true := by kernel_rfl
theorem Tryd.own : ownKnob Tryd.prog.godebug = none := by kernel_rfl

/-- an argument reads as it did -/
theorem reads_again {t : TypeId} (hr : Tryd.prog.readableRec t = true) (hrow : t < Tryd.prog.types.size) {W W' : World} {v : Value} {d : DataW H} {ps : List MemPlace}
    (h : DataW.Trod enc Tryd.prog W 0 (fun _ => true) true t v d ps) (hb : Below W.heap.size W W') (hlt : ∀ x ∈ ps, x.block < W.heap.size) {sp : Nat → Bool} (hsp : ∀ x ∈ ps, sp x.block = true) :
    DataW.Trod enc Tryd.prog W' 0 sp true t v d ps :=
  WideElems.Trod_stays Tryd.laidOut hr hrow h (fun x hx => hb.same (hlt x hx)) hsp
theorem all_again {W W' : World} (hb : Below W.heap.size W W') {sp : Nat → Bool} : ∀ {ts : List TypeId} {vs : List Value} {ds : List (DataW H)} {ps : List MemPlace},
    (∀ t ∈ ts, Tryd.prog.readableRec t = true ∧ t < Tryd.prog.types.size) → DataW.TrodAll enc Tryd.prog W 0 (fun _ => true) true ts vs ds ps → (∀ x ∈ ps, x.block < W.heap.size) → (∀ x ∈ ps, sp x.block = true) →
    DataW.TrodAll enc Tryd.prog W' 0 sp true ts vs ds ps
  | [], [], [], _, _, h, _, _ => h
  | _ :: _, _ :: _, _ :: _, _, hT, ⟨p, q, h1, h2, e⟩, hlt, hs =>
    ⟨p, q, reads_again (hT _ (List.mem_cons_self ..)).1 (hT _ (List.mem_cons_self ..)).2 h1 hb (fun x hx => hlt x (by rw [e]; exact List.mem_append_left _ hx)) (fun x hx => hs x (by rw [e]; exact List.mem_append_left _ hx)),
      all_again hb (fun t ht => hT t (List.mem_cons_of_mem _ ht)) h2 (fun x hx => hlt x (by rw [e]; exact List.mem_append_right _ hx)) (fun x hx => hs x (by rw [e]; exact List.mem_append_right _ hx)), e⟩
end
end Go.Proofs.YtggcooplhodocaaDoor

namespace Go.Proofs.YtggcooplhodocaaDoor
open Go.ChangeShapes Go.WideShapes Go.ChangeAt Go.RowKit Go.Deep Fam

section
variable {H : Type} {enc : TypeId × Value → H} {W : World} {base : Nat}
theorem Tryd.cellsIp : Tryd.prog.cellsOf 3 = 1 := by kernel_rfl
theorem Tryd.cellsLp : Tryd.prog.cellsOf 2 = 1 := by kernel_rfl
theorem Tryd.cells8p : Tryd.prog.cellsOf 5 = 1 := by kernel_rfl
theorem Tryd.cellsTp : Tryd.prog.cellsOf 50 = 3 := by kernel_rfl
theorem Tryd.cellsTs : Tryd.prog.cellsOf 22 = 1 := by kernel_rfl
theorem Tryd.cellsIs : Tryd.prog.cellsOf 25 = 1 := by kernel_rfl
theorem Tryd.cellsBp : Tryd.prog.cellsOf 24 = 3 := by kernel_rfl
theorem Tryd.cellsPp : Tryd.prog.cellsOf 38 = 2 := by kernel_rfl
theorem addr_add {b off i : Nat} : (⟨b, off, none⟩ : Addr).add i = ⟨b, off + i, none⟩ := by
  unfold Addr.add
  by_cases h : i = 0
  · subst h; simp
  · rw [if_neg h]
theorem plain_of_cell {a : Addr} {v : Value} (h : W.cell? (a.add 0) = some v) : ∃ b off, a = ⟨b, off, none⟩ := by
  obtain ⟨b, off, e⟩ := a
  cases e with
  | none => exact ⟨b, off, rfl⟩
  | some e => exact absurd (World.cell?_spot h) (by simp [Addr.add])
set_option maxRecDepth 100000 in
theorem cellI {k : IntKind} {t e : TypeId} (ht : Tryd.prog.underlying t = some (.slice e)) (he : Tryd.prog.underlying e = some (.int k)) (hc : Tryd.prog.cellsOf e = 1) {c : Value} {fuel : Nat} {x : DataW H × List MemPlace} (hf : DataW.trod enc Tryd.prog W 0 (fun _ => true) true fuel t [c] = some x) :
    ∃ A l cap, c = .slice A l.length cap ∧ l.length ≤ cap ∧ cap ≤ maxLen ∧ RowsAt (fun x : Int => [.int k x]) 1 W A l ∧ ∀ x ∈ l, (Lit.int k x).wf = true := by
  rcases open_ints ht he hc hf with ⟨hcs, hx⟩ | ⟨a, len', cap', zs, hcs, _, hl, hm, hz, hx, hcell, hwz⟩
  · simp at hcs
    subst hcs
    exact ⟨none, [], 0, rfl, Nat.le_refl _, by unfold maxLen; omega, RowsAt.nil _, by simp⟩
  · simp at hcs
    subst hcs
    simp only [if_true] at hz
    refine ⟨some a, zs.take len', cap', by rw [List.length_take, hz, Nat.min_eq_left hl], by rw [List.length_take, hz, Nat.min_eq_left hl]; exact hl, hm, ?_, fun x hx => hwz x (List.mem_of_mem_take hx)⟩
    intro i hi
    rw [List.length_take, hz, Nat.min_eq_left hl] at hi
    have h0 := hcell 0 (by omega)
    obtain ⟨b, off, rfl⟩ := plain_of_cell h0
    refine ⟨b, off, rfl, fun j u hu => ?_⟩
    obtain rfl : j = 0 := by
      have := (List.getElem?_eq_some_iff.1 hu).1
      simp at this; omega
    have hu' : Value.int k (zs.take len')[i] = u := by simpa using hu
    have hci := hcell i (by omega)
    rw [addr_add] at hci
    rw [Nat.mul_one, Nat.add_zero, hci, ← hu']
    rw [List.getElem_take, List.getD_eq_getElem?_getD, List.getElem?_eq_getElem (by omega)]; rfl
set_option maxRecDepth 100000 in
theorem openK {k : IntKind} {t e : TypeId} (ht : Tryd.prog.underlying t = some (.slice e)) (he : Tryd.prog.underlying e = some (.int k)) (hc : Tryd.prog.cellsOf e = 1) {v : Value} {d : DataW H} {p : List MemPlace} (hval : Value.okWide Tryd.prog W .any base t v) (h : DataW.Trod enc Tryd.prog W 0 (fun _ => true) true t v d p) :
    ∃ A l c, v = .slice A l.length c ∧ l.length ≤ c ∧ c ≤ maxLen ∧ RowsAt (fun x : Int => [.int k x]) 1 W A l ∧ ∀ x ∈ l, (Lit.int k x).wf = true := by
  obtain ⟨a0, len, cap, rfl⟩ := okWide_slice ht hval
  obtain ⟨fuel, hf⟩ := h
  exact cellI ht he hc (c := .slice a0 len cap) (by simpa [Value.cells] using hf)
theorem list_choose {α : Type} {n : Nat} {P : Nat → α → Prop} (h : ∀ i, i < n → ∃ x, P i x) : ∃ l : List α, l.length = n ∧ ∀ i (hi : i < l.length), P i l[i] := by
  induction n with
  | zero => exact ⟨[], rfl, fun i hi => by simp at hi⟩
  | succ n ih =>
    obtain ⟨l, hl, h1⟩ := ih (fun i hi => h i (by omega))
    obtain ⟨x, hx⟩ := h n (by omega)
    refine ⟨l ++ [x], by simp [hl], fun i hi => ?_⟩
    by_cases e : i < l.length
    · rw [List.getElem_append_left e]; exact h1 i e
    · have : i = n := by simp at hi; omega
      subst this
      rw [List.getElem_append_right (by omega)]
      simpa [hl] using hx
def wfT (x : St) : Prop := (Lit.int .i64 x.1).wf = true ∧ (Lit.int .i64 x.2.1).wf = true ∧ (Lit.int .i64 x.2.2).wf = true
set_option maxRecDepth 100000 in
theorem stepOf {fuel : Nat} {cs : List Value} {x : DataW H × List MemPlace} (hl : cs.length = 3) (hf : DataW.trod enc Tryd.prog W 0 (fun _ => true) true fuel 50 cs = some x) :
    ∃ y : St, cs = [.int .i64 y.1, .int .i64 y.2.1, .int .i64 y.2.2] ∧ wfT y := by
  match cs, hl with
  | [c0, c1, c2], _ =>
    obtain ⟨xs, n, _, _, _, hlen, hf⟩ := DataW.trod_struct Tryd.underlying50 hf
    match xs, hlen with
    | [z0, z1, z2], _ =>
      have h0 := hf 0 _ rfl
      have h1 := hf 1 _ rfl
      have h2 := hf 2 _ rfl
      simp [Tryd.cellsIp, Tryd.cellsLp] at h0 h1 h2
      obtain ⟨a, e0, _, w0⟩ := DataW.trod_int Tryd.underlying3 h0
      obtain ⟨b, e1, _, w1⟩ := DataW.trod_int Tryd.underlying3 h1
      obtain ⟨c, e2, _, w2⟩ := DataW.trod_int Tryd.underlying2 h2
      simp at e0 e1 e2
      exact ⟨(a, b, c), by rw [e0, e1, e2], w0, w1, w2⟩
set_option maxRecDepth 100000 in
theorem cellT {c : Value} {fuel : Nat} {x : DataW H × List MemPlace} (hf : DataW.trod enc Tryd.prog W 0 (fun _ => true) true fuel 22 [c] = some x) :
    ∃ A l cap, c = .slice A l.length cap ∧ l.length ≤ cap ∧ cap ≤ maxLen ∧ StepsAt W A l ∧ ∀ x ∈ l, wfT x := by
  rcases open_slice Tryd.underlying22 hf with ⟨hcs, hx⟩ | ⟨a, len', cap', m, n, D, Pl, hcs, _, hl, hm, hmm, hx, hcell⟩
  · simp at hcs
    subst hcs
    exact ⟨none, [], 0, rfl, Nat.le_refl _, by unfold maxLen; omega, RowsAt.nil _, by simp⟩
  · simp at hcs
    subst hcs
    simp only [if_true] at hmm
    subst hmm
    have each : ∀ i, i < len' → ∃ x : St, (∀ j v, (encT x)[j]? = some v → W.cell? ((a.add (i * 3)).add j) = some v) ∧ wfT x := fun i hi => by
      obtain ⟨cs', h1, h2⟩ := hcell i (by omega)
      rw [Tryd.cellsTp] at h1
      obtain ⟨_, hlen, hc⟩ := World.cells?_some h1
      obtain ⟨y, rfl, hw⟩ := stepOf hlen h2
      refine ⟨y, fun j v hv => ?_, hw⟩
      have hj : j < 3 := (List.getElem?_eq_some_iff.1 hv).1
      have := hc j (by omega)
      rw [← hv]
      first | exact this | simpa [encT] using this
    obtain ⟨l, hll, hl2⟩ := list_choose each
    refine ⟨some a, l, _, by rw [hll], by rw [hll]; exact hl, hm, fun i hi => ?_, fun x hx => by obtain ⟨i, hi, rfl⟩ := List.mem_iff_getElem.1 hx; exact (hl2 i hi).2⟩
    have h0 := (hl2 0 (by omega)).1 0 _ rfl
    rw [Nat.zero_mul] at h0
    have ea : a.add 0 = a := by unfold Addr.add; rw [if_pos rfl]
    rw [ea] at h0
    obtain ⟨b, off, rfl⟩ := plain_of_cell h0
    refine ⟨b, off, rfl, fun j u hu => ?_⟩
    have := (hl2 i hi).1 j u hu
    rw [addr_add, addr_add] at this
    exact this
set_option maxRecDepth 100000 in
theorem openBook {v : Value} {d : DataW H} {p : List MemPlace} (hval : Value.okWide Tryd.prog W .any base 24 v) (h : DataW.Trod enc Tryd.prog W 0 (fun _ => true) true 24 v d p) :
    ∃ S R A ca l, v = vBook S R A (List.length l) ca ∧ StepsAt W A l ∧ l.length ≤ ca ∧ ca ≤ 9223372036854775807 ∧ (Lit.int .i64 S).wf = true ∧ (Lit.int .i64 R).wf = true ∧ ∀ x ∈ l, wfT x := by
  obtain ⟨cs, rfl, hsz⟩ := okWide_struct Tryd.underlying24 hval
  rw [Tryd.cellsBp] at hsz
  obtain ⟨cs⟩ := cs
  match cs, hsz with
  | [c0, c1, c2], _ =>
    obtain ⟨fuel, hf⟩ := h
    obtain ⟨xs, n, _, _, _, hlen, hf⟩ := DataW.trod_struct Tryd.underlying24 hf
    match xs, hlen with
    | [z0, z1, z2], _ =>
      have h0 := hf 0 _ rfl
      have h1 := hf 1 _ rfl
      have h2 := hf 2 _ rfl
      simp [Value.cells, Tryd.cellsIp, Tryd.cellsTs] at h0 h1 h2
      obtain ⟨S, e0, _, w0⟩ := DataW.trod_int Tryd.underlying3 h0
      obtain ⟨R, e1, _, w1⟩ := DataW.trod_int Tryd.underlying3 h1
      simp at e0 e1
      obtain ⟨A, l, ca, e2, hca, hcm, hl, hw⟩ := cellT h2
      unfold maxLen at hcm
      subst e0; subst e1; subst e2
      exact ⟨S, R, A, ca, l, rfl, hl, hca, by omega, w0, w1, hw⟩
set_option maxRecDepth 100000 in
theorem openPrices {v : Value} {d : DataW H} {p : List MemPlace} (hval : Value.okWide Tryd.prog W .any base 36 v) (h : DataW.Trod enc Tryd.prog W 0 (fun _ => true) true 36 v d p) :
    ∃ A P c, v = .slice A (List.length P) c ∧ P.length ≤ c ∧ c ≤ maxLen ∧ PsAt W A P ∧ ∀ x ∈ P, x.1.length ≤ 9223372036854775807 := by
  obtain ⟨a0, len, cap, rfl⟩ := okWide_slice Tryd.underlying36 hval
  obtain ⟨fuel, hf⟩ := h
  have hf' : DataW.trod enc Tryd.prog W 0 (fun _ => true) true fuel 36 [.slice a0 len cap] = some (d, p) := by simpa [Value.cells] using hf
  rcases open_slice_pairs Tryd.underlying36 Tryd.underlying38 Tryd.cellsPp rfl rfl Tryd.cellsIs Tryd.cellsLp hf' with ⟨hcs, hx⟩ | ⟨a, len', cap', m, n, V0, V1, D0, D1, P0, P1, hcs, _, hl, hm, hmm, hx, hcell⟩
  · simp at hcs
    obtain ⟨rfl, rfl, rfl⟩ := hcs
    exact ⟨none, [], 0, rfl, Nat.le_refl _, by unfold maxLen; omega, ⟨[], RowsAt.nil _, rfl, fun i h => by simp at h⟩, by simp⟩
  · simp at hcs
    obtain ⟨rfl, rfl, rfl⟩ := hcs
    simp only [if_true] at hmm
    subst hmm
    have each : ∀ i, i < len → ∃ x : Qr × Pc, W.cell? (a.add (i * 2)) = some (.slice x.1.1 x.1.2.1 x.1.2.2.1) ∧ W.cell? (a.add (i * 2 + 1)) = some (.int .i64 x.1.2.2.2) ∧ x.1.2.1 = x.2.1.length ∧ x.1.2.2.2 = x.2.2 ∧ IntsAt W x.1.1 x.2.1 ∧ x.2.1.length ≤ 9223372036854775807 := fun i hi => by
      obtain ⟨h1, h2, h3, h4⟩ := hcell i (by omega)
      obtain ⟨A, g, cg, e1, hg1, hg2, hg, _⟩ := cellI Tryd.underlying25 Tryd.underlying3 Tryd.cellsIp h3
      obtain ⟨y, e2, _, w2⟩ := DataW.trod_int Tryd.underlying2 h4
      simp at e2
      unfold maxLen at hg2
      exact ⟨((A, g.length, cg, y), (g, y)), by rw [h1, e1], by rw [h2, e2], rfl, rfl, hg, by dsimp only; omega⟩
    obtain ⟨X, hXl, hX⟩ := list_choose each
    refine ⟨some a, X.map (·.2), _, by rw [List.length_map, hXl], by rw [List.length_map, hXl]; exact hl, hm, ⟨X.map (·.1), fun i hi => ?_, by simp, fun i h1 h2 => ?_⟩, fun x hx => ?_⟩
    · have hi' : i < X.length := by simpa using hi
      have h0 := (hX 0 (by omega)).1
      rw [Nat.zero_mul] at h0
      obtain ⟨b, off, rfl⟩ := plain_of_cell h0
      obtain ⟨g1, g2, _⟩ := hX i hi'
      rw [addr_add] at g1 g2
      refine ⟨b, off, rfl, fun j u hu => ?_⟩
      rw [List.getElem_map] at hu
      have hj : j < 2 := (List.getElem?_eq_some_iff.1 hu).1
      have : j = 0 ∨ j = 1 := by omega
      rcases this with rfl | rfl
      · simp [encQ] at hu; rw [← hu]; exact g1
      · simp [encQ] at hu; rw [← hu, Nat.add_assoc]; exact g2
    · have hi' : i < X.length := by simpa using h1
      obtain ⟨_, _, g3, g4, g5, _⟩ := hX i hi'
      rw [List.getElem_map, List.getElem_map]
      exact ⟨g3, g4, g5⟩
    · obtain ⟨y, hy, rfl⟩ := List.mem_map.1 hx
      obtain ⟨i, hi, rfl⟩ := List.mem_iff_getElem.1 hy
      exact (hX i hi).2.2.2.2.2
theorem all_again' {W W' : World} (hb : Below W.heap.size W W') {sp : Nat → Bool} {ts : List TypeId} {vs : List Value} {ds : List (DataW H)} {ps : List MemPlace}
    (hT : (ts.all fun t => Tryd.prog.readableRec t && decide (t < Tryd.prog.types.size)) = true) (h : DataW.TrodAll enc Tryd.prog W 0 (fun _ => true) true ts vs ds ps) (hlt : ∀ x ∈ ps, x.block < W.heap.size) (hs : ∀ x ∈ ps, sp x.block = true) :
    DataW.TrodAll enc Tryd.prog W' 0 sp true ts vs ds ps :=
  all_again hb (fun t ht => by have := List.all_eq_true.1 hT t ht; simp only [Bool.and_eq_true, decide_eq_true_eq] at this; exact this) h hlt hs
theorem resTrue (b : Nat) (sp : Nat → Bool) (hd : Bool) (W' : World) : DataW.Trod enc Tryd.prog W' b sp hd 4 (.bool true) (.lit (.bool true)) [] := shut_bool Tryd.underlying4 true
theorem trodAll_four {P : Program} {w : World} {b0 : Nat} {spare : Nat → Bool} {held : Bool} {t t' t'' t3 : TypeId} {args : Array Value} {ds : List (DataW H)} {ps : List MemPlace} (h : DataW.TrodAll enc P w b0 spare held [t, t', t'', t3] args.toList ds ps) :
    ∃ v v' v'' v3 d d' d'' d3 p p' p'' p3, args = #[v, v', v'', v3] ∧ ds = [d, d', d'', d3] ∧ ps = p ++ p' ++ p'' ++ p3 ∧ DataW.Trod enc P w b0 spare held t v d p ∧ DataW.Trod enc P w b0 spare held t' v' d' p' ∧ DataW.Trod enc P w b0 spare held t'' v'' d'' p'' ∧ DataW.Trod enc P w b0 spare held t3 v3 d3 p3 := by
  obtain ⟨v, vs, d, ds', p, q, hargs, rfl, rfl, hd, hrest⟩ := trodAll_cons h
  obtain ⟨v', vs', d', ds'', p', q', rfl, rfl, rfl, hd', hrest'⟩ := trodAll_cons hrest
  obtain ⟨v'', vs'', d'', ds3, p'', q'', rfl, rfl, rfl, hd'', hrest''⟩ := trodAll_cons hrest'
  obtain ⟨v3, vs3, d3, ds4, p3, q3, rfl, rfl, rfl, hd3, hrest3⟩ := trodAll_cons hrest''
  obtain ⟨rfl, rfl, rfl⟩ := trodAll_nil hrest3
  exact ⟨v, v', v'', v3, d, d', d'', d3, p, p', p'', p3, by cases args; simp_all, rfl, by simp, hd, hd', hd'', hd3⟩
end
theorem no_stand {f : FuncId} {fn0 : Func} {c : String} (h1 : Tryd.prog.funcNamed c = some f) (h2 : Tryd.prog.funcs[f]? = some fn0) (h3 : false = Tryd.prog.looks []) (h4 : (fn0.params.toList.all fun t => !Tryd.prog.wantsStandIn t) = true) :
    ∀ f' fn, Tryd.prog.funcNamed c = some f' → Tryd.prog.funcs[f']? = some fn → false = Tryd.prog.looks [] ∧ ∀ (j : Nat) t, fn.params[j]? = some t → Tryd.prog.wantsStandIn t = false := fun f' fn hf hfn => by
  obtain rfl : f = f' := Option.some.inj (h1.symm.trans hf)
  obtain rfl : fn0 = fn := Option.some.inj (h2.symm.trans hfn)
  refine ⟨h3, fun j t ht => ?_⟩
  have hm : t ∈ fn0.params.toList := by
    rw [← Array.getElem?_toList] at ht
    exact List.mem_of_getElem? ht
  have := List.all_eq_true.1 h4 t hm
  simpa using this
/-! the tables that math/bits lays -/
def laidT {H : Type} : List (String × DataW H) := [("math/bits.deBruijn32tab", Rows.laid_math_bits_deBruijn32tab), ("math/bits.deBruijn64tab", Rows.laid_math_bits_deBruijn64tab)]
theorem Tryd.g32 : Tryd.prog.globalNamed "math/bits.deBruijn32tab" = some 0 := by kernel_rfl
theorem Tryd.g64 : Tryd.prog.globalNamed "math/bits.deBruijn64tab" = some 1 := by kernel_rfl
theorem Tryd.tg64 : (Tryd.prog.globals[1]?).map (·.type) = some 129 := by kernel_rfl
theorem door_met (os : Os) (args : Array Value) : laidMetH Tryd.prog laidT ((World.doorLaid Tryd.prog 400 os).forCall (fun _ _ => 0) ⟨#[], args, []⟩).memory :=
  laidMetH_of_parts3 (fuel := 8) (laidMet_of_run' 8 (by kernel_rfl) (by kernel_rfl)) (by kernel_rfl) (by kernel_rfl)
set_option maxRecDepth 100000 in
theorem of_laid {W : World} (h : laidMetH Tryd.prog laidT W) : Tab W := by
  rw [MakeChecks.laidMetH_plain _ _ _ (by kernel_rfl)] at h
  obtain ⟨ps, ⟨g0, t0, cs0, f0, p0, q0, hg0, ht0, hv0, hd0, ⟨g1, t1, cs1, f1, p1, q1, hg1, ht1, hv1, hd1, _, _⟩, _⟩, _, _⟩ := h
  obtain rfl := Option.some.inj (Tryd.g64.symm.trans hg1)
  obtain rfl := Option.some.inj (Tryd.tg64.symm.trans ht1)
  obtain ⟨xs, m1, rfl, hx1, hlen, hn, hel⟩ := DataW.trod_array Tryd.underlying129 hd1
  rw [Tryd.cells8p] at hel
  simp only [Prod.mk.injEq] at hx1
  have hxm : Rows.laid_math_bits_deBruijn64tab = DataW.agg (Lib.deBruijn64tab.map fun k : Nat => (DataW.lit (.int .u8 (k : Int)) : DataW Unit)) := by kernel_rfl
  rw [hxm] at hx1
  have hmap : xs.map (·.1) = Lib.deBruijn64tab.map fun k : Nat => (DataW.lit (.int .u8 (k : Int)) : DataW Unit) := by
    have := hx1.1
    injection this with this
    exact this.symm
  have hl64 : Lib.deBruijn64tab.length = 64 := rfl
  intro j hj
  have hj' : j < 64 := by rw [hl64] at hj; exact hj
  have h0 := hel j hj'
  have hjx : j < xs.length := by omega
  rw [List.getElem?_eq_getElem hjx] at h0
  obtain ⟨k, e1, e2, _⟩ := DataW.trod_int Tryd.underlying5 h0
  have e3 : (xs.map (·.1))[j]? = some (xs[j].1) := by rw [List.getElem?_map, List.getElem?_eq_getElem hjx]; rfl
  rw [hmap, List.getElem?_map, List.getElem?_eq_getElem hj, e2] at e3
  simp only [Option.map_some, Option.some.injEq, DataW.lit.injEq, Lit.int.injEq, true_and] at e3
  have hk : k = ((Lib.deBruijn64tab.getD j 0 : Nat) : Int) := by
    rw [List.getD_eq_getElem?_getD, List.getElem?_eq_getElem hj]
    exact e3.symm
  have hc := World.var?_cell hg1 hv1 j
  rw [hc, ← hk]
  have e4 : (cs1.toList.drop (j * 1)).take 1 = [Value.int .u8 k] := e1
  rw [Nat.mul_one] at e4
  have e5 := congrArg (·[0]?) e4
  simp only [List.getElem?_take, List.getElem?_drop] at e5
  simpa using e5
end Go.Proofs.YtggcooplhodocaaDoor
