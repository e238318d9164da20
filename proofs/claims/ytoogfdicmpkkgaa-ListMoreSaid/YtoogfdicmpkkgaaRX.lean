/- Rows: arguments opened, and read again behind a call that changed nothing that was there. Rows: slices that came in. -/
import Derived.Test.YtoogfdicmpkkgaaA44
import Derived.ProofKit
import Derived.Below
import Derived.ChangeSame
import Derived.Deep.SlicePairs
import Derived.OpenShut
namespace Go.Proofs.Ytoogfdicmpkkgaa
open Go.ChangeShapes Go.WideShapes Go.ChangeAt Go.RowKit

section
variable {H : Type} {enc : TypeId × Value → H}

theorem post_of_below {P : Program} {f : Func} {s : ChangeSpec} {apart fresh handsOn again : Bool} {W W' : World} {args : Array Value} {v : Value} {ds gs : List (DataW H)} {before pa pv : List MemPlace}
    (hW : DataW.Whole enc P f.params.toList s.vars apart W args.toList ds gs before)
    (hres : ∀ (b : Nat) (sp : Nat → Bool) (hd : Bool), DataW.TrodAll enc P W' b sp hd f.resultTypes.toList (v.resultList f.resultTypes.size) (s.fn H (ds ++ gs)).results [])
    (hargs : ∀ sp : Nat → Bool, (∀ p ∈ before, sp p.block = true) → DataW.TrodAll enc P W' 0 sp true f.params.toList args.toList (s.fn H (ds ++ gs)).args pa)
    (hvars : ∀ sp : Nat → Bool, (∀ p ∈ before, sp p.block = true) → DataW.TrodVars enc P W' sp s.vars (s.fn H (ds ++ gs)).vars pv)
    (hps : before = pa ++ pv) (hb : Below W.heap.size W W')
    (hok : ∀ (j : Nat) (t : TypeId) (r : Value), f.resultTypes[j]? = some t → (v.resultList f.resultTypes.size)[j]? = some r → Value.okWide P W' .any 0 t r) :
    s.post enc P f apart fresh handsOn again W args v W' := by
  have hlt : ∀ p ∈ before, p.block < W.heap.size := fun p hp => hW.lt p hp
  have hold : ∀ p ∈ before, (fun b => decide (b < W.heap.size)) p.block = true := fun p hp => by simpa using hlt p hp
  refine ⟨ds, gs, before, [], pa, pv, hW, hres _ _ _, hargs _ hold, hvars _ hold, World.keptBut_mono (fun p hp => ⟨hp, ?_⟩) (hb.frame (· ∈ before)), fun _ => ?_⟩
  · rw [hps, List.mem_append] at hp
    exact Or.inr hp
  · obtain ⟨_, _, _, _, _, hz, hn⟩ := hW
    refine ⟨hok, _, _, ([] ++ pa) ++ pv, ⟨[] ++ pa, pv, trodAll_append (hargs _ (fun _ _ => rfl)) (hres _ _ _), hvars _ (fun _ _ => rfl), rfl, ?_, ?_⟩, ?_⟩
    · intro b off hp
      have hin : MemPlace.cell b off ∈ before := by rw [hps]; simpa using hp
      rw [hb.frozen (hlt _ hin)]
      exact hz b off hin
    · intro ha
      have := hn ha
      rw [hps] at this
      simpa using this
    · intro p hp _
      rw [hps]
      simpa using hp

theorem Try.own : ownKnob Try.prog.godebug = none := by kernel_rfl

/-- an argument reads as it did -/
theorem reads_again {t : TypeId} (hr : Try.prog.readableRec t = true) (hrow : t < Try.prog.types.size) {W W' : World} {v : Value} {d : DataW H} {ps : List MemPlace}
    (h : DataW.Trod enc Try.prog W 0 (fun _ => true) true t v d ps) (hb : Below W.heap.size W W') (hlt : ∀ x ∈ ps, x.block < W.heap.size) {sp : Nat → Bool} (hsp : ∀ x ∈ ps, sp x.block = true) :
    DataW.Trod enc Try.prog W' 0 sp true t v d ps :=
  WideElems.Trod_stays Try.laidOut hr hrow h (fun x hx => hb.same (hlt x hx)) hsp
theorem all_again {W W' : World} (hb : Below W.heap.size W W') {sp : Nat → Bool} : ∀ {ts : List TypeId} {vs : List Value} {ds : List (DataW H)} {ps : List MemPlace},
    (∀ t ∈ ts, Try.prog.readableRec t = true ∧ t < Try.prog.types.size) → DataW.TrodAll enc Try.prog W 0 (fun _ => true) true ts vs ds ps → (∀ x ∈ ps, x.block < W.heap.size) → (∀ x ∈ ps, sp x.block = true) →
    DataW.TrodAll enc Try.prog W' 0 sp true ts vs ds ps
  | [], [], [], _, _, h, _, _ => h
  | _ :: _, _ :: _, _ :: _, _, hT, ⟨p, q, h1, h2, e⟩, hlt, hs =>
    ⟨p, q, reads_again (hT _ (List.mem_cons_self ..)).1 (hT _ (List.mem_cons_self ..)).2 h1 hb (fun x hx => hlt x (by rw [e]; exact List.mem_append_left _ hx)) (fun x hx => hs x (by rw [e]; exact List.mem_append_left _ hx)),
      all_again hb (fun t ht => hT t (List.mem_cons_of_mem _ ht)) h2 (fun x hx => hlt x (by rw [e]; exact List.mem_append_right _ hx)) (fun x hx => hs x (by rw [e]; exact List.mem_append_right _ hx)), e⟩
end
end Go.Proofs.Ytoogfdicmpkkgaa

namespace Go.Proofs.Ytoogfdicmpkkgaa
open Go.ChangeShapes Go.WideShapes Go.ChangeAt Go.RowKit Go.Deep

section
variable {H : Type} {enc : TypeId × Value → H} {W : World} {base : Nat}
theorem Try.cells55p : Try.prog.cellsOf 55 = 2 := by kernel_rfl
theorem Try.cells3p : Try.prog.cellsOf 3 = 1 := by kernel_rfl
theorem Try.cells22p : Try.prog.cellsOf 22 = 1 := by kernel_rfl
theorem Try.cells23p : Try.prog.cellsOf 23 = 1 := by kernel_rfl
theorem Try.cells25p : Try.prog.cellsOf 25 = 4 := by kernel_rfl
theorem Try.cells27p : Try.prog.cellsOf 27 = 2 := by kernel_rfl
theorem Try.cells5p : Try.prog.cellsOf 5 = 1 := by kernel_rfl
theorem addr_add {b off i : Nat} : (⟨b, off, none⟩ : Addr).add i = ⟨b, off + i, none⟩ := by
  unfold Addr.add
  by_cases h : i = 0
  · subst h; simp
  · rw [if_neg h]
theorem plain_of_cell {a : Addr} {v : Value} (h : W.cell? (a.add 0) = some v) : ∃ b off, a = ⟨b, off, none⟩ := by
  obtain ⟨b, off, e⟩ := a
  cases e with
  | none => exact ⟨b, off, rfl⟩
  | some e => exact absurd (World.cell?_spot h) (by simp [Addr.add])
set_option maxRecDepth 100000 in
theorem cellI {k : IntKind} {t e : TypeId} (ht : Try.prog.underlying t = some (.slice e)) (he : Try.prog.underlying e = some (.int k)) (hc : Try.prog.cellsOf e = 1) {c : Value} {fuel : Nat} {x : DataW H × List MemPlace} (hf : DataW.trod enc Try.prog W 0 (fun _ => true) true fuel t [c] = some x) :
    ∃ A l cap, c = .slice A l.length cap ∧ l.length ≤ cap ∧ cap ≤ maxLen ∧ RowsAt (fun x : Int => [.int k x]) 1 W A l ∧ ∀ x ∈ l, (Lit.int k x).wf = true := by
  rcases open_ints ht he hc hf with ⟨hcs, hx⟩ | ⟨a, len', cap', zs, hcs, _, hl, hm, hz, hx, hcell, hwz⟩
  · simp at hcs
    subst hcs
    exact ⟨none, [], 0, rfl, Nat.le_refl _, by unfold maxLen; omega, RowsAt.nil _, by simp⟩
  · simp at hcs
    subst hcs
    simp only [if_true] at hz
    refine ⟨some a, zs.take len', cap', by rw [List.length_take, hz, Nat.min_eq_left hl], by rw [List.length_take, hz, Nat.min_eq_left hl]; exact hl, hm, ?_, fun x hx => hwz x (List.mem_of_mem_take hx)⟩
    intro i hi
    rw [List.length_take, hz, Nat.min_eq_left hl] at hi
    have h0 := hcell 0 (by omega)
    obtain ⟨b, off, rfl⟩ := plain_of_cell h0
    refine ⟨b, off, rfl, fun j u hu => ?_⟩
    obtain rfl : j = 0 := by
      have := (List.getElem?_eq_some_iff.1 hu).1
      simp at this; omega
    have hu' : Value.int k (zs.take len')[i] = u := by simpa using hu
    have hci := hcell i (by omega)
    rw [addr_add] at hci
    rw [Nat.mul_one, Nat.add_zero, hci, ← hu']
    rw [List.getElem_take, List.getD_eq_getElem?_getD, List.getElem?_eq_getElem (by omega)]; rfl
set_option maxRecDepth 100000 in
theorem openK {k : IntKind} {t e : TypeId} (ht : Try.prog.underlying t = some (.slice e)) (he : Try.prog.underlying e = some (.int k)) (hc : Try.prog.cellsOf e = 1) {v : Value} {d : DataW H} {p : List MemPlace} (hval : Value.okWide Try.prog W .any base t v) (h : DataW.Trod enc Try.prog W 0 (fun _ => true) true t v d p) :
    ∃ A l c, v = .slice A l.length c ∧ l.length ≤ c ∧ c ≤ maxLen ∧ RowsAt (fun x : Int => [.int k x]) 1 W A l ∧ ∀ x ∈ l, (Lit.int k x).wf = true := by
  obtain ⟨a0, len, cap, rfl⟩ := okWide_slice ht hval
  obtain ⟨fuel, hf⟩ := h
  exact cellI ht he hc (c := .slice a0 len cap) (by simpa [Value.cells] using hf)
theorem pair_choose {n : Nat} {P : Nat → Int × Int → Prop} (h : ∀ i, i < n → ∃ x, P i x) : ∃ l : List (Int × Int), l.length = n ∧ ∀ i (hi : i < l.length), P i l[i] := by
  induction n with
  | zero => exact ⟨[], rfl, fun i hi => by simp at hi⟩
  | succ n ih =>
    obtain ⟨l, hl, h1⟩ := ih (fun i hi => h i (by omega))
    obtain ⟨x, hx⟩ := h n (by omega)
    refine ⟨l ++ [x], by simp [hl], fun i hi => ?_⟩
    by_cases e : i < l.length
    · rw [List.getElem_append_left e]; exact h1 i e
    · have : i = n := by simp at hi; omega
      subst this
      rw [List.getElem_append_right (by omega)]
      simpa [hl] using hx
set_option maxRecDepth 100000 in
theorem cellR {c : Value} {fuel : Nat} {x : DataW H × List MemPlace} (hf : DataW.trod enc Try.prog W 0 (fun _ => true) true fuel 22 [c] = some x) :
    ∃ A l cap, c = .slice A l.length cap ∧ l.length ≤ cap ∧ cap ≤ maxLen ∧ RangesAt W A l ∧ ∀ x ∈ l, (Lit.int .i64 x.1).wf = true ∧ (Lit.int .i64 x.2).wf = true := by
  rcases open_slice_pairs Try.underlying22 Try.underlying55 Try.cells55p rfl rfl Try.cells3p Try.cells3p hf with ⟨hcs, hx⟩ | ⟨a, len', cap', m, n, V0, V1, D0, D1, P0, P1, hcs, _, hl, hm, hmm, hx, hcell⟩
  · simp at hcs
    subst hcs
    exact ⟨none, [], 0, rfl, Nat.le_refl _, by unfold maxLen; omega, RowsAt.nil _, by simp⟩
  · simp at hcs
    subst hcs
    simp only [if_true] at hmm
    subst hmm
    have each : ∀ i, i < len' → ∃ x : Int × Int, W.cell? (a.add (i * 2)) = some (.int .i64 x.1) ∧ W.cell? (a.add (i * 2 + 1)) = some (.int .i64 x.2) ∧ (Lit.int .i64 x.1).wf = true ∧ (Lit.int .i64 x.2).wf = true := fun i hi => by
      obtain ⟨h1, h2, h3, h4⟩ := hcell i (by omega)
      obtain ⟨x, e1, _, w1⟩ := DataW.trod_int Try.underlying3 h3
      obtain ⟨y, e2, _, w2⟩ := DataW.trod_int Try.underlying3 h4
      simp at e1 e2
      exact ⟨(x, y), by rw [h1, e1], by rw [h2, e2], w1, w2⟩
    obtain ⟨l, hll, hl2⟩ := pair_choose each
    refine ⟨some a, l, _, by rw [hll], by rw [hll]; exact hl, hm, fun i hi => ?_, fun x hx => by obtain ⟨i, hi, rfl⟩ := List.mem_iff_getElem.1 hx; exact (hl2 i hi).2.2⟩
    have h0 := (hl2 0 (by omega)).1
    rw [Nat.zero_mul] at h0
    obtain ⟨b, off, rfl⟩ := plain_of_cell h0
    obtain ⟨g1, g2, _, _⟩ := hl2 i hi
    rw [addr_add] at g1 g2
    refine ⟨b, off, rfl, fun j u hu => ?_⟩
    have hj := (List.getElem?_eq_some_iff.1 hu).1
    simp [encR] at hj
    have : j = 0 ∨ j = 1 := by omega
    rcases this with rfl | rfl
    · simp [encR] at hu; rw [← hu]; exact g1
    · simp [encR] at hu; rw [← hu, Nat.add_assoc]; exact g2
theorem all_again' {W W' : World} (hb : Below W.heap.size W W') {sp : Nat → Bool} {ts : List TypeId} {vs : List Value} {ds : List (DataW H)} {ps : List MemPlace}
    (hT : (ts.all fun t => Try.prog.readableRec t && decide (t < Try.prog.types.size)) = true) (h : DataW.TrodAll enc Try.prog W 0 (fun _ => true) true ts vs ds ps) (hlt : ∀ x ∈ ps, x.block < W.heap.size) (hs : ∀ x ∈ ps, sp x.block = true) :
    DataW.TrodAll enc Try.prog W' 0 sp true ts vs ds ps :=
  all_again hb (fun t ht => by have := List.all_eq_true.1 hT t ht; simp only [Bool.and_eq_true, decide_eq_true_eq] at this; exact this) h hlt hs
theorem resTrue (b : Nat) (sp : Nat → Bool) (hd : Bool) (W' : World) : DataW.Trod enc Try.prog W' b sp hd 4 (.bool true) (.lit (.bool true)) [] := shut_bool Try.underlying4 true
set_option maxRecDepth 100000 in
theorem openSheet {v : Value} {d : DataW H} {p : List MemPlace} (hval : Value.okWide Try.prog W .any base 25 v) (h : DataW.Trod enc Try.prog W 0 (fun _ => true) true 25 v d p) :
    ∃ s : Sh, v = s.v ∧ ShIn W s := by
  obtain ⟨cs, rfl, hsz⟩ := okWide_struct Try.underlying25 hval
  rw [Try.cells25p] at hsz
  obtain ⟨cs⟩ := cs
  match cs, hsz with
  | [c0, c1, c2, c3], _ =>
    obtain ⟨fuel, hf⟩ := h
    obtain ⟨xs, n, _, _, _, hlen, hf⟩ := DataW.trod_struct Try.underlying25 hf
    match xs, hlen with
    | [z0, z1, z2, z3], _ =>
      have h0 := hf 0 _ rfl
      have h1 := hf 1 _ rfl
      have h2 := hf 2 _ rfl
      have h3 := hf 3 _ rfl
      simp [Value.cells, Try.cells3p, Try.cells22p, Try.cells23p] at h0 h1 h2 h3
      obtain ⟨L, e0, _, w0⟩ := DataW.trod_int Try.underlying3 h0
      obtain ⟨R, e1, _, w1⟩ := DataW.trod_int Try.underlying3 h1
      simp at e0 e1
      obtain ⟨A, l, ca, e2, hca, hcm, hl, _⟩ := cellR h2
      obtain ⟨B, t, cb, e3, hcb, hcm', ht, _⟩ := cellI Try.underlying23 Try.underlying3 Try.cells3p h3
      unfold maxLen at hcm hcm'
      subst e0; subst e1; subst e2; subst e3
      exact ⟨⟨L, R, A, ca, B, cb, l, t⟩, rfl, hl, ht, by dsimp only; omega, by dsimp only; omega, hca, hcm, hcb⟩
set_option maxRecDepth 100000 in
theorem openCover {v : Value} {d : DataW H} {p : List MemPlace} (hval : Value.okWide Try.prog W .any base 27 v) (h : DataW.Trod enc Try.prog W 0 (fun _ => true) true 27 v d p) :
    ∃ C D cc cd cl cr, v = vCover C (List.length cl) cc D (List.length cr) cd ∧ IntsAt W C cl ∧ IntsAt W D cr ∧ cl.length ≤ 9223372036854775807 ∧ cr.length ≤ 9223372036854775807 := by
  obtain ⟨cs, rfl, hsz⟩ := okWide_struct Try.underlying27 hval
  rw [Try.cells27p] at hsz
  obtain ⟨cs⟩ := cs
  match cs, hsz with
  | [c0, c1], _ =>
    obtain ⟨fuel, hf⟩ := h
    obtain ⟨xs, n, _, _, _, hlen, hf⟩ := DataW.trod_struct Try.underlying27 hf
    match xs, hlen with
    | [z0, z1], _ =>
      have h0 := hf 0 _ rfl
      have h1 := hf 1 _ rfl
      simp [Value.cells, Try.cells23p] at h0 h1
      obtain ⟨A, l, ca, e2, hca, hcm, hl, _⟩ := cellI Try.underlying23 Try.underlying3 Try.cells3p h0
      obtain ⟨B, t, cb, e3, hcb, hcm', ht, _⟩ := cellI Try.underlying23 Try.underlying3 Try.cells3p h1
      unfold maxLen at hcm hcm'
      subst e2; subst e3
      exact ⟨A, B, ca, cb, l, t, rfl, hl, ht, by omega, by omega⟩
theorem trodAll_four {P : Program} {w : World} {b0 : Nat} {spare : Nat → Bool} {held : Bool} {t t' t'' t3 : TypeId} {args : Array Value} {ds : List (DataW H)} {ps : List MemPlace} (h : DataW.TrodAll enc P w b0 spare held [t, t', t'', t3] args.toList ds ps) :
    ∃ v v' v'' v3 d d' d'' d3 p p' p'' p3, args = #[v, v', v'', v3] ∧ ds = [d, d', d'', d3] ∧ ps = p ++ p' ++ p'' ++ p3 ∧ DataW.Trod enc P w b0 spare held t v d p ∧ DataW.Trod enc P w b0 spare held t' v' d' p' ∧ DataW.Trod enc P w b0 spare held t'' v'' d'' p'' ∧ DataW.Trod enc P w b0 spare held t3 v3 d3 p3 := by
  obtain ⟨v, vs, d, ds', p, q, hargs, rfl, rfl, hd, hrest⟩ := trodAll_cons h
  obtain ⟨v', vs', d', ds'', p', q', rfl, rfl, rfl, hd', hrest'⟩ := trodAll_cons hrest
  obtain ⟨v'', vs'', d'', ds3, p'', q'', rfl, rfl, rfl, hd'', hrest''⟩ := trodAll_cons hrest'
  obtain ⟨v3, vs3, d3, ds4, p3, q3, rfl, rfl, rfl, hd3, hrest3⟩ := trodAll_cons hrest''
  obtain ⟨rfl, rfl, rfl⟩ := trodAll_nil hrest3
  exact ⟨v, v', v'', v3, d, d', d'', d3, p, p', p'', p3, by cases args; simp_all, rfl, by simp, hd, hd', hd'', hd3⟩
set_option maxRecDepth 100000 in
theorem okWide_arr {n : Nat} {t e : TypeId} {v : Value} (ht : Try.prog.underlying t = some (.array n e)) (h : Value.okWide Try.prog W .any base t v) : ∃ cs, v = .agg cs ∧ cs.size = Try.prog.cellsOf t := by
  simp only [Value.okWide, ht] at h
  cases v <;> simp_all
set_option maxRecDepth 100000 in
theorem openA2 {k : IntKind} {t e : TypeId} (ht : Try.prog.underlying t = some (.array 2 e)) (he : Try.prog.underlying e = some (.int k)) (hc : Try.prog.cellsOf e = 1) (hct : Try.prog.cellsOf t = 2) {v : Value} {d : DataW H} {p : List MemPlace} (hval : Value.okWide Try.prog W .any base t v) (h : DataW.Trod enc Try.prog W 0 (fun _ => true) true t v d p) :
    ∃ a b : Int, v = .agg #[.int k a, .int k b] ∧ (Lit.int k a).wf = true ∧ (Lit.int k b).wf = true := by
  obtain ⟨cs, rfl, hsz⟩ := okWide_arr ht hval
  rw [hct] at hsz
  obtain ⟨cs⟩ := cs
  match cs, hsz with
  | [c0, c1], _ =>
    obtain ⟨fuel, hf⟩ := h
    obtain ⟨xs, m, _, _, _, hxl, hx⟩ := DataW.trod_array ht hf
    match xs, hxl with
    | [y0, y1], _ =>
      have h0 := hx 0 (by omega)
      have h1 := hx 1 (by omega)
      rw [hc] at h0 h1
      simp [Value.cells] at h0 h1
      obtain ⟨a, e0, _, w0⟩ := DataW.trod_int he h0
      obtain ⟨b, e1, _, w1⟩ := DataW.trod_int he h1
      simp at e0 e1
      exact ⟨a, b, by rw [e0, e1], w0, w1⟩
set_option maxRecDepth 100000 in
theorem openS55 {v : Value} {d : DataW H} {p : List MemPlace} (hval : Value.okWide Try.prog W .any base 55 v) (h : DataW.Trod enc Try.prog W 0 (fun _ => true) true 55 v d p) :
    ∃ a b : Int, v = .agg #[.int .i64 a, .int .i64 b] ∧ (Lit.int .i64 a).wf = true ∧ (Lit.int .i64 b).wf = true := by
  obtain ⟨cs, rfl, hsz⟩ := okWide_struct Try.underlying55 hval
  rw [Try.cells55p] at hsz
  obtain ⟨cs⟩ := cs
  match cs, hsz with
  | [c0, c1], _ =>
    obtain ⟨fuel, hf⟩ := h
    obtain ⟨y0, y1, n, _, _, h0, h1⟩ := trod_struct2 Try.underlying55 hf
    simp [Value.cells, Try.cells3p] at h0 h1
    obtain ⟨a, e0, _, w0⟩ := DataW.trod_int Try.underlying3 h0
    obtain ⟨b, e1, _, w1⟩ := DataW.trod_int Try.underlying3 h1
    simp at e0 e1
    exact ⟨a, b, by rw [e0, e1], w0, w1⟩
end
end Go.Proofs.Ytoogfdicmpkkgaa
