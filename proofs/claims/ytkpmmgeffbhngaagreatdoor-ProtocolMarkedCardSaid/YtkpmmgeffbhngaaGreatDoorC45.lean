/- What the laws of the chapter rest on, part 45. -/
import Derived.Test.YtkpmmgeffbhngaaGreatDoorC23
import Derived.Test.YtkpmmgeffbhngaaGreatDoorC38
import Derived.Test.YtkpmmgeffbhngaaGreatDoorRows
import Derived.ProofKit
import Derived.Below
import Derived.ChangeSame
import Derived.OpenShut
import Derived.LaidMore
import Derived.Stop.Joined
import Derived.SevenTiedAt
import Derived.HandedShaped
import Derived.Lib.LaidTab
import Derived.Lib.LaidU8
import Derived.Stop.LaidErr
import Derived.Shelf.Vars
import Derived.Lay
set_option linter.unusedSimpArgs false
set_option linter.unusedVariables false
set_option linter.unnecessarySimpa false
namespace Prot
end Prot
namespace Go.Shelf
end Go.Shelf
namespace Go.Maps
end Go.Maps
namespace Go.Proofs.YtkpmmgeffbhngaaGreatDoor
open Go.ChangeShapes Go.WideShapes Go.ChangeAt Go.RowKit
/-- the wrap that hands on what is laid, and the world's shape -/
theorem returnsInHanded_and_shaped {H : Type} {enc : TypeId × Value → H} {a : Assume} {C : Checked} {os : Os} {f : FuncId} {fn : Func} {s : ChangeSpec} {conds : List PathCond} {apart fresh handsOn again : Bool} {X : World → Array Value → Prop}
    (hX : ∀ (w w' : World) (args : Array Value), w.heap = w'.heap → X w args → X w' args)
    (own : ownKnob C.prog.godebug = none) (started : os.Started) (noInit : C.prog.inits.idxOf? f = none) (hfn : C.prog.funcs[f]? = some fn)
    (witness : ∃ (w : World) (tape : Tape) (i : Input), w.os = os ∧ (w.forCall tape i).Shaped C.prog ∧ i.vars = [] ∧ Input.okWide C.prog (w.forCall tape i) .any w.heap.size f i ∧
      ((s.pre enc C.prog fn conds apart (w.forCall tape i).memory i.args ∧ X (w.forCall tape i).memory i.args) ∧ sizedMet enc C.prog fn (OpenSpec.ofChange s) apart (w.forCall tape i).memory i.args) ∧ a.holds C.prog (lone (Frame.enter C.prog f i.args .normal) [] (w.forCall tape i)))
    (contract : ∀ (W : World) (base : Nat) (args : Array Value) (ds gs : List (DataW H)) (before : List MemPlace),
      (∀ (j : Nat) t v, fn.params[j]? = some t → args[j]? = some v → Value.okWide C.prog W .any base t v) →
      DataW.Whole enc C.prog fn.params.toList s.vars apart W args.toList ds gs before →
      X W args → W.ShapedOpen C.prog →
      Calls C.prog f args W fun e W' => ∃ v, e = .returned v ∧ s.post enc C.prog fn apart fresh handsOn again W args v W') :
    ReturnsInHanded a C os f .any (fun w args => (s.pre enc C.prog fn conds apart w args ∧ X w args) ∧ sizedMet enc C.prog fn (OpenSpec.ofChange s) apart w args) (s.post enc C.prog fn apart fresh handsOn again) := by
  refine returnsInHanded_of_calls own started noInit witness ?_
  intro w tape i _ hsh _ hok hpre hholds
  obtain ⟨_, _, _, fn', hfn', _, _, _, _, hval⟩ := hok
  have e : fn' = fn := Option.some.inj (hfn'.symm.trans hfn)
  subst e
  obtain ⟨⟨⟨ds, gs, before, hw, hc⟩, hx⟩, hz⟩ := hpre
  have hw' := DataW.Whole.of_heap (w' := w.forCall tape i) (by rfl) hw
  refine (contract (w.forCall tape i) w.heap.size i.args ds gs before hval hw' (hX _ _ _ (by rfl) hx) hsh).mono fun e W' ⟨v, he, hp⟩ => ?_
  subst he
  exact ChangeSpec.post_blind hp
section
variable {H : Type} {enc : TypeId × Value → H}
theorem post_of_below {P : Program} {f : Func} {s : ChangeSpec} {apart fresh handsOn again : Bool} {W W' : World} {args : Array Value} {v : Value} {ds gs : List (DataW H)} {before pa pv : List MemPlace}
    (hW : DataW.Whole enc P f.params.toList s.vars apart W args.toList ds gs before)
    (hres : ∀ (b : Nat) (sp : Nat → Bool) (hd : Bool), DataW.TrodAll enc P W' b sp hd f.resultTypes.toList (v.resultList f.resultTypes.size) (s.fn H (ds ++ gs)).results [])
    (hargs : ∀ sp : Nat → Bool, (∀ p ∈ before, sp p.block = true) → DataW.TrodAll enc P W' 0 sp true f.params.toList args.toList (s.fn H (ds ++ gs)).args pa)
    (hvars : ∀ sp : Nat → Bool, (∀ p ∈ before, sp p.block = true) → DataW.TrodVars enc P W' sp s.vars (s.fn H (ds ++ gs)).vars pv)
    (hps : before = pa ++ pv) (hb : Below W.heap.size W W')
    (hok : ∀ (j : Nat) (t : TypeId) (r : Value), f.resultTypes[j]? = some t → (v.resultList f.resultTypes.size)[j]? = some r → Value.okWide P W' .any 0 t r) :
    s.post enc P f apart fresh handsOn again W args v W' := by
  have hlt : ∀ p ∈ before, p.block < W.heap.size := fun p hp => hW.lt p hp
  have hold : ∀ p ∈ before, (fun b => decide (b < W.heap.size)) p.block = true := fun p hp => by simpa using hlt p hp
  refine ⟨ds, gs, before, [], pa, pv, hW, hres _ _ _, hargs _ hold, hvars _ hold, World.keptBut_mono (fun p hp => ⟨hp, ?_⟩) (hb.frame (· ∈ before)), fun _ => ?_⟩
  · rw [hps, List.mem_append] at hp
    exact Or.inr hp
  · obtain ⟨_, _, _, _, _, hz, hn⟩ := hW
    refine ⟨hok, _, _, ([] ++ pa) ++ pv, ⟨[] ++ pa, pv, trodAll_append (hargs _ (fun _ _ => rfl)) (hres _ _ _), hvars _ (fun _ _ => rfl), rfl, ?_, ?_⟩, ?_⟩
    · intro b off hp
      have hin : MemPlace.cell b off ∈ before := by rw [hps]; simpa using hp
      rw [hb.frozen (hlt _ hin)]
      exact hz b off hin
    · intro ha
      have := hn ha
      rw [hps] at this
      simpa using this
    · intro p hp _
      rw [hps]
      simpa using hp
theorem Tryz.laidOut : laidOutB Tryz.prog = true := by kernel_rfl
theorem Tryz.own : ownKnob Tryz.prog.godebug = none := by kernel_rfl
/-- an argument reads as it did -/
theorem reads_again {t : TypeId} (hr : Tryz.prog.readableRec t = true) (hrow : t < Tryz.prog.types.size) {W W' : World} {v : Value} {d : DataW H} {ps : List MemPlace}
    (h : DataW.Trod enc Tryz.prog W 0 (fun _ => true) true t v d ps) (hb : Below W.heap.size W W') (hlt : ∀ x ∈ ps, x.block < W.heap.size) {sp : Nat → Bool} (hsp : ∀ x ∈ ps, sp x.block = true) :
    DataW.Trod enc Tryz.prog W' 0 sp true t v d ps :=
  WideElems.Trod_stays Tryz.laidOut hr hrow h (fun x hx => hb.same (hlt x hx)) hsp
theorem all_again {W W' : World} (hb : Below W.heap.size W W') {sp : Nat → Bool} : ∀ {ts : List TypeId} {vs : List Value} {ds : List (DataW H)} {ps : List MemPlace},
    (∀ t ∈ ts, Tryz.prog.readableRec t = true ∧ t < Tryz.prog.types.size) → DataW.TrodAll enc Tryz.prog W 0 (fun _ => true) true ts vs ds ps → (∀ x ∈ ps, x.block < W.heap.size) → (∀ x ∈ ps, sp x.block = true) →
    DataW.TrodAll enc Tryz.prog W' 0 sp true ts vs ds ps
  | [], [], [], _, _, h, _, _ => h
  | _ :: _, _ :: _, _ :: _, _, hT, ⟨p, q, h1, h2, e⟩, hlt, hs =>
    ⟨p, q, reads_again (hT _ (List.mem_cons_self ..)).1 (hT _ (List.mem_cons_self ..)).2 h1 hb (fun x hx => hlt x (by rw [e]; exact List.mem_append_left _ hx)) (fun x hx => hs x (by rw [e]; exact List.mem_append_left _ hx)),
      all_again hb (fun t ht => hT t (List.mem_cons_of_mem _ ht)) h2 (fun x hx => hlt x (by rw [e]; exact List.mem_append_right _ hx)) (fun x hx => hs x (by rw [e]; exact List.mem_append_right _ hx)), e⟩
end
end Go.Proofs.YtkpmmgeffbhngaaGreatDoor
namespace Go.Proofs.YtkpmmgeffbhngaaGreatDoor
open Go.ChangeShapes Go.WideShapes Go.ChangeAt Go.RowKit Go.Deep Prot
section
variable {H : Type} {enc : TypeId × Value → H} {W : World} {base : Nat}
theorem Tryz.cellsIp : Tryz.prog.cellsOf 3 = 1 := by kernel_rfl
theorem Tryz.cellsLp : Tryz.prog.cellsOf 2 = 1 := by kernel_rfl
theorem Tryz.cellsBp : Tryz.prog.cellsOf 4 = 1 := by kernel_rfl
theorem Tryz.cellsXp : Tryz.prog.cellsOf 67 = 7 := by kernel_rfl
theorem Tryz.cellsCp : Tryz.prog.cellsOf 36 = 4 := by kernel_rfl
theorem addr_add {b off i : Nat} : (⟨b, off, none⟩ : Addr).add i = ⟨b, off + i, none⟩ := by
  unfold Addr.add
  by_cases h : i = 0
  · subst h; simp
  · rw [if_neg h]
theorem plain_of_cell {a : Addr} {v : Value} (h : W.cell? (a.add 0) = some v) : ∃ b off, a = ⟨b, off, none⟩ := by
  obtain ⟨b, off, e⟩ := a
  cases e with
  | none => exact ⟨b, off, rfl⟩
  | some e => exact absurd (World.cell?_spot h) (by simp [Addr.add])
set_option maxRecDepth 100000 in
theorem cellI {k : IntKind} {t e : TypeId} (ht : Tryz.prog.underlying t = some (.slice e)) (he : Tryz.prog.underlying e = some (.int k)) (hc : Tryz.prog.cellsOf e = 1) {c : Value} {fuel : Nat} {x : DataW H × List MemPlace} (hf : DataW.trod enc Tryz.prog W 0 (fun _ => true) true fuel t [c] = some x) :
    ∃ A l cap, c = .slice A l.length cap ∧ l.length ≤ cap ∧ cap ≤ maxLen ∧ RowsAt (fun x : Int => [.int k x]) 1 W A l ∧ ∀ x ∈ l, (Lit.int k x).wf = true := by
  rcases open_ints ht he hc hf with ⟨hcs, hx⟩ | ⟨a, len', cap', zs, hcs, _, hl, hm, hz, hx, hcell, hwz⟩
  · simp at hcs
    subst hcs
    exact ⟨none, [], 0, rfl, Nat.le_refl _, by unfold maxLen; omega, RowsAt.nil _, by simp⟩
  · simp at hcs
    subst hcs
    simp only [if_true] at hz
    refine ⟨some a, zs.take len', cap', by rw [List.length_take, hz, Nat.min_eq_left hl], by rw [List.length_take, hz, Nat.min_eq_left hl]; exact hl, hm, ?_, fun x hx => hwz x (List.mem_of_mem_take hx)⟩
    intro i hi
    rw [List.length_take, hz, Nat.min_eq_left hl] at hi
    have h0 := hcell 0 (by omega)
    obtain ⟨b, off, rfl⟩ := plain_of_cell h0
    refine ⟨b, off, rfl, fun j u hu => ?_⟩
    obtain rfl : j = 0 := by
      have := (List.getElem?_eq_some_iff.1 hu).1
      simp at this; omega
    have hu' : Value.int k (zs.take len')[i] = u := by simpa using hu
    have hci := hcell i (by omega)
    rw [addr_add] at hci
    rw [Nat.mul_one, Nat.add_zero, hci, ← hu']
    rw [List.getElem_take, List.getD_eq_getElem?_getD, List.getElem?_eq_getElem (by omega)]; rfl
set_option maxRecDepth 100000 in
theorem openK {k : IntKind} {t e : TypeId} (ht : Tryz.prog.underlying t = some (.slice e)) (he : Tryz.prog.underlying e = some (.int k)) (hc : Tryz.prog.cellsOf e = 1) {v : Value} {d : DataW H} {p : List MemPlace} (hval : Value.okWide Tryz.prog W .any base t v) (h : DataW.Trod enc Tryz.prog W 0 (fun _ => true) true t v d p) :
    ∃ A l c, v = .slice A l.length c ∧ l.length ≤ c ∧ c ≤ maxLen ∧ RowsAt (fun x : Int => [.int k x]) 1 W A l ∧ ∀ x ∈ l, (Lit.int k x).wf = true := by
  obtain ⟨a0, len, cap, rfl⟩ := okWide_slice ht hval
  obtain ⟨fuel, hf⟩ := h
  exact cellI ht he hc (c := .slice a0 len cap) (by simpa [Value.cells] using hf)
theorem list_choose {α : Type} {n : Nat} {P : Nat → α → Prop} (h : ∀ i, i < n → ∃ x, P i x) : ∃ l : List α, l.length = n ∧ ∀ i (hi : i < l.length), P i l[i] := by
  induction n with
  | zero => exact ⟨[], rfl, fun i hi => by simp at hi⟩
  | succ n ih =>
    obtain ⟨l, hl, h1⟩ := ih (fun i hi => h i (by omega))
    obtain ⟨x, hx⟩ := h n (by omega)
    refine ⟨l ++ [x], by simp [hl], fun i hi => ?_⟩
    by_cases e : i < l.length
    · rw [List.getElem_append_left e]; exact h1 i e
    · have : i = n := by simp at hi; omega
      subst this
      rw [List.getElem_append_right (by omega)]
      simpa [hl] using hx
def wfIt (x : It) : Prop := (Lit.int .i64 x.num).wf = true ∧ (Lit.int .i64 x.box).wf = true ∧ (Lit.int .i64 x.day).wf = true ∧ (Lit.int .i64 x.voice).wf = true ∧ (Lit.int .i64 x.turns).wf = true ∧ (Lit.int .i64 x.src).wf = true
set_option maxRecDepth 100000 in
theorem itemOf {fuel : Nat} {cs : List Value} {x : DataW H × List MemPlace} (hl : cs.length = 7) (hf : DataW.trod enc Tryz.prog W 0 (fun _ => true) true fuel 67 cs = some x) :
    ∃ y : It, cs = encIt y ∧ wfIt y := by
  match cs, hl with
  | [c0, c1, c2, c3, c4, c5, c6], _ =>
    obtain ⟨xs, n, _, _, _, hlen, hf⟩ := DataW.trod_struct Tryz.underlying67 hf
    match xs, hlen with
    | [z0, z1, z2, z3, z4, z5, z6], _ =>
      have h0 := hf 0 _ rfl
      have h1 := hf 1 _ rfl
      have h2 := hf 2 _ rfl
      have h3 := hf 3 _ rfl
      have h4 := hf 4 _ rfl
      have h5 := hf 5 _ rfl
      have h6 := hf 6 _ rfl
      simp [Tryz.cellsLp, Tryz.cellsBp] at h0 h1 h2 h3 h4 h5 h6
      obtain ⟨a0, e0, _, w0⟩ := DataW.trod_int Tryz.underlying2 h0
      obtain ⟨a1, e1, _, w1⟩ := DataW.trod_int Tryz.underlying2 h1
      obtain ⟨a2, e2, _, w2⟩ := DataW.trod_int Tryz.underlying2 h2
      obtain ⟨a3, e3, _, w3⟩ := DataW.trod_int Tryz.underlying2 h3
      obtain ⟨a4, e4, _, w4⟩ := DataW.trod_int Tryz.underlying2 h4
      obtain ⟨a5, e5, _, w5⟩ := DataW.trod_int Tryz.underlying2 h5
      obtain ⟨a6, e6, _⟩ := DataW.trod_bool Tryz.underlying4 h6
      simp at e0 e1 e2 e3 e4 e5 e6
      exact ⟨⟨a0, a1, a2, a3, a4, a5, a6⟩, by rw [e0, e1, e2, e3, e4, e5, e6]; rfl, w0, w1, w2, w3, w4, w5⟩
set_option maxRecDepth 100000 in
theorem openItems {v : Value} {d : DataW H} {p : List MemPlace} (hval : Value.okWide Tryz.prog W .any base 44 v) (h : DataW.Trod enc Tryz.prog W 0 (fun _ => true) true 44 v d p) :
    ∃ A l cap, v = .slice A (List.length l) cap ∧ l.length ≤ cap ∧ cap ≤ maxLen ∧ ItemsAt W A l ∧ ∀ x ∈ l, wfIt x := by
  obtain ⟨a0, len, cap, rfl⟩ := okWide_slice Tryz.underlying44 hval
  obtain ⟨fuel, hf⟩ := h
  have hf' : DataW.trod enc Tryz.prog W 0 (fun _ => true) true fuel 44 [.slice a0 len cap] = some (d, p) := by simpa [Value.cells] using hf
  rcases open_slice Tryz.underlying44 hf' with ⟨hcs, hx⟩ | ⟨a, len', cap', m, n, D, Pl, hcs, _, hl, hm, hmm, hx, hcell⟩
  · simp at hcs
    obtain ⟨rfl, rfl, rfl⟩ := hcs
    exact ⟨none, [], 0, rfl, Nat.le_refl _, by unfold maxLen; omega, RowsAt.nil _, by simp⟩
  · simp at hcs
    obtain ⟨rfl, rfl, rfl⟩ := hcs
    simp only [if_true] at hmm
    subst hmm
    have each : ∀ i, i < len → ∃ x : It, (∀ j v, (encIt x)[j]? = some v → W.cell? ((a.add (i * 7)).add j) = some v) ∧ wfIt x := fun i hi => by
      obtain ⟨cs', h1, h2⟩ := hcell i (by omega)
      rw [Tryz.cellsXp] at h1
      obtain ⟨_, hlen, hc⟩ := World.cells?_some h1
      obtain ⟨y, rfl, hw⟩ := itemOf hlen h2
      refine ⟨y, fun j v hv => ?_, hw⟩
      have hj : j < 7 := (List.getElem?_eq_some_iff.1 hv).1
      have := hc j hj
      rw [← hv]
      first | exact this | simpa using this
    obtain ⟨l, hll, hl2⟩ := list_choose each
    refine ⟨some a, l, _, by rw [hll], by rw [hll]; exact hl, hm, fun i hi => ?_, fun x hx => by obtain ⟨i, hi, rfl⟩ := List.mem_iff_getElem.1 hx; exact (hl2 i hi).2⟩
    have h0 := (hl2 0 (by omega)).1 0 _ rfl
    rw [Nat.zero_mul] at h0
    have ea : a.add 0 = a := by unfold Addr.add; rw [if_pos rfl]
    rw [ea] at h0
    obtain ⟨b, off, rfl⟩ := plain_of_cell h0
    refine ⟨b, off, rfl, fun j u hu => ?_⟩
    have := (hl2 i hi).1 j u hu
    rw [addr_add, addr_add] at this
    exact this
set_option maxRecDepth 100000 in
theorem openCard {v : Value} {d : DataW H} {p : List MemPlace} (hval : Value.okWide Tryz.prog W .any base 36 v) (h : DataW.Trod enc Tryz.prog W 0 (fun _ => true) true 36 v d p) :
    ∃ k a b c : Int, v = vCard (k, a, b, c) ∧ (Lit.int .i64 k).wf = true ∧ (Lit.int .i64 a).wf = true ∧ (Lit.int .i64 b).wf = true ∧ (Lit.int .i64 c).wf = true := by
  obtain ⟨cs, rfl, hsz⟩ := okWide_struct Tryz.underlying36 hval
  rw [Tryz.cellsCp] at hsz
  obtain ⟨cs⟩ := cs
  match cs, hsz with
  | [c0, c1, c2, c3], _ =>
    obtain ⟨fuel, hf⟩ := h
    obtain ⟨xs, n, _, _, _, hlen, hf⟩ := DataW.trod_struct Tryz.underlying36 hf
    match xs, hlen with
    | [z0, z1, z2, z3], _ =>
      have h0 := hf 0 _ rfl
      have h1 := hf 1 _ rfl
      have h2 := hf 2 _ rfl
      have h3 := hf 3 _ rfl
      simp [Value.cells, Tryz.cellsIp, Tryz.cellsLp] at h0 h1 h2 h3
      obtain ⟨a0, e0, _, w0⟩ := DataW.trod_int Tryz.underlying3 h0
      obtain ⟨a1, e1, _, w1⟩ := DataW.trod_int Tryz.underlying2 h1
      obtain ⟨a2, e2, _, w2⟩ := DataW.trod_int Tryz.underlying2 h2
      obtain ⟨a3, e3, _, w3⟩ := DataW.trod_int Tryz.underlying2 h3
      simp at e0 e1 e2 e3
      exact ⟨a0, a1, a2, a3, by rw [e0, e1, e2, e3]; rfl, w0, w1, w2, w3⟩
theorem all_again' {W W' : World} (hb : Below W.heap.size W W') {sp : Nat → Bool} {ts : List TypeId} {vs : List Value} {ds : List (DataW H)} {ps : List MemPlace}
    (hT : (ts.all fun t => Tryz.prog.readableRec t && decide (t < Tryz.prog.types.size)) = true) (h : DataW.TrodAll enc Tryz.prog W 0 (fun _ => true) true ts vs ds ps) (hlt : ∀ x ∈ ps, x.block < W.heap.size) (hs : ∀ x ∈ ps, sp x.block = true) :
    DataW.TrodAll enc Tryz.prog W' 0 sp true ts vs ds ps :=
  all_again hb (fun t ht => by have := List.all_eq_true.1 hT t ht; simp only [Bool.and_eq_true, decide_eq_true_eq] at this; exact this) h hlt hs
theorem resTrue (b : Nat) (sp : Nat → Bool) (hd : Bool) (W' : World) : DataW.Trod enc Tryz.prog W' b sp hd 4 (.bool true) (.lit (.bool true)) [] := shut_bool Tryz.underlying4 true
end
theorem no_stand {b : Bool} {f : FuncId} {fn0 : Func} {c : String} (h1 : Tryz.prog.funcNamed c = some f) (h2 : Tryz.prog.funcs[f]? = some fn0) (h3 : b = Tryz.prog.looks []) (h4 : (fn0.params.toList.all fun t => !Tryz.prog.wantsStandIn t) = true) :
    ∀ f' fn, Tryz.prog.funcNamed c = some f' → Tryz.prog.funcs[f']? = some fn → b = Tryz.prog.looks [] ∧ ∀ (j : Nat) t, fn.params[j]? = some t → Tryz.prog.wantsStandIn t = false := fun f' fn hf hfn => by
  obtain rfl : f = f' := Option.some.inj (h1.symm.trans hf)
  obtain rfl : fn0 = fn := Option.some.inj (h2.symm.trans hfn)
  refine ⟨h3, fun j t ht => ?_⟩
  have hm : t ∈ fn0.params.toList := by
    rw [← Array.getElem?_toList] at ht
    exact List.mem_of_getElem? ht
  have := List.all_eq_true.1 h4 t hm
  simpa using this
set_option maxRecDepth 100000
theorem Tryz.j3 : mapsRowed Tryz.prog = true := by kernel_rfl
theorem Tryz.jstops : (Tryz.prog.stops == []) = true := by kernel_rfl
theorem Tryz.jknobs : (Tryz.prog.stopKnobs == []) = true := by kernel_rfl
theorem Tryz.jheard : Tryz.prog.stopsHeard = true := by kernel_rfl
theorem Tryz.jenter : Tryz.prog.mayEnter = true := by kernel_rfl
theorem Tryz.jlooks : true = Tryz.prog.looks [] := by kernel_rfl
theorem Tryz.jlifts : (Rows.protocolMarksRow.lifted == Tryz.prog.liftsFinal) = true := by kernel_rfl
theorem Tryz.jmake : (Tryz.prog.make == some Rows.protocolMarksRow.make) = true := by kernel_rfl
theorem joined_of {f : FuncId} {fn : Func} {s : ChangeSpec} {c : OpenClaim}
    (k1 : c.wf (OpenSpec.ofChange s) = true) (k4 : fn.params.all (Tryz.prog.readableRec ·) = true) (k5 : namedTie Tryz.prog c.named s.vars = true) (k6 : (c.stops == []) = true) (k8 : (c.knobs == []) = true)
    (k10 : (c.inPlace == Tryz.prog.inPlace f) = true) (k11 : (c.unfollowed == Tryz.prog.unfollowed f) = true) (k12 : (c.recurses == Tryz.prog.recurses f) = true) (k13 : (c.named == Tryz.prog.varsNamed f) = true)
    (k14 : (c.maps == (fn.params.toList ++ s.plain.varTypes Tryz.prog).any (Tryz.prog.mapsRec ·)) = true) (k15 : (c.ifaces == (fn.params.toList ++ s.plain.varTypes Tryz.prog).any (Tryz.prog.ifacesRec ·)) = true) (k16 : (c.mapsOut == Tryz.prog.mapsAmong fn.resultTypes.toList) = true)
    (k17 : (c.loops == (fn.params.toList ++ s.plain.varTypes Tryz.prog).any (Tryz.prog.loopsFrom ·)) = true) (k17b : (c.wideKeys == (fn.params.toList ++ s.plain.varTypes Tryz.prog ++ fn.resultTypes.toList).any (Tryz.prog.wideKeysFrom ·)) = true)
    (k18 : s.vars.all (Tryz.prog.varReadable ·) = true) (k19 : fn.resultTypes.all (fun t => Tryz.prog.readableRec t && decide (t < Tryz.prog.types.size)) = true) (k20 : (c.ifacesOut == fn.resultTypes.toList.any (Tryz.prog.ifacesRec ·)) = true) (k21 : (c.loopsOut == fn.resultTypes.toList.any (Tryz.prog.loopsFrom ·)) = true)
    (k22 : (c.plainKeys == Tryz.prog.plainKeys) = true) (k23 : c.shortTexts.isNone = true) (hl : c.lifted = Rows.protocolMarksRow.lifted) (hm : c.make = Rows.protocolMarksRow.make)
    (k25 : (c.kinds == (if c.domain.isEmpty then [] else fn.params.toList.map fun t => match Tryz.prog.underlying t with | some (.int k) => some k | _ => none)) = true) (k26 : (c.pinned == c.pinnedBy) = true)
    (k27 : (c.veiled == (fn.params.toList ++ s.plain.varTypes Tryz.prog ++ fn.resultTypes.toList).any (Tryz.prog.veiledRec ·)) = true) (k28 : c.veiledFits Tryz.prog fn.params.toList (fn.params.toList ++ s.plain.varTypes Tryz.prog ++ fn.resultTypes.toList) = true) :
    joinedFacts Tryz.prog f fn s c = true := by
  have hl' : (c.lifted == Tryz.prog.liftsFinal) = true := by rw [hl]; exact Tryz.jlifts
  have hm' : (Tryz.prog.make == some c.make) = true := by rw [hm]; exact Tryz.jmake
  have two : ∀ {a b : Bool}, a = true → b = true → (a && b) = true := fun h h' => by rw [h, h']; rfl
  unfold joinedFacts
  exact two (two (two (two (two (two (two (two (two (two (two (two (two (two (two (two (two (two (two (two (two (two (two (two (two (two (two (two (two (two (two k1 Tryz.laidOut) Tryz.j3) k4) k5) k6) Tryz.jstops) k8) Tryz.jknobs) k10) k11) k12) k13) k14) k15) k16) k17) k17b) k18) k19) k20) k21) k22) k23) Tryz.jheard) Tryz.jenter) hl') hm') k25) k26) k27) k28
noncomputable def laidT : List (String × DataW Unit) := [("math/bits.deBruijn32tab", Rows.laid_math_bits_deBruijn32tab), ("math/bits.deBruijn64tab", Rows.laid_math_bits_deBruijn64tab), ("internal/strconv.uint64pow10", Rows.laid_internal_strconv_uint64pow10), ("unicode/utf8.acceptRanges", Rows.laid_unicode_utf8_acceptRanges), ("strconv.ErrRange", Rows.laid_strconv_ErrRange), ("strconv.ErrSyntax", Rows.laid_strconv_ErrSyntax), ("unicode/utf8.first", Rows.laid_unicode_utf8_first)]
theorem laid_met (os : Os) (args : Array Value) : laidMetH Tryz.prog laidT ((World.laidAll Tryz.prog os laidT).forCall (fun _ _ => 0) ⟨#[], args, []⟩).memory := by
  rw [MakeChecks.laidMetH_plain _ _ _ (by kernel_rfl)]
  exact laidMet_laidAll _ (by kernel_rfl) (by kernel_rfl)
theorem laid_shaped (os : Os) (args : Array Value) : ((World.laidAll Tryz.prog os laidT).forCall (fun _ _ => 0) ⟨#[], args, []⟩).Shaped Tryz.prog := World.shaped_of_ZipB (by kernel_rfl) (by kernel_rfl)
noncomputable def varType (n : String) : Option TypeId := (Tryz.prog.globalNamed n).bind fun g => (Tryz.prog.globals[g]?).map (·.type)
theorem varType_at {n : String} {t : TypeId} (e : varType n = some t) : ∃ g, Tryz.prog.globalNamed n = some g ∧ (Tryz.prog.globals[g]?).map (·.type) = some t := by
  unfold varType at e
  cases h : Tryz.prog.globalNamed n with
  | none => rw [h] at e; cases e
  | some g => rw [h] at e; exact ⟨g, rfl, e⟩
theorem Tryz.cells224 : Tryz.prog.cellsOf 224 = 20 := by kernel_rfl
theorem Tryz.cells61 : Tryz.prog.cellsOf 61 = 1 := by kernel_rfl
theorem pow_data : (Rows.laid_internal_strconv_uint64pow10 : DataW Unit) = Lib.tabData .u64 Lib.pow10Tab := by kernel_rfl
theorem err_var {n nm : String} {d : DataW Unit} {W : World} (h : Lib.VarReads Tryz.prog W n (.iface nm d)) (ht : varType n = some 86) : ∃ tp p, W.var? Tryz.prog n = some #[.iface tp p] := by
  obtain ⟨g, t, cs, fuel, p, h1, h2, h3, h4⟩ := h
  obtain ⟨g', k1, k2⟩ := varType_at ht
  obtain rfl := Option.some.inj (k1.symm.trans h1)
  obtain rfl := Option.some.inj (h2.symm.trans k2)
  obtain ⟨_, u, v, e, _⟩ := iface_of_trod Tryz.underlying86 h4
  refine ⟨u, v, ?_⟩
  rw [h3]
  congr 1
  obtain ⟨l⟩ := cs
  simpa using e
set_option maxRecDepth 100000 in
theorem of_laid {W : World} (h : laidMetH Tryz.prog laidT W) (hsh : W.ShapedOpen Tryz.prog) : Tab W := by
  rw [MakeChecks.laidMetH_plain _ _ _ (by kernel_rfl)] at h
  have h2 := laidMet.tail (laidMet.tail h)
  rw [pow_data] at h2
  obtain ⟨g, hg, hty⟩ := varType_at (n := "internal/strconv.uint64pow10") (t := 224) (by kernel_rfl)
  refine ⟨Lib.tabIs_of_head hg hty Tryz.underlying224 Tryz.underlying61 Tryz.cells61 Tryz.cells224 h2, ?_, ?_, ?_⟩
  · exact err_var (Lib.laidMet.reads h (n := "strconv.ErrSyntax") (d := Rows.laid_strconv_ErrSyntax) (by simp [laidT])) (by kernel_rfl)
  · exact err_var (Lib.laidMet.reads h (n := "strconv.ErrRange") (d := Rows.laid_strconv_ErrRange) (by simp [laidT])) (by kernel_rfl)
  · exact Go.Proofs.cell_of_shapedOpen_int (g := 5) (zero := #[.int .i64 0]) hsh (by decide) (by kernel_rfl) rfl (by kernel_rfl) (by kernel_rfl) Tryz.underlying3
end Go.Proofs.YtkpmmgeffbhngaaGreatDoor
