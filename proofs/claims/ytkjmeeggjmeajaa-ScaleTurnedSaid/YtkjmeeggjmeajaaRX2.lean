/- Rows: further arguments opened: slices of small numbers, arrays of two, pairs by value. -/
import Derived.Test.YtkjmeeggjmeajaaRX
import Derived.OpenShut
namespace Go.Proofs.Ytkjmeeggjmeajaa
open Go.ChangeShapes Go.WideShapes Go.ChangeAt Go.RowKit Go.Deep

section
variable {H : Type} {enc : TypeId × Value → H} {W : World} {base : Nat}
theorem trodAll_four {P : Program} {w : World} {b0 : Nat} {spare : Nat → Bool} {held : Bool} {t t' t'' t3 : TypeId} {args : Array Value} {ds : List (DataW H)} {ps : List MemPlace} (h : DataW.TrodAll enc P w b0 spare held [t, t', t'', t3] args.toList ds ps) :
    ∃ v v' v'' v3 d d' d'' d3 p p' p'' p3, args = #[v, v', v'', v3] ∧ ds = [d, d', d'', d3] ∧ ps = p ++ p' ++ p'' ++ p3 ∧ DataW.Trod enc P w b0 spare held t v d p ∧ DataW.Trod enc P w b0 spare held t' v' d' p' ∧ DataW.Trod enc P w b0 spare held t'' v'' d'' p'' ∧ DataW.Trod enc P w b0 spare held t3 v3 d3 p3 := by
  obtain ⟨v, vs, d, ds', p, q, hargs, rfl, rfl, hd, hrest⟩ := trodAll_cons h
  obtain ⟨v', vs', d', ds'', p', q', rfl, rfl, rfl, hd', hrest'⟩ := trodAll_cons hrest
  obtain ⟨v'', vs'', d'', ds3, p'', q'', rfl, rfl, rfl, hd'', hrest''⟩ := trodAll_cons hrest'
  obtain ⟨v3, vs3, d3, ds4, p3, q3, rfl, rfl, rfl, hd3, hrest3⟩ := trodAll_cons hrest''
  obtain ⟨rfl, rfl, rfl⟩ := trodAll_nil hrest3
  exact ⟨v, v', v'', v3, d, d', d'', d3, p, p', p'', p3, by cases args; simp_all, rfl, by simp, hd, hd', hd'', hd3⟩
set_option maxRecDepth 100000 in
theorem openK {k : IntKind} {t e : TypeId} (ht : Try.prog.underlying t = some (.slice e)) (he : Try.prog.underlying e = some (.int k)) (hc : Try.prog.cellsOf e = 1) {v : Value} {d : DataW H} {p : List MemPlace} (hval : Value.okWide Try.prog W .any base t v) (h : DataW.Trod enc Try.prog W 0 (fun _ => true) true t v d p) :
    ∃ A l c, v = .slice A l.length c ∧ l.length ≤ c ∧ c ≤ maxLen ∧ RowsAt (fun x : Int => [.int k x]) 1 W A l ∧ ∀ x ∈ l, (Lit.int k x).wf = true := by
  obtain ⟨a0, len, cap, rfl⟩ := okWide_slice ht hval
  obtain ⟨fuel, hf⟩ := h
  rcases open_ints ht he hc hf with ⟨hcs, hx⟩ | ⟨a, len', cap', zs, hcs, _, hl, hm, hz, hx, hcell, hwz⟩
  · simp [Value.cells] at hcs
    obtain ⟨rfl, rfl, rfl⟩ := hcs
    exact ⟨none, [], 0, rfl, Nat.le_refl _, by unfold maxLen; omega, RowsAt.nil _, by simp⟩
  · simp [Value.cells] at hcs
    obtain ⟨rfl, rfl, rfl⟩ := hcs
    simp only [if_true] at hz
    refine ⟨some a, zs.take len, cap, by rw [List.length_take, hz, Nat.min_eq_left hl], by rw [List.length_take, hz, Nat.min_eq_left hl]; exact hl, hm, ?_, fun x hx => hwz x (List.mem_of_mem_take hx)⟩
    intro i hi
    rw [List.length_take, hz, Nat.min_eq_left hl] at hi
    have h0 := hcell 0 (by omega)
    obtain ⟨b, off, rfl⟩ := plain_of_cell h0
    refine ⟨b, off, rfl, fun j u hu => ?_⟩
    obtain rfl : j = 0 := by
      have := (List.getElem?_eq_some_iff.1 hu).1
      simp at this; omega
    have hu' : Value.int k (zs.take len)[i] = u := by simpa using hu
    have hci := hcell i (by omega)
    rw [addr_add] at hci
    rw [Nat.mul_one, Nat.add_zero, hci, ← hu']
    rw [List.getElem_take, List.getD_eq_getElem?_getD, List.getElem?_eq_getElem (by omega)]; rfl
set_option maxRecDepth 100000 in
theorem okWide_arr {n : Nat} {t e : TypeId} {v : Value} (ht : Try.prog.underlying t = some (.array n e)) (h : Value.okWide Try.prog W .any base t v) : ∃ cs, v = .agg cs ∧ cs.size = Try.prog.cellsOf t := by
  simp only [Value.okWide, ht] at h
  cases v <;> simp_all
set_option maxRecDepth 100000 in
theorem openA2 {k : IntKind} {t e : TypeId} (ht : Try.prog.underlying t = some (.array 2 e)) (he : Try.prog.underlying e = some (.int k)) (hc : Try.prog.cellsOf e = 1) (hct : Try.prog.cellsOf t = 2) {v : Value} {d : DataW H} {p : List MemPlace} (hval : Value.okWide Try.prog W .any base t v) (h : DataW.Trod enc Try.prog W 0 (fun _ => true) true t v d p) :
    ∃ a b : Int, v = .agg #[.int k a, .int k b] ∧ (Lit.int k a).wf = true ∧ (Lit.int k b).wf = true := by
  obtain ⟨cs, rfl, hsz⟩ := okWide_arr ht hval
  rw [hct] at hsz
  obtain ⟨cs⟩ := cs
  match cs, hsz with
  | [c0, c1], _ =>
    obtain ⟨fuel, hf⟩ := h
    obtain ⟨xs, m, _, _, _, hxl, hx⟩ := DataW.trod_array ht hf
    match xs, hxl with
    | [y0, y1], _ =>
      have h0 := hx 0 (by omega)
      have h1 := hx 1 (by omega)
      rw [hc] at h0 h1
      simp [Value.cells] at h0 h1
      obtain ⟨a, e0, _, w0⟩ := DataW.trod_int he h0
      obtain ⟨b, e1, _, w1⟩ := DataW.trod_int he h1
      simp at e0 e1
      exact ⟨a, b, by rw [e0, e1], w0, w1⟩
set_option maxRecDepth 100000 in
theorem openS50 {v : Value} {d : DataW H} {p : List MemPlace} (hval : Value.okWide Try.prog W .any base 50 v) (h : DataW.Trod enc Try.prog W 0 (fun _ => true) true 50 v d p) :
    ∃ a b : Int, v = .agg #[.int .i64 a, .int .i64 b] ∧ (Lit.int .i64 a).wf = true ∧ (Lit.int .i64 b).wf = true := by
  obtain ⟨cs, rfl, hsz⟩ := okWide_struct Try.underlying50 hval
  rw [Try.cells50] at hsz
  obtain ⟨cs⟩ := cs
  match cs, hsz with
  | [c0, c1], _ =>
    obtain ⟨fuel, hf⟩ := h
    obtain ⟨y0, y1, n, _, _, h0, h1⟩ := trod_struct2 Try.underlying50 hf
    simp [Value.cells, Try.cells2] at h0 h1
    obtain ⟨a, e0, _, w0⟩ := DataW.trod_int Try.underlying2 h0
    obtain ⟨b, e1, _, w1⟩ := DataW.trod_int Try.underlying2 h1
    simp at e0 e1
    exact ⟨a, b, by rw [e0, e1], w0, w1⟩
theorem Try.cells54 : Try.prog.cellsOf 54 = 1 := by kernel_rfl
end
end Go.Proofs.Ytkjmeeggjmeajaa
