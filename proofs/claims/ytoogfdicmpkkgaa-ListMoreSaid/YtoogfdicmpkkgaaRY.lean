/- Rows: a sheet with the reach of its links; a link; three bytes. -/
import Derived.Test.YtoogfdicmpkkgaaRX
import Derived.SizedLaws
namespace Go.Proofs.Ytoogfdicmpkkgaa
open Go.ChangeShapes Go.WideShapes Go.ChangeAt Go.RowKit Go.Deep

section
variable {H : Type} {enc : TypeId × Value → H} {W : World} {base : Nat}
theorem Try.bytes55 : Try.prog.bytesOf 55 = 16 := by kernel_rfl
set_option maxRecDepth 100000 in
theorem weightR {c : Value} {fuel : Nat} {x : DataW H × List MemPlace} (hf : DataW.trod enc Try.prog W 0 (fun _ => true) true fuel 22 [c] = some x) {A : Option Addr} {n cap : Nat} (hc : c = .slice A n cap)
    (hw : (x.1.weights Try.prog 22).all (· ≤ reachBytes) = true) : n * 16 ≤ 140737488351232 := by
  rcases open_slice_pairs Try.underlying22 Try.underlying55 Try.cells55p rfl rfl Try.cells3p Try.cells3p hf with ⟨hcs, hx⟩ | ⟨a, len', cap', m, k, V0, V1, D0, D1, P0, P1, hcs, _, hl, hm, hmm, hx, hcell⟩
  · rw [hc] at hcs
    simp at hcs
    omega
  · rw [hc] at hcs
    simp at hcs
    obtain ⟨_, h2, _⟩ := hcs
    subst h2
    rw [hx] at hw
    dsimp only at hw
    simp only [DataW.weights, Try.underlying22, List.all_cons, Bool.and_eq_true, decide_eq_true_eq, Try.bytes55, List.length_map, List.length_range] at hw
    have h3 := hw.1
    unfold reachBytes at h3
    have h4 : n * 16 ≤ (n + (m - n)) * 16 := Nat.mul_le_mul_right _ (by omega)
    exact Nat.le_trans h4 h3
set_option maxRecDepth 100000 in
theorem openSheetW {v : Value} {d : DataW H} {p : List MemPlace} (hval : Value.okWide Try.prog W .any base 25 v) (h : DataW.Trod enc Try.prog W 0 (fun _ => true) true 25 v d p) :
    ∃ s : Sh, v = s.v ∧ ShIn W s ∧ ((d.weights Try.prog 25).all (· ≤ reachBytes) = true → s.l.length * 16 ≤ 140737488351232) := by
  obtain ⟨s, rfl, hs⟩ := openSheet hval h
  refine ⟨s, rfl, hs, fun hw => ?_⟩
  obtain ⟨L, R, A, ca, B, cb, l, t⟩ := s
  obtain ⟨fuel, hf⟩ := h
  obtain ⟨xs, n, _, hd, _, hlen, hf⟩ := DataW.trod_struct Try.underlying25 hf
  match xs, hlen with
  | [z0, z1, z2, z3], _ =>
    have h2 := hf 2 _ rfl
    unfold Sh.v vSheet at h2
    simp [Value.cells, Try.cells22p] at h2
    injection hd with hd1 _
    rw [hd1] at hw
    simp only [DataW.weights, Try.underlying25, List.map_cons, List.map_nil, DataW.weightsEach, List.all_append, Bool.and_eq_true] at hw
    exact weightR h2 rfl hw.2.2.1
theorem Try.cells53p : Try.prog.cellsOf 53 = 3 := by kernel_rfl
set_option maxRecDepth 100000 in
theorem openA3 {v : Value} {d : DataW H} {p : List MemPlace} (hval : Value.okWide Try.prog W .any base 53 v) (h : DataW.Trod enc Try.prog W 0 (fun _ => true) true 53 v d p) :
    ∃ a b c : Nat, v = .agg #[.int .u8 a, .int .u8 b, .int .u8 c] ∧ a ≤ 255 ∧ b ≤ 255 ∧ c ≤ 255 := by
  obtain ⟨cs, rfl, hsz⟩ := okWide_arr Try.underlying53 hval
  rw [Try.cells53p] at hsz
  obtain ⟨cs⟩ := cs
  match cs, hsz with
  | [c0, c1, c2], _ =>
    obtain ⟨fuel, hf⟩ := h
    obtain ⟨xs, m, _, _, _, hxl, hx⟩ := DataW.trod_array Try.underlying53 hf
    match xs, hxl with
    | [z0, z1, z2], _ =>
      have h0 := hx 0 (by omega)
      have h1 := hx 1 (by omega)
      have h2 := hx 2 (by omega)
      simp [Value.cells, Try.cells5p] at h0 h1 h2
      obtain ⟨a, e0, _, w0⟩ := DataW.trod_int Try.underlying5 h0
      obtain ⟨b, e1, _, w1⟩ := DataW.trod_int Try.underlying5 h1
      obtain ⟨c, e2, _, w2⟩ := DataW.trod_int Try.underlying5 h2
      simp at e0 e1 e2
      have g0 := Go.bounds_u8 w0
      have g1 := Go.bounds_u8 w1
      have g2 := Go.bounds_u8 w2
      exact ⟨a.toNat, b.toNat, c.toNat, by rw [e0, e1, e2, Int.toNat_of_nonneg g0.1, Int.toNat_of_nonneg g1.1, Int.toNat_of_nonneg g2.1], by omega, by omega, by omega⟩
end
end Go.Proofs.Ytoogfdicmpkkgaa
