/- The stable sort of tones. -/
import Derived.Test.YtkjmeeggjmeajaaSO8
namespace Go.Proofs.Ytkjmeeggjmeajaa
open Go.RowKit

theorem symMerge_any (base g c n : Nat) (hn : n ≤ 1000) (hc : n ≤ c) : ∀ (N : Nat) (X Y : List Tone), X.length + Y.length ≤ N → 0 < X.length → 0 < Y.length → ByHi X → ByHi Y → (∀ x ∈ X, inB x.2.1) → (∀ y ∈ Y, inB y.2.1) → SymOk base g c n X Y
  | 0, X, Y, h, h1, h2, _, _, _, _ => by omega
  | N + 1, X, Y, h, h1, h2, o1, o2, b1, b2 => by
    by_cases hx : X.length = 1
    · obtain ⟨x, rfl⟩ := List.length_eq_one_iff.1 hx
      intro a m b P S w hr hP hX hY
      exact merge1_any base g c n a m b P Y S x w hr hn hc hP hX hY (b1 x (by simp)) b2 o2
    · by_cases hy : Y.length = 1
      · obtain ⟨y, rfl⟩ := List.length_eq_one_iff.1 hy
        intro a m b P S w hr hP hX hY
        refine (merge2_any base g c n a m b P X S y w hr hn hc hP hX hY (by omega) (b2 y (by simp)) b1 o1).mono ?_
        rintro e w' ⟨v, rfl, ⟨Z, h1, h2, h3⟩, h4⟩
        exact Ret.mk ⟨⟨Z, h1.trans (List.perm_append_singleton y X).symm, h2, h3⟩, h4⟩
      · exact merge3_any base g c n X Y hn hc (by omega) (by omega) b1 b2 o1 o2 (fun X' Y' hl a1 a2 a3 a4 a5 a6 => symMerge_any base g c n hn hc N X' Y' (by omega) a1 a2 a3 a4 a5 a6)

/-- the insertion sort of no more than one tone -/
theorem insertion_none (v : Value) (c a b : Nat) (hv : b ≤ a + 1) (A : Option Addr) (n : Nat) (f : Value) (w : World) (hv' : v = .slice A n c) (ha : a ≤ 1000) :
    Calls Try.prog 86 #[v, .int .i64 a, .int .i64 b, f] w (Ret fun _ w' => w' = w) := by
  subst hv'
  have g1 : IntKind.i64.wrap ((a : Int) + 1) = (a : Int) + 1 := IntWalk.i64_in _ (by omega)
  have g2 : decide ((a : Int) + 1 < (b : Int)) = false := by simp; omega
  have g3 : ¬ ((a : Int) + 1 < (b : Int)) := by omega
  go_enter Try.func86, Try.ntmps86
  go_wp2
  go_loopw [8] (fun i wr => i = .int .i64 ((a : Int) + 1) ∧ wr = w) (fun i _ => 0)
  case atStart => exact ⟨rfl, rfl⟩
  case round =>
    obtain ⟨rfl, rfl⟩ := hrel
    go_wp2
    go_end0
    exact Ret.mk' rfl rfl
end Go.Proofs.Ytkjmeeggjmeajaa
