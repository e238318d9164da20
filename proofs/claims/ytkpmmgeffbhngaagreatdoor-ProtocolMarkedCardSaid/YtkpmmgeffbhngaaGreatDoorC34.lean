/- What the laws of the chapter rest on, part 34. -/
import Derived.Test.YtkpmmgeffbhngaaGreatDoorC29
import Derived.Test.YtkpmmgeffbhngaaGreatDoorC30
import Derived.Test.YtkpmmgeffbhngaaGreatDoorC32
import Derived.Test.YtkpmmgeffbhngaaGreatDoorC33
set_option linter.unusedSimpArgs false
set_option linter.unusedVariables false
set_option linter.unnecessarySimpa false
namespace Prot
end Prot
namespace Go.Shelf
end Go.Shelf
namespace Go.Maps
end Go.Maps
namespace Go.Proofs.YtkpmmgeffbhngaaGreatDoor
open Go.RowKit Go.Shelf Prot Go.Lib Go.Maps
theorem do_any (jb mb n : Nat) (j : Jn) (c : Card) (w : World) (hj : JAt w jb mb n j) (hok : JnOk j) (hn : n ≤ 1000000) (hc : CardOk c) (h7 : c.1 ≠ 7) :
    Calls Tryz.prog 107 #[.pointer (some ⟨jb, 0, none⟩), vCard c] w (Ret fun v w' => v = .int .i64 (doV j c).2 ∧ (∃ n', n' ≤ n + 1 ∧ JAt w' jb mb n' (doV j c).1) ∧ KeepC w.heap.size jb mb w w') := by
  have hmx : (maxN : Int) = 1099511627776 := rfl
  obtain ⟨k, x, y, z⟩ := c
  have hk := hc.kind
  have h1 := hc.one
  have ho := hok.opn
  have same : ∀ {R : Value → World → Prop} {S : Value → World → Prop} {a : Array Value}, Calls Tryz.prog 107 a w (Ret R) → (∀ v w', R v w' → S v w') → Calls Tryz.prog 107 a w (Ret S) := fun h hi => h.mono (by rintro _ w' ⟨v, rfl, hr⟩; exact ⟨v, rfl, hi _ _ hr⟩)
  dsimp only at hk h1 h7
  have hcs : k = 1 ∨ k = 2 ∨ k = 3 ∨ k = 4 ∨ k = 5 ∨ k = 6 := by omega
  rcases hcs with rfl | rfl | rfl | rfl | rfl | rfl
  · have h2 := (hc.day rfl).1
    dsimp only at h2
    exact same (doDay_any jb mb n j x y z w hj (by omega) (by omega)) fun v w' h => ⟨h.1, ⟨n, by omega, h.2.1⟩, h.2.2⟩
  · have h2 := (hc.box rfl).1
    dsimp only at h2
    exact same (doBox_any jb mb n j x y z w hj hok.both (by omega) (by omega)) fun v w' h => ⟨h.1, ⟨n, by omega, h.2.1⟩, h.2.2⟩
  · have h2 := hc.sing rfl
    dsimp only at h2
    exact doSing_any jb mb n j x y z w hj (by omega) (by omega) hok.few hn (by omega) (by omega)
  · have h2 := hc.copy rfl
    dsimp only at h2
    exact doCopy_any jb mb n j x y z w hj (by omega) (by omega) hok.few hn (by omega) (by omega) (by omega) (by omega)
  · have h2 := hc.rest (by dsimp only; omega)
    dsimp only at h2
    exact doCrack_any jb mb n j x y z w hj hn (by omega) (by omega)
  · have h2 := hc.rest (by dsimp only; omega)
    dsimp only at h2
    exact doMove_any jb mb n j x y z w hj hok hn (by omega) (by omega)
end Go.Proofs.YtkpmmgeffbhngaaGreatDoor
