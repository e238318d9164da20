/- Song and Works. -/
import Derived.Test.YtkjmeeggjmeajaaPW
namespace Go.Proofs.Ytkjmeeggjmeajaa
open Go.RowKit

theorem song_any (w : World) : Calls Try.prog 39 #[] w (Ret fun v w' => (∃ b, v = .slice (some ⟨b, 0, none⟩) 5 5 ∧ RangesAt w' (some ⟨b, 0, none⟩) songL) ∧ Below w.heap.size w w') := by
  have hrg := rg_any
  unfold vR at hrg
  have Hrg := Lib.hid hrg; clear hrg
  go_enter Try.func39, Try.ntmps39
  go_wp2_with fail
  refine (Hrg.out _ _ _).mono ?_
  rintro e w1 ⟨v, rfl, rfl, hB1⟩
  have HB1 := Lib.hid hB1; clear hB1
  go_wp2_with fail
  refine (Hrg.out _ _ _).mono ?_
  rintro e w2 ⟨v, rfl, rfl, hB2⟩
  have HB2 := Lib.hid (below_trans' HB1.out hB2); clear hB2
  go_wp2_with fail
  refine (Hrg.out _ _ _).mono ?_
  rintro e w3 ⟨v, rfl, rfl, hB3⟩
  have HB3 := Lib.hid (below_trans' HB2.out hB3); clear hB3
  go_wp2_with fail
  refine (Hrg.out _ _ _).mono ?_
  rintro e w4 ⟨v, rfl, rfl, hB4⟩
  have HB4 := Lib.hid (below_trans' HB3.out hB4); clear hB4
  go_wp2_with fail
  refine (Hrg.out _ _ _).mono ?_
  rintro e w5 ⟨v, rfl, rfl, hB5⟩
  have HB5 := Lib.hid (below_trans' HB4.out hB5); clear hB5
  go_wp2
  go_ret
  refine Ret.mk' rfl ⟨⟨_, rfl, rows_new encR_len _ _ _ _ rfl⟩, below_alloc' HB5.out _⟩
end Go.Proofs.Ytkjmeeggjmeajaa
