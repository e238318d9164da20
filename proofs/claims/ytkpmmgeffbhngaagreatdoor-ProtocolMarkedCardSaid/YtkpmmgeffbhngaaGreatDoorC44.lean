/- What the laws of the chapter rest on, part 44. -/
import Derived.Test.YtkpmmgeffbhngaaGreatDoorC40
import Derived.Test.YtkpmmgeffbhngaaGreatDoorC42
set_option linter.unusedSimpArgs false
set_option linter.unusedVariables false
set_option linter.unnecessarySimpa false
namespace Prot
end Prot
namespace Go.Shelf
end Go.Shelf
namespace Go.Maps
end Go.Maps
namespace Prot
open Go.Lib
theorem decV_len (l : List UInt8) : (decV l).1.length ≤ 200 := by
  unfold decV
  rcases decW_cases 1048576 l with h | ⟨ds, h⟩
  · rw [h]; exact Nat.zero_le _
  · have := (encErr_iff.1 (decW_ok h).1).1
    rw [h]; exact this
theorem doV_items (j : Jn) (c : Card) : (doV j c).1.items.length ≤ j.items.length + 1 := by
  have hp : ∀ (l : List It) (n : Int) (f : It → It), (putI l n f).length = l.length := fun l n f => by unfold putI; simp
  unfold doV
  repeat' split
  all_goals first | (show j.items.length ≤ _; omega) | (simp only [hp]; omega) | (simp only [List.length_append, List.length_cons, List.length_nil]; omega)
theorem replay_items : ∀ (cs : List Card) (j k : Jn), replay cs j = some k → k.items.length ≤ j.items.length + cs.length
  | [], j, k, h => by injection h with h; subst h; simp
  | c :: cs, j, k, h => by
    have h' : (if (doV j c).2 = 0 then replay cs (doV j c).1 else none) = some k := h
    split at h'
    · have h1 := replay_items cs _ k h'
      have h2 := doV_items j c
      rw [List.length_cons]; omega
    · cases h'
theorem run_items (ls : List (List UInt8)) : (runV ls).jn.items.length ≤ ls.length := by
  have h := runV_ok ls
  have h1 := replay_items _ _ _ h.jn
  have h2 : (liveC (runV ls).cards).length ≤ (runV ls).cards.length := List.length_filter_le _ _
  rw [h.len] at h2
  have h3 : Jn.start.items.length = 0 := rfl
  omega
theorem stateA_len (t : List UInt8) : (stateA t).1.length ≤ 60 := by
  unfold stateA
  split
  · exact Nat.zero_le _
  · rename_i h
    have h0 : textErr t = 0 := Classical.byContradiction fun k => h k
    show (toldL (runV (rowsL t)).jn.items).length ≤ 60
    rw [(told_perm _).length_eq]
    have h1 := run_items (rowsL t)
    have h2 := (textErr_ok h0).2.2
    omega
theorem readA_len (t : List UInt8) : (readA t).1.length ≤ 60 := by
  unfold readA
  split
  · exact Nat.zero_le _
  · rcases readV_cases waysP t with h | ⟨l, h⟩
    · rw [h]; exact Nat.zero_le _
    · have := (itemsErr_iff.1 (readV_ok h).1).few
      rw [h]; exact this
end Prot
namespace Go.Proofs.YtkpmmgeffbhngaaGreatDoor
open Go.RowKit Go.Shelf Prot Go.Lib Go.Maps
theorem Ret.drawn {b : Bool} (hb : b = true) {w w' : World} {e : Ending} (h : Ret (fun v w' => v = .bool b ∧ ∃ q, w' = w.drewN q) e w') : Ret (fun v w' => v = .bool true ∧ Below w.heap.size w w') e w' := by
  obtain ⟨v, rfl, rfl, q, rfl⟩ := h
  exact Ret.mk ⟨by rw [hb], below_drewN (Below.refl _ _) q⟩
theorem longs_same (A B : Option Addr) (ca cb : Nat) (l : List Int) (w : World) (hl : IntsAt w A l) (hm : IntsAt w B l) (hn : l.length ≤ 1000000) :
    Calls Tryz.prog 24 #[.slice A l.length ca, .slice B l.length cb] w (Ret fun v w' => v = .bool true ∧ Below w.heap.size w w') := (longs_any A B ca cb l l w hl hm hn).mono fun _ _ h => h.drawn (decide_eq_true rfl)
theorem errs_same (A B : Option Addr) (ca cb : Nat) (l : List Int) (w : World) (hl : IntsAt w A l) (hm : IntsAt w B l) (hn : l.length ≤ 1000000) :
    Calls Tryz.prog 35 #[.slice A l.length ca, .slice B l.length cb] w (Ret fun v w' => v = .bool true ∧ Below w.heap.size w w') := (errs_any A B ca cb l l w hl hm hn).mono fun _ _ h => h.drawn (decide_eq_true rfl)
theorem items_same (A B : Option Addr) (ca cb : Nat) (l : List It) (w : World) (hl : ItemsAt w A l) (hm : ItemsAt w B l) (hn : l.length ≤ 1000000) :
    Calls Tryz.prog 36 #[.slice A l.length ca, .slice B l.length cb] w (Ret fun v w' => v = .bool true ∧ Below w.heap.size w w') := (items_any A B ca cb l l w hl hm hn).mono fun _ _ h => h.drawn (decide_eq_true rfl)
theorem fine_yes (l : List UInt8) (h1 : l.length ≤ 5000) (h2 : textErr l = 0) (w : World) : Calls Tryz.prog 41 #[.string (bs l)] w (Ret fun v w' => v = .bool true ∧ Below w.heap.size w w') := by
  have := fine_any (bs l) w
  rw [bs_list, bs_size, decide_eq_true ⟨h1, h2⟩] at this
  exact this
theorem fine_no (l : List UInt8) (h : ¬ (l.length ≤ 5000 ∧ textErr l = 0)) (w : World) : Calls Tryz.prog 41 #[.string (bs l)] w (Ret fun v w' => v = .bool false ∧ Below w.heap.size w w') := by
  have := fine_any (bs l) w
  rw [bs_list, bs_size, decide_eq_false h] at this
  exact this
theorem lines_ok (l : List UInt8) (h : textErr l = 0) (w : World) : Calls Tryz.prog 44 #[.string (bs l)] w (Ret fun v w' => (∃ A ca, v = .tuple #[.slice A (rowsL l).length ca, .int .i64 0] ∧ (rowsL l).length ≤ ca ∧ StrsAt w' A (rowsL l)) ∧ Below w.heap.size w w') := by
  have h1 := (textErr_ok h).1
  have := rLines_any (bs l) w (by rw [bs_size]; omega)
  rw [bs_list] at this
  refine this.mono ?_
  rintro _ w' ⟨v, rfl, ⟨k, -⟩ | ⟨-, A, ca, rfl, h3, h4⟩, hB⟩
  · exact absurd h k
  · exact Ret.mk ⟨⟨A, ca, rfl, h3, h4⟩, hB⟩
theorem run_ok (l : List UInt8) (r : List Int) (h : runA l = (r, 0)) (hl : l.length ≤ 100000) (w : World) (hT : Tab w) : Calls Tryz.prog 29 #[.string (bs l)] w (Ret fun v w' => (∃ A ca, v = .tuple #[.slice A r.length ca, .int .i64 0] ∧ r.length ≤ ca ∧ IntsAt w' A r) ∧ Below w.heap.size w w') := by
  refine (Run_any l w hT hl).mono ?_
  rintro _ w' ⟨v, rfl, A, ca, rfl, h1, h2, hb⟩
  rw [h] at h1 h2 ⊢
  exact Ret.mk ⟨⟨A, ca, rfl, h1, h2⟩, hb⟩
theorem state_ok (l : List UInt8) (r : List It) (h : stateA l = (r, 0)) (hl : l.length ≤ 100000) (w : World) (hT : Tab w) : Calls Tryz.prog 31 #[.string (bs l)] w (Ret fun v w' => (∃ A ca, v = .tuple #[.slice A r.length ca, .int .i64 0] ∧ r.length ≤ ca ∧ ItemsAt w' A r) ∧ Below w.heap.size w w') := by
  refine (State_any l w hT hl).mono ?_
  rintro _ w' ⟨v, rfl, A, ca, rfl, h1, h2, hb⟩
  rw [h] at h1 h2 ⊢
  exact Ret.mk ⟨⟨A, ca, rfl, h1, h2⟩, hb⟩
theorem fair_ok (l r : List UInt8) (h : fairA l = (r, 0)) (hl : l.length ≤ 100000) (w : World) (hT : Tab w) : Calls Tryz.prog 33 #[.string (bs l)] w (Ret fun v w' => v = .tuple #[.string (bs r), .int .i64 0] ∧ Below w.heap.size w w') := by
  refine (Fair_any l w hT hl).mono ?_
  rintro _ w' ⟨v, rfl, rfl, hb⟩
  exact Ret.mk ⟨by rw [h]; rfl, hb⟩
theorem list_ok (A : Option Addr) (ca : Nat) (l : List It) (r : List UInt8) (h : listA l = (r, 0)) (hca : l.length ≤ ca) (hn : l.length ≤ 100000) (w : World) (hT : Tab w) (hl : ItemsAt w A l) : Calls Tryz.prog 37 #[.slice A l.length ca] w (Ret fun v w' => v = .tuple #[.string (bs r), .int .i64 0] ∧ Below w.heap.size w w') := by
  refine (List_any A ca l w hT hl hca hn).mono ?_
  rintro _ w' ⟨v, rfl, rfl, hb⟩
  exact Ret.mk ⟨by rw [h]; rfl, hb⟩
theorem read_ok (l : List UInt8) (r : List It) (h : readA l = (r, 0)) (hl : l.length ≤ 100000) (w : World) (hT : Tab w) : Calls Tryz.prog 39 #[.string (bs l)] w (Ret fun v w' => (∃ A ca, v = .tuple #[.slice A r.length ca, .int .i64 0] ∧ r.length ≤ ca ∧ ItemsAt w' A r) ∧ Below w.heap.size w w') := by
  refine (ReadList_any l w hT hl).mono ?_
  rintro _ w' ⟨v, rfl, A, ca, rfl, h1, h2, hb⟩
  rw [h] at h1 h2 ⊢
  exact Ret.mk ⟨⟨A, ca, rfl, h1, h2⟩, hb⟩
end Go.Proofs.YtkpmmgeffbhngaaGreatDoor
