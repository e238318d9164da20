/- What the laws of the chapter rest on, part 08. -/
import Derived.Test.YtkpmmgeffbhngaaGreatDoorC02
import Derived.Test.YtkpmmgeffbhngaaGreatDoorC04
set_option linter.unusedSimpArgs false
set_option linter.unusedVariables false
set_option linter.unnecessarySimpa false
namespace Prot
end Prot
namespace Go.Shelf
end Go.Shelf
namespace Go.Maps
end Go.Maps
namespace Go.Proofs.YtkpmmgeffbhngaaGreatDoor
open Go.RowKit Prot Go.Lib Go.Maps
def seg (t : List UInt8) (f k : Nat) : List UInt8 := (t.drop f).take (k - f)
theorem seg_next {t : List UInt8} {f k : Nat} (h : f ≤ k) (hk : k < t.length) : seg t f (k + 1) = seg t f k ++ [t[k]] := by
  unfold seg
  rw [show k + 1 - f = (k - f) + 1 by omega, List.take_add_one, List.getElem?_drop, show f + (k - f) = k by omega, List.getElem?_eq_getElem hk]; rfl
theorem seg_same (t : List UInt8) (k : Nat) : seg t k k = [] := by unfold seg; simp
theorem rowsA_c (acc : List UInt8) (c : UInt8) (r : List UInt8) : rowsA acc (c :: r) = if c = 10 then acc :: rowsA [] r else rowsA (acc ++ [c]) r := rfl
/-- where the rows stand behind k bytes -/
structure RowSt (t : List UInt8) (k f : Nat) (ls : List (List UInt8)) : Prop where
  le : f ≤ k
  rows : rowsL t = ls ++ rowsA (seg t f k) (t.drop k)
  last : f = k ∨ (t.take k).getLast? ≠ some 10
theorem RowSt.start (t : List UInt8) : RowSt t 0 0 [] := ⟨Nat.le_refl _, by rw [seg_same]; rfl, .inl rfl⟩
theorem RowSt.cut {t : List UInt8} {k f : Nat} {ls : List (List UInt8)} (h : RowSt t k f ls) (hk : k < t.length) (hc : t[k] = 10) : RowSt t (k + 1) (k + 1) (ls ++ [seg t f k]) :=
  ⟨Nat.le_refl _, by rw [h.rows, List.drop_eq_getElem_cons hk, rowsA_c, if_pos hc, seg_same]; simp, .inl rfl⟩
theorem RowSt.on {t : List UInt8} {k f : Nat} {ls : List (List UInt8)} (h : RowSt t k f ls) (hk : k < t.length) (hc : t[k] ≠ 10) : RowSt t (k + 1) f ls :=
  ⟨by have := h.le; omega, by rw [h.rows, List.drop_eq_getElem_cons hk, rowsA_c, if_neg hc, seg_next h.le hk], .inr (by
    rw [List.take_succ_eq_append_getElem hk, List.getLast?_append]
    simpa using hc)⟩
theorem RowSt.done {t : List UInt8} {f : Nat} {ls : List (List UInt8)} (h : RowSt t t.length f ls) (he : Prot.Ends t) : rowsL t = ls := by
  have hf : f = t.length := by
    rcases h.last with e | e
    · exact e
    · rcases he with he | he
      · subst he; have := h.le; simp at this ⊢; omega
      · rw [List.take_length] at e; exact absurd he e
  rw [h.rows, hf, seg_same, List.drop_length]
  simp [rowsA]
theorem rows_count {t : List UInt8} (h : Prot.Ends t) : (rowsL t).length = t.count 10 := by
  have := text_count (rows_nl t)
  rw [text_rows h] at this
  exact this.symm
/-- what Lines of the definition answers -/
def LinesQ (t : List UInt8) (w : World) (v : Value) (w' : World) : Prop :=
  (textErr t ≠ 0 ∧ v = .tuple #[.slice none 0 0, .int .i64 (textErr t)] ∨ textErr t = 0 ∧ ∃ A ca, v = .tuple #[.slice A (rowsL t).length ca, .int .i64 0] ∧ (rowsL t).length ≤ ca ∧ StrsAt w' A (rowsL t)) ∧ Below w.heap.size w w'
set_option maxRecDepth 100000 in
set_option maxHeartbeats 1000000 in
theorem rLines_any (s : ByteArray) (w : World) (hs : s.size ≤ 9223372036854775807) : Calls Tryz.prog 44 #[.string s] w (Ret (LinesQ s.data.toList w)) := by
  have hsz : s.data.toList.length = s.size := (Lib.size_eq s).symm
  obtain ⟨t, ht⟩ : ∃ t, t = s.data.toList := ⟨_, rfl⟩
  rw [← ht] at hsz ⊢
  have HErr : Hid (∀ e, textErr t = e → e ≠ 0 → ∀ w' : World, Below w.heap.size w w' → LinesQ t w (.tuple #[.slice none 0 0, .int .i64 e]) w') := Lib.hid fun e h1 h2 w' hB => ⟨.inl ⟨by rw [h1]; exact h2, by rw [h1]⟩, hB⟩
  by_cases h1 : 65536 < s.size
  · have HR := Lib.hid (HErr.out 7 (by unfold textErr; rw [if_pos (by omega)]) (by omega))
    have d1 : decide ((s.size : Int) > 65536) = true := by simp; omega
    have d2 : decide ((65536 : Int) < (s.size : Int)) = true := by simp; omega
    clear h1 ht hsz hs HErr
    go_enter Tryz.func44, Tryz.ntmps44
    go_wp2
    go_ret2
    exact Ret.mk (HR.out _ (Below.refl _ _))
  have d1 : decide ((s.size : Int) > 65536) = false := by simp; omega
  have d2 : decide ((65536 : Int) < (s.size : Int)) = false := by simp; omega
  have hb : s.size ≤ 65536 := by omega
  have hHt : ∀ k (h : k < s.size), ∃ h' : k < t.length, t[k]'h' = s[k] := fun k h => by
    have h1 := at_list s k h
    rw [← ht] at h1
    exact ⟨by omega, by rw [List.getElem?_eq_getElem (by omega)] at h1; exact Option.some.inj h1⟩
  have Ht := Lib.hid hHt
  have HX : Hid (∀ f k, s.extract f k = bs (seg t f k)) := Lib.hid fun f k => by
    rw [ht]
    conv => lhs; rw [bs_of s]
    exact bs_extract _ _ _
  by_cases he : Prot.Ends t
  · have hlast : 0 < s.size → ∃ h : s.size - 1 < s.size, s[s.size - 1] = 10 := fun h0 => by
      refine ⟨by omega, ?_⟩
      obtain ⟨h', e⟩ := hHt (s.size - 1) (by omega)
      rcases he with he | he
      · subst he; simp at hsz; omega
      · rw [List.getLast?_eq_getElem?, hsz, List.getElem?_eq_getElem h'] at he
        rw [← e]; exact Option.some.inj he
    have HDone : Hid (∀ f ls, RowSt t s.size f ls → rowsL t = ls) := Lib.hid fun f ls h => by rw [← hsz] at h; exact h.done he
    have HE6 : Hid (60 < (rowsL t).length → textErr t = 6) := Lib.hid fun h => by
      rw [rows_count he] at h
      unfold textErr
      rw [if_neg (by omega), if_neg (by rintro ⟨a, b⟩; rcases he with he | he; exact a he; exact b he), if_pos h]
    have HE0 : Hid (¬ 60 < (rowsL t).length → textErr t = 0) := Lib.hid fun h => by
      rw [rows_count he] at h
      unfold textErr
      rw [if_neg (by omega), if_neg (by rintro ⟨a, b⟩; rcases he with he | he; exact a he; exact b he), if_neg h]
    have hge : (s.size = 0 ∧ decide ((s.size : Int) > 0) = false ∧ decide ((0 : Int) < (s.size : Int)) = false ∧ decide (0 < s.size) = false) ∨ (decide ((s.size : Int) > 0) = true ∧ decide ((0 : Int) < (s.size : Int)) = true ∧ ∃ m : Nat, IntKind.i64.wrap ((s.size : Int) - 1) = (m : Int) ∧ ∃ h : m < s.size, (s[m] = 10)) := by
      by_cases h0 : 0 < s.size
      · right
        obtain ⟨h, e⟩ := hlast h0
        exact ⟨by simp; omega, by simp; omega, s.size - 1, by rw [show (s.size : Int) - 1 = ((s.size - 1 : Nat) : Int) by omega]; exact IntWalk.i64_in _ (by omega), h, e⟩
      · exact .inl ⟨by omega, decide_eq_false (by omega), decide_eq_false (by omega), decide_eq_false (by omega)⟩
    clear hlast he h1 ht hs hHt
    have Hsz := Lib.hid hsz
    clear hsz
    rcases hge with ⟨g0, g1, g2, g3⟩ | ⟨g1, g2, m, g3, g4, g5⟩
    · have G0 := Lib.hid g0
      clear g0
      go_enter Tryz.func44, Tryz.ntmps44
      go_wp2
      go_loopw [4, 5, 6] (fun u f i wr => ∃ (k fr : Nat) (ls : List (List UInt8)), k ≤ s.size ∧ fr ≤ k ∧ i = .int .i64 k ∧ f = .int .i64 fr ∧ ls.length ≤ k ∧ Hid (RowSt t k fr ls) ∧ Hid (wr.ownsRow w.heap.size 9 1 u ls.length (ls.flatMap encS)) ∧ Hid (Below w.heap.size w wr)) (fun _ _ i _ => s.size - (intOf i).toNat)
      case atStart => exact ⟨0, 0, [], by omega, by omega, rfl, rfl, by simp, Lib.hid (RowSt.start t), Lib.hid (by simpa using World.ownsRow_nil w w.heap.size 9 1), Lib.hid (Below.refl _ _)⟩
      case round =>
        obtain ⟨k, fr, ls, hk, hf, rfl, rfl, hl, HR, HO, HB⟩ := hrel
        by_cases hkn : k < s.size
        · obtain ⟨hkt, hkc⟩ := Ht.out k hkn
          by_cases hc : s[k] = 10
          · have HN := Lib.hid (HR.out.cut hkt (hkc.trans hc))
            have t1 : ((s[k].toNat : Int) == 10) = true := by rw [hc]; rfl
            have hx := HX.out fr k
            generalize seg t fr k = x at *
            have e1 : IntKind.i64.wrap ((k : Int) + 1) = ((k + 1 : Nat) : Int) := by rw [show ((k : Int) + 1) = ((k + 1 : Nat) : Int) by omega]; exact IntWalk.i64_in _ (by omega)
            have hbk := heap_alloc_new wr (.cells #[.string (bs x)] 9)
            have HOA := Lib.hid (HO.out.alloc (.cells #[.string (bs x)] 9))
            have hr6 := own_base HO.out
            have hsw := HB.out.size
            clear hc hkc hkt HR
            go_wp2_with (at_builtin; refine wpList_push _ rfl (.tmp 31) (.tmp 36) 55 rfl elemS encS_len oneS Tryz.underlying55 w.heap.size _ ls rfl HOA.out (by omega) x wr.heap.size (by rfl) _ rfl _ _ hbk (by rw [World.size_alloc]; omega) ?_; intro g2 cap w6 hO6 hg6)
            have HB6 := Lib.hid ((below_alloc' HB.out (.cells #[.string (bs x)] 9)).grown hg6 (by rw [World.size_alloc]; omega) (fun r e => by have := hr6 r e; omega))
            have HO6 := Lib.hid hO6
            clear hO6 hg6 hr6 HO HOA hbk HB
            go_roundw
            case rel => exact ⟨k + 1, k + 1, ls ++ [x], by omega, by omega, by go_num, by go_num, by rw [len_snoc]; omega, HN, by rw [len_snoc]; exact HO6, HB6⟩
            case measure => simp [intOf]; omega
          · have HN := Lib.hid (HR.out.on hkt (by rw [hkc]; exact hc))
            have t1 : ((s[k].toNat : Int) == 10) = false := by
              rw [beq_eq_false_iff_ne]
              intro e
              exact hc (UInt8.toNat_inj.1 (by show s[k].toNat = 10; omega))
            clear hc hkc hkt HR
            go_wp2
            go_roundw
            case rel => exact ⟨k + 1, fr, ls, by omega, by omega, by go_num, rfl, by omega, HN, HO, HB⟩
            case measure => simp [intOf]; omega
        · obtain rfl : k = s.size := by omega
          have HD := Lib.hid (HDone.out fr ls HR.out)
          obtain ⟨A, c, rfl, hc⟩ := own_form HO.out
          have HI := Lib.hid (RowsAt.of_own encS_len HO.out)
          by_cases h60 : 60 < ls.length
          · have HZ := Lib.hid (HErr.out 6 (HE6.out (by rw [HD.out]; exact h60)) (by omega))
            have q0 : decide (60 < ls.length) = true := decide_eq_true h60
            have q1 : decide ((ls.length : Int) > 60) = true := decide_eq_true (by omega)
            have q2 : decide ((60 : Int) < (ls.length : Int)) = true := decide_eq_true (by omega)
            clear HO HR h60
            go_wp2
            go_ret2
            exact Ret.mk (HZ.out _ HB.out)
          · have HZ := Lib.hid (HE0.out (by rw [HD.out]; exact h60))
            have q0 : decide (60 < ls.length) = false := decide_eq_false h60
            have q1 : decide ((ls.length : Int) > 60) = false := decide_eq_false (by omega)
            have q2 : decide ((60 : Int) < (ls.length : Int)) = false := decide_eq_false (by omega)
            clear HO HR h60
            go_wp2
            go_ret2
            exact Ret.mk ⟨.inr ⟨HZ.out, A, c, by rw [HD.out]; rfl, by rw [HD.out]; exact hc, by rw [HD.out]; exact HI.out⟩, HB.out⟩
    · have g6 : ((s[m].toNat : Int) != 10) = false := by rw [g5]; rfl
      have g7 : (0 : Int) ≤ (m : Int) := by omega
      have g8 : (m : Int) < (s.size : Int) := by omega
      clear g5
      go_enter Tryz.func44, Tryz.ntmps44
      go_wp2
      go_loopw [4, 5, 6] (fun u f i wr => ∃ (k fr : Nat) (ls : List (List UInt8)), k ≤ s.size ∧ fr ≤ k ∧ i = .int .i64 k ∧ f = .int .i64 fr ∧ ls.length ≤ k ∧ Hid (RowSt t k fr ls) ∧ Hid (wr.ownsRow w.heap.size 9 1 u ls.length (ls.flatMap encS)) ∧ Hid (Below w.heap.size w wr)) (fun _ _ i _ => s.size - (intOf i).toNat)
      case atStart => exact ⟨0, 0, [], by omega, by omega, rfl, rfl, by simp, Lib.hid (RowSt.start t), Lib.hid (by simpa using World.ownsRow_nil w w.heap.size 9 1), Lib.hid (Below.refl _ _)⟩
      case round =>
        obtain ⟨k, fr, ls, hk, hf, rfl, rfl, hl, HR, HO, HB⟩ := hrel
        by_cases hkn : k < s.size
        · obtain ⟨hkt, hkc⟩ := Ht.out k hkn
          by_cases hc : s[k] = 10
          · have HN := Lib.hid (HR.out.cut hkt (hkc.trans hc))
            have t1 : ((s[k].toNat : Int) == 10) = true := by rw [hc]; rfl
            have hx := HX.out fr k
            generalize seg t fr k = x at *
            have e1 : IntKind.i64.wrap ((k : Int) + 1) = ((k + 1 : Nat) : Int) := by rw [show ((k : Int) + 1) = ((k + 1 : Nat) : Int) by omega]; exact IntWalk.i64_in _ (by omega)
            have hbk := heap_alloc_new wr (.cells #[.string (bs x)] 9)
            have HOA := Lib.hid (HO.out.alloc (.cells #[.string (bs x)] 9))
            have hr6 := own_base HO.out
            have hsw := HB.out.size
            clear hc hkc hkt HR
            go_wp2_with (at_builtin; refine wpList_push _ rfl (.tmp 31) (.tmp 36) 55 rfl elemS encS_len oneS Tryz.underlying55 w.heap.size _ ls rfl HOA.out (by omega) x wr.heap.size (by rfl) _ rfl _ _ hbk (by rw [World.size_alloc]; omega) ?_; intro g2 cap w6 hO6 hg6)
            have HB6 := Lib.hid ((below_alloc' HB.out (.cells #[.string (bs x)] 9)).grown hg6 (by rw [World.size_alloc]; omega) (fun r e => by have := hr6 r e; omega))
            have HO6 := Lib.hid hO6
            clear hO6 hg6 hr6 HO HOA hbk HB
            go_roundw
            case rel => exact ⟨k + 1, k + 1, ls ++ [x], by omega, by omega, by go_num, by go_num, by rw [len_snoc]; omega, HN, by rw [len_snoc]; exact HO6, HB6⟩
            case measure => simp [intOf]; omega
          · have HN := Lib.hid (HR.out.on hkt (by rw [hkc]; exact hc))
            have t1 : ((s[k].toNat : Int) == 10) = false := by
              rw [beq_eq_false_iff_ne]
              intro e
              exact hc (UInt8.toNat_inj.1 (by show s[k].toNat = 10; omega))
            clear hc hkc hkt HR
            go_wp2
            go_roundw
            case rel => exact ⟨k + 1, fr, ls, by omega, by omega, by go_num, rfl, by omega, HN, HO, HB⟩
            case measure => simp [intOf]; omega
        · obtain rfl : k = s.size := by omega
          have HD := Lib.hid (HDone.out fr ls HR.out)
          obtain ⟨A, c, rfl, hc⟩ := own_form HO.out
          have HI := Lib.hid (RowsAt.of_own encS_len HO.out)
          by_cases h60 : 60 < ls.length
          · have HZ := Lib.hid (HErr.out 6 (HE6.out (by rw [HD.out]; exact h60)) (by omega))
            have q0 : decide (60 < ls.length) = true := decide_eq_true h60
            have q1 : decide ((ls.length : Int) > 60) = true := decide_eq_true (by omega)
            have q2 : decide ((60 : Int) < (ls.length : Int)) = true := decide_eq_true (by omega)
            clear HO HR h60
            go_wp2
            go_ret2
            exact Ret.mk (HZ.out _ HB.out)
          · have HZ := Lib.hid (HE0.out (by rw [HD.out]; exact h60))
            have q0 : decide (60 < ls.length) = false := decide_eq_false h60
            have q1 : decide ((ls.length : Int) > 60) = false := decide_eq_false (by omega)
            have q2 : decide ((60 : Int) < (ls.length : Int)) = false := decide_eq_false (by omega)
            clear HO HR h60
            go_wp2
            go_ret2
            exact Ret.mk ⟨.inr ⟨HZ.out, A, c, by rw [HD.out]; rfl, by rw [HD.out]; exact hc, by rw [HD.out]; exact HI.out⟩, HB.out⟩
  · have h0 : t ≠ [] := fun e => he (.inl e)
    have hp : 0 < s.size := by
      have : t.length ≠ 0 := fun e => h0 (List.eq_nil_of_length_eq_zero e)
      omega
    have h8 : textErr t = 8 := by
      unfold textErr
      rw [if_neg (by omega), if_pos ⟨h0, fun e => he (.inr e)⟩]
    obtain ⟨m, hm⟩ : ∃ m, m = s.size - 1 := ⟨_, rfl⟩
    have hmlt : m < s.size := by omega
    obtain ⟨h', e⟩ := hHt m hmlt
    have hne : s[m] ≠ 10 := fun k => he (.inr (by
      rw [List.getLast?_eq_getElem?, hsz, ← hm, List.getElem?_eq_getElem h', e, k]))
    have HR := Lib.hid (HErr.out 8 h8 (by omega))
    have g1 : decide ((s.size : Int) > 0) = true := decide_eq_true (by omega)
    have g2 : decide ((0 : Int) < (s.size : Int)) = true := decide_eq_true (by omega)
    have g0 : decide (0 < s.size) = true := decide_eq_true hp
    have g3 : IntKind.i64.wrap ((s.size : Int) - 1) = (m : Int) := by rw [show (s.size : Int) - 1 = (m : Int) by omega]; exact IntWalk.i64_in _ (by omega)
    have g6 : ((s[m].toNat : Int) != 10) = true := by
      simp only [bne_iff_ne, ne_eq]
      intro e
      exact hne (UInt8.toNat_inj.1 (by show s[m].toNat = 10; omega))
    have g7 : (0 : Int) ≤ (m : Int) := by omega
    have g8 : (m : Int) < (s.size : Int) := by omega
    clear hne e h' h8 hp h0 he hm hHt Ht HX hsz ht h1 hs HErr
    go_enter Tryz.func44, Tryz.ntmps44
    go_wp2
    go_ret2
    exact Ret.mk (HR.out _ (Below.refl _ _))
end Go.Proofs.YtkpmmgeffbhngaaGreatDoor
