/- ProtocolReplayed is true for every input: the stage's theorem: the lines that count are a protocol of their own that comes to the same. The package variables of the library are tied to the program's text by the given tie. -/
import Derived.Test.YtkpmmgeffbhngaaGreatDoorD0
import Derived.Test.YtkpmmgeffbhngaaGreatDoorCards
import Derived.Test.YtkpmmgeffbhngaaGreatDoorTie
set_option linter.unusedSimpArgs false
set_option linter.unusedVariables false
set_option linter.unnecessarySimpa false
namespace Prot
end Prot
namespace Go.Shelf
end Go.Shelf
namespace Go.Maps
end Go.Maps
namespace Prot
/-- lines whose cards are done one after another -/
theorem run_plain {ps : List (List UInt8 × Card)} (hp : ∀ p ∈ ps, parseV p.1 = (p.2, 0) ∧ p.2.1 ≠ 7) : ∀ k, replay (ps.map Prod.snd) Jn.start = some k → runV (ps.map Prod.fst) = ⟨ps.map fun _ => 0, ps.map Prod.snd, k⟩ := by
  induction ps using snoc_ind with
  | h0 => intro k h; injection h with h; subst h; rfl
  | h1 ps p ih =>
    intro k h
    rw [List.map_append, replay_append] at h
    cases e : replay (ps.map Prod.snd) Jn.start with
    | none => rw [e] at h; cases h
    | some j =>
      rw [e] at h
      have h2 : (if (doV j p.2).2 = 0 then replay [] (doV j p.2).1 else none) = some k := h
      have ih := ih (fun q hq => hp q (by simp [hq])) j e
      obtain ⟨hp1, hp2⟩ := hp p (by simp)
      rw [List.map_append, List.map_append, List.map_append]
      show runV (ps.map Prod.fst ++ [p.1]) = _
      rw [runV_snoc, ih]
      unfold stepV
      rw [hp1]
      dsimp only
      split at h2
      · rename_i h0
        rw [if_neg (by simp), if_neg hp2, if_neg (by simpa using h0)]
        injection h2 with h2
        rw [h2]; rfl
      · cases h2
theorem fair_pairs {ls : List (List UInt8)} {s : St} (h : StOk ls s) : ∀ p ∈ (ls.zip s.cards).filter (fun p => decide (p.2 ≠ zeroC)), parseV p.1 = (p.2, 0) ∧ p.2.1 ≠ 7 := fun p hp => by
  obtain ⟨h1, h2⟩ := List.mem_filter.1 hp
  have h2 : p.2 ≠ zeroC := by simpa using h2
  obtain ⟨i, hi, e⟩ := List.mem_iff_getElem.1 h1
  have hi1 : i < ls.length := by rw [List.length_zip] at hi; omega
  have hi2 : i < s.cards.length := by rw [List.length_zip] at hi; omega
  rw [List.getElem_zip] at e
  subst e
  dsimp only at h2 ⊢
  have e3 : s.cards.getD i zeroC = s.cards[i] := by rw [List.getD_eq_getElem?_getD, List.getElem?_eq_getElem hi2]; rfl
  have h3 := h.line i hi1 (by rw [e3]; exact h2)
  rw [e3] at h3
  exact ⟨h3, ((h.card _ (List.getElem_mem hi2)).resolve_left h2).2⟩
theorem fair_cards {ls : List (List UInt8)} {cs : List Card} (h : cs.length = ls.length) : ((ls.zip cs).filter fun p => decide (p.2 ≠ zeroC)).map Prod.snd = liveC cs := by
  unfold liveC
  induction ls generalizing cs with
  | nil =>
    have : cs = [] := List.eq_nil_of_length_eq_zero (by simpa using h)
    subst this; rfl
  | cons l ls ih =>
    cases cs with
    | nil => simp at h
    | cons c cs =>
      have ih := ih (cs := cs) (by simpa using h)
      rw [List.zip_cons_cons]
      by_cases k : c ≠ zeroC
      · rw [List.filter_cons_of_pos (by simpa using k), List.map_cons, ih, List.filter_cons_of_pos (by simpa using k)]
      · rw [List.filter_cons_of_neg (by simpa using k), ih, List.filter_cons_of_neg (by simpa using k)]
/-- the stage's theorem: the lines that count are accepted, and come to the same -/
theorem replayed (ls : List (List UInt8)) : runV (fairL ls (runV ls).cards) = ⟨(liveC (runV ls).cards).map fun _ => 0, liveC (runV ls).cards, (runV ls).jn⟩ := by
  have h := runV_ok ls
  have h2 := run_plain (fair_pairs h) (runV ls).jn (by rw [fair_cards h.len]; exact h.jn)
  unfold fairL
  rw [h2, fair_cards h.len]
  congr 1
  rw [← fair_cards h.len, List.map_map]; rfl
theorem fair_all {ls : List (List UInt8)} {cs : List Card} (h : cs.length = ls.length) (hc : ∀ c ∈ cs, c ≠ zeroC) : fairL ls cs = ls := by
  unfold fairL
  induction ls generalizing cs with
  | nil => rfl
  | cons l ls ih =>
    cases cs with
    | nil => simp at h
    | cons c cs =>
      rw [List.zip_cons_cons, List.filter_cons_of_pos (by simpa using hc c (by simp)), List.map_cons, ih (by simpa using h) (fun d hd => hc d (by simp [hd]))]
theorem fair_len {ls : List (List UInt8)} {cs : List Card} (h : cs.length = ls.length) : (fairL ls cs).length = (liveC cs).length := by
  rw [← fair_cards h]
  unfold fairL
  rw [List.length_map, List.length_map]
/-- all of the lines that count do -/
theorem fair_again (ls : List (List UInt8)) : fairL (fairL ls (runV ls).cards) (runV (fairL ls (runV ls).cards)).cards = fairL ls (runV ls).cards := by
  rw [replayed]
  exact fair_all (fair_len (runV_ok ls).len).symm (fun c hc => (mem_liveC.1 hc).2)
end Prot
namespace Prot
open Go.Lib
theorem fair_nl (t : List UInt8) (cs : List Card) : ∀ l ∈ fairL (rowsL t) cs, NoNl l := fun l hl => by
  unfold fairL at hl
  obtain ⟨p, hp, rfl⟩ := List.mem_map.1 hl
  have h1 := (List.mem_filter.1 hp).1
  exact rows_nl t _ (List.of_mem_zip h1).1
theorem fairL_le (ls : List (List UInt8)) (cs : List Card) : (fairL ls cs).length ≤ ls.length := by
  unfold fairL
  rw [List.length_map]
  refine Nat.le_trans (List.length_filter_le _ _) ?_
  rw [List.length_zip]; omega
/-- the lines that count are a protocol -/
theorem fair_err {t : List UInt8} (h : textErr t = 0) : textErr (textL (fairL (rowsL t) (runV (rowsL t)).cards)) = 0 := by
  obtain ⟨h1, h2, h3⟩ := textErr_ok h
  have e1 := text_fair_len (rowsL t) (runV (rowsL t)).cards
  rw [text_rows h2] at e1
  have e2 := text_count (fair_nl t (runV (rowsL t)).cards)
  have e3 := fairL_le (rowsL t) (runV (rowsL t)).cards
  have e4 := text_ends (fairL (rowsL t) (runV (rowsL t)).cards)
  unfold textErr
  rw [if_neg (by omega), if_neg, if_neg (by omega)]
  rintro ⟨k1, k2⟩
  rcases e4 with e | e
  · exact k1 e
  · exact k2 e
end Prot
namespace Prot
open Go.Lib
/-- what a journey has come to is a shelf -/
theorem JnOk.list {j : Jn} (h : JnOk j) (hf : j.items.length ≤ 60) : itemsErr (toldL j.items) = 0 := by
  have hp := told_perm j.items
  refine itemsErr_iff.2 ⟨by rw [hp.length_eq]; exact hf, fun x hx => ?_, told_rise h.once, fun x hx => ?_⟩
  · have hx' := hp.mem_iff.1 hx
    have hd := h.days x hx'
    have hd2 := h.day
    exact ⟨h.num x hx', h.box x hx', ⟨hd.1, by omega⟩, h.voice x hx', h.turns x hx', h.src x hx'⟩
  · have e : room (toldL j.items) x.box = room j.items x.box := by
      unfold room
      exact (hp.filter _).length_eq
    rw [e]; exact h.few _
end Prot
namespace Go.Proofs.YtkpmmgeffbhngaaGreatDoor
open Go.RowKit Prot Go.Lib Go.Maps
set_option maxRecDepth 100000 in
set_option maxHeartbeats 1000000 in
theorem clean_any (A : Option Addr) (ca : Nat) (l : List Int) (w : World) (hl : IntsAt w A l) (hn : l.length ≤ 1000000) :
    Calls Tryz.prog 42 #[.slice A l.length ca] w (Ret fun v w' => v = .bool (decide (∀ x ∈ l, x = 0)) ∧ ∃ q, w' = w.drewN q) := by
  have Hl := Lib.hid hl
  clear hl
  go_enter Tryz.func42, Tryz.ntmps42
  go_wp2
  go_loopw [3] (fun i wr => ∃ k q : Nat, k ≤ l.length ∧ i = .int .i64 k ∧ wr = w.drewN q ∧ Hid (∀ x ∈ l.take k, x = 0)) (fun i _ => l.length - (intOf i).toNat)
  case atStart => exact ⟨0, 0, Nat.zero_le _, rfl, rfl, Lib.hid (by simp)⟩
  case round =>
    obtain ⟨k, q, hk, rfl, rfl, HT⟩ := hrel
    by_cases hkl : k < l.length
    · obtain ⟨b1, o1, rfl, g1⟩ := Hl.out.at_ hkl
      have g1 : (w.drewN q).cell? ⟨b1, o1 + k, none⟩ = some (.int .i64 l[k]) := g1
      have e1 := List.take_succ_eq_append_getElem hkl
      have t2 : decide ((k : Int) < (l.length : Int)) = true := decide_eq_true (by omega)
      have k0 : (0 : Int) ≤ (k : Int) := by omega
      have k1 : (k : Int) < (l.length : Int) := by omega
      by_cases he : l[k] = 0
      · have HT2 : Hid (∀ x ∈ l.take (k + 1), x = 0) := Lib.hid fun x hx => by
          rw [e1] at hx
          rcases List.mem_append.1 hx with hx | hx
          · exact HT.out x hx
          · rw [List.mem_singleton] at hx; rw [hx]; exact he
        rw [he] at g1
        clear e1 he
        go_wp2
        go_roundw
        case rel => exact ⟨k + 1, _, by omega, by go_num, rfl, HT2⟩
        case measure => simp [intOf]; omega
      · have HV : Hid (decide (∀ x ∈ l, x = 0) = false) := Lib.hid (decide_eq_false fun e => he (e _ (List.getElem_mem hkl)))
        have t3 : (l[k] != 0) = true := by simp [he]
        clear e1 he
        generalize l[k] = x at *
        go_wp2
        go_ret
        exact Ret.mk ⟨by rw [HV.out]; rfl, _, (by first | rfl | exact World.drewN_drewN _ _ _)⟩
    · have HV : Hid (decide (∀ x ∈ l, x = 0) = true) := Lib.hid (decide_eq_true (by
        have h := HT.out
        rw [List.take_of_length_le (by omega)] at h
        exact h))
      have t2 : decide ((k : Int) < (l.length : Int)) = false := decide_eq_false (by omega)
      go_wp2
      go_ret
      exact Ret.mk ⟨by rw [HV.out]; rfl, q, rfl⟩
end Go.Proofs.YtkpmmgeffbhngaaGreatDoor
namespace Prot
open Go.Lib
/-- what State answers is a shelf -/
theorem state_list {t : List UInt8} (h : textErr t = 0) : itemsErr (toldL (runV (rowsL t)).jn.items) = 0 :=
  (runV_ok (rowsL t)).ok.list (by have h1 := run_items (rowsL t); have h2 := (textErr_ok h).2.2; omega)
end Prot
namespace Prot
open Go.Lib
section
variable {t : List UInt8} (h : textErr t = 0)
include h
theorem fair_rows : rowsL (fairA t).1 = fairL (rowsL t) (runV (rowsL t)).cards := by rw [fair_text h]; exact rows_of (fair_nl t _)
theorem fair_err' : textErr (fairA t).1 = 0 := by rw [fair_text h]; exact fair_err h
theorem fair_len' : (fairA t).1.length ≤ t.length := by
  have := text_fair_len (rowsL t) (runV (rowsL t)).cards
  rw [text_rows (textErr_ok h).2.1] at this
  rw [fair_text h]; exact this
theorem rep_run : runA (fairA t).1 = ((liveC (runV (rowsL t)).cards).map fun _ => 0, 0) := by rw [run_text (fair_err' h), fair_rows h, replayed]
theorem rep_state : stateA (fairA t).1 = stateA t := by rw [state_text (fair_err' h), fair_rows h, replayed, state_text h]
theorem rep_fair : fairA (fairA t).1 = fairA t := by rw [fair_text (fair_err' h), fair_rows h, fair_again, ← fair_text h]
theorem rep_list : listA (stateA t).1 = (shelfT (stateA t).1, 0) := by
  have e := state_list h
  unfold listA
  rw [state_text h, if_neg (fun k => k e)]
theorem rep_items : itemsErr (stateA t).1 = 0 := by rw [state_text h]; exact state_list h
theorem rep_read : readA (shelfT (stateA t).1) = ((stateA t).1, 0) := by
  have e := rep_items h
  unfold readA
  rw [if_neg (by have := shelf_len e; omega)]
  exact readV_list waysP_ok e
theorem rep_shelf : (shelfT (stateA t).1).length ≤ 4800 := shelf_len (rep_items h)
end
end Prot
namespace Go.Proofs.YtkpmmgeffbhngaaGreatDoor
open Go.RowKit Go.Shelf Prot Go.Lib Go.Maps
theorem rRun_ok (l : List UInt8) (r : List Int) (h : runA l = (r, 0)) (hl : l.length ≤ 100000) (w : World) : Calls Tryz.prog 30 #[.string (bs l)] w (Ret fun v w' => (∃ A ca, v = .tuple #[.slice A r.length ca, .int .i64 0] ∧ r.length ≤ ca ∧ IntsAt w' A r) ∧ Below w.heap.size w w') := by
  have := rRun_any (bs l) w (by rw [bs_size]; omega)
  rw [bs_list] at this
  refine this.mono ?_
  rintro _ w' ⟨v, rfl, A, ca, rfl, h1, h2, hb⟩
  rw [h] at h1 h2 ⊢
  exact Ret.mk ⟨⟨A, ca, rfl, h1, h2⟩, hb⟩
end Go.Proofs.YtkpmmgeffbhngaaGreatDoor
namespace Go.Proofs.YtkpmmgeffbhngaaGreatDoor
open Go.RowKit Go.Shelf Prot Go.Lib Go.Maps
set_option maxRecDepth 100000 in
set_option maxHeartbeats 4000000 in
theorem protocolReplayed_any (l : List UInt8) (w : World) (hT : Tab w) : Calls Tryz.prog 8 #[.string (bs l)] w (Ret fun v w' => v = .bool true ∧ Below w.heap.size w w') := by
  have HB0 := Lib.hid (Below.refl w.heap.size w)
  have HT := Lib.hid hT
  clear hT
  by_cases hf : l.length ≤ 5000 ∧ textErr l = 0
  rotate_left 1
  · go_enter Tryz.func8, Tryz.ntmps8
    have Hc := Lib.hid (fine_no l hf w)
    go_wp2_with fail
    refine Hc.out.mono ?_
    rintro e w1 ⟨v, rfl, rfl, hb⟩
    have HB1 := Lib.hid (below_trans' HB0.out hb)
    replace HT := Lib.hid (HT.out.below hb)
    clear hb Hc HB0
    go_wp2_with fail
    refine (works_any _ HT.out).mono ?_
    rintro e wz ⟨v, rfl, rfl, hBz⟩
    go_wp2
    go_ret
    exact Ret.mk ⟨rfl, below_trans' HB1.out hBz⟩
  obtain ⟨hf1, hf2⟩ := hf
  have HFi := Lib.hid (fine_yes l hf1 hf2)
  obtain ⟨f, hfq⟩ : ∃ f, fairA l = (f, 0) := ⟨_, fair_text hf2⟩
  obtain ⟨it, hit⟩ : ∃ it, stateA l = (it, 0) := ⟨_, state_text hf2⟩
  obtain ⟨r, hr0, hr⟩ : ∃ r : List Int, (∀ x ∈ r, x = 0) ∧ runA f = (r, 0) := by
    have h := rep_run hf2
    rw [hfq] at h
    exact ⟨_, fun x hx => by obtain ⟨c, _, rfl⟩ := List.mem_map.1 hx; rfl, h⟩
  have hst : stateA f = (it, 0) := by have h := rep_state hf2; rw [hfq, hit] at h; exact h
  have hfa : fairA f = (f, 0) := by have h := rep_fair hf2; rw [hfq] at h; exact h
  have hli : listA it = (shelfT it, 0) := by have h := rep_list hf2; rw [hit] at h; exact h
  have hre : readA (shelfT it) = (it, 0) := by have h := rep_read hf2; rw [hit] at h; exact h
  have hie : itemsErr it = 0 := by have h := rep_items hf2; rw [hit] at h; exact h
  have hsl : (shelfT it).length ≤ 4800 := by have h := rep_shelf hf2; rw [hit] at h; exact h
  have hfl : f.length ≤ 5000 := by have h := fair_len' hf2; rw [hfq] at h; exact Nat.le_trans h hf1
  have hil : it.length ≤ 60 := by have h := stateA_len l; rw [hit] at h; exact h
  have hrl : r.length ≤ 60 := by have h := runA_len f; rw [hr] at h; exact h
  generalize shelfT it = sh at *
  have HFa := Lib.hid (fair_ok l f hfq (by omega))
  have HSt := Lib.hid (state_ok l it hit (by omega))
  have HRu := Lib.hid (run_ok f r hr (by omega))
  have HRr := Lib.hid (rRun_ok f r hr (by omega))
  have HSf := Lib.hid (state_ok f it hst (by omega))
  have HFf := Lib.hid (fair_ok f f hfa (by omega))
  have HLi := Lib.hid (fun A ca (hc : it.length ≤ ca) => list_ok A ca it sh hli hc (by omega))
  have HRe := Lib.hid (read_ok sh it hre (by omega))
  have HCk : Hid (∀ A ca W, ItemsAt W A it → Calls Tryz.prog 43 #[.slice A it.length ca] W (Ret fun v w' => v = .int .i64 0 ∧ Below W.heap.size W w')) := Lib.hid fun A ca W hI => by
    have := rCheckItems_any A ca it W hI (by omega)
    rw [hie] at this
    exact this
  have HCl : Hid (∀ A ca W, IntsAt W A r → Calls Tryz.prog 42 #[.slice A r.length ca] W (Ret fun v w' => v = .bool true ∧ Below W.heap.size W w')) := Lib.hid fun A ca W hI => (clean_any A ca r W hI (by omega)).mono fun _ _ h => h.drawn (decide_eq_true hr0)
  clear hfq hit hr0 hr hst hfa hli hre hie hsl hfl hf1 hf2
  go_enter Tryz.func8, Tryz.ntmps8
  have Hc := Lib.hid (HFi.out w)
  go_wp2_with fail
  refine Hc.out.mono ?_
  rintro e w1 ⟨v, rfl, rfl, hb⟩
  have HB1 := Lib.hid (below_trans' HB0.out hb)
  replace HT := Lib.hid (HT.out.below hb)
  clear hb Hc HB0
  have Hc := Lib.hid (HFa.out w1 HT.out)
  go_wp2_with fail
  refine Hc.out.mono ?_
  rintro e w2 ⟨v, rfl, rfl, hb⟩
  have HB2 := Lib.hid (below_trans' HB1.out hb)
  replace HT := Lib.hid (HT.out.below hb)
  clear hb Hc HB1
  have Hc := Lib.hid (HSt.out w2 HT.out)
  go_wp2_with fail
  refine Hc.out.mono ?_
  rintro e w3 ⟨v, rfl, ⟨A1, c1, rfl, g1, h1⟩, hb⟩
  have HB3 := Lib.hid (below_trans' HB2.out hb)
  replace HT := Lib.hid (HT.out.below hb)
  clear hb Hc HB2
  have HI1 := Lib.hid h1
  have K1 := Lib.hid g1
  clear h1 g1
  have Hc := Lib.hid (HRu.out w3 HT.out)
  go_wp2_with fail
  refine Hc.out.mono ?_
  rintro e w4 ⟨v, rfl, ⟨A2, c2, rfl, g2, h2⟩, hb⟩
  have HB4 := Lib.hid (below_trans' HB3.out hb)
  replace HT := Lib.hid (HT.out.below hb)
  replace HI1 := Lib.hid (HI1.out.below hb)
  clear hb Hc HB3
  have HR2 := Lib.hid h2
  have K2 := Lib.hid g2
  clear h2 g2
  have Hc := Lib.hid (HSf.out w4 HT.out)
  go_wp2_with fail
  refine Hc.out.mono ?_
  rintro e w5 ⟨v, rfl, ⟨A3, c3, rfl, g3, h3⟩, hb⟩
  have HB5 := Lib.hid (below_trans' HB4.out hb)
  replace HT := Lib.hid (HT.out.below hb)
  replace HI1 := Lib.hid (HI1.out.below hb)
  replace HR2 := Lib.hid (HR2.out.below hb)
  clear hb Hc HB4
  have HI3 := Lib.hid h3
  have K3 := Lib.hid g3
  clear h3 g3
  have Hc := Lib.hid (HFf.out w5 HT.out)
  go_wp2_with fail
  refine Hc.out.mono ?_
  rintro e w6 ⟨v, rfl, rfl, hb⟩
  have HB6 := Lib.hid (below_trans' HB5.out hb)
  replace HT := Lib.hid (HT.out.below hb)
  replace HI1 := Lib.hid (HI1.out.below hb)
  replace HR2 := Lib.hid (HR2.out.below hb)
  replace HI3 := Lib.hid (HI3.out.below hb)
  clear hb Hc HB5
  have Hc := Lib.hid (HLi.out A1 c1 K1.out w6 HT.out HI1.out)
  go_wp2_with fail
  refine Hc.out.mono ?_
  rintro e w7 ⟨v, rfl, rfl, hb⟩
  have HB7 := Lib.hid (below_trans' HB6.out hb)
  replace HT := Lib.hid (HT.out.below hb)
  replace HI1 := Lib.hid (HI1.out.below hb)
  replace HR2 := Lib.hid (HR2.out.below hb)
  replace HI3 := Lib.hid (HI3.out.below hb)
  clear hb Hc HB6
  have Hc := Lib.hid (HRe.out w7 HT.out)
  go_wp2_with fail
  refine Hc.out.mono ?_
  rintro e w8 ⟨v, rfl, ⟨A4, c4, rfl, g4, h4⟩, hb⟩
  have HB8 := Lib.hid (below_trans' HB7.out hb)
  replace HT := Lib.hid (HT.out.below hb)
  replace HI1 := Lib.hid (HI1.out.below hb)
  replace HR2 := Lib.hid (HR2.out.below hb)
  replace HI3 := Lib.hid (HI3.out.below hb)
  clear hb Hc HB7
  have HI4 := Lib.hid h4
  have K4 := Lib.hid g4
  clear h4 g4
  have Hc := Lib.hid (HRr.out w8)
  go_wp2_with fail
  refine Hc.out.mono ?_
  rintro e w9 ⟨v, rfl, ⟨A5, c5, rfl, g5, h5⟩, hb⟩
  have HB9 := Lib.hid (below_trans' HB8.out hb)
  replace HT := Lib.hid (HT.out.below hb)
  replace HI1 := Lib.hid (HI1.out.below hb)
  replace HR2 := Lib.hid (HR2.out.below hb)
  replace HI3 := Lib.hid (HI3.out.below hb)
  replace HI4 := Lib.hid (HI4.out.below hb)
  clear hb Hc HB8
  have HR5 := Lib.hid h5
  have K5 := Lib.hid g5
  clear h5 g5
  have Hc := Lib.hid (errs_same A2 A5 c2 c5 r w9 HR2.out HR5.out (by omega))
  go_wp2_with fail
  refine Hc.out.mono ?_
  rintro e w10 ⟨v, rfl, rfl, hb⟩
  have HB10 := Lib.hid (below_trans' HB9.out hb)
  replace HT := Lib.hid (HT.out.below hb)
  replace HI1 := Lib.hid (HI1.out.below hb)
  replace HR2 := Lib.hid (HR2.out.below hb)
  replace HI3 := Lib.hid (HI3.out.below hb)
  replace HI4 := Lib.hid (HI4.out.below hb)
  replace HR5 := Lib.hid (HR5.out.below hb)
  clear hb Hc HB9
  have Hc := Lib.hid (HCl.out A2 c2 w10 HR2.out)
  go_wp2_with fail
  refine Hc.out.mono ?_
  rintro e w11 ⟨v, rfl, rfl, hb⟩
  have HB11 := Lib.hid (below_trans' HB10.out hb)
  replace HT := Lib.hid (HT.out.below hb)
  replace HI1 := Lib.hid (HI1.out.below hb)
  replace HR2 := Lib.hid (HR2.out.below hb)
  replace HI3 := Lib.hid (HI3.out.below hb)
  replace HI4 := Lib.hid (HI4.out.below hb)
  replace HR5 := Lib.hid (HR5.out.below hb)
  clear hb Hc HB10
  have Hc := Lib.hid (items_same A1 A3 c1 c3 it w11 HI1.out HI3.out (by omega))
  go_wp2_with fail
  refine Hc.out.mono ?_
  rintro e w12 ⟨v, rfl, rfl, hb⟩
  have HB12 := Lib.hid (below_trans' HB11.out hb)
  replace HT := Lib.hid (HT.out.below hb)
  replace HI1 := Lib.hid (HI1.out.below hb)
  replace HR2 := Lib.hid (HR2.out.below hb)
  replace HI3 := Lib.hid (HI3.out.below hb)
  replace HI4 := Lib.hid (HI4.out.below hb)
  replace HR5 := Lib.hid (HR5.out.below hb)
  clear hb Hc HB11
  have Hc := Lib.hid (items_same A4 A1 c4 c1 it w12 HI4.out HI1.out (by omega))
  go_wp2_with fail
  refine Hc.out.mono ?_
  rintro e w13 ⟨v, rfl, rfl, hb⟩
  have HB13 := Lib.hid (below_trans' HB12.out hb)
  replace HT := Lib.hid (HT.out.below hb)
  replace HI1 := Lib.hid (HI1.out.below hb)
  replace HR2 := Lib.hid (HR2.out.below hb)
  replace HI3 := Lib.hid (HI3.out.below hb)
  replace HI4 := Lib.hid (HI4.out.below hb)
  replace HR5 := Lib.hid (HR5.out.below hb)
  clear hb Hc HB12
  have Hc := Lib.hid (HCk.out A1 c1 w13 HI1.out)
  go_wp2_with fail
  refine Hc.out.mono ?_
  rintro e w14 ⟨v, rfl, rfl, hb⟩
  have HB14 := Lib.hid (below_trans' HB13.out hb)
  replace HT := Lib.hid (HT.out.below hb)
  replace HI1 := Lib.hid (HI1.out.below hb)
  replace HR2 := Lib.hid (HR2.out.below hb)
  replace HI3 := Lib.hid (HI3.out.below hb)
  replace HI4 := Lib.hid (HI4.out.below hb)
  replace HR5 := Lib.hid (HR5.out.below hb)
  clear hb Hc HB13
  go_wp2_with fail
  refine (works_any _ HT.out).mono ?_
  rintro e wz ⟨v, rfl, rfl, hBz⟩
  go_wp2
  go_ret
  exact Ret.mk ⟨rfl, below_trans' HB14.out hBz⟩
end Go.Proofs.YtkpmmgeffbhngaaGreatDoor
namespace Go.Proofs.YtkpmmgeffbhngaaGreatDoor
open Go.ChangeShapes Go.WideShapes Go.ChangeAt Go.RowKit
set_option maxRecDepth 100000 in
theorem protocolReplayed_lifted (os : Os) (started : os.Started) (H : Type) (enc : TypeId × Value → H) :
    ReturnsInHanded {} Tryz.checked os 8 .any (fun w args => (Rows.protocolReplayedSpec.pre enc Tryz.prog Tryz.f8 [] false w args ∧ laidMetH Tryz.prog laidT w) ∧ sizedMet enc Tryz.prog Tryz.f8 (OpenSpec.ofChange Rows.protocolReplayedSpec) false w args)
      (Rows.protocolReplayedSpec.post enc Tryz.prog Tryz.f8 false true false false) := by
  refine returnsInHanded_and_shaped (C := Tryz.checked) (X := fun w _ => laidMetH Tryz.prog laidT w) (fun _ _ _ hh h => h.of_heap hh) Tryz.own started (by kernel_rfl) Tryz.func8
    (ChangeSpec.witness_shaped (enc := enc) (C := Tryz.checked) (os := os) (X := fun w _ => laidMetH Tryz.prog laidT w) false (World.laidAll Tryz.prog os laidT) #[.string ⟨#[]⟩] 8 (World.laidAll_os _ _ _) (laid_shaped os _) (by kernel_rfl) (by kernel_rfl) (by kernel_rfl) (laid_met os _)) ?_
  intro W base args ds gs before hval0 hW hL hsh
  have hval : ∀ (j : Nat) t v, Tryz.f8.params[j]? = some t → args[j]? = some v → Value.okWide Tryz.prog W .any base t v := hval0
  have hW' := hW
  have hlt : ∀ p ∈ before, p.block < W.heap.size := fun p hp => hW.lt p hp
  obtain ⟨p, q, hA0, hV, rfl, hfz, hnd⟩ := hW
  have hA : DataW.TrodAll enc Tryz.prog W 0 (fun _ => true) true Tryz.f8.params.toList args.toList ds p := hA0
  rw [Tryz.params8] at hA hval
  have hA1 := hA
  have hT := of_laid hL hsh
  obtain ⟨v0, d0, rfl, rfl, h0⟩ := trodAll_one hA
  obtain ⟨rfl, rfl⟩ := trodVars_none hV
  obtain ⟨s0, rfl, rfl, rfl, ws0⟩ := Go.ChangeMaps.open_string Tryz.underlying9 (hval 0 9 v0 rfl rfl) h0
  obtain ⟨l, rfl⟩ : ∃ l, s0 = bs l := ⟨_, bs_of s0⟩
  refine (protocolReplayed_any l W hT).mono fun e W' he => ?_
  obtain ⟨v, rfl, rfl, hB⟩ := he
  exact ⟨_, rfl, post_of_below (pa := _) (pv := []) hW' (fun b sp hd => trodAll_mk1 (resTrue b sp hd W')) (fun sp hsp => all_again' hB (by kernel_rfl) hA1 (fun x hx => hlt x (by simp at hx)) (fun x hx => hsp x (by simp at hx))) (fun _ _ => rfl) rfl hB (ok_one (by kernel_rfl) rfl (okWide_bool_mk Tryz.underlying4 true))⟩
theorem protocolReplayed_p : (Rows.protocolReplayedRow.inPlace == Tryz.prog.inPlace 8) = true := by kernel_rfl
theorem protocolReplayed_u : (Rows.protocolReplayedRow.unfollowed == Tryz.prog.unfollowed 8) = true := by kernel_rfl
theorem protocolReplayed_r : (Rows.protocolReplayedRow.recurses == Tryz.prog.recurses 8) = true := by kernel_rfl
theorem protocolReplayed_n : (Rows.protocolReplayedRow.named == Tryz.prog.varsNamed 8) = true := by kernel_rfl
theorem protocolReplayed_row : Rows.ProtocolReplayedSaid :=
  OpenClaim.holds_of_wide 8 Tryz.f8 rfl rfl rfl rfl rfl rfl rfl ⟨rfl, rfl, rfl, rfl, rfl⟩ rfl rfl rfl rfl rfl (by kernel_rfl) Tryz.func8
    (joined_of (by kernel_rfl) (by kernel_rfl) (by kernel_rfl) rfl rfl protocolReplayed_p protocolReplayed_u protocolReplayed_r protocolReplayed_n (by kernel_rfl) (by kernel_rfl) (by kernel_rfl) (by kernel_rfl) (by kernel_rfl) (by kernel_rfl) (by kernel_rfl) (by kernel_rfl) (by kernel_rfl) (by kernel_rfl) rfl rfl rfl (by kernel_rfl) (by kernel_rfl) (by kernel_rfl) (by kernel_rfl))
    (of_decide_eq_true (by kernel_rfl)) (by unfold Func.isWrapper; first | (rw [if_pos (by decide +kernel)]; kernel_rfl) | (rw [if_neg (by decide +kernel)]; exact ⟨rfl, rfl⟩))
    (fun os started H enc _ => protocolReplayed_lifted os started H enc)
theorem protocolReplayed_holds : Rows.ProtocolReplayedCardSaid :=
  Claim7.holds_tied_plain_at .later [] [.data, .data, .data, .data, .sentinel, .sentinel, .pinned] true (true, "056ceee57fb0345663cf018f0cf66ba5b95e362946dcabdfc5afb17e57de19a5") true
    protocolReplayed_row (fun _ h => by cases h) (by kernel_rfl) (fun _ h => by cases h) protocolReplayed_row_tie rfl ⟨rfl, rfl⟩ (by kernel_rfl) rfl
    (no_stand (show Tryz.prog.funcNamed "mandrel/mandrellaw12.ProtocolReplayed" = some 8 by kernel_rfl) Tryz.func8 Tryz.jlooks (by kernel_rfl))
    (by kernel_rfl)
end Go.Proofs.YtkpmmgeffbhngaaGreatDoor
