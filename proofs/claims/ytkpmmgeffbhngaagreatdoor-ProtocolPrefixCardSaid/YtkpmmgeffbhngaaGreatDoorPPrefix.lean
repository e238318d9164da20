/- ProtocolPrefix is true for every input: the errors of the first lines are those of the protocol that has these alone. The package variables of the library are tied to the program's text by the given tie. -/
import Derived.Test.YtkpmmgeffbhngaaGreatDoorC11
import Derived.Test.YtkpmmgeffbhngaaGreatDoorC43
import Derived.Test.YtkpmmgeffbhngaaGreatDoorC44
import Derived.Test.YtkpmmgeffbhngaaGreatDoorC45
import Derived.Test.YtkpmmgeffbhngaaGreatDoorCards
import Derived.Test.YtkpmmgeffbhngaaGreatDoorTie
set_option linter.unusedSimpArgs false
set_option linter.unusedVariables false
set_option linter.unnecessarySimpa false
namespace Prot
end Prot
namespace Go.Shelf
end Go.Shelf
namespace Go.Maps
end Go.Maps
namespace Prot
theorem step_errs (s : St) (l : List UInt8) : ∃ e, (stepV s l).errs = s.errs ++ [e] := by
  unfold stepV strikeV
  repeat' split
  all_goals exact ⟨_, rfl⟩
theorem runV_take (ls : List (List UInt8)) (n : Nat) : (runV (ls.take n)).errs = (runV ls).errs.take n := by
  induction ls using snoc_ind with
  | h0 => simp [runV, St.start]
  | h1 ls l ih =>
    have hl := (runV_ok ls).errs
    by_cases h : n ≤ ls.length
    · rw [List.take_append_of_le_length h, ih, runV_snoc]
      obtain ⟨e, he⟩ := step_errs (runV ls) l
      rw [he, List.take_append_of_le_length (by omega)]
    · have hl2 := (runV_ok (ls ++ [l])).errs
      rw [List.take_of_length_le (by simp; omega), List.take_of_length_le (by rw [hl2]; simp; omega)]
end Prot
namespace Prot
open Go.Lib
/-- the first lines of a protocol -/
theorem prefix_run {t : List UInt8} (h : textErr t = 0) (n : Nat) : runA (textL ((rowsL t).take n)) = ((runV (rowsL t)).errs.take n, 0) := by
  obtain ⟨h1, h2, h3⟩ := textErr_ok h
  have e := textL_take (rowsL t) n
  rw [text_rows h2] at e
  rw [runA_lines (fun l hl => rows_nl t l (List.mem_of_mem_take hl)) (by rw [List.length_take]; omega) (by omega), runV_take]
section
variable {t : List UInt8} (h : textErr t = 0)
include h
end
end Prot
namespace Go.Proofs.YtkpmmgeffbhngaaGreatDoor
open Go.RowKit Go.Shelf Prot Go.Lib Go.Maps
theorem textL_next {ls : List (List UInt8)} {k : Nat} (hk : k < ls.length) : textL (ls.take (k + 1)) = textL (ls.take k) ++ (ls[k] ++ [10]) := by
  rw [List.take_succ_eq_append_getElem hk, textL_append]
  congr 1
  show textL [ls[k]] = _
  unfold textL; simp
set_option maxRecDepth 100000 in
set_option maxHeartbeats 4000000 in
theorem protocolPrefix_any (l : List UInt8) (m : Nat) (w : World) (hT : Tab w) (hm : m ≤ 255) : Calls Tryz.prog 13 #[.string (bs l), .int .u8 (m : Int)] w (Ret fun v w' => v = .bool true ∧ Below w.heap.size w w') := by
  have HB0 := Lib.hid (Below.refl w.heap.size w)
  have HT := Lib.hid hT
  clear hT
  by_cases hf : l.length ≤ 5000 ∧ textErr l = 0
  rotate_left 1
  · go_enter Tryz.func13, Tryz.ntmps13
    have Hc := Lib.hid (fine_no l hf w)
    go_wp2_with fail
    refine Hc.out.mono ?_
    rintro e w1 ⟨v, rfl, rfl, hb⟩
    have HB1 := Lib.hid (below_trans' HB0.out hb)
    replace HT := Lib.hid (HT.out.below hb)
    clear hb Hc HB0
    go_wp2_with fail
    refine (works_any _ HT.out).mono ?_
    rintro e wz ⟨v, rfl, rfl, hBz⟩
    go_wp2
    go_ret
    exact Ret.mk ⟨rfl, below_trans' HB1.out hBz⟩
  obtain ⟨hf1, hf2⟩ := hf
  have HFi := Lib.hid (fine_yes l hf1 hf2)
  have hL60 := (textErr_ok hf2).2.2
  have hen := (textErr_ok hf2).2.1
  have HLi := Lib.hid (lines_ok l hf2)
  have hrun := run_text hf2
  have hprf : ∀ n, runA (textL ((rowsL l).take n)) = ((runV (rowsL l)).errs.take n, 0) := prefix_run hf2
  have hel : (runV (rowsL l)).errs.length = (rowsL l).length := (runV_ok (rowsL l)).errs
  have htl : ∀ n, (textL ((rowsL l).take n)).length ≤ l.length := fun n => by
    have := textL_take (rowsL l) n
    rw [text_rows hen] at this
    exact this
  have hll : ∀ x ∈ rowsL l, x.length ≤ l.length := fun x hx => by
    have := mem_textL hx
    rw [text_rows hen] at this
    exact this
  obtain ⟨es, hes⟩ : ∃ es, (runV (rowsL l)).errs = es := ⟨_, rfl⟩
  rw [hes] at hrun hprf hel
  generalize rowsL l = L at *
  have HRu := Lib.hid (run_ok l es hrun (by omega))
  have HPr : Hid (∀ n W, Tab W → Calls Tryz.prog 29 #[.string (bs (textL (L.take n)))] W (Ret fun v w' => (∃ A ca, v = .tuple #[.slice A (es.take n).length ca, .int .i64 0] ∧ (es.take n).length ≤ ca ∧ IntsAt w' A (es.take n)) ∧ Below W.heap.size W w')) := Lib.hid fun n W hW => run_ok _ _ (hprf n) (Nat.le_trans (htl n) (by omega)) W hW
  have HTl := Lib.hid htl
  have HLl := Lib.hid hll
  obtain ⟨k, hk⟩ : ∃ k, k = m % (L.length + 1) := ⟨_, rfl⟩
  have hkL : k ≤ L.length := by have := Nat.mod_lt m (show 0 < L.length + 1 by omega); omega
  have q1 : (m : Int) % ((L.length : Int) + 1) = (k : Int) := by rw [hk]; simp
  have q2 : Int.tmod (m : Int) ((L.length : Int) + 1) = (k : Int) := by rw [hk, show ((L.length : Int) + 1) = ((L.length + 1 : Nat) : Int) by omega]; rfl
  have q3 : IntKind.i64.wrap (m : Int) = (m : Int) := IntWalk.i64_in _ (by omega)
  have q4 : IntKind.i64.wrap ((L.length : Int) + 1) = (L.length : Int) + 1 := IntWalk.i64_in _ (by omega)
  have q5 : ¬ ((L.length : Int) + 1 = 0) := by omega
  have q6 : IntKind.i64.wrap (k : Int) = (k : Int) := IntWalk.i64_in _ (by omega)
  clear hrun hprf htl hll hes hen hk
  have HEl := Lib.hid hel
  clear hel
  go_enter Tryz.func13, Tryz.ntmps13
  have Hc := Lib.hid (HFi.out w)
  go_wp2_with fail
  refine Hc.out.mono ?_
  rintro e w1 ⟨v, rfl, rfl, hb⟩
  have HB1 := Lib.hid (below_trans' HB0.out hb)
  replace HT := Lib.hid (HT.out.below hb)
  clear hb Hc HB0
  have Hc := Lib.hid (HLi.out w1)
  go_wp2_with fail
  refine Hc.out.mono ?_
  rintro e w2 ⟨v, rfl, ⟨A1, c1, rfl, g1, h1⟩, hb⟩
  have HB2 := Lib.hid (below_trans' HB1.out hb)
  replace HT := Lib.hid (HT.out.below hb)
  clear hb Hc HB1
  have HS1 := Lib.hid h1
  clear h1 g1
  go_wp2
  go_loopw [8, 9] (fun o i wr => ∃ j : Nat, j ≤ k ∧ i = .int .i64 j ∧ o = .string (bs (textL (L.take j))) ∧ Hid (Below w2.heap.size w2 wr)) (fun _ i _ => k - (intOf i).toNat)
  case atStart => exact ⟨0, Nat.zero_le _, rfl, rfl, Lib.hid (Below.refl _ _)⟩
  case round =>
    obtain ⟨j, hj, rfl, rfl, HBr⟩ := hrel
    by_cases hjk : j < k
    · have hjL : j < L.length := by omega
      obtain ⟨b1, o1, rfl, g0⟩ := (HS1.out.below HBr.out).at_ hjL
      have t2 : decide ((j : Int) < (k : Int)) = true := decide_eq_true (by omega)
      have j0 : (0 : Int) ≤ (j : Int) := by omega
      have j1 : (j : Int) < (L.length : Int) := by omega
      have HN := Lib.hid (textL_next hjL)
      have z1 := HTl.out j
      have z2 := HLl.out L[j] (List.getElem_mem hjL)
      generalize L[j] = x at *
      generalize textL (L.take j) = ot at *
      have hs1 : ¬ 9223372036854775807 < (bs x).size + 1 := by rw [bs_size]; omega
      have hs2 : ¬ 9223372036854775807 < (bs ot).size + ((bs x).size + 1) := by rw [bs_size, bs_size]; omega
      have HE : Hid (Value.string (bs ot ++ (bs x ++ { data := #[10] })) = .string (bs (ot ++ (x ++ [10])))) := Lib.hid (by
        rw [show ({ data := #[10] } : ByteArray) = bs [10] from rfl, bs_append, bs_append])
      clear z1 z2
      go_wp2
      go_roundw
      case rel => exact ⟨j + 1, by omega, by go_num, by rw [HN.out]; exact HE.out, HBr⟩
      case measure => simp [intOf]; omega
    · obtain rfl : j = k := by omega
      replace HT := Lib.hid (HT.out.below HBr.out)
      replace HB2 := Lib.hid (below_trans' HB2.out HBr.out)
      clear HBr HS1
      have Hc := Lib.hid (HRu.out wr HT.out)
      go_wp2_with fail
      refine Hc.out.mono ?_
      rintro e w3 ⟨v, rfl, ⟨A2, c2, rfl, g2, h2⟩, hb⟩
      have HB3 := Lib.hid (below_trans' HB2.out hb)
      replace HT := Lib.hid (HT.out.below hb)
      clear hb Hc HB2
      have HR2 := Lib.hid h2
      clear h2
      have Hc := Lib.hid (HPr.out j w3 HT.out)
      go_wp2_with fail
      refine Hc.out.mono ?_
      rintro e w4 ⟨v, rfl, ⟨A3, c3, rfl, g3, h3⟩, hb⟩
      have HB4 := Lib.hid (below_trans' HB3.out hb)
      replace HT := Lib.hid (HT.out.below hb)
      replace HR2 := Lib.hid (HR2.out.below hb)
      clear hb Hc HB3
      have HR3 := Lib.hid h3
      clear h3 g3
      have hlt : (es.take j).length = j := by rw [List.length_take, HEl.out]; omega
      rw [hlt, HEl.out]
      rw [HEl.out] at g2
      have HTk : Hid (∀ W, IntsAt W A2 es → IntsAt W A2 (es.take j)) := Lib.hid fun W h i hi => by
        rw [List.length_take] at hi
        obtain ⟨b, off, hA, hc⟩ := h i (by omega)
        exact ⟨b, off, hA, fun u v hv => hc u v (by rw [List.getElem_take] at hv; exact hv)⟩
      have j0 : (0 : Int) ≤ (j : Int) := by omega
      have j2 : (j : Int) ≤ (c2 : Int) := by omega
      have Hlt := Lib.hid hlt
      clear hlt
      have Hc := Lib.hid (show Calls Tryz.prog 35 #[.slice A2 j c2, .slice A3 j c3] w4 _ from (by have := errs_same A2 A3 c2 c3 (es.take j) w4 (HTk.out _ HR2.out) HR3.out (by rw [Hlt.out]; omega); rw [Hlt.out] at this; exact this))
      go_wp2_with fail
      refine Hc.out.mono ?_
      rintro e w5 ⟨v, rfl, rfl, hb⟩
      have HB5 := Lib.hid (below_trans' HB4.out hb)
      replace HT := Lib.hid (HT.out.below hb)
      replace HR2 := Lib.hid (HR2.out.below hb)
      replace HR3 := Lib.hid (HR3.out.below hb)
      clear hb Hc HB4
      go_wp2_with fail
      refine (works_any _ HT.out).mono ?_
      rintro e wz ⟨v, rfl, rfl, hBz⟩
      go_wp2
      go_ret
      exact Ret.mk ⟨rfl, below_trans' HB5.out hBz⟩
end Go.Proofs.YtkpmmgeffbhngaaGreatDoor
namespace Go.Proofs.YtkpmmgeffbhngaaGreatDoor
open Go.ChangeShapes Go.WideShapes Go.ChangeAt Go.RowKit
set_option maxRecDepth 100000 in
theorem protocolPrefix_lifted (os : Os) (started : os.Started) (H : Type) (enc : TypeId × Value → H) :
    ReturnsInHanded {} Tryz.checked os 13 .any (fun w args => (Rows.protocolPrefixSpec.pre enc Tryz.prog Tryz.f13 [] false w args ∧ laidMetH Tryz.prog laidT w) ∧ sizedMet enc Tryz.prog Tryz.f13 (OpenSpec.ofChange Rows.protocolPrefixSpec) false w args)
      (Rows.protocolPrefixSpec.post enc Tryz.prog Tryz.f13 false true false false) := by
  refine returnsInHanded_and_shaped (C := Tryz.checked) (X := fun w _ => laidMetH Tryz.prog laidT w) (fun _ _ _ hh h => h.of_heap hh) Tryz.own started (by kernel_rfl) Tryz.func13
    (ChangeSpec.witness_shaped (enc := enc) (C := Tryz.checked) (os := os) (X := fun w _ => laidMetH Tryz.prog laidT w) false (World.laidAll Tryz.prog os laidT) #[.string ⟨#[]⟩, .int .u8 0] 8 (World.laidAll_os _ _ _) (laid_shaped os _) (by kernel_rfl) (by kernel_rfl) (by kernel_rfl) (laid_met os _)) ?_
  intro W base args ds gs before hval0 hW hL hsh
  have hval : ∀ (j : Nat) t v, Tryz.f13.params[j]? = some t → args[j]? = some v → Value.okWide Tryz.prog W .any base t v := hval0
  have hW' := hW
  have hlt : ∀ p ∈ before, p.block < W.heap.size := fun p hp => hW.lt p hp
  obtain ⟨p, q, hA0, hV, rfl, hfz, hnd⟩ := hW
  have hA : DataW.TrodAll enc Tryz.prog W 0 (fun _ => true) true Tryz.f13.params.toList args.toList ds p := hA0
  rw [Tryz.params13] at hA hval
  have hA1 := hA
  have hT := of_laid hL hsh
  obtain ⟨v0, v1, d0, d1, p0, p1, rfl, rfl, rfl, h0, h1⟩ := trodAll_two hA
  obtain ⟨rfl, rfl⟩ := trodVars_none hV
  obtain ⟨s0, rfl, rfl, rfl, ws0⟩ := Go.ChangeMaps.open_string Tryz.underlying9 (hval 0 9 v0 rfl rfl) h0
  obtain ⟨l, rfl⟩ : ∃ l, s0 = bs l := ⟨_, bs_of s0⟩
  obtain ⟨m0, rfl, rfl, rfl, wm0⟩ := open_int Tryz.underlying5 (hval 1 5 v1 rfl rfl) h1
  have hbm := Go.bounds_u8 wm0
  obtain ⟨m, rfl⟩ : ∃ m : Nat, m0 = (m : Int) := ⟨m0.toNat, by omega⟩
  refine (protocolPrefix_any l m W hT (by omega)).mono fun e W' he => ?_
  obtain ⟨v, rfl, rfl, hB⟩ := he
  exact ⟨_, rfl, post_of_below (pa := _) (pv := []) hW' (fun b sp hd => trodAll_mk1 (resTrue b sp hd W')) (fun sp hsp => all_again' hB (by kernel_rfl) hA1 (fun x hx => hlt x (by simp at hx)) (fun x hx => hsp x (by simp at hx))) (fun _ _ => rfl) rfl hB (ok_one (by kernel_rfl) rfl (okWide_bool_mk Tryz.underlying4 true))⟩
theorem protocolPrefix_p : (Rows.protocolPrefixRow.inPlace == Tryz.prog.inPlace 13) = true := by kernel_rfl
theorem protocolPrefix_u : (Rows.protocolPrefixRow.unfollowed == Tryz.prog.unfollowed 13) = true := by kernel_rfl
theorem protocolPrefix_r : (Rows.protocolPrefixRow.recurses == Tryz.prog.recurses 13) = true := by kernel_rfl
theorem protocolPrefix_n : (Rows.protocolPrefixRow.named == Tryz.prog.varsNamed 13) = true := by kernel_rfl
theorem protocolPrefix_row : Rows.ProtocolPrefixSaid :=
  OpenClaim.holds_of_wide 13 Tryz.f13 rfl rfl rfl rfl rfl rfl rfl ⟨rfl, rfl, rfl, rfl, rfl⟩ rfl rfl rfl rfl rfl (by kernel_rfl) Tryz.func13
    (joined_of (by kernel_rfl) (by kernel_rfl) (by kernel_rfl) rfl rfl protocolPrefix_p protocolPrefix_u protocolPrefix_r protocolPrefix_n (by kernel_rfl) (by kernel_rfl) (by kernel_rfl) (by kernel_rfl) (by kernel_rfl) (by kernel_rfl) (by kernel_rfl) (by kernel_rfl) (by kernel_rfl) (by kernel_rfl) rfl rfl rfl (by kernel_rfl) (by kernel_rfl) (by kernel_rfl) (by kernel_rfl))
    (of_decide_eq_true (by kernel_rfl)) (by unfold Func.isWrapper; first | (rw [if_pos (by decide +kernel)]; kernel_rfl) | (rw [if_neg (by decide +kernel)]; exact ⟨rfl, rfl⟩))
    (fun os started H enc _ => protocolPrefix_lifted os started H enc)
theorem protocolPrefix_holds : Rows.ProtocolPrefixCardSaid :=
  Claim7.holds_tied_plain_at .later [] [.data, .data, .data, .data, .sentinel, .sentinel, .pinned] true (true, "056ceee57fb0345663cf018f0cf66ba5b95e362946dcabdfc5afb17e57de19a5") true
    protocolPrefix_row (fun _ h => by cases h) (by kernel_rfl) (fun _ h => by cases h) protocolPrefix_row_tie rfl ⟨rfl, rfl⟩ (by kernel_rfl) rfl
    (no_stand (show Tryz.prog.funcNamed "mandrel/mandrellaw12.ProtocolPrefix" = some 13 by kernel_rfl) Tryz.func13 Tryz.jlooks (by kernel_rfl))
    (by kernel_rfl)
end Go.Proofs.YtkpmmgeffbhngaaGreatDoor
