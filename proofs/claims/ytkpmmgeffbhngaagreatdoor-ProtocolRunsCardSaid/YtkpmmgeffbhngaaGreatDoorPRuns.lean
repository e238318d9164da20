/- ProtocolRuns is true for every input: what a protocol comes to is what the definitions say. The package variables of the library are tied to the program's text by the given tie. -/
import Derived.Test.YtkpmmgeffbhngaaGreatDoorD0
import Derived.Test.YtkpmmgeffbhngaaGreatDoorCards
import Derived.Test.YtkpmmgeffbhngaaGreatDoorTie
set_option linter.unusedSimpArgs false
set_option linter.unusedVariables false
set_option linter.unnecessarySimpa false
namespace Prot
end Prot
namespace Go.Shelf
end Go.Shelf
namespace Go.Maps
end Go.Maps
namespace Go.Proofs.YtkpmmgeffbhngaaGreatDoor
open Go.RowKit Prot Go.Lib Go.Maps
set_option maxRecDepth 100000 in
set_option maxHeartbeats 1000000 in
theorem rState_any (s : ByteArray) (w : World) (hs : s.size ≤ 9223372036854775807) : Calls Tryz.prog 32 #[.string s] w (Ret (ItQ (stateA s.data.toList) w)) := by
  have HA := Lib.hid (fun W => rAll_any s W hs)
  generalize s.data.toList = t at *
  clear hs
  go_enter Tryz.func32, Tryz.ntmps32
  go_wp2_with fail
  refine (HA.out _).mono ?_
  rintro _ w2 ⟨v, rfl, hQ, hB2⟩
  rcases hQ with ⟨he, rfl⟩ | ⟨he, E, ec, G, gc, K, kc, rfl, -, -, hO, -⟩
  · have HR := Lib.hid (stateA_err he)
    have t1 : (textErr t != 0) = true := by simpa using he
    clear he
    generalize textErr t = er at *
    go_wp2
    go_ret2
    exact Ret.mk (by rw [HR.out]; exact ⟨none, 0, rfl, by simp, ItemsAt.nil, below_alloc' hB2 _⟩)
  · have HR := Lib.hid (stateA_ok he)
    have hok := runV_ok (rowsL t)
    obtain ⟨-, -, h60⟩ := textErr_ok he
    obtain ⟨-, hfew⟩ := replay_once _ _ _ (by simp [Jn.start]) hok.jn
    have hl : (liveC (runV (rowsL t)).cards).length ≤ (runV (rowsL t)).cards.length := List.length_filter_le _ _
    have hcl := hok.len
    have h0 : Jn.start.items.length = 0 := rfl
    have hfew2 : (runV (rowsL t)).jn.items.length ≤ 60 := by omega
    have hI := hO.facts.1
    have HC : Hid (∀ W, Below w2.heap.size w2 W → Calls Tryz.prog 74 #[.slice G (runV (rowsL t)).jn.items.length gc] W (Ret (ItemsQ (toldL (runV (rowsL t)).jn.items) W))) := Lib.hid fun W hb =>
      rsorted_any G gc _ W (hI.below hb) (by omega) hok.ok.once (fun x hx => (hok.ok.num x hx).1)
    clear he hok h60 hfew hl hcl h0 hfew2 hI hO
    unfold vState
    generalize (countsOf (runV (rowsL t)).cards).length = kl at *
    generalize (runV (rowsL t)).errs.length = es at *
    generalize (runV (rowsL t)).jn = j at *
    go_wp2_with fail
    refine (HC.out _ ((Below.refl _ w2).alloc (Nat.le_refl _) _)).mono ?_
    rintro _ w3 ⟨v, rfl, A', ca', rfl, hca, hI, hB3⟩
    go_wp2
    go_ret2
    exact Ret.mk (by rw [HR.out]; exact ⟨A', ca', rfl, hca, hI, below_alloc_of hB2 hB3⟩)
set_option maxRecDepth 100000 in
set_option maxHeartbeats 1000000 in
theorem rFair_any (s : ByteArray) (w : World) (hs : s.size ≤ 9223372036854775807) : Calls Tryz.prog 34 #[.string s] w (Ret fun v w' => v = textT (fairA s.data.toList) ∧ Below w.heap.size w w') := by
  have HA := Lib.hid (fun W => rAll_any s W hs)
  have HL := Lib.hid (fun W => rLines_any s W hs)
  generalize s.data.toList = t at *
  clear hs
  go_enter Tryz.func34, Tryz.ntmps34
  go_wp2_with fail
  refine (HA.out _).mono ?_
  rintro _ w2 ⟨v, rfl, hQ, hB2⟩
  rcases hQ with ⟨he, rfl⟩ | ⟨he, E, ec, G, gc, K, kc, rfl, -, -, -, hK⟩
  · have HR := Lib.hid (fairA_err he)
    have t1 : (textErr t != 0) = true := by simpa using he
    clear he
    generalize textErr t = er at *
    go_wp2
    go_ret2
    exact Ret.mk ⟨by rw [HR.out]; rfl, below_alloc' hB2 _⟩
  · have HR := Lib.hid (fairA_ok he)
    have hok := runV_ok (rowsL t)
    obtain ⟨h65, hend, h60⟩ := textErr_ok he
    have hcl := counts_lines (rowsL t) (runV (rowsL t)).cards hok.len
    have hin : ∀ k ∈ countsOf (runV (rowsL t)).cards, 0 ≤ k ∧ k.toNat < (rowsL t).length := fun k hk => by
      have := mem_countsOf.1 hk
      exact ⟨this.1, by rw [← hok.len]; exact this.2.1⟩
    have hlen := text_fair_len (rowsL t) (runV (rowsL t)).cards
    rw [text_rows hend] at hlen
    rw [hcl] at hlen HR
    have hc60 := countsOf_le (runV (rowsL t)).cards
    have hkl : (countsOf (runV (rowsL t)).cards).length ≤ 60 := by have := hok.len; omega
    have HE0 := Lib.hid he
    have hmax : (textL ((countsOf (runV (rowsL t)).cards).map fun k => (rowsL t).getD k.toNat [])).length ≤ 65536 := by omega
    have Hmax := Lib.hid hmax
    have Hin := Lib.hid hin
    clear he hok h65 hend h60 hcl hlen hc60 hmax hin
    unfold vState
    generalize (runV (rowsL t)).errs.length = es at *
    generalize (runV (rowsL t)).jn = j at *
    have HK := Lib.hid hK
    clear hK
    generalize countsOf (runV (rowsL t)).cards = ks at *
    go_wp2_with fail
    refine (HL.out _).mono ?_
    rintro _ w3 ⟨v, rfl, hQ, hB3⟩
    rcases hQ with ⟨he, -⟩ | ⟨-, A, ca, rfl, hca, hA⟩
    · exact absurd HE0.out he
    · have HK3 := Lib.hid (IntsAt.below (IntsAt.alloc HK.out _) hB3)
      have HA3 := Lib.hid hA
      have HB3 := Lib.hid (below_alloc_of hB2 hB3)
      generalize rowsL t = ls at *
      clear hB2 hB3 hA HK HE0 HA HL
      go_wp2
      go_loopw [10, 11] (fun u i wr => ∃ (m q : Nat), m ≤ ks.length ∧ i = .int .i64 m ∧ u = .string (bs (textL ((ks.take m).map fun k => ls.getD k.toNat []))) ∧ wr = w3.drewN q) (fun _ i _ => ks.length - (intOf i).toNat)
      case atStart => exact ⟨0, 0, by omega, rfl, rfl, rfl⟩
      case round =>
        obtain ⟨m, q, hm, rfl, rfl, rfl⟩ := hrel
        by_cases hmk : m < ks.length
        · obtain ⟨kb, ko, rfl, gk⟩ := IntsAt.at_ HK3.out hmk
          obtain ⟨hp0, hpl⟩ := Hin.out ks[m] (List.getElem_mem hmk)
          obtain ⟨d, hd⟩ : ∃ d : Nat, ks[m] = (d : Int) := ⟨ks[m].toNat, by omega⟩
          have hdl : d < ls.length := by rw [hd] at hpl; simpa using hpl
          obtain ⟨b, o, rfl, g1⟩ := HA3.out.at_ hdl
          have hstep : textL ((ks.take (m + 1)).map fun k => ls.getD k.toNat []) = textL ((ks.take m).map fun k => ls.getD k.toNat []) ++ (ls[d] ++ [10]) := by
            rw [List.take_succ_eq_append_getElem hmk, List.map_append, textL_append, List.map_cons, List.map_nil, textL_cons, hd, Int.toNat_natCast, List.getD_eq_getElem?_getD, List.getElem?_eq_getElem hdl]; rfl
          have hsm : (textL ((ks.take (m + 1)).map fun k => ls.getD k.toNat [])).length ≤ 65536 := by
            have := textL_take (ks.map fun k => ls.getD k.toNat []) (m + 1)
            rw [← List.map_take] at this
            have := Hmax.out
            omega
          rw [hstep] at hsm
          rw [hd] at gk
          have HSt := Lib.hid hstep
          generalize ls[d] = x at *
          generalize textL ((ks.take m).map fun k => ls.getD k.toNat []) = T at *
          have gk : (w3.drewN q).cell? ⟨kb, ko + m, none⟩ = some (.int .i64 (d : Int)) := gk
          have g1 : (w3.drewN q).cell? ⟨b, o + d, none⟩ = some (.string (bs x)) := g1
          have m0 : (0 : Int) ≤ (m : Int) := by omega
          have m1 : (m : Int) < (ks.length : Int) := by omega
          have d0 : (0 : Int) ≤ (d : Int) := by omega
          have d1 : (d : Int) < (ls.length : Int) := by omega
          have hadd1 : ∀ W : World, (Op.stringOp .add (bs x) ⟨#[10]⟩).run Tryz.prog W = .ok (.string (bs (x ++ [10]))) W := fun W => by
            have e : bs (x ++ [10]) = bs x ++ (⟨#[10]⟩ : ByteArray) := by rw [show (⟨#[10]⟩ : ByteArray) = bs [10] from rfl, bs_append]
            rw [e]
            refine run_string_add_sum W _ _ ?_
            rw [bs_size, show (⟨#[10]⟩ : ByteArray).size = 1 from rfl]
            rw [List.length_append, List.length_append] at hsm
            omega
          have hadd2 : ∀ W : World, (Op.stringOp .add (bs T) (bs (x ++ [10]))).run Tryz.prog W = .ok (.string (bs (T ++ (x ++ [10])))) W := fun W => by
            rw [show bs (T ++ (x ++ [10])) = bs T ++ bs (x ++ [10]) from (bs_append _ _).symm]
            refine run_string_add_sum W _ _ ?_
            rw [bs_size, bs_size]
            rw [List.length_append] at hsm
            omega
          clear hstep hsm hd hp0 hpl
          go_wp2
          go_roundw
          case rel => exact ⟨m + 1, _, by omega, by go_num, by rw [HSt.out], rfl⟩
          case measure => simp [intOf]; omega
        · obtain rfl : m = ks.length := by omega
          rw [List.take_length]
          go_wp2
          go_ret2
          exact Ret.mk ⟨by rw [HR.out]; rfl, below_drewN HB3.out q⟩
end Go.Proofs.YtkpmmgeffbhngaaGreatDoor
namespace Go.Proofs.YtkpmmgeffbhngaaGreatDoor
open Go.RowKit Go.Shelf Prot Go.Lib Go.Maps
set_option maxRecDepth 100000 in
set_option maxHeartbeats 4000000 in
theorem protocolRuns_any (l : List UInt8) (w : World) (hT : Tab w) : Calls Tryz.prog 6 #[.string (bs l)] w (Ret fun v w' => v = .bool true ∧ Below w.heap.size w w') := by
  have HB0 := Lib.hid (Below.refl w.heap.size w)
  have HT := Lib.hid hT
  clear hT
  obtain ⟨z, hz⟩ : ∃ z, (bs l).size = z := ⟨_, rfl⟩
  have hzl : l.length = z := by rw [← hz, bs_size]
  by_cases g2 : 5000 < z ∧ z ≤ 65536
  · have d1 : decide (((bs l).size : Int) > 5000) = true := decide_eq_true (by omega)
    have d2 : decide ((5000 : Int) < ((bs l).size : Int)) = true := decide_eq_true (by omega)
    have d3 : decide (((bs l).size : Int) ≤ 65536) = true := decide_eq_true (by omega)
    clear g2 hz hzl
    go_enter Tryz.func6, Tryz.ntmps6
    go_wp2_with fail
    refine (works_any _ HT.out).mono ?_
    rintro e wz ⟨v, rfl, rfl, hBz⟩
    go_wp2
    go_ret
    exact Ret.mk ⟨rfl, below_trans' HB0.out hBz⟩
  by_cases g1 : 70000 < z
  · have d1 : decide (((bs l).size : Int) > 5000) = true := decide_eq_true (by omega)
    have d2 : decide ((5000 : Int) < ((bs l).size : Int)) = true := decide_eq_true (by omega)
    have d3 : decide (((bs l).size : Int) ≤ 65536) = false := decide_eq_false (by omega)
    have d5 : decide (((bs l).size : Int) > 70000) = true := decide_eq_true (by omega)
    have d6 : decide ((70000 : Int) < ((bs l).size : Int)) = true := decide_eq_true (by omega)
    clear g1 g2 hz hzl
    go_enter Tryz.func6, Tryz.ntmps6
    go_wp2_with fail
    refine (works_any _ HT.out).mono ?_
    rintro e wz ⟨v, rfl, rfl, hBz⟩
    go_wp2
    go_ret
    exact Ret.mk ⟨rfl, below_trans' HB0.out hBz⟩
  have hl9 : l.length ≤ 100000 := by omega
  have hsz : (bs l).size ≤ 9223372036854775807 := by omega
  have HCRun : Hid (∀ W, Tab W → Calls Tryz.prog 29 #[.string (bs l)] W (Ret (DecQ (runA l) W))) := Lib.hid fun W hW => by
    have := Run_any l W hW hl9
    skip
    exact this
  have HCrRun : Hid (∀ W, Calls Tryz.prog 30 #[.string (bs l)] W (Ret (DecQ (runA l) W))) := Lib.hid fun W => by
    have := rRun_any (bs l) W hsz
    rw [bs_list] at this
    exact this
  have HCState : Hid (∀ W, Tab W → Calls Tryz.prog 31 #[.string (bs l)] W (Ret (ItQ (stateA l) W))) := Lib.hid fun W hW => by
    have := State_any l W hW hl9
    skip
    exact this
  have HCrState : Hid (∀ W, Calls Tryz.prog 32 #[.string (bs l)] W (Ret (ItQ (stateA l) W))) := Lib.hid fun W => by
    have := rState_any (bs l) W hsz
    rw [bs_list] at this
    exact this
  have HCFair : Hid (∀ W, Tab W → Calls Tryz.prog 33 #[.string (bs l)] W (Ret (fun v w' => v = textT (fairA l) ∧ Below W.heap.size W w'))) := Lib.hid fun W hW => by
    have := Fair_any l W hW hl9
    skip
    exact this
  have HCrFair : Hid (∀ W, Calls Tryz.prog 34 #[.string (bs l)] W (Ret (fun v w' => v = textT (fairA l) ∧ Below W.heap.size W w'))) := Lib.hid fun W => by
    have := rFair_any (bs l) W hsz
    rw [bs_list] at this
    exact this
  have hrl : (runA l).1.length ≤ 1000000 := Nat.le_trans (runA_len l) (by omega)
  have hsl : (stateA l).1.length ≤ 1000000 := Nat.le_trans (stateA_len l) (by omega)
  unfold textT at HCFair HCrFair
  generalize runA l = ra at *
  generalize stateA l = sa at *
  generalize fairA l = fa at *
  clear hl9 hsz hzl
  by_cases g3 : z ≤ 5000
  · have d1 : decide (((bs l).size : Int) > 5000) = false := decide_eq_false (by omega)
    have d2 : decide ((5000 : Int) < ((bs l).size : Int)) = false := decide_eq_false (by omega)
    have d5 : decide (((bs l).size : Int) > 70000) = false := decide_eq_false (by omega)
    have d6 : decide ((70000 : Int) < ((bs l).size : Int)) = false := decide_eq_false (by omega)
    clear g1 g2 g3 hz
    go_enter Tryz.func6, Tryz.ntmps6
    have Hc := Lib.hid (HCRun.out w HT.out)
    go_wp2_with fail
    refine Hc.out.mono ?_
    rintro e w1 ⟨v, rfl, A5, c5, rfl, h5, h6, hb⟩
    have HB1 := Lib.hid (below_trans' HB0.out hb)
    replace HT := Lib.hid (HT.out.below hb)
    clear hb Hc HB0
    have HR5 := Lib.hid h6
    clear h5 h6
    have Hc := Lib.hid (HCrRun.out w1)
    go_wp2_with fail
    refine Hc.out.mono ?_
    rintro e w2 ⟨v, rfl, A6, c6, rfl, h5, h6, hb⟩
    have HB2 := Lib.hid (below_trans' HB1.out hb)
    replace HT := Lib.hid (HT.out.below hb)
    replace HR5 := Lib.hid (HR5.out.below hb)
    clear hb Hc HB1
    have HR6 := Lib.hid h6
    clear h5 h6
    have Hc := Lib.hid (HCState.out w2 HT.out)
    go_wp2_with fail
    refine Hc.out.mono ?_
    rintro e w3 ⟨v, rfl, A7, c7, rfl, h5, h6, hb⟩
    have HB3 := Lib.hid (below_trans' HB2.out hb)
    replace HT := Lib.hid (HT.out.below hb)
    replace HR5 := Lib.hid (HR5.out.below hb)
    replace HR6 := Lib.hid (HR6.out.below hb)
    clear hb Hc HB2
    have HR7 := Lib.hid h6
    clear h5 h6
    have Hc := Lib.hid (HCrState.out w3)
    go_wp2_with fail
    refine Hc.out.mono ?_
    rintro e w4 ⟨v, rfl, A8, c8, rfl, h5, h6, hb⟩
    have HB4 := Lib.hid (below_trans' HB3.out hb)
    replace HT := Lib.hid (HT.out.below hb)
    replace HR5 := Lib.hid (HR5.out.below hb)
    replace HR6 := Lib.hid (HR6.out.below hb)
    replace HR7 := Lib.hid (HR7.out.below hb)
    clear hb Hc HB3
    have HR8 := Lib.hid h6
    clear h5 h6
    have Hc := Lib.hid (HCFair.out w4 HT.out)
    go_wp2_with fail
    refine Hc.out.mono ?_
    rintro e w5 ⟨v, rfl, rfl, hb⟩
    have HB5 := Lib.hid (below_trans' HB4.out hb)
    replace HT := Lib.hid (HT.out.below hb)
    replace HR5 := Lib.hid (HR5.out.below hb)
    replace HR6 := Lib.hid (HR6.out.below hb)
    replace HR7 := Lib.hid (HR7.out.below hb)
    replace HR8 := Lib.hid (HR8.out.below hb)
    clear hb Hc HB4
    have Hc := Lib.hid (HCrFair.out w5)
    go_wp2_with fail
    refine Hc.out.mono ?_
    rintro e w6 ⟨v, rfl, rfl, hb⟩
    have HB6 := Lib.hid (below_trans' HB5.out hb)
    replace HT := Lib.hid (HT.out.below hb)
    replace HR5 := Lib.hid (HR5.out.below hb)
    replace HR6 := Lib.hid (HR6.out.below hb)
    replace HR7 := Lib.hid (HR7.out.below hb)
    replace HR8 := Lib.hid (HR8.out.below hb)
    clear hb Hc HB5
    generalize bs fa.1 = fs at *
    generalize fa.2 = fe at *
    have Hc := Lib.hid (errs_same A5 A6 c5 c6 ra.1 w6 HR5.out HR6.out hrl)
    go_wp2_with fail
    refine Hc.out.mono ?_
    rintro e w7 ⟨v, rfl, rfl, hb⟩
    have HB7 := Lib.hid (below_trans' HB6.out hb)
    replace HT := Lib.hid (HT.out.below hb)
    replace HR5 := Lib.hid (HR5.out.below hb)
    replace HR6 := Lib.hid (HR6.out.below hb)
    replace HR7 := Lib.hid (HR7.out.below hb)
    replace HR8 := Lib.hid (HR8.out.below hb)
    clear hb Hc HB6
    have Hc := Lib.hid (items_same A7 A8 c7 c8 sa.1 w7 HR7.out HR8.out hsl)
    go_wp2_with fail
    refine Hc.out.mono ?_
    rintro e w8 ⟨v, rfl, rfl, hb⟩
    have HB8 := Lib.hid (below_trans' HB7.out hb)
    replace HT := Lib.hid (HT.out.below hb)
    replace HR5 := Lib.hid (HR5.out.below hb)
    replace HR6 := Lib.hid (HR6.out.below hb)
    replace HR7 := Lib.hid (HR7.out.below hb)
    replace HR8 := Lib.hid (HR8.out.below hb)
    clear hb Hc HB7
    go_wp2_with fail
    refine (works_any _ HT.out).mono ?_
    rintro e wz ⟨v, rfl, rfl, hBz⟩
    go_wp2
    go_ret
    exact Ret.mk ⟨rfl, below_trans' HB8.out hBz⟩
  · have d1 : decide (((bs l).size : Int) > 5000) = true := decide_eq_true (by omega)
    have d2 : decide ((5000 : Int) < ((bs l).size : Int)) = true := decide_eq_true (by omega)
    have d3 : decide (((bs l).size : Int) ≤ 65536) = false := decide_eq_false (by omega)
    have d5 : decide (((bs l).size : Int) > 70000) = false := decide_eq_false (by omega)
    have d6 : decide ((70000 : Int) < ((bs l).size : Int)) = false := decide_eq_false (by omega)
    clear g1 g2 g3 hz
    go_enter Tryz.func6, Tryz.ntmps6
    have Hc := Lib.hid (HCRun.out w HT.out)
    go_wp2_with fail
    refine Hc.out.mono ?_
    rintro e w1 ⟨v, rfl, A5, c5, rfl, h5, h6, hb⟩
    have HB1 := Lib.hid (below_trans' HB0.out hb)
    replace HT := Lib.hid (HT.out.below hb)
    clear hb Hc HB0
    have HR5 := Lib.hid h6
    clear h5 h6
    have Hc := Lib.hid (HCrRun.out w1)
    go_wp2_with fail
    refine Hc.out.mono ?_
    rintro e w2 ⟨v, rfl, A6, c6, rfl, h5, h6, hb⟩
    have HB2 := Lib.hid (below_trans' HB1.out hb)
    replace HT := Lib.hid (HT.out.below hb)
    replace HR5 := Lib.hid (HR5.out.below hb)
    clear hb Hc HB1
    have HR6 := Lib.hid h6
    clear h5 h6
    have Hc := Lib.hid (HCState.out w2 HT.out)
    go_wp2_with fail
    refine Hc.out.mono ?_
    rintro e w3 ⟨v, rfl, A7, c7, rfl, h5, h6, hb⟩
    have HB3 := Lib.hid (below_trans' HB2.out hb)
    replace HT := Lib.hid (HT.out.below hb)
    replace HR5 := Lib.hid (HR5.out.below hb)
    replace HR6 := Lib.hid (HR6.out.below hb)
    clear hb Hc HB2
    have HR7 := Lib.hid h6
    clear h5 h6
    have Hc := Lib.hid (HCrState.out w3)
    go_wp2_with fail
    refine Hc.out.mono ?_
    rintro e w4 ⟨v, rfl, A8, c8, rfl, h5, h6, hb⟩
    have HB4 := Lib.hid (below_trans' HB3.out hb)
    replace HT := Lib.hid (HT.out.below hb)
    replace HR5 := Lib.hid (HR5.out.below hb)
    replace HR6 := Lib.hid (HR6.out.below hb)
    replace HR7 := Lib.hid (HR7.out.below hb)
    clear hb Hc HB3
    have HR8 := Lib.hid h6
    clear h5 h6
    have Hc := Lib.hid (HCFair.out w4 HT.out)
    go_wp2_with fail
    refine Hc.out.mono ?_
    rintro e w5 ⟨v, rfl, rfl, hb⟩
    have HB5 := Lib.hid (below_trans' HB4.out hb)
    replace HT := Lib.hid (HT.out.below hb)
    replace HR5 := Lib.hid (HR5.out.below hb)
    replace HR6 := Lib.hid (HR6.out.below hb)
    replace HR7 := Lib.hid (HR7.out.below hb)
    replace HR8 := Lib.hid (HR8.out.below hb)
    clear hb Hc HB4
    have Hc := Lib.hid (HCrFair.out w5)
    go_wp2_with fail
    refine Hc.out.mono ?_
    rintro e w6 ⟨v, rfl, rfl, hb⟩
    have HB6 := Lib.hid (below_trans' HB5.out hb)
    replace HT := Lib.hid (HT.out.below hb)
    replace HR5 := Lib.hid (HR5.out.below hb)
    replace HR6 := Lib.hid (HR6.out.below hb)
    replace HR7 := Lib.hid (HR7.out.below hb)
    replace HR8 := Lib.hid (HR8.out.below hb)
    clear hb Hc HB5
    generalize bs fa.1 = fs at *
    generalize fa.2 = fe at *
    have Hc := Lib.hid (errs_same A5 A6 c5 c6 ra.1 w6 HR5.out HR6.out hrl)
    go_wp2_with fail
    refine Hc.out.mono ?_
    rintro e w7 ⟨v, rfl, rfl, hb⟩
    have HB7 := Lib.hid (below_trans' HB6.out hb)
    replace HT := Lib.hid (HT.out.below hb)
    replace HR5 := Lib.hid (HR5.out.below hb)
    replace HR6 := Lib.hid (HR6.out.below hb)
    replace HR7 := Lib.hid (HR7.out.below hb)
    replace HR8 := Lib.hid (HR8.out.below hb)
    clear hb Hc HB6
    have Hc := Lib.hid (items_same A7 A8 c7 c8 sa.1 w7 HR7.out HR8.out hsl)
    go_wp2_with fail
    refine Hc.out.mono ?_
    rintro e w8 ⟨v, rfl, rfl, hb⟩
    have HB8 := Lib.hid (below_trans' HB7.out hb)
    replace HT := Lib.hid (HT.out.below hb)
    replace HR5 := Lib.hid (HR5.out.below hb)
    replace HR6 := Lib.hid (HR6.out.below hb)
    replace HR7 := Lib.hid (HR7.out.below hb)
    replace HR8 := Lib.hid (HR8.out.below hb)
    clear hb Hc HB7
    go_wp2_with fail
    refine (works_any _ HT.out).mono ?_
    rintro e wz ⟨v, rfl, rfl, hBz⟩
    go_wp2
    go_ret
    exact Ret.mk ⟨rfl, below_trans' HB8.out hBz⟩
end Go.Proofs.YtkpmmgeffbhngaaGreatDoor
namespace Go.Proofs.YtkpmmgeffbhngaaGreatDoor
open Go.ChangeShapes Go.WideShapes Go.ChangeAt Go.RowKit
set_option maxRecDepth 100000 in
theorem protocolRuns_lifted (os : Os) (started : os.Started) (H : Type) (enc : TypeId × Value → H) :
    ReturnsInHanded {} Tryz.checked os 6 .any (fun w args => (Rows.protocolRunsSpec.pre enc Tryz.prog Tryz.f6 [] false w args ∧ laidMetH Tryz.prog laidT w) ∧ sizedMet enc Tryz.prog Tryz.f6 (OpenSpec.ofChange Rows.protocolRunsSpec) false w args)
      (Rows.protocolRunsSpec.post enc Tryz.prog Tryz.f6 false true false false) := by
  refine returnsInHanded_and_shaped (C := Tryz.checked) (X := fun w _ => laidMetH Tryz.prog laidT w) (fun _ _ _ hh h => h.of_heap hh) Tryz.own started (by kernel_rfl) Tryz.func6
    (ChangeSpec.witness_shaped (enc := enc) (C := Tryz.checked) (os := os) (X := fun w _ => laidMetH Tryz.prog laidT w) false (World.laidAll Tryz.prog os laidT) #[.string ⟨#[]⟩] 8 (World.laidAll_os _ _ _) (laid_shaped os _) (by kernel_rfl) (by kernel_rfl) (by kernel_rfl) (laid_met os _)) ?_
  intro W base args ds gs before hval0 hW hL hsh
  have hval : ∀ (j : Nat) t v, Tryz.f6.params[j]? = some t → args[j]? = some v → Value.okWide Tryz.prog W .any base t v := hval0
  have hW' := hW
  have hlt : ∀ p ∈ before, p.block < W.heap.size := fun p hp => hW.lt p hp
  obtain ⟨p, q, hA0, hV, rfl, hfz, hnd⟩ := hW
  have hA : DataW.TrodAll enc Tryz.prog W 0 (fun _ => true) true Tryz.f6.params.toList args.toList ds p := hA0
  rw [Tryz.params6] at hA hval
  have hA1 := hA
  have hT := of_laid hL hsh
  obtain ⟨v0, d0, rfl, rfl, h0⟩ := trodAll_one hA
  obtain ⟨rfl, rfl⟩ := trodVars_none hV
  obtain ⟨s0, rfl, rfl, rfl, ws0⟩ := Go.ChangeMaps.open_string Tryz.underlying9 (hval 0 9 v0 rfl rfl) h0
  obtain ⟨l, rfl⟩ : ∃ l, s0 = bs l := ⟨_, bs_of s0⟩
  refine (protocolRuns_any l W hT).mono fun e W' he => ?_
  obtain ⟨v, rfl, rfl, hB⟩ := he
  exact ⟨_, rfl, post_of_below (pa := _) (pv := []) hW' (fun b sp hd => trodAll_mk1 (resTrue b sp hd W')) (fun sp hsp => all_again' hB (by kernel_rfl) hA1 (fun x hx => hlt x (by simp at hx)) (fun x hx => hsp x (by simp at hx))) (fun _ _ => rfl) rfl hB (ok_one (by kernel_rfl) rfl (okWide_bool_mk Tryz.underlying4 true))⟩
theorem protocolRuns_p : (Rows.protocolRunsRow.inPlace == Tryz.prog.inPlace 6) = true := by kernel_rfl
theorem protocolRuns_u : (Rows.protocolRunsRow.unfollowed == Tryz.prog.unfollowed 6) = true := by kernel_rfl
theorem protocolRuns_r : (Rows.protocolRunsRow.recurses == Tryz.prog.recurses 6) = true := by kernel_rfl
theorem protocolRuns_n : (Rows.protocolRunsRow.named == Tryz.prog.varsNamed 6) = true := by kernel_rfl
theorem protocolRuns_row : Rows.ProtocolRunsSaid :=
  OpenClaim.holds_of_wide 6 Tryz.f6 rfl rfl rfl rfl rfl rfl rfl ⟨rfl, rfl, rfl, rfl, rfl⟩ rfl rfl rfl rfl rfl (by kernel_rfl) Tryz.func6
    (joined_of (by kernel_rfl) (by kernel_rfl) (by kernel_rfl) rfl rfl protocolRuns_p protocolRuns_u protocolRuns_r protocolRuns_n (by kernel_rfl) (by kernel_rfl) (by kernel_rfl) (by kernel_rfl) (by kernel_rfl) (by kernel_rfl) (by kernel_rfl) (by kernel_rfl) (by kernel_rfl) (by kernel_rfl) rfl rfl rfl (by kernel_rfl) (by kernel_rfl) (by kernel_rfl) (by kernel_rfl))
    (of_decide_eq_true (by kernel_rfl)) (by unfold Func.isWrapper; first | (rw [if_pos (by decide +kernel)]; kernel_rfl) | (rw [if_neg (by decide +kernel)]; exact ⟨rfl, rfl⟩))
    (fun os started H enc _ => protocolRuns_lifted os started H enc)
theorem protocolRuns_holds : Rows.ProtocolRunsCardSaid :=
  Claim7.holds_tied_plain_at .later [] [.data, .data, .data, .data, .sentinel, .sentinel, .pinned] true (true, "056ceee57fb0345663cf018f0cf66ba5b95e362946dcabdfc5afb17e57de19a5") true
    protocolRuns_row (fun _ h => by cases h) (by kernel_rfl) (fun _ h => by cases h) protocolRuns_row_tie rfl ⟨rfl, rfl⟩ (by kernel_rfl) rfl
    (no_stand (show Tryz.prog.funcNamed "mandrel/mandrellaw12.ProtocolRuns" = some 6 by kernel_rfl) Tryz.func6 Tryz.jlooks (by kernel_rfl))
    (by kernel_rfl)
end Go.Proofs.YtkpmmgeffbhngaaGreatDoor
