/- ProtocolWritten is true for every input: depths, cards and lists come back as they were written, and what is accepted is written again as it was. The package variables of the library are tied to the program's text by the given tie. -/
import Derived.Test.YtkpmmgeffbhngaaGreatDoorC11
import Derived.Test.YtkpmmgeffbhngaaGreatDoorC43
import Derived.Test.YtkpmmgeffbhngaaGreatDoorC44
import Derived.Test.YtkpmmgeffbhngaaGreatDoorC45
import Derived.Test.YtkpmmgeffbhngaaGreatDoorCards
import Derived.Test.YtkpmmgeffbhngaaGreatDoorTie
set_option linter.unusedSimpArgs false
set_option linter.unusedVariables false
set_option linter.unnecessarySimpa false
namespace Prot
end Prot
namespace Go.Shelf
end Go.Shelf
namespace Go.Maps
end Go.Maps
namespace Go.Proofs.YtkpmmgeffbhngaaGreatDoor
open Go.ChangeShapes Go.WideShapes Go.ChangeAt Go.RowKit
section
variable {H : Type} {enc : TypeId × Value → H}
end
end Go.Proofs.YtkpmmgeffbhngaaGreatDoor
namespace Go.Proofs.YtkpmmgeffbhngaaGreatDoor
open Go.ChangeShapes Go.WideShapes Go.ChangeAt Go.RowKit Go.Deep Prot
section
variable {H : Type} {enc : TypeId × Value → H} {W : World} {base : Nat}
theorem Tryz.cellsHp : Tryz.prog.cellsOf 64 = 1 := by kernel_rfl
theorem trodAll_four {P : Program} {w : World} {b0 : Nat} {spare : Nat → Bool} {held : Bool} {t t' t'' t3 : TypeId} {args : Array Value} {ds : List (DataW H)} {ps : List MemPlace} (h : DataW.TrodAll enc P w b0 spare held [t, t', t'', t3] args.toList ds ps) :
    ∃ v v' v'' v3 d d' d'' d3 p p' p'' p3, args = #[v, v', v'', v3] ∧ ds = [d, d', d'', d3] ∧ ps = p ++ p' ++ p'' ++ p3 ∧ DataW.Trod enc P w b0 spare held t v d p ∧ DataW.Trod enc P w b0 spare held t' v' d' p' ∧ DataW.Trod enc P w b0 spare held t'' v'' d'' p'' ∧ DataW.Trod enc P w b0 spare held t3 v3 d3 p3 := by
  obtain ⟨v, vs, d, ds', p, q, hargs, rfl, rfl, hd, hrest⟩ := trodAll_cons h
  obtain ⟨v', vs', d', ds'', p', q', rfl, rfl, rfl, hd', hrest'⟩ := trodAll_cons hrest
  obtain ⟨v'', vs'', d'', ds3, p'', q'', rfl, rfl, rfl, hd'', hrest''⟩ := trodAll_cons hrest'
  obtain ⟨v3, vs3, d3, ds4, p3, q3, rfl, rfl, rfl, hd3, hrest3⟩ := trodAll_cons hrest''
  obtain ⟨rfl, rfl, rfl⟩ := trodAll_nil hrest3
  exact ⟨v, v', v'', v3, d, d', d'', d3, p, p', p'', p3, by cases args; simp_all, rfl, by simp, hd, hd', hd'', hd3⟩
end
set_option maxRecDepth 100000
end Go.Proofs.YtkpmmgeffbhngaaGreatDoor
namespace Prot
def deep (us : List Int) : List Int := (us.take 200).map (· % 1001)
theorem deep_len (us : List Int) : (deep us).length ≤ 200 := by unfold deep; rw [List.length_map, List.length_take]; omega
theorem deep_err (us : List Int) : encErr (deep us) = 0 := encErr_iff.2 ⟨deep_len us, fun d hd => by
  unfold deep at hd
  obtain ⟨x, _, rfl⟩ := List.mem_map.1 hd
  omega⟩
theorem deep_enc (us : List Int) : encV (deep us) = (encL (deep us), 0) := by unfold encV; rw [if_pos (deep_err us)]
theorem deep_dec (us : List Int) : decV (encL (deep us)) = (deep us, 0) := decW_enc (by omega) (deep_err us)
theorem deep_short (us : List Int) : (encL (deep us)).length ≤ 1000 := by
  have h := decR_eq (encL (deep us))
  rw [deep_dec] at h
  unfold decR at h
  split at h
  · have := congrArg Prod.snd h
    exact absurd this (by simp)
  · omega
theorem card_back {c : Card} {l : List UInt8} (h : lineV c = (l, 0)) : parseV l = (c, 0) := parse_line numW_P h
theorem text_back {c : Card} {l : List UInt8} (h : parseV l = (c, 0)) : lineV c = (l, 0) := line_parse numW_P h
set_option maxRecDepth 100000 in
theorem list_back {it : List It} {l : List UInt8} (h : listA it = (l, 0)) : readA l = (it, 0) ∧ l.length ≤ 4800 := by
  unfold listA at h
  split at h
  · rename_i hn
    exact absurd (congrArg Prod.snd h) hn
  · rename_i hn
    have hn' : itemsErr it = 0 := Decidable.not_not.1 hn
    have e : shelfT it = l := congrArg Prod.fst h
    rw [← e]
    have hl := shelf_len hn'
    refine ⟨?_, hl⟩
    unfold readA
    rw [if_neg (by omega)]
    exact readV_list waysP_ok hn'
theorem depths_back {l : List UInt8} {z : List Int} (h : decV l = (z, 0)) : encV z = (l, 0) ∧ z.length ≤ 200 := by
  obtain ⟨h1, h2⟩ := decW_ok h
  refine ⟨by unfold encV; rw [if_pos h1, h2], (encErr_iff.1 h1).1⟩
set_option maxRecDepth 100000 in
theorem read_back {l : List UInt8} {z : List It} (h : readA l = (z, 0)) : listA z = (l, 0) ∧ z.length ≤ 60 := by
  have hz := readA_len l
  rw [h] at hz
  unfold readA at h
  split at h
  · exact absurd (congrArg Prod.snd h) (by simp)
  · obtain ⟨h1, h2⟩ := readV_ok h
    refine ⟨by unfold listA; rw [if_neg (by rw [h1]; decide), h2], hz⟩
end Prot
namespace Go.Proofs.YtkpmmgeffbhngaaGreatDoor
open Go.RowKit Go.Shelf Prot Go.Lib Go.Maps
theorem u16_at {w : World} {A : Option Addr} {l : List Int} (h : RowsAt (fun x : Int => [.int .u16 x]) 1 w A l) {i : Nat} (hi : i < l.length) : ∃ b off, A = some ⟨b, off, none⟩ ∧ w.cell? ⟨b, off + i, none⟩ = some (.int .u16 l[i]) := by
  obtain ⟨b, off, hA, hc⟩ := h i hi
  exact ⟨b, off, hA, by have := hc 0 _ rfl; simpa using this⟩
theorem deep_next {us : List Int} {k : Nat} (hk : k < us.length) : (us.take (k + 1)).map (· % 1001) = (us.take k).map (· % 1001) ++ [us[k] % 1001] := by
  rw [List.take_succ_eq_append_getElem hk, List.map_append]; rfl
set_option maxRecDepth 100000 in
set_option maxHeartbeats 4000000 in
theorem protocolWritten_any (A : Option Addr) (ca : Nat) (us : List Int) (l : List UInt8) (k a b c : Int) (A3 : Option Addr) (c3 : Nat) (it : List It) (w : World) (hT : Tab w) (hU : RowsAt (fun x : Int => [.int .u16 x]) 1 w A us) (hu : ∀ x ∈ us, 0 ≤ x ∧ x ≤ 65535) (hI : ItemsAt w A3 it) (hc3 : it.length ≤ c3) :
    Calls Tryz.prog 11 #[.slice A us.length ca, .string (bs l), vCard (k, a, b, c), .slice A3 it.length c3] w (Ret fun v w' => v = .bool true ∧ Below w.heap.size w w') := by
  have HB0 := Lib.hid (Below.refl w.heap.size w)
  have HT := Lib.hid hT
  clear hT
  have HU := Lib.hid hU
  have HI := Lib.hid hI
  have HC3 := Lib.hid hc3
  have HUb := Lib.hid hu
  clear hU hI hc3 hu
  unfold vCard
  dsimp only
  obtain ⟨z, hz⟩ : ∃ z, (bs l).size = z := ⟨_, rfl⟩
  have hzl : l.length = z := by rw [← hz, bs_size]
  by_cases g0 : 220 < us.length
  · have d1 : decide ((us.length : Int) > 220) = true := decide_eq_true (by omega)
    have d2 : decide ((220 : Int) < (us.length : Int)) = true := decide_eq_true (by omega)
    clear hz hzl g0
    go_enter Tryz.func11, Tryz.ntmps11
    have hX := heap_alloc_new w (.cells #[.int .i64 k, .int .i64 a, .int .i64 b, .int .i64 c] 36)
    have hb := below_alloc' (Below.refl w.heap.size w) (.cells #[.int .i64 k, .int .i64 a, .int .i64 b, .int .i64 c] 36)
    go_upto_region 1 with fail
    have HB1 := Lib.hid (below_trans' HB0.out hb)
    replace HT := Lib.hid (HT.out.below hb)
    replace HU := Lib.hid (HU.out.below hb)
    replace HI := Lib.hid (HI.out.below hb)
    clear hb HB0
    generalize w.alloc (.cells #[.int .i64 k, .int .i64 a, .int .i64 b, .int .i64 c] 36) = w1 at *
    have y0 : w1.cell? ⟨w.heap.size, 0, none⟩ = some (.int .i64 k) := (blk_cell hX).trans rfl
    have y1 : w1.cell? ⟨w.heap.size, 1, none⟩ = some (.int .i64 a) := (blk_cell hX).trans rfl
    have y2 : w1.cell? ⟨w.heap.size, 2, none⟩ = some (.int .i64 b) := (blk_cell hX).trans rfl
    have y3 : w1.cell? ⟨w.heap.size, 3, none⟩ = some (.int .i64 c) := (blk_cell hX).trans rfl
    clear hX
    go_wp2_with fail
    refine (works_any _ HT.out).mono ?_
    rintro e wz ⟨v, rfl, rfl, hBz⟩
    go_wp2
    go_ret
    exact Ret.mk ⟨rfl, below_trans' HB1.out hBz⟩
  by_cases g1 : 1000 < z
  · have d1 : decide ((us.length : Int) > 220) = false := decide_eq_false (by omega)
    have d2 : decide ((220 : Int) < (us.length : Int)) = false := decide_eq_false (by omega)
    have d3 : decide (((bs l).size : Int) > 1000) = true := decide_eq_true (by omega)
    have d4 : decide ((1000 : Int) < ((bs l).size : Int)) = true := decide_eq_true (by omega)
    clear hz hzl g0 g1
    go_enter Tryz.func11, Tryz.ntmps11
    have hX := heap_alloc_new w (.cells #[.int .i64 k, .int .i64 a, .int .i64 b, .int .i64 c] 36)
    have hb := below_alloc' (Below.refl w.heap.size w) (.cells #[.int .i64 k, .int .i64 a, .int .i64 b, .int .i64 c] 36)
    go_upto_region 1 with fail
    have HB1 := Lib.hid (below_trans' HB0.out hb)
    replace HT := Lib.hid (HT.out.below hb)
    replace HU := Lib.hid (HU.out.below hb)
    replace HI := Lib.hid (HI.out.below hb)
    clear hb HB0
    generalize w.alloc (.cells #[.int .i64 k, .int .i64 a, .int .i64 b, .int .i64 c] 36) = w1 at *
    have y0 : w1.cell? ⟨w.heap.size, 0, none⟩ = some (.int .i64 k) := (blk_cell hX).trans rfl
    have y1 : w1.cell? ⟨w.heap.size, 1, none⟩ = some (.int .i64 a) := (blk_cell hX).trans rfl
    have y2 : w1.cell? ⟨w.heap.size, 2, none⟩ = some (.int .i64 b) := (blk_cell hX).trans rfl
    have y3 : w1.cell? ⟨w.heap.size, 3, none⟩ = some (.int .i64 c) := (blk_cell hX).trans rfl
    clear hX
    go_wp2_with fail
    refine (works_any _ HT.out).mono ?_
    rintro e wz ⟨v, rfl, rfl, hBz⟩
    go_wp2
    go_ret
    exact Ret.mk ⟨rfl, below_trans' HB1.out hBz⟩
  by_cases g2 : 70 < it.length
  · have d1 : decide ((us.length : Int) > 220) = false := decide_eq_false (by omega)
    have d2 : decide ((220 : Int) < (us.length : Int)) = false := decide_eq_false (by omega)
    have d3 : decide (((bs l).size : Int) > 1000) = false := decide_eq_false (by omega)
    have d4 : decide ((1000 : Int) < ((bs l).size : Int)) = false := decide_eq_false (by omega)
    have d5 : decide ((it.length : Int) > 70) = true := decide_eq_true (by omega)
    have d6 : decide ((70 : Int) < (it.length : Int)) = true := decide_eq_true (by omega)
    clear hz hzl g0 g1 g2
    go_enter Tryz.func11, Tryz.ntmps11
    have hX := heap_alloc_new w (.cells #[.int .i64 k, .int .i64 a, .int .i64 b, .int .i64 c] 36)
    have hb := below_alloc' (Below.refl w.heap.size w) (.cells #[.int .i64 k, .int .i64 a, .int .i64 b, .int .i64 c] 36)
    go_upto_region 1 with fail
    have HB1 := Lib.hid (below_trans' HB0.out hb)
    replace HT := Lib.hid (HT.out.below hb)
    replace HU := Lib.hid (HU.out.below hb)
    replace HI := Lib.hid (HI.out.below hb)
    clear hb HB0
    generalize w.alloc (.cells #[.int .i64 k, .int .i64 a, .int .i64 b, .int .i64 c] 36) = w1 at *
    have y0 : w1.cell? ⟨w.heap.size, 0, none⟩ = some (.int .i64 k) := (blk_cell hX).trans rfl
    have y1 : w1.cell? ⟨w.heap.size, 1, none⟩ = some (.int .i64 a) := (blk_cell hX).trans rfl
    have y2 : w1.cell? ⟨w.heap.size, 2, none⟩ = some (.int .i64 b) := (blk_cell hX).trans rfl
    have y3 : w1.cell? ⟨w.heap.size, 3, none⟩ = some (.int .i64 c) := (blk_cell hX).trans rfl
    clear hX
    go_wp2_with fail
    refine (works_any _ HT.out).mono ?_
    rintro e wz ⟨v, rfl, rfl, hBz⟩
    go_wp2
    go_ret
    exact Ret.mk ⟨rfl, below_trans' HB1.out hBz⟩
  have d1 : decide ((us.length : Int) > 220) = false := decide_eq_false (by omega)
  have d2 : decide ((220 : Int) < (us.length : Int)) = false := decide_eq_false (by omega)
  have d3 : decide (((bs l).size : Int) > 1000) = false := decide_eq_false (by omega)
  have d4 : decide ((1000 : Int) < ((bs l).size : Int)) = false := decide_eq_false (by omega)
  have d5 : decide ((it.length : Int) > 70) = false := decide_eq_false (by omega)
  have d6 : decide ((70 : Int) < (it.length : Int)) = false := decide_eq_false (by omega)
  have HN := Lib.hid (show us.length ≤ 220 ∧ l.length ≤ 1000 ∧ it.length ≤ 70 by omega)
  clear hz hzl g0 g1 g2
  obtain ⟨ln, le, hln⟩ : ∃ ln le, lineV (k, a, b, c) = (ln, le) := ⟨_, _, rfl⟩
  obtain ⟨sh, se, hsh⟩ : ∃ sh se, listA it = (sh, se) := ⟨_, _, rfl⟩
  obtain ⟨zs, ze, hzs⟩ : ∃ zs ze, decV l = (zs, ze) := ⟨_, _, rfl⟩
  obtain ⟨p1, p2, p3, p4, pe, hpv⟩ : ∃ p1 p2 p3 p4 pe, parseV l = ((p1, p2, p3, p4), pe) := ⟨_, _, _, _, _, rfl⟩
  obtain ⟨rs, re, hrs⟩ : ∃ rs re, readA l = (rs, re) := ⟨_, _, rfl⟩
  obtain ⟨D, hD⟩ : ∃ D, deep us = D := ⟨_, rfl⟩
  obtain ⟨E, hE⟩ : ∃ E, encL D = E := ⟨_, rfl⟩
  have hl1 : l.length ≤ 1000 := HN.out.2.1
  have hi1 : it.length ≤ 70 := HN.out.2.2
  have HDl : Hid (D.length ≤ 200) := Lib.hid (by rw [← hD]; exact deep_len us)
  have HEnc : Hid (∀ A ca W, IntsAt W A D → D.length ≤ ca → Calls Tryz.prog 20 #[.slice A D.length ca] W (Ret fun v w' => v = .tuple #[.string (bs E), .int .i64 0] ∧ Below W.heap.size W w')) := Lib.hid fun A ca W h hc => by
    have := Encode_any A ca D W h (by have := HDl.out; omega) hc
    rw [encT_of (l := E) (e := 0) (by rw [← hE, ← hD]; exact deep_enc us)] at this
    exact this
  have HDec : Hid (∀ W, Calls Tryz.prog 22 #[.string (bs E)] W (Ret fun v w' => (∃ A ca, v = .tuple #[.slice A D.length ca, .int .i64 0] ∧ D.length ≤ ca ∧ IntsAt w' A D) ∧ Below W.heap.size W w')) := Lib.hid fun W => by
    have := Decode_any (bs E) W (by rw [bs_size, ← hE, ← hD]; have := deep_short us; omega)
    rw [bs_list, show decV E = (D, 0) by rw [← hE, ← hD]; exact deep_dec us] at this
    exact this.mono fun e w' h => by obtain ⟨v, rfl, A, ca, rfl, h1, h2, h3⟩ := h; exact Ret.mk ⟨⟨A, ca, rfl, h1, h2⟩, h3⟩
  have HLn : Hid (∀ W, Tab W → Calls Tryz.prog 25 #[.agg #[.int .i64 k, .int .i64 a, .int .i64 b, .int .i64 c]] W (Ret fun v w' => v = .tuple #[.string (bs ln), .int .i64 le] ∧ Below W.heap.size W w')) := Lib.hid fun W hW => by
    have := Line_any (k, a, b, c) W hW
    rw [lineT_of hln] at this
    exact this
  have HPb : Hid ((le == 0) = true → ∀ W, Tab W → Calls Tryz.prog 27 #[.string (bs ln)] W (Ret fun v w' => v = .tuple #[.agg #[.int .i64 k, .int .i64 a, .int .i64 b, .int .i64 c], .int .i64 0] ∧ Below W.heap.size W w')) := Lib.hid fun he W hW => by
    obtain rfl : le = 0 := by simpa using he
    have := Parse_any (bs ln) W hW (by rw [bs_size]; have := line_len hln; omega)
    rw [bs_list, parseT_of (card_back hln)] at this
    exact this
  have HLi : Hid (∀ W, Tab W → ItemsAt W A3 it → Calls Tryz.prog 37 #[.slice A3 it.length c3] W (Ret fun v w' => v = .tuple #[.string (bs sh), .int .i64 se] ∧ Below W.heap.size W w')) := Lib.hid fun W hW hI => by
    have := List_any A3 c3 it W hW hI HC3.out (by omega)
    rw [show textT (listA it) = .tuple #[.string (bs sh), .int .i64 se] by unfold textT; rw [hsh]] at this
    exact this
  have HRb : Hid ((se == 0) = true → ∀ W, Tab W → Calls Tryz.prog 39 #[.string (bs sh)] W (Ret fun v w' => (∃ A ca, v = .tuple #[.slice A it.length ca, .int .i64 0] ∧ it.length ≤ ca ∧ ItemsAt w' A it) ∧ Below W.heap.size W w')) := Lib.hid fun he W hW => by
    obtain rfl : se = 0 := by simpa using he
    exact read_ok sh it (list_back hsh).1 (by have := (list_back hsh).2; omega) W hW
  have HZl : Hid (zs.length ≤ 200) := Lib.hid (by have := decV_len l; rw [hzs] at this; exact this)
  have HDt : Hid (∀ W, Calls Tryz.prog 22 #[.string (bs l)] W (Ret fun v w' => (∃ A ca, v = .tuple #[.slice A zs.length ca, .int .i64 ze] ∧ zs.length ≤ ca ∧ IntsAt w' A zs) ∧ Below W.heap.size W w')) := Lib.hid fun W => by
    have := Decode_any (bs l) W (by rw [bs_size]; omega)
    rw [bs_list, hzs] at this
    exact this.mono fun e w' h => by obtain ⟨v, rfl, A, ca, rfl, h1, h2, h3⟩ := h; exact Ret.mk ⟨⟨A, ca, rfl, h1, h2⟩, h3⟩
  have HEb : Hid ((ze == 0) = true → ∀ A ca W, IntsAt W A zs → zs.length ≤ ca → Calls Tryz.prog 20 #[.slice A zs.length ca] W (Ret fun v w' => v = .tuple #[.string (bs l), .int .i64 0] ∧ Below W.heap.size W w')) := Lib.hid fun he A ca W h hc => by
    obtain rfl : ze = 0 := by simpa using he
    have := Encode_any A ca zs W h (by have := HZl.out; omega) hc
    rw [encT_of (depths_back hzs).1] at this
    exact this
  have HPt : Hid (∀ W, Tab W → Calls Tryz.prog 27 #[.string (bs l)] W (Ret fun v w' => v = .tuple #[.agg #[.int .i64 p1, .int .i64 p2, .int .i64 p3, .int .i64 p4], .int .i64 pe] ∧ Below W.heap.size W w')) := Lib.hid fun W hW => by
    have := Parse_any (bs l) W hW (by rw [bs_size]; omega)
    rw [bs_list, parseT_of hpv] at this
    exact this
  have HLb : Hid ((pe == 0) = true → ∀ W, Tab W → Calls Tryz.prog 25 #[.agg #[.int .i64 p1, .int .i64 p2, .int .i64 p3, .int .i64 p4]] W (Ret fun v w' => v = .tuple #[.string (bs l), .int .i64 0] ∧ Below W.heap.size W w')) := Lib.hid fun he W hW => by
    obtain rfl : pe = 0 := by simpa using he
    have := Line_any (p1, p2, p3, p4) W hW
    rw [lineT_of (text_back hpv)] at this
    exact this
  have HRl : Hid (rs.length ≤ 60) := Lib.hid (by have := readA_len l; rw [hrs] at this; exact this)
  have HRt : Hid (∀ W, Tab W → Calls Tryz.prog 39 #[.string (bs l)] W (Ret fun v w' => (∃ A ca, v = .tuple #[.slice A rs.length ca, .int .i64 re] ∧ rs.length ≤ ca ∧ ItemsAt w' A rs) ∧ Below W.heap.size W w')) := Lib.hid fun W hW => by
    have := ReadList_any l W hW (by omega)
    rw [hrs] at this
    exact this.mono fun e w' h => by obtain ⟨v, rfl, A, ca, rfl, h1, h2, h3⟩ := h; exact Ret.mk ⟨⟨A, ca, rfl, h1, h2⟩, h3⟩
  have HLc : Hid ((re == 0) = true → ∀ A ca W, Tab W → ItemsAt W A rs → rs.length ≤ ca → Calls Tryz.prog 37 #[.slice A rs.length ca] W (Ret fun v w' => v = .tuple #[.string (bs l), .int .i64 0] ∧ Below W.heap.size W w')) := Lib.hid fun he A ca W hW h hc => by
    obtain rfl : re = 0 := by simpa using he
    exact list_ok A ca rs l (read_back hrs).1 hc (by have := HRl.out; omega) W hW h
  have HDd := Lib.hid hD
  clear hln hsh hzs hpv hrs hD hE hl1 hi1
  go_enter Tryz.func11, Tryz.ntmps11
  have hX := heap_alloc_new w (.cells #[.int .i64 k, .int .i64 a, .int .i64 b, .int .i64 c] 36)
  have hb := below_alloc' (Below.refl w.heap.size w) (.cells #[.int .i64 k, .int .i64 a, .int .i64 b, .int .i64 c] 36)
  go_upto_region 1 with fail
  have HB1 := Lib.hid (below_trans' HB0.out hb)
  replace HT := Lib.hid (HT.out.below hb)
  replace HU := Lib.hid (HU.out.below hb)
  replace HI := Lib.hid (HI.out.below hb)
  clear hb HB0
  generalize w.alloc (.cells #[.int .i64 k, .int .i64 a, .int .i64 b, .int .i64 c] 36) = w1 at *
  have y0 : w1.cell? ⟨w.heap.size, 0, none⟩ = some (.int .i64 k) := (blk_cell hX).trans rfl
  have y1 : w1.cell? ⟨w.heap.size, 1, none⟩ = some (.int .i64 a) := (blk_cell hX).trans rfl
  have y2 : w1.cell? ⟨w.heap.size, 2, none⟩ = some (.int .i64 b) := (blk_cell hX).trans rfl
  have y3 : w1.cell? ⟨w.heap.size, 3, none⟩ = some (.int .i64 c) := (blk_cell hX).trans rfl
  clear hX
  go_upto_region 4 with fail
  clear d1 d2 d3 d4 d5 d6
  go_wp2
  go_loopw [9, 10] (fun dv i wr => ∃ j : Nat, j ≤ us.length ∧ j ≤ 200 ∧ i = .int .i64 j ∧ Hid (wr.ownsRow w1.heap.size 2 1 dv j (((us.take j).map (· % 1001)).flatMap encI)) ∧ Hid (Below w1.heap.size w1 wr)) (fun _ i _ => 200 - (intOf i).toNat)
  case atStart => exact ⟨0, Nat.zero_le _, Nat.zero_le _, rfl, Lib.hid (by simpa using World.ownsRow_nil w1 w1.heap.size 2 1), Lib.hid (Below.refl _ _)⟩
  case round =>
    obtain ⟨j, hj, hj2, rfl, HO, HBr⟩ := hrel
    obtain ⟨q, hq⟩ : ∃ q : Bool, q = (decide (j < us.length) && decide (j < 200)) := ⟨_, rfl⟩
    go_upto_region 5 with fail
    go_cut [55] (fun s wx => s = .bool q ∧ wx = wr)
    case first =>
      by_cases hjl : j < us.length
      · have t1 : decide ((j : Int) < (us.length : Int)) = true := decide_eq_true (by omega)
        by_cases hj3 : j < 200
        · have t2 : decide ((j : Int) < 200) = true := decide_eq_true (by omega)
          have hq' : q = true := by rw [hq]; simp [hjl, hj3]
          clear hq
          subst hq'
          go_wp2_with fail
          go_meet
          case rel => exact ⟨rfl, rfl⟩
        · have t2 : decide ((j : Int) < 200) = false := decide_eq_false (by omega)
          have hq' : q = false := by rw [hq]; simp [hj3]
          clear hq
          subst hq'
          go_wp2_with fail
          go_meet
          case rel => exact ⟨rfl, rfl⟩
      · have t1 : decide ((j : Int) < (us.length : Int)) = false := decide_eq_false (by omega)
        have hq' : q = false := by rw [hq]; simp [hjl]
        clear hq
        subst hq'
        go_wp2_with fail
        go_meet
        case rel => exact ⟨rfl, rfl⟩
    case rest =>
      obtain ⟨rfl, rfl⟩ := hcut
      rename World => wr
      cases q with
      | true =>
        have hjl : j < us.length := by by_cases h : j < us.length; exact h; simp [h] at hq
        have hj3 : j < 200 := by by_cases h : j < 200; exact h; simp [h] at hq
        clear hq
        obtain ⟨b1, o1, rfl, g0⟩ := u16_at (HU.out.below HBr.out) hjl
        have j0 : (0 : Int) ≤ (j : Int) := by omega
        have j1 : (j : Int) < (us.length : Int) := by omega
        have HS := Lib.hid (deep_next hjl)
        obtain ⟨u0, u1⟩ := HUb.out us[j] (List.getElem_mem hjl)
        generalize us[j] = x at *
        obtain ⟨y, hy⟩ : ∃ y, y = x % 1001 := ⟨_, rfl⟩
        rw [← hy] at HS
        have e1 : IntKind.i64.wrap x = x := IntWalk.i64_in _ (by omega)
        have e2 : x.tmod 1001 = y := by rw [Int.tmod_eq_emod_of_nonneg u0]; exact hy.symm
        have e3 : x % 1001 = y := hy.symm
        have e4 : IntKind.i64.wrap y = y := IntWalk.i64_in _ (by omega)
        have hlen : ((us.take j).map (· % 1001)).length = j := by rw [List.length_map, List.length_take]; omega
        have HOA0 := HO.out.alloc (.cells #[.int .i64 y] 2)
        have HOA := Lib.hid (show (wr.alloc (.cells #[.int .i64 y] 2)).ownsRow w1.heap.size 2 1 _ ((us.take j).map (· % 1001)).length _ from by rw [hlen]; exact HOA0)
        have hbk := heap_alloc_new wr (.cells #[.int .i64 y] 2)
        have hr6 := own_base HO.out
        have hsw := HBr.out.size
        have HLe := Lib.hid hlen
        have hl9 : ((us.take j).map (· % 1001)).length ≤ 100000 := by omega
        clear hlen hy HOA0
        go_wp2_with (at_builtin; refine wpList_push _ rfl (.tmp 58) (.tmp 65) 29 rfl elemL encI_len oneI Tryz.underlying29 w1.heap.size _ ((us.take j).map (· % 1001)) rfl HOA.out hl9 y wr.heap.size (by rfl) _ rfl _ _ hbk (by rw [World.size_alloc]; omega) ?_; intro g2 cap w6 hO6 hg6)
        have HB6 := Lib.hid ((below_alloc' HBr.out (.cells #[.int .i64 y] 2)).grown hg6 (by rw [World.size_alloc]; omega) (fun r e => by have := hr6 r e; omega))
        rw [HLe.out] at hO6
        have HO6 := Lib.hid hO6
        clear hO6 hg6 hr6 HO HOA hbk HBr
        go_roundw
        case rel => first | exact ⟨j + 1, by omega, by omega, by go_num, by rw [HS.out]; exact HO6, HB6⟩ | ((repeat apply Exists.intro); exact ⟨⟨j + 1, by omega, by omega, by go_num, by rw [HS.out]; exact HO6, HB6⟩, rfl⟩)
        case measure => simp [intOf]; omega
      | false =>
        · have hjm : j = us.length ∨ j = 200 := by
            by_cases h : j < us.length
            · by_cases h2 : j < 200
              · simp [h, h2] at hq
              · omega
            · omega
          clear hq
          have HDj : Hid ((us.take j).map (· % 1001) = D) := Lib.hid (by
            rw [← HDd.out]; unfold deep
            rcases hjm with e | e
            · rw [e, List.take_length, List.take_of_length_le (show us.length ≤ 200 by omega)]
            · rw [e])
          have hjD : j = D.length := by rw [← HDj.out, List.length_map, List.length_take]; omega
          clear hjm
          rw [HDj.out] at HO
          obtain ⟨A9, c9, rfl, hc9⟩ := own_form HO.out
          clear hj hj2
          subst hjD
          have HI9 := Lib.hid (show IntsAt _ A9 D from RowsAt.of_own encI_len HO.out)
          have HC9 := Lib.hid hc9
          replace HT := Lib.hid (HT.out.below HBr.out)
          replace HI := Lib.hid (HI.out.below HBr.out)
          replace y0 := cell_below HBr.out y0
          replace y1 := cell_below HBr.out y1
          replace y2 := cell_below HBr.out y2
          replace y3 := cell_below HBr.out y3
          replace HB1 := Lib.hid (below_trans' HB1.out HBr.out)
          clear HBr HO HDj hc9
          rename World => w1
          have Hc := Lib.hid (HEnc.out A9 c9 w1 HI9.out HC9.out)
          go_wp2_with fail
          refine Hc.out.mono ?_
          rintro e w2 ⟨v, rfl, rfl, hb⟩
          have HB2 := Lib.hid (below_trans' HB1.out hb)
          replace HT := Lib.hid (HT.out.below hb)
          replace HI := Lib.hid (HI.out.below hb)
          replace HI9 := Lib.hid (HI9.out.below hb)
          replace y0 := cell_below hb y0
          replace y1 := cell_below hb y1
          replace y2 := cell_below hb y2
          replace y3 := cell_below hb y3
          clear hb Hc HB1
          have Hc := Lib.hid (HDec.out w2)
          go_wp2_with fail
          refine Hc.out.mono ?_
          rintro e w3 ⟨v, rfl, ⟨A10, c10, rfl, g10, h10⟩, hb⟩
          have HB3 := Lib.hid (below_trans' HB2.out hb)
          replace HT := Lib.hid (HT.out.below hb)
          replace HI := Lib.hid (HI.out.below hb)
          replace HI9 := Lib.hid (HI9.out.below hb)
          replace y0 := cell_below hb y0
          replace y1 := cell_below hb y1
          replace y2 := cell_below hb y2
          replace y3 := cell_below hb y3
          clear hb Hc HB2
          have HI10 := Lib.hid h10
          clear h10 g10
          have Hc := Lib.hid (longs_same A10 A9 c10 c9 D w3 HI10.out HI9.out (by have := HDl.out; omega))
          go_wp2_with fail
          refine Hc.out.mono ?_
          rintro e w4 ⟨v, rfl, rfl, hb⟩
          have HB4 := Lib.hid (below_trans' HB3.out hb)
          replace HT := Lib.hid (HT.out.below hb)
          replace HI := Lib.hid (HI.out.below hb)
          replace HI9 := Lib.hid (HI9.out.below hb)
          replace HI10 := Lib.hid (HI10.out.below hb)
          replace y0 := cell_below hb y0
          replace y1 := cell_below hb y1
          replace y2 := cell_below hb y2
          replace y3 := cell_below hb y3
          clear hb Hc HB3
          clear HI9 HI10 HEnc HDec
          have Hc := Lib.hid (HLn.out w4 HT.out)
          go_wp2_with fail
          refine Hc.out.mono ?_
          rintro e w5 ⟨v, rfl, rfl, hb⟩
          have HB5 := Lib.hid (below_trans' HB4.out hb)
          replace HT := Lib.hid (HT.out.below hb)
          replace HI := Lib.hid (HI.out.below hb)
          replace y0 := cell_below hb y0
          replace y1 := cell_below hb y1
          replace y2 := cell_below hb y2
          replace y3 := cell_below hb y3
          clear hb Hc HB4
          obtain ⟨q1, hq1⟩ : ∃ q1, (le == 0) = q1 := ⟨_, rfl⟩
          go_upto_if 95 with fail
          go_cut [] (fun wx => Hid (Below w5.heap.size w5 wx))
          case first =>
            have HB5 := Lib.hid (Below.refl w5.heap.size w5)
            cases q1 with
            | false =>
              go_wp2_with fail
              go_meet
              case rel => exact HB5
            | true =>
              have Hc := Lib.hid (HPb.out hq1 w5 HT.out)
              go_wp2_with fail
              refine Hc.out.mono ?_
              rintro e w6 ⟨v, rfl, rfl, hb⟩
              have HB6 := Lib.hid (below_trans' HB5.out hb)
              replace HT := Lib.hid (HT.out.below hb)
              replace HI := Lib.hid (HI.out.below hb)
              replace y0 := cell_below hb y0
              replace y1 := cell_below hb y1
              replace y2 := cell_below hb y2
              replace y3 := cell_below hb y3
              clear hb Hc HB5
              have hX := heap_alloc_new w6 (.cells #[.int .i64 k, .int .i64 a, .int .i64 b, .int .i64 c] 36)
              have hb := below_alloc' (Below.refl w6.heap.size w6) (.cells #[.int .i64 k, .int .i64 a, .int .i64 b, .int .i64 c] 36)
              go_upto_region 15 with fail
              have HB7 := Lib.hid (below_trans' HB6.out hb)
              replace HT := Lib.hid (HT.out.below hb)
              replace HI := Lib.hid (HI.out.below hb)
              replace y0 := cell_below hb y0
              replace y1 := cell_below hb y1
              replace y2 := cell_below hb y2
              replace y3 := cell_below hb y3
              clear hb HB6
              generalize w6.alloc (.cells #[.int .i64 k, .int .i64 a, .int .i64 b, .int .i64 c] 36) = w7 at *
              generalize w6.heap.size = X7 at *
              have x0 : w7.cell? ⟨X7, 0, none⟩ = some (.int .i64 k) := (blk_cell hX).trans rfl
              have x1 : w7.cell? ⟨X7, 1, none⟩ = some (.int .i64 a) := (blk_cell hX).trans rfl
              have x2 : w7.cell? ⟨X7, 2, none⟩ = some (.int .i64 b) := (blk_cell hX).trans rfl
              have x3 : w7.cell? ⟨X7, 3, none⟩ = some (.int .i64 c) := (blk_cell hX).trans rfl
              clear hX
              go_wp2_with fail
              go_meet
              case rel => exact HB7
          case rest =>
            have hb := hcut.out
            clear hcut
            rename World => w6
            have HB6 := Lib.hid (below_trans' HB5.out hb)
            replace HT := Lib.hid (HT.out.below hb)
            replace HI := Lib.hid (HI.out.below hb)
            replace y0 := cell_below hb y0
            replace y1 := cell_below hb y1
            replace y2 := cell_below hb y2
            replace y3 := cell_below hb y3
            clear hb HB5 hq1
            clear HLn HPb y0 y1 y2 y3
            have Hc := Lib.hid (HLi.out w6 HT.out HI.out)
            go_wp2_with fail
            refine Hc.out.mono ?_
            rintro e w7 ⟨v, rfl, rfl, hb⟩
            have HB7 := Lib.hid (below_trans' HB6.out hb)
            replace HT := Lib.hid (HT.out.below hb)
            replace HI := Lib.hid (HI.out.below hb)
            clear hb Hc HB6
            obtain ⟨q2, hq2⟩ : ∃ q2, (se == 0) = q2 := ⟨_, rfl⟩
            go_upto_if 114 with fail
            go_cut [] (fun wx => Hid (Below w7.heap.size w7 wx))
            case first =>
              have HB7 := Lib.hid (Below.refl w7.heap.size w7)
              cases q2 with
              | false =>
                go_wp2_with fail
                go_meet
                case rel => exact HB7
              | true =>
                have Hc := Lib.hid (HRb.out hq2 w7 HT.out)
                go_wp2_with fail
                refine Hc.out.mono ?_
                rintro e w8 ⟨v, rfl, ⟨A11, c11, rfl, g11, h11⟩, hb⟩
                have HB8 := Lib.hid (below_trans' HB7.out hb)
                replace HT := Lib.hid (HT.out.below hb)
                replace HI := Lib.hid (HI.out.below hb)
                clear hb Hc HB7
                have HI11 := Lib.hid h11
                clear h11 g11
                have Hc := Lib.hid (items_same A11 A3 c11 c3 it w8 HI11.out HI.out (by have := HN.out; omega))
                go_wp2_with fail
                refine Hc.out.mono ?_
                rintro e w9 ⟨v, rfl, rfl, hb⟩
                have HB9 := Lib.hid (below_trans' HB8.out hb)
                replace HT := Lib.hid (HT.out.below hb)
                replace HI := Lib.hid (HI.out.below hb)
                replace HI11 := Lib.hid (HI11.out.below hb)
                clear hb Hc HB8
                go_wp2_with fail
                go_meet
                case rel => exact HB9
            case rest =>
              have hb := hcut.out
              clear hcut
              rename World => w8
              have HB8 := Lib.hid (below_trans' HB7.out hb)
              replace HT := Lib.hid (HT.out.below hb)
              replace HI := Lib.hid (HI.out.below hb)
              clear hb HB7 hq2
              clear HLi HRb
              have Hc := Lib.hid (HDt.out w8)
              go_wp2_with fail
              refine Hc.out.mono ?_
              rintro e w9 ⟨v, rfl, ⟨A12, c12, rfl, g12, h12⟩, hb⟩
              have HB9 := Lib.hid (below_trans' HB8.out hb)
              replace HT := Lib.hid (HT.out.below hb)
              replace HI := Lib.hid (HI.out.below hb)
              clear hb Hc HB8
              have HI12 := Lib.hid h12
              have HC12 := Lib.hid g12
              clear h12 g12
              obtain ⟨q3, hq3⟩ : ∃ q3, (ze == 0) = q3 := ⟨_, rfl⟩
              go_upto_if 134 with fail
              go_cut [] (fun wx => Hid (Below w9.heap.size w9 wx))
              case first =>
                have HB9 := Lib.hid (Below.refl w9.heap.size w9)
                cases q3 with
                | false =>
                  go_wp2_with fail
                  go_meet
                  case rel => exact HB9
                | true =>
                  have Hc := Lib.hid (HEb.out hq3 A12 c12 w9 HI12.out HC12.out)
                  go_wp2_with fail
                  refine Hc.out.mono ?_
                  rintro e w10 ⟨v, rfl, rfl, hb⟩
                  have HB10 := Lib.hid (below_trans' HB9.out hb)
                  replace HT := Lib.hid (HT.out.below hb)
                  replace HI := Lib.hid (HI.out.below hb)
                  replace HI12 := Lib.hid (HI12.out.below hb)
                  clear hb Hc HB9
                  go_wp2_with fail
                  go_meet
                  case rel => exact HB10
              case rest =>
                have hb := hcut.out
                clear hcut
                rename World => w10
                have HB10 := Lib.hid (below_trans' HB9.out hb)
                replace HT := Lib.hid (HT.out.below hb)
                replace HI := Lib.hid (HI.out.below hb)
                replace HI12 := Lib.hid (HI12.out.below hb)
                clear hb HB9 hq3
                clear HDt HEb HI12
                have Hc := Lib.hid (HPt.out w10 HT.out)
                go_wp2_with fail
                refine Hc.out.mono ?_
                rintro e w11 ⟨v, rfl, rfl, hb⟩
                have HB11 := Lib.hid (below_trans' HB10.out hb)
                replace HT := Lib.hid (HT.out.below hb)
                replace HI := Lib.hid (HI.out.below hb)
                clear hb Hc HB10
                have hX := heap_alloc_new w11 (.cells #[.int .i64 p1, .int .i64 p2, .int .i64 p3, .int .i64 p4] 36)
                have hb := below_alloc' (Below.refl w11.heap.size w11) (.cells #[.int .i64 p1, .int .i64 p2, .int .i64 p3, .int .i64 p4] 36)
                go_upto_region 28 with fail
                have HB12 := Lib.hid (below_trans' HB11.out hb)
                replace HT := Lib.hid (HT.out.below hb)
                replace HI := Lib.hid (HI.out.below hb)
                clear hb HB11
                generalize w11.alloc (.cells #[.int .i64 p1, .int .i64 p2, .int .i64 p3, .int .i64 p4] 36) = w12 at *
                generalize w11.heap.size = X12 at *
                have x0 : w12.cell? ⟨X12, 0, none⟩ = some (.int .i64 p1) := (blk_cell hX).trans rfl
                have x1 : w12.cell? ⟨X12, 1, none⟩ = some (.int .i64 p2) := (blk_cell hX).trans rfl
                have x2 : w12.cell? ⟨X12, 2, none⟩ = some (.int .i64 p3) := (blk_cell hX).trans rfl
                have x3 : w12.cell? ⟨X12, 3, none⟩ = some (.int .i64 p4) := (blk_cell hX).trans rfl
                clear hX
                obtain ⟨q4, hq4⟩ : ∃ q4, (pe == 0) = q4 := ⟨_, rfl⟩
                go_upto_if 153 with fail
                go_cut [] (fun wx => Hid (Below w12.heap.size w12 wx))
                case first =>
                  have HB12 := Lib.hid (Below.refl w12.heap.size w12)
                  cases q4 with
                  | false =>
                    go_wp2_with fail
                    go_meet
                    case rel => exact HB12
                  | true =>
                    have Hc := Lib.hid (HLb.out hq4 w12 HT.out)
                    go_wp2_with fail
                    refine Hc.out.mono ?_
                    rintro e w13 ⟨v, rfl, rfl, hb⟩
                    have HB13 := Lib.hid (below_trans' HB12.out hb)
                    replace HT := Lib.hid (HT.out.below hb)
                    replace HI := Lib.hid (HI.out.below hb)
                    replace x0 := cell_below hb x0
                    replace x1 := cell_below hb x1
                    replace x2 := cell_below hb x2
                    replace x3 := cell_below hb x3
                    clear hb Hc HB12
                    go_wp2_with fail
                    go_meet
                    case rel => exact HB13
                case rest =>
                  have hb := hcut.out
                  clear hcut
                  rename World => w13
                  have HB13 := Lib.hid (below_trans' HB12.out hb)
                  replace HT := Lib.hid (HT.out.below hb)
                  replace HI := Lib.hid (HI.out.below hb)
                  replace x0 := cell_below hb x0
                  replace x1 := cell_below hb x1
                  replace x2 := cell_below hb x2
                  replace x3 := cell_below hb x3
                  clear hb HB12 hq4
                  clear HPt HLb x0 x1 x2 x3
                  have Hc := Lib.hid (HRt.out w13 HT.out)
                  go_wp2_with fail
                  refine Hc.out.mono ?_
                  rintro e w14 ⟨v, rfl, ⟨A13, c13, rfl, g13, h13⟩, hb⟩
                  have HB14 := Lib.hid (below_trans' HB13.out hb)
                  replace HT := Lib.hid (HT.out.below hb)
                  replace HI := Lib.hid (HI.out.below hb)
                  clear hb Hc HB13
                  have HI13 := Lib.hid h13
                  have HC13 := Lib.hid g13
                  clear h13 g13
                  obtain ⟨q5, hq5⟩ : ∃ q5, (re == 0) = q5 := ⟨_, rfl⟩
                  go_upto_if 172 with fail
                  go_cut [] (fun wx => Hid (Below w14.heap.size w14 wx))
                  case first =>
                    have HB14 := Lib.hid (Below.refl w14.heap.size w14)
                    cases q5 with
                    | false =>
                      go_wp2_with fail
                      go_meet
                      case rel => exact HB14
                    | true =>
                      have Hc := Lib.hid (HLc.out hq5 A13 c13 w14 HT.out HI13.out HC13.out)
                      go_wp2_with fail
                      refine Hc.out.mono ?_
                      rintro e w15 ⟨v, rfl, rfl, hb⟩
                      have HB15 := Lib.hid (below_trans' HB14.out hb)
                      replace HT := Lib.hid (HT.out.below hb)
                      replace HI := Lib.hid (HI.out.below hb)
                      replace HI13 := Lib.hid (HI13.out.below hb)
                      clear hb Hc HB14
                      go_wp2_with fail
                      go_meet
                      case rel => exact HB15
                  case rest =>
                    have hb := hcut.out
                    clear hcut
                    rename World => w15
                    have HB15 := Lib.hid (below_trans' HB14.out hb)
                    replace HT := Lib.hid (HT.out.below hb)
                    replace HI := Lib.hid (HI.out.below hb)
                    replace HI13 := Lib.hid (HI13.out.below hb)
                    clear hb HB14 hq5
                    go_wp2_with fail
                    refine (works_any _ HT.out).mono ?_
                    rintro e wz ⟨v, rfl, rfl, hBz⟩
                    go_wp2
                    go_ret
                    exact Ret.mk ⟨rfl, below_trans' HB15.out hBz⟩
end Go.Proofs.YtkpmmgeffbhngaaGreatDoor
namespace Go.Proofs.YtkpmmgeffbhngaaGreatDoor
open Go.ChangeShapes Go.WideShapes Go.ChangeAt Go.RowKit
set_option maxRecDepth 100000 in
theorem protocolWritten_lifted (os : Os) (started : os.Started) (H : Type) (enc : TypeId × Value → H) :
    ReturnsInHanded {} Tryz.checked os 11 .any (fun w args => (Rows.protocolWrittenSpec.pre enc Tryz.prog Tryz.f11 [] false w args ∧ laidMetH Tryz.prog laidT w) ∧ sizedMet enc Tryz.prog Tryz.f11 (OpenSpec.ofChange Rows.protocolWrittenSpec) false w args)
      (Rows.protocolWrittenSpec.post enc Tryz.prog Tryz.f11 false true false false) := by
  refine returnsInHanded_and_shaped (C := Tryz.checked) (X := fun w _ => laidMetH Tryz.prog laidT w) (fun _ _ _ hh h => h.of_heap hh) Tryz.own started (by kernel_rfl) Tryz.func11
    (ChangeSpec.witness_shaped (enc := enc) (C := Tryz.checked) (os := os) (X := fun w _ => laidMetH Tryz.prog laidT w) false (World.laidAll Tryz.prog os laidT) #[.slice none 0 0, .string ⟨#[]⟩, .agg #[.int .i64 0, .int .i64 0, .int .i64 0, .int .i64 0], .slice none 0 0] 8 (World.laidAll_os _ _ _) (laid_shaped os _) (by kernel_rfl) (by kernel_rfl) (by kernel_rfl) (laid_met os _)) ?_
  intro W base args ds gs before hval0 hW hL hsh
  have hval : ∀ (j : Nat) t v, Tryz.f11.params[j]? = some t → args[j]? = some v → Value.okWide Tryz.prog W .any base t v := hval0
  have hW' := hW
  have hlt : ∀ p ∈ before, p.block < W.heap.size := fun p hp => hW.lt p hp
  obtain ⟨p, q, hA0, hV, rfl, hfz, hnd⟩ := hW
  have hA : DataW.TrodAll enc Tryz.prog W 0 (fun _ => true) true Tryz.f11.params.toList args.toList ds p := hA0
  rw [Tryz.params11] at hA hval
  have hA1 := hA
  have hT := of_laid hL hsh
  obtain ⟨v0, v1, v2, v3, d0, d1, d2, d3, p0, p1, p2, p3, rfl, rfl, rfl, h0, h1, h2, h3⟩ := trodAll_four hA
  obtain ⟨rfl, rfl⟩ := trodVars_none hV
  obtain ⟨A0, l0, c0, rfl, hc0, hm0, hl0, wl0⟩ := openK Tryz.underlying63 Tryz.underlying64 Tryz.cellsHp (hval 0 63 v0 rfl rfl) h0
  obtain ⟨s1, rfl, rfl, rfl, ws1⟩ := Go.ChangeMaps.open_string Tryz.underlying9 (hval 1 9 v1 rfl rfl) h1
  obtain ⟨l, rfl⟩ : ∃ l, s1 = bs l := ⟨_, bs_of s1⟩
  obtain ⟨k, a, b, c, rfl, wk, wa, wb, wc⟩ := openCard (hval 2 36 v2 rfl rfl) h2
  obtain ⟨A3, l3, c3, rfl, hc3, hm3, hl3, wl3⟩ := openItems (hval 3 44 v3 rfl rfl) h3
  refine (protocolWritten_any A0 c0 l0 l k a b c A3 c3 l3 W hT hl0 (fun x hx => by have := Go.bounds_u16 (wl0 x hx); omega) hl3 hc3).mono fun e W' he => ?_
  obtain ⟨v, rfl, rfl, hB⟩ := he
  exact ⟨_, rfl, post_of_below (pa := _) (pv := []) hW' (fun b sp hd => trodAll_mk1 (resTrue b sp hd W')) (fun sp hsp => all_again' hB (by kernel_rfl) hA1 (fun x hx => hlt x (by simpa using hx)) (fun x hx => hsp x (by simpa using hx))) (fun _ _ => rfl) rfl hB (ok_one (by kernel_rfl) rfl (okWide_bool_mk Tryz.underlying4 true))⟩
theorem protocolWritten_p : (Rows.protocolWrittenRow.inPlace == Tryz.prog.inPlace 11) = true := by kernel_rfl
theorem protocolWritten_u : (Rows.protocolWrittenRow.unfollowed == Tryz.prog.unfollowed 11) = true := by kernel_rfl
theorem protocolWritten_r : (Rows.protocolWrittenRow.recurses == Tryz.prog.recurses 11) = true := by kernel_rfl
theorem protocolWritten_n : (Rows.protocolWrittenRow.named == Tryz.prog.varsNamed 11) = true := by kernel_rfl
theorem protocolWritten_row : Rows.ProtocolWrittenSaid :=
  OpenClaim.holds_of_wide 11 Tryz.f11 rfl rfl rfl rfl rfl rfl rfl ⟨rfl, rfl, rfl, rfl, rfl⟩ rfl rfl rfl rfl rfl (by kernel_rfl) Tryz.func11
    (joined_of (by kernel_rfl) (by kernel_rfl) (by kernel_rfl) rfl rfl protocolWritten_p protocolWritten_u protocolWritten_r protocolWritten_n (by kernel_rfl) (by kernel_rfl) (by kernel_rfl) (by kernel_rfl) (by kernel_rfl) (by kernel_rfl) (by kernel_rfl) (by kernel_rfl) (by kernel_rfl) (by kernel_rfl) rfl rfl rfl (by kernel_rfl) (by kernel_rfl) (by kernel_rfl) (by kernel_rfl))
    (of_decide_eq_true (by kernel_rfl)) (by unfold Func.isWrapper; first | (rw [if_pos (by decide +kernel)]; kernel_rfl) | (rw [if_neg (by decide +kernel)]; exact ⟨rfl, rfl⟩))
    (fun os started H enc _ => protocolWritten_lifted os started H enc)
theorem protocolWritten_holds : Rows.ProtocolWrittenCardSaid :=
  Claim7.holds_tied_plain_at .later [] [.data, .data, .data, .data, .sentinel, .sentinel, .pinned] true (true, "056ceee57fb0345663cf018f0cf66ba5b95e362946dcabdfc5afb17e57de19a5") true
    protocolWritten_row (fun _ h => by cases h) (by kernel_rfl) (fun _ h => by cases h) protocolWritten_row_tie rfl ⟨rfl, rfl⟩ (by kernel_rfl) rfl
    (no_stand (show Tryz.prog.funcNamed "mandrel/mandrellaw12.ProtocolWritten" = some 11 by kernel_rfl) Tryz.func11 Tryz.jlooks (by kernel_rfl))
    (by kernel_rfl)
end Go.Proofs.YtkpmmgeffbhngaaGreatDoor
