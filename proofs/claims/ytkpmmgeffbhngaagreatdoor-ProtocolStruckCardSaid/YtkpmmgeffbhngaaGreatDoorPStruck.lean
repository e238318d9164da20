/- ProtocolStruck is true for every input: a strike of the last line leads back to what was before it. The package variables of the library are tied to the program's text by the given tie. -/
import Derived.Test.YtkpmmgeffbhngaaGreatDoorC11
import Derived.Test.YtkpmmgeffbhngaaGreatDoorC43
import Derived.Test.YtkpmmgeffbhngaaGreatDoorC44
import Derived.Test.YtkpmmgeffbhngaaGreatDoorC45
import Derived.Test.YtkpmmgeffbhngaaGreatDoorCards
import Derived.Test.YtkpmmgeffbhngaaGreatDoorTie
set_option linter.unusedSimpArgs false
set_option linter.unusedVariables false
set_option linter.unnecessarySimpa false
namespace Prot
end Prot
namespace Go.Shelf
end Go.Shelf
namespace Go.Maps
end Go.Maps
namespace Prot
open Go.Lib
theorem lineV_of {c : Card} {w : List UInt8} {ms : List Nat} (h1 : shapeL c.1 = some (w, ms)) (h2 : numsOk (numsOf c) ms = true) : lineV c = (joinSp (wordsOf w (numsOf c) ms.length), 0) := by
  unfold lineV
  rw [h1]
  dsimp only
  rw [if_pos h2]
end Prot
namespace Prot
theorem fair_snoc_zero {ls : List (List UInt8)} {cs : List Card} (h : cs.length = ls.length) (l : List UInt8) : fairL (ls ++ [l]) (cs ++ [zeroC]) = fairL ls cs := by
  unfold fairL
  rw [List.zip_append h.symm, List.filter_append, List.map_append]
  simp
/-- a strike of a line that does not count is refused -/
theorem strike_dead {s : St} {l : List UInt8} {a : Int} (hl : parseV l = ((7, a, 0, 0), 0)) (hd : s.cards.getD (a - 1).toNat zeroC = zeroC) : stepV s l = ⟨s.errs ++ [3], s.cards ++ [zeroC], s.jn⟩ := by
  unfold stepV
  rw [hl]
  dsimp only
  rw [if_neg (by simp), if_pos rfl]
  unfold strikeV
  rw [if_pos (fun k => k.2.2 hd)]
/-- a strike of the last line, where that counts: as it was before it -/
theorem strike_last {ls : List (List UInt8)} {s : St} (h : StOk ls s) {l k : List UInt8} {c : Card} (hl : parseV l = (c, 0)) (h7 : c.1 ≠ 7) (hd : (doV s.jn c).2 = 0) (hk : parseV k = ((7, (ls.length : Int) + 1, 0, 0), 0)) :
    stepV (stepV s l) k = ⟨s.errs ++ [0] ++ [0], s.cards ++ [zeroC] ++ [zeroC], s.jn⟩ := by
  have hc : CardOk c := by have := parse_card (l := l) (by rw [hl]); rw [hl] at this; exact this
  have e1 : stepV s l = ⟨s.errs ++ [0], s.cards ++ [c], (doV s.jn c).1⟩ := by
    unfold stepV
    rw [hl]
    dsimp only
    rw [if_neg (by simp), if_neg h7, if_neg (by simpa using hd)]
  rw [e1]
  unfold stepV
  rw [hk]
  dsimp only
  rw [if_neg (by simp), if_pos rfl]
  unfold strikeV
  have ea : ((ls.length : Int) + 1 - 1).toNat = s.cards.length := by rw [h.len]; omega
  dsimp only
  rw [ea]
  have hb : butC (s.cards ++ [c]) s.cards.length = s.cards ++ [zeroC] := by
    unfold butC
    rw [List.set_append_right _ _ (Nat.le_refl _)]; simp
  rw [if_neg (fun q => q ⟨by omega, by simp, by rw [getD_snoc_eq]; exact hc.ne⟩), hb, liveC_zero, h.jn]
end Prot
namespace Go.Proofs.YtkpmmgeffbhngaaGreatDoor
open Go.RowKit Prot Go.Lib Go.Maps
def cardsT (cs : List Card) : List UInt8 := cs.flatMap fun c => if (lineV c).2 = 0 then (lineV c).1 ++ [10] else []
theorem cardsT_next {cs : List Card} {k : Nat} (hk : k < cs.length) : cardsT (cs.take (k + 1)) = cardsT (cs.take k) ++ if (lineV cs[k]).2 = 0 then (lineV cs[k]).1 ++ [10] else [] := by
  unfold cardsT
  rw [List.take_succ_eq_append_getElem hk, List.flatMap_append]
  simp
theorem cardsT_len (cs : List Card) : (cardsT cs).length ≤ cs.length * 61 := by
  induction cs with
  | nil => exact Nat.le_refl _
  | cons c cs ih =>
    have e : cardsT (c :: cs) = (if (lineV c).2 = 0 then (lineV c).1 ++ [10] else []) ++ cardsT cs := rfl
    rw [e, List.length_append, List.length_cons, Nat.succ_mul]
    have h2 : (if (lineV c).2 = 0 then (lineV c).1 ++ [10] else []).length ≤ 61 := by
      split
      · rename_i h
        have := line_len (c := c) (l := (lineV c).1) (by rw [← h])
        simp only [List.length_append, List.length_cons, List.length_nil]; omega
      · simp
    omega
set_option maxRecDepth 100000 in
set_option maxHeartbeats 1000000 in
theorem Text_any (A : Option Addr) (ca : Nat) (cs : List Card) (w : World) (hl : CardsAt w A cs) (hn : cs.length ≤ 1000000) :
    Calls Tryz.prog 45 #[.slice A cs.length ca] w (Ret fun v w' => v = .string (bs (cardsT cs)) ∧ Below w.heap.size w w') := by
  have Hl := Lib.hid hl
  clear hl
  go_enter Tryz.func45, Tryz.ntmps45
  go_wp2
  go_loopw [3, 4] (fun o i wr => ∃ k : Nat, k ≤ cs.length ∧ i = .int .i64 k ∧ o = .string (bs (cardsT (cs.take k))) ∧ Hid (Below w.heap.size w wr)) (fun _ i _ => cs.length - (intOf i).toNat)
  case atStart => exact ⟨0, Nat.zero_le _, rfl, rfl, Lib.hid (Below.refl _ _)⟩
  case round =>
    obtain ⟨k, hk, rfl, rfl, HB⟩ := hrel
    by_cases hkl : k < cs.length
    · obtain ⟨b1, o1, rfl, g0, g1, g2, g3⟩ := (CardsAt.below Hl.out HB.out).at_ hkl
      have t2 : decide ((k : Int) < (cs.length : Int)) = true := decide_eq_true (by omega)
      have k0 : (0 : Int) ≤ (k : Int) := by omega
      have k1 : (k : Int) < (cs.length : Int) := by omega
      have f8 : IntKind.i64.wrap ((k : Int) + 1) = (k : Int) + 1 := IntWalk.i64_in _ (by omega)
      have HN := Lib.hid (cardsT_next hkl)
      have HC := Lib.hid (rLine_any cs[k] wr)
      have hL1 : (cardsT (cs.take k)).length ≤ 61000000 := Nat.le_trans (cardsT_len _) (by rw [List.length_take]; omega)
      have hL2 : (lineV cs[k]).2 = 0 → (lineV cs[k]).1.length ≤ 60 := fun h => line_len (c := cs[k]) (by rw [← h])
      generalize cs[k] = c at *
      obtain ⟨c1, c2, c3, c4⟩ := c
      dsimp only at g0 g1 g2 g3
      generalize cardsT (cs.take k) = o at *
      unfold lineT at HC
      generalize lineV (c1, c2, c3, c4) = le at *
      obtain ⟨ln, er⟩ := le
      dsimp only at HN
      go_wp2_with fail
      refine HC.out.mono ?_
      rintro _ w1 ⟨v, rfl, rfl, hB1⟩
      have HB1 := Lib.hid (below_trans' HB.out hB1)
      clear hB1 HC HB
      by_cases he : er = 0
      · rw [if_pos he] at HN
        subst he
        have hs1 : ¬ 9223372036854775807 < (bs ln).size + 1 := by rw [bs_size]; have := hL2 rfl; omega
        have hs2 : ¬ 9223372036854775807 < (bs o).size + ((bs ln).size + 1) := by rw [bs_size, bs_size]; have := hL2 rfl; omega
        have HE : Hid (Value.string (bs o ++ (bs ln ++ { data := #[10] })) = .string (bs (o ++ (ln ++ [10])))) := Lib.hid (by
          rw [show ({ data := #[10] } : ByteArray) = bs [10] from rfl, bs_append, bs_append])
        clear hL1 hL2
        go_wp2
        go_roundw
        case rel => exact ⟨k + 1, by omega, by go_num, by rw [HN.out]; exact HE.out, HB1⟩
        case measure => simp [intOf]; omega
      · have t1 : (er == 0) = false := by simpa using he
        rw [if_neg he, List.append_nil] at HN
        have t3 : decide (er = 0) = false := decide_eq_false he
        go_wp2
        go_roundw
        case rel => exact ⟨k + 1, by omega, by go_num, by rw [HN.out], HB1⟩
        case measure => simp [intOf]; omega
    · have HV : Hid (cardsT (cs.take k) = cardsT cs) := Lib.hid (by rw [List.take_of_length_le (by omega)])
      have f1 : ¬ (k : Int) < (cs.length : Int) := by omega
      go_wp2
      go_ret
      exact Ret.mk ⟨by rw [HV.out]; rfl, HB.out⟩
end Go.Proofs.YtkpmmgeffbhngaaGreatDoor
namespace Prot
open Go.Lib
theorem stateA_lines {ls : List (List UInt8)} (h : ∀ l ∈ ls, NoNl l) (hn : ls.length ≤ 60) (hl : (textL ls).length ≤ 65536) : stateA (textL ls) = (toldL (runV ls).jn.items, 0) := by
  unfold stateA
  rw [if_neg (fun k => k (lines_err h hn hl)), rows_of h]
theorem fairA_lines {ls : List (List UInt8)} (h : ∀ l ∈ ls, NoNl l) (hn : ls.length ≤ 60) (hl : (textL ls).length ≤ 65536) : fairA (textL ls) = (textL (fairL ls (runV ls).cards), 0) := by
  unfold fairA
  rw [if_neg (fun k => k (lines_err h hn hl)), rows_of h]
section
variable {t : List UInt8} (h : textErr t = 0)
include h
end
theorem line_nl {c : Card} {l : List UInt8} (h : lineV c = (l, 0)) : NoNl l := by
  obtain ⟨w, ms, h1, h2, rfl⟩ := lineV_ok h
  exact joinSp_nl (wordsOf_sp h1 _ _)
theorem strike_line {n : Nat} (h1 : 1 ≤ n) (h2 : n ≤ 60) : ∃ k, lineV (7, (n : Int), 0, 0) = (k, 0) := by
  refine ⟨_, lineV_of (w := [115, 116, 114, 105, 107, 101]) (ms := [60]) rfl ?_⟩
  simp [numsOf, numsOk]
  omega
theorem struck {ls : List (List UInt8)} {c : Card} {l k : List UInt8} (hl : lineV c = (l, 0)) (h7 : c.1 ≠ 7) (hk : lineV (7, (ls.length : Int) + 1, 0, 0) = (k, 0)) :
    ∃ e1 e2 : Int, (runV (ls ++ [l])).errs = (runV ls).errs ++ [e1] ∧ runV (ls ++ [l] ++ [k]) = ⟨(runV ls).errs ++ [e1] ++ [e2], (runV ls).cards ++ [zeroC] ++ [zeroC], (runV ls).jn⟩ ∧
      (runV (ls ++ [l] ++ [k] ++ [k])).errs = (runV ls).errs ++ [e1] ++ [e2] ++ [3] ∧ (e1 = 0 → e2 = 0) ∧ (e1 ≠ 0 → e2 = 3) := by
  have hok := runV_ok ls
  have hpl : parseV l = (c, 0) := parse_line numW_P hl
  have hpk : parseV k = ((7, (ls.length : Int) + 1, 0, 0), 0) := parse_line numW_P hk
  have third : ∀ (e1 e2 : Int), runV (ls ++ [l] ++ [k]) = ⟨(runV ls).errs ++ [e1] ++ [e2], (runV ls).cards ++ [zeroC] ++ [zeroC], (runV ls).jn⟩ → (runV (ls ++ [l] ++ [k] ++ [k])).errs = (runV ls).errs ++ [e1] ++ [e2] ++ [3] := fun e1 e2 h => by
    rw [runV_snoc, h, strike_dead hpk]
    have ea : ((ls.length : Int) + 1 - 1).toNat = (runV ls).cards.length := by rw [hok.len]; omega
    dsimp only
    rw [ea, List.append_assoc, List.getD_eq_getElem?_getD, List.getElem?_append_right (Nat.le_refl _)]
    simp
  by_cases hd : (doV (runV ls).jn c).2 = 0
  · have h2 := strike_last hok hpl h7 hd hpk
    have h1 : (stepV (runV ls) l).errs = (runV ls).errs ++ [0] := by
      unfold stepV
      rw [hpl, if_neg (by simp), if_neg h7, if_neg (by simpa using hd)]
    have h3 : runV (ls ++ [l] ++ [k]) = ⟨(runV ls).errs ++ [0] ++ [0], (runV ls).cards ++ [zeroC] ++ [zeroC], (runV ls).jn⟩ := by rw [runV_snoc, runV_snoc, h2]
    exact ⟨0, 0, by rw [runV_snoc, h1], h3, third _ _ h3, fun _ => rfl, fun h => absurd rfl h⟩
  · have h1 : stepV (runV ls) l = ⟨(runV ls).errs ++ [(doV (runV ls).jn c).2], (runV ls).cards ++ [zeroC], (runV ls).jn⟩ := by
      unfold stepV
      rw [hpl, if_neg (by simp), if_neg h7, if_pos hd]
    have h3 : runV (ls ++ [l] ++ [k]) = ⟨(runV ls).errs ++ [(doV (runV ls).jn c).2] ++ [3], (runV ls).cards ++ [zeroC] ++ [zeroC], (runV ls).jn⟩ := by
      rw [runV_snoc, runV_snoc, h1, strike_dead hpk]
      have ea : ((ls.length : Int) + 1 - 1).toNat = (runV ls).cards.length := by rw [hok.len]; omega
      dsimp only
      rw [ea, List.getD_eq_getElem?_getD, List.getElem?_append_right (Nat.le_refl _)]
      simp
    exact ⟨_, 3, by rw [runV_snoc, h1], h3, third _ _ h3, fun h => absurd h hd, fun _ => rfl⟩
end Prot
namespace Prot
open Go.Lib
theorem textL_snoc (ls : List (List UInt8)) (x : List UInt8) : textL (ls ++ [x]) = textL ls ++ (x ++ [10]) := by
  rw [textL_append]
  congr 1
  unfold textL; simp
theorem line_len60 {c : Card} {l : List UInt8} (h : lineV c = (l, 0)) : l.length ≤ 60 := line_len h
theorem struck_text {l : List UInt8} (h : textErr l = 0) (hl : l.length ≤ 5000) {c : Card} {ln kl : List UInt8} (h1 : lineV c = (ln, 0)) (h7 : c.1 ≠ 7) (hn : (rowsL l).length ≤ 57) (hk : lineV (7, ((rowsL l).length : Int) + 1, 0, 0) = (kl, 0)) :
    ∃ (es : List Int) (e1 e2 : Int), es.length = (rowsL l).length ∧ runA (l ++ ln ++ [10]) = (es ++ [e1], 0) ∧ runA (l ++ ln ++ [10] ++ (kl ++ [10]) ++ (kl ++ [10])) = (es ++ [e1] ++ [e2] ++ [3], 0) ∧
      stateA (l ++ ln ++ [10] ++ (kl ++ [10])) = stateA l ∧ fairA (l ++ ln ++ [10] ++ (kl ++ [10])) = fairA l ∧ (e1 = 0 → e2 = 0) ∧ (e1 ≠ 0 → e2 = 3) := by
  have hen := (textErr_ok h).2.1
  have hok := runV_ok (rowsL l)
  obtain ⟨e1, e2, g1, g2, g3, g4, g5⟩ := struck h1 h7 hk
  have nl : ∀ x ∈ rowsL l, NoNl x := rows_nl l
  have n1 : NoNl ln := line_nl h1
  have nk : NoNl kl := line_nl hk
  have l1 := line_len60 h1
  have lk := line_len60 hk
  have nl1 : ∀ x ∈ rowsL l ++ [ln], NoNl x := fun x hx => by
    rcases List.mem_append.1 hx with hx | hx
    · exact nl x hx
    · rw [List.mem_singleton] at hx; rw [hx]; exact n1
  have nl2 : ∀ x ∈ rowsL l ++ [ln] ++ [kl], NoNl x := fun x hx => by
    rcases List.mem_append.1 hx with hx | hx
    · exact nl1 x hx
    · rw [List.mem_singleton] at hx; rw [hx]; exact nk
  have nl3 : ∀ x ∈ rowsL l ++ [ln] ++ [kl] ++ [kl], NoNl x := fun x hx => by
    rcases List.mem_append.1 hx with hx | hx
    · exact nl2 x hx
    · rw [List.mem_singleton] at hx; rw [hx]; exact nk
  have t1 : textL (rowsL l ++ [ln]) = l ++ ln ++ [10] := by rw [textL_snoc, text_rows hen, List.append_assoc]
  have t2 : textL (rowsL l ++ [ln] ++ [kl]) = l ++ ln ++ [10] ++ (kl ++ [10]) := by rw [textL_snoc, t1]
  have t3 : textL (rowsL l ++ [ln] ++ [kl] ++ [kl]) = l ++ ln ++ [10] ++ (kl ++ [10]) ++ (kl ++ [10]) := by rw [textL_snoc, t2]
  have s1 : (textL (rowsL l ++ [ln])).length ≤ 65536 := by rw [t1]; simp only [List.length_append, List.length_cons, List.length_nil]; omega
  have s2 : (textL (rowsL l ++ [ln] ++ [kl])).length ≤ 65536 := by rw [t2]; simp only [List.length_append, List.length_cons, List.length_nil]; omega
  have s3 : (textL (rowsL l ++ [ln] ++ [kl] ++ [kl])).length ≤ 65536 := by rw [t3]; simp only [List.length_append, List.length_cons, List.length_nil]; omega
  refine ⟨(runV (rowsL l)).errs, e1, e2, hok.errs, ?_, ?_, ?_, ?_, g4, g5⟩
  · rw [← t1, runA_lines nl1 (by simp; omega) s1, g1]
  · rw [← t3, runA_lines nl3 (by simp; omega) s3, g3]
  · rw [← t2, stateA_lines nl2 (by simp; omega) s2, g2, state_text h]
  · rw [← t2, fairA_lines nl2 (by simp; omega) s2, g2, fair_text h]
    dsimp only
    rw [fair_snoc_zero (by simp [hok.len]), fair_snoc_zero hok.len]
end Prot
namespace Go.Proofs.YtkpmmgeffbhngaaGreatDoor
open Go.RowKit Go.Shelf Prot Go.Lib Go.Maps
theorem exText (n : Int) (kl : List UInt8) (hk : lineV (7, n, 0, 0) = (kl, 0)) (w : World) : Calls Tryz.prog 45 #[.slice (some ⟨w.heap.size, 0, none⟩) 1 1] (w.alloc (.cells #[.int .i64 7, .int .i64 n, .int .i64 0, .int .i64 0] 36)) (Ret fun v w' => v = .string (bs (kl ++ [10])) ∧ Below w.heap.size w w') := by
  have hal := below_alloc' (Below.refl w.heap.size w) (.cells #[.int .i64 7, .int .i64 n, .int .i64 0, .int .i64 0] 36)
  refine (Text_any (some ⟨w.heap.size, 0, none⟩) 1 [(7, n, 0, 0)] _ (rows_new encCd_len _ _ _ _ rfl) (by simp)).mono ?_
  rintro _ w' ⟨v, rfl, rfl, hb⟩
  refine Ret.mk ⟨?_, below_trans' hal hb⟩
  unfold cardsT
  rw [List.flatMap_cons, List.flatMap_nil, hk, if_pos rfl, List.append_nil]
theorem ints_at {w : World} {A : Option Addr} {l : List Int} (h : IntsAt w A l) (h0 : 0 < l.length) : ∃ b off, A = some ⟨b, off, none⟩ ∧ ∀ i (hi : i < l.length), w.cell? ⟨b, off + i, none⟩ = some (.int .i64 l[i]) := by
  obtain ⟨b, off, rfl, _⟩ := h 0 h0
  refine ⟨b, off, rfl, fun i hi => ?_⟩
  obtain ⟨b', off', hA, hc⟩ := h i hi
  have hA2 := Option.some.inj hA
  injection hA2 with h1 h2
  subst h1; subst h2
  have := hc 0 _ rfl
  simpa using this
theorem ints_take {w : World} {A : Option Addr} {l : List Int} (h : IntsAt w A l) (n : Nat) : IntsAt w A (l.take n) := fun i hi => by
  rw [List.length_take] at hi
  obtain ⟨b, off, hA, hc⟩ := h i (by omega)
  exact ⟨b, off, hA, fun u v hv => hc u v (by rw [List.getElem_take] at hv; exact hv)⟩
set_option maxRecDepth 100000 in
set_option maxHeartbeats 4000000 in
theorem protocolStruck_any (l : List UInt8) (k a b c : Int) (w : World) (hT : Tab w) : Calls Tryz.prog 9 #[.string (bs l), vCard (k, a, b, c)] w (Ret fun v w' => v = .bool true ∧ Below w.heap.size w w') := by
  have HB0 := Lib.hid (Below.refl w.heap.size w)
  have HT := Lib.hid hT
  clear hT
  unfold vCard
  dsimp only
  obtain ⟨ln, er, hln⟩ : ∃ ln er, lineV (k, a, b, c) = (ln, er) := ⟨_, _, rfl⟩
  have HLn : Hid (∀ W, Calls Tryz.prog 26 #[.agg #[.int .i64 k, .int .i64 a, .int .i64 b, .int .i64 c]] W (Ret fun v w' => v = .tuple #[.string (bs ln), .int .i64 er] ∧ Below W.heap.size W w')) := Lib.hid fun W => by
    have := rLine_any (k, a, b, c) W
    unfold lineT at this
    rw [hln] at this
    exact this
  by_cases hf : l.length ≤ 5000 ∧ textErr l = 0
  rotate_left 1
  · clear hln
    go_enter Tryz.func9, Tryz.ntmps9
    have hX := heap_alloc_new w (.cells #[.int .i64 k, .int .i64 a, .int .i64 b, .int .i64 c] 36)
    have hb := below_alloc' (Below.refl w.heap.size w) (.cells #[.int .i64 k, .int .i64 a, .int .i64 b, .int .i64 c] 36)
    go_upto_region 1 with fail
    have HB1 := Lib.hid (below_trans' HB0.out hb)
    replace HT := Lib.hid (HT.out.below hb)
    clear hb HB0
    generalize w.alloc (.cells #[.int .i64 k, .int .i64 a, .int .i64 b, .int .i64 c] 36) = w1 at *
    have y0 : w1.cell? ⟨w.heap.size, 0, none⟩ = some (.int .i64 k) := (blk_cell hX).trans rfl
    have y1 : w1.cell? ⟨w.heap.size, 1, none⟩ = some (.int .i64 a) := (blk_cell hX).trans rfl
    have y2 : w1.cell? ⟨w.heap.size, 2, none⟩ = some (.int .i64 b) := (blk_cell hX).trans rfl
    have y3 : w1.cell? ⟨w.heap.size, 3, none⟩ = some (.int .i64 c) := (blk_cell hX).trans rfl
    clear hX
    have Hc := Lib.hid (HLn.out w1)
    go_wp2_with fail
    refine Hc.out.mono ?_
    rintro e w2 ⟨v, rfl, rfl, hb⟩
    have HB2 := Lib.hid (below_trans' HB1.out hb)
    replace HT := Lib.hid (HT.out.below hb)
    replace y0 := cell_below hb y0
    replace y1 := cell_below hb y1
    replace y2 := cell_below hb y2
    replace y3 := cell_below hb y3
    clear hb Hc HB1
    have Hc := Lib.hid (fine_no l hf w2)
    go_wp2_with fail
    refine Hc.out.mono ?_
    rintro e w3 ⟨v, rfl, rfl, hb⟩
    have HB3 := Lib.hid (below_trans' HB2.out hb)
    replace HT := Lib.hid (HT.out.below hb)
    replace y0 := cell_below hb y0
    replace y1 := cell_below hb y1
    replace y2 := cell_below hb y2
    replace y3 := cell_below hb y3
    clear hb Hc HB2
    go_wp2_with fail
    refine (works_any _ HT.out).mono ?_
    rintro e wz ⟨v, rfl, rfl, hBz⟩
    go_wp2
    go_ret
    exact Ret.mk ⟨rfl, below_trans' HB3.out hBz⟩
  obtain ⟨hf1, hf2⟩ := hf
  have HFi := Lib.hid (fine_yes l hf1 hf2)
  by_cases he : er = 0
  rotate_left 1
  · have t1 : (er != 0) = true := by simpa using he
    clear he hln hf1 hf2
    go_enter Tryz.func9, Tryz.ntmps9
    have hX := heap_alloc_new w (.cells #[.int .i64 k, .int .i64 a, .int .i64 b, .int .i64 c] 36)
    have hb := below_alloc' (Below.refl w.heap.size w) (.cells #[.int .i64 k, .int .i64 a, .int .i64 b, .int .i64 c] 36)
    go_upto_region 1 with fail
    have HB1 := Lib.hid (below_trans' HB0.out hb)
    replace HT := Lib.hid (HT.out.below hb)
    clear hb HB0
    generalize w.alloc (.cells #[.int .i64 k, .int .i64 a, .int .i64 b, .int .i64 c] 36) = w1 at *
    have y0 : w1.cell? ⟨w.heap.size, 0, none⟩ = some (.int .i64 k) := (blk_cell hX).trans rfl
    have y1 : w1.cell? ⟨w.heap.size, 1, none⟩ = some (.int .i64 a) := (blk_cell hX).trans rfl
    have y2 : w1.cell? ⟨w.heap.size, 2, none⟩ = some (.int .i64 b) := (blk_cell hX).trans rfl
    have y3 : w1.cell? ⟨w.heap.size, 3, none⟩ = some (.int .i64 c) := (blk_cell hX).trans rfl
    clear hX
    have Hc := Lib.hid (HLn.out w1)
    go_wp2_with fail
    refine Hc.out.mono ?_
    rintro e w2 ⟨v, rfl, rfl, hb⟩
    have HB2 := Lib.hid (below_trans' HB1.out hb)
    replace HT := Lib.hid (HT.out.below hb)
    replace y0 := cell_below hb y0
    replace y1 := cell_below hb y1
    replace y2 := cell_below hb y2
    replace y3 := cell_below hb y3
    clear hb Hc HB1
    have Hc := Lib.hid (HFi.out w2)
    go_wp2_with fail
    refine Hc.out.mono ?_
    rintro e w3 ⟨v, rfl, rfl, hb⟩
    have HB3 := Lib.hid (below_trans' HB2.out hb)
    replace HT := Lib.hid (HT.out.below hb)
    replace y0 := cell_below hb y0
    replace y1 := cell_below hb y1
    replace y2 := cell_below hb y2
    replace y3 := cell_below hb y3
    clear hb Hc HB2
    go_wp2_with fail
    refine (works_any _ HT.out).mono ?_
    rintro e wz ⟨v, rfl, rfl, hBz⟩
    go_wp2
    go_ret
    exact Ret.mk ⟨rfl, below_trans' HB3.out hBz⟩
  subst he
  by_cases h7 : k = 7
  · have t7 : (k == 7) = true := by simpa using h7
    clear h7 hln hf1 hf2
    go_enter Tryz.func9, Tryz.ntmps9
    have hX := heap_alloc_new w (.cells #[.int .i64 k, .int .i64 a, .int .i64 b, .int .i64 c] 36)
    have hb := below_alloc' (Below.refl w.heap.size w) (.cells #[.int .i64 k, .int .i64 a, .int .i64 b, .int .i64 c] 36)
    go_upto_region 1 with fail
    have HB1 := Lib.hid (below_trans' HB0.out hb)
    replace HT := Lib.hid (HT.out.below hb)
    clear hb HB0
    generalize w.alloc (.cells #[.int .i64 k, .int .i64 a, .int .i64 b, .int .i64 c] 36) = w1 at *
    have y0 : w1.cell? ⟨w.heap.size, 0, none⟩ = some (.int .i64 k) := (blk_cell hX).trans rfl
    have y1 : w1.cell? ⟨w.heap.size, 1, none⟩ = some (.int .i64 a) := (blk_cell hX).trans rfl
    have y2 : w1.cell? ⟨w.heap.size, 2, none⟩ = some (.int .i64 b) := (blk_cell hX).trans rfl
    have y3 : w1.cell? ⟨w.heap.size, 3, none⟩ = some (.int .i64 c) := (blk_cell hX).trans rfl
    clear hX
    have Hc := Lib.hid (HLn.out w1)
    go_wp2_with fail
    refine Hc.out.mono ?_
    rintro e w2 ⟨v, rfl, rfl, hb⟩
    have HB2 := Lib.hid (below_trans' HB1.out hb)
    replace HT := Lib.hid (HT.out.below hb)
    replace y0 := cell_below hb y0
    replace y1 := cell_below hb y1
    replace y2 := cell_below hb y2
    replace y3 := cell_below hb y3
    clear hb Hc HB1
    have Hc := Lib.hid (HFi.out w2)
    go_wp2_with fail
    refine Hc.out.mono ?_
    rintro e w3 ⟨v, rfl, rfl, hb⟩
    have HB3 := Lib.hid (below_trans' HB2.out hb)
    replace HT := Lib.hid (HT.out.below hb)
    replace y0 := cell_below hb y0
    replace y1 := cell_below hb y1
    replace y2 := cell_below hb y2
    replace y3 := cell_below hb y3
    clear hb Hc HB2
    go_wp2_with fail
    refine (works_any _ HT.out).mono ?_
    rintro e wz ⟨v, rfl, rfl, hBz⟩
    go_wp2
    go_ret
    exact Ret.mk ⟨rfl, below_trans' HB3.out hBz⟩
  have t7 : (k == 7) = false := by simpa using h7
  have HLi := Lib.hid (lines_ok l hf2)
  by_cases hn : 57 < (rowsL l).length
  · obtain ⟨n, hnn⟩ : ∃ n, (rowsL l).length = n := ⟨_, rfl⟩
    rw [hnn] at HLi hn
    have d1 : decide ((n : Int) > 57) = true := decide_eq_true (by omega)
    have d2 : decide ((57 : Int) < (n : Int)) = true := decide_eq_true (by omega)
    clear hn hnn hln hf1 hf2 h7
    go_enter Tryz.func9, Tryz.ntmps9
    have hX := heap_alloc_new w (.cells #[.int .i64 k, .int .i64 a, .int .i64 b, .int .i64 c] 36)
    have hb := below_alloc' (Below.refl w.heap.size w) (.cells #[.int .i64 k, .int .i64 a, .int .i64 b, .int .i64 c] 36)
    go_upto_region 1 with fail
    have HB1 := Lib.hid (below_trans' HB0.out hb)
    replace HT := Lib.hid (HT.out.below hb)
    clear hb HB0
    generalize w.alloc (.cells #[.int .i64 k, .int .i64 a, .int .i64 b, .int .i64 c] 36) = w1 at *
    have y0 : w1.cell? ⟨w.heap.size, 0, none⟩ = some (.int .i64 k) := (blk_cell hX).trans rfl
    have y1 : w1.cell? ⟨w.heap.size, 1, none⟩ = some (.int .i64 a) := (blk_cell hX).trans rfl
    have y2 : w1.cell? ⟨w.heap.size, 2, none⟩ = some (.int .i64 b) := (blk_cell hX).trans rfl
    have y3 : w1.cell? ⟨w.heap.size, 3, none⟩ = some (.int .i64 c) := (blk_cell hX).trans rfl
    clear hX
    have Hc := Lib.hid (HLn.out w1)
    go_wp2_with fail
    refine Hc.out.mono ?_
    rintro e w2 ⟨v, rfl, rfl, hb⟩
    have HB2 := Lib.hid (below_trans' HB1.out hb)
    replace HT := Lib.hid (HT.out.below hb)
    replace y0 := cell_below hb y0
    replace y1 := cell_below hb y1
    replace y2 := cell_below hb y2
    replace y3 := cell_below hb y3
    clear hb Hc HB1
    have Hc := Lib.hid (HFi.out w2)
    go_wp2_with fail
    refine Hc.out.mono ?_
    rintro e w3 ⟨v, rfl, rfl, hb⟩
    have HB3 := Lib.hid (below_trans' HB2.out hb)
    replace HT := Lib.hid (HT.out.below hb)
    replace y0 := cell_below hb y0
    replace y1 := cell_below hb y1
    replace y2 := cell_below hb y2
    replace y3 := cell_below hb y3
    clear hb Hc HB2
    have Hc := Lib.hid (HLi.out w3)
    go_wp2_with fail
    refine Hc.out.mono ?_
    rintro e w4 ⟨v, rfl, ⟨A1, c1, rfl, g1, h1⟩, hb⟩
    have HB4 := Lib.hid (below_trans' HB3.out hb)
    replace HT := Lib.hid (HT.out.below hb)
    replace y0 := cell_below hb y0
    replace y1 := cell_below hb y1
    replace y2 := cell_below hb y2
    replace y3 := cell_below hb y3
    clear hb Hc HB3
    clear h1 g1
    go_wp2_with fail
    refine (works_any _ HT.out).mono ?_
    rintro e wz ⟨v, rfl, rfl, hBz⟩
    go_wp2
    go_ret
    exact Ret.mk ⟨rfl, below_trans' HB4.out hBz⟩
  obtain ⟨kl, hkl⟩ := strike_line (n := (rowsL l).length + 1) (by omega) (by omega)
  rw [show (((rowsL l).length + 1 : Nat) : Int) = ((rowsL l).length : Int) + 1 by omega] at hkl
  obtain ⟨es, e1, e2, hel, hr1, hr2, hst, hfa, he1, he2⟩ := struck_text hf2 hf1 hln h7 (by omega) hkl
  have hll := line_len60 hln
  have hkll := line_len60 hkl
  obtain ⟨it, hit⟩ : ∃ it, stateA l = (it, 0) := ⟨_, state_text hf2⟩
  obtain ⟨f, hfq⟩ : ∃ f, fairA l = (f, 0) := ⟨_, fair_text hf2⟩
  have hil : it.length ≤ 60 := by have h := stateA_len l; rw [hit] at h; exact h
  rw [hit] at hst
  rw [hfq] at hfa
  obtain ⟨n, hnn⟩ : ∃ n, (rowsL l).length = n := ⟨_, rfl⟩
  rw [hnn] at HLi hkl hel hn
  have d1 : decide ((n : Int) > 57) = false := decide_eq_false (by omega)
  have d2 : decide ((57 : Int) < (n : Int)) = false := decide_eq_false (by omega)
  have eM : bs (l ++ ln ++ [10]) = bs l ++ bs ln ++ { data := #[10] } := by rw [show ({ data := #[10] } : ByteArray) = bs [10] from rfl, bs_append, bs_append]
  have eMK : bs (l ++ ln ++ [10] ++ (kl ++ [10])) = bs l ++ bs ln ++ { data := #[10] } ++ bs (kl ++ [10]) := by rw [← eM, bs_append]
  have eMKK : bs (l ++ ln ++ [10] ++ (kl ++ [10]) ++ (kl ++ [10])) = bs l ++ bs ln ++ { data := #[10] } ++ bs (kl ++ [10]) ++ bs (kl ++ [10]) := by rw [← eMK, bs_append]
  have sM : (bs l ++ bs ln ++ { data := #[10] }).size ≤ 5061 := by
    rw [← eM, bs_size]
    simp only [List.length_append, List.length_cons, List.length_nil]; omega
  have sK : (bs (kl ++ [10])).size ≤ 61 := by
    rw [bs_size]
    simp only [List.length_append, List.length_cons, List.length_nil]; omega
  have hs1 : ¬ 9223372036854775807 < (bs l).size + (bs ln).size := by rw [bs_size, bs_size]; omega
  have hs2 : ¬ 9223372036854775807 < (bs l).size + (bs ln).size + 1 := by rw [bs_size, bs_size]; omega
  have HR1 : Hid (∀ W, Tab W → Calls Tryz.prog 29 #[.string (bs l ++ bs ln ++ { data := #[10] })] W (Ret fun v w' => (∃ A ca, v = .tuple #[.slice A (es ++ [e1]).length ca, .int .i64 0] ∧ (es ++ [e1]).length ≤ ca ∧ IntsAt w' A (es ++ [e1])) ∧ Below W.heap.size W w')) := Lib.hid fun W hW => by
    have := run_ok _ _ hr1 (by simp only [List.length_append, List.length_cons, List.length_nil]; omega) W hW
    rw [eM] at this
    exact this
  have HR2 : Hid (∀ W, Tab W → Calls Tryz.prog 29 #[.string (bs l ++ bs ln ++ { data := #[10] } ++ bs (kl ++ [10]) ++ bs (kl ++ [10]))] W (Ret fun v w' => (∃ A ca, v = .tuple #[.slice A (es ++ [e1] ++ [e2] ++ [3]).length ca, .int .i64 0] ∧ (es ++ [e1] ++ [e2] ++ [3]).length ≤ ca ∧ IntsAt w' A (es ++ [e1] ++ [e2] ++ [3])) ∧ Below W.heap.size W w')) := Lib.hid fun W hW => by
    have := run_ok _ _ hr2 (by simp only [List.length_append, List.length_cons, List.length_nil]; omega) W hW
    rw [eMKK] at this
    exact this
  have HS2 : Hid (∀ W, Tab W → Calls Tryz.prog 31 #[.string (bs l ++ bs ln ++ { data := #[10] } ++ bs (kl ++ [10]))] W (Ret fun v w' => (∃ A ca, v = .tuple #[.slice A it.length ca, .int .i64 0] ∧ it.length ≤ ca ∧ ItemsAt w' A it) ∧ Below W.heap.size W w')) := Lib.hid fun W hW => by
    have := state_ok _ _ hst (by simp only [List.length_append, List.length_cons, List.length_nil]; omega) W hW
    rw [eMK] at this
    exact this
  have HF2 : Hid (∀ W, Tab W → Calls Tryz.prog 33 #[.string (bs l ++ bs ln ++ { data := #[10] } ++ bs (kl ++ [10]))] W (Ret fun v w' => v = .tuple #[.string (bs f), .int .i64 0] ∧ Below W.heap.size W w')) := Lib.hid fun W hW => by
    have := fair_ok _ _ hfa (by simp only [List.length_append, List.length_cons, List.length_nil]; omega) W hW
    rw [eMK] at this
    exact this
  have HS1 := Lib.hid (state_ok l it hit (by omega))
  have HF1 := Lib.hid (fair_ok l f hfq (by omega))
  have HTx := Lib.hid (exText ((n : Int) + 1) kl hkl)
  have hw1 : IntKind.i64.wrap ((n : Int) + 1) = (n : Int) + 1 := IntWalk.i64_in _ (by omega)
  have hw2 : IntKind.i64.wrap ((n : Int) + 2) = (n : Int) + 2 := IntWalk.i64_in _ (by omega)
  have hw3 : IntKind.i64.wrap ((n : Int) + 3) = (n : Int) + 3 := IntWalk.i64_in _ (by omega)
  have Hla : Hid ((es ++ [e1]).length = n + 1) := Lib.hid (by simp [hel])
  have Hlb : Hid ((es ++ [e1] ++ [e2] ++ [3]).length = n + 3) := Lib.hid (by simp [hel])
  have Hga : Hid ((es ++ [e1])[n]? = some e1) := Lib.hid (by rw [← hel]; simp)
  have Hgb1 : Hid ((es ++ [e1] ++ [e2] ++ [3])[n + 1]? = some e2) := Lib.hid (by rw [← hel]; simp)
  have Hgb2 : Hid ((es ++ [e1] ++ [e2] ++ [3])[n + 2]? = some 3) := Lib.hid (by rw [← hel]; simp)
  have Htk : Hid ((es ++ [e1] ++ [e2] ++ [3]).take (n + 1) = es ++ [e1]) := Lib.hid (by rw [List.append_assoc, List.append_assoc, ← List.append_assoc]; exact List.take_left' (by simp [hel]))
  have HE1 := Lib.hid he1
  have HE2 := Lib.hid he2
  clear hln hkl hr1 hr2 hst hfa he1 he2 hll hkll hit hfq hnn hel hf1 hf2 h7 eM eMK eMKK
  generalize es ++ [e1] ++ [e2] ++ [3] = eb at *
  generalize es ++ [e1] = ea at *
  generalize bs f = fs at *
  go_enter Tryz.func9, Tryz.ntmps9
  have hX := heap_alloc_new w (.cells #[.int .i64 k, .int .i64 a, .int .i64 b, .int .i64 c] 36)
  have hb := below_alloc' (Below.refl w.heap.size w) (.cells #[.int .i64 k, .int .i64 a, .int .i64 b, .int .i64 c] 36)
  go_upto_region 1 with fail
  have HB1 := Lib.hid (below_trans' HB0.out hb)
  replace HT := Lib.hid (HT.out.below hb)
  clear hb HB0
  generalize w.alloc (.cells #[.int .i64 k, .int .i64 a, .int .i64 b, .int .i64 c] 36) = w1 at *
  have y0 : w1.cell? ⟨w.heap.size, 0, none⟩ = some (.int .i64 k) := (blk_cell hX).trans rfl
  have y1 : w1.cell? ⟨w.heap.size, 1, none⟩ = some (.int .i64 a) := (blk_cell hX).trans rfl
  have y2 : w1.cell? ⟨w.heap.size, 2, none⟩ = some (.int .i64 b) := (blk_cell hX).trans rfl
  have y3 : w1.cell? ⟨w.heap.size, 3, none⟩ = some (.int .i64 c) := (blk_cell hX).trans rfl
  clear hX
  have Hc := Lib.hid (HLn.out w1)
  go_wp2_with fail
  refine Hc.out.mono ?_
  rintro e w2 ⟨v, rfl, rfl, hb⟩
  have HB2 := Lib.hid (below_trans' HB1.out hb)
  replace HT := Lib.hid (HT.out.below hb)
  replace y0 := cell_below hb y0
  replace y1 := cell_below hb y1
  replace y2 := cell_below hb y2
  replace y3 := cell_below hb y3
  clear hb Hc HB1
  have Hc := Lib.hid (HFi.out w2)
  go_wp2_with fail
  refine Hc.out.mono ?_
  rintro e w3 ⟨v, rfl, rfl, hb⟩
  have HB3 := Lib.hid (below_trans' HB2.out hb)
  replace HT := Lib.hid (HT.out.below hb)
  replace y0 := cell_below hb y0
  replace y1 := cell_below hb y1
  replace y2 := cell_below hb y2
  replace y3 := cell_below hb y3
  clear hb Hc HB2
  have Hc := Lib.hid (HLi.out w3)
  go_wp2_with fail
  refine Hc.out.mono ?_
  rintro e w4 ⟨v, rfl, ⟨A1, c1, rfl, g1, h1⟩, hb⟩
  have HB4 := Lib.hid (below_trans' HB3.out hb)
  replace HT := Lib.hid (HT.out.below hb)
  replace y0 := cell_below hb y0
  replace y1 := cell_below hb y1
  replace y2 := cell_below hb y2
  replace y3 := cell_below hb y3
  clear hb Hc HB3
  clear h1 g1
  go_upto_region 9 with fail
  generalize bs l ++ bs ln ++ { data := #[10] } = mo at *
  generalize bs (kl ++ [10]) = ks at *
  have hs3 : ¬ 9223372036854775807 < mo.size + ks.size := by omega
  have hs4 : ¬ 9223372036854775807 < mo.size + ks.size + ks.size := by omega
  clear hs1 hs2 sM sK y0 y1 y2 y3
  have Hc := Lib.hid (exCard 7 ((n : Int) + 1) 0 0 w4)
  go_wp2_with fail
  refine Hc.out.mono ?_
  rintro e w5 ⟨v, rfl, rfl, hb⟩
  have HB5 := Lib.hid (below_trans' HB4.out hb)
  replace HT := Lib.hid (HT.out.below hb)
  clear hb Hc HB4
  have Hc := Lib.hid (HTx.out w5)
  go_wp2_with fail
  refine Hc.out.mono ?_
  rintro e w6 ⟨v, rfl, rfl, hb⟩
  have HB6 := Lib.hid (below_trans' HB5.out hb)
  replace HT := Lib.hid (HT.out.below hb)
  clear hb Hc HB5
  have Hc := Lib.hid (HR1.out w6 HT.out)
  go_wp2_with fail
  refine Hc.out.mono ?_
  rintro e w7 ⟨v, rfl, ⟨A2, c2, rfl, g2, h2⟩, hb⟩
  have HB7 := Lib.hid (below_trans' HB6.out hb)
  replace HT := Lib.hid (HT.out.below hb)
  clear hb Hc HB6
  rw [Hla.out] at g2 ⊢
  have HI2 := Lib.hid h2
  obtain ⟨b2, o2, rfl, q2⟩ := ints_at h2 (by rw [Hla.out]; omega)
  have ca := q2 n (by rw [Hla.out]; omega)
  rw [Option.some.inj ((List.getElem?_eq_getElem (by rw [Hla.out]; omega)).symm.trans Hga.out)] at ca
  clear h2 q2
  have Hc := Lib.hid (HR2.out w7 HT.out)
  go_wp2_with fail
  refine Hc.out.mono ?_
  rintro e w8 ⟨v, rfl, ⟨A3, c3, rfl, g3, h3⟩, hb⟩
  have HB8 := Lib.hid (below_trans' HB7.out hb)
  replace HT := Lib.hid (HT.out.below hb)
  replace HI2 := Lib.hid (HI2.out.below hb)
  replace ca := cell_below hb ca
  clear hb Hc HB7
  rw [Hlb.out] at g3 ⊢
  have HI3 := Lib.hid h3
  obtain ⟨b3, o3, rfl, q3⟩ := ints_at h3 (by rw [Hlb.out]; omega)
  have cb1 := q3 (n + 1) (by rw [Hlb.out]; omega)
  have cb2 := q3 (n + 2) (by rw [Hlb.out]; omega)
  rw [Option.some.inj ((List.getElem?_eq_getElem (by rw [Hlb.out]; omega)).symm.trans Hgb1.out)] at cb1
  rw [Option.some.inj ((List.getElem?_eq_getElem (by rw [Hlb.out]; omega)).symm.trans Hgb2.out)] at cb2
  clear h3 q3
  have Hc := Lib.hid (HS1.out w8 HT.out)
  go_wp2_with fail
  refine Hc.out.mono ?_
  rintro e w9 ⟨v, rfl, ⟨A4, c4, rfl, g4, h4⟩, hb⟩
  have HB9 := Lib.hid (below_trans' HB8.out hb)
  replace HT := Lib.hid (HT.out.below hb)
  replace HI2 := Lib.hid (HI2.out.below hb)
  replace HI3 := Lib.hid (HI3.out.below hb)
  replace ca := cell_below hb ca
  replace cb1 := cell_below hb cb1
  replace cb2 := cell_below hb cb2
  clear hb Hc HB8
  have HI4 := Lib.hid h4
  clear h4 g4
  have Hc := Lib.hid (HS2.out w9 HT.out)
  go_wp2_with fail
  refine Hc.out.mono ?_
  rintro e w10 ⟨v, rfl, ⟨A5, c5, rfl, g5, h5⟩, hb⟩
  have HB10 := Lib.hid (below_trans' HB9.out hb)
  replace HT := Lib.hid (HT.out.below hb)
  replace HI2 := Lib.hid (HI2.out.below hb)
  replace HI3 := Lib.hid (HI3.out.below hb)
  replace HI4 := Lib.hid (HI4.out.below hb)
  replace ca := cell_below hb ca
  replace cb1 := cell_below hb cb1
  replace cb2 := cell_below hb cb2
  clear hb Hc HB9
  have HI5 := Lib.hid h5
  clear h5 g5
  have Hc := Lib.hid (HF1.out w10 HT.out)
  go_wp2_with fail
  refine Hc.out.mono ?_
  rintro e w11 ⟨v, rfl, rfl, hb⟩
  have HB11 := Lib.hid (below_trans' HB10.out hb)
  replace HT := Lib.hid (HT.out.below hb)
  replace HI2 := Lib.hid (HI2.out.below hb)
  replace HI3 := Lib.hid (HI3.out.below hb)
  replace HI4 := Lib.hid (HI4.out.below hb)
  replace HI5 := Lib.hid (HI5.out.below hb)
  replace ca := cell_below hb ca
  replace cb1 := cell_below hb cb1
  replace cb2 := cell_below hb cb2
  clear hb Hc HB10
  have Hc := Lib.hid (HF2.out w11 HT.out)
  go_wp2_with fail
  refine Hc.out.mono ?_
  rintro e w12 ⟨v, rfl, rfl, hb⟩
  have HB12 := Lib.hid (below_trans' HB11.out hb)
  replace HT := Lib.hid (HT.out.below hb)
  replace HI2 := Lib.hid (HI2.out.below hb)
  replace HI3 := Lib.hid (HI3.out.below hb)
  replace HI4 := Lib.hid (HI4.out.below hb)
  replace HI5 := Lib.hid (HI5.out.below hb)
  replace ca := cell_below hb ca
  replace cb1 := cell_below hb cb1
  replace cb2 := cell_below hb cb2
  clear hb Hc HB11
  have n0 : (0 : Int) ≤ (n : Int) := by omega
  have n1 : (0 : Int) ≤ (n : Int) + 1 := by omega
  have n2 : (0 : Int) ≤ (n : Int) + 2 := by omega
  have n3 : (n : Int) + 1 ≤ (c3 : Int) := by omega
  have n4 : (n : Int) + 2 < ((n + 3 : Nat) : Int) := by omega
  have n5 : (n : Int) + 1 < ((n + 3 : Nat) : Int) := by omega
  have n6 : (n : Int) < ((n + 1 : Nat) : Int) := by omega
  have n7 : ((n : Int) + 1).toNat = n + 1 := by omega
  have n8 : ((n : Int) + 2).toNat = n + 2 := by omega
  have n9 : (((n + 1 : Nat) : Int) != (n : Int) + 1) = false := by simp
  have n10 : (((n + 3 : Nat) : Int) != (n : Int) + 3) = false := by simp
  have Hc := Lib.hid (show Calls Tryz.prog 35 #[.slice (some ⟨b2, o2, none⟩) (n + 1) c2, .slice (some ⟨b3, o3, none⟩) (n + 1) c3] w12 _ from (by have := errs_same (some ⟨b2, o2, none⟩) (some ⟨b3, o3, none⟩) c2 c3 ea w12 HI2.out (by have h := ints_take HI3.out (n + 1); rw [Htk.out] at h; exact h) (by rw [Hla.out]; omega); rw [Hla.out] at this; exact this))
  go_wp2_with fail
  refine Hc.out.mono ?_
  rintro e w13 ⟨v, rfl, rfl, hb⟩
  have HB13 := Lib.hid (below_trans' HB12.out hb)
  replace HT := Lib.hid (HT.out.below hb)
  replace HI2 := Lib.hid (HI2.out.below hb)
  replace HI3 := Lib.hid (HI3.out.below hb)
  replace HI4 := Lib.hid (HI4.out.below hb)
  replace HI5 := Lib.hid (HI5.out.below hb)
  replace ca := cell_below hb ca
  replace cb1 := cell_below hb cb1
  replace cb2 := cell_below hb cb2
  clear hb Hc HB12
  by_cases hz : e1 = 0
  · have hz2 := HE1.out hz
    subst hz
    subst hz2
    have Hc := Lib.hid (items_same A4 A5 c4 c5 it w13 HI4.out HI5.out (by omega))
    go_wp2_with fail
    refine Hc.out.mono ?_
    rintro e w14 ⟨v, rfl, rfl, hb⟩
    have HB14 := Lib.hid (below_trans' HB13.out hb)
    replace HT := Lib.hid (HT.out.below hb)
    replace HI2 := Lib.hid (HI2.out.below hb)
    replace HI3 := Lib.hid (HI3.out.below hb)
    replace HI4 := Lib.hid (HI4.out.below hb)
    replace HI5 := Lib.hid (HI5.out.below hb)
    replace ca := cell_below hb ca
    replace cb1 := cell_below hb cb1
    replace cb2 := cell_below hb cb2
    clear hb Hc HB13
    go_wp2_with fail
    refine (works_any _ HT.out).mono ?_
    rintro e wz ⟨v, rfl, rfl, hBz⟩
    go_wp2
    go_ret
    exact Ret.mk ⟨rfl, below_trans' HB14.out hBz⟩
  · have hz2 := HE2.out hz
    have t1 : (e1 != 0) = true := by simpa using hz
    subst hz2
    have Hc := Lib.hid (items_same A4 A5 c4 c5 it w13 HI4.out HI5.out (by omega))
    go_wp2_with fail
    refine Hc.out.mono ?_
    rintro e w14 ⟨v, rfl, rfl, hb⟩
    have HB14 := Lib.hid (below_trans' HB13.out hb)
    replace HT := Lib.hid (HT.out.below hb)
    replace HI2 := Lib.hid (HI2.out.below hb)
    replace HI3 := Lib.hid (HI3.out.below hb)
    replace HI4 := Lib.hid (HI4.out.below hb)
    replace HI5 := Lib.hid (HI5.out.below hb)
    replace ca := cell_below hb ca
    replace cb1 := cell_below hb cb1
    replace cb2 := cell_below hb cb2
    clear hb Hc HB13
    go_wp2_with fail
    refine (works_any _ HT.out).mono ?_
    rintro e wz ⟨v, rfl, rfl, hBz⟩
    go_wp2
    go_ret
    exact Ret.mk ⟨rfl, below_trans' HB14.out hBz⟩
end Go.Proofs.YtkpmmgeffbhngaaGreatDoor
namespace Go.Proofs.YtkpmmgeffbhngaaGreatDoor
open Go.ChangeShapes Go.WideShapes Go.ChangeAt Go.RowKit
set_option maxRecDepth 100000 in
theorem protocolStruck_lifted (os : Os) (started : os.Started) (H : Type) (enc : TypeId × Value → H) :
    ReturnsInHanded {} Tryz.checked os 9 .any (fun w args => (Rows.protocolStruckSpec.pre enc Tryz.prog Tryz.f9 [] false w args ∧ laidMetH Tryz.prog laidT w) ∧ sizedMet enc Tryz.prog Tryz.f9 (OpenSpec.ofChange Rows.protocolStruckSpec) false w args)
      (Rows.protocolStruckSpec.post enc Tryz.prog Tryz.f9 false true false false) := by
  refine returnsInHanded_and_shaped (C := Tryz.checked) (X := fun w _ => laidMetH Tryz.prog laidT w) (fun _ _ _ hh h => h.of_heap hh) Tryz.own started (by kernel_rfl) Tryz.func9
    (ChangeSpec.witness_shaped (enc := enc) (C := Tryz.checked) (os := os) (X := fun w _ => laidMetH Tryz.prog laidT w) false (World.laidAll Tryz.prog os laidT) #[.string ⟨#[]⟩, .agg #[.int .i64 0, .int .i64 0, .int .i64 0, .int .i64 0]] 8 (World.laidAll_os _ _ _) (laid_shaped os _) (by kernel_rfl) (by kernel_rfl) (by kernel_rfl) (laid_met os _)) ?_
  intro W base args ds gs before hval0 hW hL hsh
  have hval : ∀ (j : Nat) t v, Tryz.f9.params[j]? = some t → args[j]? = some v → Value.okWide Tryz.prog W .any base t v := hval0
  have hW' := hW
  have hlt : ∀ p ∈ before, p.block < W.heap.size := fun p hp => hW.lt p hp
  obtain ⟨p, q, hA0, hV, rfl, hfz, hnd⟩ := hW
  have hA : DataW.TrodAll enc Tryz.prog W 0 (fun _ => true) true Tryz.f9.params.toList args.toList ds p := hA0
  rw [Tryz.params9] at hA hval
  have hA1 := hA
  have hT := of_laid hL hsh
  obtain ⟨v0, v1, d0, d1, p0, p1, rfl, rfl, rfl, h0, h1⟩ := trodAll_two hA
  obtain ⟨rfl, rfl⟩ := trodVars_none hV
  obtain ⟨s0, rfl, rfl, rfl, ws0⟩ := Go.ChangeMaps.open_string Tryz.underlying9 (hval 0 9 v0 rfl rfl) h0
  obtain ⟨l, rfl⟩ : ∃ l, s0 = bs l := ⟨_, bs_of s0⟩
  obtain ⟨k, a, b, c, rfl, wk, wa, wb, wc⟩ := openCard (hval 1 36 v1 rfl rfl) h1
  refine (protocolStruck_any l k a b c W hT).mono fun e W' he => ?_
  obtain ⟨v, rfl, rfl, hB⟩ := he
  exact ⟨_, rfl, post_of_below (pa := _) (pv := []) hW' (fun b sp hd => trodAll_mk1 (resTrue b sp hd W')) (fun sp hsp => all_again' hB (by kernel_rfl) hA1 (fun x hx => hlt x (by simpa using hx)) (fun x hx => hsp x (by simpa using hx))) (fun _ _ => rfl) rfl hB (ok_one (by kernel_rfl) rfl (okWide_bool_mk Tryz.underlying4 true))⟩
theorem protocolStruck_p : (Rows.protocolStruckRow.inPlace == Tryz.prog.inPlace 9) = true := by kernel_rfl
theorem protocolStruck_u : (Rows.protocolStruckRow.unfollowed == Tryz.prog.unfollowed 9) = true := by kernel_rfl
theorem protocolStruck_r : (Rows.protocolStruckRow.recurses == Tryz.prog.recurses 9) = true := by kernel_rfl
theorem protocolStruck_n : (Rows.protocolStruckRow.named == Tryz.prog.varsNamed 9) = true := by kernel_rfl
theorem protocolStruck_row : Rows.ProtocolStruckSaid :=
  OpenClaim.holds_of_wide 9 Tryz.f9 rfl rfl rfl rfl rfl rfl rfl ⟨rfl, rfl, rfl, rfl, rfl⟩ rfl rfl rfl rfl rfl (by kernel_rfl) Tryz.func9
    (joined_of (by kernel_rfl) (by kernel_rfl) (by kernel_rfl) rfl rfl protocolStruck_p protocolStruck_u protocolStruck_r protocolStruck_n (by kernel_rfl) (by kernel_rfl) (by kernel_rfl) (by kernel_rfl) (by kernel_rfl) (by kernel_rfl) (by kernel_rfl) (by kernel_rfl) (by kernel_rfl) (by kernel_rfl) rfl rfl rfl (by kernel_rfl) (by kernel_rfl) (by kernel_rfl) (by kernel_rfl))
    (of_decide_eq_true (by kernel_rfl)) (by unfold Func.isWrapper; first | (rw [if_pos (by decide +kernel)]; kernel_rfl) | (rw [if_neg (by decide +kernel)]; exact ⟨rfl, rfl⟩))
    (fun os started H enc _ => protocolStruck_lifted os started H enc)
theorem protocolStruck_holds : Rows.ProtocolStruckCardSaid :=
  Claim7.holds_tied_plain_at .later [] [.data, .data, .data, .data, .sentinel, .sentinel, .pinned] true (true, "056ceee57fb0345663cf018f0cf66ba5b95e362946dcabdfc5afb17e57de19a5") true
    protocolStruck_row (fun _ h => by cases h) (by kernel_rfl) (fun _ h => by cases h) protocolStruck_row_tie rfl ⟨rfl, rfl⟩ (by kernel_rfl) rfl
    (no_stand (show Tryz.prog.funcNamed "mandrel/mandrellaw12.ProtocolStruck" = some 9 by kernel_rfl) Tryz.func9 Tryz.jlooks (by kernel_rfl))
    (by kernel_rfl)
end Go.Proofs.YtkpmmgeffbhngaaGreatDoor
