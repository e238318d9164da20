/- ProtocolKept is true for every input: what a protocol keeps: in what is left no box holds more than it may, no day is behind the last one, and each copy has its source. The package variables of the library are tied to the program's text by the given tie. -/
import Derived.Test.YtkpmmgeffbhngaaGreatDoorC11
import Derived.Test.YtkpmmgeffbhngaaGreatDoorC43
import Derived.Test.YtkpmmgeffbhngaaGreatDoorC44
import Derived.Test.YtkpmmgeffbhngaaGreatDoorC45
import Derived.Test.YtkpmmgeffbhngaaGreatDoorCards
import Derived.Test.YtkpmmgeffbhngaaGreatDoorTie
set_option linter.unusedSimpArgs false
set_option linter.unusedVariables false
set_option linter.unnecessarySimpa false
namespace Prot
end Prot
namespace Go.Shelf
end Go.Shelf
namespace Go.Maps
end Go.Maps
namespace Prot
theorem fair_pairs {ls : List (List UInt8)} {s : St} (h : StOk ls s) : ∀ p ∈ (ls.zip s.cards).filter (fun p => decide (p.2 ≠ zeroC)), parseV p.1 = (p.2, 0) ∧ p.2.1 ≠ 7 := fun p hp => by
  obtain ⟨h1, h2⟩ := List.mem_filter.1 hp
  have h2 : p.2 ≠ zeroC := by simpa using h2
  obtain ⟨i, hi, e⟩ := List.mem_iff_getElem.1 h1
  have hi1 : i < ls.length := by rw [List.length_zip] at hi; omega
  have hi2 : i < s.cards.length := by rw [List.length_zip] at hi; omega
  rw [List.getElem_zip] at e
  subst e
  dsimp only at h2 ⊢
  have e3 : s.cards.getD i zeroC = s.cards[i] := by rw [List.getD_eq_getElem?_getD, List.getElem?_eq_getElem hi2]; rfl
  have h3 := h.line i hi1 (by rw [e3]; exact h2)
  rw [e3] at h3
  exact ⟨h3, ((h.card _ (List.getElem_mem hi2)).resolve_left h2).2⟩
theorem fair_cards {ls : List (List UInt8)} {cs : List Card} (h : cs.length = ls.length) : ((ls.zip cs).filter fun p => decide (p.2 ≠ zeroC)).map Prod.snd = liveC cs := by
  unfold liveC
  induction ls generalizing cs with
  | nil =>
    have : cs = [] := List.eq_nil_of_length_eq_zero (by simpa using h)
    subst this; rfl
  | cons l ls ih =>
    cases cs with
    | nil => simp at h
    | cons c cs =>
      have ih := ih (cs := cs) (by simpa using h)
      rw [List.zip_cons_cons]
      by_cases k : c ≠ zeroC
      · rw [List.filter_cons_of_pos (by simpa using k), List.map_cons, ih, List.filter_cons_of_pos (by simpa using k)]
      · rw [List.filter_cons_of_neg (by simpa using k), ih, List.filter_cons_of_neg (by simpa using k)]
theorem fair_len {ls : List (List UInt8)} {cs : List Card} (h : cs.length = ls.length) : (fairL ls cs).length = (liveC cs).length := by
  rw [← fair_cards h]
  unfold fairL
  rw [List.length_map, List.length_map]
def lastDay : List Card → Int → Int
  | [], d => d
  | c :: r, d => lastDay r (if c.1 = 1 then c.2.1 else d)
theorem do_day {j : Jn} {c : Card} (h : (doV j c).2 = 0) : (doV j c).1.day = if c.1 = 1 then c.2.1 else j.day := by
  unfold doV at h ⊢
  by_cases k : c.1 = 1
  · rw [if_pos k] at h ⊢
    rw [if_pos k]
    split at h
    · simp at h
    · rename_i hd; rw [if_neg hd]
  · rw [if_neg k] at h ⊢
    rw [if_neg k]
    repeat' split
    all_goals rfl
theorem replay_day : ∀ (cs : List Card) (j k : Jn), replay cs j = some k → k.day = lastDay cs j.day
  | [], j, k, h => by injection h with h; subst h; rfl
  | c :: cs, j, k, h => by
    have h' : (if (doV j c).2 = 0 then replay cs (doV j c).1 else none) = some k := h
    split at h'
    · rename_i h0
      have := replay_day cs _ k h'
      rw [this, do_day h0]; rfl
    · cases h'
end Prot
namespace Prot
open Go.Lib
theorem fair_nl (t : List UInt8) (cs : List Card) : ∀ l ∈ fairL (rowsL t) cs, NoNl l := fun l hl => by
  unfold fairL at hl
  obtain ⟨p, hp, rfl⟩ := List.mem_map.1 hl
  have h1 := (List.mem_filter.1 hp).1
  exact rows_nl t _ (List.of_mem_zip h1).1
theorem fairL_le (ls : List (List UInt8)) (cs : List Card) : (fairL ls cs).length ≤ ls.length := by
  unfold fairL
  rw [List.length_map]
  refine Nat.le_trans (List.length_filter_le _ _) ?_
  rw [List.length_zip]; omega
theorem text_fair_len (ls : List (List UInt8)) : ∀ cs : List Card, (textL (fairL ls cs)).length ≤ (textL ls).length := by
  induction ls with
  | nil => intro cs; exact Nat.le_refl _
  | cons l ls ih =>
    intro cs
    have e : textL (l :: ls) = (l ++ [10]) ++ textL ls := by unfold textL; simp
    cases cs with
    | nil => exact Nat.zero_le _
    | cons c cs =>
      have ih := ih cs
      by_cases k : c ≠ zeroC
      · have e2 : fairL (l :: ls) (c :: cs) = l :: fairL ls cs := by
          unfold fairL
          rw [List.zip_cons_cons, List.filter_cons_of_pos (by simpa using k), List.map_cons]
        have e3 : textL (l :: fairL ls cs) = (l ++ [10]) ++ textL (fairL ls cs) := by unfold textL; simp
        rw [e2, e3, e]
        simp only [List.length_append]; omega
      · have e2 : fairL (l :: ls) (c :: cs) = fairL ls cs := by
          unfold fairL
          rw [List.zip_cons_cons, List.filter_cons_of_neg (by simpa using k)]
        rw [e2, e, List.length_append]; omega
/-- the lines that count are a protocol -/
theorem fair_err {t : List UInt8} (h : textErr t = 0) : textErr (textL (fairL (rowsL t) (runV (rowsL t)).cards)) = 0 := by
  obtain ⟨h1, h2, h3⟩ := textErr_ok h
  have e1 := text_fair_len (rowsL t) (runV (rowsL t)).cards
  rw [text_rows h2] at e1
  have e2 := text_count (fair_nl t (runV (rowsL t)).cards)
  have e3 := fairL_le (rowsL t) (runV (rowsL t)).cards
  have e4 := text_ends (fairL (rowsL t) (runV (rowsL t)).cards)
  unfold textErr
  rw [if_neg (by omega), if_neg, if_neg (by omega)]
  rintro ⟨k1, k2⟩
  rcases e4 with e | e
  · exact k1 e
  · exact k2 e
end Prot
namespace Prot
open Go.Lib
section
variable {t : List UInt8} (h : textErr t = 0)
include h
theorem fair_rows : rowsL (fairA t).1 = fairL (rowsL t) (runV (rowsL t)).cards := by rw [fair_text h]; exact rows_of (fair_nl t _)
theorem fair_err' : textErr (fairA t).1 = 0 := by rw [fair_text h]; exact fair_err h
theorem fair_len' : (fairA t).1.length ≤ t.length := by
  have := text_fair_len (rowsL t) (runV (rowsL t)).cards
  rw [text_rows (textErr_ok h).2.1] at this
  rw [fair_text h]; exact this
end
end Prot
namespace Prot
open Go.Lib
theorem pairs_at (ps : List (List UInt8 × Card)) (hp : ∀ p ∈ ps, parseV p.1 = (p.2, 0) ∧ p.2.1 ≠ 7) (A : List (List UInt8)) (B : List Card) (hA : A = ps.map Prod.fst) (hB : B = ps.map Prod.snd) : ∀ (i : Nat) (h1 : i < A.length) (h2 : i < B.length), parseV A[i] = (B[i], 0) ∧ B[i].1 ≠ 7 := by
  subst hA
  subst hB
  intro i h1 h2
  have h3 : i < ps.length := by simpa using h2
  simpa using hp _ (List.getElem_mem h3)
theorem kept_lines {t : List UInt8} (h : textErr t = 0) : ∃ cs : List Card, cs.length = (rowsL (fairA t).1).length ∧ (∀ (i : Nat) (h1 : i < (rowsL (fairA t).1).length) (h2 : i < cs.length), parseV (rowsL (fairA t).1)[i] = (cs[i], 0) ∧ cs[i].1 ≠ 7) ∧ lastDay cs 0 = (runV (rowsL t)).jn.day := by
  have hok := runV_ok (rowsL t)
  refine ⟨liveC (runV (rowsL t)).cards, ?_, ?_, ?_⟩
  · rw [fair_rows h, fair_len hok.len]
  · exact pairs_at _ (fair_pairs hok) _ _ (by rw [fair_rows h]; rfl) (fair_cards hok.len).symm
  · exact (replay_day _ _ _ hok.jn).symm
theorem kept_item {t : List UInt8} (h : textErr t = 0) : ∀ x ∈ (stateA t).1, room (stateA t).1 x.box ≤ 12 ∧ x.day ≤ (runV (rowsL t)).jn.day ∧ (∀ y ∈ (stateA t).1, y.num = x.src → y.voice = x.voice ∧ y.turns = x.turns ∧ y.day ≤ x.day) ∧ (x.src = 0 ∨ ∃ y ∈ (stateA t).1, y.num = x.src) ∧ 1 ≤ x.num := fun x hx => by
  have hok := (runV_ok (rowsL t)).ok
  have hp : (stateA t).1.Perm (runV (rowsL t)).jn.items := by rw [state_text h]; exact told_perm _
  have hx' := hp.mem_iff.1 hx
  refine ⟨?_, (hok.days x hx').2, fun y hy e => ?_, ?_, (hok.num x hx').1⟩
  · have e : room (stateA t).1 x.box = room (runV (rowsL t)).jn.items x.box := by
      unfold room
      exact (hp.filter _).length_eq
    rw [e]; exact hok.few _
  · have hy' := hp.mem_iff.1 hy
    rcases hok.from' x hx' with h0 | ⟨z, hz, e1, e2, e3, e4⟩
    · have := (hok.num y hy').1; omega
    · have : y = z := once_mem hok.once hy' hz (by rw [e, e1])
      subst this
      exact ⟨e2, e3, e4⟩
  · rcases hok.from' x hx' with h0 | ⟨z, hz, e1, _⟩
    · exact .inl h0
    · exact .inr ⟨z, hp.mem_iff.2 hz, e1⟩
/-- whether the one is there from which a cylinder was copied, as it is looked at one after another -/
def seenB (l : List It) (x : It) (k : Nat) : Bool := decide (x.src = 0) || (l.take k).any fun y => decide (y.num = x.src)
theorem seenB_hit {l : List It} {x : It} {k : Nat} (hk : k < l.length) (h : l[k].num = x.src) : seenB l x (k + 1) = true := by
  unfold seenB
  rw [List.take_succ_eq_append_getElem hk, List.any_append]
  simp [h]
theorem seenB_miss {l : List It} {x : It} {k : Nat} (hk : k < l.length) (h : l[k].num ≠ x.src) : seenB l x (k + 1) = seenB l x k := by
  unfold seenB
  rw [List.take_succ_eq_append_getElem hk, List.any_append]
  simp [h]
theorem seenB_all {l : List It} {x : It} (h : x.src = 0 ∨ ∃ y ∈ l, y.num = x.src) : seenB l x l.length = true := by
  unfold seenB
  rw [List.take_length, Bool.or_eq_true]
  rcases h with h | ⟨y, hy, e⟩
  · exact .inl (decide_eq_true h)
  · exact .inr (List.any_eq_true.2 ⟨y, hy, decide_eq_true e⟩)
theorem lastDay_snoc (cs : List Card) (c : Card) (d : Int) : lastDay (cs ++ [c]) d = if c.1 = 1 then c.2.1 else lastDay cs d := by
  induction cs generalizing d with
  | nil => rfl
  | cons x cs ih => exact ih _
end Prot
namespace Go.Proofs.YtkpmmgeffbhngaaGreatDoor
open Go.RowKit Go.Shelf Prot Go.Lib Go.Maps
theorem day_next {cs : List Card} {k : Nat} (hk : k < cs.length) : lastDay (cs.take (k + 1)) 0 = if cs[k].1 = 1 then cs[k].2.1 else lastDay (cs.take k) 0 := by
  rw [List.take_succ_eq_append_getElem hk, lastDay_snoc]
set_option maxRecDepth 100000 in
set_option maxHeartbeats 4000000 in
theorem protocolKept_any (l : List UInt8) (w : World) (hT : Tab w) : Calls Tryz.prog 12 #[.string (bs l)] w (Ret fun v w' => v = .bool true ∧ Below w.heap.size w w') := by
  have HB0 := Lib.hid (Below.refl w.heap.size w)
  have HT := Lib.hid hT
  clear hT
  by_cases hf : l.length ≤ 5000 ∧ textErr l = 0
  rotate_left 1
  · go_enter Tryz.func12, Tryz.ntmps12
    have Hc := Lib.hid (fine_no l hf w)
    go_wp2_with fail
    refine Hc.out.mono ?_
    rintro e w1 ⟨v, rfl, rfl, hb⟩
    have HB1 := Lib.hid (below_trans' HB0.out hb)
    replace HT := Lib.hid (HT.out.below hb)
    clear hb Hc HB0
    go_wp2_with fail
    refine (works_any _ HT.out).mono ?_
    rintro e wz ⟨v, rfl, rfl, hBz⟩
    go_wp2
    go_ret
    exact Ret.mk ⟨rfl, below_trans' HB1.out hBz⟩
  obtain ⟨hf1, hf2⟩ := hf
  have HFi := Lib.hid (fine_yes l hf1 hf2)
  obtain ⟨f, hfq⟩ : ∃ f, fairA l = (f, 0) := ⟨_, fair_text hf2⟩
  obtain ⟨it, hit⟩ : ∃ it, stateA l = (it, 0) := ⟨_, state_text hf2⟩
  have hfe : textErr f = 0 := by have h := fair_err' hf2; rw [hfq] at h; exact h
  have hfl : f.length ≤ 5000 := by have h := fair_len' hf2; rw [hfq] at h; exact Nat.le_trans h hf1
  have hil : it.length ≤ 60 := by have h := stateA_len l; rw [hit] at h; exact h
  obtain ⟨cs, hcl, hcs, hcd⟩ := kept_lines hf2
  have hki := kept_item hf2
  rw [hfq] at hcl hcs
  rw [hit] at hki
  dsimp only at hcl hcs hki
  obtain ⟨dy, hdy⟩ : ∃ dy, (runV (rowsL l)).jn.day = dy := ⟨_, rfl⟩
  rw [hdy] at hcd hki
  have hL60 := (textErr_ok hfe).2.2
  have hll : ∀ x ∈ rowsL f, x.length ≤ 5000 := fun x hx => by
    have := mem_textL hx
    rw [text_rows (textErr_ok hfe).2.1] at this
    omega
  have HFa := Lib.hid (fair_ok l f hfq (by omega))
  have HSt := Lib.hid (state_ok l it hit (by omega))
  have HLi := Lib.hid (lines_ok f hfe)
  generalize rowsL f = L at *
  have HCs := Lib.hid hcs
  have HKi := Lib.hid hki
  have HCd := Lib.hid hcd
  have HLl := Lib.hid hll
  have HCl := Lib.hid hcl
  clear hfq hit hfe hfl hcs hki hcd hdy hll hf1 hf2
  go_enter Tryz.func12, Tryz.ntmps12
  have Hc := Lib.hid (HFi.out w)
  go_wp2_with fail
  refine Hc.out.mono ?_
  rintro e w1 ⟨v, rfl, rfl, hb⟩
  have HB1 := Lib.hid (below_trans' HB0.out hb)
  replace HT := Lib.hid (HT.out.below hb)
  clear hb Hc HB0
  have Hc := Lib.hid (HSt.out w1 HT.out)
  go_wp2_with fail
  refine Hc.out.mono ?_
  rintro e w2 ⟨v, rfl, ⟨A1, c1, rfl, g1, h1⟩, hb⟩
  have HB2 := Lib.hid (below_trans' HB1.out hb)
  replace HT := Lib.hid (HT.out.below hb)
  clear hb Hc HB1
  have HI := Lib.hid h1
  clear h1 g1
  have Hc := Lib.hid (HFa.out w2 HT.out)
  go_wp2_with fail
  refine Hc.out.mono ?_
  rintro e w3 ⟨v, rfl, rfl, hb⟩
  have HB3 := Lib.hid (below_trans' HB2.out hb)
  replace HT := Lib.hid (HT.out.below hb)
  replace HI := Lib.hid (HI.out.below hb)
  clear hb Hc HB2
  have Hc := Lib.hid (HLi.out w3)
  go_wp2_with fail
  refine Hc.out.mono ?_
  rintro e w4 ⟨v, rfl, ⟨A2, c2, rfl, g2, h2⟩, hb⟩
  have HB4 := Lib.hid (below_trans' HB3.out hb)
  replace HT := Lib.hid (HT.out.below hb)
  replace HI := Lib.hid (HI.out.below hb)
  clear hb Hc HB3
  have HS := Lib.hid h2
  clear h2 g2
  have hcl := HCl.out
  clear hcl
  go_wp2
  go_loopw [9, 10] (fun dv i wr => ∃ k : Nat, k ≤ L.length ∧ i = .int .i64 k ∧ dv = .int .i64 (lastDay (cs.take k) 0) ∧ Hid (Below w4.heap.size w4 wr)) (fun _ i _ => L.length - (intOf i).toNat)
  case atStart => exact ⟨0, Nat.zero_le _, rfl, rfl, Lib.hid (Below.refl _ _)⟩
  case round =>
    obtain ⟨k, hk, rfl, rfl, HBr⟩ := hrel
    by_cases hkl : k < L.length
    · have hkc : k < cs.length := by rw [HCl.out]; exact hkl
      obtain ⟨b1, o1, rfl, g0⟩ := (HS.out.below HBr.out).at_ hkl
      have t2 : decide ((k : Int) < (L.length : Int)) = true := decide_eq_true (by omega)
      have k0 : (0 : Int) ≤ (k : Int) := by omega
      have k1 : (k : Int) < (L.length : Int) := by omega
      have hlk := HLl.out L[k] (List.getElem_mem hkl)
      obtain ⟨hp1, hp2⟩ := HCs.out k hkl hkc
      have HN := Lib.hid (day_next hkc)
      have HPr : Hid (∀ W, Calls Tryz.prog 28 #[.string (bs L[k])] W (Ret fun v w' => v = .tuple #[.agg #[.int .i64 cs[k].1, .int .i64 cs[k].2.1, .int .i64 cs[k].2.2.1, .int .i64 cs[k].2.2.2], .int .i64 0] ∧ Below W.heap.size W w')) := Lib.hid fun W => by
        have := rParse_any (bs L[k]) W (by rw [bs_size]; omega)
        rw [bs_list, parseT_of (k := cs[k].1) (x := cs[k].2.1) (y := cs[k].2.2.1) (z := cs[k].2.2.2) (e := 0) hp1] at this
        exact this
      clear hp1 hlk
      generalize L[k] = x at *
      generalize cs[k] = c at *
      obtain ⟨c1', c2', c3', c4'⟩ := c
      dsimp only at hp2 HN HPr
      have t7 : (c1' == 7) = false := by simpa using hp2
      clear hp2
      go_wp2_with fail
      refine (HPr.out _).mono ?_
      rintro _ w9 ⟨v, rfl, rfl, hb9⟩
      have HB9 := Lib.hid (below_trans' HBr.out hb9)
      have hX := heap_alloc_new w9 (.cells #[.int .i64 c1', .int .i64 c2', .int .i64 c3', .int .i64 c4'] 36)
      have HB10 := Lib.hid (below_alloc' HB9.out (.cells #[.int .i64 c1', .int .i64 c2', .int .i64 c3', .int .i64 c4'] 36))
      go_upto_region 15 with fail
      obtain ⟨x0, x1, x2, x3, -, -, -, -⟩ := four_cells hX
      clear hX hb9 HPr HB9 HBr g0
      generalize w9.alloc (.cells #[.int .i64 c1', .int .i64 c2', .int .i64 c3', .int .i64 c4'] 36) = w10 at *
      by_cases h1 : c1' = 1
      · subst h1
        rw [if_pos rfl] at HN
        go_wp2
        go_roundw
        case rel => exact ⟨k + 1, by omega, by go_num, by rw [HN.out], HB10⟩
        case measure => simp [intOf]; omega
      · have t1 : (c1' == 1) = false := by simpa using h1
        rw [if_neg h1] at HN
        clear h1
        go_wp2
        go_roundw
        case rel => exact ⟨k + 1, by omega, by go_num, by rw [HN.out], HB10⟩
        case measure => simp [intOf]; omega
    · have hkq : k = L.length := by omega
      have HDy : Hid (lastDay (cs.take k) 0 = dy) := Lib.hid (by rw [hkq, ← HCl.out, List.take_length]; exact HCd.out)
      rw [HDy.out]
      have t2 : decide ((k : Int) < (L.length : Int)) = false := decide_eq_false (by omega)
      replace HT := Lib.hid (HT.out.below HBr.out)
      replace HI := Lib.hid (HI.out.below HBr.out)
      replace HB4 := Lib.hid (below_trans' HB4.out HBr.out)
      clear HBr HS hkq HDy
      rename World => w5
      go_wp2
      go_loopw [13] (fun i wq => ∃ (j q : Nat), j ≤ it.length ∧ i = .int .i64 j ∧ wq = w5.drewN q) (fun i _ => it.length - (intOf i).toNat)
      case atStart => exact ⟨0, 0, Nat.zero_le _, rfl, rfl⟩
      case round =>
        obtain ⟨j, q, hj, rfl, rfl⟩ := hrel
        by_cases hjl : j < it.length
        · obtain ⟨b1, o1, rfl, -, g1, g2, g3, g4, g5, -⟩ := HI.out.at_ hjl
          have t2 : decide ((j : Int) < (it.length : Int)) = true := decide_eq_true (by omega)
          have j0 : (0 : Int) ≤ (j : Int) := by omega
          have j1 : (j : Int) < (it.length : Int) := by omega
          obtain ⟨r1, r2, r3, r4, -⟩ := HKi.out it[j] (List.getElem_mem hjl)
          have HR1 := Lib.hid r1
          have HR2 := Lib.hid r2
          have HR3 := Lib.hid r3
          have HR4 := Lib.hid (seenB_all r4)
          clear r1 r2 r3 r4
          generalize it[j] = x at *
          clear hjl
          have g1 : (w5.drewN q).cell? ⟨b1, o1 + j * 7 + 1, none⟩ = some (.int .i64 x.box) := g1
          have g2 : (w5.drewN q).cell? ⟨b1, o1 + j * 7 + 2, none⟩ = some (.int .i64 x.day) := g2
          have g3 : (w5.drewN q).cell? ⟨b1, o1 + j * 7 + 3, none⟩ = some (.int .i64 x.voice) := g3
          have g4 : (w5.drewN q).cell? ⟨b1, o1 + j * 7 + 4, none⟩ = some (.int .i64 x.turns) := g4
          have g5 : (w5.drewN q).cell? ⟨b1, o1 + j * 7 + 5, none⟩ = some (.int .i64 x.src) := g5
          go_wp2
          go_loopw [14, 15, 16] (fun m f i wq => ∃ (k p : Nat), k ≤ it.length ∧ i = .int .i64 k ∧ m = .int .i64 ((room (it.take k) x.box : Nat) : Int) ∧ f = .bool (seenB it x k) ∧ wq = w5.drewN p) (fun _ _ i _ => it.length - (intOf i).toNat)
          case atStart => exact ⟨0, q, Nat.zero_le _, rfl, rfl, by unfold seenB; simp [Bool.beq_eq_decide_eq], rfl⟩
          case round =>
            obtain ⟨k, p, hk, rfl, rfl, rfl, rfl⟩ := hrel
            by_cases hkl : k < it.length
            · obtain ⟨b2, o2, hA, h0, h1, h2, h3, h4, -, -⟩ := HI.out.at_ hkl
              injection hA with hA
              injection hA with hA1 hA2
              subst hA1; subst hA2
              have t3 : decide ((k : Int) < (it.length : Int)) = true := decide_eq_true (by omega)
              have k0 : (0 : Int) ≤ (k : Int) := by omega
              have k1 : (k : Int) < (it.length : Int) := by omega
              have g1 : (w5.drewN p).cell? ⟨b1, o1 + j * 7 + 1, none⟩ = some (.int .i64 x.box) := g1
              have g2 : (w5.drewN p).cell? ⟨b1, o1 + j * 7 + 2, none⟩ = some (.int .i64 x.day) := g2
              have g3 : (w5.drewN p).cell? ⟨b1, o1 + j * 7 + 3, none⟩ = some (.int .i64 x.voice) := g3
              have g4 : (w5.drewN p).cell? ⟨b1, o1 + j * 7 + 4, none⟩ = some (.int .i64 x.turns) := g4
              have g5 : (w5.drewN p).cell? ⟨b1, o1 + j * 7 + 5, none⟩ = some (.int .i64 x.src) := g5
              have HNr := Lib.hid (room_next (b := x.box) hkl)
              have HHit := Lib.hid (seenB_hit (x := x) hkl)
              have HMis := Lib.hid (seenB_miss (x := x) hkl)
              have H3 := Lib.hid (HR3.out it[k] (List.getElem_mem hkl))
              have hrl : room (it.take k) x.box ≤ 60 := by
                unfold room
                have a1 := List.length_filter_le (fun y : It => y.box == x.box) (it.take k)
                have a2 := List.length_take_le' k it
                first | omega | (refine Nat.le_trans (List.length_filter_le _ _) ?_; omega)
              generalize it[k] = y at *
              clear hkl
              generalize seenB it x k = sb at *
              generalize room (it.take k) x.box = rk at *
              have e1 : IntKind.i64.wrap ((rk : Int) + 1) = (rk : Int) + 1 := IntWalk.i64_in _ (by omega)
              by_cases hb : y.box = x.box
              · have HN2 := Lib.hid (show room (it.take (k + 1)) x.box = rk + 1 by rw [HNr.out, if_pos hb])
                rw [hb] at h1
                clear hb HNr
                by_cases hn : y.num = x.src
                · obtain ⟨z1, z2, z3⟩ := H3.out hn
                  have HS2 := Lib.hid (HHit.out hn)
                  rw [hn] at h0
                  rw [z1] at h3
                  rw [z2] at h4
                  have z4 : decide (y.day ≤ x.day) = true := decide_eq_true z3
                  clear hn z1 z2 z3 HHit HMis H3 hrl
                  go_wp2_with fail
                  go_quiet (fail)
                  go_wp2_with fail
                  go_quiet (fail)
                  go_wp2_with fail
                  go_quiet (fail)
                  go_wp2
                  go_roundw
                  case rel => exact ⟨k + 1, _, by omega, by go_num, by rw [HN2.out]; rfl, by rw [HS2.out], rfl⟩
                  case measure => simp [intOf]; omega
                · have HS2 := Lib.hid (HMis.out hn)
                  have z4 : (y.num == x.src) = false := by simpa using hn
                  clear hn HHit HMis H3 hrl
                  go_wp2_with fail
                  go_quiet (fail)
                  go_wp2_with fail
                  go_quiet (fail)
                  go_wp2
                  go_roundw
                  case rel => exact ⟨k + 1, _, by omega, by go_num, by rw [HN2.out]; rfl, by rw [HS2.out], rfl⟩
                  case measure => simp [intOf]; omega
              · have HN2 := Lib.hid (show room (it.take (k + 1)) x.box = rk by rw [HNr.out, if_neg hb]; rfl)
                have z5 : (y.box == x.box) = false := by simpa using hb
                clear hb HNr
                by_cases hn : y.num = x.src
                · obtain ⟨z1, z2, z3⟩ := H3.out hn
                  have HS2 := Lib.hid (HHit.out hn)
                  rw [hn] at h0
                  rw [z1] at h3
                  rw [z2] at h4
                  have z4 : decide (y.day ≤ x.day) = true := decide_eq_true z3
                  clear hn z1 z2 z3 HHit HMis H3 hrl
                  go_wp2_with fail
                  go_quiet (fail)
                  go_wp2_with fail
                  go_quiet (fail)
                  go_wp2_with fail
                  go_quiet (fail)
                  go_wp2
                  go_roundw
                  case rel => exact ⟨k + 1, _, by omega, by go_num, by rw [HN2.out], by rw [HS2.out], rfl⟩
                  case measure => simp [intOf]; omega
                · have HS2 := Lib.hid (HMis.out hn)
                  have z4 : (y.num == x.src) = false := by simpa using hn
                  clear hn HHit HMis H3 hrl
                  go_wp2_with fail
                  go_quiet (fail)
                  go_wp2_with fail
                  go_quiet (fail)
                  go_wp2
                  go_roundw
                  case rel => exact ⟨k + 1, _, by omega, by go_num, by rw [HN2.out], by rw [HS2.out], rfl⟩
                  case measure => simp [intOf]; omega
            · obtain rfl : k = it.length := by omega
              have HRa := Lib.hid (show room (it.take it.length) x.box ≤ 12 by rw [List.take_length]; exact HR1.out)
              rw [HR4.out]
              generalize room (it.take it.length) x.box = rk at *
              have t3 : decide ((it.length : Int) < (it.length : Int)) = false := decide_eq_false (by omega)
              have z1 : decide ((rk : Int) > 12) = false := decide_eq_false (by have := HRa.out; omega)
              have z2 : decide ((12 : Int) < (rk : Int)) = false := decide_eq_false (by have := HRa.out; omega)
              have z3 : decide (x.day > dy) = false := decide_eq_false (by have := HR2.out; omega)
              have z4 : decide (dy < x.day) = false := decide_eq_false (by have := HR2.out; omega)
              have g2 : (w5.drewN p).cell? ⟨b1, o1 + j * 7 + 2, none⟩ = some (.int .i64 x.day) := g2
              go_wp2
              go_roundw
              case rel => exact ⟨j + 1, _, by omega, by go_num, rfl⟩
              case measure => simp [intOf]; omega
        · have t2 : decide ((j : Int) < (it.length : Int)) = false := decide_eq_false (by omega)
          replace HT := Lib.hid (HT.out.below (below_drewN (Below.refl _ _) q))
          go_wp2_with fail
          refine (works_any _ HT.out).mono ?_
          rintro e wz ⟨v, rfl, rfl, hBz⟩
          go_wp2
          go_ret
          exact Ret.mk ⟨rfl, below_trans' (below_drewN HB4.out q) hBz⟩
end Go.Proofs.YtkpmmgeffbhngaaGreatDoor
namespace Go.Proofs.YtkpmmgeffbhngaaGreatDoor
open Go.ChangeShapes Go.WideShapes Go.ChangeAt Go.RowKit
set_option maxRecDepth 100000 in
theorem protocolKept_lifted (os : Os) (started : os.Started) (H : Type) (enc : TypeId × Value → H) :
    ReturnsInHanded {} Tryz.checked os 12 .any (fun w args => (Rows.protocolKeptSpec.pre enc Tryz.prog Tryz.f12 [] false w args ∧ laidMetH Tryz.prog laidT w) ∧ sizedMet enc Tryz.prog Tryz.f12 (OpenSpec.ofChange Rows.protocolKeptSpec) false w args)
      (Rows.protocolKeptSpec.post enc Tryz.prog Tryz.f12 false true false false) := by
  refine returnsInHanded_and_shaped (C := Tryz.checked) (X := fun w _ => laidMetH Tryz.prog laidT w) (fun _ _ _ hh h => h.of_heap hh) Tryz.own started (by kernel_rfl) Tryz.func12
    (ChangeSpec.witness_shaped (enc := enc) (C := Tryz.checked) (os := os) (X := fun w _ => laidMetH Tryz.prog laidT w) false (World.laidAll Tryz.prog os laidT) #[.string ⟨#[]⟩] 8 (World.laidAll_os _ _ _) (laid_shaped os _) (by kernel_rfl) (by kernel_rfl) (by kernel_rfl) (laid_met os _)) ?_
  intro W base args ds gs before hval0 hW hL hsh
  have hval : ∀ (j : Nat) t v, Tryz.f12.params[j]? = some t → args[j]? = some v → Value.okWide Tryz.prog W .any base t v := hval0
  have hW' := hW
  have hlt : ∀ p ∈ before, p.block < W.heap.size := fun p hp => hW.lt p hp
  obtain ⟨p, q, hA0, hV, rfl, hfz, hnd⟩ := hW
  have hA : DataW.TrodAll enc Tryz.prog W 0 (fun _ => true) true Tryz.f12.params.toList args.toList ds p := hA0
  rw [Tryz.params12] at hA hval
  have hA1 := hA
  have hT := of_laid hL hsh
  obtain ⟨v0, d0, rfl, rfl, h0⟩ := trodAll_one hA
  obtain ⟨rfl, rfl⟩ := trodVars_none hV
  obtain ⟨s0, rfl, rfl, rfl, ws0⟩ := Go.ChangeMaps.open_string Tryz.underlying9 (hval 0 9 v0 rfl rfl) h0
  obtain ⟨l, rfl⟩ : ∃ l, s0 = bs l := ⟨_, bs_of s0⟩
  refine (protocolKept_any l W hT).mono fun e W' he => ?_
  obtain ⟨v, rfl, rfl, hB⟩ := he
  exact ⟨_, rfl, post_of_below (pa := _) (pv := []) hW' (fun b sp hd => trodAll_mk1 (resTrue b sp hd W')) (fun sp hsp => all_again' hB (by kernel_rfl) hA1 (fun x hx => hlt x (by simp at hx)) (fun x hx => hsp x (by simp at hx))) (fun _ _ => rfl) rfl hB (ok_one (by kernel_rfl) rfl (okWide_bool_mk Tryz.underlying4 true))⟩
theorem protocolKept_p : (Rows.protocolKeptRow.inPlace == Tryz.prog.inPlace 12) = true := by kernel_rfl
theorem protocolKept_u : (Rows.protocolKeptRow.unfollowed == Tryz.prog.unfollowed 12) = true := by kernel_rfl
theorem protocolKept_r : (Rows.protocolKeptRow.recurses == Tryz.prog.recurses 12) = true := by kernel_rfl
theorem protocolKept_n : (Rows.protocolKeptRow.named == Tryz.prog.varsNamed 12) = true := by kernel_rfl
theorem protocolKept_row : Rows.ProtocolKeptSaid :=
  OpenClaim.holds_of_wide 12 Tryz.f12 rfl rfl rfl rfl rfl rfl rfl ⟨rfl, rfl, rfl, rfl, rfl⟩ rfl rfl rfl rfl rfl (by kernel_rfl) Tryz.func12
    (joined_of (by kernel_rfl) (by kernel_rfl) (by kernel_rfl) rfl rfl protocolKept_p protocolKept_u protocolKept_r protocolKept_n (by kernel_rfl) (by kernel_rfl) (by kernel_rfl) (by kernel_rfl) (by kernel_rfl) (by kernel_rfl) (by kernel_rfl) (by kernel_rfl) (by kernel_rfl) (by kernel_rfl) rfl rfl rfl (by kernel_rfl) (by kernel_rfl) (by kernel_rfl) (by kernel_rfl))
    (of_decide_eq_true (by kernel_rfl)) (by unfold Func.isWrapper; first | (rw [if_pos (by decide +kernel)]; kernel_rfl) | (rw [if_neg (by decide +kernel)]; exact ⟨rfl, rfl⟩))
    (fun os started H enc _ => protocolKept_lifted os started H enc)
theorem protocolKept_holds : Rows.ProtocolKeptCardSaid :=
  Claim7.holds_tied_plain_at .later [] [.data, .data, .data, .data, .sentinel, .sentinel, .pinned] true (true, "056ceee57fb0345663cf018f0cf66ba5b95e362946dcabdfc5afb17e57de19a5") true
    protocolKept_row (fun _ h => by cases h) (by kernel_rfl) (fun _ h => by cases h) protocolKept_row_tie rfl ⟨rfl, rfl⟩ (by kernel_rfl) rfl
    (no_stand (show Tryz.prog.funcNamed "mandrel/mandrellaw12.ProtocolKept" = some 12 by kernel_rfl) Tryz.func12 Tryz.jlooks (by kernel_rfl))
    (by kernel_rfl)
end Go.Proofs.YtkpmmgeffbhngaaGreatDoor
