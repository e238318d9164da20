/- What the laws of the chapter rest on, part 09. -/
import Derived.Test.YtkpmmgeffbhngaaGreatDoorC04
set_option linter.unusedSimpArgs false
set_option linter.unusedVariables false
set_option linter.unnecessarySimpa false
namespace Prot
end Prot
namespace Go.Shelf
end Go.Shelf
namespace Go.Maps
end Go.Maps
namespace Go.Proofs.YtkpmmgeffbhngaaGreatDoor
open Go.RowKit Prot Go.Lib Go.Maps
section
variable {α : Type} {enc : α → List Value} {e : TypeId} {size bytes : Nat} {z : Value}
end
section
variable {α : Type} {enc : α → List Value} {e : TypeId} {size bytes : Nat} {z : Value}
end
/-- a list of cylinders as a row of its own -/
def OwnIt (w : World) (b0 : Nat) (A : Option Addr) (ca : Nat) (l : List It) : Prop := w.ownsRow b0 67 7 (.slice A l.length ca) l.length (l.flatMap encIt)
theorem OwnIt.facts {w : World} {b0 : Nat} {A : Option Addr} {ca : Nat} {l : List It} (h : OwnIt w b0 A ca l) : ItemsAt w A l ∧ (A = none → ca = 0) ∧ l.length ≤ ca ∧ ∀ g o, A = some ⟨g, o, none⟩ → b0 ≤ g ∧ o = 0 ∧ g < w.heap.size := by
  have hR := RowsAt.of_own encIt_len h
  rcases h.2 with ⟨e, _⟩ | ⟨g, cap, cur, e, hb, hh, hc, _⟩
  · injection e with e1 e2 e3
    subst e1; subst e3
    exact ⟨hR, (fun _ => rfl), by omega, fun g o h => (by cases h)⟩
  · injection e with e1 e2 e3
    subst e1; subst e3
    exact ⟨hR, (fun h => by cases h), hc, fun g' o h => (by injection h with h; injection h with h1 h2; subst h1; exact ⟨hb, h2.symm, blk_lt hh⟩)⟩
theorem OwnIt.below {w w' : World} {b0 : Nat} {A : Option Addr} {ca : Nat} {l : List It} (h : OwnIt w b0 A ca l) (hb : Below w.heap.size w w') : OwnIt w' b0 A ca l := own_below' h hb
/-- what Do of the definition answers -/
def DoQ (j : Jn) (c : Card) (b0 : Nat) (w : World) (v : Value) (w' : World) : Prop :=
  (∃ A ca, v = .tuple #[vState (doV j c).1 A ca, .int .i64 (doV j c).2] ∧ OwnIt w' b0 A ca (doV j c).1.items) ∧ Below w.heap.size w w'
theorem DoQ.mk {j : Jn} {c : Card} {b0 : Nat} {w w' : World} {v : Value} {dy op e : Int} {items : List It} {A : Option Addr} {ca n : Nat} (h : doV j c = (⟨dy, op, items⟩, e)) (hv : v = .tuple #[.agg #[.int .i64 dy, .int .i64 op, .slice A n ca], .int .i64 e]) (hn : items.length = n) (hI : w'.ownsRow b0 67 7 (.slice A n ca) n (items.flatMap encIt)) (hB : Below w.heap.size w w') : DoQ j c b0 w v w' :=
  ⟨⟨A, ca, by rw [h]; dsimp only [vState]; rw [hn]; exact hv, by rw [h]; dsimp only [OwnIt]; rw [hn]; exact hI⟩, hB⟩
section
variable {w : World} {b : Nat} {a0 a1 a2 : Value} {ty : TypeId}
end
/-- where all lies behind the copy: the state, the card, the result, the copy and the list itself -/
structure DoW (b0 : Nat) (w W : World) (j : Jn) (c : Card) (A : Option Addr) (ca : Nat) (G : Option Addr) (gc : Nat) : Prop where
  st : W.heap[w.heap.size]? = some (.cells #[.int .i64 j.day, .int .i64 j.opn, .slice A j.items.length ca] 108 (0, 0))
  card : W.heap[w.heap.size + 1]? = some (.cells #[.int .i64 c.1, .int .i64 c.2.1, .int .i64 c.2.2.1, .int .i64 c.2.2.2] 36 (0, 0))
  res : W.heap[w.heap.size + 2]? = some (.cells #[.int .i64 0, .int .i64 0, .slice none 0 0] 108 (0, 0))
  own : W.ownsRow (w.heap.size + 3) 67 7 (.slice G j.items.length gc) j.items.length (j.items.flatMap encIt)
  inp : OwnIt W b0 A ca j.items
  below : Below w.heap.size w W
theorem DoW.drewN {b0 : Nat} {w W : World} {j : Jn} {c : Card} {A G : Option Addr} {ca gc : Nat} (h : DoW b0 w W j c A ca G gc) (q : Nat) : DoW b0 w (W.drewN q) j c A ca G gc := ⟨h.st, h.card, h.res, h.own, h.inp, below_drewN h.below q⟩
theorem DoW.go {b0 : Nat} {w W V : World} {j : Jn} {c : Card} {A G : Option Addr} {ca gc : Nat} (h : DoW b0 w W j c A ca G gc) (hb : Below W.heap.size W V) : DoW b0 w V j c A ca G gc :=
  ⟨blk_below hb h.st, blk_below hb h.card, blk_below hb h.res, own_below' h.own hb, h.inp.below hb, below_trans' h.below hb⟩
theorem DoW.rows {b0 : Nat} {w W : World} {j : Jn} {c : Card} {A G : Option Addr} {ca gc : Nat} (h : DoW b0 w W j c A ca G gc) : ItemsAt W A j.items := h.inp.facts.1
theorem DoW.drew {b0 : Nat} {w W : World} {j : Jn} {c : Card} {A G : Option Addr} {ca gc : Nat} (h : DoW b0 w W j c A ca G gc) : DoW b0 w W.drew j c A ca G gc := ⟨h.st, h.card, h.res, h.own, h.inp, h.below.drew⟩
/-- the copy, as rows; and where it lies -/
theorem DoW.copy {b0 : Nat} {w W : World} {j : Jn} {c : Card} {A G : Option Addr} {ca gc : Nat} (h : DoW b0 w W j c A ca G gc) : ItemsAt W G j.items ∧ (G = none → gc = 0) ∧ j.items.length ≤ gc ∧ ∀ g o, G = some ⟨g, o, none⟩ → w.heap.size + 3 ≤ g ∧ o = 0 := by
  have hR := RowsAt.of_own encIt_len h.own
  rcases h.own.2 with ⟨e, _⟩ | ⟨g, cap, cur, e, hb, hh, hc, _⟩
  · injection e with e1 e2 e3
    subst e1; subst e3
    exact ⟨hR, (fun _ => rfl), by omega, fun g o h => (by cases h)⟩
  · injection e with e1 e2 e3
    subst e1; subst e3
    exact ⟨hR, (fun h => by cases h), hc, fun g' o h => (by injection h with h; injection h with h1 h2; subst h1; exact ⟨hb, h2.symm⟩)⟩
end Go.Proofs.YtkpmmgeffbhngaaGreatDoor
namespace Prot
/-- the indexes of the cards that count -/
def countsOf (cs : List Card) : List Int := ((List.range cs.length).filter fun i => decide (cs.getD i zeroC ≠ zeroC)).map fun (i : Nat) => ((i : Nat) : Int)
theorem mem_countsOf {cs : List Card} {k : Int} : k ∈ countsOf cs ↔ 0 ≤ k ∧ k.toNat < cs.length ∧ cs.getD k.toNat zeroC ≠ zeroC := by
  unfold countsOf
  rw [List.mem_map]
  constructor
  · rintro ⟨i, hi, rfl⟩
    obtain ⟨h1, h2⟩ := List.mem_filter.1 hi
    rw [List.mem_range] at h1
    exact ⟨by omega, by simpa using h1, by simpa using h2⟩
  · rintro ⟨h0, h1, h2⟩
    exact ⟨k.toNat, List.mem_filter.2 ⟨List.mem_range.2 h1, by simpa using h2⟩, by omega⟩
theorem countsOf_snoc (cs : List Card) (c : Card) : countsOf (cs ++ [c]) = countsOf cs ++ (if c = zeroC then [] else [(cs.length : Int)]) := by
  unfold countsOf
  rw [List.length_append, List.length_singleton, List.range_succ, List.filter_append, List.map_append]
  congr 1
  · congr 1
    apply List.filter_congr
    intro i hi
    rw [List.mem_range] at hi
    rw [getD_snoc_lt hi]
  · rw [List.filter_cons, getD_snoc_eq]
    by_cases h : c = zeroC
    · rw [if_pos h]; simp [h]
    · rw [if_neg h]; simp [h]
theorem countsOf_but (cs : List Card) (a : Nat) : countsOf (butC cs a) = (countsOf cs).filter fun k => decide (k ≠ (a : Int)) := by
  unfold countsOf
  rw [butC_len, List.filter_map, List.filter_filter]
  congr 1
  apply List.filter_congr
  intro i hi
  rw [List.mem_range] at hi
  rw [butC_at hi]
  by_cases h : i = a
  · subst h; simp
  · rw [if_neg h]
    have : ¬ ((i : Int) = (a : Int)) := by omega
    simp [h, this]
/-- the lines that count, by their indexes -/
theorem counts_lines : ∀ (ls : List (List UInt8)) (cs : List Card), cs.length = ls.length → fairL ls cs = (countsOf cs).map fun k => ls.getD k.toNat [] := fun ls => by
  induction ls using snoc_ind with
  | h0 =>
    intro cs h
    have : cs = [] := List.eq_nil_of_length_eq_zero (by simpa using h)
    subst this; rfl
  | h1 ls l ih =>
    intro cs h
    have hne : cs ≠ [] := fun e => by subst e; simp at h
    obtain ⟨ds, c, rfl⟩ : ∃ ds c, cs = ds ++ [c] := ⟨cs.dropLast, cs.getLast hne, (List.dropLast_concat_getLast hne).symm⟩
    have hl : ds.length = ls.length := by simpa using h
    have hx : (countsOf ds).map (fun k => (ls ++ [l]).getD k.toNat []) = (countsOf ds).map fun k => ls.getD k.toNat [] := List.map_congr_left fun k hk => by
      have := (mem_countsOf.1 hk).2.1
      rw [List.getD_eq_getElem?_getD, List.getElem?_append_left (by omega), ← List.getD_eq_getElem?_getD]
    rw [countsOf_snoc, List.map_append, hx, ← ih ds hl]
    unfold fairL
    rw [List.zip_append hl.symm, List.filter_append, List.map_append]
    congr 1
    by_cases hc : c = zeroC
    · rw [if_pos hc]; subst hc; rfl
    · rw [if_neg hc]
      show (List.filter (fun p => decide (p.2 ≠ zeroC)) [(l, c)]).map Prod.fst = _
      rw [List.filter_cons_of_pos (by simpa using hc), List.map_cons, List.map_cons, Int.toNat_natCast, hl, List.getD_eq_getElem?_getD, List.getElem?_append_right (Nat.le_refl _)]
      simp
theorem replay_stop {cs : List Card} {i : Nat} {j k : Jn} (hi : i < cs.length) (h : replay (cs.take i) j = some k) (he : (doV k cs[i]).2 ≠ 0) : replay cs j = none := by
  have e : cs = cs.take i ++ cs[i] :: cs.drop (i + 1) := by rw [List.getElem_cons_drop, List.take_append_drop]
  generalize cs[i] = c at *
  rw [e, replay_append, h]
  show (if (doV k c).2 = 0 then replay _ _ else none) = none
  rw [if_neg he]
end Prot
namespace Go.Proofs.YtkpmmgeffbhngaaGreatDoor
open Go.RowKit Prot Go.Lib Go.Maps
def encCd (c : Card) : List Value := [.int .i64 c.1, .int .i64 c.2.1, .int .i64 c.2.2.1, .int .i64 c.2.2.2]
theorem encCd_len (c : Card) : (encCd c).length = 4 := rfl
theorem oneCd (c : Card) : ∀ u ∈ encCd c, u.oneCell' = true := by simp [encCd, Value.oneCell']
theorem elemCd : ElemT 36 4 32 (.agg #[.int .i64 0, .int .i64 0, .int .i64 0, .int .i64 0]) := ⟨by kernel_rfl, rfl, by omega, by omega⟩
def CardsAt (w : World) (A : Option Addr) (l : List Card) : Prop := RowsAt encCd 4 w A l
section
variable {w w' : World} {A : Option Addr} {l : List Card}
theorem CardsAt.at_ (h : CardsAt w A l) {i : Nat} (hi : i < l.length) : ∃ b off, A = some ⟨b, off, none⟩ ∧ w.cell? ⟨b, off + i * 4, none⟩ = some (.int .i64 l[i].1) ∧ w.cell? ⟨b, off + i * 4 + 1, none⟩ = some (.int .i64 l[i].2.1) ∧
    w.cell? ⟨b, off + i * 4 + 2, none⟩ = some (.int .i64 l[i].2.2.1) ∧ w.cell? ⟨b, off + i * 4 + 3, none⟩ = some (.int .i64 l[i].2.2.2) := by
  obtain ⟨b, off, hA, hc⟩ := h i hi
  exact ⟨b, off, hA, hc 0 _ rfl, hc 1 _ rfl, hc 2 _ rfl, hc 3 _ rfl⟩
theorem CardsAt.below (h : CardsAt w A l) (hb : Below w.heap.size w w') : CardsAt w' A l := RowsAt.below h hb
end
theorem rows_old {α : Type} {enc : α → List Value} {k : Nat} {w : World} {A : Option Addr} {l : List α} (hk : ∀ x, (enc x).length = k) (hp : 0 < k) (h : RowsAt enc k w A l) : ∀ g o, A = some ⟨g, o, none⟩ → l ≠ [] → g < w.heap.size := fun g o e hne => by
  have hl : 0 < l.length := Nat.pos_of_ne_zero fun e => hne (List.eq_nil_of_length_eq_zero e)
  obtain ⟨b, off, hA, hc⟩ := h 0 hl
  rw [e] at hA
  injection hA with hA
  injection hA with h1 h2
  subst h1
  have hx : 0 < (enc l[0]).length := by rw [hk]; exact hp
  exact block_lt_of_cell (hc 0 _ (List.getElem?_eq_getElem hx))
end Go.Proofs.YtkpmmgeffbhngaaGreatDoor
namespace Prot
open Go.Lib
theorem lines_err {ls : List (List UInt8)} (h : ∀ l ∈ ls, NoNl l) (hn : ls.length ≤ 60) (hl : (textL ls).length ≤ 65536) : textErr (textL ls) = 0 := by
  have e4 := text_ends ls
  unfold textErr
  rw [if_neg (by omega), if_neg, if_neg (by rw [text_count h]; omega)]
  rintro ⟨k1, k2⟩
  rcases e4 with e | e
  · exact k1 e
  · exact k2 e
theorem runA_lines {ls : List (List UInt8)} (h : ∀ l ∈ ls, NoNl l) (hn : ls.length ≤ 60) (hl : (textL ls).length ≤ 65536) : runA (textL ls) = ((runV ls).errs, 0) := by
  unfold runA
  rw [if_neg (fun k => k (lines_err h hn hl)), rows_of h]
theorem textL_take (ls : List (List UInt8)) (n : Nat) : (textL (ls.take n)).length ≤ (textL ls).length := by
  conv => rhs; rw [← List.take_append_drop n ls]
  rw [textL_append, List.length_append]; omega
section
variable {t : List UInt8} (h : textErr t = 0)
include h
theorem fair_text : fairA t = (textL (fairL (rowsL t) (runV (rowsL t)).cards), 0) := by unfold fairA; rw [if_neg (fun k => k h)]
theorem state_text : stateA t = (toldL (runV (rowsL t)).jn.items, 0) := by unfold stateA; rw [if_neg (fun k => k h)]
theorem run_text : runA t = ((runV (rowsL t)).errs, 0) := by unfold runA; rw [if_neg (fun k => k h)]
end
end Prot
