/- fine. By: a joining of a sheet, by numbers. -/
import Derived.Test.YtoogfdicmpkkgaaA45
namespace Go.Proofs.Ytoogfdicmpkkgaa
open Go.RowKit Go.Shelf Go.Maps Match

def fineC (s : Sh) : Bool := !greatC s && decide (sheetErr s.L s.R s.l s.t = 0)
theorem fine_iff {s : Sh} : fineC s = true ↔ greatC s = false ∧ Sheet s.L s.R s.l s.t := by
  unfold fineC
  rw [Bool.and_eq_true, Bool.not_eq_true', decide_eq_true_eq, sheetErr_iff]

set_option maxHeartbeats 1000000 in
theorem fineS (s : Sh) (w : World) (hs : ShIn w s) : Calls Try.prog 32 #[s.v] w (Ret fun v w' => v = .bool (fineC s) ∧ Below w.heap.size w w') := by
  obtain ⟨L, R, A, ca, B, cb, l, t⟩ := s
  have HS := Lib.hid hs; clear hs
  unfold Sh.v vSheet
  dsimp only
  obtain ⟨w0, hw0⟩ : ∃ w0, w0 = w.alloc (.cells #[.int .i64 L, .int .i64 R, .slice A l.length ca, .slice B t.length cb] 25) := ⟨_, rfl⟩
  have HB0 : Hid (Below w.heap.size w w0) := Lib.hid (by rw [hw0]; exact below_alloc' (Below.refl _ _) _)
  have hX : w0.heap[w.heap.size]? = some (.cells #[.int .i64 L, .int .i64 R, .slice A l.length ca, .slice B t.length cb] 25 (0, 0)) := by rw [hw0]; exact heap_alloc_new _ _
  have y0 : w0.cell? ⟨w.heap.size, 0, none⟩ = some (.int .i64 L) := (blk_cell hX).trans rfl
  have y1 : w0.cell? ⟨w.heap.size, 1, none⟩ = some (.int .i64 R) := (blk_cell hX).trans rfl
  have y2 : w0.cell? ⟨w.heap.size, 2, none⟩ = some (.slice A l.length ca) := (blk_cell hX).trans rfl
  have y3 : w0.cell? ⟨w.heap.size, 3, none⟩ = some (.slice B t.length cb) := (blk_cell hX).trans rfl
  have Hg := Lib.hid (greatS ⟨L, R, A, ca, B, cb, l, t⟩ w0 (HS.out.below HB0.out))
  clear hX
  go_enter Try.func32, Try.ntmps32
  go_upto_region 1 with fail
  rw [← hw0]
  clear hw0
  go_wp2_with fail
  refine Hg.out.mono ?_
  rintro e w1 ⟨v, rfl, rfl, hb⟩
  have HB1 := Lib.hid (below_trans' HB0.out hb)
  replace y0 := cell_below hb y0
  replace y1 := cell_below hb y1
  replace y2 := cell_below hb y2
  replace y3 := cell_below hb y3
  clear hb HB0 Hg
  by_cases hgc : greatC ⟨L, R, A, ca, B, cb, l, t⟩ = true
  · rw [hgc]
    have HF : Hid (fineC ⟨L, R, A, ca, B, cb, l, t⟩ = false) := Lib.hid (by unfold fineC; rw [hgc]; rfl)
    go_wp2
    go_ret
    exact Ret.mk' (congrArg Value.bool HF.out.symm) ⟨rfl, HB1.out⟩
  · rw [Bool.not_eq_true] at hgc
    rw [hgc]
    have HF : Hid (fineC ⟨L, R, A, ca, B, cb, l, t⟩ = decide (sheetErr L R l t = 0)) := Lib.hid (by unfold fineC; rw [hgc]; rfl)
    have Hc := Lib.hid (refCheckSheetS _ w1 ((HS.out.below HB1.out).at hgc))
    dsimp only at Hc
    go_wp2_with fail
    refine Hc.out.mono ?_
    rintro e w2 ⟨v, rfl, rfl, hb⟩
    have HB2 := Lib.hid (below_trans' HB1.out hb)
    clear hb Hc
    dsimp only
    generalize sheetErr L R l t = x at HF ⊢
    go_wp2
    go_ret
    exact Ret.mk' (congrArg Value.bool (by rw [HF.out]; rfl)) ⟨rfl, HB2.out⟩
def encU (x : Int) : List Value := [.int .u8 x]
def U8At (w : World) (A : Option Addr) (l : List Int) : Prop := RowsAt encU 1 w A l
theorem U8At.at_ {w : World} {A : Option Addr} {l : List Int} (h : U8At w A l) {i : Nat} (hi : i < l.length) : ∃ b off, A = some ⟨b, off, none⟩ ∧ w.cell? ⟨b, off + i, none⟩ = some (.int .u8 l[i]) := by
  obtain ⟨b, off, hA, hc⟩ := h i hi
  exact ⟨b, off, hA, by have := hc 0 _ rfl; simpa using this⟩
/-- which links are taken: 1, or 0 -/
structure InOk (s : Sh) (f : Nat → Int) : Prop where
  vals : ∀ m, f m = 0 ∨ f m = 1
  known : ∀ x ∈ s.t, f x.toNat = 1
  apart : ∀ a b : Nat, a < s.l.length → b < s.l.length → f a = 1 → f b = 1 → a ≠ b → Apart s.l a b
def knownF (t : List Int) (k m : Nat) : Int := if (m : Int) ∈ t.take k then 1 else 0
theorem knownF_step {t : List Int} {k : Nat} (hk : k < t.length) (h0 : 0 ≤ t[k]) : (fun m => if m = t[k].toNat then 1 else knownF t k m) = knownF t (k + 1) := by
  funext m
  unfold knownF
  rw [List.take_succ_eq_append_getElem hk]
  by_cases e : m = t[k].toNat
  · rw [if_pos e, if_pos (List.mem_append.2 (.inr (List.mem_singleton.2 (by omega))))]
  · rw [if_neg e]
    by_cases hm : (m : Int) ∈ t.take k
    · rw [if_pos hm, if_pos (List.mem_append.2 (.inl hm))]
    · rw [if_neg hm, if_neg (fun q => (List.mem_append.1 q).elim hm (fun q => e (by have := List.mem_singleton.1 q; omega)))]
theorem knownF_ok {s : Sh} (h : Sheet s.L s.R s.l s.t) : InOk s (knownF s.t s.t.length) := by
  have hr := rise_iff.1 h.rise
  have hm : ∀ m : Nat, knownF s.t s.t.length m = 1 → (m : Int) ∈ s.t := fun m hm => by
    unfold knownF at hm
    rw [List.take_length] at hm
    split at hm
    · rename_i q; exact q
    · omega
  refine ⟨fun m => by unfold knownF; split <;> simp, fun x hx => ?_, fun a b _ _ ha hb hne => ?_⟩
  · have := hr.2 x hx
    unfold knownF
    rw [List.take_length, if_pos (by rw [show ((x.toNat : Nat) : Int) = x by omega]; exact hx)]
  · have ha' := hm a ha
    have hb' := hm b hb
    have hp : ∀ {l : List Int}, l.Pairwise (Apart s.l) → (a : Int) ∈ l → (b : Int) ∈ l → Apart s.l a b := by
      intro l hl
      induction hl with
      | nil => intro a; simp at a
      | cons hh _ ih =>
        intro a b
        rcases List.mem_cons.1 a with e1 | a1
        · rcases List.mem_cons.1 b with e2 | b1
          · exact absurd (by omega) hne
          · rw [e1]; exact hh _ b1
        · rcases List.mem_cons.1 b with e2 | b1
          · rw [e2]; exact (hh _ a1).symm
          · exact ih a1 b1
    exact hp (single_iff.1 h.single) ha' hb'
def okF (f : Nat → Int) (l : List (Int × Int)) (k m : Nat) : Bool := (f m == 0) || (decide ((atL l m).1 ≠ (atL l k).1) && decide ((atL l m).2 ≠ (atL l k).2))
def freeF (f : Nat → Int) (l : List (Int × Int)) (k m : Nat) : Bool := (List.range m).all (okF f l k)
theorem freeF_step (f : Nat → Int) (l : List (Int × Int)) (k m : Nat) : freeF f l k (m + 1) = (freeF f l k m && okF f l k m) := by unfold freeF; rw [List.range_succ, List.all_append]; simp
theorem InOk.put {s : Sh} {f : Nat → Int} (h : InOk s f) {k : Nat} (hf : freeF f s.l k s.l.length = true) : InOk s (fun m => if m = k then 1 else f m) := by
  have hk : ∀ a : Nat, a < s.l.length → f a = 1 → Apart s.l a k := fun a ha h1 => by
    have := List.all_eq_true.1 hf a (List.mem_range.2 ha)
    unfold okF at this
    rw [h1] at this
    unfold Apart meetB
    rw [Bool.or_eq_false_iff, beq_eq_false_iff_ne, beq_eq_false_iff_ne]
    simpa using this
  refine ⟨fun m => ?_, fun x hx => ?_, fun a b ha hb h1 h2 hne => ?_⟩
  · split
    · exact .inr rfl
    · exact h.vals m
  · split
    · rfl
    · exact h.known x hx
  · by_cases e1 : a = k
    · subst e1
      rw [if_neg (fun e => hne e.symm)] at h2
      exact (hk b hb h2).symm
    · rw [if_neg e1] at h1
      by_cases e2 : b = k
      · subst e2; exact hk a ha h1
      · rw [if_neg e2] at h2; exact h.apart a b ha hb h1 h2 hne
def takenL (f : Nat → Int) (n : Nat) : List Int := ((List.range n).filter fun m => f m == 1).map fun x : Nat => (x : Int)
theorem takenL_step (f : Nat → Int) (n : Nat) : takenL f (n + 1) = if f n = 1 then takenL f n ++ [(n : Int)] else takenL f n := by
  unfold takenL
  rw [List.range_succ, List.filter_append, List.filter_cons, List.filter_nil]
  by_cases h : f n = 1
  · simp [h]
  · simp [h]
theorem takenL_len (f : Nat → Int) (n : Nat) : (takenL f n).length ≤ n := by
  unfold takenL; rw [List.length_map]
  exact Nat.le_trans (List.length_filter_le _ _) (by simp)
theorem InOk.joining {s : Sh} {f : Nat → Int} (h : InOk s f) (hs : Sheet s.L s.R s.l s.t) : IsJ s (takenL f s.l.length) := by
  have hr := rise_iff.1 hs.rise
  have hm : ∀ x ∈ takenL f s.l.length, ∃ m : Nat, x = m ∧ m < s.l.length ∧ f m = 1 := fun x hx => by
    obtain ⟨m, hm, rfl⟩ := List.mem_map.1 hx
    obtain ⟨h1, h2⟩ := List.mem_filter.1 hm
    exact ⟨m, rfl, List.mem_range.1 h1, by simpa using h2⟩
  have hp : (takenL f s.l.length).Pairwise (· < ·) := (rise_iff.1 (filter_rise (fun m => f m == 1) s.l.length)).1
  refine ⟨hp, fun x hx => ?_, ?_, fun x hx => ?_⟩
  · obtain ⟨m, rfl, h1, _⟩ := hm x hx; omega
  · refine hp.imp_of_mem fun {a b} ha hb hab => ?_
    obtain ⟨a, rfl, a1, a2⟩ := hm a ha
    obtain ⟨b, rfl, b1, b2⟩ := hm b hb
    exact h.apart a b a1 b1 a2 b2 (by omega)
  · have hb := hr.2 x hx
    exact List.mem_map.2 ⟨x.toNat, List.mem_filter.2 ⟨List.mem_range.2 (by omega), by rw [h.known x hx]; rfl⟩, by omega⟩
end Go.Proofs.Ytoogfdicmpkkgaa
