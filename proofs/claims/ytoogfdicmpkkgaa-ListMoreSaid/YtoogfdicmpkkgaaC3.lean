/- Knowing and Without, of a valid sheet. -/
import Derived.Test.YtoogfdicmpkkgaaC2
import Derived.Test.YtoogfdicmpkkgaaPI
namespace Go.Proofs.Ytoogfdicmpkkgaa
open Go.RowKit Go.Shelf Go.Maps Match

theorem knowingS (s : Sh) (k : Nat) (w : World) (hs : ShAt w s) (hv : Sheet s.L s.R s.l s.t) (hk : k < s.l.length) (hf : freeP s k = true) :
    Calls Try.prog 35 #[s.v, .int .i64 k] w (Ret fun v w' => (∃ G c, v = vSheet s.L s.R s.A s.l.length s.ca G (yesT s.t k).length c ∧ ShAt w' ⟨s.L, s.R, s.A, s.ca, G, c, s.l, yesT s.t k⟩) ∧ Below w.heap.size w w') := by
  refine (knowing_any s k w hs).mono ?_
  rintro e w' ⟨v, rfl, ⟨G, c, rfl, h1, h2⟩, hB⟩
  rw [knowT_eq (rise_iff.1 hv.rise).1 (free_not_known hf)] at *
  refine Ret.mk ⟨⟨G, c, rfl, hs.links.below hB, h1, hs.many, ?_, hs.capA, hs.capA', h2⟩, hB⟩
  have := (hv.yes hk hf).known_len
  have e1 : (yesS s k).t.length = s.t.length + 1 := yesT_len s.t k
  have e2 : (yesS s k).l.length = s.l.length := rfl
  have := hv.many
  show (yesT s.t k).length ≤ 900
  rw [yesT_len]
  omega
theorem withoutS (s : Sh) (k : Nat) (w : World) (hs : ShAt w s) (hv : Sheet s.L s.R s.l s.t) :
    Calls Try.prog 36 #[s.v, .int .i64 k] w (Ret fun v w' => (∃ G c H d, v = vSheet s.L s.R G (s.l.eraseIdx k).length c H (noT s.t k).length d ∧ ShAt w' ⟨s.L, s.R, G, c, H, d, s.l.eraseIdx k, noT s.t k⟩) ∧ Below w.heap.size w w') := by
  refine (without_any s k w hs fun x hx => ?_).mono ?_
  · have := hv.bound x hx
    have := hv.many
    omega
  · rintro e w' ⟨v, rfl, ⟨G, c, H, d, rfl, h1, h2, h3, h4, h5⟩, hB⟩
    refine Ret.mk ⟨⟨G, c, H, d, rfl, h1, h4, ?_, ?_, h2, h3, h5⟩, hB⟩
    · have := List.length_eraseIdx_le s.l k
      have := hs.many
      show (s.l.eraseIdx k).length ≤ 1000
      omega
    · have := hs.few
      show (noT s.t k).length ≤ 900
      rw [noT_len]
      omega
theorem ShAt.in_ {w : World} {s : Sh} (h : ShAt w s) : ShIn w s := ⟨h.links, h.known, by have := h.many; omega, by have := h.few; omega, h.capA, h.capA', h.capB⟩
theorem fine_of {s : Sh} (h : Sheet s.L s.R s.l s.t) : fineC s = true := by
  refine fine_iff.2 ⟨?_, h⟩
  have h1 := h.known_len
  have h2 := h.many
  unfold greatC
  rw [Bool.or_eq_false_iff, decide_eq_false_iff_not, decide_eq_false_iff_not]
  omega
theorem inS (A : Option Addr) (ca : Nat) (l : List Int) (n : Int) (w : World) (hl : IntsAt w A l) (hn : l.length ≤ 100000) :
    Calls Try.prog 34 #[.slice A l.length ca, .int .i64 n] w (Ret fun v w' => v = .bool (l.contains n) ∧ Below w.heap.size w w') :=
  (in_any A ca l n w hl hn).mono (by rintro e w' ⟨v, rfl, rfl, q, rfl⟩; exact Ret.mk ⟨rfl, below_drewN (Below.refl _ _) q⟩)
theorem intsS (A B : Option Addr) (ca cb : Nat) (a b : List Int) (w : World) (ha : IntsAt w A a) (hb : IntsAt w B b) (hn : a.length ≤ 100000) (hm : b.length ≤ 100000) :
    Calls Try.prog 29 #[.slice A a.length ca, .slice B b.length cb] w (Ret fun v w' => v = .bool (decide (a = b)) ∧ Below w.heap.size w w') :=
  (ints_any A B ca cb a b w ha hb hn hm).mono (by rintro e w' ⟨v, rfl, rfl, q, rfl⟩; exact Ret.mk ⟨rfl, below_drewN (Below.refl _ _) q⟩)
theorem IntsAt.some_ {w : World} {A : Option Addr} {l : List Int} (h : IntsAt w A l) {i : Nat} (hi : i < l.length) : ∃ b o, A = some ⟨b, o, none⟩ := by
  obtain ⟨b, o, e, _⟩ := h.at_ hi
  exact ⟨b, o, e⟩
theorem IntsAt.get {w : World} {b o : Nat} {l : List Int} (h : IntsAt w (some ⟨b, o, none⟩) l) {i : Nat} (hi : i < l.length) : w.cell? ⟨b, o + i, none⟩ = some (.int .i64 (l.getD i 0)) := by
  obtain ⟨b', o', e, p⟩ := h.at_ hi
  cases e
  rw [p]
  simp [List.getD_eq_getElem?_getD, hi]
end Go.Proofs.Ytoogfdicmpkkgaa
