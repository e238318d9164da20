/- symMerge of tones. -/
import Derived.Test.YtkjmeeggjmeajaaSO6
namespace Go.Proofs.Ytkjmeeggjmeajaa
open Go.RowKit

/-- what symMerge does with two ordered lists beside each other -/
def SymOk (base g c n : Nat) (X Y : List Tone) : Prop := ∀ (a m b : Nat) (P S : List Tone) (w : World), TRow w base g c n (P ++ X ++ Y ++ S) → P.length = a → a + X.length = m → m + Y.length = b →
  Calls Try.prog 87 #[.slice (some ⟨g, 0, none⟩) n c, .int .i64 a, .int .i64 m, .int .i64 b, .func (.func 60) #[] #[]] w (Ret fun _ w' => (∃ Z, Z.Perm (X ++ Y) ∧ ByHi Z ∧ TRow w' base g c n (P ++ Z ++ S)) ∧ w.grownBy w' (some g))
/-- the upper end of the tone at a place of a list that begins at s -/
def keyAt (X : List Tone) (s k : Nat) : Int := (X.getD (k - s) (0, 0, 0)).2.1
theorem keyAt_get {X : List Tone} {s k : Nat} (h : k - s < X.length) : keyAt X s k = X[k - s].2.1 := by
  unfold keyAt; rw [List.getD_eq_getElem?_getD, List.getElem?_eq_getElem h]; rfl
theorem ByHi.parts {X Y : List Tone} {k l : Nat} (hX : ByHi X) (hY : ByHi Y) (h1 : k = 0 ∨ Y.length ≤ l ∨ keyAt X 0 (k - 1) ≤ keyAt Y 0 l) (h2 : l = 0 ∨ X.length ≤ k ∨ keyAt Y 0 (l - 1) < keyAt X 0 k) (hk : k ≤ X.length) (hl : l ≤ Y.length) :
    ∀ x ∈ X.take k ++ Y.take l, ∀ y ∈ X.drop k ++ Y.drop l, x.2.1 ≤ y.2.1 := by
  intro x hx y hy
  rcases List.mem_append.1 hx with hx | hx <;> rcases List.mem_append.1 hy with hy | hy
  · have := hX; unfold ByHi at this; rw [← List.take_append_drop k X, List.pairwise_append] at this
    exact this.2.2 x hx y hy
  · have hk0 : k ≠ 0 := fun e => by subst e; simp at hx
    have hlY : l < Y.length := by
      rcases Nat.lt_or_ge l Y.length with h | h
      · exact h
      · rw [List.drop_of_length_le h] at hy; simp at hy
    rcases h1 with h1 | h1 | h1
    · exact absurd h1 hk0
    · omega
    · rw [keyAt_get (by omega), keyAt_get (by simpa using hlY)] at h1
      simp only [Nat.sub_zero] at h1
      have a1 := hX.take_le (k := k - 1) (by omega) (Int.le_refl _) x (by rw [show k - 1 + 1 = k by omega]; exact hx)
      have a2 := hY.drop_ge hlY (Int.le_refl _) y hy
      omega
  · have hl0 : l ≠ 0 := fun e => by subst e; simp at hx
    have hkX : k < X.length := by
      rcases Nat.lt_or_ge k X.length with h | h
      · exact h
      · rw [List.drop_of_length_le h] at hy; simp at hy
    rcases h2 with h2 | h2 | h2
    · exact absurd h2 hl0
    · omega
    · rw [keyAt_get (by omega), keyAt_get (by simpa using hkX)] at h2
      simp only [Nat.sub_zero] at h2
      have a1 := hY.take_le (k := l - 1) (by omega) (Int.le_refl _) x (by rw [show l - 1 + 1 = l by omega]; exact hx)
      have a2 := hX.drop_ge hkX (Int.le_refl _) y hy
      omega
  · have := hY; unfold ByHi at this; rw [← List.take_append_drop l Y, List.pairwise_append] at this
    exact this.2.2 x hx y hy
theorem keyAt_shift {X : List Tone} {s k : Nat} : keyAt X s k = keyAt X 0 (k - s) := rfl
theorem ByHi.sub {X Y : List Tone} (h : ByHi X) (hs : Y.Sublist X) : ByHi Y := List.Pairwise.sublist hs h
theorem ByHi.join {A B Z1 Z2 : List Tone} (h1 : ByHi Z1) (h2 : ByHi Z2) (p1 : Z1.Perm A) (p2 : Z2.Perm B) (h : ∀ x ∈ A, ∀ y ∈ B, x.2.1 ≤ y.2.1) : ByHi (Z1 ++ Z2) := by
  unfold ByHi; rw [List.pairwise_append]
  exact ⟨h1, h2, fun x hx y hy => h x (p1.subset hx) y (p2.subset hy)⟩

theorem perm_cross (X1 Y1 X2 Y2 : List Tone) : ((X1 ++ Y1) ++ (X2 ++ Y2)).Perm ((X1 ++ X2) ++ (Y1 ++ Y2)) := by
  rw [List.append_assoc, List.append_assoc]
  refine List.Perm.append_left X1 ?_
  rw [← List.append_assoc, ← List.append_assoc]
  exact List.Perm.append_right Y2 List.perm_append_comm
/-- the state behind the search: where the lists are parted -/
structure Parted (X Y : List Tone) (a m b mid s e : Nat) : Prop where
  from_ : a ≤ s
  sm : s ≤ m
  me : m ≤ e
  eb : e ≤ b
  sum : s + e = mid + m
  lo : s = a ∨ e = b ∨ keyAt X a (s - 1) ≤ keyAt Y m e
  hi : s = m ∨ e = m ∨ keyAt Y m (e - 1) < keyAt X a s
theorem Parted.law {X Y : List Tone} {a m b mid s e : Nat} (h : Parted X Y a m b mid s e) (hX : ByHi X) (hY : ByHi Y) (e1 : a + X.length = m) (e2 : m + Y.length = b) :
    ∀ x ∈ X.take (s - a) ++ Y.take (e - m), ∀ y ∈ X.drop (s - a) ++ Y.drop (e - m), x.2.1 ≤ y.2.1 := by
  have := h.from_; have := h.sm; have := h.me; have := h.eb
  refine ByHi.parts hX hY ?_ ?_ (by omega) (by omega)
  · rcases h.lo with h1 | h1 | h1
    · exact .inl (by omega)
    · exact .inr (.inl (by omega))
    · rw [keyAt_shift (X := X), keyAt_shift (X := Y), show s - 1 - a = s - a - 1 by omega] at h1; exact .inr (.inr h1)
  · rcases h.hi with h1 | h1 | h1
    · exact .inr (.inl (by omega))
    · exact .inl (by omega)
    · rw [keyAt_shift (X := X), keyAt_shift (X := Y), show e - 1 - m = e - m - 1 by omega] at h1; exact .inr (.inr h1)
end Go.Proofs.Ytkjmeeggjmeajaa
