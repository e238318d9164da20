/- rotate of tones. -/
import Derived.Test.YtkjmeeggjmeajaaSO3
namespace Go.Proofs.Ytkjmeeggjmeajaa
open Go.RowKit

set_option maxRecDepth 100000 in
set_option maxHeartbeats 1000000 in
theorem rotate_any (base g c n a m b : Nat) (P X Y S : List Tone) (w : World) (hrow : TRow w base g c n (P ++ X ++ Y ++ S)) (hn : n ≤ 1000) (hc : n ≤ c) (hP : P.length = a) (hX : a + X.length = m) (hY : m + Y.length = b) (hx : 0 < X.length) (hy : 0 < Y.length) (f : Value) :
    Calls Try.prog 94 #[.slice (some ⟨g, 0, none⟩) n c, .int .i64 a, .int .i64 m, .int .i64 b, f] w (Ret fun _ w' => TRow w' base g c n (P ++ Y ++ X ++ S) ∧ w.grownBy w' (some g)) := by
  have hbn : b ≤ n := by have := hrow.1; simp at this; omega
  have Hrow := Lib.hid hrow; clear hrow
  have HP := Lib.hid hP; clear hP
  have HX := Lib.hid hX; clear hX
  have HY := Lib.hid hY; clear hY
  have Hx := Lib.hid hx; clear hx
  have Hy := Lib.hid hy; clear hy
  have ham : a ≤ m := by have := HX.out; omega
  have hmb : m ≤ b := by have := HY.out; omega
  have g1 : IntKind.i64.wrap ((m : Int) - (a : Int)) = (m : Int) - (a : Int) := IntWalk.i64_in _ (by omega)
  have g2 : IntKind.i64.wrap ((b : Int) - (m : Int)) = (b : Int) - (m : Int) := IntWalk.i64_in _ (by omega)
  go_enter Try.func94, Try.ntmps94
  go_wp2
  go_loopw [10, 11] (fun vi vj wr => ∃ (i j : Nat) (P' X' Y' S' : List Tone), vi = .int .i64 i ∧ vj = .int .i64 j ∧ i = X'.length ∧ j = Y'.length ∧ 0 < i ∧ 0 < j ∧ P'.length + i = m ∧ m + j ≤ n ∧ P' ++ Y' ++ X' ++ S' = P ++ Y ++ X ++ S ∧ TRow wr base g c n (P' ++ X' ++ Y' ++ S') ∧ w.grownBy wr (some g)) (fun vi vj _ => (intOf vi).toNat + (intOf vj).toNat)
  case atStart =>
    have := HP.out; have := HX.out; have := HY.out
    exact ⟨m - a, b - m, P, X, Y, S, by rw [Int.ofNat_sub ham], by rw [Int.ofNat_sub hmb], by omega, by omega, by have := Hx.out; omega, by have := Hy.out; omega, by omega, by omega, rfl, Hrow.out, World.grownBy.refl _ _⟩
  case round =>
    obtain ⟨i, j, P', X', Y', S', rfl, rfl, hi, hj, hi0, hj0, hm, hjn, ht, hr, hg⟩ := hrel
    have Hi := Lib.hid hi
    have Hj := Lib.hid hj
    have Ht := Lib.hid ht
    have Hr := Lib.hid hr
    have Hg := Lib.hid hg
    have Hm := Lib.hid hm
    clear hi hj ht hr hg Hrow hm g1 g2
    have him : i ≤ m := by have := Hm.out; omega
    obtain ⟨p, hp⟩ : ∃ p, p = m - i := ⟨_, rfl⟩
    have Hp : Hid (p + i = m) := Lib.hid (by omega)
    have g1 : IntKind.i64.wrap ((m : Int) - (i : Int)) = (p : Int) := by rw [hp, Int.ofNat_sub him]; exact IntWalk.i64_in _ (by omega)
    clear hp
    have HP' : Hid (P'.length = p) := Lib.hid (by have := Hm.out; have := Hp.out; omega)
    rcases Nat.lt_trichotomy i j with hij | hij | hij
    · obtain ⟨q, hq⟩ : ∃ q, q = m + j := ⟨_, rfl⟩
      obtain ⟨r, hr⟩ : ∃ r, r = m + j - i := ⟨_, rfl⟩
      obtain ⟨d, hd⟩ : ∃ d, d = j - i := ⟨_, rfl⟩
      have Hrr : Hid (r = m + j - i) := Lib.hid hr
      have Hd : Hid (d + i = j) := Lib.hid (by omega)
      have g3 : IntKind.i64.wrap ((m : Int) + (j : Int)) = (q : Int) := by rw [hq, Int.natCast_add]; exact IntWalk.i64_in _ (by omega)
      have g4 : IntKind.i64.wrap ((q : Int) - (i : Int)) = (r : Int) := by rw [hq, hr, Int.ofNat_sub (by omega)]; exact IntWalk.i64_in _ (by omega)
      have g5 : IntKind.i64.wrap ((j : Int) - (i : Int)) = (d : Int) := by rw [hd, Int.ofNat_sub (by omega)]; exact IntWalk.i64_in _ (by omega)
      clear hq hr
      have Hr2 : Hid (TRow wr base g c n (P' ++ X' ++ Y'.take d ++ Y'.drop d ++ S')) := Lib.hid (by have h := Hr.out; rw [← List.take_append_drop d Y'] at h; simpa using h)
      have L1 : Hid ((Y'.take d).length = d) := Lib.hid (by rw [List.length_take, ← Hj.out]; exact Nat.min_eq_left (by omega))
      have L2 : Hid ((Y'.drop d).length = i) := Lib.hid (by rw [List.length_drop, ← Hj.out]; omega)
      clear hd
      have Hsw : Hid (∀ f, Calls Try.prog 96 #[.slice (some ⟨g, 0, none⟩) n c, .int .i64 p, .int .i64 r, .int .i64 i, f] wr (Ret fun _ w' => TRow w' base g c n (P' ++ Y'.drop d ++ Y'.take d ++ X' ++ S') ∧ wr.grownBy w' (some g))) :=
        Lib.hid (swapRange_any base g c n p r i P' X' (Y'.take d) (Y'.drop d) S' wr Hr2.out hn hc HP'.out Hi.out.symm L2.out (by rw [L1.out]; have := Hrr.out; have := Hd.out; have := Hp.out; omega))
      have hne : ¬ ((i : Int) = (j : Int)) := by omega
      have hgt : ¬ ((j : Int) < (i : Int)) := by omega
      go_wp2_with fail
      refine (Hsw.out _).mono ?_
      rintro e w1 ⟨v, rfl, h1, h2⟩
      have H1 := Lib.hid h1
      have H2 := Lib.hid h2
      clear h1 h2 Hsw
      go_wp2
      go_roundw
      case rel =>
        refine ⟨i, d, P', Y'.drop d, Y'.take d, X' ++ S', rfl, rfl, L2.out.symm, L1.out.symm, hi0, by have := Hd.out; omega, Hm.out, by have := Hd.out; omega, ?_, ?_, Hg.out.trans H2.out⟩
        · rw [← Ht.out]; simp only [List.append_assoc]; rw [← List.append_assoc (Y'.take _), List.take_append_drop]
        · have h := H1.out; simpa using h
      case measure => have := Hd.out; simp [intOf]; omega
    · subst hij
      have Hsw : Hid (∀ f, Calls Try.prog 96 #[.slice (some ⟨g, 0, none⟩) n c, .int .i64 p, .int .i64 m, .int .i64 i, f] wr (Ret fun _ w' => TRow w' base g c n (P' ++ Y' ++ [] ++ X' ++ S') ∧ wr.grownBy w' (some g))) :=
        Lib.hid (swapRange_any base g c n p m i P' X' [] Y' S' wr (by simpa using Hr.out) hn hc HP'.out Hi.out.symm Hj.out.symm (by have := Hp.out; simp; omega))
      go_wp2_with fail
      refine (Hsw.out _).mono ?_
      rintro e w1 ⟨v, rfl, h1, h2⟩
      have H1 := Lib.hid h1
      have H2 := Lib.hid h2
      clear h1 h2 Hsw
      go_wp2
      go_end0
      have h := H1.out
      rw [List.append_nil, Ht.out] at h
      exact Ret.mk' rfl ⟨h, Hg.out.trans H2.out⟩
    · obtain ⟨d, hd⟩ : ∃ d, d = i - j := ⟨_, rfl⟩
      have Hd : Hid (d + j = i) := Lib.hid (by omega)
      have g5 : IntKind.i64.wrap ((i : Int) - (j : Int)) = (d : Int) := by rw [hd, Int.ofNat_sub (by omega)]; exact IntWalk.i64_in _ (by omega)
      clear hd
      have Hr2 : Hid (TRow wr base g c n (P' ++ X'.take j ++ X'.drop j ++ Y' ++ S')) := Lib.hid (by have h := Hr.out; rw [← List.take_append_drop j X'] at h; simpa using h)
      have L1 : Hid ((X'.take j).length = j) := Lib.hid (by rw [List.length_take, ← Hi.out]; exact Nat.min_eq_left (by omega))
      have L2 : Hid ((X'.drop j).length = d) := Lib.hid (by rw [List.length_drop, ← Hi.out]; have := Hd.out; omega)
      have Hsw : Hid (∀ f, Calls Try.prog 96 #[.slice (some ⟨g, 0, none⟩) n c, .int .i64 p, .int .i64 m, .int .i64 j, f] wr (Ret fun _ w' => TRow w' base g c n (P' ++ Y' ++ X'.drop j ++ X'.take j ++ S') ∧ wr.grownBy w' (some g))) :=
        Lib.hid (swapRange_any base g c n p m j P' (X'.take j) (X'.drop j) Y' S' wr Hr2.out hn hc HP'.out L1.out Hj.out.symm (by rw [L2.out]; have := Hd.out; have := Hp.out; omega))
      have hne : ¬ ((i : Int) = (j : Int)) := by omega
      have hgt : (j : Int) < (i : Int) := by omega
      go_wp2_with fail
      refine (Hsw.out _).mono ?_
      rintro e w1 ⟨v, rfl, h1, h2⟩
      have H1 := Lib.hid h1
      have H2 := Lib.hid h2
      clear h1 h2 Hsw
      go_wp2
      go_roundw
      case rel =>
        refine ⟨d, j, P' ++ Y', X'.drop j, X'.take j, S', rfl, rfl, L2.out.symm, L1.out.symm, by have := Hd.out; omega, hj0, ?_, hjn, ?_, ?_, Hg.out.trans H2.out⟩
        · rw [List.length_append, HP'.out, ← Hj.out]; have := Hd.out; have := Hp.out; omega
        · rw [← Ht.out]; simp only [List.append_assoc]; rw [← List.append_assoc (X'.take _), List.take_append_drop]
        · have h := H1.out; simpa using h
      case measure => have := Hd.out; simp [intOf]; omega
end Go.Proofs.Ytkjmeeggjmeajaa
