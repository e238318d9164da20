/- swapRange of tones. -/
import Derived.Test.YtkjmeeggjmeajaaSO2
namespace Go.Proofs.Ytkjmeeggjmeajaa
open Go.RowKit

theorem TRow.one {w : World} {base g c n : Nat} {L1 L2 : List Tone} {u : Tone} (h : TRow w base g c n (L1 ++ u :: L2)) {k : Nat} (hk : k = L1.length) :
    (w.cell? ⟨g, k * 3, none⟩ = some (.int .i64 u.1) ∧ w.cell? ⟨g, k * 3 + 1, none⟩ = some (.int .i64 u.2.1) ∧ w.cell? ⟨g, k * 3 + 2, none⟩ = some (.int .i64 u.2.2)) ∧ k < n := by
  subst hk
  have h1 := h.1
  have p := h.at_ (k := L1.length) (by simp)
  have e0 : (L1 ++ u :: L2)[L1.length]'(by simp) = u := by simp
  rw [e0] at p
  exact ⟨p, by simp at h1; omega⟩
theorem set_mid (L1 L2 : List Tone) (u x : Tone) {k : Nat} (hk : k = L1.length) : (L1 ++ u :: L2).set k x = L1 ++ x :: L2 := by
  subst hk
  rw [List.set_append_right _ _ (by omega), Nat.sub_self]; rfl
theorem TRow.swapFar {w : World} {base g c n : Nat} {L1 L2 L3 : List Tone} {u x : Tone} (h : TRow w base g c n (L1 ++ u :: (L2 ++ x :: L3))) {k j : Nat} (hk : k = L1.length) (hj : j = L1.length + 1 + L2.length) :
    TRow ((((((w.setCell ⟨g, k * 3, none⟩ (.int .i64 x.1)).setCell ⟨g, k * 3 + 1, none⟩ (.int .i64 x.2.1)).setCell ⟨g, k * 3 + 2, none⟩ (.int .i64 x.2.2)).setCell ⟨g, j * 3, none⟩ (.int .i64 u.1)).setCell ⟨g, j * 3 + 1, none⟩ (.int .i64 u.2.1)).setCell ⟨g, j * 3 + 2, none⟩ (.int .i64 u.2.2)) base g c n (L1 ++ x :: (L2 ++ u :: L3)) := by
  have h2 := (h.put k x.1 x.2.1 x.2.2).put j u.1 u.2.1 u.2.2
  have e : ((L1 ++ u :: (L2 ++ x :: L3)).set k x).set j u = L1 ++ x :: (L2 ++ u :: L3) := by
    rw [set_mid _ _ _ _ hk]
    have h3 := set_mid (L1 ++ x :: L2) L3 x u (k := j) (by rw [hj]; simp; omega)
    simpa using h3
  exact e ▸ h2

set_option maxRecDepth 100000 in
set_option maxHeartbeats 1000000 in
theorem swapRange_any (base g c n a b m : Nat) (P X M Y S : List Tone) (w : World) (hrow : TRow w base g c n (P ++ X ++ M ++ Y ++ S)) (hn : n ≤ 1000) (_hc : n ≤ c) (hP : P.length = a) (hX : X.length = m) (hY : Y.length = m) (hM : a + m + M.length = b) (f : Value) :
    Calls Try.prog 96 #[.slice (some ⟨g, 0, none⟩) n c, .int .i64 a, .int .i64 b, .int .i64 m, f] w (Ret fun _ w' => TRow w' base g c n (P ++ Y ++ M ++ X ++ S) ∧ w.grownBy w' (some g)) := by
  have hbn : b + m ≤ n := by have := hrow.1; simp at this; omega
  have Hrow := Lib.hid hrow; clear hrow
  have HP := Lib.hid hP; clear hP
  have HX := Lib.hid hX; clear hX
  have HY := Lib.hid hY; clear hY
  have HM := Lib.hid hM; clear hM
  have hab : a + m ≤ b := by have := HM.out; omega
  go_enter Try.func96, Try.ntmps96
  go_wp2
  go_loopw [10] (fun i wr => ∃ (k : Nat), k ≤ m ∧ i = .int .i64 k ∧ TRow wr base g c n (P ++ (Y.take k ++ X.drop k) ++ M ++ (X.take k ++ Y.drop k) ++ S) ∧ w.grownBy wr (some g)) (fun i _ => m - (intOf i).toNat)
  case atStart => exact ⟨0, by omega, rfl, by simpa using Hrow.out, World.grownBy.refl _ _⟩
  case round =>
    obtain ⟨k, hk, rfl, hr, hg⟩ := hrel
    have Hr := Lib.hid hr
    have Hg := Lib.hid hg
    clear hr hg Hrow
    by_cases hkm : k < m
    · have hkX : k < X.length := by rw [HX.out]; exact hkm
      have hkY : k < Y.length := by rw [HY.out]; exact hkm
      have hdX := List.drop_eq_getElem_cons hkX
      have htX := List.take_succ_eq_append_getElem hkX
      have hdY := List.drop_eq_getElem_cons hkY
      have htY := List.take_succ_eq_append_getElem hkY
      have HtX : Hid ((X.take k).length = k) := by rw [List.length_take]; exact Nat.min_eq_left (by omega)
      have HtY : Hid ((Y.take k).length = k) := by rw [List.length_take]; exact Nat.min_eq_left (by omega)
      have HdX : Hid ((X.drop (k + 1)).length = m - (k + 1)) := Lib.hid (by rw [List.length_drop, HX.out])
      generalize X[k] = x at hdX htX
      generalize Y[k] = y at hdY htY
      rw [hdX, hdY] at Hr
      generalize hX2 : X.drop (k + 1) = X2 at hdX Hr HdX
      generalize hY2 : Y.drop (k + 1) = Y2 at hdY Hr
      have Htk : Hid (P ++ (Y.take (k + 1) ++ X.drop (k + 1)) ++ M ++ (X.take (k + 1) ++ Y.drop (k + 1)) ++ S = (P ++ Y.take k) ++ y :: ((X2 ++ M ++ X.take k) ++ x :: (Y2 ++ S))) := Lib.hid (by
        rw [htX, htY, hX2, hY2]; simp)
      clear hdX hdY htX htY hX2 hY2 hkX hkY
      have hrr := Hr.out
      rw [show P ++ (Y.take k ++ x :: X2) ++ M ++ (X.take k ++ y :: Y2) ++ S = (P ++ Y.take k) ++ x :: ((X2 ++ M ++ X.take k) ++ y :: (Y2 ++ S)) by simp] at hrr
      have HK1 : Hid (a + k = (P ++ Y.take k).length) := Lib.hid (by rw [List.length_append, HP.out, HtY.out])
      have HK2 : Hid (b + k = (P ++ Y.take k).length + 1 + (X2 ++ M ++ X.take k).length) := Lib.hid (by rw [← HK1.out, List.length_append, List.length_append, HtX.out, HdX.out]; have := HM.out; omega)
      obtain ⟨⟨p0, p1, p2⟩, _⟩ := hrr.one HK1.out
      have hr2 := hrr
      rw [show (P ++ Y.take k) ++ x :: ((X2 ++ M ++ X.take k) ++ y :: (Y2 ++ S)) = (P ++ Y.take k ++ x :: (X2 ++ M ++ X.take k)) ++ y :: (Y2 ++ S) by simp] at hr2
      obtain ⟨⟨q0, q1, q2⟩, _⟩ := hr2.one (k := b + k) (by rw [HK2.out]; simp only [List.length_append, List.length_cons]; omega)
      have Hrr := Lib.hid hrr
      clear hrr hr2 Hr HtX HtY HdX
      obtain ⟨x1, x2, x3⟩ := x
      obtain ⟨y1, y2, y3⟩ := y
      dsimp only at p0 p1 p2 q0 q1 q2
      have fz := Hrr.out.frozen
      have g0 : (0 : Int) ≤ (a : Int) + (k : Int) := by omega
      have g1 : (a : Int) + (k : Int) < (n : Int) := by omega
      have g2 : (0 : Int) ≤ (b : Int) + (k : Int) := by omega
      have g3 : (b : Int) + (k : Int) < (n : Int) := by omega
      have g4 : ((a : Int) + (k : Int)).toNat = a + k := by omega
      have g5 : ((b : Int) + (k : Int)).toNat = b + k := by omega
      have g6 : IntKind.i64.wrap ((a : Int) + (k : Int)) = (a : Int) + (k : Int) := IntWalk.i64_in _ (by omega)
      have g7 : IntKind.i64.wrap ((b : Int) + (k : Int)) = (b : Int) + (k : Int) := IntWalk.i64_in _ (by omega)
      go_wp2
      go_big_region
      go_wp2
      go_roundw
      case rel =>
        refine ⟨k + 1, by omega, by go_num, ?_, ?_⟩
        · rw [Htk.out]; exact (Hrr.out.swapFar HK1.out HK2.out).drew
        · exact grown_drew (grown_put (grown_put Hg.out _ _ _ _) _ _ _ _)
      case measure => simp [intOf]; omega
    · have hkm : k = m := by omega
      subst hkm
      go_wp2
      go_end0
      have h1 := Hr.out
      rw [List.take_of_length_le (l := X) (by rw [HX.out]; omega), List.take_of_length_le (l := Y) (by rw [HY.out]; omega), List.drop_of_length_le (l := X) (by rw [HX.out]; omega), List.drop_of_length_le (l := Y) (by rw [HY.out]; omega), List.append_nil, List.append_nil] at h1
      exact Ret.mk' rfl ⟨h1, Hg.out⟩
end Go.Proofs.Ytkjmeeggjmeajaa
