/- Met. -/
import Derived.Test.YtkjmeeggjmeajaaB11
namespace Go.Proofs.Ytkjmeeggjmeajaa
open Go.RowKit

def metUp (l : List (Int × Int)) (s : List Int) (k : Nat) : List Int := ((List.range k).filter (isMet l s)).map fun (i : Nat) => (i : Int)
theorem metUp_yes {l : List (Int × Int)} {s : List Int} {k : Nat} (h : isMet l s k = true) : metUp l s (k + 1) = metUp l s k ++ [(k : Int)] := by
  unfold metUp; rw [List.range_succ, List.filter_append, List.map_append]; simp [h]
theorem metUp_no {l : List (Int × Int)} {s : List Int} {k : Nat} (h : isMet l s k = false) : metUp l s (k + 1) = metUp l s k := by
  unfold metUp; rw [List.range_succ, List.filter_append, List.map_append]; simp [h]
theorem metUp_len (l : List (Int × Int)) (s : List Int) (k : Nat) : (metUp l s k).length ≤ k := by
  unfold metUp; rw [List.length_map]; have := List.length_filter_le (isMet l s) (List.range k); simpa using this
def metM (l : List (Int × Int)) (s : List Int) : List Int := if checkErr l s ≠ 0 then [] else metUp l s l.length

set_option maxRecDepth 100000 in
set_option maxHeartbeats 1000000 in
theorem met2_any (A B : Option Addr) (ca cb : Nat) (l : List (Int × Int)) (s : List Int) (w : World) (hl : RangesAt w A l) (hs : IntsAt w B s) (hn : l.length ≤ 100000) (hm : s.length ≤ 100000) :
    Calls Try.prog 16 #[.slice A l.length ca, .slice B s.length cb] w (Ret fun v w' => (∃ C c, v = .tuple #[.slice C (metM l s).length c, .int .i64 (checkErr l s)] ∧ (metM l s).length ≤ c ∧ IntsAt w' C (metM l s)) ∧ Below w.heap.size w w') := by
  have Hl := Lib.hid hl; clear hl
  have Hs := Lib.hid hs; clear hs
  go_enter Try.func16, Try.ntmps16
  go_wp2_with fail
  refine (check_any _ _ _ _ l s _ Hl.out Hs.out hn hm).mono ?_
  rintro e w1 ⟨v, rfl, rfl, hB1⟩
  have HB1 := Lib.hid hB1; clear hB1
  by_cases h0 : checkErr l s = 0
  · have d0 : (checkErr l s != 0) = false := by simp [h0]
    have hlen := song_len (checkErr_song h0)
    have HM : Hid (metM l s = metUp l s l.length) := by show _ = _; simp [metM, h0]
    have H0 := Lib.hid h0; clear h0
    have hlen2 := song_in (checkErr_song H0.out)
    have Hlen2 := Lib.hid hlen2; clear hlen2
    go_wp2_with fail
    refine (newSong_any _ _ l _ (Hl.out.below HB1.out) (by omega) Hlen2.out).mono ?_
    rintro e w2 ⟨v, rfl, rfl, ⟨ts, hp, ho, hsa⟩, hB2⟩
    have HB2 := Lib.hid hB2; clear hB2
    have Hp := Lib.hid hp; clear hp
    have Hsa := Lib.hid (SongAt.of hsa); clear hsa ho
    go_wp2_with fail
    refine (met_any _ ts _ _ s _ Hsa.out (by rw [perm_len Hp.out]; omega) ((Hs.out.below HB1.out).below HB2.out) hm (perm_names Hp.out (by omega))).mono ?_
    rintro e w3 ⟨v, rfl, rfl, hB3⟩
    have HB3 := Lib.hid (below_trans' (below_trans' HB1.out HB2.out) hB3); clear hB3
    have HT : Hid ((w3.alloc (.cells z25 70)).there w3.heap.size 0 (marksV (marksOf ts s)).size) := fun j hj => by
      rw [marksV_size] at hj
      exact ⟨by rw [blk_cell (heap_alloc_new w3 (.cells z25 70))]; simp [z25, hj], blk_frozen (heap_alloc_new w3 (.cells z25 70))⟩
    have hb3 : ((w3.alloc (.cells z25 70)).setCells w3.heap.size 0 (marksV (marksOf ts s)).toList).rangeAt w3.heap.size 0 (marksV (marksOf ts s)).toList := World.rangeAt_setCells_same _ _ _ _ (by rw [Array.length_toList]; exact HT.out)
    have hB4 : Below w3.heap.size w3 ((w3.alloc (.cells z25 70)).setCells w3.heap.size 0 (marksV (marksOf ts s)).toList) := below_setCells (Nat.le_refl _) _ _ _ (below_alloc' (Below.refl _ _) _)
    go_wp2_with (first | (refine wpList_store_mid rfl 70 (.tmp 7) (.tmp 19) rfl w3.heap.size 0 (marksV (marksOf ts s)) (by rfl) (by rfl) HT.out (by rw [info70, marksV_size]) (marksV_one _) ?_; change wpList _ _ _ _ _ ((w3.alloc (.cells z25 70)).setCells w3.heap.size 0 (marksV (marksOf ts s)).toList); generalize (w3.alloc (.cells z25 70)).setCells w3.heap.size 0 (marksV (marksOf ts s)).toList = w4 at hb3 hB4 ⊢; have Hb3 := Lib.hid hb3; have HB4 := Lib.hid hB4; clear hb3 hB4))
    go_loopw [8, 22] (fun v i wr => ∃ (k : Nat) (C : Option Addr) (c : Nat), k ≤ l.length ∧ i = .int .i64 k ∧ v = .slice C (metUp l s k).length c ∧ (metUp l s k).length ≤ c ∧ IntsAt wr C (metUp l s k) ∧ Hid (C = none → metUp l s k = []) ∧ Below w4.heap.size w4 wr) (fun _ i _ => l.length - (intOf i).toNat)
    case atStart => exact ⟨0, none, 0, by omega, rfl, rfl, by simp [metUp], IntsAt.nil, fun _ => rfl, Below.refl _ _⟩
    case round =>
      obtain ⟨k, C, c, hk, rfl, rfl, hc, hi, HC, hB⟩ := hrel
      have HB := Lib.hid hB; clear hB
      have Hi := Lib.hid hi; clear hi
      have hml := metUp_len l s k
      have hbnd : (metUp l s k).length ≤ 100000 := by omega
      by_cases hkn : k < l.length
      · have hk25 : (k : Int) < 25 := by omega
        have g0 : wr.cell? ⟨w3.heap.size, 0 + k, none⟩ = some (.int .i64 (marksOf ts s k)) := cell_below HB.out (Hb3.out k _ (by have := marksV_get (marksOf ts s) (k := k) (by omega); simpa using this))
        rw [Nat.zero_add, marksOf_perm Hp.out, marksOf_up, if_pos hkn] at g0
        cases hq : isMet l s k
        · rw [hq] at g0
          have Hq := Lib.hid hq; clear hq
          rw [show (if false = true then (1:Int) else 0) = 0 from rfl] at g0
          go_wp2
          go_roundw
          case rel => exact ⟨k + 1, C, c, by omega, by go_num, by rw [metUp_no Hq.out], by rw [metUp_no Hq.out]; exact hc, by rw [metUp_no Hq.out]; exact Hi.out, by rw [metUp_no Hq.out]; exact HC, HB.out⟩
          case measure => simp [intOf]; omega
        · rw [hq] at g0
          have Hq := Lib.hid hq; clear hq
          rw [show (if true = true then (1:Int) else 0) = 1 from rfl] at g0
          go_wp2_with (at_builtin; refine wpList_pushg _ rfl (.tmp 34) (.tmp 36) _ rfl elemI3 encI_len oneI Try.underlying26 C (metUp l s k) rfl HC.out (RowsAt.alloc Hi.out _) hbnd (k : Int) _ rfl _ (by rfl) _ _ (heap_alloc_new _ _) ?_; intro g cap w5 hcap hrow hB5; have Hrow := Lib.hid hrow; have HB5 := Lib.hid hB5; clear hrow hB5)
          go_roundw
          case rel => exact ⟨k + 1, some ⟨g, 0, none⟩, cap, by omega, by go_num, by rw [metUp_yes Hq.out, len_snoc], by rw [metUp_yes Hq.out, len_snoc]; exact hcap, by rw [metUp_yes Hq.out]; exact Hrow.out, fun e => (by cases e), below_trans' (below_alloc' HB.out _) HB5.out⟩
          case measure => simp [intOf]; omega
      · have hke : k = l.length := by omega
        subst hke
        go_wp2
        go_ret2
        exact Ret.mk' rfl ⟨⟨C, c, by rw [HM.out, H0.out]; rfl, by rw [HM.out]; exact hc, by rw [HM.out]; exact Hi.out⟩, below_trans' HB3.out (below_trans' HB4.out HB.out)⟩
  · have HM : Hid (metM l s = []) := by show _ = _; simp [metM, h0]
    have d0 : (checkErr l s != 0) = true := by simpa using h0
    go_wp2
    go_ret2
    exact Ret.mk' rfl ⟨⟨none, 0, by rw [HM.out]; rfl, by rw [HM.out]; simp, by rw [HM.out]; exact IntsAt.nil⟩, HB1.out⟩
end Go.Proofs.Ytkjmeeggjmeajaa
