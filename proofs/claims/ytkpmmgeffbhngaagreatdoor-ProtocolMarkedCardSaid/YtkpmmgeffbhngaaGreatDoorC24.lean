/- What the laws of the chapter rest on, part 24. -/
import Derived.Test.YtkpmmgeffbhngaaGreatDoorC19
set_option linter.unusedSimpArgs false
set_option linter.unusedVariables false
set_option linter.unnecessarySimpa false
namespace Prot
end Prot
namespace Go.Shelf
end Go.Shelf
namespace Go.Maps
end Go.Maps
namespace Go.Proofs.YtkpmmgeffbhngaaGreatDoor
open Go.RowKit Prot Go.Lib Go.Maps
set_option maxRecDepth 100000 in
set_option maxHeartbeats 4000000 in
theorem Decode_any (s : ByteArray) (w : World) (hs : s.size ≤ 90000) : Calls Tryz.prog 22 #[.string s] w (Ret (DecQ (decV s.data.toList) w)) := by
  have hsz : s.data.toList.length = s.size := (Lib.size_eq s).symm
  obtain ⟨l, hl⟩ : ∃ l, l = s.data.toList := ⟨_, rfl⟩
  rw [← hl] at hsz ⊢
  have HD : Hid (decV l = decW 1048576 l) := Lib.hid rfl
  have HAt : Hid (∀ k (h : k < s.size), l.take (k + 1) = l.take k ++ [s[k]]) := Lib.hid fun k h => by
    have h1 := at_list s k h
    rw [← hl] at h1
    rw [List.take_add_one, h1]; rfl
  have HLs : Hid (s = bs l) := Lib.hid (by rw [hl]; exact bs_of s)
  clear hl
  have hcv := Lib.run_convert_string_bytes (P := Tryz.prog) w 9 79 5 s Tryz.underlying9 Tryz.underlying79 Tryz.underlying5
  have hcell : Hid (∀ k (h : k < s.size), (Lib.bytesWorld w 5 s).cell? ⟨w.heap.size, k, none⟩ = some (.int .u8 (s[k].toNat : Int))) := Lib.hid fun k h => by
    rw [Lib.bytesWorld_cell w 5 s k h]
    have h1 := at_list s k h
    simp only [List.getD, h1, Option.getD_some]
  have hBy := Lib.hid (below_bytes w s)
  have hSz : Hid (w.heap.size < (Lib.bytesWorld w 5 s).heap.size) := Lib.hid (by rw [bytesWorld_size]; omega)
  go_enter Tryz.func22, Tryz.ntmps22
  go_wp2_with fail
  clear hcv
  generalize Lib.bytesWorld w 5 s = w1 at *
  go_loopw [4, 5, 6, 14] (fun u v x i wr => ∃ (k : Nat) (st : DSt), k ≤ s.size ∧ i = .int .i64 k ∧ v = .int .i64 st.2.1 ∧ x = .int .i64 st.2.2 ∧ st.2.1 ≤ 17000000 ∧ -(10000000 * (k : Int)) ≤ st.2.2 ∧ st.2.2 ≤ 10000000 * (k : Int) ∧ st.1.length ≤ k ∧
    Hid (decGo 1048576 (l.take k) ([], 0, 0) = some st) ∧ Hid (wr.ownsRow w1.heap.size 2 1 u st.1.length (st.1.flatMap encI)) ∧ Hid (Below w1.heap.size w1 wr)) (fun _ _ _ i _ => s.size - (intOf i).toNat)
  case atStart => exact ⟨0, ([], 0, 0), by omega, rfl, rfl, rfl, by simp, by simp, by simp, by simp, Lib.hid rfl, Lib.hid (by simpa using World.ownsRow_nil w1 w1.heap.size 2 1), Lib.hid (Below.refl _ _)⟩
  case round =>
    obtain ⟨k, ⟨o, v, x⟩, hk, rfl, rfl, rfl, b1, b2, b3, b4, HG, HO, HB⟩ := hrel
    dsimp only at b1 b2 b3 b4 HG HO
    have HBt := Lib.hid (below_trans' hBy.out HB.out)
    by_cases hkn : k < s.size
    · have c1 : wr.cell? ⟨w.heap.size, k, none⟩ = some (.int .u8 (s[k].toNat : Int)) := ((HB.out.cell (p := ⟨w.heap.size, k, none⟩) hSz.out)).trans (hcell.out k hkn)
      have HN : Hid (∀ st', decStep 1048576 (o, v, x) s[k] = some st' → decGo 1048576 (l.take (k + 1)) ([], 0, 0) = some st') := Lib.hid fun st' h => by
        rw [HAt.out k hkn]; exact decGo_snoc HG.out h
      by_cases hc1 : 65 ≤ s[k].toNat ∧ s[k].toNat ≤ 80 ∧ v < 1048576
      · have HN2 := Lib.hid (HN.out (o, 16 * (v + (s[k].toNat - 65)), x) (by unfold decStep; rw [if_pos hc1]))
        obtain ⟨c1, c2, c3⟩ := hc1
        obtain ⟨d, hd⟩ : ∃ d : Nat, s[k].toNat = d + 65 := ⟨s[k].toNat - 65, by omega⟩
        have t1 : decide ((s[k].toNat : Int) ≥ 65) = true := by simp; omega
        have t2 : decide ((s[k].toNat : Int) ≤ 80) = true := by simp; omega
        have t3 : decide ((v : Int) < 1048576) = true := by simp; omega
        have e1 : IntKind.u8.wrap ((s[k].toNat : Int) - 65) = (d : Int) := by rw [show (s[k].toNat : Int) - 65 = (d : Int) from by omega]; exact IntWalk.u8_in _ (by omega)
        have e2 : IntKind.i64.wrap (d : Int) = (d : Int) := IntWalk.i64_in _ (by omega)
        have e3 : IntKind.i64.wrap ((v : Int) + (d : Int)) = (v : Int) + (d : Int) := IntWalk.i64_in _ (by omega)
        have e4 : IntKind.i64.wrap (16 * ((v : Int) + (d : Int))) = 16 * ((v : Int) + (d : Int)) := IntWalk.i64_in _ (by omega)
        have HV : Hid (16 * (v + (s[k].toNat - 65)) = 16 * (v + d)) := Lib.hid (by omega)
        have hb1 : 16 * (v + d) ≤ 17000000 := by omega
        rw [HV.out] at HN2
        clear HN HG HV hd HAt
        go_wp2
        go_roundw
        case rel => exact ⟨k + 1, (o, 16 * (v + d), x), by omega, by go_num, by go_num, rfl, hb1, by push_cast; omega, by push_cast; omega, by dsimp only; omega, HN2, HO, HB⟩
        case measure => simp [intOf]; omega
      have q1 : decide ((s[k].toNat : Int) ≥ 65) = false ∨ decide ((s[k].toNat : Int) ≥ 65) = true ∧ decide ((s[k].toNat : Int) ≤ 80) = false ∨ decide ((s[k].toNat : Int) ≥ 65) = true ∧ decide ((s[k].toNat : Int) ≤ 80) = true ∧ decide ((v : Int) < 1048576) = false := by
        by_cases a1 : 65 ≤ s[k].toNat
        · by_cases a2 : s[k].toNat ≤ 80
          · exact .inr (.inr ⟨by simp; omega, by simp; omega, by simp; omega⟩)
          · exact .inr (.inl ⟨by simp; omega, by simp; omega⟩)
        · exact .inl (by simp; omega)
      by_cases hc2 : 97 ≤ s[k].toNat ∧ s[k].toNat ≤ 112
      · obtain ⟨z, hz⟩ : ∃ z : Nat, z = v + (s[k].toNat - 97) := ⟨_, rfl⟩
        obtain ⟨y, hy⟩ : ∃ y : Int, y = x + unzz z := ⟨_, rfl⟩
        have HN2 := Lib.hid (HN.out (o ++ [y], 0, y) (by unfold decStep; rw [if_neg hc1, if_pos hc2, hy, hz]))
        obtain ⟨c1, c2⟩ := hc2
        obtain ⟨d, hd⟩ : ∃ d : Nat, s[k].toNat = d + 97 := ⟨s[k].toNat - 97, by omega⟩
        have t1 : decide ((s[k].toNat : Int) ≥ 97) = true := by simp; omega
        have t2 : decide ((s[k].toNat : Int) ≤ 112) = true := by simp; omega
        have e1 : IntKind.u8.wrap ((s[k].toNat : Int) - 97) = (d : Int) := by rw [show (s[k].toNat : Int) - 97 = (d : Int) from by omega]; exact IntWalk.u8_in _ (by omega)
        have e2 : IntKind.i64.wrap (d : Int) = (d : Int) := IntWalk.i64_in _ (by omega)
        have hzd : (v : Int) + (d : Int) = (z : Int) := by omega
        have e3 : IntKind.i64.wrap (z : Int) = (z : Int) := IntWalk.i64_in _ (by omega)
        obtain ⟨r, hr⟩ : ∃ r : Nat, r = z % 2 := ⟨_, rfl⟩
        have r1 : (z : Int) % 2 = (r : Int) := by omega
        have r2 : (z : Int).tmod 2 = (r : Int) := by rw [Int.tmod_eq_emod_of_nonneg (by omega)]; exact r1
        have r3 : IntKind.i64.wrap (r : Int) = (r : Int) := IntWalk.i64_in _ (by omega)
        obtain ⟨g, hg⟩ : ∃ g : Nat, g = z / 2 := ⟨_, rfl⟩
        have g1 : (z : Int) / 2 = (g : Int) := by omega
        have g2 : (z : Int).tdiv 2 = (g : Int) := by rw [Int.tdiv_eq_ediv_of_nonneg (by omega)]; exact g1
        have g3 : IntKind.i64.wrap (g : Int) = (g : Int) := IntWalk.i64_in _ (by omega)
        obtain ⟨m, hm⟩ : ∃ m : Nat, m = (z + 1) / 2 := ⟨_, rfl⟩
        have m0 : IntKind.i64.wrap ((z : Int) + 1) = (z : Int) + 1 := IntWalk.i64_in _ (by omega)
        have m1 : ((z : Int) + 1) / 2 = (m : Int) := by omega
        have m2 : ((z : Int) + 1).tdiv 2 = (m : Int) := by rw [Int.tdiv_eq_ediv_of_nonneg (by omega)]; exact m1
        have m3 : IntKind.i64.wrap (m : Int) = (m : Int) := IntWalk.i64_in _ (by omega)
        have hyz : ((r : Int) == 0) = true ∧ x + (g : Int) = y ∨ ((r : Int) == 0) = false ∧ x - (m : Int) = y := by
          unfold unzz at hy
          by_cases h0 : z % 2 = 0
          · rw [if_pos h0] at hy; exact .inl ⟨by simp; omega, by omega⟩
          · rw [if_neg h0] at hy; exact .inr ⟨by rw [beq_eq_false_iff_ne]; omega, by omega⟩
        have hyb1 : -(10000000 * ((k + 1 : Nat) : Int)) ≤ y := by push_cast; rcases hyz with ⟨_, q⟩ | ⟨_, q⟩ <;> omega
        have hyb2 : y ≤ 10000000 * ((k + 1 : Nat) : Int) := by push_cast; rcases hyz with ⟨_, q⟩ | ⟨_, q⟩ <;> omega
        have e5 : IntKind.i64.wrap y = y := IntWalk.i64_in _ (by omega)
        have hbk := heap_alloc_new wr (.cells #[.int .i64 y] 2)
        have HOA := Lib.hid (HO.out.alloc (.cells #[.int .i64 y] 2))
        have hr6 := own_base HO.out
        have hsw := HB.out.size
        clear HN HG HAt hc1 hd hz hy hr hg hm
        rcases hyz with ⟨p1, p2⟩ | ⟨p1, p2⟩ <;> rcases q1 with q | ⟨q, q'⟩ | ⟨q, q', q''⟩
        all_goals
          go_wp2_with (at_builtin; refine wpList_push _ rfl (.tmp 59) (.tmp 61) 29 rfl elemL encI_len oneI Tryz.underlying29 w1.heap.size _ o rfl HOA.out (by omega) y wr.heap.size (by rfl) _ rfl _ _ hbk (by rw [World.size_alloc]; omega) ?_; intro g2 cap w6 hO6 hg6)
          have HB6 := Lib.hid ((below_alloc' HB.out (.cells #[.int .i64 y] 2)).grown hg6 (by rw [World.size_alloc]; omega) (fun r e => by have := hr6 r e; omega))
          have HO6 := Lib.hid hO6
          clear hO6 hg6 hr6 HO HOA hbk HB
          go_roundw
          case rel => exact ⟨k + 1, (o ++ [y], 0, y), by omega, by go_num, rfl, rfl, by dsimp only; omega, hyb1, hyb2, by rw [len_snoc]; omega, HN2, by rw [len_snoc]; exact HO6, HB6⟩
          case measure => simp [intOf]; omega
      have q2 : decide ((s[k].toNat : Int) ≥ 97) = false ∨ decide ((s[k].toNat : Int) ≥ 97) = true ∧ decide ((s[k].toNat : Int) ≤ 112) = false := by
        by_cases a1 : 97 ≤ s[k].toNat
        · exact .inr ⟨by simp; omega, by simp; omega⟩
        · exact .inl (by simp; omega)
      by_cases hc3 : s[k].toNat = 10
      · have HN2 := Lib.hid (HN.out (o, v, x) (by unfold decStep; rw [if_neg hc1, if_neg hc2, if_pos hc3]))
        have n1 : ((s[k].toNat : Int) != 10) = false := by simp [hc3]
        have n2 : ((s[k].toNat : Int) == 10) = true := by simp [hc3]
        clear HN HG HAt hc1 hc2 hc3
        rcases q1 with q | ⟨q, q'⟩ | ⟨q, q', q''⟩ <;> rcases q2 with r | ⟨r, r'⟩
        all_goals
          go_wp2
          go_roundw
          case rel => exact ⟨k + 1, (o, v, x), by omega, by go_num, rfl, rfl, b1, by push_cast; omega, by push_cast; omega, by dsimp only; omega, HN2, HO, HB⟩
          case measure => simp [intOf]; omega
      · have HZ : Hid (decV l = ([], 8)) := Lib.hid (by
          have hst : decStep 1048576 (o, v, x) s[k] = none := by unfold decStep; rw [if_neg hc1, if_neg hc2, if_neg hc3]
          have hs2 : l = l.take k ++ s[k] :: l.drop (k + 1) := by
            conv => lhs; rw [← List.take_append_drop (k + 1) l, HAt.out k hkn]
            simp
          rw [HD.out]
          unfold decW
          rw [hs2, decGo_stop HG.out hst])
        have n1 : ((s[k].toNat : Int) != 10) = true := by simp; omega
        have n2 : ((s[k].toNat : Int) == 10) = false := by simp; omega
        clear HN HG HAt hc1 hc2 hc3
        rcases q1 with q | ⟨q, q'⟩ | ⟨q, q', q''⟩ <;> rcases q2 with r | ⟨r, r'⟩
        all_goals
          go_wp2
          go_ret2
          exact Ret.mk (by rw [HZ.out]; exact ⟨none, 0, rfl, by simp, IntsAt.nil, HBt.out⟩)
    · have ek : k = s.size := by omega
      have et : l.take k = l := by rw [ek, ← hsz]; exact List.take_length
      rw [et] at HG
      obtain ⟨A, c, rfl, hc⟩ := own_form HO.out
      have HI := Lib.hid (RowsAt.of_own encI_len HO.out)
      have HZ : Hid (decV l = if encErr o = 0 ∧ encL o = l then (o, 0) else ([], 8)) := Lib.hid (by rw [HD.out]; unfold decW; rw [HG.out])
      clear HG HO et HAt ek HD
      by_cases he : encErr o = 0
      · have HC : Hid (encT o = .tuple #[.string (bs (encL o)), .int .i64 0]) := Lib.hid (encT_of (by unfold encV; rw [if_pos he]))
        by_cases hq : encL o = l
        · have HR : Hid (decV l = (o, 0)) := Lib.hid (by rw [HZ.out, if_pos ⟨he, hq⟩])
          have hs0 : bs (encL o) = s := by rw [hq]; exact HLs.out.symm
          rw [hs0] at HC
          clear HZ he hq hs0 HLs hsz
          go_wp2_with fail
          refine (Encode_any A c o _ HI.out (by omega) hc).mono ?_
          rintro _ w2 ⟨v2, rfl, rfl, hB2⟩
          rw [HC.out]
          go_wp2
          go_ret2
          exact Ret.mk (by rw [HR.out]; exact ⟨A, c, rfl, hc, HI.out.below hB2, below_trans' HBt.out hB2⟩)
        · have HR : Hid (decV l = ([], 8)) := Lib.hid (by rw [HZ.out, if_neg (fun h => hq h.2)])
          have hs0 : ¬ bs (encL o) = s := by rw [HLs.out]; exact fun h => hq (bs_inj.1 h)
          have d3 := toList_ne hs0
          generalize bs (encL o) = m at *
          clear HZ he hq hs0 HLs hsz
          go_wp2_with fail
          refine (Encode_any A c o _ HI.out (by omega) hc).mono ?_
          rintro _ w2 ⟨v2, rfl, rfl, hB2⟩
          rw [HC.out]
          go_wp2
          go_ret2
          exact Ret.mk (by rw [HR.out]; exact ⟨none, 0, rfl, by simp, IntsAt.nil, below_trans' HBt.out hB2⟩)
      · have HR : Hid (decV l = ([], 8)) := Lib.hid (by rw [HZ.out, if_neg (fun h => he h.1)])
        have HC : Hid (encT o = .tuple #[.string (bs []), .int .i64 (encErr o)]) := Lib.hid (encT_of (by unfold encV; rw [if_neg he]))
        generalize encErr o = er at *
        have d3 : (er != 0) = true := by simpa using he
        have d4 : (er == 0) = false := by simpa using he
        clear HZ he HLs hsz
        go_wp2_with fail
        refine (Encode_any A c o _ HI.out (by omega) hc).mono ?_
        rintro _ w2 ⟨v2, rfl, rfl, hB2⟩
        rw [HC.out]
        go_wp2
        go_ret2
        exact Ret.mk (by rw [HR.out]; exact ⟨none, 0, rfl, by simp, IntsAt.nil, below_trans' HBt.out hB2⟩)
end Go.Proofs.YtkpmmgeffbhngaaGreatDoor
