/- ProtocolGrooves is true for every input: groove files are what the definitions say. The package variables of the library are tied to the program's text by the given tie. -/
import Derived.Test.YtkpmmgeffbhngaaGreatDoorC11
import Derived.Test.YtkpmmgeffbhngaaGreatDoorC43
import Derived.Test.YtkpmmgeffbhngaaGreatDoorC44
import Derived.Test.YtkpmmgeffbhngaaGreatDoorC45
import Derived.Test.YtkpmmgeffbhngaaGreatDoorCards
import Derived.Test.YtkpmmgeffbhngaaGreatDoorTie
set_option linter.unusedSimpArgs false
set_option linter.unusedVariables false
set_option linter.unnecessarySimpa false
namespace Prot
end Prot
namespace Go.Shelf
end Go.Shelf
namespace Go.Maps
end Go.Maps
namespace Go.Proofs.YtkpmmgeffbhngaaGreatDoor
open Go.RowKit Prot Go.Lib
theorem enc_cap {r : Nat} (h : r < 16) : Utf8.encode (65 + (r : Int)) = bs [UInt8.ofNat (65 + r)] := by
  have := enc_ascii (r := 65 + r) (by omega)
  push_cast at this
  exact this
theorem enc_low {r : Nat} (h : r < 16) : Utf8.encode (97 + (r : Int)) = bs [UInt8.ofNat (97 + r)] := by
  have := enc_ascii (r := 97 + r) (by omega)
  push_cast at this
  exact this
set_option maxRecDepth 100000 in
theorem rletters_any (n : Nat) (w : World) (hn : n ≤ 1099511627776) : Calls Tryz.prog 62 #[.int .i64 n] w (Ret fun v w' => v = .string (bs (letL n)) ∧ w' = w) := by
  obtain ⟨r, hr⟩ : ∃ r : Nat, r = n % 16 := ⟨_, rfl⟩
  obtain ⟨q, hq⟩ : ∃ q : Nat, q = n / 16 := ⟨_, rfl⟩
  have hr16 : r < 16 := by omega
  have r1 : (n : Int) % 16 = (r : Int) := by omega
  have r2 : (n : Int).tmod 16 = (r : Int) := by rw [Int.tmod_eq_emod_of_nonneg (by omega)]; exact r1
  have q1 : (n : Int) / 16 = (q : Int) := by omega
  have q2 : (n : Int).tdiv 16 = (q : Int) := by rw [Int.tdiv_eq_ediv_of_nonneg (by omega)]; exact q1
  have HL : Hid (letL n = capL q ++ [UInt8.ofNat (97 + r)]) := Lib.hid (by unfold letL; rw [hr, hq])
  have HE : Hid (Utf8.encode (97 + (r : Int)) = bs [UInt8.ofNat (97 + r)]) := Lib.hid (enc_low hr16)
  have hqn : q ≤ n := by omega
  have q3 : IntKind.i64.wrap (q : Int) = (q : Int) := IntWalk.i64_in _ (by omega)
  have r3 : IntKind.i64.wrap (r : Int) = (r : Int) := IntWalk.i64_in _ (by omega)
  have r4 : IntKind.i64.wrap (97 + (r : Int)) = 97 + (r : Int) := IntWalk.i64_in _ (by omega)
  have r5 : IntKind.i32.wrap (97 + (r : Int)) = 97 + (r : Int) := IntWalk.i32_in _ (by omega)
  clear hr hq HE
  go_enter Tryz.func62, Tryz.ntmps62
  go_wp2
  rw [enc_low hr16]
  clear r1 r2 q1 q2 r3 r4 r5
  go_loop [0, 3] (fun a b => ∃ (m : Nat) (cs : List UInt8), a = .int .i64 m ∧ b = .string (bs cs) ∧ m + cs.length ≤ q + 1 ∧ Hid (letL n = capL m ++ cs)) (fun a _ => (intOf a).toNat)
  case atStart => exact ⟨q, [UInt8.ofNat (97 + r)], rfl, rfl, by simp, HL⟩
  case round =>
    clear HL hr16 q3
    obtain ⟨m, cs, rfl, rfl, hb, HL⟩ := hrel
    by_cases h0 : m = 0
    · subst h0
      have HR : Hid (letL n = cs) := Lib.hid (by rw [HL.out, capL_zero]; rfl)
      clear HL hb
      go_wp2
      go_ret
      exact Ret.mk ⟨by rw [HR.out]; rfl, rfl⟩
    · obtain ⟨r', hr⟩ : ∃ r' : Nat, r' = m % 16 := ⟨_, rfl⟩
      obtain ⟨q', hq⟩ : ∃ q' : Nat, q' = m / 16 := ⟨_, rfl⟩
      have hr16 : r' < 16 := by omega
      have r1 : (m : Int) % 16 = (r' : Int) := by omega
      have r2 : (m : Int).tmod 16 = (r' : Int) := by rw [Int.tmod_eq_emod_of_nonneg (by omega)]; exact r1
      have q1 : (m : Int) / 16 = (q' : Int) := by omega
      have q2 : (m : Int).tdiv 16 = (q' : Int) := by rw [Int.tdiv_eq_ediv_of_nonneg (by omega)]; exact q1
      have hqm : q' < m := by omega
      have q3 : IntKind.i64.wrap (q' : Int) = (q' : Int) := IntWalk.i64_in _ (by omega)
      have r3 : IntKind.i64.wrap (r' : Int) = (r' : Int) := IntWalk.i64_in _ (by omega)
      have r4 : IntKind.i64.wrap (65 + (r' : Int)) = 65 + (r' : Int) := IntWalk.i64_in _ (by omega)
      have r5 : IntKind.i32.wrap (65 + (r' : Int)) = 65 + (r' : Int) := IntWalk.i32_in _ (by omega)
      obtain ⟨c, hc⟩ : ∃ c, c = UInt8.ofNat (65 + r') := ⟨_, rfl⟩
      have HL2 : Hid (letL n = capL q' ++ (c :: cs)) := Lib.hid (by
        rw [HL.out, capL_pos h0, hc, hq, hr, List.append_assoc]; rfl)
      have hadd : ∀ w, (Op.stringOp .add (Utf8.encode (65 + (r' : Int))) (bs cs)).run Tryz.prog w = .ok (.string (bs (c :: cs))) w := fun w => by
        rw [enc_cap hr16, ← hc]
        have := run_string_add_sum (P := Tryz.prog) w (bs [c]) (bs cs) (by rw [bs_size, bs_size]; simp; omega)
        rw [bs_append] at this
        exact this
      have d1 : decide ((m : Int) > 0) = true := by simp; omega
      have d2 : decide ((0 : Int) < (m : Int)) = true := by simp; omega
      have hb2 : q' + (cs.length + 1) ≤ q + 1 := by omega
      clear HL hc hr hq hr16 hb hn hqn
      go_wp2
      go_round
      case rel => exact ⟨q', c :: cs, rfl, rfl, hb2, HL2⟩
      case measure => simp [intOf]; omega
end Go.Proofs.YtkpmmgeffbhngaaGreatDoor
namespace Go.Proofs.YtkpmmgeffbhngaaGreatDoor
open Go.RowKit Prot Go.Lib
theorem all_next {α : Type} {p : α → Bool} {l : List α} {k : Nat} (hk : k < l.length) (h : (l.take k).all p = true) (h2 : p l[k] = true) : (l.take (k+1)).all p = true := by
  rw [List.take_succ_eq_append_getElem hk, List.all_append, h]; simpa using h2
theorem all_end {α : Type} {p : α → Bool} {l : List α} {k : Nat} (hk : ¬ k < l.length) (h : (l.take k).all p = true) : l.all p = true := by
  rwa [List.take_of_length_le (by omega)] at h
theorem all_miss {α : Type} {p : α → Bool} {l : List α} {k : Nat} (hk : k < l.length) (h2 : p l[k] = false) : l.all p = false := by
  rw [List.all_eq_false]
  exact ⟨_, List.getElem_mem hk, by simp [h2]⟩
set_option maxRecDepth 100000 in
set_option maxHeartbeats 1000000 in
theorem rEncode_any (A : Option Addr) (ca : Nat) (ds : List Int) (w : World) (hl : IntsAt w A ds) (hn : ds.length ≤ 100000) :
    Calls Tryz.prog 21 #[.slice A ds.length ca] w (Ret fun v w' => v = encT ds ∧ ∃ q, w' = w.drewN q) := by
  have Hl := Lib.hid hl; clear hl
  by_cases h2 : 200 < ds.length
  · have HE := Lib.hid (encT_of (encV_bad (ds := ds) (e := 6) (by unfold encErr; rw [if_pos h2]) (by omega)))
    have d1 : decide ((ds.length : Int) > 200) = true := by simp; omega
    have d2 : decide ((200 : Int) < (ds.length : Int)) = true := by simp; omega
    clear h2
    go_enter Tryz.func21, Tryz.ntmps21
    go_wp2
    go_ret2
    exact Ret.mk' HE.out.symm ⟨rfl, 0, rfl⟩
  have d1 : decide ((ds.length : Int) > 200) = false := by simp; omega
  have d2 : decide ((200 : Int) < (ds.length : Int)) = false := by simp; omega
  go_enter Tryz.func21, Tryz.ntmps21
  go_wp2
  go_loopw [4] (fun i wr => ∃ k q : Nat, k ≤ ds.length ∧ i = .int .i64 k ∧ wr = w.drewN q ∧ Hid ((ds.take k).all dOk = true)) (fun i _ => ds.length - (intOf i).toNat)
  case atStart => exact ⟨0, 0, by omega, rfl, rfl, by simp [Hid]⟩
  case round =>
    obtain ⟨k, q, hk, rfl, rfl, Hb⟩ := hrel
    by_cases hkn : k < ds.length
    · obtain ⟨b, off, rfl, g1⟩ := Hl.out.at_ hkn
      generalize hx : ds[k] = x at g1
      have Hx := Lib.hid hx
      clear hx
      have g1 : (w.drewN q).cell? ⟨b, off + k, none⟩ = some (.int .i64 x) := g1
      by_cases hq : 0 ≤ x ∧ x ≤ 1000
      · obtain ⟨a1, a2⟩ := hq
        have HN := Lib.hid (all_next hkn Hb.out (by rw [Hx.out]; unfold dOk; simp [a1, a2]))
        have t1 : decide (x < 0) = false := by simp; omega
        have t2 : decide (x > 1000) = false := by simp; omega
        have t3 : decide ((1000 : Int) < x) = false := by simp; omega
        clear a1 a2
        go_wp2
        go_roundw
        case rel => exact ⟨k + 1, _, by omega, by go_num, rfl, HN⟩
        case measure => simp [intOf]; omega
      · have HE := Lib.hid (encT_of (encV_bad (ds := ds) (e := 3) (by unfold encErr; rw [if_neg h2, all_miss hkn (by rw [Hx.out]; unfold dOk; simp; omega)]; rfl) (by omega)))
        by_cases hx0 : x < 0
        · have t1 : decide (x < 0) = true := by simp; omega
          clear hq
          go_wp2
          go_ret2
          exact Ret.mk' HE.out.symm ⟨rfl, _, rfl⟩
        · have t1 : decide (x < 0) = false := by simp; omega
          have t2 : decide (x > 1000) = true := by simp; omega
          have t3 : decide ((1000 : Int) < x) = true := by simp; omega
          clear hq
          go_wp2
          go_ret2
          exact Ret.mk' HE.out.symm ⟨rfl, _, rfl⟩
    · have HAll := Lib.hid (all_end hkn Hb.out)
      clear Hb
      have hE0 : encErr ds = 0 := by unfold encErr; rw [if_neg h2, if_pos HAll.out]
      have HV := Lib.hid (encT_of (ds := ds) (l := encTo ds ds.length) (e := 0) (by unfold encV; rw [if_pos hE0]; rfl))
      have HB := Lib.hid (encErr_iff.1 hE0).2
      have HLen := Lib.hid (encTo_len HB.out)
      have hkl : k = ds.length := by omega
      subst hkl
      clear HAll hE0
      go_wp2
      go_loopw [5, 6, 7, 8] (fun t p i _ wr => ∃ k q : Nat, k ≤ ds.length ∧ t = .string (bs (encTo ds k)) ∧ p = .int .i64 (prevAt ds k) ∧ i = .int .i64 k ∧ wr = w.drewN q) (fun _ _ i _ _ => ds.length - (intOf i).toNat)
      case atStart => exact ⟨0, _, by omega, rfl, rfl, rfl, rfl⟩
      case round =>
        obtain ⟨k, q, hk, rfl, rfl, rfl, rfl⟩ := hrel
        by_cases hkn : k < ds.length
        · obtain ⟨b, off, rfl, g1⟩ := Hl.out.at_ hkn
          have hx0 : ds.getD k 0 = ds[k] := by simp [List.getD, hkn]
          have hpn : prevAt ds (k + 1) = ds[k] := by rw [← hx0]; rfl
          have hxb := HB.out _ (List.getElem_mem hkn)
          have hpb := prev_bound HB.out k
          have hst : encTo ds (k + 1) = encTo ds k ++ letL (zz (ds.getD k 0 - prevAt ds k)) ++ (if k % 20 = 19 ∨ k + 1 = ds.length then [10] else []) := rfl
          rw [hx0] at hst
          have htl := HLen.out k
          have HP := Lib.hid hpn
          clear hx0 hpn
          generalize ds[k] = x at *
          generalize prevAt ds k = p at *
          generalize encTo ds k = t at *
          have g1 : (w.drewN q).cell? ⟨b, off + k, none⟩ = some (.int .i64 x) := g1
          obtain ⟨d, hd⟩ : ∃ d, x - p = d := ⟨_, rfl⟩
          rw [hd] at hst
          obtain ⟨z, hz⟩ : ∃ z, z = zz d := ⟨_, rfl⟩
          rw [← hz] at hst
          have hz2 : z ≤ 2000 := by rw [hz]; exact zz_lt (by omega) (by omega)
          have hcl := capL_len (z := z / 16) (k := 3) (by omega)
          have hll : (letL z).length ≤ 4 := by unfold letL; rw [List.length_append]; simp; omega
          generalize hL : letL z = L at *
          have HLz := Lib.hid hL
          have wd : IntKind.i64.wrap d = d := IntWalk.i64_in _ (by omega)
          have wd2 : IntKind.i64.wrap (2 * d) = 2 * d := IntWalk.i64_in _ (by omega)
          have hadd : ∀ w, (Op.stringOp .add (bs t) (bs L)).run Tryz.prog w = .ok (.string (bs (t ++ L))) w := fun w => by
            rw [← bs_append]; exact run_string_add_sum w _ _ (by rw [bs_size, bs_size]; omega)
          have hadd2 : ∀ w, (Op.stringOp .add (bs (t ++ L)) ⟨#[10]⟩).run Tryz.prog w = .ok (.string (bs (t ++ L ++ [10]))) w := fun w => by
            have := run_string_add_sum (P := Tryz.prog) w (bs (t ++ L)) (bs [10]) (by rw [bs_size, bs_size, List.length_append]; simp; omega)
            rw [bs_append] at this; exact this
          obtain ⟨r, hr⟩ : ∃ r : Nat, r = k % 20 := ⟨_, rfl⟩
          have r1 : (k : Int) % 20 = (r : Int) := by omega
          have r2 : (k : Int).tmod 20 = (r : Int) := by rw [Int.tmod_eq_emod_of_nonneg (by omega)]; exact r1
          have CL : Hid (∀ w, Calls Tryz.prog 62 #[.int .i64 z] w (Ret fun v w' => v = .string (bs L) ∧ w' = w)) := Lib.hid fun w => by rw [← hL]; exact rletters_any z w (by omega)
          have hz3 : (0 ≤ d ∧ 2 * d = (z : Int)) ∨ (¬ 0 ≤ d ∧ -2 * d - 1 = (z : Int)) := by
            unfold zz at hz; split at hz <;> omega
          have hlf : (((r : Int) == 19) = true ∧ Hid (encTo ds (k + 1) = t ++ L ++ [10])) ∨ (((r : Int) == 19) = false ∧ ((k : Int) == (ds.length : Int) - 1) = true ∧ Hid (encTo ds (k + 1) = t ++ L ++ [10])) ∨ (((r : Int) == 19) = false ∧ ((k : Int) == (ds.length : Int) - 1) = false ∧ Hid (encTo ds (k + 1) = t ++ L)) := by
            by_cases c1 : r = 19
            · exact .inl ⟨by simp; omega, Lib.hid (by rw [hst, if_pos (.inl (by omega))])⟩
            · by_cases c2 : k + 1 = ds.length
              · exact .inr (.inl ⟨by simp; omega, by simp; omega, Lib.hid (by rw [hst, if_pos (.inr c2)])⟩)
              · exact .inr (.inr ⟨by simp; omega, by simp; omega, Lib.hid (by rw [hst, if_neg (by omega), List.append_nil])⟩)
          have hk1 : k + 1 ≤ ds.length := hkn
          have hzz : z ≤ 2000 := hz2
          have hwk : IntKind.i64.wrap ((ds.length : Int) - 1) = (ds.length : Int) - 1 := IntWalk.i64_in _ (by omega)
          clear hst htl hz hz2 hcl hll hL HLz hr HLen HB h2 hk
          rcases hz3 with ⟨s1, s2⟩ | ⟨s1, s2⟩ <;> rcases hlf with ⟨f1, HS⟩ | ⟨f1, f2, HS⟩ | ⟨f1, f2, HS⟩
          all_goals
            have HR := Lib.hid (show ((ds.length - (k + 1) : Nat) < ds.length - k) from by omega)
            first
            | (have u1 : decide (d ≥ 0) = true := by simp; omega)
            | (have u1 : decide (d ≥ 0) = false := by simp; omega
               have s3 : IntKind.i64.wrap (-2 * d) = -2 * d := IntWalk.i64_in _ (by omega)
               have s4 : IntKind.i64.wrap (-2 * d - 1) = -2 * d - 1 := IntWalk.i64_in _ (by omega))
            clear hxb hpb
            go_wp2_with fail
            try rw [IntWalk.wrap64_in (z : Int) (by omega)]
            refine (CL.out _).mono ?_
            rintro _ w1 ⟨v, rfl, rfl, rfl⟩
            go_wp2
            go_roundw
            case rel => exact ⟨k + 1, _, hk1, by rw [HS.out]; try rw [List.append_assoc], by rw [HP.out], by go_num, rfl⟩
            case measure => simp [intOf]; omega
        · have hkl : k = ds.length := by omega
          subst hkl
          go_wp2
          go_ret2
          exact Ret.mk' HV.out.symm ⟨rfl, _, rfl⟩
end Go.Proofs.YtkpmmgeffbhngaaGreatDoor
namespace Go.Proofs.YtkpmmgeffbhngaaGreatDoor
open Go.RowKit Prot Go.Lib Go.Maps
set_option maxRecDepth 100000 in
set_option maxHeartbeats 1000000 in
theorem rDecode_any (s : ByteArray) (w : World) (hs : s.size ≤ 9223372036854775807) : Calls Tryz.prog 23 #[.string s] w (Ret (DecQ (decR s.data.toList) w)) := by
  have hsz : s.data.toList.length = s.size := (Lib.size_eq s).symm
  obtain ⟨l, hl⟩ : ∃ l, l = s.data.toList := ⟨_, rfl⟩
  rw [← hl] at hsz ⊢
  by_cases h1 : 1000 < s.size
  · have HR : Hid (decR l = ([], 8)) := Lib.hid (by unfold decR; rw [if_pos (by omega)])
    have d1 : decide ((s.size : Int) > 1000) = true := by simp; omega
    have d2 : decide ((1000 : Int) < (s.size : Int)) = true := by simp; omega
    clear h1 hl hsz
    go_enter Tryz.func23, Tryz.ntmps23
    go_wp2
    go_ret2
    exact Ret.mk (by rw [HR.out]; exact ⟨none, 0, rfl, by simp, IntsAt.nil, Below.refl _ _⟩)
  have d1 : decide ((s.size : Int) > 1000) = false := by simp; omega
  have d2 : decide ((1000 : Int) < (s.size : Int)) = false := by simp; omega
  have HD : Hid (decR l = decW 1000000 l) := Lib.hid (by unfold decR; rw [if_neg (by omega)])
  have HAt : Hid (∀ k (h : k < s.size), l.take (k + 1) = l.take k ++ [s[k]]) := Lib.hid fun k h => by
    have h1 := at_list s k h
    rw [← hl] at h1
    rw [List.take_add_one, h1]; rfl
  have HLs : Hid (s = bs l) := Lib.hid (by rw [hl]; exact bs_of s)
  clear hl
  go_enter Tryz.func23, Tryz.ntmps23
  go_wp2
  go_loopw [4, 5, 6, 7, 8] (fun u v x i _ wr => ∃ (k : Nat) (st : DSt), k ≤ s.size ∧ i = .int .i64 k ∧ v = .int .i64 st.2.1 ∧ x = .int .i64 st.2.2 ∧ st.2.1 ≤ 17000000 ∧ -(10000000 * (k : Int)) ≤ st.2.2 ∧ st.2.2 ≤ 10000000 * (k : Int) ∧ st.1.length ≤ k ∧
    Hid (decGo 1000000 (l.take k) ([], 0, 0) = some st) ∧ Hid (wr.ownsRow w.heap.size 2 1 u st.1.length (st.1.flatMap encI)) ∧ Hid (Below w.heap.size w wr)) (fun _ _ _ i _ _ => s.size - (intOf i).toNat)
  case atStart => exact ⟨0, ([], 0, 0), by omega, rfl, rfl, rfl, by simp, by simp, by simp, by simp, Lib.hid rfl, Lib.hid (by simpa using World.ownsRow_nil w w.heap.size 2 1), Lib.hid (Below.refl _ _)⟩
  case round =>
    obtain ⟨k, ⟨o, v, x⟩, hk, rfl, rfl, rfl, b1, b2, b3, b4, HG, HO, HB⟩ := hrel
    dsimp only at b1 b2 b3 b4 HG HO
    by_cases hkn : k < s.size
    · have HN : Hid (∀ st', decStep 1000000 (o, v, x) s[k] = some st' → decGo 1000000 (l.take (k + 1)) ([], 0, 0) = some st') := Lib.hid fun st' h => by
        rw [HAt.out k hkn]; exact decGo_snoc HG.out h
      by_cases hc1 : 65 ≤ s[k].toNat ∧ s[k].toNat ≤ 80 ∧ v < 1000000
      · have HN2 := Lib.hid (HN.out (o, 16 * (v + (s[k].toNat - 65)), x) (by unfold decStep; rw [if_pos hc1]))
        obtain ⟨c1, c2, c3⟩ := hc1
        obtain ⟨d, hd⟩ : ∃ d : Nat, s[k].toNat = d + 65 := ⟨s[k].toNat - 65, by omega⟩
        have t1 : decide ((s[k].toNat : Int) ≥ 65) = true := by simp; omega
        have t2 : decide ((s[k].toNat : Int) ≤ 80) = true := by simp; omega
        have t3 : decide ((v : Int) < 1000000) = true := by simp; omega
        have e1 : IntKind.u8.wrap ((s[k].toNat : Int) - 65) = (d : Int) := by rw [show (s[k].toNat : Int) - 65 = (d : Int) from by omega]; exact IntWalk.u8_in _ (by omega)
        have e2 : IntKind.i64.wrap (d : Int) = (d : Int) := IntWalk.i64_in _ (by omega)
        have e3 : IntKind.i64.wrap ((v : Int) + (d : Int)) = (v : Int) + (d : Int) := IntWalk.i64_in _ (by omega)
        have e4 : IntKind.i64.wrap (((v : Int) + (d : Int)) * 16) = ((v : Int) + (d : Int)) * 16 := IntWalk.i64_in _ (by omega)
        have HV : Hid (16 * (v + (s[k].toNat - 65)) = (v + d) * 16) := Lib.hid (by omega)
        have hb1 : (v + d) * 16 ≤ 17000000 := by omega
        rw [HV.out] at HN2
        clear HN HG HV hd HAt
        go_wp2
        go_roundw
        case rel => exact ⟨k + 1, (o, (v + d) * 16, x), by omega, by go_num, by go_num, rfl, hb1, by push_cast; omega, by push_cast; omega, by dsimp only; omega, HN2, HO, HB⟩
        case measure => simp [intOf]; omega
      have q1 : decide ((s[k].toNat : Int) ≥ 65) = false ∨ decide ((s[k].toNat : Int) ≥ 65) = true ∧ decide ((s[k].toNat : Int) ≤ 80) = false ∨ decide ((s[k].toNat : Int) ≥ 65) = true ∧ decide ((s[k].toNat : Int) ≤ 80) = true ∧ decide ((v : Int) < 1000000) = false := by
        by_cases a1 : 65 ≤ s[k].toNat
        · by_cases a2 : s[k].toNat ≤ 80
          · exact .inr (.inr ⟨by simp; omega, by simp; omega, by simp; omega⟩)
          · exact .inr (.inl ⟨by simp; omega, by simp; omega⟩)
        · exact .inl (by simp; omega)
      by_cases hc2 : 97 ≤ s[k].toNat ∧ s[k].toNat ≤ 112
      · obtain ⟨z, hz⟩ : ∃ z : Nat, z = v + (s[k].toNat - 97) := ⟨_, rfl⟩
        obtain ⟨y, hy⟩ : ∃ y : Int, y = x + unzz z := ⟨_, rfl⟩
        have HN2 := Lib.hid (HN.out (o ++ [y], 0, y) (by unfold decStep; rw [if_neg hc1, if_pos hc2, hy, hz]))
        obtain ⟨c1, c2⟩ := hc2
        obtain ⟨d, hd⟩ : ∃ d : Nat, s[k].toNat = d + 97 := ⟨s[k].toNat - 97, by omega⟩
        have t1 : decide ((s[k].toNat : Int) ≥ 97) = true := by simp; omega
        have t2 : decide ((s[k].toNat : Int) ≤ 112) = true := by simp; omega
        have e1 : IntKind.u8.wrap ((s[k].toNat : Int) - 97) = (d : Int) := by rw [show (s[k].toNat : Int) - 97 = (d : Int) from by omega]; exact IntWalk.u8_in _ (by omega)
        have e2 : IntKind.i64.wrap (d : Int) = (d : Int) := IntWalk.i64_in _ (by omega)
        have hzd : (v : Int) + (d : Int) = (z : Int) := by omega
        have e3 : IntKind.i64.wrap (z : Int) = (z : Int) := IntWalk.i64_in _ (by omega)
        obtain ⟨r, hr⟩ : ∃ r : Nat, r = z % 2 := ⟨_, rfl⟩
        have r1 : (z : Int) % 2 = (r : Int) := by omega
        have r2 : (z : Int).tmod 2 = (r : Int) := by rw [Int.tmod_eq_emod_of_nonneg (by omega)]; exact r1
        have r3 : IntKind.i64.wrap (r : Int) = (r : Int) := IntWalk.i64_in _ (by omega)
        obtain ⟨g, hg⟩ : ∃ g : Nat, g = z / 2 := ⟨_, rfl⟩
        have g1 : (z : Int) / 2 = (g : Int) := by omega
        have g2 : (z : Int).tdiv 2 = (g : Int) := by rw [Int.tdiv_eq_ediv_of_nonneg (by omega)]; exact g1
        have g3 : IntKind.i64.wrap (g : Int) = (g : Int) := IntWalk.i64_in _ (by omega)
        obtain ⟨m, hm⟩ : ∃ m : Nat, m = (z + 1) / 2 := ⟨_, rfl⟩
        have m0 : IntKind.i64.wrap ((z : Int) + 1) = (z : Int) + 1 := IntWalk.i64_in _ (by omega)
        have m1 : ((z : Int) + 1) / 2 = (m : Int) := by omega
        have m2 : ((z : Int) + 1).tdiv 2 = (m : Int) := by rw [Int.tdiv_eq_ediv_of_nonneg (by omega)]; exact m1
        have m3 : IntKind.i64.wrap (m : Int) = (m : Int) := IntWalk.i64_in _ (by omega)
        have hyz : ((r : Int) == 0) = true ∧ x + (g : Int) = y ∨ ((r : Int) == 0) = false ∧ x - (m : Int) = y := by
          unfold unzz at hy
          by_cases h0 : z % 2 = 0
          · rw [if_pos h0] at hy; exact .inl ⟨by simp; omega, by omega⟩
          · rw [if_neg h0] at hy; exact .inr ⟨by rw [beq_eq_false_iff_ne]; omega, by omega⟩
        have hyb1 : -(10000000 * ((k + 1 : Nat) : Int)) ≤ y := by push_cast; rcases hyz with ⟨_, q⟩ | ⟨_, q⟩ <;> omega
        have hyb2 : y ≤ 10000000 * ((k + 1 : Nat) : Int) := by push_cast; rcases hyz with ⟨_, q⟩ | ⟨_, q⟩ <;> omega
        have e5 : IntKind.i64.wrap y = y := IntWalk.i64_in _ (by omega)
        have hbk := heap_alloc_new wr (.cells #[.int .i64 y] 2)
        have HOA := Lib.hid (HO.out.alloc (.cells #[.int .i64 y] 2))
        have hr6 := own_base HO.out
        have hsw := HB.out.size
        clear HN HG HAt hc1 hd hz hy hr hg hm
        rcases hyz with ⟨p1, p2⟩ | ⟨p1, p2⟩ <;> rcases q1 with q | ⟨q, q'⟩ | ⟨q, q', q''⟩
        all_goals
          go_wp2_with (at_builtin; refine wpList_push _ rfl (.tmp 62) (.tmp 64) 29 rfl elemL encI_len oneI Tryz.underlying29 w.heap.size _ o rfl HOA.out (by omega) y wr.heap.size (by rfl) _ rfl _ _ hbk (by rw [World.size_alloc]; omega) ?_; intro g2 cap w6 hO6 hg6)
          have HB6 := Lib.hid ((below_alloc' HB.out (.cells #[.int .i64 y] 2)).grown hg6 (by rw [World.size_alloc]; omega) (fun r e => by have := hr6 r e; omega))
          have HO6 := Lib.hid hO6
          clear hO6 hg6 hr6 HO HOA hbk HB
          go_roundw
          case rel => exact ⟨k + 1, (o ++ [y], 0, y), by omega, by go_num, rfl, rfl, by dsimp only; omega, hyb1, hyb2, by rw [len_snoc]; omega, HN2, by rw [len_snoc]; exact HO6, HB6⟩
          case measure => simp [intOf]; omega
      have q2 : decide ((s[k].toNat : Int) ≥ 97) = false ∨ decide ((s[k].toNat : Int) ≥ 97) = true ∧ decide ((s[k].toNat : Int) ≤ 112) = false := by
        by_cases a1 : 97 ≤ s[k].toNat
        · exact .inr ⟨by simp; omega, by simp; omega⟩
        · exact .inl (by simp; omega)
      by_cases hc3 : s[k].toNat = 10
      · have HN2 := Lib.hid (HN.out (o, v, x) (by unfold decStep; rw [if_neg hc1, if_neg hc2, if_pos hc3]))
        have n1 : ((s[k].toNat : Int) != 10) = false := by simp [hc3]
        have n2 : ((s[k].toNat : Int) == 10) = true := by simp [hc3]
        clear HN HG HAt hc1 hc2 hc3
        rcases q1 with q | ⟨q, q'⟩ | ⟨q, q', q''⟩ <;> rcases q2 with r | ⟨r, r'⟩
        all_goals
          go_wp2
          go_roundw
          case rel => exact ⟨k + 1, (o, v, x), by omega, by go_num, rfl, rfl, b1, by push_cast; omega, by push_cast; omega, by dsimp only; omega, HN2, HO, HB⟩
          case measure => simp [intOf]; omega
      · have HZ : Hid (decR l = ([], 8)) := Lib.hid (by
          have hst : decStep 1000000 (o, v, x) s[k] = none := by unfold decStep; rw [if_neg hc1, if_neg hc2, if_neg hc3]
          have hs2 : l = l.take k ++ s[k] :: l.drop (k + 1) := by
            conv => lhs; rw [← List.take_append_drop (k + 1) l, HAt.out k hkn]
            simp
          rw [HD.out]
          unfold decW
          rw [hs2, decGo_stop HG.out hst])
        have n1 : ((s[k].toNat : Int) != 10) = true := by simp; omega
        have n2 : ((s[k].toNat : Int) == 10) = false := by simp; omega
        clear HN HG HAt hc1 hc2 hc3
        rcases q1 with q | ⟨q, q'⟩ | ⟨q, q', q''⟩ <;> rcases q2 with r | ⟨r, r'⟩
        all_goals
          go_wp2
          go_ret2
          exact Ret.mk (by rw [HZ.out]; exact ⟨none, 0, rfl, by simp, IntsAt.nil, HB.out⟩)
    · have ek : k = s.size := by omega
      have et : l.take k = l := by rw [ek, ← hsz]; exact List.take_length
      rw [et] at HG
      obtain ⟨A, c, rfl, hc⟩ := own_form HO.out
      have HI := Lib.hid (RowsAt.of_own encI_len HO.out)
      have HZ : Hid (decR l = if encErr o = 0 ∧ encL o = l then (o, 0) else ([], 8)) := Lib.hid (by rw [HD.out]; unfold decW; rw [HG.out])
      clear HG HO et HAt ek HD
      by_cases he : encErr o = 0
      · have HC : Hid (encT o = .tuple #[.string (bs (encL o)), .int .i64 0]) := Lib.hid (encT_of (by unfold encV; rw [if_pos he]))
        by_cases hq : encL o = l
        · have HR : Hid (decR l = (o, 0)) := Lib.hid (by rw [HZ.out, if_pos ⟨he, hq⟩])
          have hs0 : bs (encL o) = s := by rw [hq]; exact HLs.out.symm
          rw [hs0] at HC
          clear HZ he hq hs0 HLs hsz
          go_wp2_with fail
          refine (rEncode_any A c o _ HI.out (by omega)).mono ?_
          rintro _ w2 ⟨v2, rfl, rfl, q, rfl⟩
          rw [HC.out]
          go_wp2
          go_ret2
          exact Ret.mk (by rw [HR.out]; exact ⟨A, c, rfl, hc, HI.out, below_drewN HB.out q⟩)
        · have HR : Hid (decR l = ([], 8)) := Lib.hid (by rw [HZ.out, if_neg (fun h => hq h.2)])
          have hs0 : ¬ bs (encL o) = s := by rw [HLs.out]; exact fun h => hq (bs_inj.1 h)
          have d3 := toList_ne hs0
          generalize bs (encL o) = m at *
          clear HZ he hq hs0 HLs hsz
          go_wp2_with fail
          refine (rEncode_any A c o _ HI.out (by omega)).mono ?_
          rintro _ w2 ⟨v2, rfl, rfl, q, rfl⟩
          rw [HC.out]
          go_wp2
          go_ret2
          exact Ret.mk (by rw [HR.out]; exact ⟨none, 0, rfl, by simp, IntsAt.nil, below_drewN HB.out q⟩)
      · have HR : Hid (decR l = ([], 8)) := Lib.hid (by rw [HZ.out, if_neg (fun h => he h.1)])
        have HC : Hid (encT o = .tuple #[.string (bs []), .int .i64 (encErr o)]) := Lib.hid (encT_of (by unfold encV; rw [if_neg he]))
        generalize encErr o = er at *
        have d3 : (er != 0) = true := by simpa using he
        have d4 : (er == 0) = false := by simpa using he
        clear HZ he HLs hsz
        go_wp2_with fail
        refine (rEncode_any A c o _ HI.out (by omega)).mono ?_
        rintro _ w2 ⟨v2, rfl, rfl, q, rfl⟩
        rw [HC.out]
        go_wp2
        go_ret2
        exact Ret.mk (by rw [HR.out]; exact ⟨none, 0, rfl, by simp, IntsAt.nil, below_drewN HB.out q⟩)
end Go.Proofs.YtkpmmgeffbhngaaGreatDoor
namespace Go.Proofs.YtkpmmgeffbhngaaGreatDoor
open Go.RowKit Go.Shelf Prot Go.Lib Go.Maps
theorem Ret.draw {T : Value} {w w' : World} {e : Ending} (h : Ret (fun v w' => v = T ∧ ∃ q, w' = w.drewN q) e w') : Ret (fun v w' => v = T ∧ Below w.heap.size w w') e w' := by
  obtain ⟨v, rfl, rfl, q, rfl⟩ := h
  exact Ret.mk ⟨rfl, below_drewN (Below.refl _ _) q⟩
end Go.Proofs.YtkpmmgeffbhngaaGreatDoor
namespace Go.Proofs.YtkpmmgeffbhngaaGreatDoor
open Go.RowKit Go.Shelf Prot Go.Lib Go.Maps
set_option maxRecDepth 100000 in
set_option maxHeartbeats 4000000 in
theorem protocolGrooves_any (A : Option Addr) (ca : Nat) (ds : List Int) (l : List UInt8) (w : World) (hT : Tab w) (hl : IntsAt w A ds) (hca : ds.length ≤ ca) : Calls Tryz.prog 4 #[.slice A ds.length ca, .string (bs l)] w (Ret fun v w' => v = .bool true ∧ Below w.heap.size w w') := by
  have HB0 := Lib.hid (Below.refl w.heap.size w)
  have HT := Lib.hid hT
  clear hT
  have HL := Lib.hid hl
  clear hl
  by_cases h1 : 220 < ds.length
  · have d1 : decide ((ds.length : Int) > 220) = true := decide_eq_true (by omega)
    have d2 : decide ((220 : Int) < (ds.length : Int)) = true := decide_eq_true (by omega)
    clear h1
    go_enter Tryz.func4, Tryz.ntmps4
    go_wp2_with fail
    refine (works_any _ HT.out).mono ?_
    rintro e wz ⟨v, rfl, rfl, hBz⟩
    go_wp2
    go_ret
    exact Ret.mk ⟨rfl, below_trans' HB0.out hBz⟩
  have d1 : decide ((ds.length : Int) > 220) = false := decide_eq_false (by omega)
  have d2 : decide ((220 : Int) < (ds.length : Int)) = false := decide_eq_false (by omega)
  by_cases h2 : 2000 < l.length
  · have d3 : decide (((bs l).size : Int) > 2000) = true := decide_eq_true (by rw [bs_size]; omega)
    have d4 : decide ((2000 : Int) < ((bs l).size : Int)) = true := decide_eq_true (by rw [bs_size]; omega)
    clear h1 h2
    go_enter Tryz.func4, Tryz.ntmps4
    go_wp2_with fail
    refine (works_any _ HT.out).mono ?_
    rintro e wz ⟨v, rfl, rfl, hBz⟩
    go_wp2
    go_ret
    exact Ret.mk ⟨rfl, below_trans' HB0.out hBz⟩
  have d3 : decide (((bs l).size : Int) > 2000) = false := decide_eq_false (by rw [bs_size]; omega)
  have d4 : decide ((2000 : Int) < ((bs l).size : Int)) = false := decide_eq_false (by rw [bs_size]; omega)
  have hn : ds.length ≤ 100000 := by omega
  have hll : (bs l).size ≤ 90000 := by rw [bs_size]; omega
  have hln : (decV l).1.length ≤ 1000000 := Nat.le_trans (decV_len l) (by omega)
  have HDv : Hid (∀ W, Calls Tryz.prog 22 #[.string (bs l)] W (Ret (DecQ (decV l) W))) := Lib.hid fun W => by
    have := Decode_any (bs l) W hll
    rw [bs_list] at this
    exact this
  have HDr : Hid (∀ W, Calls Tryz.prog 23 #[.string (bs l)] W (Ret (DecQ (decV l) W))) := Lib.hid fun W => by
    have := rDecode_any (bs l) W (by omega)
    rw [bs_list, decR_eq] at this
    exact this
  generalize decV l = dv at *
  clear h1 h2 hll
  go_enter Tryz.func4, Tryz.ntmps4
  have Hc := Lib.hid (Encode_any A ca ds w HL.out hn hca)
  go_wp2_with fail
  refine Hc.out.mono ?_
  rintro e w1 ⟨v, rfl, rfl, hb⟩
  have HB1 := Lib.hid (below_trans' HB0.out hb)
  replace HT := Lib.hid (HT.out.below hb)
  replace HL := Lib.hid (HL.out.below hb)
  clear hb Hc HB0
  unfold encT
  have Hc := Lib.hid ((rEncode_any A ca ds w1 HL.out hn).mono fun _ _ h => h.draw)
  go_wp2_with fail
  refine Hc.out.mono ?_
  rintro e w2 ⟨v, rfl, rfl, hb⟩
  have HB2 := Lib.hid (below_trans' HB1.out hb)
  replace HT := Lib.hid (HT.out.below hb)
  replace HL := Lib.hid (HL.out.below hb)
  clear hb Hc HB1
  unfold encT
  generalize bs (encV ds).1 = es at *
  generalize (encV ds).2 = ee at *
  have Hc := Lib.hid (HDv.out w2)
  go_wp2_with fail
  refine Hc.out.mono ?_
  rintro e w3 ⟨v, rfl, A5, c5, rfl, h5, h6, hb⟩
  have HB3 := Lib.hid (below_trans' HB2.out hb)
  replace HT := Lib.hid (HT.out.below hb)
  replace HL := Lib.hid (HL.out.below hb)
  clear hb Hc HB2
  have HD5 := Lib.hid h6
  clear h5 h6
  have Hc := Lib.hid (HDr.out w3)
  go_wp2_with fail
  refine Hc.out.mono ?_
  rintro e w4 ⟨v, rfl, A6, c6, rfl, h5, h6, hb⟩
  have HB4 := Lib.hid (below_trans' HB3.out hb)
  replace HT := Lib.hid (HT.out.below hb)
  replace HL := Lib.hid (HL.out.below hb)
  replace HD5 := Lib.hid (HD5.out.below hb)
  clear hb Hc HB3
  have HD6 := Lib.hid h6
  clear h5 h6
  have Hc := Lib.hid (longs_same A5 A6 c5 c6 dv.1 w4 HD5.out HD6.out hln)
  go_wp2_with fail
  refine Hc.out.mono ?_
  rintro e w5 ⟨v, rfl, rfl, hb⟩
  have HB5 := Lib.hid (below_trans' HB4.out hb)
  replace HT := Lib.hid (HT.out.below hb)
  replace HL := Lib.hid (HL.out.below hb)
  replace HD5 := Lib.hid (HD5.out.below hb)
  replace HD6 := Lib.hid (HD6.out.below hb)
  clear hb Hc HB4
  go_wp2_with fail
  refine (works_any _ HT.out).mono ?_
  rintro e wz ⟨v, rfl, rfl, hBz⟩
  go_wp2
  go_ret
  exact Ret.mk ⟨rfl, below_trans' HB5.out hBz⟩
end Go.Proofs.YtkpmmgeffbhngaaGreatDoor
namespace Go.Proofs.YtkpmmgeffbhngaaGreatDoor
open Go.ChangeShapes Go.WideShapes Go.ChangeAt Go.RowKit
set_option maxRecDepth 100000 in
theorem protocolGrooves_lifted (os : Os) (started : os.Started) (H : Type) (enc : TypeId × Value → H) :
    ReturnsInHanded {} Tryz.checked os 4 .any (fun w args => (Rows.protocolGroovesSpec.pre enc Tryz.prog Tryz.f4 [] false w args ∧ laidMetH Tryz.prog laidT w) ∧ sizedMet enc Tryz.prog Tryz.f4 (OpenSpec.ofChange Rows.protocolGroovesSpec) false w args)
      (Rows.protocolGroovesSpec.post enc Tryz.prog Tryz.f4 false true false false) := by
  refine returnsInHanded_and_shaped (C := Tryz.checked) (X := fun w _ => laidMetH Tryz.prog laidT w) (fun _ _ _ hh h => h.of_heap hh) Tryz.own started (by kernel_rfl) Tryz.func4
    (ChangeSpec.witness_shaped (enc := enc) (C := Tryz.checked) (os := os) (X := fun w _ => laidMetH Tryz.prog laidT w) false (World.laidAll Tryz.prog os laidT) #[.slice none 0 0, .string ⟨#[]⟩] 8 (World.laidAll_os _ _ _) (laid_shaped os _) (by kernel_rfl) (by kernel_rfl) (by kernel_rfl) (laid_met os _)) ?_
  intro W base args ds gs before hval0 hW hL hsh
  have hval : ∀ (j : Nat) t v, Tryz.f4.params[j]? = some t → args[j]? = some v → Value.okWide Tryz.prog W .any base t v := hval0
  have hW' := hW
  have hlt : ∀ p ∈ before, p.block < W.heap.size := fun p hp => hW.lt p hp
  obtain ⟨p, q, hA0, hV, rfl, hfz, hnd⟩ := hW
  have hA : DataW.TrodAll enc Tryz.prog W 0 (fun _ => true) true Tryz.f4.params.toList args.toList ds p := hA0
  rw [Tryz.params4] at hA hval
  have hA1 := hA
  have hT := of_laid hL hsh
  obtain ⟨v0, v1, d0, d1, p0, p1, rfl, rfl, rfl, h0, h1⟩ := trodAll_two hA
  obtain ⟨rfl, rfl⟩ := trodVars_none hV
  obtain ⟨A0, l0, c0, rfl, hc0, hm0, hl0, wl0⟩ := openK Tryz.underlying29 Tryz.underlying2 Tryz.cellsLp (hval 0 29 v0 rfl rfl) h0
  obtain ⟨s1, rfl, rfl, rfl, ws1⟩ := Go.ChangeMaps.open_string Tryz.underlying9 (hval 1 9 v1 rfl rfl) h1
  obtain ⟨l, rfl⟩ : ∃ l, s1 = bs l := ⟨_, bs_of s1⟩
  refine (protocolGrooves_any A0 c0 l0 l W hT hl0 hc0).mono fun e W' he => ?_
  obtain ⟨v, rfl, rfl, hB⟩ := he
  exact ⟨_, rfl, post_of_below (pa := _) (pv := []) hW' (fun b sp hd => trodAll_mk1 (resTrue b sp hd W')) (fun sp hsp => all_again' hB (by kernel_rfl) hA1 (fun x hx => hlt x (by simpa using hx)) (fun x hx => hsp x (by simpa using hx))) (fun _ _ => rfl) rfl hB (ok_one (by kernel_rfl) rfl (okWide_bool_mk Tryz.underlying4 true))⟩
theorem protocolGrooves_p : (Rows.protocolGroovesRow.inPlace == Tryz.prog.inPlace 4) = true := by kernel_rfl
theorem protocolGrooves_u : (Rows.protocolGroovesRow.unfollowed == Tryz.prog.unfollowed 4) = true := by kernel_rfl
theorem protocolGrooves_r : (Rows.protocolGroovesRow.recurses == Tryz.prog.recurses 4) = true := by kernel_rfl
theorem protocolGrooves_n : (Rows.protocolGroovesRow.named == Tryz.prog.varsNamed 4) = true := by kernel_rfl
theorem protocolGrooves_row : Rows.ProtocolGroovesSaid :=
  OpenClaim.holds_of_wide 4 Tryz.f4 rfl rfl rfl rfl rfl rfl rfl ⟨rfl, rfl, rfl, rfl, rfl⟩ rfl rfl rfl rfl rfl (by kernel_rfl) Tryz.func4
    (joined_of (by kernel_rfl) (by kernel_rfl) (by kernel_rfl) rfl rfl protocolGrooves_p protocolGrooves_u protocolGrooves_r protocolGrooves_n (by kernel_rfl) (by kernel_rfl) (by kernel_rfl) (by kernel_rfl) (by kernel_rfl) (by kernel_rfl) (by kernel_rfl) (by kernel_rfl) (by kernel_rfl) (by kernel_rfl) rfl rfl rfl (by kernel_rfl) (by kernel_rfl) (by kernel_rfl) (by kernel_rfl))
    (of_decide_eq_true (by kernel_rfl)) (by unfold Func.isWrapper; first | (rw [if_pos (by decide +kernel)]; kernel_rfl) | (rw [if_neg (by decide +kernel)]; exact ⟨rfl, rfl⟩))
    (fun os started H enc _ => protocolGrooves_lifted os started H enc)
theorem protocolGrooves_holds : Rows.ProtocolGroovesCardSaid :=
  Claim7.holds_tied_plain_at .later [] [.data, .data, .data, .data, .sentinel, .sentinel, .pinned] true (true, "056ceee57fb0345663cf018f0cf66ba5b95e362946dcabdfc5afb17e57de19a5") true
    protocolGrooves_row (fun _ h => by cases h) (by kernel_rfl) (fun _ h => by cases h) protocolGrooves_row_tie rfl ⟨rfl, rfl⟩ (by kernel_rfl) rfl
    (no_stand (show Tryz.prog.funcNamed "mandrel/mandrellaw12.ProtocolGrooves" = some 4 by kernel_rfl) Tryz.func4 Tryz.jlooks (by kernel_rfl))
    (by kernel_rfl)
end Go.Proofs.YtkpmmgeffbhngaaGreatDoor
