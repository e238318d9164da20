/- What the laws of the chapter rest on, part 12. -/
import Derived.Test.YtkpmmgeffbhngaaGreatDoorC05
import Derived.Test.YtkpmmgeffbhngaaGreatDoorC10
set_option linter.unusedSimpArgs false
set_option linter.unusedVariables false
set_option linter.unnecessarySimpa false
namespace Prot
end Prot
namespace Go.Shelf
end Go.Shelf
namespace Go.Maps
end Go.Maps
namespace Go.Proofs.YtkpmmgeffbhngaaGreatDoor
open Go.RowKit Prot Go.Lib Go.Maps
/-- what of the library's variables the world has to hold -/
structure Tab (w : World) : Prop where
  pow : Lib.TabIs Tryz.prog w "internal/strconv.uint64pow10" .u64 Lib.pow10Tab
  syn : ∃ tp p, w.var? Tryz.prog "strconv.ErrSyntax" = some #[.iface tp p]
  rng : ∃ tp p, w.var? Tryz.prog "strconv.ErrRange" = some #[.iface tp p]
  max : ∃ m, w.cell? ⟨5, 0, none⟩ = some (.int .i64 m)
theorem var_below {W W' : World} {n : String} {cs : Array Value} (hb : Below W.heap.size W W') (hv : W.var? Tryz.prog n = some cs) : W'.var? Tryz.prog n = some cs := by
  unfold World.var? at hv ⊢
  cases hg : Tryz.prog.globalNamed n with
  | none => rw [hg] at hv; cases hv
  | some g =>
    rw [hg] at hv
    dsimp only [Option.bind_some] at hv ⊢
    cases hh : W.heap[g]? with
    | none => rw [hh] at hv; cases hv
    | some o =>
      rw [blk_below hb hh]
      rw [hh] at hv
      exact hv
theorem Tab.below {W W' : World} (h : Tab W) (hb : Below W.heap.size W W') : Tab W' := by
  obtain ⟨h1, ⟨t1, p1, h2⟩, ⟨t2, p2, h3⟩, m, h4⟩ := h
  exact ⟨var_below hb h1, ⟨t1, p1, var_below hb h2⟩, ⟨t2, p2, var_below hb h3⟩, m, cell_below hb h4⟩
theorem below_grow (w : World) (k : Nat) (os : Array Obj) : Below w.heap.size w (Sort.grow (w.drewN k) os) :=
  ⟨rfl, rfl, rfl, by show w.heap.size ≤ (w.heap ++ os).size; simp, fun b hb => by show (w.heap ++ os)[b]? = w.heap[b]?; exact Array.getElem?_append_left hb⟩
set_option maxRecDepth 100000 in
theorem decimal_any (n : Int) (w : World) (hT : Tab w) (h0 : -9223372036854775808 ≤ n) (h1 : n ≤ 9223372036854775807) : Calls Tryz.prog 49 #[.int .i64 n] w (Ret fun v w' => v = .string (bs (itoa n)) ∧ Below w.heap.size w w') := by
  have hC := Lib.hid (Tryz.strconv_FormatInt_10 n h0 h1 w hT.pow)
  clear hT h0 h1
  go_enter Tryz.func49, Tryz.ntmps49
  go_wp2_with fail
  refine hC.out.mono ?_
  rintro _ w2 ⟨rfl, k, os, rfl⟩
  go_wp2
  go_ret
  exact Ret.mk ⟨rfl, below_grow _ _ _⟩
set_option maxRecDepth 100000 in
theorem put_any (b o c : Nat) (xs : List (List UInt8)) (w : World) (hl : ∀ i (h : i < xs.length), w.cell? ⟨b, o + i, none⟩ = some (.string (bs xs[i]))) (hb : b < w.heap.size) (hn : xs.length ≤ 100000) (hc : xs.length ≤ c) (hlen : xs.flatten.length ≤ 1000000) :
    Calls Tryz.prog 48 #[.slice (some ⟨b, o, none⟩) xs.length c] w (Ret fun v w' => v = .string (bs xs.flatten) ∧ Below w.heap.size w w') := by
  have e1 : (xs.map bs).map (·.data.toList) = xs := by
    rw [List.map_map]
    exact (List.map_congr_left fun x _ => bs_list x).trans (List.map_id _)
  have hC := Tryz.strings_Join b o c (xs.map bs) ⟨#[]⟩ w (fun j x hj => by
    rw [List.getElem?_map] at hj
    cases e : xs[j]? with
    | none => rw [e] at hj; cases hj
    | some y =>
      rw [e] at hj
      injection hj with hj
      obtain ⟨h1, h2⟩ := List.getElem?_eq_some_iff.1 e
      have := hl j h1
      rw [h2] at this
      rw [← hj]; exact this) hb (by rw [List.length_map]; omega) (by rw [List.length_map]; exact hc) (by rw [e1, show (⟨#[]⟩ : ByteArray).data.toList = [] from rfl, join_flat]; omega)
  rw [e1, show (⟨#[]⟩ : ByteArray).data.toList = [] from rfl, join_flat, List.length_map] at hC
  have HC := Lib.hid hC
  clear hC hl hn hc hlen e1
  generalize xs.length = n at *
  go_enter Tryz.func48, Tryz.ntmps48
  go_wp2_with fail
  refine HC.out.mono ?_
  rintro _ w2 ⟨rfl, hB⟩
  go_wp2
  go_ret
  exact Ret.mk ⟨rfl, hB⟩
/-- put at a literal list of texts -/
theorem put_new (xs : List (List UInt8)) (w : World) (n : Nat) (hn : xs.length = n) (hl : n ≤ 1000) (hlen : xs.flatten.length ≤ 1000000) :
    Calls Tryz.prog 48 #[.slice (some ⟨w.heap.size, 0, none⟩) n n] (w.alloc (.cells ((xs.map fun x => Value.string (bs x)).toArray) 9)) (Ret fun v w' => v = .string (bs xs.flatten) ∧ Below w.heap.size w w') := by
  subst hn
  refine (put_any w.heap.size 0 xs.length xs _ (fun i h => ?_) (by simp) (by omega) (Nat.le_refl _) hlen).mono ?_
  · rw [blk_cell (heap_alloc_new w _), Nat.zero_add]
    simp [List.getElem?_eq_getElem h]
  · rintro _ w2 ⟨v, rfl, rfl, hB⟩
    exact Ret.mk ⟨rfl, below_alloc_of (Below.refl _ _) hB⟩
theorem splitB_bs (s : ByteArray) : ((splitB ⟨#[32]⟩ 0 (countB s ⟨#[32]⟩) s).map Value.string).toArray.toList = (splitSp s.data.toList).flatMap encS := by
  have h := splitB_data ⟨#[32]⟩ 0 (countB s ⟨#[32]⟩) s
  have e : splitK (⟨#[32]⟩ : ByteArray).data.toList 0 (countB s ⟨#[32]⟩) s.data.toList = splitSp s.data.toList := split_sp s.data.toList
  rw [e] at h
  rw [← h]
  generalize splitB ⟨#[32]⟩ 0 (countB s ⟨#[32]⟩) s = L
  induction L with
  | nil => rfl
  | cons x L ih =>
    have := ih
    simp only [List.map_cons, List.flatMap_cons] at this ⊢
    rw [← this]
    show Value.string x :: _ = [Value.string (bs x.data.toList)] ++ _
    rw [← bs_of x]; rfl
set_option maxRecDepth 100000 in
theorem fields_any (s : ByteArray) (w : World) (hT : Tab w) (hs : s.size < 4294967281) : Calls Tryz.prog 68 #[.string s] w (Ret (WordsQ (splitSp s.data.toList) w)) := by
  obtain ⟨m, hm⟩ := hT.max
  have hC := Tryz.strings_Split s ⟨#[32]⟩ m w hs hm (by decide)
  have hr := rows_new (enc := encS) encS_len w (splitSp s.data.toList) ((splitB ⟨#[32]⟩ 0 (countB s ⟨#[32]⟩) s).map Value.string).toArray 9 (splitB_bs s)
  have hlen : countB s ⟨#[32]⟩ + 1 = (splitSp s.data.toList).length := by
    have h := congrArg List.length (splitB_bs s)
    have h2 : ((splitSp s.data.toList).flatMap encS).length = (splitSp s.data.toList).length := by
      generalize splitSp s.data.toList = L
      induction L with
      | nil => rfl
      | cons x L ih => rw [List.flatMap_cons, List.length_append, ih, List.length_cons]; show 1 + _ = _; omega
    rw [h2] at h
    rw [← h]
    have key : ∀ (k : Nat) (s : ByteArray), (s.data.toList.length ≤ 0 ∨ True) → True := fun _ _ _ => trivial
    have h3 : ∀ (n : Nat) (s : ByteArray), s.size ≤ n → (splitB ⟨#[32]⟩ 0 (countB s ⟨#[32]⟩) s).length = countB s ⟨#[32]⟩ + 1 := fun n => by
      induction n with
      | zero =>
        intro s hs
        rcases indexB_cases s ⟨#[32]⟩ with e | ⟨i, e, hi⟩
        · have : countB s ⟨#[32]⟩ = 0 := countB_miss s _ e
          rw [this]; rfl
        · exfalso
          have : (⟨#[32]⟩ : ByteArray).size = 1 := rfl
          omega
      | succ n ih =>
        intro s hs
        rcases indexB_cases s ⟨#[32]⟩ with e | ⟨i, e, hi⟩
        · have : countB s ⟨#[32]⟩ = 0 := countB_miss s _ e
          rw [this]; rfl
        · have h1 : (⟨#[32]⟩ : ByteArray).size = 1 := rfl
          rw [countB_hit s ⟨#[32]⟩ i (by decide) e, Nat.add_comm 1, splitB_hit _ _ _ _ i e, List.length_cons, ih _ (by rw [ByteArray.size_extract]; omega)]
    simp [h3 _ s (Nat.le_refl _)]
  rw [hlen] at hC
  have HC := Lib.hid hC
  have HR := Lib.hid hr
  generalize splitSp s.data.toList = ws at *
  clear hC hr hlen hT hm hs
  generalize ((splitB ⟨#[32]⟩ 0 (countB s ⟨#[32]⟩) s).map Value.string).toArray = cs at *
  go_enter Tryz.func68, Tryz.ntmps68
  go_wp2_with fail
  refine HC.out.mono ?_
  rintro _ w2 ⟨rfl, rfl⟩
  go_wp2
  go_ret
  exact Ret.mk ⟨_, _, rfl, Nat.le_refl _, HR.out, below_alloc' (Below.refl _ _) _⟩
end Go.Proofs.YtkpmmgeffbhngaaGreatDoor
namespace Go.Proofs.YtkpmmgeffbhngaaGreatDoor
open Go.RowKit Prot Go.Lib Go.Maps
theorem below_bytes (w : World) (t : ByteArray) : Below w.heap.size w (Lib.bytesWorld w 5 t) := by
  refine ⟨rfl, rfl, rfl, by rw [bytesWorld_size]; omega, fun k hk => bytesWorld_at_old w 5 t k hk⟩
theorem numP_bad {l : List UInt8} (h : ∀ v, parseIntB 64 l ≠ .ok v) : numP l = -1 := by
  unfold numP
  split
  · rename_i v hv; exact absurd hv (h v)
  · rfl
theorem numP_good {l : List UInt8} {v : Int} (h : parseIntB 64 l = .ok v) : numP l = if v < 0 ∨ itoa v ≠ l then -1 else v := by
  unfold numP
  rw [h]
set_option maxRecDepth 100000 in
set_option maxHeartbeats 400000 in
theorem number_any (s : ByteArray) (w : World) (hT : Tab w) (hs : s.size ≤ 1000000) : Calls Tryz.prog 53 #[.string s] w (Ret fun v w' => v = .int .i64 (numP s.data.toList) ∧ Below w.heap.size w w') := by
  have HT := Lib.hid hT
  obtain ⟨t1, p1, hsyn⟩ := hT.syn
  obtain ⟨t2, p2, hrng⟩ := hT.rng
  cases h : parseIntB 64 s.data.toList with
  | ok v =>
    have hC := Tryz.strconv_ParseInt_10_at64_ok s (by omega) v h w
    have HC : Hid (Calls Tryz.prog 90 #[.string s, .int .i64 10, .int .i64 64] w fun e w' => e = .returned (.tuple #[.int .i64 v, .nilIface]) ∧ Below w.heap.size w w') := Lib.hid (hC.mono (by
      rintro e w' ⟨rfl, rfl | ⟨t, rfl⟩⟩
      · exact ⟨rfl, Below.refl _ _⟩
      · exact ⟨rfl, below_bytes _ _⟩))
    have hN := numP_good h
    have hb := parseIntB_bounds h
    have e63 : ((2 ^ (64 - 1) : Nat) : Int) = 9223372036854775808 := rfl
    rw [e63] at hb
    clear e63
    by_cases hv : v < 0
    · have HN : Hid (numP s.data.toList = -1) := Lib.hid (by rw [hN, if_pos (.inl hv)])
      have d1 : decide (v < 0) = true := decide_eq_true hv
      generalize numP s.data.toList = N at *
      clear hC hT hsyn hrng hs h hN hb hv
      go_enter Tryz.func53, Tryz.ntmps53
      go_wp2_with fail
      refine HC.out.mono ?_
      rintro _ w2 ⟨rfl, hB⟩
      go_wp2
      go_ret
      exact Ret.mk ⟨by rw [HN.out]; rfl, hB⟩
    · have d1 : decide (v < 0) = false := decide_eq_false hv
      have HD : Hid (∀ W, Below w.heap.size w W → Calls Tryz.prog 49 #[.int .i64 v] W (Ret fun r w' => r = .string (bs (itoa v)) ∧ Below W.heap.size W w')) := Lib.hid fun W hb2 => decimal_any v W (HT.out.below hb2) (by omega) (by omega)
      by_cases he : itoa v = s.data.toList
      · have HN : Hid (numP s.data.toList = v) := Lib.hid (by rw [hN, if_neg (by rintro (k | k); exact hv k; exact k he)])
        have hse : bs (itoa v) = s := by rw [he]; exact (bs_of s).symm
        rw [hse] at HD
        generalize numP s.data.toList = N at *
        clear hC hT hsyn hrng hs h hN hb hv he hse
        go_enter Tryz.func53, Tryz.ntmps53
        go_wp2_with fail
        refine HC.out.mono ?_
        rintro _ w2 ⟨rfl, hB⟩
        go_wp2_with fail
        refine (HD.out _ hB).mono ?_
        rintro _ w3 ⟨r, rfl, rfl, hB3⟩
        go_wp2
        go_ret
        exact Ret.mk ⟨by rw [HN.out]; rfl, below_trans' hB hB3⟩
      · have HN : Hid (numP s.data.toList = -1) := Lib.hid (by rw [hN, if_pos (.inr he)])
        have hne : ¬ bs (itoa v) = s := fun k => he (by rw [← k]; rfl)
        have d3 := toList_ne hne
        generalize bs (itoa v) = z at *
        generalize numP s.data.toList = N at *
        clear hC hT hsyn hrng hs h hN hb hv he hne
        go_enter Tryz.func53, Tryz.ntmps53
        go_wp2_with fail
        refine HC.out.mono ?_
        rintro _ w2 ⟨rfl, hB⟩
        go_wp2_with fail
        refine (HD.out _ hB).mono ?_
        rintro _ w3 ⟨r, rfl, rfl, hB3⟩
        go_wp2
        go_ret
        exact Ret.mk ⟨by rw [HN.out]; rfl, below_trans' hB hB3⟩
  | «syntax» =>
    have HC := Lib.hid (Tryz.strconv_ParseInt_10_at64_syntax_var s (by omega) h t1 p1 w hsyn)
    have HN : Hid (numP s.data.toList = -1) := Lib.hid (numP_bad fun v e => by rw [h] at e; cases e)
    generalize numP s.data.toList = N at *
    clear hT hsyn hrng hs h
    go_enter Tryz.func53, Tryz.ntmps53
    go_wp2_with fail
    refine HC.out.mono ?_
    rintro _ w2 ⟨nb, rfl, -, -, hB⟩
    go_wp2
    go_ret
    exact Ret.mk ⟨by rw [HN.out]; rfl, hB⟩
  | range =>
    have HC := Lib.hid (Tryz.strconv_ParseInt_10_at64_range_var s (by omega) h t2 p2 w hrng)
    have HN : Hid (numP s.data.toList = -1) := Lib.hid (numP_bad fun v e => by rw [h] at e; cases e)
    generalize intSat 64 s.data.toList = sat at *
    generalize numP s.data.toList = N at *
    clear hT hsyn hrng hs h
    go_enter Tryz.func53, Tryz.ntmps53
    go_wp2_with fail
    refine HC.out.mono ?_
    rintro _ w2 ⟨nb, rfl, -, -, hB⟩
    go_wp2
    go_ret
    exact Ret.mk ⟨by rw [HN.out]; rfl, hB⟩
end Go.Proofs.YtkpmmgeffbhngaaGreatDoor
namespace Go.Proofs.YtkpmmgeffbhngaaGreatDoor
open Go.RowKit Prot Go.Lib Go.Maps
def encB (c : UInt8) : List Value := [.int .u8 c.toNat]
theorem encB_len (c : UInt8) : (encB c).length = 1 := rfl
theorem oneB (x : UInt8) : ∀ u ∈ encB x, u.oneCell' = true := by simp [encB, Value.oneCell']
theorem elemB : ElemT 5 1 1 (.int .u8 0) := ⟨by kernel_rfl, rfl, by omega, by omega⟩
theorem encB_flat (l : List UInt8) : l.flatMap encB = l.map (fun c => Value.int .u8 c.toNat) := by
  induction l with
  | nil => rfl
  | cons c l ih => rw [List.flatMap_cons, ih]; rfl
theorem below_mapBlock {B : Nat} {a w : World} (h : Below B a w) {g : Nat} (hg : B ≤ g) (f : Array Value → Array Value) : Below B a (Sort.mapBlock w g f) :=
  h.trans ⟨rfl, rfl, rfl, by simp [Sort.mapBlock], fun k hk => by
    show (w.heap.modify g _)[k]? = w.heap[k]?
    rw [Array.getElem?_modify, if_neg (by omega)]⟩
theorem byte_of (k : Nat) (h : k < 256) : (UInt8.ofNat k).toNat = k := by simp; omega
theorem addr_add0 (g j : Nat) : (⟨g, 0, none⟩ : Addr).add j = ⟨g, j, none⟩ := by
  unfold Addr.add
  by_cases h : j = 0 <;> simp [h]
/-- Reverse and the text of the bytes -/
theorem revB_any (base g cap : Nat) (l : List UInt8) (w : World) (hown : w.ownsRow base 5 1 (.slice (some ⟨g, 0, none⟩) l.length cap) l.length (l.flatMap encB)) (hb : base ≤ g) (hn : l.length ≤ 100000) :
    Calls Tryz.prog 101 #[.slice (some ⟨g, 0, none⟩) l.length cap] w (Ret fun _ w' => (∀ j (h : j < l.reverse.length), w'.cell? ⟨g, 0 + j, none⟩ = some (.int .u8 (l.reverse[j].toNat : Int))) ∧ ∀ B a, B ≤ base → Below B a w → Below B a w') := by
  have hlen : (l.flatMap encB).length = l.length := by rw [encB_flat, List.length_map]
  have hH : Sort.Holds (fun c : UInt8 => Value.int .u8 c.toNat) w g 0 l.toArray := fun j hj => by
    have hj' : j < l.length := by simpa using hj
    rw [Nat.zero_add]
    refine ⟨?_, hown.frozenAt j⟩
    rw [hown.cellAt j (by omega), encB_flat, List.getElem?_map, List.getElem?_eq_getElem hj']
    simp [getElem!_pos, hj']
  have hC := AnyE.slices_Reverse Tryz.laysRevB (fun c : UInt8 => Value.int .u8 c.toNat) (fun _ => rfl) g 0 cap l w hH (by omega)
  refine Calls.mono hC ?_
  rintro e w' ⟨rfl, n, rfl⟩
  have hH2 := Sort.holds_putRow (fun c : UInt8 => Value.int .u8 c.toNat) (Sort.ahead w n) g 0 l.toArray l.reverse.toArray (Sort.holds_ahead _ w n g 0 _ hH) (by simp)
  exact Ret.mk' rfl ⟨fun j hj => by
    have := (hH2 j (by simpa using hj)).1
    rw [this]
    have h2 : j < l.reverse.toArray.size := by simpa using hj
    have h3 : l.reverse.toArray[j]! = l.reverse[j] := by rw [getElem!_pos l.reverse.toArray j h2]; rfl
    show some (Value.int .u8 (l.reverse.toArray[j]!).toNat) = _
    rw [h3], fun B a hB hW => below_mapBlock (below_drewN hW n) (by omega) _⟩
set_option maxRecDepth 100000 in
set_option maxHeartbeats 1000000 in
theorem letters_any (n : Nat) (w : World) (hn : n ≤ 1099511627776) : Calls Tryz.prog 60 #[.int .i64 n] w (Ret fun v w' => v = .string (bs (letL n)) ∧ Below w.heap.size w w') := by
  obtain ⟨r, hr⟩ : ∃ r : Nat, r = n % 16 := ⟨_, rfl⟩
  obtain ⟨q, hq⟩ : ∃ q : Nat, q = n / 16 := ⟨_, rfl⟩
  have hr16 : r < 16 := by omega
  have r1 : (n : Int) % 16 = (r : Int) := by omega
  have r2 : (n : Int).tmod 16 = (r : Int) := by rw [Int.tmod_eq_emod_of_nonneg (by omega)]; exact r1
  have q1 : (n : Int) / 16 = (q : Int) := by omega
  have q2 : (n : Int).tdiv 16 = (q : Int) := by rw [Int.tdiv_eq_ediv_of_nonneg (by omega)]; exact q1
  have hql : (capL q).length ≤ 10 := capL_len (by omega)
  obtain ⟨c, hc⟩ : ∃ c : UInt8, c = UInt8.ofNat (97 + r) := ⟨_, rfl⟩
  have hcn : c.toNat = 97 + r := by rw [hc]; exact byte_of _ (by omega)
  have hcv : (c.toNat : Int) = 97 + (r : Int) := by rw [hcn]; push_cast; rfl
  have HL : Hid (letL n = capL q ++ [c].reverse) := Lib.hid (by unfold letL; rw [hc, hr, hq]; rfl)
  have hqn : q ≤ n := by omega
  have q3 : IntKind.i64.wrap (q : Int) = (q : Int) := IntWalk.i64_in _ (by omega)
  have r3 : IntKind.i64.wrap (r : Int) = (r : Int) := IntWalk.i64_in _ (by omega)
  have r4 : IntKind.i64.wrap (97 + (r : Int)) = 97 + (r : Int) := IntWalk.i64_in _ (by omega)
  have r5 : IntKind.u8.wrap (97 + (r : Int)) = 97 + (r : Int) := IntWalk.u8_in _ (by omega)
  have HO0 : Hid ((w.alloc (.cells #[.int .u8 (97 + (r : Int))] 5)).ownsRow w.heap.size 5 1 (.slice (some ⟨w.heap.size, 0, none⟩) 1 1) 1 ([c].flatMap encB)) := Lib.hid (by
    have := World.ownsRow_lit (size := 1) (e := 5) (base := w.heap.size) w #[.int .u8 (97 + (r : Int))] 1 (Nat.le_refl _) (by decide) rfl
    rw [show [c].flatMap encB = #[Value.int .u8 (97 + (r : Int))].toList by simp [encB, hcv]]
    exact this)
  clear hr hq hc hcn hcv
  go_enter Tryz.func60, Tryz.ntmps60
  go_wp2
  clear r1 r2 q1 q2 r3 r4 r5
  go_loopw [0, 3] (fun a b wr => ∃ (m : Nat) (cs : List UInt8) (g cap : Nat), a = .int .i64 m ∧ b = .slice (some ⟨g, 0, none⟩) cs.length cap ∧ w.heap.size ≤ g ∧ (capL m).length + cs.length ≤ 20 ∧ m ≤ q ∧ Hid (letL n = capL m ++ cs.reverse) ∧
    Hid (wr.ownsRow w.heap.size 5 1 (.slice (some ⟨g, 0, none⟩) cs.length cap) cs.length (cs.flatMap encB)) ∧ Hid (Below w.heap.size w wr)) (fun a _ _ => (intOf a).toNat)
  case atStart => exact ⟨q, [c], w.heap.size, 1, rfl, rfl, Nat.le_refl _, by simp; omega, Nat.le_refl _, HL, HO0, Lib.hid (below_alloc' (Below.refl _ _) _)⟩
  case round =>
    clear HL hr16 q3 HO0
    obtain ⟨m, cs, g, cap, rfl, rfl, hg, hb, hm, HL, HO, HB⟩ := hrel
    by_cases h0 : m = 0
    · have HR : Hid (letL n = cs.reverse) := Lib.hid (by rw [HL.out, h0, capL_zero]; rfl)
      have HRv := Lib.hid (revB_any w.heap.size g cap cs wr HO.out hg (by omega))
      have hl1 : cs.length = cs.reverse.length := by simp
      have d1 : decide ((m : Int) > 0) = false := by simp; omega
      have d2 : decide ((0 : Int) < (m : Int)) = false := by simp; omega
      have d3 : decide (0 < m) = false := by simp; omega
      have d4 : ¬ 0 < m := by omega
      clear HL hm hb HO h0
      have Hl1 := Lib.hid hl1
      clear hl1
      go_wp2_with fail
      refine HRv.out.mono ?_
      rintro _ w3 ⟨v, rfl, hcells, hbel⟩
      have HB3 := Lib.hid (hbel _ _ (Nat.le_refl _) HB.out)
      have HCv := Lib.hid (run_convert_bytes_back (P := Tryz.prog) w3 79 9 5 ⟨g, 0, none⟩ cap cs.reverse Tryz.underlying79 Tryz.underlying5 Tryz.underlying9 (fun j hj => by rw [addr_add0]; have := hcells j hj; rw [Nat.zero_add] at this; exact this))
      rw [← Hl1.out] at HCv
      clear hcells hbel HB HRv
      have hcv := HCv.out
      go_wp2
      go_ret
      exact Ret.mk' (by rw [HR.out]; rfl) ⟨rfl, HB3.out⟩
    · obtain ⟨r', hr⟩ : ∃ r' : Nat, r' = m % 16 := ⟨_, rfl⟩
      obtain ⟨q', hq⟩ : ∃ q' : Nat, q' = m / 16 := ⟨_, rfl⟩
      have hr16 : r' < 16 := by omega
      have r1 : (m : Int) % 16 = (r' : Int) := by omega
      have r2 : (m : Int).tmod 16 = (r' : Int) := by rw [Int.tmod_eq_emod_of_nonneg (by omega)]; exact r1
      have q1 : (m : Int) / 16 = (q' : Int) := by omega
      have q2 : (m : Int).tdiv 16 = (q' : Int) := by rw [Int.tdiv_eq_ediv_of_nonneg (by omega)]; exact q1
      have hqm : q' < m := by omega
      have q3 : IntKind.i64.wrap (q' : Int) = (q' : Int) := IntWalk.i64_in _ (by omega)
      have r3 : IntKind.i64.wrap (r' : Int) = (r' : Int) := IntWalk.i64_in _ (by omega)
      have r4 : IntKind.i64.wrap (65 + (r' : Int)) = 65 + (r' : Int) := IntWalk.i64_in _ (by omega)
      have r5 : IntKind.u8.wrap (65 + (r' : Int)) = 65 + (r' : Int) := IntWalk.u8_in _ (by omega)
      obtain ⟨c, hc⟩ : ∃ c, c = UInt8.ofNat (65 + r') := ⟨_, rfl⟩
      have hcn : c.toNat = 65 + r' := by rw [hc]; exact byte_of _ (by omega)
      have hcv : (c.toNat : Int) = 65 + (r' : Int) := by rw [hcn]; push_cast; rfl
      have HL2 : Hid (letL n = capL q' ++ (cs ++ [c]).reverse) := Lib.hid (by
        rw [HL.out, capL_pos h0, hc, hq, hr, List.append_assoc]; simp)
      have hcl : (capL m).length = (capL q').length + 1 := by rw [capL_pos h0, List.length_append, ← hq]; rfl
      have d1 : decide ((m : Int) > 0) = true := by simp; omega
      have d2 : decide ((0 : Int) < (m : Int)) = true := by simp; omega
      have hb2 : (capL q').length + (cs.length + 1) ≤ 20 := by omega
      have hbk := heap_alloc_new wr (.cells #[.int .u8 (65 + (r' : Int))] 5)
      have HOA := Lib.hid (HO.out.alloc (.cells #[.int .u8 (65 + (r' : Int))] 5))
      have hr6 := own_base HO.out
      have hsw := HB.out.size
      have HE : Hid ((#[Value.int .u8 (65 + (r' : Int))] : Array Value).toList = encB c) := Lib.hid (by unfold encB; rw [hcv])
      clear HL hc hr hq hr16 hn hqn hcn hcl hcv
      go_wp2_with (at_builtin; refine wpList_push _ rfl (.tmp 15) (.tmp 20) 79 rfl elemB encB_len oneB Tryz.underlying79 w.heap.size _ cs rfl HOA.out (by omega) c wr.heap.size (by rfl) _ HE.out _ _ hbk (by rw [World.size_alloc]; omega) ?_; intro g2 cap2 w6 hO6 hg6)
      have HB6 := Lib.hid ((below_alloc' HB.out (.cells #[.int .u8 (65 + (r' : Int))] 5)).grown hg6 (by rw [World.size_alloc]; omega) (fun r e => by have := hr6 r e; omega))
      have hg2 : w.heap.size ≤ g2 := own_base hO6 g2 rfl
      have HO6 := Lib.hid hO6
      clear hO6 hg6 hr6 HO HOA hbk HB HE
      go_roundw
      case rel => exact ⟨q', cs ++ [c], g2, cap2, rfl, by rw [len_snoc], hg2, by rw [len_snoc]; exact hb2, by omega, HL2, by rw [len_snoc]; exact HO6, HB6⟩
      case measure => simp [intOf]; omega
end Go.Proofs.YtkpmmgeffbhngaaGreatDoor
