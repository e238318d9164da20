/- What the laws of the chapter rest on, part 19. -/
import Derived.Test.YtkpmmgeffbhngaaGreatDoorC18
set_option linter.unusedSimpArgs false
set_option linter.unusedVariables false
set_option linter.unnecessarySimpa false
namespace Prot
end Prot
namespace Go.Shelf
end Go.Shelf
namespace Go.Maps
end Go.Maps
namespace Go.Proofs.YtkpmmgeffbhngaaGreatDoor
open Go.RowKit Prot Go.Lib Go.Maps
/-- what Decode of the definition answers: depths in memory, and the error -/
def DecQ (r : List Int × Int) (w : World) (v : Value) (w' : World) : Prop := ∃ A ca, v = .tuple #[.slice A r.1.length ca, .int .i64 r.2] ∧ r.1.length ≤ ca ∧ IntsAt w' A r.1 ∧ Below w.heap.size w w'
theorem decGo_snoc {b : Nat} {t : List UInt8} {c : UInt8} {z st st' : DSt} (h : decGo b t z = some st) (h2 : decStep b st c = some st') : decGo b (t ++ [c]) z = some st' := by
  rw [decGo_append, h]
  show (match decStep b st c with | none => none | some s' => decGo b [] s') = _
  rw [h2]; rfl
theorem decGo_stop {b : Nat} {t r : List UInt8} {c : UInt8} {z st : DSt} (h : decGo b t z = some st) (h2 : decStep b st c = none) : decGo b (t ++ c :: r) z = none := by
  rw [decGo_append, h]
  show (match decStep b st c with | none => none | some s' => decGo b r s') = _
  rw [h2]
end Go.Proofs.YtkpmmgeffbhngaaGreatDoor
namespace Go.Proofs.YtkpmmgeffbhngaaGreatDoor
open Go.RowKit Prot Go.Lib Go.Maps
/-- a rest and a quotient as letters, in the forms that a walk meets -/
theorem rem_letter (n k : Nat) (hk : 0 < k) (hn : n < 9223372036854775808) : ∃ r : Nat, r = n % k ∧ (n : Int) % (k : Int) = (r : Int) ∧ (n : Int).tmod (k : Int) = (r : Int) ∧ IntKind.i64.wrap (r : Int) = (r : Int) := by
  have h : n % k < k := Nat.mod_lt _ hk
  have h2 : n % k ≤ n := Nat.mod_le _ _
  refine ⟨n % k, rfl, by omega, by rw [Int.tmod_eq_emod_of_nonneg (by omega)]; omega, IntWalk.i64_in _ (by omega)⟩
theorem quo_letter (n k : Nat) (hn : n < 9223372036854775808) : ∃ r : Nat, r = n / k ∧ (n : Int) / (k : Int) = (r : Int) ∧ (n : Int).tdiv (k : Int) = (r : Int) ∧ IntKind.i64.wrap (r : Int) = (r : Int) := by
  have h2 : n / k ≤ n := Nat.div_le_self _ _
  refine ⟨n / k, rfl, by rfl, by rw [Int.tdiv_eq_ediv_of_nonneg (by omega)]; rfl, ?_⟩
  generalize n / k = r at *
  exact IntWalk.i64_in _ (by omega)
theorem dec_nat (n : Nat) (w : World) (hT : Tab w) (h1 : n ≤ 9223372036854775807) : Calls Tryz.prog 49 #[.int .i64 (n : Int)] w (Ret fun v w' => v = .string (bs (decDigits n)) ∧ Below w.heap.size w w') := by
  have := decimal_any (n : Int) w hT (by omega) (by omega)
  rw [itoa_nonneg] at this
  exact this
theorem put2 (a b : List UInt8) (h : a.length + b.length ≤ 100000) (W : World) : Calls Tryz.prog 48 #[.slice (some ⟨W.heap.size, 0, none⟩) 2 2] (W.alloc (.cells #[.string (bs a), .string (bs b)] 9)) (Ret fun v w' => v = .string (bs (a ++ b)) ∧ Below W.heap.size W w') := by
  have := put_new [a, b] W 2 rfl (by omega) (by simp; omega)
  rw [show [a, b].flatten = a ++ b by simp] at this
  exact this
set_option maxRecDepth 100000 in
set_option maxHeartbeats 400000 in
theorem check_any (n : Nat) (w : World) (hT : Tab w) (hn : n ≤ 1099511627776) : Calls Tryz.prog 50 #[.int .i64 (n : Int)] w (Ret fun v w' => v = .string (bs (chkL n)) ∧ Below w.heap.size w w') := by
  have HT := Lib.hid hT
  obtain ⟨r1, hr1, a1, a2, a3⟩ := rem_letter n 97 (by omega) (by omega)
  obtain ⟨m, hm⟩ : ∃ m, m = r1 * 100 := ⟨_, rfl⟩
  have b1 : (r1 : Int) * 100 = (m : Int) := by omega
  have b2 : IntKind.i64.wrap (m : Int) = (m : Int) := IntWalk.i64_in _ (by omega)
  obtain ⟨r2, hr2, c1, c2, c3⟩ := rem_letter m 97 (by omega) (by omega)
  obtain ⟨d, hd⟩ : ∃ d, d = 98 - r2 := ⟨_, rfl⟩
  have d1 : (98 : Int) - (r2 : Int) = (d : Int) := by omega
  have d2 : IntKind.i64.wrap (d : Int) = (d : Int) := IntWalk.i64_in _ (by omega)
  obtain ⟨c, hc, e1, e2, e3⟩ := rem_letter d 97 (by omega) (by omega)
  obtain ⟨x, hx, f1, f2, f3⟩ := quo_letter c 10 (by omega)
  obtain ⟨y, hy, g1, g2, g3⟩ := rem_letter c 10 (by omega) (by omega)
  have hck : c = chk n := by unfold chk; omega
  have a1 : (n:Int) % 97 = r1 := a1
  have a2 : (n:Int).tmod 97 = r1 := a2
  have c1 : (m:Int) % 97 = r2 := c1
  have c2 : (m:Int).tmod 97 = r2 := c2
  have e1 : (d:Int) % 97 = c := e1
  have e2 : (d:Int).tmod 97 = c := e2
  have f1 : (c:Int) / 10 = x := f1
  have f2 : (c:Int).tdiv 10 = x := f2
  have g1 : (c:Int) % 10 = y := g1
  have g2 : (c:Int).tmod 10 = y := g2
  have HV : Hid (chkL n = decDigits x ++ decDigits y) := Lib.hid (by unfold chkL; rw [← hck, ← hx, ← hy])
  have HD1 : Hid (∀ W, Below w.heap.size w W → Calls Tryz.prog 49 #[.int .i64 (x : Int)] W (Ret fun v w' => v = .string (bs (decDigits x)) ∧ Below W.heap.size W w')) := Lib.hid fun W hb => dec_nat x W (HT.out.below hb) (by omega)
  have HD2 : Hid (∀ W, Below w.heap.size w W → Calls Tryz.prog 49 #[.int .i64 (y : Int)] W (Ret fun v w' => v = .string (bs (decDigits y)) ∧ Below W.heap.size W w')) := Lib.hid fun W hb => dec_nat y W (HT.out.below hb) (by omega)
  have l1 := dec_len13 (n := x) (by show x ≤ 1099511627776; omega)
  have l2 := dec_len13 (n := y) (by show y ≤ 1099511627776; omega)
  generalize decDigits x = D1 at *
  generalize decDigits y = D2 at *
  have HP := Lib.hid (put2 D1 D2 (by omega))
  clear hr1 hm hr2 hd hc hx hy hck l1 l2 hT hn
  go_enter Tryz.func50, Tryz.ntmps50
  go_wp2_with fail
  refine (HD1.out _ (Below.refl _ _)).mono ?_
  rintro _ w2 ⟨v, rfl, rfl, hB2⟩
  go_wp2_with fail
  refine (HD2.out _ hB2).mono ?_
  rintro _ w3 ⟨v, rfl, rfl, hB3⟩
  have HB3 := Lib.hid (below_trans' hB2 hB3)
  clear hB2 hB3
  go_wp2_with fail
  refine (HP.out _).mono ?_
  rintro _ w4 ⟨v, rfl, rfl, hB4⟩
  go_wp2
  go_ret
  exact Ret.mk ⟨by rw [HV.out]; rfl, below_trans' HB3.out hB4⟩
set_option maxRecDepth 100000 in
set_option maxHeartbeats 400000 in
theorem Mark_any (n : Int) (w : World) (hT : Tab w) : Calls Tryz.prog 16 #[.int .i64 n] w (Ret fun v w' => v = markT n ∧ Below w.heap.size w w') := by
  by_cases h1 : n < 1
  · have HM : Hid (markT n = .tuple #[.string (bs []), .int .i64 3]) := Lib.hid (by unfold markT; rw [if_neg (by omega)])
    have t1 : decide (n < 1) = true := decide_eq_true h1
    clear h1 hT
    go_enter Tryz.func16, Tryz.ntmps16
    go_wp2
    go_ret2
    exact Ret.mk ⟨by rw [HM.out]; rfl, Below.refl _ _⟩
  have t1 : decide (n < 1) = false := decide_eq_false h1
  by_cases h2 : n > 1099511627776
  · have HM : Hid (markT n = .tuple #[.string (bs []), .int .i64 3]) := Lib.hid (by unfold markT; rw [if_neg (by omega)])
    have t2 : decide (n > 1099511627776) = true := decide_eq_true h2
    have t3 : decide (1099511627776 < n) = true := decide_eq_true h2
    clear h1 h2 hT
    go_enter Tryz.func16, Tryz.ntmps16
    go_wp2
    go_ret2
    exact Ret.mk ⟨by rw [HM.out]; rfl, Below.refl _ _⟩
  have t2 : decide (n > 1099511627776) = false := decide_eq_false h2
  have t3 : decide (1099511627776 < n) = false := decide_eq_false h2
  obtain ⟨d, rfl⟩ : ∃ d : Nat, n = (d : Int) := ⟨n.toNat, by omega⟩
  have HM : Hid (markT (d : Int) = .tuple #[.string (bs (decDigits d ++ chkL d)), .int .i64 0]) := Lib.hid (by unfold markT; rw [if_pos (by omega), Int.toNat_natCast]; rfl)
  have HD : Hid (Calls Tryz.prog 49 #[.int .i64 (d : Int)] w (Ret fun v w' => v = .string (bs (decDigits d)) ∧ Below w.heap.size w w')) := Lib.hid (dec_nat d w hT (by omega))
  have HC : Hid (∀ W, Below w.heap.size w W → Calls Tryz.prog 50 #[.int .i64 (d : Int)] W (Ret fun v w' => v = .string (bs (chkL d)) ∧ Below W.heap.size W w')) := Lib.hid fun W hb => check_any d W (hT.below hb) (by omega)
  have l1 := dec_len13 (n := d) (by show d ≤ 1099511627776; omega)
  have l2 := chkL_len d
  generalize decDigits d = D1 at *
  generalize chkL d = D2 at *
  have HP := Lib.hid (put2 D1 D2 (by omega))
  clear l1 l2 h1 h2 hT
  go_enter Tryz.func16, Tryz.ntmps16
  go_wp2_with fail
  refine HD.out.mono ?_
  rintro _ w2 ⟨v, rfl, rfl, hB2⟩
  go_wp2_with fail
  refine (HC.out _ hB2).mono ?_
  rintro _ w3 ⟨v, rfl, rfl, hB3⟩
  have HB3 := Lib.hid (below_trans' hB2 hB3)
  clear hB2 hB3
  go_wp2_with fail
  refine (HP.out _).mono ?_
  rintro _ w4 ⟨v, rfl, rfl, hB4⟩
  go_wp2
  go_ret2
  exact Ret.mk ⟨by rw [HM.out]; rfl, below_trans' HB3.out hB4⟩
end Go.Proofs.YtkpmmgeffbhngaaGreatDoor
namespace Go.Proofs.YtkpmmgeffbhngaaGreatDoor
open Go.RowKit Go.Shelf Prot Go.Lib Go.Maps
attribute [local go_sem] Oper.semAt_some
/-- an object of a loop -/
def LoopObj (o : Obj) : Prop := (∃ r, o = .loop r) ∨ ∃ d, o = .deferred d
/-- what stays where nothing that lay is written -/
def Stays {β : Type} (I : β → World → Prop) : Prop := ∀ s W W', I s W → W.grownBy W' none → I s W'
def KeepL (n : Nat) (W W' : World) : Prop := ∀ l o, n ≤ l → W.heap[l]? = some o → LoopObj o → W'.heap[l]? = some o
/-- what a round leaves -/
def bodyB {α : Type} (n : Nat) (Kp : World → World → Prop) (I : List α → World → Prop) (pre : List α) (W : World) : Exit → Act → World → Prop := fun e _ W' => e = .normal ∧ KeepL n W W' ∧ Kp W W' ∧ I pre W'
/-- an iterator that writes its own box bx, and nothing else that lay -/
def SeqBox2 {α : Type} (gf : Nat) (lb : Array Value) (encs : α → Array Value) (Kp : World → World → Prop) (bx : Nat) (xs : List α) (w : World) : Prop :=
  ∀ (l : Nat) (J : List α → World → Prop) (W : World), Below w.heap.size w W → Stays J → (∀ ys V v, J ys V → J ys (V.setCell ⟨bx, 0, none⟩ v)) → AsksY l encs Kp xs.length J → J [] W →
    CallsIn Fence.wide 9 Tryz.prog gf (#[.func (.yield l) #[] #[]] ++ lb) W fun e W' => (∃ v, e = .returned v) ∧ J xs W'
theorem wp_rangeB2 {α : Type} {gop : Operand} {ps : Array Tmp} {assign body : Code} {Q : Exit → Act → World → Prop} {a : Act} {w : World}
    {gf : Nat} {lb : Array Value} (hg : a.eval gop = .func (.func gf) #[] lb) (eg : ∀ args w, (callFunc gf args).run Tryz.prog w = .ok (.enter gf args) w)
    {encs : α → Array Value} {Kp : World → World → Prop} {xs : List α} (bx : Nat) (hbx : bx < w.heap.size) (hseq : SeqBox2 gf lb encs Kp bx xs w)
    (hKt : ∀ {A B C : World}, Kp A B → Kp B C → Kp A C) (hKb : ∀ (W : World) (l : Nat) (o' : Obj), w.heap.size ≤ l → Kp W (W.putObj l o')) (hps : ∀ x, (encs x).size = ps.size)
    (I : List α → World → Prop) (hI : Stays I) (hIl : ∀ ys V l o o', I ys V → w.heap.size ≤ l → V.heap[l]? = some o → LoopObj o → I ys (V.putObj l o')) (hIb : ∀ ys V v, I ys V → I ys (V.setCell ⟨bx, 0, none⟩ v)) (h0 : I [] w) (put : α → Array Value → Array Value)
    (hassign : ∀ (l : Nat) (x : α) (W : World) (K : Act → World → Prop), K { tmps := put x a.tmps, defers := [] } W →
      assign.wpIn (Fence.wide.inRound l) 8 Tryz.prog (Exit.then K (fun _ _ _ => False)) { tmps := (ps.zip (encs x)).foldl (fun t (p, v) => t.setIfInBounds p v) a.tmps, defers := [] } W)
    (hbody : ∀ (l : Nat) (pre : List α) (x : α) (W : World), w.heap.size ≤ l → I pre W → pre.length < xs.length → body.wpIn (Fence.wide.inRound l) 8 Tryz.prog (bodyB w.heap.size Kp I (pre ++ [x]) W) { tmps := put x a.tmps, defers := [] } W)
    (hdone : ∀ (D : Nat) (W : World), w.heap.size ≤ D → I xs W → W.heap[D]? = some (.deferred (some [])) → Q .normal { a with defers := { target := .collected D, args := #[] } :: a.defers } W) :
    (Code.rangeFunc gop ps assign body).wp Tryz.prog Q a w := by
  refine wpIn_wide.1 (show (Code.rangeFunc gop ps assign body).wpIn Fence.wide 10 Tryz.prog Q a w from wpIn_rangeFunc ?_)
  intro fn hfn
  obtain ⟨R, hR⟩ : ∃ R : LoopState → Loop, R = fun st => { state := st, pending := none, fn, tmps := a.tmps, params := ps, assign, body, defers := w.heap.size } := ⟨_, rfl⟩
  have e1 : (w.alloc (.deferred (some []))).heap.size = w.heap.size + 1 := by simp
  obtain ⟨V, hV⟩ : ∃ V, (w.alloc (.deferred (some []))).alloc (.loop (R .ready)) = V := ⟨_, rfl⟩
  have hl : V.heap[w.heap.size + 1]? = some (.loop (R .ready)) := by
    rw [← hV]; exact heap_alloc_at _ _ e1
  have hd : V.heap[w.heap.size]? = some (.deferred (some [])) := by
    rw [← hV]; exact blk_alloc (heap_alloc_new w _) _
  have hi : I [] V := by rw [← hV]; exact hI _ _ _ (hI _ _ _ h0 (World.grownBy_alloc _ _ none)) (World.grownBy_alloc _ _ none)
  have hB : Below w.heap.size w V := by rw [← hV]; exact below_alloc' (below_alloc' (Below.refl _ _) _) _
  have hvs : w.heap.size + 2 ≤ V.heap.size := by rw [← hV]; simp
  refine ⟨w.heap.size + 1, [{ target := .collected w.heap.size, args := #[] }], V, { target := .fn (.func gf) lb, args := #[.func (.yield (w.heap.size + 1)) #[] #[]] }, V, gf,
    #[.func (.yield (w.heap.size + 1)) #[] #[]] ++ lb, V, ?_, ?_, fun f' _ => trivial, ?_, fun _ => by omega, ?_⟩
  · rw [← hV, hR]; exact run_enterLoop_outer _ _ _ _ _
  · simp only [resolve, hg]
    simp [go_sem]
  · simp [invoke, go_sem, eg]
  · have far : ∀ {A : World} {k : Nat} {o : Obj} (v : Value), A.heap[k]? = some o → w.heap.size ≤ k → (A.setCell ⟨bx, 0, none⟩ v).heap[k]? = some o := fun v h hk => blk_far h (p := ⟨bx, 0, none⟩) (by show _ ≠ bx; omega) v
    have keep : ∀ {A B : World} {k : Nat} {o : Obj}, A.grownBy B none → A.heap[k]? = some o → B.heap[k]? = some o := fun hgr h => blk_grown hgr h (by simp)
    refine (hseq (w.heap.size + 1) (fun pre W => I pre W ∧ W.heap[w.heap.size + 1]? = some (.loop (R .ready)) ∧ W.heap[w.heap.size]? = some (.deferred (some []))) V hB ?_ ?_ ?_ ⟨hi, hl, hd⟩).mono ?_
    · intro s A B hs hgr
      exact ⟨hI s A B hs.1 hgr, keep hgr hs.2.1, keep hgr hs.2.2⟩
    · intro ys A v hs
      exact ⟨hIb ys A v hs.1, far v hs.2.1 (by omega), far v hs.2.2 (Nat.le_refl _)⟩
    · rintro pre x W ⟨hi, hl, hd⟩ hlen
      have hlt := blk_lt hl
      have hy := run_yield (P := Tryz.prog) (args := encs x) hl (by rw [hR]; exact hps x)
      rw [hR] at hy
      refine ⟨fn, _, assign, body, hy, roundIn_of_wpIn hfn (hassign _ x W _ ?_)⟩
      refine ⟨_, run_beginRound hl (by rw [hR]), ?_⟩
      have k1 : (W.putObj (w.heap.size + 1) (.loop { R .ready with state := .busy })).heap[w.heap.size + 1]? = some (.loop { R .ready with state := .busy }) := World.putObj_heap_same hlt
      have k2 : (W.putObj (w.heap.size + 1) (.loop { R .ready with state := .busy })).heap[w.heap.size]? = some (.deferred (some [])) := (World.putObj_heap_other (by omega)).trans hd
      refine wpIn_mono (hbody _ pre x _ (by omega) (hIl _ _ _ _ _ hi (by omega) hl (.inl ⟨_, rfl⟩)) hlen) ?_
      rintro e a3 W3 hp
      obtain ⟨rfl, hk3, hkp, hi3⟩ := hp
      have k3 := hk3 _ _ (by omega) k1 (.inl ⟨_, rfl⟩)
      have hr := run_endRound (P := Tryz.prog) none k3
      refine ⟨_, _, hr, rfl, ⟨hIl _ _ _ _ _ hi3 (by omega) k3 (.inl ⟨_, rfl⟩), ?_, (World.putObj_heap_other (by omega)).trans (hk3 _ _ (Nat.le_refl _) k2 (.inr ⟨_, rfl⟩))⟩, hKt (hKt (hKb _ _ _ (by omega)) hkp) (hKb _ _ _ (by omega))⟩
      rw [World.putObj_heap_same (blk_lt k3), hR]
      try rfl
    · rintro e W2 ⟨⟨v, rfl⟩, hi, hl, hd⟩
      exact ⟨none, _, by have := run_endLoop (P := Tryz.prog) hl (by rw [hR]; simp); rw [hR] at this; exact this, hdone _ _ (Nat.le_refl _) (hIl _ _ _ _ _ hi (by omega) hl (.inl ⟨_, rfl⟩)) ((World.putObj_heap_other (by omega)).trans hd)⟩
theorem enters113 : ∀ args w, (callFunc 113 args).run Tryz.prog w = .ok (.enter 113 args) w := fun args w => by simp [go_sem]
set_option maxRecDepth 100000 in
set_option maxHeartbeats 4000000 in
theorem rows1_seq2 {α : Type} (f : α → Nat) (xs : List α) (bx : Nat) (t : List UInt8) (m : Int) (Kp : World → World → Prop) (hKp : ∀ A B, Kp A B → KeepB bx A B) (w : World) (h5 : bx ≠ 5) (ht : t.length ≤ 1000000) (hxs : xs.map f = List.range (rowsL t).length)
    (hc0 : w.heap[bx]? = some (.cells #[.string (bs t)] 9 (0, 0))) (hc5 : w.cell? ⟨5, 0, none⟩ = some (.int .i64 m)) (hlen : (rowsL t).length ≤ 1000000) :
    SeqBox2 113 #[.pointer (some ⟨bx, 0, none⟩)] (fun x : α => #[.int .i64 (f x : Nat), .string (bs ((rowsL t).getD (f x) []))]) Kp bx xs w := by
  intro l0 J W hW hJ hJb hY h0
  have hxl : xs.length = (rowsL t).length := by have := congrArg List.length hxs; simpa using this
  have HX : Hid (∀ k (h : k < xs.length), f xs[k] = k) := Lib.hid fun k h => by
    have h2 : (xs.map f)[k]? = some k := by rw [hxs, List.getElem?_range (by omega)]
    rw [List.getElem?_map, List.getElem?_eq_getElem h] at h2
    simpa using h2
  have HY := Lib.hid hY
  have HKp := Lib.hid hKp
  have HJ := Lib.hid hJ
  have HJb := Lib.hid hJb
  have H0 := Lib.hid (blk_below hW hc0)
  have H5 := Lib.hid (cell_below hW hc5)
  clear hxs hY hKp hJ hJb hc0 hc5 hW
  obtain ⟨L, hL⟩ : ∃ L, L = rowsL t := ⟨_, rfl⟩
  rw [← hL] at HY hxl hlen
  have HL0 : Hid (L.drop 0 = rowsL t) := Lib.hid (by rw [hL]; rfl)
  clear hL
  have p0 : W.cell? ⟨bx, 0, none⟩ = some (.string (bs t)) := (blk_cell H0.out).trans rfl
  refine callsIn_of_wp Tryz.func113 rfl trivial ?_ rfl
  simp only [Tryz.ntmps113, List.size_toArray, List.length_cons, List.length_nil, Nat.reduceAdd, Nat.reduceSub, Array.replicate_succ, Array.replicate_zero, List.push_toArray, List.append_toArray, List.nil_append, List.cons_append]
  gi_wp2
  clear p0
  gi_loopw [3] (fun i wr => ∃ (k : Nat) (r : List UInt8), k ≤ L.length ∧ i = .int .i64 k ∧ J (xs.take k) wr ∧ r.length ≤ 1000000 ∧ Hid (L.drop k = rowsL r) ∧ Hid (wr.heap[bx]? = some (.cells #[.string (bs r)] 9 (0, 0))) ∧ Hid (wr.cell? ⟨5, 0, none⟩ = some (.int .i64 m))) (fun i _ => L.length - (intOf i).toNat)
  case atStart => exact ⟨0, t, Nat.zero_le _, rfl, h0, ht, HL0, H0, H5⟩
  case round =>
    obtain ⟨k, r, hk, rfl, hJs, hr, HD, HR, H5⟩ := hrel
    have p0 : wr.cell? ⟨bx, 0, none⟩ = some (.string (bs r)) := (blk_cell HR.out).trans rfl
    by_cases h0r : r = []
    · have hkl : k = xs.length := by
        have := congrArg List.length HD.out
        rw [h0r, rows_nil, List.length_drop] at this
        simp at this; omega
      have d3 : (bs r).toList.isEmpty = true := by rw [h0r]; exact bs_empty
      have HJ2 : Hid (J xs wr) := Lib.hid (by rw [hkl, List.take_length] at hJs; exact hJs)
      clear hJs h0r
      generalize bs r = sr at *
      gi_wp2
      go_end0
      exact ⟨⟨_, rfl⟩, HJ2.out⟩
    · obtain ⟨l, r', b, hcut, hrow, hlr⟩ := cut_row h0r
      rw [hrow] at HD
      obtain ⟨hkL, hlk, hnx⟩ := drop_next HD.out
      have hkx : k < xs.length := by omega
      have d3 : (bs r).toList.isEmpty = false := bs_full h0r
      have HC : Hid (∀ V, V.cell? ⟨5, 0, none⟩ = some (.int .i64 m) → Calls Tryz.prog 114 #[.string (bs r), .string ⟨#[10]⟩] V (Ret fun v w' => v = .tuple #[.string (bs l), .string (bs r'), .bool b] ∧ ∃ q, w' = V.drewN q)) := Lib.hid fun V hV => cut_any r m V hr hV hcut
      have HJq : Hid (∀ q, J (xs.take k) (wr.drewN q)) := Lib.hid fun q => HJ.out _ _ _ hJs (grown_of_below (below_drewN (Below.refl _ _) q))
      have HYq : Hid (∀ q, YieldAt Fence.wide 8 Tryz.prog l0 #[.int .i64 (k : Nat), .string (bs l)] (wr.drewN q) fun e W' => e = .returned (.bool true) ∧ J (xs.take k ++ [xs[k]]) W' ∧ Kp (wr.drewN q) W') := Lib.hid fun q => by
        have := HY.out (xs.take k) xs[k] (wr.drewN q) (HJq.out q) (by rw [List.length_take]; omega)
        dsimp only at this
        rw [HX.out k hkx] at this
        have e : L.getD k [] = l := by rw [List.getD_eq_getElem?_getD, List.getElem?_eq_getElem hkL]; exact hlk
        rw [e] at this
        exact this
      have HT := Lib.hid (take_snoc' hkx)
      have Hnx := Lib.hid hnx
      clear hcut hrow hlk hnx HD hJs h0r
      generalize xs[k] = y at *
      generalize bs r = sr at *
      gi_wp2_with fail
      refine ⟨trivial, (callsIn_wide.2 (HC.out _ H5.out)).mono ?_⟩
      rintro _ W1 ⟨v, rfl, rfl, q, rfl⟩
      obtain ⟨fn, tmps, assign, body, hy, hRd⟩ := HYq.out q
      have HRd := Lib.hid hRd; clear hRd
      gi_wp2
      refine HRd.out.mono ?_
      rintro e' W3 ⟨rfl, hJ3, hk3⟩
      obtain ⟨b1, b2⟩ := HKp.out _ _ hk3
      have hb3 : W3.heap[bx]? = some (.cells #[.string sr] 9 (0, 0)) := b1.trans HR.out
      have HB3 := Lib.hid (blk_set hb3 (i := 0) (.string (bs r')))
      have q1 : W3.cell? ⟨bx, 0, none⟩ = some (.string sr) := (blk_cell hb3).trans rfl
      have q2 : W3.frozen? ⟨bx, 0, none⟩ = false := blk_frozen (i := 0) hb3
      have H53 : Hid ((W3.setCell ⟨bx, 0, none⟩ (.string (bs r'))).cell? ⟨5, 0, none⟩ = some (.int .i64 m)) := Lib.hid (cell_far (b2 m H5.out) (fun e => h5 (by injection e with e; exact e.symm)))
      have HJ3 : Hid (J (xs.take (k + 1)) (W3.setCell ⟨bx, 0, none⟩ (.string (bs r')))) := Lib.hid (by rw [HT.out]; exact HJb.out _ _ _ hJ3)
      clear hJ3 hk3 b1 b2 hb3 hy
      gi_wp2
      go_roundw
      case rel => exact ⟨k + 1, r', by omega, by go_num, HJ3.out, by omega, Hnx, HB3, H53⟩
      case measure => simp [intOf]; omega
end Go.Proofs.YtkpmmgeffbhngaaGreatDoor
namespace Go.Proofs.YtkpmmgeffbhngaaGreatDoor
open Go.RowKit Go.Shelf Prot Go.Lib Go.Maps
attribute [local go_sem] Oper.semAt_some
/-- what stays where nothing that lay is written -/
def StaysP (I : World → Prop) : Prop := ∀ W W', I W → W.grownBy W' none → I W'
/-- what a round leaves that goes on, or ends all by a return -/
def bodyB3 {α : Type} (n : Nat) (Kp : World → World → Prop) (I : List α → World → Prop) (Ix : World → Prop) (pre : List α) (W : World) : Exit → Act → World → Prop := fun e _ W' => KeepL n W W' ∧ (e = .normal ∧ Kp W W' ∧ I pre W' ∨ e = .ret ∧ Ix W')
/-- a yield at a loop whose body goes on or ends it: what the iterator asks -/
def AsksY3 {α : Type} (l : Nat) (encs : α → Array Value) (Kp : World → World → Prop) (xs : List α) (J : List α → World → Prop) (Jx : World → Prop) : Prop :=
  ∀ pre x rest W1, xs = pre ++ x :: rest → J pre W1 → YieldAt Fence.wide 8 Tryz.prog l (encs x) W1 fun e W' => e = .returned (.bool true) ∧ J (pre ++ [x]) W' ∧ Kp W1 W' ∨ e = .returned (.bool false) ∧ Jx W'
/-- an iterator that writes its own box bx, and nothing else that lay -/
def SeqBox3 {α : Type} (gf : Nat) (lb : Array Value) (encs : α → Array Value) (Kp : World → World → Prop) (bx : Nat) (xs : List α) (w : World) : Prop :=
  ∀ (l : Nat) (J : List α → World → Prop) (Jx : World → Prop) (W : World), Below w.heap.size w W → Stays J → StaysP Jx → (∀ ys V v, J ys V → J ys (V.setCell ⟨bx, 0, none⟩ v)) → AsksY3 l encs Kp xs J Jx → J [] W →
    CallsIn Fence.wide 9 Tryz.prog gf (#[.func (.yield l) #[] #[]] ++ lb) W fun e W' => (∃ v, e = .returned v) ∧ (J xs W' ∨ Jx W')
theorem wp_rangeB3 {α : Type} {gop : Operand} {ps : Array Tmp} {assign body : Code} {Q : Exit → Act → World → Prop} {a : Act} {w : World}
    {gf : Nat} {lb : Array Value} (hg : a.eval gop = .func (.func gf) #[] lb) (eg : ∀ args w, (callFunc gf args).run Tryz.prog w = .ok (.enter gf args) w)
    {encs : α → Array Value} {Kp : World → World → Prop} {xs : List α} (bx : Nat) (hbx : bx < w.heap.size) (hseq : SeqBox3 gf lb encs Kp bx xs w)
    (hKt : ∀ {A B C : World}, Kp A B → Kp B C → Kp A C) (hKb : ∀ (W : World) (l : Nat) (o' : Obj), w.heap.size ≤ l → Kp W (W.putObj l o')) (hps : ∀ x, (encs x).size = ps.size)
    (I : List α → World → Prop) (Ix : World → Prop) (hI : Stays I) (hX : StaysP Ix) (hXl : ∀ V l o o', Ix V → w.heap.size ≤ l → V.heap[l]? = some o → LoopObj o → Ix (V.putObj l o')) (hIl : ∀ ys V l o o', I ys V → w.heap.size ≤ l → V.heap[l]? = some o → LoopObj o → I ys (V.putObj l o')) (hIb : ∀ ys V v, I ys V → I ys (V.setCell ⟨bx, 0, none⟩ v)) (h0 : I [] w) (put : α → Array Value → Array Value)
    (hassign : ∀ (l : Nat) (x : α) (W : World) (K : Act → World → Prop), K { tmps := put x a.tmps, defers := [] } W →
      assign.wpIn (Fence.wide.inRound l) 8 Tryz.prog (Exit.then K (fun _ _ _ => False)) { tmps := (ps.zip (encs x)).foldl (fun t (p, v) => t.setIfInBounds p v) a.tmps, defers := [] } W)
    (hbody : ∀ (l : Nat) (pre : List α) (x : α) (rest : List α) (W : World), w.heap.size ≤ l → I pre W → xs = pre ++ x :: rest → body.wpIn (Fence.wide.inRound l) 8 Tryz.prog (bodyB3 w.heap.size Kp I Ix (pre ++ [x]) W) { tmps := put x a.tmps, defers := [] } W)
    (hdone : ∀ (D : Nat) (W : World), w.heap.size ≤ D → I xs W → W.heap[D]? = some (.deferred (some [])) → Q .normal { a with defers := { target := .collected D, args := #[] } :: a.defers } W)
    (hstop : ∀ (D : Nat) (W : World), w.heap.size ≤ D → Ix W → W.heap[D]? = some (.deferred (some [])) → Code.ret.wpIn Fence.wide 10 Tryz.prog Q { a with defers := { target := .collected D, args := #[] } :: a.defers } W) :
    (Code.rangeFunc gop ps assign body).wp Tryz.prog Q a w := by
  refine wpIn_wide.1 (show (Code.rangeFunc gop ps assign body).wpIn Fence.wide 10 Tryz.prog Q a w from wpIn_rangeFunc ?_)
  intro fn hfn
  obtain ⟨R, hR⟩ : ∃ R : LoopState → Option Code → Loop, R = fun st pe => { state := st, pending := pe, fn, tmps := a.tmps, params := ps, assign, body, defers := w.heap.size } := ⟨_, rfl⟩
  have e1 : (w.alloc (.deferred (some []))).heap.size = w.heap.size + 1 := by simp
  obtain ⟨V, hV⟩ : ∃ V, (w.alloc (.deferred (some []))).alloc (.loop (R .ready none)) = V := ⟨_, rfl⟩
  have hl : V.heap[w.heap.size + 1]? = some (.loop (R .ready none)) := by
    rw [← hV]; exact heap_alloc_at _ _ e1
  have hd : V.heap[w.heap.size]? = some (.deferred (some [])) := by
    rw [← hV]; exact blk_alloc (heap_alloc_new w _) _
  have hi : I [] V := by rw [← hV]; exact hI _ _ _ (hI _ _ _ h0 (World.grownBy_alloc _ _ none)) (World.grownBy_alloc _ _ none)
  have hB : Below w.heap.size w V := by rw [← hV]; exact below_alloc' (below_alloc' (Below.refl _ _) _) _
  have hvs : w.heap.size + 2 ≤ V.heap.size := by rw [← hV]; simp
  refine ⟨w.heap.size + 1, [{ target := .collected w.heap.size, args := #[] }], V, { target := .fn (.func gf) lb, args := #[.func (.yield (w.heap.size + 1)) #[] #[]] }, V, gf,
    #[.func (.yield (w.heap.size + 1)) #[] #[]] ++ lb, V, ?_, ?_, fun f' _ => trivial, ?_, fun _ => by omega, ?_⟩
  · rw [← hV, hR]; exact run_enterLoop_outer _ _ _ _ _
  · simp only [resolve, hg]
    simp [go_sem]
  · simp [invoke, go_sem, eg]
  · have far : ∀ {A : World} {k : Nat} {o : Obj} (v : Value), A.heap[k]? = some o → w.heap.size ≤ k → (A.setCell ⟨bx, 0, none⟩ v).heap[k]? = some o := fun v h hk => blk_far h (p := ⟨bx, 0, none⟩) (by show _ ≠ bx; omega) v
    have keep : ∀ {A B : World} {k : Nat} {o : Obj}, A.grownBy B none → A.heap[k]? = some o → B.heap[k]? = some o := fun hgr h => blk_grown hgr h (by simp)
    refine (hseq (w.heap.size + 1) (fun pre W => I pre W ∧ W.heap[w.heap.size + 1]? = some (.loop (R .ready none)) ∧ W.heap[w.heap.size]? = some (.deferred (some []))) (fun W => Ix W ∧ W.heap[w.heap.size + 1]? = some (.loop (R .done (some .ret))) ∧ W.heap[w.heap.size]? = some (.deferred (some []))) V hB ?_ ?_ ?_ ?_ ⟨hi, hl, hd⟩).mono ?_
    · intro s A B hs hgr
      exact ⟨hI s A B hs.1 hgr, keep hgr hs.2.1, keep hgr hs.2.2⟩
    · intro A B hs hgr
      exact ⟨hX A B hs.1 hgr, keep hgr hs.2.1, keep hgr hs.2.2⟩
    · intro ys A v hs
      exact ⟨hIb ys A v hs.1, far v hs.2.1 (by omega), far v hs.2.2 (Nat.le_refl _)⟩
    · rintro pre x rest W hxs ⟨hi, hl, hd⟩
      have hlt := blk_lt hl
      have hy := run_yield (P := Tryz.prog) (args := encs x) hl (by rw [hR]; exact hps x)
      rw [hR] at hy
      refine ⟨fn, _, assign, body, hy, roundIn_of_wpIn hfn (hassign _ x W _ ?_)⟩
      refine ⟨_, run_beginRound hl (by rw [hR]), ?_⟩
      have k1 : (W.putObj (w.heap.size + 1) (.loop { R .ready none with state := .busy })).heap[w.heap.size + 1]? = some (.loop { R .ready none with state := .busy }) := World.putObj_heap_same hlt
      have k2 : (W.putObj (w.heap.size + 1) (.loop { R .ready none with state := .busy })).heap[w.heap.size]? = some (.deferred (some [])) := (World.putObj_heap_other (by omega)).trans hd
      refine wpIn_mono (hbody _ pre x rest _ (by omega) (hIl _ _ _ _ _ hi (by omega) hl (.inl ⟨_, rfl⟩)) hxs) ?_
      rintro e a3 W3 hp
      obtain ⟨hk3, hp⟩ := hp
      have k3 := hk3 _ _ (by omega) k1 (.inl ⟨_, rfl⟩)
      rcases hp with ⟨rfl, hkp, hi3⟩ | ⟨rfl, hx3⟩
      · have hr := run_endRound (P := Tryz.prog) none k3
        refine ⟨_, _, hr, .inl ⟨rfl, ⟨hIl _ _ _ _ _ hi3 (by omega) k3 (.inl ⟨_, rfl⟩), ?_, (World.putObj_heap_other (by omega)).trans (hk3 _ _ (Nat.le_refl _) k2 (.inr ⟨_, rfl⟩))⟩, hKt (hKt (hKb _ _ _ (by omega)) hkp) (hKb _ _ _ (by omega))⟩⟩
        rw [World.putObj_heap_same (blk_lt k3), hR]
        try rfl
      · have hr := run_endRound (P := Tryz.prog) (some .ret) k3
        refine ⟨_, _, hr, .inr ⟨rfl, hXl _ _ _ _ hx3 (by omega) k3 (.inl ⟨_, rfl⟩), ?_, (World.putObj_heap_other (by omega)).trans (hk3 _ _ (Nat.le_refl _) k2 (.inr ⟨_, rfl⟩))⟩⟩
        rw [World.putObj_heap_same (blk_lt k3), hR]
        try rfl
    · rintro e W2 ⟨⟨v, rfl⟩, (⟨hi, hl, hd⟩ | ⟨hx, hl, hd⟩)⟩
      · exact ⟨none, _, by have := run_endLoop (P := Tryz.prog) hl (by rw [hR]; simp); rw [hR] at this; exact this, hdone _ _ (Nat.le_refl _) (hIl _ _ _ _ _ hi (by omega) hl (.inl ⟨_, rfl⟩)) ((World.putObj_heap_other (by omega)).trans hd)⟩
      · exact ⟨some .ret, _, by have := run_endLoop (P := Tryz.prog) hl (by rw [hR]; simp); rw [hR] at this; exact this, hstop _ _ (Nat.le_refl _) (hXl _ _ _ _ hx (by omega) hl (.inl ⟨_, rfl⟩)) ((World.putObj_heap_other (by omega)).trans hd)⟩
set_option maxRecDepth 100000 in
set_option maxHeartbeats 4000000 in
theorem rows1_seq3 {α : Type} (f : α → Nat) (xs : List α) (bx : Nat) (t : List UInt8) (m : Int) (Kp : World → World → Prop) (hKp : ∀ A B, Kp A B → KeepB bx A B) (w : World) (h5 : bx ≠ 5) (ht : t.length ≤ 1000000) (hxs : xs.map f = List.range (rowsL t).length)
    (hc0 : w.heap[bx]? = some (.cells #[.string (bs t)] 9 (0, 0))) (hc5 : w.cell? ⟨5, 0, none⟩ = some (.int .i64 m)) (hlen : (rowsL t).length ≤ 1000000) :
    SeqBox3 113 #[.pointer (some ⟨bx, 0, none⟩)] (fun x : α => #[.int .i64 (f x : Nat), .string (bs ((rowsL t).getD (f x) []))]) Kp bx xs w := by
  intro l0 J Jx W hW hJ hJx hJb hY h0
  have hxl : xs.length = (rowsL t).length := by have := congrArg List.length hxs; simpa using this
  have HX : Hid (∀ k (h : k < xs.length), f xs[k] = k) := Lib.hid fun k h => by
    have h2 : (xs.map f)[k]? = some k := by rw [hxs, List.getElem?_range (by omega)]
    rw [List.getElem?_map, List.getElem?_eq_getElem h] at h2
    simpa using h2
  have HY := Lib.hid hY
  have HKp := Lib.hid hKp
  have HJ := Lib.hid hJ
  have HJx := Lib.hid hJx
  have HJb := Lib.hid hJb
  have H0 := Lib.hid (blk_below hW hc0)
  have H5 := Lib.hid (cell_below hW hc5)
  clear hxs hY hKp hJ hJx hJb hc0 hc5 hW
  obtain ⟨L, hL⟩ : ∃ L, L = rowsL t := ⟨_, rfl⟩
  rw [← hL] at HY hxl hlen
  have HL0 : Hid (L.drop 0 = rowsL t) := Lib.hid (by rw [hL]; rfl)
  clear hL
  have p0 : W.cell? ⟨bx, 0, none⟩ = some (.string (bs t)) := (blk_cell H0.out).trans rfl
  refine callsIn_of_wp Tryz.func113 rfl trivial ?_ rfl
  simp only [Tryz.ntmps113, List.size_toArray, List.length_cons, List.length_nil, Nat.reduceAdd, Nat.reduceSub, Array.replicate_succ, Array.replicate_zero, List.push_toArray, List.append_toArray, List.nil_append, List.cons_append]
  gi_wp2
  clear p0
  gi_loopw [3] (fun i wr => ∃ (k : Nat) (r : List UInt8), k ≤ L.length ∧ i = .int .i64 k ∧ J (xs.take k) wr ∧ r.length ≤ 1000000 ∧ Hid (L.drop k = rowsL r) ∧ Hid (wr.heap[bx]? = some (.cells #[.string (bs r)] 9 (0, 0))) ∧ Hid (wr.cell? ⟨5, 0, none⟩ = some (.int .i64 m))) (fun i _ => L.length - (intOf i).toNat)
  case atStart => exact ⟨0, t, Nat.zero_le _, rfl, h0, ht, HL0, H0, H5⟩
  case round =>
    obtain ⟨k, r, hk, rfl, hJs, hr, HD, HR, H5⟩ := hrel
    have p0 : wr.cell? ⟨bx, 0, none⟩ = some (.string (bs r)) := (blk_cell HR.out).trans rfl
    by_cases h0r : r = []
    · have hkl : k = xs.length := by
        have := congrArg List.length HD.out
        rw [h0r, rows_nil, List.length_drop] at this
        simp at this; omega
      have d3 : (bs r).toList.isEmpty = true := by rw [h0r]; exact bs_empty
      have HJ2 : Hid (J xs wr) := Lib.hid (by rw [hkl, List.take_length] at hJs; exact hJs)
      clear hJs h0r
      generalize bs r = sr at *
      gi_wp2
      go_end0
      exact ⟨⟨_, rfl⟩, .inl HJ2.out⟩
    · obtain ⟨l, r', b, hcut, hrow, hlr⟩ := cut_row h0r
      rw [hrow] at HD
      obtain ⟨hkL, hlk, hnx⟩ := drop_next HD.out
      have hkx : k < xs.length := by omega
      have d3 : (bs r).toList.isEmpty = false := bs_full h0r
      have HC : Hid (∀ V, V.cell? ⟨5, 0, none⟩ = some (.int .i64 m) → Calls Tryz.prog 114 #[.string (bs r), .string ⟨#[10]⟩] V (Ret fun v w' => v = .tuple #[.string (bs l), .string (bs r'), .bool b] ∧ ∃ q, w' = V.drewN q)) := Lib.hid fun V hV => cut_any r m V hr hV hcut
      have HJq : Hid (∀ q, J (xs.take k) (wr.drewN q)) := Lib.hid fun q => HJ.out _ _ _ hJs (grown_of_below (below_drewN (Below.refl _ _) q))
      have HYq : Hid (∀ q, YieldAt Fence.wide 8 Tryz.prog l0 #[.int .i64 (k : Nat), .string (bs l)] (wr.drewN q) fun e W' => e = .returned (.bool true) ∧ J (xs.take k ++ [xs[k]]) W' ∧ Kp (wr.drewN q) W' ∨ e = .returned (.bool false) ∧ Jx W') := Lib.hid fun q => by
        have := HY.out (xs.take k) xs[k] (xs.drop (k + 1)) (wr.drewN q) (by rw [← List.drop_eq_getElem_cons, List.take_append_drop]) (HJq.out q)
        dsimp only at this
        rw [HX.out k hkx] at this
        have e : L.getD k [] = l := by rw [List.getD_eq_getElem?_getD, List.getElem?_eq_getElem hkL]; exact hlk
        rw [e] at this
        exact this
      have HT := Lib.hid (take_snoc' hkx)
      have Hnx := Lib.hid hnx
      clear hcut hrow hlk hnx HD hJs h0r
      generalize xs[k] = y at *
      generalize bs r = sr at *
      gi_wp2_with fail
      refine ⟨trivial, (callsIn_wide.2 (HC.out _ H5.out)).mono ?_⟩
      rintro _ W1 ⟨v, rfl, rfl, q, rfl⟩
      obtain ⟨fn, tmps, assign, body, hy, hRd⟩ := HYq.out q
      have HRd := Lib.hid hRd; clear hRd
      gi_wp2
      refine HRd.out.mono ?_
      rintro e' W3 hY3
      rcases hY3 with ⟨rfl, hJ3, hk3⟩ | ⟨rfl, hx3⟩
      rotate_left 1
      · have HX3 := Lib.hid hx3
        clear hx3 hy
        gi_wp2
        refine bodyPost_ret (results_none rfl _ _ _) rfl ?_
        exact ⟨⟨_, rfl⟩, .inr HX3.out⟩
      obtain ⟨b1, b2⟩ := HKp.out _ _ hk3
      have hb3 : W3.heap[bx]? = some (.cells #[.string sr] 9 (0, 0)) := b1.trans HR.out
      have HB3 := Lib.hid (blk_set hb3 (i := 0) (.string (bs r')))
      have q1 : W3.cell? ⟨bx, 0, none⟩ = some (.string sr) := (blk_cell hb3).trans rfl
      have q2 : W3.frozen? ⟨bx, 0, none⟩ = false := blk_frozen (i := 0) hb3
      have H53 : Hid ((W3.setCell ⟨bx, 0, none⟩ (.string (bs r'))).cell? ⟨5, 0, none⟩ = some (.int .i64 m)) := Lib.hid (cell_far (b2 m H5.out) (fun e => h5 (by injection e with e; exact e.symm)))
      have HJ3 : Hid (J (xs.take (k + 1)) (W3.setCell ⟨bx, 0, none⟩ (.string (bs r')))) := Lib.hid (by rw [HT.out]; exact HJb.out _ _ _ hJ3)
      clear hJ3 hk3 b1 b2 hb3 hy
      gi_wp2
      go_roundw
      case rel => exact ⟨k + 1, r', by omega, by go_num, HJ3.out, by omega, Hnx, HB3, H53⟩
      case measure => simp [intOf]; omega
end Go.Proofs.YtkpmmgeffbhngaaGreatDoor
namespace Go.Proofs.YtkpmmgeffbhngaaGreatDoor
open Go.RowKit Go.Shelf Prot Go.Lib Go.Maps
/-- a book in memory -/
structure BookW (B : Nat) (W : World) (bb jb mb n : Nat) (s : St) (C E : Value) : Prop where
  blk : W.heap[bb]? = some (.cells #[.pointer (some ⟨jb, 0, none⟩), C, E] 106 (0, 0))
  jn : JAt W jb mb n s.jn
  cards : W.ownsRow B 36 4 C s.cards.length (s.cards.flatMap encCd)
  errs : W.ownsRow B 23 1 E s.errs.length (s.errs.flatMap encI)
  few : s.cards.length ≤ 1000 ∧ n ≤ 1000
theorem BookW.below {B bb jb mb n : Nat} {W W' : World} {s : St} {C E : Value} (h : BookW B W bb jb mb n s C E) (hb : Below W.heap.size W W') : BookW B W' bb jb mb n s C E :=
  ⟨blk_below hb h.blk, h.jn.below hb, own_below' h.cards hb, own_below' h.errs hb, h.few⟩
/-- what a strike of line i answers, and what it leaves -/
def strikeN (s : St) (i : Nat) : Int × List Card × Jn :=
  if ¬ (i < s.cards.length ∧ s.cards.getD i zeroC ≠ zeroC) then (3, s.cards, s.jn)
  else match replay (liveC (butC s.cards i)) Jn.start with
    | none => (24, s.cards, s.jn)
    | some k => (0, butC s.cards i, k)
theorem strikeV_N (s : St) {a : Int} (ha : 1 ≤ a) : strikeV s a = ⟨s.errs ++ [(strikeN s (a - 1).toNat).1], (strikeN s (a - 1).toNat).2.1 ++ [zeroC], (strikeN s (a - 1).toNat).2.2⟩ := by
  unfold strikeV strikeN
  by_cases h : (a - 1).toNat < s.cards.length ∧ s.cards.getD (a - 1).toNat zeroC ≠ zeroC
  · rw [if_neg (Classical.not_not.2 ⟨ha, h⟩), if_neg (Classical.not_not.2 h)]
    cases replay (liveC (butC s.cards (a - 1).toNat)) Jn.start <;> rfl
  · rw [if_pos (fun k => h k.2), if_pos h]
theorem setCd_flat : ∀ (L : List Card) (k : Nat), ((((L.flatMap encCd).set (k * 4) (.int .i64 0)).set (k * 4 + 1) (.int .i64 0)).set (k * 4 + 2) (.int .i64 0)).set (k * 4 + 3) (.int .i64 0) = (L.set k zeroC).flatMap encCd
  | [], k => by simp
  | a :: L, 0 => by simp [encCd]
  | a :: L, k + 1 => by
    have h := setCd_flat L k
    rw [List.set_cons_succ, List.flatMap_cons, List.flatMap_cons, ← h]
    rw [show (k + 1) * 4 = k * 4 + 1 + 1 + 1 + 1 by omega]
    simp only [encCd, List.cons_append, List.nil_append, List.set_cons_succ]
theorem butC_take {cs : List Card} {at' k : Nat} (hk : k < cs.length) : (butC cs at').take (k + 1) = (butC cs at').take k ++ [if k = at' then zeroC else cs.getD k zeroC] := by
  have hl : k < (butC cs at').length := by rw [butC_len]; exact hk
  rw [List.take_succ_eq_append_getElem hl]
  congr 2
  have h := butC_at (a := at') hk
  rw [List.getD_eq_getElem?_getD, List.getElem?_eq_getElem hl] at h
  exact h
theorem butC_drop {cs : List Card} {at' k : Nat} (hk : k < cs.length) : (butC cs at').drop k = (if k = at' then zeroC else cs.getD k zeroC) :: (butC cs at').drop (k + 1) := by
  have hl : k < (butC cs at').length := by rw [butC_len]; exact hk
  rw [List.drop_eq_getElem_cons hl]
  congr 1
  have h := butC_at (a := at') hk
  rw [List.getD_eq_getElem?_getD, List.getElem?_eq_getElem hl] at h
  exact h
/-- a replay, step by step -/
theorem replay_stop {cs : List Card} {at' k : Nat} (hk : k < cs.length) {j : Jn} (h : replay (liveC ((butC cs at').take k)) Jn.start = some j) (hne : k ≠ at') (hz : cs.getD k zeroC ≠ zeroC) (he : (doV j (cs.getD k zeroC)).2 ≠ 0) : replay (liveC (butC cs at')) Jn.start = none := by
  rw [← List.take_append_drop k (butC cs at'), butC_drop hk, if_neg hne, liveC_append, replay_append, h]
  show replay (liveC (cs.getD k zeroC :: _)) j = none
  unfold liveC
  rw [List.filter_cons_of_pos (by simpa using hz)]
  show (if (doV j (cs.getD k zeroC)).2 = 0 then _ else none) = none
  rw [if_neg he]
theorem replay_skip {cs : List Card} {at' k : Nat} (hk : k < cs.length) {j : Jn} (h : replay (liveC ((butC cs at').take k)) Jn.start = some j) (hz : k = at' ∨ cs.getD k zeroC = zeroC) : replay (liveC ((butC cs at').take (k + 1))) Jn.start = some j := by
  rw [butC_take hk]
  have e : (if k = at' then zeroC else cs.getD k zeroC) = zeroC := by
    rcases hz with h | h
    · rw [if_pos h]
    · rw [h]; split <;> rfl
  rw [e, liveC_zero]; exact h
theorem replay_go {cs : List Card} {at' k : Nat} (hk : k < cs.length) {j : Jn} (h : replay (liveC ((butC cs at').take k)) Jn.start = some j) (hne : k ≠ at') (hz : cs.getD k zeroC ≠ zeroC) (he : (doV j (cs.getD k zeroC)).2 = 0) : replay (liveC ((butC cs at').take (k + 1))) Jn.start = some (doV j (cs.getD k zeroC)).1 := by
  rw [butC_take hk, if_neg hne, liveC_card _ hz, replay_append, h]
  show (if (doV j (cs.getD k zeroC)).2 = 0 then replay [] (doV j (cs.getD k zeroC)).1 else none) = _
  rw [if_pos he]; rfl
end Go.Proofs.YtkpmmgeffbhngaaGreatDoor
