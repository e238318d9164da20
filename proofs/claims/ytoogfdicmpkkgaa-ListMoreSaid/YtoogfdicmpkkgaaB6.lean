/- open, least. Clone of links and of numbers, Delete of one link, least. Delete of one link. least. Plain: a sheet that knows one link more, and one without a link. -/
import Derived.Test.YtoogfdicmpkkgaaA32
import Derived.Lib.SliceRun
import Derived.Deep.RegionLaw
import Derived.Shelf.RegionOpenPlain
namespace Go.Proofs.Ytoogfdicmpkkgaa
open Go.RowKit Go.Shelf Go.Maps Match

def openC (ks : List Int) : Nat := ks.countP (· == 1)
theorem openC_step {ks : List Int} {k : Nat} (hk : k < ks.length) : openC (ks.take (k + 1)) = openC (ks.take k) + if ks[k] = 1 then 1 else 0 := by
  unfold openC
  rw [List.take_succ_eq_append_getElem hk, List.countP_append]
  by_cases e : ks[k] = 1 <;> simp [e]
theorem openC_le (ks : List Int) : openC ks ≤ ks.length := List.countP_le_length

set_option maxHeartbeats 1000000 in
theorem openS_any (s : Sh) (w : World) (hl : RangesAt w s.A s.l) (ht : IntsAt w s.B s.t) (hm : s.t.length ≤ 1000) (hS : Sheet s.L s.R s.l s.t) :
    Calls Try.prog 66 #[s.v] w (Ret fun v w' => (∃ ks, KindsAre s ks ∧ v = .int .i64 (openC ks)) ∧ Below w.heap.size w w') := by
  have hlen : s.l.length ≤ 40 := hS.many
  have hX := heap_alloc_new w (.cells #[.int .i64 s.L, .int .i64 s.R, .slice s.A s.l.length s.ca, .slice s.B s.t.length s.cb] 25)
  have hB0 : Below w.heap.size w (w.alloc (.cells #[.int .i64 s.L, .int .i64 s.R, .slice s.A s.l.length s.ca, .slice s.B s.t.length s.cb] 25)) := below_alloc' (Below.refl _ _) _
  have hk := kinds_any s (w.alloc (.cells #[.int .i64 s.L, .int .i64 s.R, .slice s.A s.l.length s.ca, .slice s.B s.t.length s.cb] 25)) (hl.below hB0) (ht.below hB0) hm hS
  unfold Sh.v vSheet at hk ⊢
  have Hk := Lib.hid hk; clear hk hl ht hS
  go_enter Try.func66, Try.ntmps66
  go_wp2_with fail
  refine Hk.out.mono ?_
  rintro e w2 ⟨v, rfl, ⟨G, c, ks, rfl, h1, h2, h3, h4⟩, hB2⟩
  have HB2 := Lib.hid (below_trans' hB0 hB2)
  have HK : Hid (KindsAre s ks) := Lib.hid ⟨h2, h4⟩
  have hle : ks.length ≤ 40 := by omega
  clear Hk hB2 hB0 hX h2 h4
  go_wp2
  go_loopw [3, 9] (fun nv i wr => ∃ k : Nat, k ≤ ks.length ∧ i = .int .i64 k ∧ nv = .int .i64 (openC (ks.take k)) ∧ wr = w2) (fun _ i _ => ks.length - (intOf i).toNat)
  case atStart => exact ⟨0, by omega, rfl, by simp [openC], rfl⟩
  case round =>
    obtain ⟨k, hk, rfl, rfl, rfl⟩ := hrel
    by_cases hkn : k < ks.length
    · obtain ⟨b2, o2, rfl, hkc⟩ := h1.at_ hkn
      have ik0 : (0 : Int) ≤ (k : Int) := by omega
      have ik1 : (k : Int) < (ks.length : Int) := by omega
      have hst := openC_step hkn
      have hcl := openC_le (ks.take k)
      have hcl2 : (ks.take k).length ≤ 40 := by simp; omega
      generalize ks[k] = kv at hkc hst
      generalize openC (ks.take k) = c0 at *
      have hwr : IntKind.i64.wrap ((c0 : Int) + 1) = (c0 : Int) + 1 := IntWalk.i64_in _ (by omega)
      by_cases hv : kv = 1
      · subst hv
        rw [if_pos rfl] at hst
        go_wp2
        go_roundw
        case rel => exact ⟨k + 1, by omega, by go_num, by rw [hst]; go_num, trivial⟩
        case measure => simp [intOf]; omega
      · have d1 : (kv == 1) = false := by simpa using hv
        rw [if_neg hv, Nat.add_zero] at hst
        go_wp2
        go_roundw
        case rel => exact ⟨k + 1, by omega, by go_num, by rw [hst]; rfl, trivial⟩
        case measure => simp [intOf]; omega
    · have hke : k = ks.length := by omega
      subst hke
      rw [List.take_length] at *
      go_wp2
      go_ret
      exact Ret.mk ⟨⟨ks, HK.out, rfl⟩, HB2.out⟩
end Go.Proofs.Ytoogfdicmpkkgaa

namespace Go.Proofs.Ytoogfdicmpkkgaa
open Go.RowKit Go.Shelf Go.Maps Match

theorem oneFlat {α : Type} {enc : α → List Value} (h : ∀ x, ∀ u ∈ enc x, u.oneCell' = true) (l : List α) : ∀ u ∈ l.flatMap enc, u.oneCell' = true := fun u hu => by
  obtain ⟨x, _, hx⟩ := List.mem_flatMap.1 hu
  exact h x u hx
set_option maxRecDepth 100000 in
set_option maxHeartbeats 1000000 in
theorem cloneR_any (A : Option Addr) (c : Nat) (l : List (Int × Int)) (w : World) (hl : RangesAt w A l) (hn : l.length ≤ 100000) :
    Calls Try.prog 64 #[.slice A l.length c] w (Ret fun v w' => w'.ownsRow w.heap.size 55 2 v l.length (l.flatMap encR) ∧ Below w.heap.size w w') := by
  obtain ⟨i0, hi, hz0, hz1, hz2⟩ := info_parts (elemR).info
  have q := fun (w : World) (a : Option Addr) (n c n' c' : Nat) => Lib.run_eql_slice_nil (P := Try.prog) w 22 55 a n c n' c' Try.underlying22
  cases A with
  | none =>
    have h0 : l = [] := by
      cases l with
      | nil => rfl
      | cons x r => obtain ⟨b, o, h, _⟩ := hl 0 (by simp); cases h
    subst h0
    go_enter Try.func64, Try.ntmps64
    go_wp2
    go_ret
    exact Ret.mk ⟨World.ownsRow_nil _ _ _ _, Below.refl _ _⟩
  | some ad =>
    have hol : Hid (∀ j u, (l.flatMap encR)[j]? = some u → (w.alloc (.cells #[] 55)).cell? (ad.add j) = some u) := Lib.hid (fun j u hj => cell_alloc (RowsAt.olds encR_len hl _ rfl j u hj) _)
    clear hl
    have hln : Hid ((l.flatMap encR).length = l.length * 2) := Lib.hid (flatMap_len encR_len l)
    go_enter Try.func64, Try.ntmps64
    go_wp2_with (at_builtin; refine wpList_append_own _ rfl _ _ 22 rfl w.heap.size 55 i0 (.agg #[.int .i64 0, .int .i64 0]) 2 16 Try.underlying22 hi hz0 hz1 hz2 rfl (by omega) _ 0 [] rfl (World.ownsRow_made w #[] 0 (Nat.le_refl _) (Nat.zero_le _) (by simp)) ad l.length c (l.flatMap encR) rfl hln.out hol.out (oneFlat oneR l) (by simp only [maxLen]; omega) (by omega) (by simp) ?_; intro v' w1 hown hgrow hnil)
    have hB : Below w.heap.size w w1 := (below_alloc' (Below.refl _ _) _).grown hgrow (by simp) (fun r e => by injection e with e; exact Nat.le_of_eq e)
    rw [Nat.zero_add, List.nil_append] at hown
    have HO := Lib.hid hown
    have HB := Lib.hid hB
    clear hown hgrow hnil hB
    go_wp2
    go_ret
    exact Ret.mk ⟨HO.out, HB.out⟩
set_option maxRecDepth 100000 in
set_option maxHeartbeats 1000000 in
theorem cloneI_any (A : Option Addr) (c : Nat) (l : List (Int)) (w : World) (hl : IntsAt w A l) (hn : l.length ≤ 100000) :
    Calls Try.prog 65 #[.slice A l.length c] w (Ret fun v w' => w'.ownsRow w.heap.size 3 1 v l.length (l.flatMap encI) ∧ Below w.heap.size w w') := by
  obtain ⟨i0, hi, hz0, hz1, hz2⟩ := info_parts (elemI3).info
  have q := fun (w : World) (a : Option Addr) (n c n' c' : Nat) => Lib.run_eql_slice_nil (P := Try.prog) w 23 3 a n c n' c' Try.underlying23
  cases A with
  | none =>
    have h0 : l = [] := by
      cases l with
      | nil => rfl
      | cons x r => obtain ⟨b, o, h, _⟩ := hl 0 (by simp); cases h
    subst h0
    go_enter Try.func65, Try.ntmps65
    go_wp2
    go_ret
    exact Ret.mk ⟨World.ownsRow_nil _ _ _ _, Below.refl _ _⟩
  | some ad =>
    have hol : Hid (∀ j u, (l.flatMap encI)[j]? = some u → (w.alloc (.cells #[] 3)).cell? (ad.add j) = some u) := Lib.hid (fun j u hj => cell_alloc (RowsAt.olds encI_len hl _ rfl j u hj) _)
    clear hl
    have hln : Hid ((l.flatMap encI).length = l.length * 1) := Lib.hid (flatMap_len encI_len l)
    go_enter Try.func65, Try.ntmps65
    go_wp2_with (at_builtin; refine wpList_append_own _ rfl _ _ 23 rfl w.heap.size 3 i0 (.int .i64 0) 1 8 Try.underlying23 hi hz0 hz1 hz2 rfl (by omega) _ 0 [] rfl (World.ownsRow_made w #[] 0 (Nat.le_refl _) (Nat.zero_le _) (by simp)) ad l.length c (l.flatMap encI) rfl hln.out hol.out (oneFlat oneI l) (by simp only [maxLen]; omega) (by omega) (by simp) ?_; intro v' w1 hown hgrow hnil)
    have hB : Below w.heap.size w w1 := (below_alloc' (Below.refl _ _) _).grown hgrow (by simp) (fun r e => by injection e with e; exact Nat.le_of_eq e)
    rw [Nat.zero_add, List.nil_append] at hown
    have HO := Lib.hid hown
    have HB := Lib.hid hB
    clear hown hgrow hnil hB
    go_wp2
    go_ret
    exact Ret.mk ⟨HO.out, HB.out⟩
end Go.Proofs.Ytoogfdicmpkkgaa

namespace Go.Proofs.Ytoogfdicmpkkgaa
open Go.RowKit Go.Shelf Go.Maps Match

theorem run_clear_link (W : World) (ty : TypeId) (b o c : Nat) (h0 : (W.cell? ⟨b, o, none⟩).isSome = true) (h1 : (W.cell? ⟨b, o + 1, none⟩).isSome = true) (f0 : W.frozen? ⟨b, o, none⟩ = false) (f1 : W.frozen? ⟨b, o + 1, none⟩ = false) :
    (Builtin.clear_ #[22] ty #[.slice (some ⟨b, o, none⟩) 1 c]).run Try.prog W = .ok (.tuple #[]) (W.setCells b o [.int .i64 0, .int .i64 0]) := by
  have hst := run_storeCells_cells (P := Try.prog) b o [.int .i64 0, .int .i64 0] 0 W (fun j hj => by
    have : j = 0 ∨ j = 1 := by simp at hj; omega
    rcases this with rfl | rfl
    · simpa using h0
    · simpa using h1) (fun j hj => by
    have : j = 0 ∨ j = 1 := by simp at hj; omega
    rcases this with rfl | rfl
    · simpa using f0
    · simpa using f1) (by simp [Value.oneCell'])
  simp only [Nat.add_zero] at hst
  have hz : (zeroValue 55).run Try.prog W = .ok (.agg #[.int .i64 0, .int .i64 0]) W := by kernel_rfl
  have hzc : (Builtin.zeroCells (Value.agg #[.int .i64 0, .int .i64 0]).cells 1).toList = [.int .i64 0, .int .i64 0] := by kernel_rfl
  simp [Builtin.clear_, run_underlying Try.underlying22, hz, hzc, hst]
theorem rows_range {α : Type} {enc : α → List Value} {k : Nat} {w : World} {g : Nat} {l : List α} (hk : ∀ x, (enc x).length = k) (h : w.rangeAt g 0 (l.flatMap enc)) : RowsAt enc k w (some ⟨g, 0, none⟩) l := fun i hi =>
  ⟨g, 0, rfl, fun j v hv => by
    have := h (i * k + j) v (flatMap_at hk i j hi v hv)
    rw [Nat.add_assoc]; exact this⟩
theorem range_app {w : World} {g o : Nat} {xs ys : List Value} (h1 : w.rangeAt g o xs) (h2 : w.rangeAt g (o + xs.length) ys) : w.rangeAt g o (xs ++ ys) := fun j v hv => by
  by_cases hj : j < xs.length
  · rw [List.getElem?_append_left hj] at hv; exact h1 j v hv
  · rw [List.getElem?_append_right (by omega)] at hv
    have := h2 (j - xs.length) v hv
    rw [show o + xs.length + (j - xs.length) = o + j by omega] at this; exact this
theorem range_of_app {w : World} {g o : Nat} {xs ys : List Value} (h : w.rangeAt g o (xs ++ ys)) : w.rangeAt g o xs ∧ w.rangeAt g (o + xs.length) ys :=
  ⟨fun j v hv => h j v (by rw [List.getElem?_append_left (List.getElem?_eq_some_iff.1 hv).1]; exact hv), fun j v hv => by
    have := h (xs.length + j) v (by rw [List.getElem?_append_right (by omega), show xs.length + j - xs.length = j by omega]; exact hv)
    rw [Nat.add_assoc]; exact this⟩

set_option maxRecDepth 100000 in
set_option maxHeartbeats 1000000 in
theorem delete_any (g cap : Nat) (l : List (Int × Int)) (k j : Nat) (hk : k < l.length) (hj : j = k + 1) (w : World) (hr : w.rangeAt g 0 (l.flatMap encR)) (hth : w.there g 0 (l.length * 2)) (hcap : l.length ≤ cap) (hn : l.length ≤ 100000) (hcm : cap ≤ 9223372036854775807) :
    Calls Try.prog 63 #[.slice (some ⟨g, 0, none⟩) l.length cap, .int .i64 k, .int .i64 j] w (Ret fun v w' => v = .slice (some ⟨g, 0, none⟩) (l.length - 1) cap ∧ RangesAt w' (some ⟨g, 0, none⟩) (l.eraseIdx k) ∧ w.grownBy w' (some g)) := by
  obtain ⟨i0, hi, hz0, hz1, hz2⟩ := info_parts elemR.info
  have hjn : j ≤ l.length := by omega
  have hkj : k ≤ j := by omega
  have hic : k ≤ cap := by omega
  have hjc : j ≤ cap := by omega
  have Hj := Lib.hid hj
  clear hj
  obtain ⟨n, hnn⟩ : ∃ n, l.length = n := ⟨_, rfl⟩
  rw [hnn] at hk hjn hcap hn hth ⊢
  have Hnn := Lib.hid hnn
  clear hnn
  have Hr := Lib.hid hr
  have Hth := Lib.hid hth
  clear hr hth
  have dne : (((k : Int)) == (j : Int)) = false := by have := Hj.out; simp; omega
  go_enter Try.func63, Try.ntmps63
  go_upto_region 5 with fail
  obtain ⟨news, hnews⟩ : ∃ news, news = (l.drop j).flatMap encR := ⟨_, rfl⟩
  have hlen : news.length = (n - j) * 2 := by rw [hnews, flatMap_len encR_len, List.length_drop, Hnn.out]
  have hsplit : l.flatMap encR = (l.take j).flatMap encR ++ news := by rw [hnews, ← List.flatMap_append, List.take_append_drop]
  have hrs := Hr.out
  rw [hsplit] at hrs
  have hr2 := (range_of_app hrs).2
  rw [flatMap_len encR_len, List.length_take, Hnn.out, Nat.min_eq_left hjn, Nat.zero_add] at hr2
  obtain ⟨A, hA, hsrc⟩ : ∃ A : Addr, (if cap = j then some (⟨g, 0, none⟩ : Addr) else some ⟨g, j * 2, none⟩) = some A ∧ Hid (∀ t u, news[t]? = some u → w.drew.cell? (A.add t) = some u) := by
    by_cases h : cap = j
    · refine ⟨⟨g, 0, none⟩, by simp [h], fun t u hu => ?_⟩
      have h0 : news.length = 0 := by rw [hlen]; omega
      rw [List.length_eq_zero_iff.1 h0] at hu
      simp at hu
    · refine ⟨⟨g, j * 2, none⟩, by simp [h], fun t u hu => ?_⟩
      rw [Addr.add_lit]
      exact hr2 t u hu
  have s1 : Hid (news.length = (n - j) * 2) := Lib.hid hlen
  have s2 : Hid (∀ u ∈ news, u.oneCell' = true) := Lib.hid (by rw [hnews]; exact oneFlat oneR _)
  have s3 : Hid (∀ t, t < news.length → (w.drew.cell? ⟨g, 0 + k * 2 + t, none⟩).isSome = true ∧ w.drew.frozen? ⟨g, 0 + k * 2 + t, none⟩ = false) := Lib.hid (fun t ht => by
    rw [hlen] at ht
    rw [Nat.add_assoc]
    exact Hth.out (k * 2 + t) (by have := Hj.out; omega))
  obtain ⟨W1, hW1⟩ : ∃ W1, W1 = w.drew.setCells g (0 + k * 2) news := ⟨_, rfl⟩
  have hth1 : W1.there g 0 (n * 2) := by rw [hW1]; exact World.there_setCells (show w.drew.there g 0 (n * 2) from Hth.out) _ _ _
  have hj1 := Hj.out
  have e1 : n - (k + (n - j)) = 1 := by omega
  have hq0 := hth1 ((k + (n - j)) * 2) (by omega)
  have hq1 := hth1 ((k + (n - j)) * 2 + 1) (by omega)
  rw [Nat.zero_add] at hq0 hq1
  have hcl := fun ty => run_clear_link W1 ty g ((k + (n - j)) * 2) (cap - (k + (n - j))) hq0.1 hq1.1 hq0.2 hq1.2
  have HRW : Hid (RangesAt (W1.setCells g ((k + (n - j)) * 2) [.int .i64 0, .int .i64 0]) (some ⟨g, 0, none⟩) (l.eraseIdx k)) := Lib.hid (by
    rw [List.eraseIdx_eq_take_drop_succ, ← hj1]
    refine rows_range encR_len ?_
    have ht1 : ((l.take k).flatMap encR).length = k * 2 := by rw [flatMap_len encR_len, List.length_take, Hnn.out, Nat.min_eq_left (by omega)]
    rw [List.flatMap_append, ← hnews]
    have h0 : w.rangeAt g 0 ((l.take k).flatMap encR) := by
      have hs2 : l.flatMap encR = (l.take k).flatMap encR ++ (l.drop k).flatMap encR := by rw [← List.flatMap_append, List.take_append_drop]
      have := Hr.out
      rw [hs2] at this
      exact (range_of_app this).1
    have ha : W1.rangeAt g 0 ((l.take k).flatMap encR) := by
      rw [hW1]; exact World.rangeAt_setCells_apart (show w.drew.rangeAt _ _ _ from h0) _ _ _ (.inr (.inl (by rw [ht1]; exact Nat.le_refl _)))
    have hb : W1.rangeAt g (0 + k * 2) news := by
      rw [hW1]; exact World.rangeAt_setCells_same _ _ _ _ (fun t ht => s3.out t ht)
    refine World.rangeAt_setCells_apart (range_app ha (by rw [ht1]; exact hb)) _ _ _ (.inr (.inl ?_))
    rw [List.length_append, ht1, hlen]; omega)
  have HG : Hid (w.grownBy (W1.setCells g ((k + (n - j)) * 2) [.int .i64 0, .int .i64 0]) (some g)) := Lib.hid (by
    have h1 : w.drew.grownBy W1 (some g) := by rw [hW1]; exact grown_setCells _ _
    have h2 := h1.trans (grown_setCells (w := W1) [.int .i64 0, .int .i64 0] ((k + (n - j)) * 2))
    exact ⟨h2.os, h2.tape, h2.output, h2.size, fun i hi hne => h2.block i hi hne⟩)
  have hW : Hid (W1 = w.drew.setCells g (0 + k * 2) news) := Lib.hid hW1
  rw [← e1] at hcl
  have E1 := Lib.hid e1
  clear hW1 hth1 hq0 hq1 hr2 hrs hsplit hnews hlen hj1 e1
  have hcne : ¬(cap = k + (n - j)) := by have := Hj.out; omega
  have mixed : Try.prog.follows .mixedOrders = true := by kernel_rfl
  go_region_law_o (refine step_append_room rfl (.tmp 22) (.tmp 25) 22 rfl 55 i0 2 Try.underlying22 hi hz1 g 0 k cap (by simp [Act.eval, Act.put]) A (n - j) (cap - j) news (by simp [Act.eval, Act.put]) s1.out hsrc.out s2.out (by omega) s3.out ?_; rw [← hW.out])
  go_wp2
  go_ret
  have hjj := Hj.out
  exact Ret.mk' (by rw [show k + (n - j) = n - 1 by omega]; rfl) ⟨rfl, HRW.out, HG.out⟩
end Go.Proofs.Ytoogfdicmpkkgaa

namespace Go.Proofs.Ytoogfdicmpkkgaa
open Go.RowKit Go.Shelf Go.Maps Match

/-- the first question of the least number -/
def leastQ : List (Int × Int) → Int × Int → Int × Int
  | [], q => q
  | x :: r, q => leastQ r (if x.2 < q.2 then x else q)
theorem leastQ_snoc : ∀ (l : List (Int × Int)) (x q : Int × Int), leastQ (l ++ [x]) q = if x.2 < (leastQ l q).2 then x else leastQ l q
  | [], _, _ => rfl
  | y :: r, x, q => by simp only [List.cons_append, leastQ]; exact leastQ_snoc r x _
theorem enters68 : ∀ args w, (callFunc 68 args).run Try.prog w = .ok (.enter 68 args) w := fun args w => by simp [go_sem]

set_option maxHeartbeats 1000000 in
theorem k68_any (a b : Int) (w : World) : Calls Try.prog 68 #[.agg #[.int .i64 a, .int .i64 b]] w (Ret fun v w' => v = .int .i64 b ∧ Below w.heap.size w w') := by
  have n1 := new2_1 w (.int .i64 a) (.int .i64 b) 88
  go_enter Try.func68, Try.ntmps68
  go_wp2
  go_ret
  exact Ret.mk' rfl ⟨rfl, below_alloc' (Below.refl _ _) _⟩

theorem encQ_pair (x : Int × Int) : encR x = [.int .i64 x.1, .int .i64 x.2] := rfl
theorem results67 {tmps : Array Value} {W : World} {b : Nat} {x y : Value} (hp : tmps.getD 4 undef = .pointer (some ⟨b, 0, none⟩)) (h0 : W.cell? ⟨b, 0, none⟩ = some x) (h1 : W.cell? ⟨b, 1, none⟩ = some y) :
    (results Try.f67 tmps).run Try.prog W = .ok (.agg #[x, y]) W := by
  have h6' : tmps[4]?.getD undef = .pointer (some ⟨b, 0, none⟩) := by simpa using hp
  simp [results, Try.results67, h6', asAddr, go_sem, h0, h1]

set_option maxRecDepth 100000 in
set_option maxHeartbeats 1000000 in
theorem least_any (A : Option Addr) (c : Nat) (l : List (Int × Int)) (w : World) (hl : RangesAt w A l) (hn : l.length ≤ 100000) (h0 : 0 < l.length) (hc : l.length ≤ c) :
    Calls Try.prog 67 #[.slice A l.length c, .func (.func 68) #[] #[]] w (Ret fun v w' => v = .agg #[.int .i64 (leastQ (l.drop 1) (l.getD 0 (0, 0))).1, .int .i64 (leastQ (l.drop 1) (l.getD 0 (0, 0))).2] ∧ Below w.heap.size w w') := by
  obtain ⟨b, o, rfl, q0, q1⟩ := hl.at_ h0
  rw [Nat.zero_mul, Nat.add_zero] at q0 q1
  obtain ⟨A', hA', hrow⟩ : ∃ A' : Addr, (if c = 1 then some (⟨b, o, none⟩ : Addr) else some ⟨b, o + 2, none⟩) = some A' ∧ Hid (RangesAt w (some A') (l.drop 1)) := by
    by_cases h : c = 1
    · refine ⟨⟨b, o, none⟩, by simp [h], fun i hi => absurd hi (by simp; omega)⟩
    · refine ⟨⟨b, o + 2, none⟩, by simp [h], fun i hi => ?_⟩
      have hi' : i + 1 < l.length := by simp at hi; omega
      obtain ⟨b', o', e, hv⟩ := hl (i + 1) hi'
      injection e with e; injection e with e1 e2; subst e1; subst e2
      refine ⟨b, o + 2, rfl, fun j v hj => ?_⟩
      have e3 : (l.drop 1)[i] = l[i + 1] := by rw [List.getElem_drop]; congr 1; omega
      rw [e3] at hj
      have := hv j v hj
      rw [show o + (i + 1) * 2 + j = o + 2 + i * 2 + j by omega] at this; exact this
  have hgd : l.getD 0 (0, 0) = l[0] := by simp [List.getD_eq_getElem?_getD, h0]
  rw [hgd]
  generalize l[0] = y0 at q0 q1 ⊢
  obtain ⟨m, hm⟩ : ∃ m, (l.drop 1).length = m := ⟨_, rfl⟩
  have hm1 : l.length = m + 1 := by simp at hm; omega
  generalize hld : l.drop 1 = r at hm hrow ⊢
  have Hm := Lib.hid hm
  clear hm hld hgd hl
  rw [hm1]
  have ik1 : (1 : Int) ≤ (m : Int) + 1 := by omega
  have Hc := Lib.hid hc
  obtain ⟨w2, hw2⟩ : ∃ w2, w2 = (w.alloc (.cells #[.int .i64 0, .int .i64 0] 88)).alloc (.cells #[.int .i64 y0.1, .int .i64 y0.2] 88) := ⟨_, rfl⟩
  have hB2 : Hid (Below w.heap.size w w2) := Lib.hid (by rw [hw2]; exact below_alloc' (below_alloc' (Below.refl _ _) _) _)
  have hb4 : w2.heap[w.heap.size]? = some (.cells #[.int .i64 0, .int .i64 0] 88 (0, 0)) := by rw [hw2]; exact blk_alloc (heap_alloc_new _ _) _
  have hb5 : w2.heap[w.heap.size + 1]? = some (.cells #[.int .i64 y0.1, .int .i64 y0.2] 88 (0, 0)) := by rw [hw2]; exact heap_alloc_at _ _ (by simp)
  have hm2 : m + 1 ≤ c := by omega
  have hid1 : 1 ≤ m + 1 := by omega
  have hm3 : m ≤ 100000 := by omega
  replace q0 := cell_alloc q0 (.cells #[.int .i64 0, .int .i64 0] 88)
  replace q1 := cell_alloc q1 (.cells #[.int .i64 0, .int .i64 0] 88)
  go_enter Try.func67, Try.ntmps67
  go_upto_region 2 with fail
  rw [← hw2]
  have hsz2 : w.heap.size + 2 ≤ w2.heap.size := by rw [hw2]; simp
  clear hw2 q0 q1
  go_wp2
  go_loopw [14] (fun i wr => ∃ k : Nat, k ≤ m ∧ i = .int .i64 k ∧ Hid (Below w.heap.size w wr) ∧ w.heap.size + 2 ≤ wr.heap.size ∧ wr.heap[w.heap.size]? = some (.cells #[.int .i64 0, .int .i64 0] 88 (0, 0)) ∧ wr.heap[w.heap.size + 1]? = some (.cells #[.int .i64 (leastQ (r.take k) y0).1, .int .i64 (leastQ (r.take k) y0).2] 88 (0, 0))) (fun i _ => m - (intOf i).toNat)
  case atStart => exact ⟨0, by omega, rfl, hB2, hsz2, hb4, hb5⟩
  case round =>
    clear hb4 hb5 hB2
    obtain ⟨k, hk, rfl, HB, hsr, hb4, hb5⟩ := hrel
    by_cases hkn : k < m
    · have hkr : k < r.length := by rw [Hm.out]; exact hkn
      obtain ⟨b', o', e, q0, q1⟩ := (hrow.out.below HB.out).at_ hkr
      injection e with e
      subst e
      have hst := leastQ_snoc (r.take k) r[k] y0
      rw [← List.take_succ_eq_append_getElem hkr] at hst
      generalize r[k] = x at q0 q1 hst
      generalize leastQ (r.take k) y0 = q at hb5 hst
      have HST := Lib.hid hst
      clear hst
      have ik0 : (0 : Int) ≤ (k : Int) := by omega
      have ik1 : (k : Int) < (m : Int) := by omega
      obtain ⟨w3, hw3⟩ : ∃ w3, w3 = wr.alloc (.cells #[.int .i64 x.1, .int .i64 x.2] 88) := ⟨_, rfl⟩
      have hal : Below wr.heap.size wr w3 := by rw [hw3]; exact below_alloc' (Below.refl _ _) _
      have h7 : w3.heap[wr.heap.size]? = some (.cells #[.int .i64 x.1, .int .i64 x.2] 88 (0, 0)) := by rw [hw3]; exact heap_alloc_new _ _
      have HB3 := Lib.hid (below_trans' HB.out hal)
      have h43 := blk_below hal hb4
      have h53 := blk_below hal hb5
      have hs3 : w.heap.size + 2 ≤ w3.heap.size := Nat.le_trans hsr hal.size
      go_upto_region 5 with fail
      rw [← hw3]
      clear hw3 hal hb4 hb5 HB q0 q1
      generalize hb7n : wr.heap.size = b7 at *
      have c7 : w3.cell? ⟨b7, 0, none⟩ = some (.int .i64 x.1) := (blk_cell h7).trans rfl
      have c71 : w3.cell? ⟨b7, 1, none⟩ = some (.int .i64 x.2) := (blk_cell h7).trans rfl
      have c5 : w3.cell? ⟨w.heap.size + 1, 0, none⟩ = some (.int .i64 q.1) := (blk_cell h53).trans rfl
      have c51 : w3.cell? ⟨w.heap.size + 1, 1, none⟩ = some (.int .i64 q.2) := (blk_cell h53).trans rfl
      by_cases hlt : x.2 < q.2
      · have dlt : decide (x.2 < q.2) = true := by simpa using hlt
        rw [if_pos hlt] at HST
        refine wp_region_class (C := fun W => Below w3.heap.size w3 W) (by kernel_rfl) (by kernel_rfl) ((Below.refl _ _).drew) ?_
        repeat (first
          | go_big_quiet_skip
          | (go_big_quiet_want
             first
               | (go_big_quiet_op; go_big_quiet_on)
               | (apply Exists.intro
                  refine ⟨fun W hW => ?_, ?_⟩
                  · replace c7 := cell_below hW c7; replace c71 := cell_below hW c71; replace c5 := cell_below hW c5; replace c51 := cell_below hW c51; go_simp <;> exact rfl
                  simp only [Act.put, List.setIfInBounds_toArray, List.set_cons_zero, List.set_cons_succ]
                  go_big_quiet_on)))
        go_big_quiet_want
        apply Exists.intro
        refine ⟨fun W hW => ?_, ?_⟩
        · go_simp
          refine (k68_any x.1 x.2 _).mono ?_
          rintro e wc ⟨v, rfl, rfl, hBc⟩
          exact ⟨rfl, below_trans' hW hBc⟩
        simp only [Act.put, List.setIfInBounds_toArray, List.set_cons_zero, List.set_cons_succ]
        go_big_quiet_on
        repeat (first
          | go_big_quiet_skip
          | (go_big_quiet_want
             first
               | (go_big_quiet_op; go_big_quiet_on)
               | (apply Exists.intro
                  refine ⟨fun W hW => ?_, ?_⟩
                  · replace c7 := cell_below hW c7; replace c71 := cell_below hW c71; replace c5 := cell_below hW c5; replace c51 := cell_below hW c51; go_simp <;> exact rfl
                  simp only [Act.put, List.setIfInBounds_toArray, List.set_cons_zero, List.set_cons_succ]
                  go_big_quiet_on)))
        go_big_quiet_want
        apply Exists.intro
        refine ⟨fun W hW => ?_, ?_⟩
        · go_simp
          refine (k68_any q.1 q.2 _).mono ?_
          rintro e wc ⟨v, rfl, rfl, hBc⟩
          exact ⟨rfl, below_trans' hW hBc⟩
        simp only [Act.put, List.setIfInBounds_toArray, List.set_cons_zero, List.set_cons_succ]
        go_big_quiet_on
        repeat (first
          | go_big_quiet_skip
          | (go_big_quiet_want
             first
               | (go_big_quiet_op; go_big_quiet_on)
               | (apply Exists.intro
                  refine ⟨fun W hW => ?_, ?_⟩
                  · replace c7 := cell_below hW c7; replace c71 := cell_below hW c71; replace c5 := cell_below hW c5; replace c51 := cell_below hW c51; go_simp <;> exact rfl
                  simp only [Act.put, List.setIfInBounds_toArray, List.set_cons_zero, List.set_cons_succ]
                  go_big_quiet_on)))
        refine wpQuiet_nil ?_
        intro w5 hB5
        have c7' := blk_below hB5 h7
        have HB5 := Lib.hid (below_trans' HB3.out hB5)
        have h45 := blk_below hB5 h43
        have h55 := blk_below hB5 h53
        have hs5 : w.heap.size + 2 ≤ w5.heap.size := Nat.le_trans hs3 hB5.size
        clear hB5 c7 c71 c5 c51 h7 h43 h53
        have c7 : w5.cell? ⟨b7, 0, none⟩ = some (.int .i64 x.1) := (blk_cell c7').trans rfl
        have c71 : w5.cell? ⟨b7, 1, none⟩ = some (.int .i64 x.2) := (blk_cell c7').trans rfl
        have c5 : w5.cell? ⟨w.heap.size + 1, 0, none⟩ = some (.int .i64 q.1) := (blk_cell h55).trans rfl
        have c51 : w5.cell? ⟨w.heap.size + 1, 1, none⟩ = some (.int .i64 q.2) := (blk_cell h55).trans rfl
        have f5 : w5.frozen? ⟨w.heap.size + 1, 0, none⟩ = false := blk_frozen h55
        have f51 : w5.frozen? ⟨w.heap.size + 1, 1, none⟩ = false := blk_frozen h55
        have hn5 := blk_set (i := 1) (blk_set (i := 0) h55 (.int .i64 x.1)) (.int .i64 x.2)
        have hn4 := blk_far (p := ⟨w.heap.size + 1, 1, none⟩) (blk_far (p := ⟨w.heap.size + 1, 0, none⟩) h45 (by simp) (.int .i64 x.1)) (by simp) (.int .i64 x.2)
        have HBn := Lib.hid ((HB5.out.setCell (p := ⟨w.heap.size + 1, 0, none⟩) (by simp) (.int .i64 x.1)).setCell (p := ⟨w.heap.size + 1, 1, none⟩) (by simp) (.int .i64 x.2))
        have hsn : w.heap.size + 2 ≤ ((w5.setCell ⟨w.heap.size + 1, 0, none⟩ (.int .i64 x.1)).setCell ⟨w.heap.size + 1, 1, none⟩ (.int .i64 x.2)).heap.size := by simpa using hs5
        have hne : b7 ≠ w.heap.size + 1 := by omega
        clear h45 h55 c7'
        go_wp2
        generalize World.setCell (World.setCell w5 _ _) _ _ = w6 at *
        go_roundw
        case rel => exact ⟨k + 1, by omega, by go_num, HBn, hsn, hn4, by rw [HST.out]; exact hn5⟩
        case measure => simp [intOf]; omega
      · have dlt : decide (x.2 < q.2) = false := by simpa using hlt
        rw [if_neg hlt] at HST
        refine wp_region_class (C := fun W => Below w3.heap.size w3 W) (by kernel_rfl) (by kernel_rfl) ((Below.refl _ _).drew) ?_
        repeat (first
          | go_big_quiet_skip
          | (go_big_quiet_want
             first
               | (go_big_quiet_op; go_big_quiet_on)
               | (apply Exists.intro
                  refine ⟨fun W hW => ?_, ?_⟩
                  · replace c7 := cell_below hW c7; replace c71 := cell_below hW c71; replace c5 := cell_below hW c5; replace c51 := cell_below hW c51; go_simp <;> exact rfl
                  simp only [Act.put, List.setIfInBounds_toArray, List.set_cons_zero, List.set_cons_succ]
                  go_big_quiet_on)))
        go_big_quiet_want
        apply Exists.intro
        refine ⟨fun W hW => ?_, ?_⟩
        · go_simp
          refine (k68_any x.1 x.2 _).mono ?_
          rintro e wc ⟨v, rfl, rfl, hBc⟩
          exact ⟨rfl, below_trans' hW hBc⟩
        simp only [Act.put, List.setIfInBounds_toArray, List.set_cons_zero, List.set_cons_succ]
        go_big_quiet_on
        repeat (first
          | go_big_quiet_skip
          | (go_big_quiet_want
             first
               | (go_big_quiet_op; go_big_quiet_on)
               | (apply Exists.intro
                  refine ⟨fun W hW => ?_, ?_⟩
                  · replace c7 := cell_below hW c7; replace c71 := cell_below hW c71; replace c5 := cell_below hW c5; replace c51 := cell_below hW c51; go_simp <;> exact rfl
                  simp only [Act.put, List.setIfInBounds_toArray, List.set_cons_zero, List.set_cons_succ]
                  go_big_quiet_on)))
        go_big_quiet_want
        apply Exists.intro
        refine ⟨fun W hW => ?_, ?_⟩
        · go_simp
          refine (k68_any q.1 q.2 _).mono ?_
          rintro e wc ⟨v, rfl, rfl, hBc⟩
          exact ⟨rfl, below_trans' hW hBc⟩
        simp only [Act.put, List.setIfInBounds_toArray, List.set_cons_zero, List.set_cons_succ]
        go_big_quiet_on
        repeat (first
          | go_big_quiet_skip
          | (go_big_quiet_want
             first
               | (go_big_quiet_op; go_big_quiet_on)
               | (apply Exists.intro
                  refine ⟨fun W hW => ?_, ?_⟩
                  · replace c7 := cell_below hW c7; replace c71 := cell_below hW c71; replace c5 := cell_below hW c5; replace c51 := cell_below hW c51; go_simp <;> exact rfl
                  simp only [Act.put, List.setIfInBounds_toArray, List.set_cons_zero, List.set_cons_succ]
                  go_big_quiet_on)))
        refine wpQuiet_nil ?_
        intro w5 hB5
        have HB5 := Lib.hid (below_trans' HB3.out hB5)
        have h45 := blk_below hB5 h43
        have h55 := blk_below hB5 h53
        have hs5 : w.heap.size + 2 ≤ w5.heap.size := Nat.le_trans hs3 hB5.size
        clear hB5 c7 c71 c5 c51 h7 h43 h53
        go_wp2
        go_roundw
        case rel => exact ⟨k + 1, by omega, by go_num, HB5, hs5, h45, by rw [HST.out]; exact h55⟩
        case measure => simp [intOf]; omega
    · have hke : k = m := by omega
      subst hke
      rw [List.take_of_length_le (Nat.le_of_eq Hm.out)] at hb5
      obtain ⟨q, hq⟩ : ∃ q, leastQ r y0 = q := ⟨_, rfl⟩
      rw [hq] at hb5
      have HQ := Lib.hid hq
      clear hq
      have c5 : wr.cell? ⟨w.heap.size + 1, 0, none⟩ = some (.int .i64 q.1) := (blk_cell hb5).trans rfl
      have c51 : wr.cell? ⟨w.heap.size + 1, 1, none⟩ = some (.int .i64 q.2) := (blk_cell hb5).trans rfl
      have d4 : wr.cell? ⟨w.heap.size, 0, none⟩ = some (.int .i64 0) := (blk_cell hb4).trans rfl
      have d41 : wr.cell? ⟨w.heap.size, 1, none⟩ = some (.int .i64 0) := (blk_cell hb4).trans rfl
      have f4 : wr.frozen? ⟨w.heap.size, 0, none⟩ = false := blk_frozen hb4
      have f41 : wr.frozen? ⟨w.heap.size, 1, none⟩ = false := blk_frozen hb4
      have hn4 := Lib.hid (blk_set (i := 1) (blk_set (i := 0) hb4 (.int .i64 q.1)) (.int .i64 q.2))
      have HBn := Lib.hid ((HB.out.setCell (p := ⟨w.heap.size, 0, none⟩) (by simp) (.int .i64 q.1)).setCell (p := ⟨w.heap.size, 1, none⟩) (by simp) (.int .i64 q.2))
      clear hb4 hb5
      go_wp2
      exact bodyPost_ret (results67 rfl ((blk_cell hn4.out).trans rfl) ((blk_cell hn4.out).trans rfl)) rfl (Ret.mk ⟨by rw [HQ.out]; rfl, HBn.out⟩)
end Go.Proofs.Ytoogfdicmpkkgaa

namespace Go.Proofs.Ytoogfdicmpkkgaa
open Go.RowKit Go.Shelf Go.Maps Match

theorem pairAny_iff {f : Nat → Nat → Bool} {n : Nat} : pairAny f n = false ↔ ∀ i, i < n → ∀ j, j < i → f i j = false := by
  unfold pairAny
  rw [List.any_eq_false]
  constructor
  · intro h i hi j hj
    have := h i (List.mem_range.2 hi)
    simp only [List.any_eq_true, not_exists, not_and, Bool.not_eq_true] at this
    exact this j (List.mem_range.2 hj)
  · intro h i hi
    simp only [List.any_eq_true, not_exists, not_and, Bool.not_eq_true]
    intro j hj
    exact h i (List.mem_range.1 hi) j (List.mem_range.1 hj)
theorem meetB_symm (a b : Int × Int) : meetB a b = meetB b a := by
  unfold meetB
  rw [show (a.1 == b.1) = (b.1 == a.1) from Bool.eq_iff_iff.2 ⟨fun h => by simpa using (by simpa using h : a.1 = b.1).symm, fun h => by simpa using (by simpa using h : b.1 = a.1).symm⟩,
    show (a.2 == b.2) = (b.2 == a.2) from Bool.eq_iff_iff.2 ⟨fun h => by simpa using (by simpa using h : a.2 = b.2).symm, fun h => by simpa using (by simpa using h : b.2 = a.2).symm⟩]
def Apart (l : List (Int × Int)) (a b : Int) : Prop := meetB (atL l a) (atL l b) = false
theorem Apart.symm {l : List (Int × Int)} {a b : Int} (h : Apart l a b) : Apart l b a := by unfold Apart at *; rw [meetB_symm]; exact h
theorem single_iff {l : List (Int × Int)} {t : List Int} : singleB l t = true ↔ t.Pairwise (Apart l) := by
  unfold singleB
  rw [Bool.not_eq_true', pairAny_iff, List.pairwise_iff_getElem]
  have e : ∀ i (hi : i < t.length), t.getD i 0 = t[i] := fun i hi => by simp [List.getD_eq_getElem?_getD, hi]
  constructor
  · intro h i j hi hj hij
    have := h j hj i hij
    unfold touchAt at this
    rw [e i hi, e j hj, meetB_symm] at this
    exact this
  · intro h i hi j hj
    unfold touchAt
    rw [e i hi, e j (by omega), meetB_symm]
    exact h j i (by omega) hi hj
theorem rise_iff {n : Int} {t : List Int} : ∀ {a : Int}, risingFrom a n t = true ↔ t.Pairwise (· < ·) ∧ ∀ x ∈ t, a < x ∧ x < n := by
  induction t with
  | nil => intro a; simp [risingFrom]
  | cons y t ih =>
    intro a
    simp only [risingFrom, Bool.and_eq_true, decide_eq_true_eq, ih, List.pairwise_cons, List.mem_cons]
    constructor
    · rintro ⟨⟨h1, h2⟩, h3, h4⟩
      refine ⟨⟨fun x hx => (h4 x hx).1, h3⟩, fun x hx => ?_⟩
      rcases hx with rfl | hx
      · exact ⟨h1, h2⟩
      · have := h4 x hx; omega
    · rintro ⟨⟨h1, h2⟩, h3⟩
      exact ⟨h3 y (.inl rfl), h2, fun x hx => ⟨h1 x hx, (h3 x (.inr hx)).2⟩⟩
theorem apart_iff {l : List (Int × Int)} : pairAny (sameAt l) l.length = false ↔ l.Nodup := by
  rw [pairAny_iff, List.Nodup, List.pairwise_iff_getElem]
  constructor
  · intro h i j hi hj hij e
    have := h j hj i hij
    unfold sameAt at this
    rw [atL_eq hj, atL_eq hi] at this
    simp [e] at this
  · intro h i hi j hj
    unfold sameAt
    rw [atL_eq hi, atL_eq (by omega : j < l.length)]
    have := h j i (by omega) hi hj
    simp; exact fun e => this e.symm
theorem free_iff {s : Sh} {k : Nat} : freeP s k = true ↔ ∀ x ∈ s.t, Apart s.l k x := by
  show (!takenB s.l s.t k) = true ↔ _
  unfold takenB
  rw [Bool.not_eq_true', List.any_eq_false]
  constructor
  · intro h x hx
    have := h x hx
    unfold Apart
    simpa using this
  · intro h x hx
    have := h x hx
    unfold Apart at this
    rw [this]; simp
theorem apart_self (l : List (Int × Int)) (a : Int) : ¬ Apart l a a := by unfold Apart meetB; simp
theorem free_not_known {s : Sh} {k : Nat} (h : freeP s k = true) : (k : Int) ∉ s.t := fun hk => apart_self s.l k (free_iff.1 h k hk)
/-- two strictly rising lists with the same members are equal -/
theorem rising_ext : ∀ {a b : List Int}, a.Pairwise (· < ·) → b.Pairwise (· < ·) → (∀ x, x ∈ a ↔ x ∈ b) → a = b
  | [], [], _, _, _ => rfl
  | [], y :: b, _, _, h => absurd ((h y).2 (by simp)) (by simp)
  | x :: a, [], _, _, h => absurd ((h x).1 (by simp)) (by simp)
  | x :: a, y :: b, ha, hb, h => by
    rw [List.pairwise_cons] at ha hb
    have e : x = y := by
      have h1 := (h x).1 (by simp)
      have h2 := (h y).2 (by simp)
      rcases List.mem_cons.1 h1 with h1 | h1
      · exact h1
      · rcases List.mem_cons.1 h2 with h2 | h2
        · exact h2.symm
        · have := ha.1 y h2; have := hb.1 x h1; omega
    subst e
    refine congrArg (x :: ·) (rising_ext ha.2 hb.2 fun z => ?_)
    have hz := h z
    simp only [List.mem_cons] at hz
    constructor
    · intro h1
      rcases hz.1 (.inr h1) with e | h2
      · subst e; have := ha.1 _ h1; omega
      · exact h2
    · intro h1
      rcases hz.2 (.inr h1) with e | h2
      · subst e; have := hb.1 _ h1; omega
      · exact h2
theorem sortI_perm (t : List Int) : (sortI t).Perm t := List.mergeSort_perm _ _
theorem sortI_rise {t : List Int} (h : t.Nodup) : (sortI t).Pairwise (· < ·) := by
  have h1 : (sortI t).Pairwise (fun a b => decide (a ≤ b) = true) := List.pairwise_mergeSort (by intro a b c h1 h2; simp at *; omega) (by intro a b; simp; omega) t
  have h2 : (sortI t).Nodup := (sortI_perm t).nodup_iff.2 h
  exact (h1.and h2).imp (fun ⟨h3, h4⟩ => by simp at h3; omega)
theorem rise_nodup {t : List Int} (h : t.Pairwise (· < ·)) : t.Nodup := h.imp (fun h => by omega)

/-- the sheet that knows a free link too -/
def yesT (t : List Int) (k : Nat) : List Int := sortI (t ++ [(k : Int)])
def decK (k : Nat) (x : Int) : Int := if (k : Int) < x then x - 1 else x
def noT (t : List Int) (k : Nat) : List Int := t.map (decK k)
theorem yesT_mem {t : List Int} {k : Nat} {x : Int} : x ∈ yesT t k ↔ x ∈ t ∨ x = k := by unfold yesT; rw [(sortI_perm _).mem_iff]; simp
theorem yesT_len (t : List Int) (k : Nat) : (yesT t k).length = t.length + 1 := by unfold yesT; rw [(sortI_perm _).length_eq]; simp
theorem yes_sheet {s : Sh} {k : Nat} (h : Sheet s.L s.R s.l s.t) (hk : k < s.l.length) (hf : freeP s k = true) : Sheet s.L s.R s.l (yesT s.t k) := by
  have hr := rise_iff.1 h.rise
  have hnd : (s.t ++ [(k : Int)]).Nodup := by
    rw [List.nodup_append]
    exact ⟨rise_nodup hr.1, by simp, fun a ha b hb e => by simp at hb; subst hb; subst e; exact free_not_known hf ha⟩
  refine ⟨h.dim, h.many, h.links, h.apart, rise_iff.2 ⟨sortI_rise hnd, fun x hx => ?_⟩, single_iff.2 ?_⟩
  · rcases yesT_mem.1 hx with h1 | rfl
    · exact hr.2 x h1
    · omega
  · refine ((sortI_perm (s.t ++ [(k : Int)])).pairwise_iff (fun h => h.symm)).2 ?_
    rw [List.pairwise_append]
    exact ⟨single_iff.1 h.single, by simp, fun a ha b hb => by simp at hb; subst hb; exact (free_iff.1 hf a ha).symm⟩
theorem atL_erase {l : List (Int × Int)} {k : Nat} {x : Int} (hx : 0 ≤ x) (hk : x ≠ k) : atL (l.eraseIdx k) (decK k x) = atL l x := by
  unfold atL decK
  obtain ⟨n, rfl⟩ := Int.eq_ofNat_of_zero_le hx
  rw [List.getD_eq_getElem?_getD, List.getD_eq_getElem?_getD]
  congr 1
  by_cases h : k < n
  · rw [if_pos (by omega), List.getElem?_eraseIdx, if_neg (by omega)]
    congr 1; omega
  · rw [if_neg (by omega), List.getElem?_eraseIdx, if_pos (by omega)]
theorem no_sheet {s : Sh} {k : Nat} (h : Sheet s.L s.R s.l s.t) (hk : k < s.l.length) (hf : (k : Int) ∉ s.t) : Sheet s.L s.R (s.l.eraseIdx k) (noT s.t k) := by
  have hr := rise_iff.1 h.rise
  have hlen : (s.l.eraseIdx k).length = s.l.length - 1 := by rw [List.length_eraseIdx, if_pos hk]
  refine ⟨h.dim, by have := h.many; omega, fun x hx => h.links x (List.mem_of_mem_eraseIdx hx), apart_iff.2 ((apart_iff.1 h.apart).sublist (List.eraseIdx_sublist _ _)), rise_iff.2 ⟨?_, fun x hx => ?_⟩, single_iff.2 ?_⟩
  · unfold noT
    rw [List.pairwise_map]
    refine hr.1.imp_of_mem (fun {a b} ha hb hab => ?_)
    have h1 : a ≠ k := fun e => hf (e ▸ ha)
    have h2 : b ≠ k := fun e => hf (e ▸ hb)
    unfold decK; split <;> split <;> omega
  · unfold noT at hx
    obtain ⟨y, hy, rfl⟩ := List.mem_map.1 hx
    have h1 := hr.2 y hy
    have h2 : y ≠ k := fun e => hf (e ▸ hy)
    rw [hlen]
    unfold decK; split <;> omega
  · unfold noT
    rw [List.pairwise_map]
    refine (single_iff.1 h.single).imp_of_mem (fun {a b} ha hb hab => ?_)
    have h1 : a ≠ k := fun e => hf (e ▸ ha)
    have h2 : b ≠ k := fun e => hf (e ▸ hb)
    unfold Apart at *
    rw [atL_erase (by have := hr.2 a ha; omega) h1, atL_erase (by have := hr.2 b hb; omega) h2]
    exact hab
/-- a sheet of numbers alone -/
def Sh.of (L R : Int) (l : List (Int × Int)) (t : List Int) : Sh := ⟨L, R, none, 0, none, 0, l, t⟩
theorem KindsAre.same {s s' : Sh} {ks : List Int} (h : KindsAre s ks) (hl : s.l = s'.l) (ht : s.t = s'.t) : KindsAre s' ks := by
  obtain ⟨L, R, A, ca, B, cb, l, t⟩ := s
  obtain ⟨L', R', A', ca', B', cb', l', t'⟩ := s'
  dsimp only at hl ht
  subst hl; subst ht
  exact h
end Go.Proofs.Ytoogfdicmpkkgaa
