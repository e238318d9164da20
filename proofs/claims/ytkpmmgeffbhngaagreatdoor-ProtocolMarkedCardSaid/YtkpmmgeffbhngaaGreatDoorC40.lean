/- What the laws of the chapter rest on, part 40. -/
import Derived.Test.YtkpmmgeffbhngaaGreatDoorC36
import Derived.Laws.CopyOwn
import Derived.Deep.OwnRows
set_option linter.unusedSimpArgs false
set_option linter.unusedVariables false
set_option linter.unnecessarySimpa false
namespace Prot
end Prot
namespace Go.Shelf
end Go.Shelf
namespace Go.Maps
end Go.Maps
namespace Go.Proofs.YtkpmmgeffbhngaaGreatDoor
open Go.RowKit Go.Shelf Prot Go.Lib Go.Maps
attribute [local go_sem] Oper.semAt_some
set_option maxRecDepth 100000 in
theorem put_big (b o c : Nat) (xs : List (List UInt8)) (w : World) (hl : ∀ i (h : i < xs.length), w.cell? ⟨b, o + i, none⟩ = some (.string (bs xs[i]))) (hb : b < w.heap.size) (hn : xs.length ≤ 100000) (hc : xs.length ≤ c) (hlen : xs.flatten.length ≤ 1000000000) :
    Calls Tryz.prog 48 #[.slice (some ⟨b, o, none⟩) xs.length c] w (Ret fun v w' => v = .string (bs xs.flatten) ∧ Below w.heap.size w w') := by
  have e1 : (xs.map bs).map (·.data.toList) = xs := by
    rw [List.map_map]
    exact (List.map_congr_left fun x _ => bs_list x).trans (List.map_id _)
  have hC := Tryz.strings_Join b o c (xs.map bs) ⟨#[]⟩ w (fun j x hj => by
    rw [List.getElem?_map] at hj
    cases e : xs[j]? with
    | none => rw [e] at hj; cases hj
    | some y =>
      rw [e] at hj
      injection hj with hj
      obtain ⟨h1, h2⟩ := List.getElem?_eq_some_iff.1 e
      have := hl j h1
      rw [h2] at this
      rw [← hj]; exact this) hb (by rw [List.length_map]; omega) (by rw [List.length_map]; exact hc) (by rw [e1, show (⟨#[]⟩ : ByteArray).data.toList = [] from rfl, join_flat]; omega)
  rw [e1, show (⟨#[]⟩ : ByteArray).data.toList = [] from rfl, join_flat, List.length_map] at hC
  have HC := Lib.hid hC
  clear hC hl hn hc hlen e1
  generalize xs.length = n at *
  go_enter Tryz.func48, Tryz.ntmps48
  go_wp2_with fail
  refine HC.out.mono ?_
  rintro _ w2 ⟨rfl, hB⟩
  go_wp2
  go_ret
  exact Ret.mk ⟨rfl, hB⟩
/-- put at a literal list of texts -/
theorem put_newB (xs : List (List UInt8)) (w : World) (n : Nat) (hn : xs.length = n) (hl : n ≤ 1000) (hlen : xs.flatten.length ≤ 1000000000) :
    Calls Tryz.prog 48 #[.slice (some ⟨w.heap.size, 0, none⟩) n n] (w.alloc (.cells ((xs.map fun x => Value.string (bs x)).toArray) 9)) (Ret fun v w' => v = .string (bs xs.flatten) ∧ Below w.heap.size w w') := by
  subst hn
  refine (put_big w.heap.size 0 xs.length xs _ (fun i h => ?_) (by simp) (by omega) (Nat.le_refl _) hlen).mono ?_
  · rw [blk_cell (heap_alloc_new w _), Nat.zero_add]
    simp [List.getElem?_eq_getElem h]
  · rintro _ w2 ⟨v, rfl, rfl, hB⟩
    exact Ret.mk ⟨rfl, below_alloc_of (Below.refl _ _) hB⟩
/-- the lines that are named and count -/
def outT (L : List (List UInt8)) (cs : List Card) (ks : List Nat) : List UInt8 := textL ((ks.filter fun k => decide (cs.getD k zeroC ≠ zeroC)).map fun k => L.getD k [])
theorem outT_snoc (L : List (List UInt8)) (cs : List Card) (ks : List Nat) (k : Nat) : outT L cs (ks ++ [k]) = if cs.getD k zeroC ≠ zeroC then outT L cs ks ++ (L.getD k [] ++ [10]) else outT L cs ks := by
  unfold outT
  rw [List.filter_append]
  by_cases h : cs.getD k zeroC ≠ zeroC
  · rw [if_pos h, List.filter_cons_of_pos (by simpa using h), List.filter_nil, List.map_append, textL_append]
    congr 1
    show textL [L.getD k []] = _
    unfold textL; simp
  · rw [if_neg h, List.filter_cons_of_neg (by simpa using h), List.filter_nil, List.append_nil]
theorem outT_len {L : List (List UInt8)} {m : Nat} (hL : ∀ l ∈ L, l.length + 1 ≤ m) (h1 : 1 ≤ m) (cs : List Card) (ks : List Nat) : (outT L cs ks).length ≤ ks.length * m := by
  induction ks using snoc_ind with
  | h0 => unfold outT textL; simp
  | h1 ks k ih =>
    rw [outT_snoc, List.length_append]
    have h2 : (L.getD k []).length + 1 ≤ m := by
      rw [List.getD_eq_getElem?_getD]
      cases e : L[k]? with
      | none => simpa using h1
      | some l => exact hL l (List.mem_of_getElem? e)
    have e3 : (ks.length + [k].length) * m = ks.length * m + m := Nat.succ_mul _ _
    rw [e3]
    generalize ks.length * m = z at *
    split
    · simp only [List.length_append, List.length_cons, List.length_nil]; omega
    · omega
theorem outT_all {L : List (List UInt8)} {cs : List Card} (h : cs.length = L.length) : outT L cs (List.range L.length) = textL (fairL L cs) := by
  rw [counts_lines L cs h]
  unfold outT countsOf
  rw [h, List.map_map]
  rfl
set_option maxRecDepth 100000 in
set_option maxHeartbeats 1000000 in
theorem Fair_any (t : List UInt8) (w : World) (hT : Tab w) (ht : t.length ≤ 100000) : Calls Tryz.prog 33 #[.string (bs t)] w (Ret fun v w' => v = textT (fairA t) ∧ Below w.heap.size w w') := by
  have HT := Lib.hid hT
  have HA := Lib.hid (look_any t w hT ht)
  by_cases he : textErr t = 0
  rotate_left 1
  · have HR := Lib.hid (fairA_err he)
    have HE := Lib.hid he
    have t1 : (textErr t != 0) = true := by simpa using he
    clear he
    go_enter Tryz.func33, Tryz.ntmps33
    go_wp2_with fail
    refine HA.out.mono ?_
    rintro _ w1 ⟨v, rfl, hQ, hB1⟩
    rcases hQ with ⟨-, rfl⟩ | ⟨h0, -⟩
    · generalize textErr t = er at *
      go_wp2
      go_ret2
      exact Ret.mk ⟨by rw [HR.out]; rfl, below_alloc' hB1 _⟩
    · exact absurd h0 HE.out
  have HR := Lib.hid (fairA_ok he)
  have HE := Lib.hid he
  clear he
  refine calls_of_wp_marks Tryz.func33 rfl ?_
  simp only [Tryz.ntmps33, List.size_toArray, List.length_cons, List.length_nil, Nat.reduceAdd, Nat.reduceSub, Array.replicate_succ, Array.replicate_zero, List.push_toArray, List.append_toArray, List.nil_append, List.cons_append]
  go_wp2_with fail
  refine HA.out.mono ?_
  rintro _ w1 ⟨v, rfl, hQ, hB1⟩
  rcases hQ with ⟨h0, -⟩ | ⟨-, bb, jb, mb, n, C, E, rfl, hb, hbk⟩
  · exact absurd HE.out h0
  have hok := runV_ok (rowsL t)
  obtain ⟨h65, hend, h60⟩ := textErr_ok HE.out
  obtain ⟨L, hL⟩ : ∃ L, rowsL t = L := ⟨_, rfl⟩
  have hlr : ∀ l ∈ L, l.length ≤ 65536 := fun l hl => by
    rw [← hL] at hl
    have h2 := mem_textL hl
    rw [text_rows hend] at h2
    omega
  rw [hL] at hbk hok h60
  obtain ⟨cs, hcs⟩ : ∃ cs, (runV L).cards = cs := ⟨_, rfl⟩
  have hcl : cs.length = L.length := by rw [← hcs]; exact hok.len
  have HCd : Hid (∀ c ∈ cs, c = zeroC ∨ CardOk c ∧ c.1 ≠ 7) := Lib.hid (by rw [← hcs]; exact hok.card)
  obtain ⟨G, gc, rfl, hgc⟩ := own_form hbk.cards
  have hcar := RowsAt.of_own encCd_len hbk.cards
  have hblk := hbk.blk
  rw [hcs] at hcar hblk
  have HFin : Hid (fairA t = (outT L cs (List.range L.length), 0)) := Lib.hid (by rw [HR.out, hL, hcs, outT_all hcl])
  have HLr := Lib.hid hlr
  obtain ⟨xs, hxs⟩ := subs_range 1 L.length L.length (fun x hx => by omega)
  have hxl : xs.length = L.length := by have := congrArg List.length hxs; simpa using this
  obtain ⟨N, hN⟩ : ∃ N, w1.heap.size = N := ⟨_, rfl⟩
  have hbbN : bb < N := by rw [← hN]; exact blk_lt hblk
  have hgN : ∀ g o, G = some ⟨g, o, none⟩ → 0 < cs.length → g < N := fun g o e h0 => by
    rw [← hN]
    obtain ⟨g', o', e', hc⟩ := hcar 0 h0
    rw [e] at e'
    injection e' with e'; injection e' with e1 e2
    rw [e1]
    have := hc 0 _ rfl
    exact block_lt_of_cell this
  have HT1 := Lib.hid (HT.out.below hB1)
  have hB3 := below_alloc' (below_alloc' (Below.refl w1.heap.size w1) (.cells #[.pointer (some ⟨bb, 0, none⟩)] 100)) (.cells #[.string ⟨#[]⟩] 9)
  have hpb := blk_alloc (heap_alloc_at w1 (.cells #[.pointer (some ⟨bb, 0, none⟩)] 100) hN) (.cells #[.string ⟨#[]⟩] 9)
  have hob : ((w1.alloc (.cells #[.pointer (some ⟨bb, 0, none⟩)] 100)).alloc (.cells #[.string ⟨#[]⟩] 9)).heap[N + 1]? = some (.cells #[.string ⟨#[]⟩] 9 (0, 0)) := heap_alloc_at _ _ (by simp [hN])
  have hs3 : ((w1.alloc (.cells #[.pointer (some ⟨bb, 0, none⟩)] 100)).alloc (.cells #[.string ⟨#[]⟩] 9)).heap.size = N + 2 := by simp [hN]
  have HB1 := Lib.hid hB1
  have HCar := Lib.hid hcar
  have HBlk := Lib.hid hblk
  have HNw := Lib.hid hN
  have Hxs := Lib.hid hxs
  have HLe := Lib.hid hL
  have HgN := Lib.hid hgN
  clear hok hbk hB1 hcs hL hcar hblk hxs hlr hend HA hgN hgc
  rw [hN] at hB3
  go_wp2_with fail
  clear hN
  generalize (w1.alloc (.cells #[.pointer (some ⟨bb, 0, none⟩)] 100)).alloc (.cells #[.string ⟨#[]⟩] 9) = w3 at *
  have HRo := Lib.hid (rows_any (bs t) w3)
  rw [hs3] at HRo
  refine HRo.out.mono ?_
  rintro _ w4 ⟨v, rfl, rfl, hw4⟩
  have hs4 : w4.heap.size = N + 3 := by rw [hw4]; simp [hs3]
  have hB34 : Below w3.heap.size w3 w4 := by rw [hw4]; exact below_alloc' (Below.refl _ _) _
  have hbx : w4.heap[N + 2]? = some (.cells #[.string (bs t)] 9 (0, 0)) := by rw [hw4]; exact heap_alloc_at _ _ hs3
  have HPb := Lib.hid (blk_below hB34 hpb)
  have HOb := Lib.hid (blk_below hB34 hob)
  have HB4 : Hid (Below N w1 w4) := Lib.hid (hB3.trans (hB34.mono (by omega)))
  have HT4 := Lib.hid (HT1.out.below (by rw [HNw.out]; exact HB4.out))
  have HBx := Lib.hid hbx
  clear hw4 hB34 hbx hpb hob hB3 hs3 HRo w3
  obtain ⟨m5, h5⟩ := HT4.out.max
  have h5N : 5 < N := by
    obtain ⟨m, hm⟩ := HT1.out.max
    have := block_lt_of_cell hm
    rw [HNw.out] at this; exact this
  have hSeq := rows1_seq2 (fun x : {k : Nat // 1 * k < L.length} => x.1) xs (N + 2) t m5 (KeepB (N + 2)) (fun A B h => h) w4 (by omega) (by omega) (by rw [HLe.out]; exact Hxs.out) HBx.out h5 (by rw [HLe.out]; omega)
  rw [HLe.out] at hSeq
  have HSeq := Lib.hid hSeq
  clear hSeq h5
  go_wp2_with fail
  refine wp_rangeB2 (a := _) (gf := 113) (lb := #[.pointer (some ⟨N + 2, 0, none⟩)]) (by rfl) enters113 (encs := fun x : {k : Nat // 1 * k < L.length} => #[.int .i64 (x.1 : Nat), .string (bs (L.getD x.1 []))]) (Kp := KeepB (N + 2)) (xs := xs) (N + 2) (by omega) HSeq.out
    (fun h k => ⟨k.1.trans h.1, fun m q => k.2 m (h.2 m q)⟩) (fun W l o' hl => ⟨World.putObj_heap_other (by omega), fun m q => (World.cell?_of_block (a := ⟨5, 0, none⟩) (World.putObj_heap_other (show (5 : Nat) ≠ l by omega))).trans q⟩) (fun _ => rfl)
    (fun pre W => W.heap[N + 1]? = some (.cells #[.string (bs (outT L cs (pre.map (fun x : {k : Nat // 1 * k < L.length} => x.1))))] 9 (0, 0)) ∧ W.heap[N]? = some (.cells #[.pointer (some ⟨bb, 0, none⟩)] 100 (0, 0)) ∧ Below N w1 W ∧ N + 3 ≤ W.heap.size)
    (fun s A B h hg => ⟨blk_grown hg h.1 (by simp), blk_grown hg h.2.1 (by simp), h.2.2.1.grown hg (by have := h.2.2.2; omega) (fun r e => by cases e), Nat.le_trans h.2.2.2 hg.size⟩)
    (fun ys V l o o' h hl ho hlo => ⟨(World.putObj_heap_other (by omega)).trans h.1, (World.putObj_heap_other (by omega)).trans h.2.1, h.2.2.1.trans ⟨rfl, rfl, rfl, by simp [World.putObj], fun b hb => World.putObj_heap_other (by omega)⟩, by simpa [World.putObj] using h.2.2.2⟩)
    (fun ys V v h => ⟨(Below.heap_setCell V ⟨N + 2, 0, none⟩ v (N + 1) (by show N + 1 ≠ N + 2; omega)).trans h.1, (Below.heap_setCell V ⟨N + 2, 0, none⟩ v N (by show N ≠ N + 2; omega)).trans h.2.1, h.2.2.1.setCell (p := ⟨N + 2, 0, none⟩) (by show N ≤ N + 2; omega) v, by simpa using h.2.2.2⟩)
    ⟨HOb.out, HPb.out, HB4.out, by omega⟩
    (fun x t => ((((t.setIfInBounds 19 (.int .i64 (x.1 : Nat))).setIfInBounds 20 (.string (bs (L.getD x.1 [])))).setIfInBounds 7 (.int .i64 (x.1 : Nat))).setIfInBounds 8 (.string (bs (L.getD x.1 [])))))
    ?assign ?body ?done
  case assign =>
    rintro l0 x W K9 hK9
    gi_wp2
    exact hK9
  case done =>
    rintro D W hD ⟨h1, h2, h3, h4⟩ hm
    rw [Hxs.out] at h1
    have HMk := Lib.hid (MarksAt.one hm (Nat.le_of_lt (Nat.lt_of_lt_of_le (show N < w4.heap.size by omega) hD)))
    have p0 : W.cell? ⟨N + 1, 0, none⟩ = some (.string (bs (outT L cs (List.range L.length)))) := (blk_cell h1).trans rfl
    have HBl : Hid (Below w.heap.size w W) := Lib.hid (HB1.out.trans (h3.mono (by rw [← HNw.out]; exact HB1.out.size)))
    have hNs : w.heap.size ≤ N := by rw [← HNw.out]; exact HB1.out.size
    clear h1 h2 h3 h4 hm
    dsimp only
    rw [show ({ target := .collected D, args := #[] } : Deferred) = mark D from rfl]
    generalize outT L cs (List.range L.length) = o at *
    go_wp2
    exact leaves_marks [D] _ HMk.out ⟨_, results_tmp2 (t := 2) (u := 3) rfl _ _ _, Ret.mk ⟨by rw [HFin.out]; rfl, putAll_below (Nat.le_refl _) [D] _ (show MarksAt w.heap.size [D] W from ⟨HMk.out.1, fun E hE => ⟨Nat.le_trans hNs (HMk.out.2 E hE).1, (HMk.out.2 E hE).2⟩⟩) HBl.out⟩⟩
  case body =>
    rintro l0 pre ⟨x, hx⟩ W hl0 ⟨h1, h2, h3, h4⟩ hpl
    have hm1 : (pre ++ [(⟨x, hx⟩ : {k : Nat // 1 * k < L.length})]).map (fun x : {k : Nat // 1 * k < L.length} => x.1) = pre.map (fun x : {k : Nat // 1 * k < L.length} => x.1) ++ [x] := by simp
    have HM1 := Lib.hid hm1
    have hxc : x < cs.length := by omega
    have hol := outT_len (m := 65537) (fun l hl => by have := HLr.out l hl; omega) (by omega) cs (pre.map (fun x : {k : Nat // 1 * k < L.length} => x.1))
    rw [List.length_map] at hol
    have hll : (L.getD x []).length ≤ 65536 := by
      rw [List.getD_eq_getElem?_getD, List.getElem?_eq_getElem (by omega)]
      exact HLr.out _ (List.getElem_mem _)
    have HSn := Lib.hid (outT_snoc L cs (pre.map (fun x : {k : Nat // 1 * k < L.length} => x.1)) x)
    generalize pre.map (fun x : {k : Nat // 1 * k < L.length} => x.1) = ks at *
    obtain ⟨gb, go, hG, g0, g1, g2, g3⟩ := CardsAt.at_ HCar.out hxc
    have hgb := HgN.out gb go hG (by omega)
    have eg : W.heap[gb]? = w1.heap[gb]? := h3.block gb hgb
    have eb : W.heap[bb]? = w1.heap[bb]? := h3.block bb hbbN
    replace g0 := (World.cell?_of_block (a := ⟨gb, go + x * 4, none⟩) eg).trans g0
    replace g1 := (World.cell?_of_block (a := ⟨gb, go + x * 4 + 1, none⟩) eg).trans g1
    replace g2 := (World.cell?_of_block (a := ⟨gb, go + x * 4 + 2, none⟩) eg).trans g2
    replace g3 := (World.cell?_of_block (a := ⟨gb, go + x * 4 + 3, none⟩) eg).trans g3
    have b1 : W.cell? ⟨bb, 1, none⟩ = some (.slice G cs.length gc) := (World.cell?_of_block (a := ⟨bb, 1, none⟩) eb).trans ((blk_cell HBlk.out).trans rfl)
    subst hG
    have p0 : W.cell? ⟨N, 0, none⟩ = some (.pointer (some ⟨bb, 0, none⟩)) := (blk_cell h2).trans rfl
    have o0 : W.cell? ⟨N + 1, 0, none⟩ = some (.string (bs (outT L cs ks))) := (blk_cell h1).trans rfl
    have hcd := HCd.out cs[x] (List.getElem_mem hxc)
    have hgd : cs.getD x zeroC = cs[x] := by rw [List.getD_eq_getElem?_getD, List.getElem?_eq_getElem hxc]; rfl
    rw [hgd] at HSn
    clear hgd
    have i0 : (0 : Int) ≤ (x : Int) := by omega
    have i1 : (x : Int) < (cs.length : Int) := by omega
    generalize cs[x] = cd at *
    have H1 := Lib.hid h1
    have H2 := Lib.hid h2
    have H3 := Lib.hid h3
    clear h1 h2 h3 eg eb hm1
    obtain ⟨o, ho⟩ : ∃ o, outT L cs ks = o := ⟨_, rfl⟩
    rw [ho] at o0 HSn hol H1
    by_cases hz : cd = zeroC
    · subst hz
      rw [if_neg (fun h => h rfl)] at HSn
      have HE2 : Hid ((∀ n, KeepL n W W) ∧ KeepB (N + 2) W W ∧ (W.heap[N + 1]? = some (.cells #[.string (bs (outT L cs ((pre ++ [(⟨x, hx⟩ : {k : Nat // 1 * k < L.length})]).map (fun x : {k : Nat // 1 * k < L.length} => x.1))))] 9 (0, 0)) ∧ W.heap[N]? = some (.cells #[.pointer (some ⟨bb, 0, none⟩)] 100 (0, 0)) ∧ Below N w1 W ∧ N + 3 ≤ W.heap.size)) := Lib.hid 
        ⟨fun n k ob hk hb _ => hb, ⟨rfl, fun m q => q⟩, by rw [HM1.out, HSn.out]; exact H1.out, H2.out, H3.out, h4⟩
      gi_wp2_with fail
      (try simp only [Exit.inBlock, Exit.then])
      exact ⟨rfl, HE2.out.1 _, HE2.out.2.1, HE2.out.2.2⟩
    · have hc := hcd.resolve_left hz
      rw [if_pos hz] at HSn
      have hk := hc.1.kind
      obtain ⟨d1, d2, d3, d4⟩ := cd
      dsimp only at hk g0 g1 g2 g3
      have t1 : (d1 == 0) = false := by simp; omega
      have t2 : (d1 != 0) = true := by simp; omega
      have hP := put_newB [o, L.getD x [], [10]] W 3 rfl (by omega) (by show (o ++ (L.getD x [] ++ ([10] ++ []))).length ≤ 1000000000; simp only [List.length_append, List.length_cons, List.length_nil]; omega)
      simp only [List.map_cons, List.map_nil, List.flatten_cons, List.flatten_nil, List.append_nil] at hP
      have HP := Lib.hid hP
      clear hP hcd hz hc hk hol hll
      generalize L.getD x [] = l at *
      gi_wp2_with fail
      refine ⟨trivial, (CallsIn.inRound l0 (callsIn_wide.2 HP.out)).mono ?_⟩
      rintro _ W2 ⟨v, rfl, rfl, hB2⟩
      have hO2 := blk_below hB2 H1.out
      have q0 := blk_frozen (i := 0) hO2
      have q1 := (blk_cell (i := 0) hO2).trans rfl
      have HE2 : Hid ((∀ n, KeepL n W (W2.setCell ⟨N + 1, 0, none⟩ (.string (bs (o ++ (l ++ [10])))))) ∧ KeepB (N + 2) W (W2.setCell ⟨N + 1, 0, none⟩ (.string (bs (o ++ (l ++ [10]))))) ∧ ((W2.setCell ⟨N + 1, 0, none⟩ (.string (bs (o ++ (l ++ [10]))))).heap[N + 1]? = some (.cells #[.string (bs (outT L cs ((pre ++ [(⟨x, hx⟩ : {k : Nat // 1 * k < L.length})]).map (fun x : {k : Nat // 1 * k < L.length} => x.1))))] 9 (0, 0)) ∧ (W2.setCell ⟨N + 1, 0, none⟩ (.string (bs (o ++ (l ++ [10]))))).heap[N]? = some (.cells #[.pointer (some ⟨bb, 0, none⟩)] 100 (0, 0)) ∧ Below N w1 (W2.setCell ⟨N + 1, 0, none⟩ (.string (bs (o ++ (l ++ [10]))))) ∧ N + 3 ≤ (W2.setCell ⟨N + 1, 0, none⟩ (.string (bs (o ++ (l ++ [10]))))).heap.size)) := Lib.hid (by
        have far : ∀ b, b < W.heap.size → b ≠ N + 1 → (W2.setCell ⟨N + 1, 0, none⟩ (.string (bs (o ++ (l ++ [10]))))).heap[b]? = W.heap[b]? := fun b hb hne => (Below.heap_setCell W2 ⟨N + 1, 0, none⟩ _ b hne).trans (hB2.block b hb)
        refine ⟨fun n k ob hk hb ho => (far k (blk_lt hb) (fun e => by rw [e, H1.out] at hb; injection hb with hb; rw [← hb] at ho; rcases ho with ⟨r, h⟩ | ⟨d, h⟩ <;> cases h)).trans hb, ⟨far _ (by omega) (by omega), fun m q => (World.cell?_of_block (a := ⟨5, 0, none⟩) (far 5 (by omega) (by omega))).trans q⟩, ?_, (far N (by omega) (by omega)).trans H2.out, (H3.out.trans (hB2.mono (by omega))).setCell (p := ⟨N + 1, 0, none⟩) (by show N ≤ N + 1; omega) _, by simpa using Nat.le_trans h4 hB2.size⟩
        rw [HM1.out, HSn.out]
        exact blk_set hO2 (i := 0) _)
      clear hB2 hO2 HP
      gi_wp2_with fail
      (try simp only [Exit.inBlock, Exit.then])
      exact ⟨rfl, HE2.out.1 _, HE2.out.2.1, HE2.out.2.2⟩
end Go.Proofs.YtkpmmgeffbhngaaGreatDoor
