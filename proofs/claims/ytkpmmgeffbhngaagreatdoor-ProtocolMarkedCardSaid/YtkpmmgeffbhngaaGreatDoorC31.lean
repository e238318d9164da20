/- What the laws of the chapter rest on, part 31. -/
import Derived.Test.YtkpmmgeffbhngaaGreatDoorC28
set_option linter.unusedSimpArgs false
set_option linter.unusedVariables false
set_option linter.unnecessarySimpa false
namespace Prot
end Prot
namespace Go.Shelf
end Go.Shelf
namespace Go.Maps
end Go.Maps
namespace Go.Proofs.YtkpmmgeffbhngaaGreatDoor
open Go.RowKit Go.Shelf Prot Go.Lib Go.Maps
theorem size_zeroCells' (z : Array Value) (n : Nat) : (Builtin.zeroCells z n).size = n * z.size := by simp [Builtin.zeroCells]
/-- an append behind a slice that is full -/
theorem run_append_full (w : World) (t ty base : Nat) (e : TypeId) (i : TypeInfo) (z : Value) (size bytes : Nat) (ht : Tryz.prog.underlying t = some (.slice e)) (hi : Tryz.prog.info? e = some i) (hz : i.zero = some z)
    (hsize : i.size = size) (hby : i.bytes = bytes) (hzs : z.cells.size = size) (A : Option Addr) (n c : Nat) (xs : List Value) (hown : w.ownsRow base e size (.slice A n c) n xs)
    (a : Addr) (news : List Value) (hl : news.length = 1 * size) (hnews : ∀ j u, news[j]? = some u → w.cell? (a.add j) = some u)
    (h63 : n + 1 ≤ maxLen) (hbytes : (n + 1) * bytes ≤ 140737488355328) (hbase : base ≤ w.heap.size) :
    ∃ g cap w', (Builtin.append_ #[t, t] ty #[.slice A n n, .slice (some a) 1 1]).run Tryz.prog w = .ok (.slice (some ⟨g, 0, none⟩) (n + 1) cap) w' ∧ w'.ownsRow base e size (.slice (some ⟨g, 0, none⟩) (n + 1) cap) (n + 1) (xs ++ news) ∧ w.grownBy w' none := by
  subst hsize
  subst hby
  have hsmall : n + 1 ≤ 9223372036854775807 := by simp only [maxLen] at h63; omega
  have hlen : (xs ++ news).length = (n + 1) * i.size := by rw [List.length_append, hown.1, hl, Nat.add_mul]
  have grown : (w.drew.alloc (.cells (xs.toArray ++ news.toArray ++ Builtin.zeroCells z.cells (grownCap w (n + 1) n e - (n + 1))) e)).ownsRow base e i.size
        (.slice (some ⟨w.heap.size, 0, none⟩) (n + 1) (grownCap w (n + 1) n e)) (n + 1) (xs ++ news) ∧
      w.grownBy (w.drew.alloc (.cells (xs.toArray ++ news.toArray ++ Builtin.zeroCells z.cells (grownCap w (n + 1) n e - (n + 1))) e)) none := by
    have hge := grownCap_ge w (n + 1) n e
    have hcm : grownCap w (n + 1) n e ≤ maxLen := grownCap_le_maxLen w (n + 1) n e h63
    refine ⟨⟨hlen, .inr ⟨w.heap.size, _, _, rfl, hbase, heap_alloc_new w.drew _, hge, hcm, ?_, ?_⟩⟩, ⟨rfl, rfl, rfl, by simp, fun k hk _ => heap_alloc_old w.drew _ hk⟩⟩
    · simp only [Array.size_append, List.size_toArray, size_zeroCells', hzs, hown.1, hl]
      rw [← Nat.add_mul, ← Nat.add_mul, Nat.add_sub_cancel' hge]
    · simp only [Array.toList_append, List.append_assoc]
      rw [← List.append_assoc, ← hlen]
      exact List.take_left
  rcases hown.2 with ⟨e1, rfl⟩ | ⟨g, cap, cur, e1, hbg, hg, hnc, hcm, hcs, htake⟩
  · injection e1 with e1 e2 e3
    subst e1
    have hx : xs = [] := List.eq_nil_of_length_eq_zero (by simpa using hown.1)
    subst hx
    have hr := run_append_nil (P := Tryz.prog) w t ty e i z ht hi hz a 1 1 news hl hnews (by omega) (by omega) (by have hb := hbytes; simp only [Nat.zero_add] at hb; omega)
    simp only [List.nil_append, Nat.zero_add, Array.empty_append] at grown ⊢
    exact ⟨_, _, _, hr, grown.1, grown.2⟩
  · injection e1 with e1 e2 e3
    subst e1
    have holds : ∀ j u, xs[j]? = some u → w.cell? ((⟨g, 0, none⟩ : Addr).add j) = some u := hown.cells (g := g) rfl
    have hr := run_append_grow (P := Tryz.prog) w t ty e i z ht hi hz ⟨g, 0, none⟩ n n xs hown.1 holds a 1 1 news hl hnews (by omega) (by omega) (growslice_fits (by omega) hbytes)
    exact ⟨_, _, _, hr, grown.1, grown.2⟩
section
variable {α : Type} {enc : α → List Value} {e : TypeId} {size bytes : Nat} {z : Value}
/-- the same at a step of a region that draws -/
theorem step_push_full {ops : Array Oper} {o : Oper} {a : Act} {w : World} {K : Act → World → Prop} {Q : Exit → Act → World → Prop} {X : Prop}
    (hg : o.guard = none) (s x : Operand) (t : TypeId) (hop : o.op = Op.call { callee := Callee.builtin Builtin.append, args := #[s, x], argTypes := #[t, t] })
    (E : ElemT e size bytes z) (hk : ∀ x, (enc x).length = size) (ht : Tryz.prog.underlying t = some (.slice e)) (base : Nat)
    (A : Option Addr) (n c : Nat) (l : List α) (hn : l.length = n) (hs : a.eval s = .slice A n n) (hown : w.ownsRow base e size (.slice A n c) n (l.flatMap enc)) (hlen : n ≤ 100000) (y : α) (B : Nat) (hx : a.eval x = .slice (some ⟨B, 0, none⟩) 1 1)
    (cs : Array Value) (hcs : cs.toList = enc y) (tt : TypeId) (fr : Nat × Nat) (hB : w.heap[B]? = some (.cells cs tt fr)) (b3 : base ≤ w.heap.size)
    (hK : ∀ g cap w', w'.ownsRow base e size (.slice (some ⟨g, 0, none⟩) (n + 1) cap) (n + 1) ((l ++ [y]).flatMap enc) → w.grownBy w' none → K (a.put o.dst (.slice (some ⟨g, 0, none⟩) (n + 1) cap)) w') :
    if Region.wanted o (yielded ops a.tmps) = true then Oper.wp Tryz.prog o a w K Q else X := by
  obtain ⟨i0, hi, hz0, hz1, hz2⟩ := info_parts E.info
  have hb : (n + 1) * bytes ≤ 100001 * 100 := Nat.mul_le_mul (by omega) E.small
  have hw : Region.wanted o (yielded ops a.tmps) = true := by simp [Region.wanted, hg]
  rw [if_pos hw]
  obtain ⟨g, cap, w', hr, h2, h3⟩ := run_append_full w t o.type base e i0 z size bytes ht hi hz0 hz1 hz2 E.zsz A n c (l.flatMap enc) hown ⟨B, 0, none⟩ (enc y) (by rw [hk]; omega) (news_new hB hcs) (by simp only [maxLen]; omega) (by omega) b3
  unfold Oper.wp execOp
  simp only [hop, resolve, invoke, builtin, Sem.run_bind, Sem.run_pure, Result.andThen_ok, List.map_toArray, List.map_cons, List.map_nil, hs, hx, hr]
  exact hK g cap w' (by rw [← push_flat]; exact h2) h3
end
theorem MapJ.look1 {w : World} {b n : Nat} {l : List It} (h : MapJ w b n l) {k : Int} (h1 : -9223372036854775808 ≤ k) (h2 : k ≤ 9223372036854775807) :
    (Instr.lookup 157 (.map (some b)) (.int .i64 k) false).run Tryz.prog w = .ok (vItem ((findI l k).getD noIt)) w := by
  obtain ⟨D, ho, hD⟩ := h
  obtain ⟨e1, e2⟩ := hD.at_ k h1 h2
  obtain ⟨v, ps, hrun, hv⟩ := ho.lookup Tryz.lawN Tryz.underlying157 (zeroIt w) (rIt_v noIt) (key_N h1 h2)
  rw [e2] at hv
  rw [rIt_inv hv] at hrun
  exact hrun
set_option maxRecDepth 100000 in
set_option maxHeartbeats 2000000 in
theorem told_any (jb mb n : Nat) (j : Jn) (w : World) (hj : JAt w jb mb n j) (hok : JnOk j) (hn : n ≤ 10000) :
    Calls Tryz.prog 73 #[.pointer (some ⟨jb, 0, none⟩)] w (Ret (ItemsQ (toldL j.items) w)) := by
  have hmx : (maxN : Int) = 1099511627776 := rfl
  have HJ := Lib.hid hj
  have HKe := Lib.hid (keys_any (some mb) w)
  have HSo := Lib.hid (sortedJ_any mb n j.items w hj.map (by omega) hok.once hok.num)
  have y2 := hj.box.map
  have HIn : Hid (∀ k (h : k < (toldL j.items).length), findI j.items (toldL j.items)[k].num = some (toldL j.items)[k] ∧ 1 ≤ (toldL j.items)[k].num ∧ (toldL j.items)[k].num ≤ 1099511627776) := Lib.hid fun k h => by
    have hm : (toldL j.items)[k] ∈ j.items := (told_perm _).subset (List.getElem_mem h)
    have := hok.num _ hm
    exact ⟨findI_mem hok.once hm, by omega, by omega⟩
  have hlen : (toldL j.items).length ≤ n := by
    obtain ⟨D, ho, hI⟩ := hj.map
    have hsz := World.ownsMap.size_le ho
    obtain ⟨es, rfl, hko⟩ := World.ownsMap.keysOf ho
    have hnd := nodup_intKeys ho
    have hp : (j.items.map It.num).Perm (intKeys (DataW.map es)) := (List.perm_ext_iff_of_nodup hok.once hnd).2 fun x => by
      rw [mem_intKeys ho, List.mem_map]
      constructor
      · rintro ⟨u, hu, rfl⟩
        have hb := hok.num u hu
        have := (hI.at_ u.num (by omega) (by omega)).1
        rw [this, findI_mem hok.once hu]; rfl
      · intro h
        obtain ⟨u, hu, e⟩ := hI.keys _ h
        exact ⟨u, hu, (keyN_inj e).symm⟩
    have h1 := hp.length_eq
    rw [List.length_map] at h1
    have h2 : (intKeys (DataW.map es)).length = es.length := by simp [intKeys]
    have h3 : Maps.size (DataW.map es) = es.length := rfl
    rw [(told_perm _).length_eq]; omega
  have hjl := hj.box.lt
  clear hj hok
  obtain ⟨T, hT⟩ : ∃ T, toldL j.items = T := ⟨_, rfl⟩
  rw [hT] at HSo HIn hlen ⊢
  clear hT
  go_enter Tryz.func73, Tryz.ntmps73
  go_wp2_with fail
  refine HKe.out.mono ?_
  rintro _ w1 ⟨v, rfl, rfl, rfl⟩
  clear HKe
  go_wp2_with fail
  refine HSo.out.mono ?_
  rintro _ w2 ⟨v, rfl, hrow, hb⟩
  clear HSo
  obtain ⟨Gk, ck, rfl, hck⟩ := own_form hrow
  have hal : Below w.heap.size w (w.alloc (.cells #[.map (some mb)] 157)) := below_alloc' (Below.refl _ _) _
  have HB2 : Hid (Below w.heap.size w w2) := Lib.hid (hal.trans (hb.mono (by omega)))
  have HJ2 := Lib.hid (HJ.out.below HB2.out)
  have HIk : Hid (IntsAt w2 Gk (T.map It.num)) := Lib.hid (RowsAt.of_own encI_len hrow)
  rw [List.length_map] at hck ⊢
  clear hb hal hrow HJ y2
  go_wp2
  go_loopw [3, 13] (fun uo i wv => ∃ (k : Nat) (A : Option Addr) (c : Nat), k ≤ T.length ∧ i = .int .i64 k ∧ uo = .slice A k c ∧ k ≤ c ∧ Hid (wv.ownsRow w2.heap.size 67 7 (.slice A k c) k ((T.take k).flatMap encIt)) ∧ Hid (Below w2.heap.size w2 wv)) (fun _ i _ => T.length - (intOf i).toNat)
  case atStart => exact ⟨0, none, 0, by omega, rfl, rfl, Nat.le_refl _, Lib.hid (World.ownsRow_nil w2 w2.heap.size 67 7), Lib.hid (Below.refl _ _)⟩
  case round =>
    obtain ⟨k, A, c, hk, rfl, rfl, hkc, HO, HB⟩ := hrel
    by_cases hkn : k < T.length
    · obtain ⟨b, off, rfl, g1⟩ := IntsAt.at_ (IntsAt.below HIk.out HB.out) (i := k) (by rw [List.length_map]; exact hkn)
      rw [List.getElem_map] at g1
      obtain ⟨hfi, hr1, hr2⟩ := HIn.out k hkn
      have HJ3 := Lib.hid (HJ2.out.below HB.out)
      have hlk := fun (W : World) (e : W.heap[mb]? = wr.heap[mb]?) => (HJ3.out.map.kept e).look1 (k := T[k].num) (by omega) (by omega)
      rw [hfi] at hlk
      have htk := List.take_succ_eq_append_getElem hkn
      have HTk : Hid (T.take (k + 1) = T.take k ++ [T[k]]) := Lib.hid htk
      have HLk : Hid ((T.take k).length = k) := Lib.hid (by rw [List.length_take]; omega)
      clear htk hfi
      generalize T[k] = it at *
      obtain ⟨a1, a2, a3, a4, a5, a6, a7⟩ := it
      dsimp only [Option.getD, vItem] at hlk g1 hr1 hr2
      have y2 := HJ3.out.box.map
      have k0 : (0 : Int) ≤ (k : Int) := by omega
      have k1 : (k : Int) < (T.length : Int) := by omega
      go_upto_region 5 with fail
      refine wp_region_held_drew (S := fun V => V.cell? ⟨jb, 2, none⟩ = some (.map (some mb)) ∧ V.heap[mb]? = wr.heap[mb]?) (by kernel_rfl) ⟨y2, rfl⟩ (fun hS9 => ?_)
      clear hS9
      have HOd := Lib.hid (show wr.drew.ownsRow w2.heap.size 67 7 (.slice A k c) k ((T.take k).flatMap encIt) from HO.out)
      have HBd := Lib.hid HB.out.drew
      have hq : wr.drew.cell? ⟨jb, 2, none⟩ = some (.map (some mb)) ∧ wr.drew.heap[mb]? = wr.heap[mb]? := ⟨y2, rfl⟩
      have hlk1 := hlk wr.drew rfl
      clear y2
      generalize wr.drew = W9 at HOd HBd hq hlk1 ⊢
      refine wpAnyH_take (i := 0) (v := ?_) rfl (by kernel_rfl) (by kernel_rfl) (by kernel_rfl) (fun _ _ _ h => h) (Or.inl ⟨by rfl, ?_⟩) hq ?_
      rotate_left 1
      · intro W hW; obtain ⟨s0, s1⟩ := hW; go_simp <;> with_reducible rfl
      refine wpAnyH_take (i := 1) (v := ?_) rfl (by kernel_rfl) (by kernel_rfl) (by kernel_rfl) (fun _ _ _ h => h) (Or.inl ⟨by rfl, ?_⟩) hq ?_
      rotate_left 1
      · intro W hW; obtain ⟨s0, s1⟩ := hW; go_simp <;> with_reducible rfl
      refine wpAnyH_take (i := 2) (v := ?_) rfl (by kernel_rfl) (by kernel_rfl) (by kernel_rfl) (fun _ _ _ h => h) (Or.inl ⟨by rfl, ?_⟩) hq ?_
      rotate_left 1
      · intro W hW; obtain ⟨s0, s1⟩ := hW; go_simp <;> with_reducible rfl
      refine wpAnyH_take (i := 3) (v := ?_) rfl (by kernel_rfl) (by kernel_rfl) (by kernel_rfl) (fun _ _ _ h => h) (Or.inl ⟨by rfl, ?_⟩) hq ?_
      rotate_left 1
      · intro W hW; obtain ⟨s0, s1⟩ := hW; go_simp <;> with_reducible rfl
      refine wpAnyH_take (i := 4) (v := ?_) rfl (by kernel_rfl) (by kernel_rfl) (by kernel_rfl) (fun _ _ _ h => h) (Or.inl ⟨by rfl, ?_⟩) hq ?_
      rotate_left 1
      · intro W hW; obtain ⟨s0, s1⟩ := hW; go_simp <;> with_reducible rfl
      refine wpAnyH_take (i := 5) (v := ?_) rfl (by kernel_rfl) (by kernel_rfl) (by kernel_rfl) (fun _ _ _ h => h) (Or.inl ⟨by rfl, ?_⟩) hq ?_
      rotate_left 1
      · intro W hW; obtain ⟨s0, s1⟩ := hW; go_simp <;> with_reducible rfl
      refine wpAnyH_take (i := 6) (v := ?_) rfl (by kernel_rfl) (by kernel_rfl) (by kernel_rfl) (fun _ _ _ h => h) (Or.inl ⟨by rfl, ?_⟩) hq ?_
      rotate_left 1
      · intro W hW; obtain ⟨s0, s1⟩ := hW; go_simp <;> with_reducible rfl
      refine wpAnyH_take (i := 7) (v := ?_) rfl (by kernel_rfl) (by kernel_rfl) (by kernel_rfl) (fun _ _ _ h => h) (Or.inl ⟨by rfl, ?_⟩) hq ?_
      rotate_left 1
      · intro W hW; obtain ⟨s0, s1⟩ := hW; go_simp <;> with_reducible rfl
      refine wpAnyH_take (i := 8) (v := ?_) rfl (by kernel_rfl) (by kernel_rfl) (by kernel_rfl) (fun _ _ _ h => h) (Or.inl ⟨by rfl, ?_⟩) hq ?_
      rotate_left 1
      · intro W hW; obtain ⟨s0, s1⟩ := hW; go_simp <;> with_reducible rfl
      refine wpAnyH_take (i := 9) (v := ?_) rfl (by kernel_rfl) (by kernel_rfl) (by kernel_rfl) (fun _ _ _ h => h) (Or.inl ⟨by rfl, ?_⟩) hq ?_
      rotate_left 1
      · intro W hW; obtain ⟨s0, s1⟩ := hW; go_simp <;> with_reducible rfl
      refine wpAnyH_take (i := 10) (v := ?_) rfl (by kernel_rfl) (by kernel_rfl) (by kernel_rfl) (fun _ _ _ h => h) (Or.inl ⟨by rfl, ?_⟩) hq ?_
      rotate_left 1
      · intro W hW; obtain ⟨s0, s1⟩ := hW; go_simp <;> with_reducible rfl
      simp only [Act.put, List.setIfInBounds_toArray]
      have hml := HJ3.out.map.lt
      have hml9 : mb < W9.heap.size := by have := hq.2; rw [Array.getElem?_eq_getElem hml] at this; exact (Array.getElem?_eq_some_iff.1 this).1
      refine wpAnyH_ready (rs := [11]) (by kernel_rfl) (by simp) ?_
      refine AllReadyH.cons rfl (fun K hK => ?_) AllReadyH.nil
      go_simp
      refine hK.out _ _ hq (fun _ => ?_)
      clear hK K
      have hbk := heap_alloc_new W9 (.cells #[.int .i64 a1, .int .i64 a2, .int .i64 a3, .int .i64 a4, .int .i64 a5, .int .i64 a6, .bool a7] 67)
      have HOA := Lib.hid (HOd.out.alloc (.cells #[.int .i64 a1, .int .i64 a2, .int .i64 a3, .int .i64 a4, .int .i64 a5, .int .i64 a6, .bool a7] 67))
      have hb1 := HBd.out.size
      have hqa : (W9.alloc (.cells #[.int .i64 a1, .int .i64 a2, .int .i64 a3, .int .i64 a4, .int .i64 a5, .int .i64 a6, .bool a7] 67)).cell? ⟨jb, 2, none⟩ = some (.map (some mb)) ∧ (W9.alloc (.cells #[.int .i64 a1, .int .i64 a2, .int .i64 a3, .int .i64 a4, .int .i64 a5, .int .i64 a6, .bool a7] 67)).heap[mb]? = wr.heap[mb]? := ⟨cell_alloc hq.1 _, (Below.heap_alloc W9 _ mb hml9).trans hq.2⟩
      refine wpAnyH_ready (rs := [12]) (by kernel_rfl) (by simp) ?_
      refine AllReadyH.cons rfl (fun K hK => ?_) AllReadyH.nil
      go_simp
      refine hK.out _ _ hqa (fun _ => ?_)
      clear hK K
      refine wpAnyH_ready (rs := [13]) (by kernel_rfl) (by simp) ?_
      refine AllReadyH.cons rfl (fun K hK => ?_) AllReadyH.nil
      refine step_push_full rfl (.tmp 22) (.tmp 29) 44 rfl elemIt encIt_len Tryz.underlying44 w2.heap.size A k c (T.take k) HLk.out (by rfl) HOA.out (by omega) ⟨a1, a2, a3, a4, a5, a6, a7⟩ W9.heap.size (by rfl) _ rfl _ _ hbk (by rw [World.size_alloc]; omega) ?_
      intro g9 cap9 w6 hO6 hg6
      have hq6 : w6.cell? ⟨jb, 2, none⟩ = some (.map (some mb)) ∧ w6.heap[mb]? = wr.heap[mb]? := ⟨hg6.cell hqa.1 (by simp), (hg6.block mb (by rw [World.size_alloc]; omega) (by simp)).trans hqa.2⟩
      refine hK.out _ _ hq6 (fun _ => ?_)
      clear hK K
      have HB6 := Lib.hid ((below_alloc' HBd.out (.cells #[.int .i64 a1, .int .i64 a2, .int .i64 a3, .int .i64 a4, .int .i64 a5, .int .i64 a6, .bool a7] 67)).grown hg6 (by rw [World.size_alloc]; omega) (fun r e => by cases e))
      rw [← HTk.out] at hO6
      have HO6 := Lib.hid hO6
      have hcap : k + 1 ≤ cap9 := by
        obtain ⟨A', c', e', h⟩ := own_form hO6
        injection e' with _ _ e'; omega
      clear hO6 hg6 HOA hbk hqa hq HOd HBd
      refine wpAnyH_ready (rs := [14]) (by kernel_rfl) (by simp) ?_
      refine AllReadyH.cons rfl (fun K hK => ?_) AllReadyH.nil
      go_simp
      refine hK.out _ _ hq6 (fun _ => ?_)
      clear hK K hq6
      refine wpAnyH_done (by kernel_rfl) ?_ _
      go_wp2
      go_roundw
      case rel => exact ⟨k + 1, some ⟨g9, 0, none⟩, cap9, by omega, by go_num, rfl, hcap, HO6, HB6⟩
      case measure => simp [intOf]; omega
    · obtain rfl : k = T.length := by omega
      have HI := Lib.hid (RowsAt.of_own (l := T) encIt_len (by have h := HO.out; rw [List.take_length] at h; exact h))
      have HB4 := Lib.hid (HB2.out.trans (HB.out.mono HB2.out.size))
      clear HO HB HJ2 HIk
      go_wp2
      go_ret
      exact Ret.mk ⟨A, c, rfl, hkc, HI.out, HB4.out⟩
end Go.Proofs.YtkpmmgeffbhngaaGreatDoor
