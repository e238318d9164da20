/- What the laws of the chapter rest on, part 38. -/
import Derived.Test.YtkpmmgeffbhngaaGreatDoorC36
import Derived.Laws.CopyOwn
import Derived.Deep.OwnRows
import Derived.DeepKeys
set_option linter.unusedSimpArgs false
set_option linter.unusedVariables false
set_option linter.unnecessarySimpa false
namespace Prot
end Prot
namespace Go.Shelf
end Go.Shelf
namespace Go.Maps
end Go.Maps
namespace Go.Proofs.YtkpmmgeffbhngaaGreatDoor
open Go.RowKit Go.Shelf Prot Go.Lib Go.Maps
def shelfC (l : List It) : Array Value := ((List.range 1000).map fun b : Nat => Value.int .i64 ((room l (b : Int) : Nat) : Int)).toArray
theorem shelfC_size (l : List It) : (shelfC l).size = 1000 := by simp [shelfC]
theorem shelfC_at (l : List It) {b : Nat} (hb : b < 1000) : (shelfC l)[b]? = some (.int .i64 ((room l (b : Int) : Nat) : Int)) := by simp [shelfC, hb]
theorem shelfC_nil : shelfC [] = Array.replicate 1000 (Value.int .i64 0) := by
  refine Array.ext (by simp [shelfC]) (fun i h1 h2 => ?_)
  simp [shelfC, room]
theorem shelfC_snoc (l : List It) (x : It) {b : Nat} (hb : b < 1000) (hx : x.box = (b : Int)) : (shelfC l).setIfInBounds b (.int .i64 ((room l (b : Int) : Nat) + 1 : Int)) = shelfC (l ++ [x]) := by
  apply Array.ext_getElem?
  intro i
  rw [Array.getElem?_setIfInBounds, shelfC_size]
  by_cases hi : i < 1000
  · rw [shelfC_at l hi, shelfC_at (l ++ [x]) hi, room_snoc, hx]
    by_cases e : b = i
    · subst e; rw [if_pos rfl, if_pos hb, if_pos rfl]; rfl
    · rw [if_neg e, if_neg (by omega)]; rfl
  · rw [if_neg (by omega), Array.getElem?_eq_none (by rw [shelfC_size]; omega), Array.getElem?_eq_none (by rw [shelfC_size]; omega)]
theorem zero120 : Tryz.zeroCells120 = Array.replicate 1000 (.int .i64 0) := by kernel_rfl
theorem info120 : (Tryz.prog.info? 120).map (·.size) = some 1000 := by kernel_rfl
theorem shelfC_one (l : List It) : (shelfC l).all (·.oneCell') = true := by
  rw [Array.all_eq_true]
  intro i hi
  simp [shelfC, Value.oneCell']
set_option maxRecDepth 100000 in
set_option maxHeartbeats 1000000 in
theorem shelve_any (A : Option Addr) (ca : Nat) (l : List It) (w : World) (hl : ItemsAt w A l) (hn : l.length ≤ 1000) (hbx : ∀ x ∈ l, 0 ≤ x.box ∧ x.box < 1000) :
    Calls Tryz.prog 79 #[.slice A l.length ca] w (Ret fun v w' => v = .agg (shelfC l) ∧ Below w.heap.size w w') := by
  have Hl := Lib.hid hl
  have HBx := Lib.hid hbx
  have HZ : Hid (Tryz.zeroCells120 = shelfC []) := Lib.hid (by rw [zero120, shelfC_nil])
  clear hl hbx
  obtain ⟨N, hN⟩ : ∃ N, w.heap.size = N := ⟨_, rfl⟩
  have hX := heap_alloc_at (w.alloc (.cells Tryz.zeroCells120 120)) (.cells Tryz.zeroCells120 120) (show (w.alloc (.cells Tryz.zeroCells120 120)).heap.size = N + 1 by simp [hN])
  have hY := blk_alloc (heap_alloc_at w (.cells Tryz.zeroCells120 120) hN) (.cells Tryz.zeroCells120 120)
  have hB := below_alloc' (below_alloc' (Below.refl w.heap.size w) (.cells Tryz.zeroCells120 120)) (.cells Tryz.zeroCells120 120)
  have HX := Lib.hid hX
  have HY := Lib.hid hY
  have HB0 := Lib.hid hB
  clear hX hY hB
  go_enter Tryz.func79, Tryz.ntmps79
  go_wp2
  generalize Tryz.zeroCells120 = Z at *
  have HNw := Lib.hid hN
  clear hN
  go_loopw [8] (fun i wr => ∃ k : Nat, k ≤ l.length ∧ i = .int .i64 k ∧ Hid (wr.heap[N + 1]? = some (.cells (shelfC (l.take k)) 120 (0, 0))) ∧ Hid (wr.heap[N]? = some (.cells Z 120 (0, 0))) ∧ Hid (Below w.heap.size w wr)) (fun i _ => l.length - (intOf i).toNat)
  case atStart => exact ⟨0, Nat.zero_le _, rfl, Lib.hid (by rw [List.take_zero, ← HZ.out]; exact HX.out), HY, HB0⟩
  case round =>
    clear HX HY HB0
    obtain ⟨k, hk, rfl, HX, HY, HB⟩ := hrel
    by_cases hkl : k < l.length
    · obtain ⟨b, off, rfl, g0, g1, g2, g3, g4, g5, g6⟩ := (Hl.out.below HB.out).at_ hkl
      have hbb := HBx.out _ (List.getElem_mem hkl)
      have HTk := Lib.hid (List.take_succ_eq_append_getElem hkl)
      generalize l[k] = it at *
      obtain ⟨a1, a2, a3, a4, a5, a6, a7⟩ := it
      dsimp only at g0 g1 g2 g3 g4 g5 g6 hbb
      obtain ⟨bo, rfl⟩ : ∃ bo : Nat, a2 = (bo : Int) := ⟨a2.toNat, by omega⟩
      have hbo : bo < 1000 := by omega
      have hba := below_alloc' (Below.refl wr.heap.size wr) (.cells #[.int .i64 a1, .int .i64 (bo : Int), .int .i64 a3, .int .i64 a4, .int .i64 a5, .int .i64 a6, .bool a7] 67)
      have hx := heap_alloc_new wr (.cells #[.int .i64 a1, .int .i64 (bo : Int), .int .i64 a3, .int .i64 a4, .int .i64 a5, .int .i64 a6, .bool a7] 67)
      have n1 := (blk_cell (i := 1) hx).trans rfl
      have hX2 := blk_below hba HX.out
      have hY2 := blk_below hba HY.out
      have HB2 := Lib.hid (below_alloc' HB.out (.cells #[.int .i64 a1, .int .i64 (bo : Int), .int .i64 a3, .int .i64 a4, .int .i64 a5, .int .i64 a6, .bool a7] 67))
      have c0 : (wr.alloc (.cells #[.int .i64 a1, .int .i64 (bo : Int), .int .i64 a3, .int .i64 a4, .int .i64 a5, .int .i64 a6, .bool a7] 67)).cell? ⟨N + 1, bo, none⟩ = some (.int .i64 ((room (l.take k) (bo : Int) : Nat) : Int)) := (blk_cell hX2).trans (shelfC_at _ hbo)
      have fr := blk_frozen (i := bo) hX2
      have HX3 := Lib.hid (blk_set hX2 (i := bo) (.int .i64 (((room (l.take k) (bo : Int) : Nat) : Int) + 1)))
      rw [shelfC_snoc (l.take k) ⟨a1, (bo : Int), a3, a4, a5, a6, a7⟩ hbo rfl, ← HTk.out] at HX3
      have HY2 := Lib.hid hY2
      have hrl := room_le (l.take k) (bo : Int)
      rw [List.length_take] at hrl
      have e1 : IntKind.i64.wrap (((room (l.take k) (bo : Int) : Nat) : Int) + 1) = ((room (l.take k) (bo : Int) : Nat) : Int) + 1 := IntWalk.i64_in _ (by omega)
      have o0 : (0 : Int) ≤ (bo : Int) := by omega
      have o1 : (bo : Int) < 1000 := by omega
      have k0 : (0 : Int) ≤ (k : Int) := by omega
      have k1 : (k : Int) < (l.length : Int) := by omega
      clear hba hx hX2 hY2 HX HY HTk hrl hbb
      have hNN : w.heap.size ≤ N + 1 := by have := HNw.out; omega
      generalize room (l.take k) (bo : Int) = r at *
      go_wp2
      go_roundw
      case rel => exact ⟨k + 1, by omega, by go_num, HX3, Lib.hid ((Below.heap_setCell _ ⟨N + 1, bo, none⟩ _ N (by show N ≠ N + 1; omega)).trans HY2.out), Lib.hid (HB2.out.setCell (p := ⟨N + 1, bo, none⟩) hNN _)⟩
      case measure => simp [intOf]; omega
    · obtain rfl : k = l.length := by omega
      have hX := HX.out
      rw [List.take_length] at hX
      have HX2 := Lib.hid hX
      have HZs : Hid (Z.size = (shelfC l).size) := Lib.hid (by rw [HZ.out, shelfC_size, shelfC_size])
      clear HX hX
      have HI : Hid ((Tryz.prog.info? 120).map (·.size) = some (shelfC l).size) := Lib.hid (by rw [info120, shelfC_size])
      have HO : Hid ((shelfC l).all (·.oneCell') = true) := Lib.hid (shelfC_one l)
      obtain ⟨S, hS⟩ : ∃ S, shelfC l = S := ⟨_, rfl⟩
      rw [hS] at HX2 HZs HI HO
      have HS := Lib.hid hS
      clear hS
      go_wp2_with (first
        | (refine wpList_load_row rfl 120 (.tmp 3) rfl (N + 1) (by rfl) 120 S (0, 0) _ HX2.out Tryz.underlying120 rfl HI.out ?_)
        | (refine wpList_store_row rfl 120 (.tmp 2) (.tmp 19) rfl N S (by rfl) (by rfl) 120 Z HY.out HI.out HZs.out HO.out ?_))
      go_frame
      (try simp only [Exit.inBlock, Exit.then])
      refine bodyPost_ret (results_cell_row rfl _ _ N _ S _ _ rfl (setRow_heap wr N Z S 120 _ HY.out) Tryz.underlying120 rfl HI.out) rfl ?_
      exact Ret.mk ⟨by rw [HS.out], below_setRow HB.out (by rw [HNw.out]; exact Nat.le_refl _) S⟩
end Go.Proofs.YtkpmmgeffbhngaaGreatDoor
namespace Go.Proofs.YtkpmmgeffbhngaaGreatDoor
open Go.RowKit Go.Shelf Prot Go.Lib Go.Maps
/-- a round leaves loops, the box of the lines and the block 5 as they are -/
structure Keep2 (N : Nat) (W W' : World) : Prop where
  loops : ∀ (l : Nat) (o : Obj), W.heap[l]? = some o → LoopObj o → W'.heap[l]? = some o
  bx : W'.heap[N + 5]? = W.heap[N + 5]?
  five : W'.heap[5]? = W.heap[5]?
theorem Keep2.refl (N : Nat) (W : World) : Keep2 N W W := ⟨fun _ _ h _ => h, rfl, rfl⟩
theorem Keep2.trans {N : Nat} {X Y Z : World} (h : Keep2 N X Y) (k : Keep2 N Y Z) : Keep2 N X Z := ⟨fun l o hl ho => k.loops l o (h.loops l o hl ho) ho, k.bx.trans h.bx, k.five.trans h.five⟩
theorem Keep2.drewN {N : Nat} {X Y : World} (h : Keep2 N X Y) (q : Nat) : Keep2 N X (Y.drewN q) := ⟨h.loops, h.bx, h.five⟩
theorem Keep2.of_below {N : Nat} {W W' : World} (hb : Below W.heap.size W W') (h5 : N + 5 < W.heap.size) (h : 5 < N) : Keep2 N W W' := ⟨fun _ _ hl _ => blk_below hb hl, hb.block _ h5, hb.block _ (by omega)⟩
theorem loop_not_cells {o : Obj} (h : LoopObj o) {cs : Array Value} {t : TypeId} {fr : Nat × Nat} (e : o = .cells cs t fr) : False := by
  rcases h with ⟨r, rfl⟩ | ⟨d, rfl⟩ <;> cases e
theorem Keep2.set {N k : Nat} {W : World} {cs : Array Value} {t : TypeId} {fr : Nat × Nat} (h : W.heap[k]? = some (.cells cs t fr)) (h1 : k ≠ N + 5) (h2 : k ≠ 5) (i : Nat) (v : Value) : Keep2 N W (W.setCell ⟨k, i, none⟩ v) :=
  ⟨fun l o hl ho => blk_far hl (p := ⟨k, i, none⟩) (by
    show l ≠ k
    rintro rfl
    rw [h] at hl
    exact loop_not_cells ho (Option.some.inj hl).symm) v, Below.heap_setCell W ⟨k, i, none⟩ v _ (Ne.symm h1), Below.heap_setCell W ⟨k, i, none⟩ v _ (Ne.symm h2)⟩
theorem Keep2.grown {N : Nat} {W W' : World} {row : Option Nat} (hg : W.grownBy W' row) (h5 : N + 5 < W.heap.size) (h : 5 < N) (hr : ∀ r, row = some r → N + 6 ≤ r ∧ ∃ cs t fr, W.heap[r]? = some (.cells cs t fr)) : Keep2 N W W' :=
  ⟨fun l o hl ho => blk_grown hg hl (fun e => by
    obtain ⟨_, cs, t, fr, h2⟩ := hr l e.symm
    rw [h2] at hl
    exact loop_not_cells ho (Option.some.inj hl).symm), hg.block _ h5 (fun e => by have := (hr _ e.symm).1; omega), hg.block _ (by omega) (fun e => by have := (hr _ e.symm).1; omega)⟩
theorem Keep2.keepB {N : Nat} {W W' : World} (h : Keep2 N W W') : KeepB (N + 5) W W' := ⟨h.bx, fun _ q => (World.cell?_of_block (a := ⟨5, 0, none⟩) h.five).trans q⟩
/-- where all lies -/
structure RdM (w : World) (N : Nat) (s : RSt) (A : Option Addr) (ca : Nat) (W : World) : Prop where
  r0 : W.heap[N]? = some (.cells #[.slice none 0 0] 44 (0, 0))
  r1 : W.heap[N + 1]? = some (.cells #[.int .i64 0] 23 (0, 0))
  out : W.heap[N + 2]? = some (.cells #[.slice A s.2.length ca] 44 (0, 0))
  bxs : W.heap[N + 3]? = some (.cells (shelfC s.2) 120 (0, 0))
  box : W.heap[N + 4]? = some (.cells #[.int .i64 s.1] 2 (0, 0))
  str : ∃ v, W.heap[N + 5]? = some (.cells #[v] 9 (0, 0))
  own : W.ownsRow (N + 6) 67 7 (.slice A s.2.length ca) s.2.length (s.2.flatMap encIt)
  below : Below N w W
section
variable {w W : World} {N : Nat} {s : RSt} {A : Option Addr} {ca : Nat}
theorem RdM.size (h : RdM w N s A ca W) : N + 5 < W.heap.size := by obtain ⟨v, hv⟩ := h.str; exact blk_lt hv
theorem RdM.go {V : World} (h : RdM w N s A ca W) (hb : Below W.heap.size W V) : RdM w N s A ca V :=
  ⟨blk_below hb h.r0, blk_below hb h.r1, blk_below hb h.out, blk_below hb h.bxs, blk_below hb h.box, (let ⟨v, hv⟩ := h.str; ⟨v, blk_below hb hv⟩), own_below' h.own hb, h.below.trans (hb.mono (by have := h.size; omega))⟩
theorem RdM.drewN (h : RdM w N s A ca W) (q : Nat) : RdM w N s A ca (W.drewN q) := ⟨h.r0, h.r1, h.out, h.bxs, h.box, h.str, h.own, below_drewN h.below q⟩
theorem RdM.drew (h : RdM w N s A ca W) : RdM w N s A ca W.drew := ⟨h.r0, h.r1, h.out, h.bxs, h.box, h.str, h.own, h.below.drew⟩
theorem own_put {w : World} {base : Nat} {e : TypeId} {size : Nat} {v : Value} {n : Nat} {xs : List Value} (h : w.ownsRow base e size v n xs) {l : Nat} {o : Obj} (hl : w.heap[l]? = some o) (ho : LoopObj o) (o' : Obj) : (w.putObj l o').ownsRow base e size v n xs :=
  ⟨h.1, h.2.imp id fun ⟨g, cap, cur, a, b, c, d⟩ => ⟨g, cap, cur, a, b, (World.putObj_heap_other (fun e => by
    subst e
    rw [c] at hl
    exact loop_not_cells ho (Option.some.inj hl).symm)).trans c, d⟩⟩
theorem RdM.put (h : RdM w N s A ca W) {l : Nat} {o : Obj} (o' : Obj) (hN : N + 6 ≤ l) (hl : W.heap[l]? = some o) (ho : LoopObj o) : RdM w N s A ca (W.putObj l o') :=
  ⟨(World.putObj_heap_other (by omega)).trans h.r0, (World.putObj_heap_other (by omega)).trans h.r1, (World.putObj_heap_other (by omega)).trans h.out, (World.putObj_heap_other (by omega)).trans h.bxs, (World.putObj_heap_other (by omega)).trans h.box,
    (let ⟨v, hv⟩ := h.str; ⟨v, (World.putObj_heap_other (by omega)).trans hv⟩), own_put h.own hl ho o', h.below.trans ⟨rfl, rfl, rfl, by simp [World.putObj], fun b hb => World.putObj_heap_other (by omega)⟩⟩
theorem RdM.line (h : RdM w N s A ca W) (v : Value) : RdM w N s A ca (W.setCell ⟨N + 5, 0, none⟩ v) := by
  obtain ⟨u, hu⟩ := h.str
  exact ⟨blk_far h.r0 (by show _ ≠ N + 5; omega) v, blk_far h.r1 (by show _ ≠ N + 5; omega) v, blk_far h.out (by show _ ≠ N + 5; omega) v, blk_far h.bxs (by show _ ≠ N + 5; omega) v, blk_far h.box (by show _ ≠ N + 5; omega) v, ⟨v, blk_set hu (i := 0) v⟩,
    ownsRow_setCell_below h.own (by show N + 5 < N + 6; omega) v, h.below.setCell (p := ⟨N + 5, 0, none⟩) (by show N ≤ N + 5; omega) v⟩
theorem RdM.setBox (h : RdM w N s A ca W) (b : Int) : RdM w N (b, s.2) A ca (W.setCell ⟨N + 4, 0, none⟩ (.int .i64 b)) := by
  obtain ⟨u, hu⟩ := h.str
  exact ⟨blk_far h.r0 (by show _ ≠ N + 4; omega) _, blk_far h.r1 (by show _ ≠ N + 4; omega) _, blk_far h.out (by show _ ≠ N + 4; omega) _, blk_far h.bxs (by show _ ≠ N + 4; omega) _, blk_set h.box (i := 0) _, ⟨u, blk_far hu (by show _ ≠ N + 4; omega) _⟩,
    ownsRow_setCell_below h.own (by show N + 4 < N + 6; omega) _, h.below.setCell (p := ⟨N + 4, 0, none⟩) (by show N ≤ N + 4; omega) _⟩
/-- one cylinder more -/
theorem RdM.push {o : Obj} {W6 : World} {g cap bo : Nat} {x : It} (h : RdM w N s A ca W) (hbo : bo < 1000) (hx : x.box = (bo : Int)) (h5 : 5 < N)
    (hO : W6.ownsRow (N + 6) 67 7 (.slice (some ⟨g, 0, none⟩) (s.2.length + 1) cap) (s.2.length + 1) ((s.2 ++ [x]).flatMap encIt)) (hg : (W.alloc o).grownBy W6 (Value.slice A s.2.length ca).ownBlock) :
    RdM w N (s.1, s.2 ++ [x]) (some ⟨g, 0, none⟩) cap ((W6.setCell ⟨N + 2, 0, none⟩ (.slice (some ⟨g, 0, none⟩) (s.2.length + 1) cap)).setCell ⟨N + 3, bo, none⟩ (.int .i64 (((room s.2 (bo : Int) : Nat) : Int) + 1))) ∧
    Keep2 N W ((W6.setCell ⟨N + 2, 0, none⟩ (.slice (some ⟨g, 0, none⟩) (s.2.length + 1) cap)).setCell ⟨N + 3, bo, none⟩ (.int .i64 (((room s.2 (bo : Int) : Nat) : Int) + 1))) := by
  have hsz := h.size
  have keep : ∀ {b : Nat} {cs : Array Value} {t : TypeId}, W.heap[b]? = some (.cells cs t (0, 0)) → t ≠ 67 → W6.heap[b]? = some (.cells cs t (0, 0)) := fun hb ht => blk_grown hg (blk_alloc hb o) (own_ne_blk h.own hb ht)
  obtain ⟨u, hu⟩ := h.str
  have k2 := keep h.out (by decide)
  have k3 := keep h.bxs (by decide)
  have q2 := blk_set k2 (i := 0) (.slice (some ⟨g, 0, none⟩) (s.2.length + 1) cap)
  have q3 : (W6.setCell ⟨N + 2, 0, none⟩ (.slice (some ⟨g, 0, none⟩) (s.2.length + 1) cap)).heap[N + 3]? = _ := blk_far k3 (by show N + 3 ≠ N + 2; omega) _
  have z3 := blk_set q3 (i := bo) (.int .i64 (((room s.2 (bo : Int) : Nat) : Int) + 1))
  rw [shelfC_snoc s.2 x hbo hx] at z3
  have far : ∀ {b : Nat} {ob : Obj}, b ≠ N + 2 → b ≠ N + 3 → W6.heap[b]? = some ob → ((W6.setCell ⟨N + 2, 0, none⟩ (.slice (some ⟨g, 0, none⟩) (s.2.length + 1) cap)).setCell ⟨N + 3, bo, none⟩ (.int .i64 (((room s.2 (bo : Int) : Nat) : Int) + 1))).heap[b]? = some ob := fun h1 h2 hb =>
    blk_far (blk_far hb (by show _ ≠ N + 2; exact h1) _) (by show _ ≠ N + 3; exact h2) _
  have hlen : (s.2 ++ [x]).length = s.2.length + 1 := len_snoc _ _
  refine ⟨⟨far (by omega) (by omega) (keep h.r0 (by decide)), far (by omega) (by omega) (keep h.r1 (by decide)), ?_, z3, far (by omega) (by omega) (keep h.box (by decide)), ⟨u, far (by omega) (by omega) (keep hu (by decide))⟩, ?_, ?_⟩, ?_⟩
  · dsimp only
    rw [hlen]
    exact blk_far q2 (by show N + 2 ≠ N + 3; omega) _
  · dsimp only
    rw [hlen]
    exact ownsRow_setCell_below (ownsRow_setCell_below hO (by show N + 2 < N + 6; omega) _) (by show N + 3 < N + 6; omega) _
  · exact (((h.below.alloc (by omega) o).grown hg (by simp; omega) (fun r e => by have := own_base h.own r e; omega)).setCell (p := ⟨N + 2, 0, none⟩) (by show N ≤ N + 2; omega) _).setCell (p := ⟨N + 3, bo, none⟩) (by show N ≤ N + 3; omega) _
  · have k1 : Keep2 N W (W.alloc o) := Keep2.of_below (below_alloc' (Below.refl _ _) o) hsz h5
    have k4 : Keep2 N (W.alloc o) W6 := Keep2.grown hg (by simp; omega) h5 (fun r e => ⟨own_base h.own r e, by
      obtain ⟨cs, t, fr, h1⟩ := own_cells h.own r e
      exact ⟨cs, t, fr, blk_alloc h1 o⟩⟩)
    exact ((k1.trans k4).trans (Keep2.set k2 (by omega) (by omega) _ _)).trans (Keep2.set q3 (by omega) (by omega) _ _)
end
/-- what is read of the lines that are named -/
structure RdI (w : World) (N : Nat) (L : List (List UInt8)) (ks : List Nat) (W : World) : Prop where
  ex : ∃ (s : RSt) (A : Option Addr) (ca : Nat), readGo waysP (ks.map fun k => L.getD k []) (0, []) = some s ∧ RdOk s ∧ s.2.length ≤ ks.length ∧ RdM w N s A ca W
theorem RdI.stays (w : World) (N : Nat) (L : List (List UInt8)) (α : Type) (f : α → Nat) : Stays (fun (pre : List α) W => RdI w N L (pre.map f) W) := fun _ _ _ h hg => by
  obtain ⟨s, A, ca, h1, h2, h3, h4⟩ := h.ex
  exact ⟨s, A, ca, h1, h2, h3, h4.go ⟨hg.os, hg.tape, hg.output, hg.size, fun b hb => hg.block b hb (by simp)⟩⟩
theorem RdI.put {w : World} {N : Nat} {L : List (List UInt8)} {ks : List Nat} {W : World} (h : RdI w N L ks W) {l : Nat} {o : Obj} (o' : Obj) (hN : N + 6 ≤ l) (hl : W.heap[l]? = some o) (ho : LoopObj o) : RdI w N L ks (W.putObj l o') := by
  obtain ⟨s, A, ca, h1, h2, h3, h4⟩ := h.ex
  exact ⟨s, A, ca, h1, h2, h3, h4.put o' hN hl ho⟩
theorem RdI.line {w : World} {N : Nat} {L : List (List UInt8)} {ks : List Nat} {W : World} (h : RdI w N L ks W) (v : Value) : RdI w N L ks (W.setCell ⟨N + 5, 0, none⟩ v) := by
  obtain ⟨s, A, ca, h1, h2, h3, h4⟩ := h.ex
  exact ⟨s, A, ca, h1, h2, h3, h4.line v⟩
/-- a line was refused -/
structure RdX (w : World) (N : Nat) (L : List (List UInt8)) (W : World) : Prop where
  r0 : W.heap[N]? = some (.cells #[.slice none 0 0] 44 (0, 0))
  r1 : W.heap[N + 1]? = some (.cells #[.int .i64 8] 23 (0, 0))
  bad : readGo waysP L (0, []) = none
  size : N + 6 ≤ W.heap.size
  below : Below N w W
theorem RdX.stays (w : World) (N : Nat) (L : List (List UInt8)) : StaysP (RdX w N L) := fun W W' h hg => by
  have hb : Below W.heap.size W W' := ⟨hg.os, hg.tape, hg.output, hg.size, fun b hb => hg.block b hb (by simp)⟩
  exact ⟨blk_below hb h.r0, blk_below hb h.r1, h.bad, Nat.le_trans h.size hb.size, h.below.trans (hb.mono (by have := h.size; omega))⟩
theorem RdX.put {w : World} {N : Nat} {L : List (List UInt8)} {W : World} (h : RdX w N L W) {l : Nat} (o' : Obj) (hN : N + 6 ≤ l) : RdX w N L (W.putObj l o') :=
  ⟨(World.putObj_heap_other (by omega)).trans h.r0, (World.putObj_heap_other (by omega)).trans h.r1, h.bad, by simpa [World.putObj] using h.size, h.below.trans ⟨rfl, rfl, rfl, by simp [World.putObj], fun b hb => World.putObj_heap_other (by omega)⟩⟩
/-- the returns of ReadList's stop -/
theorem RdM.stop {w W : World} {N : Nat} {s : RSt} {A : Option Addr} {ca : Nat} {L : List (List UInt8)} (h : RdM w N s A ca W) (h5 : 5 < N) (hbad : readGo waysP L (0, []) = none) :
    RdX w N L ((W.setCell ⟨N, 0, none⟩ (.slice none 0 0)).setCell ⟨N + 1, 0, none⟩ (.int .i64 8)) ∧ Keep2 N W ((W.setCell ⟨N, 0, none⟩ (.slice none 0 0)).setCell ⟨N + 1, 0, none⟩ (.int .i64 8)) := by
  have q0 := blk_set h.r0 (i := 0) (.slice none 0 0)
  have q1 : (W.setCell ⟨N, 0, none⟩ (.slice none 0 0)).heap[N + 1]? = _ := blk_far h.r1 (by show N + 1 ≠ N; omega) _
  refine ⟨⟨blk_far q0 (by show N ≠ N + 1; omega) _, blk_set q1 (i := 0) _, hbad, by have := h.size; simp; omega, (h.below.setCell (p := ⟨N, 0, none⟩) (Nat.le_refl _) _).setCell (p := ⟨N + 1, 0, none⟩) (by show N ≤ N + 1; omega) _⟩, ?_⟩
  exact (Keep2.set h.r0 (by omega) (by omega) _ _).trans (Keep2.set q1 (by omega) (by omega) _ _)
theorem loadVar_one {w : World} {ty : TypeId} {a : Addr} {v : Value} (hty : ∀ w, (isAgg ty).run Tryz.prog w = .ok false w) (h : w.cell? a = some v) : (loadVar ty a).run Tryz.prog w = .ok v w := by
  unfold loadVar
  rw [Sem.run_bind, hty w]
  simp [h, go_sem]
theorem results_cells2 {fn : Func} (hr : fn.results = #[.cell 2 44, .cell 3 23]) {w : World} {N : Nat} {v1 v2 : Value} (tmps : Array Value) (h0 : tmps.getD 2 undef = .pointer (some ⟨N, 0, none⟩)) (h1 : tmps.getD 3 undef = .pointer (some ⟨N + 1, 0, none⟩)) (c0 : w.cell? ⟨N, 0, none⟩ = some v1) (c1 : w.cell? ⟨N + 1, 0, none⟩ = some v2) :
    (results fn tmps).run Tryz.prog w = .ok (.tuple #[v1, v2]) w := by
  have h0' : tmps[2]?.getD undef = .pointer (some ⟨N, 0, none⟩) := by simpa using h0
  have h1' : tmps[3]?.getD undef = .pointer (some ⟨N + 1, 0, none⟩) := by simpa using h1
  have l0 := loadVar_one (ty := 44) (fun w => Tryz.isAgg44 w) c0
  have l1 := loadVar_one (ty := 23) (fun w => Tryz.isAgg23 w) c1
  simp [results, hr, h0', h1', asAddr, l0, l1]
/-- boxes that were counted as they were read are those of the list -/
theorem shelfC_perm {l m : List It} (h : l.Perm m) : shelfC l = shelfC m := by
  have e : ∀ b : Int, room l b = room m b := fun b => by unfold room; rw [(h.filter _).length_eq]
  unfold shelfC
  simp only [e]
end Go.Proofs.YtkpmmgeffbhngaaGreatDoor
namespace Go.Proofs.YtkpmmgeffbhngaaGreatDoor
open Go.RowKit Go.Shelf Prot Go.Lib Go.Maps
theorem rise_next {l : List It} {k : Nat} (h : Rise (l.take k)) (hk0 : 0 < k) (hk : k < l.length) (hlt : l[k - 1].num < l[k].num) : Rise (l.take (k + 1)) := by
  rw [List.take_succ_eq_append_getElem hk]
  unfold Rise at h ⊢
  rw [List.pairwise_append]
  refine ⟨h, List.pairwise_singleton _ _, fun x hx y hy => ?_⟩
  rw [List.mem_singleton] at hy
  subst hy
  obtain ⟨i, hi, rfl⟩ := List.mem_iff_getElem.1 hx
  rw [List.length_take] at hi
  rw [List.getElem_take]
  by_cases e : i = k - 1
  · subst e; exact hlt
  · have h2 := List.pairwise_iff_getElem.1 h i (k - 1) (by rw [List.length_take]; omega) (by rw [List.length_take]; omega) (by omega)
    rw [List.getElem_take, List.getElem_take] at h2
    omega
theorem rise_stop {l : List It} {k : Nat} (hk0 : 0 < k) (hk : k < l.length) (h : ¬ l[k - 1].num < l[k].num) : riseB l = false := by
  cases e : riseB l with
  | false => rfl
  | true =>
    have h2 := List.pairwise_iff_getElem.1 (riseB_iff.1 e) (k - 1) k (by omega) hk (by omega)
    exact absurd h2 h
theorem writeGo_len : ∀ (xs : List It) (b : Int) (o : List UInt8), o.length ≤ (writeGo xs b o).length
  | [], _, _ => Nat.le_refl _
  | x :: xs, b, o => by
    show o.length ≤ (if x.box ≠ b then writeGo xs x.box (o ++ (joinSp (headW x.box.toNat) ++ [10]) ++ (joinSp (itemW x) ++ [10])) else writeGo xs b (o ++ (joinSp (itemW x) ++ [10]))).length
    split
    · refine Nat.le_trans ?_ (writeGo_len xs _ _)
      simp only [List.length_append]; omega
    · refine Nat.le_trans ?_ (writeGo_len xs _ _)
      simp only [List.length_append]; omega
theorem foldl_max (m : Int) : ∀ (zs : List Int) (a : Int), m < zs.foldl max a ↔ m < a ∨ ∃ z ∈ zs, m < z
  | [], a => by simp
  | z :: zs, a => by
    rw [List.foldl_cons, foldl_max m zs (max a z)]
    constructor
    · rintro (h | ⟨y, hy, h⟩)
      · by_cases e : m < a
        · exact .inl e
        · exact .inr ⟨z, by simp, by omega⟩
      · exact .inr ⟨y, by simp [hy], h⟩
    · rintro (h | ⟨y, hy, h⟩)
      · exact .inl (by omega)
      · rcases List.mem_cons.1 hy with rfl | hy
        · exact .inl (by omega)
        · exact .inr ⟨y, hy, h⟩
theorem max_lt (m : Int) (hm : 0 ≤ m) (zs : List Int) : m < Lib.maxOf zs ↔ ∃ z ∈ zs, m < z := by
  unfold Lib.maxOf
  rw [foldl_max]
  cases zs with
  | nil => simp; omega
  | cons z zs =>
    simp only [List.headD_cons]
    exact ⟨fun h => h.elim (fun h => ⟨z, by simp, h⟩) id, fun h => .inr h⟩
def roomsL (l : List It) : List Int := (List.range 1000).map fun b : Nat => ((room l (b : Int) : Nat) : Int)
theorem roomsL_len (l : List It) : (roomsL l).length = 1000 := by simp [roomsL]
theorem roomsL_at (l : List It) {j : Nat} (hj : j < 1000) : (roomsL l).getD j 0 = ((room l (j : Int) : Nat) : Int) := by
  rw [List.getD_eq_getElem?_getD]
  simp [roomsL, hj]
/-- the greatest number of cylinders in a box -/
theorem max_rooms {l : List It} (hb : ∀ x ∈ l, 0 ≤ x.box ∧ x.box < 1000) : decide (12 < Lib.maxOf (roomsL l)) = l.any fun x => decide (12 < room l x.box) := by
  rw [Bool.eq_iff_iff, decide_eq_true_iff, max_lt 12 (by omega), List.any_eq_true]
  constructor
  · rintro ⟨z, hz, h⟩
    obtain ⟨b, hb2, rfl⟩ := List.mem_map.1 hz
    have hpos : 0 < room l (b : Int) := by omega
    unfold room at hpos
    obtain ⟨x, hx⟩ := List.exists_mem_of_length_pos hpos
    obtain ⟨h1, h2⟩ := List.mem_filter.1 hx
    have e : x.box = (b : Int) := by simpa using h2
    exact ⟨x, h1, by rw [e]; simpa using (by omega : 12 < room l (b : Int))⟩
  · rintro ⟨x, hx, h⟩
    have h1 := hb x hx
    obtain ⟨b, e⟩ : ∃ b : Nat, x.box = (b : Int) := ⟨x.box.toNat, by omega⟩
    rw [e] at h
    exact ⟨_, List.mem_map.2 ⟨b, List.mem_range.2 (by omega), rfl⟩, by simp at h; omega⟩
end Go.Proofs.YtkpmmgeffbhngaaGreatDoor
namespace Go.Proofs.YtkpmmgeffbhngaaGreatDoor
open Go.RowKit Prot Go.Lib Go.Maps
set_option maxRecDepth 100000 in
set_option maxHeartbeats 1000000 in
theorem longs_any (A B : Option Addr) (ca cb : Nat) (l m : List Int) (w : World) (hl : IntsAt w A l) (hm : IntsAt w B m) (hn : l.length ≤ 1000000) :
    Calls Tryz.prog 24 #[.slice A l.length ca, .slice B m.length cb] w (Ret fun v w' => v = .bool (decide (l = m)) ∧ ∃ q, w' = w.drewN q) := by
  have Hl := Lib.hid hl
  have Hm := Lib.hid hm
  clear hl hm
  by_cases hlen : l.length = m.length
  rotate_left 1
  · have t1 : ((l.length : Int) != (m.length : Int)) = true := by simp; omega
    have HV : Hid (decide (l = m) = false) := Lib.hid (decide_eq_false fun e => hlen (by rw [e]))
    clear hlen
    go_enter Tryz.func24, Tryz.ntmps24
    go_wp2
    go_ret
    exact Ret.mk ⟨by rw [HV.out]; rfl, 0, rfl⟩
  have t1 : ((l.length : Int) != (m.length : Int)) = false := by simp; omega
  have HLn := Lib.hid hlen
  clear hlen
  go_enter Tryz.func24, Tryz.ntmps24
  go_wp2
  go_loopw [5] (fun i wr => ∃ k q : Nat, k ≤ l.length ∧ i = .int .i64 k ∧ wr = w.drewN q ∧ Hid (l.take k = m.take k)) (fun i _ => l.length - (intOf i).toNat)
  case atStart => exact ⟨0, 0, Nat.zero_le _, rfl, rfl, Lib.hid rfl⟩
  case round =>
    obtain ⟨k, q, hk, rfl, rfl, HT⟩ := hrel
    by_cases hkl : k < l.length
    · have hkm : k < m.length := by have := HLn.out; omega
      obtain ⟨b1, o1, rfl, g1⟩ := Hl.out.at_ hkl
      obtain ⟨b2, o2, rfl, g2⟩ := Hm.out.at_ hkm
      have g1 : (w.drewN q).cell? ⟨b1, o1 + k, none⟩ = some (.int .i64 l[k]) := g1
      have g2 : (w.drewN q).cell? ⟨b2, o2 + k, none⟩ = some (.int .i64 m[k]) := g2
      have e1 := List.take_succ_eq_append_getElem hkl
      have e2 := List.take_succ_eq_append_getElem hkm
      have t2 : decide ((k : Int) < (l.length : Int)) = true := decide_eq_true (by omega)
      have k0 : (0 : Int) ≤ (k : Int) := by omega
      have k1 : (k : Int) < (l.length : Int) := by omega
      have k2 : (k : Int) < (m.length : Int) := by omega
      by_cases he : l[k] = m[k]
      · have HT2 : Hid (l.take (k + 1) = m.take (k + 1)) := Lib.hid (by rw [e1, e2, HT.out, he])
        have t3 : (l[k] != m[k]) = false := by simp [he]
        clear e1 e2 he
        generalize l[k] = x at *
        generalize m[k] = y at *
        go_upto_region 6 with fail
        go_quiet (fail)
        go_wp2
        go_roundw
        case rel => exact ⟨k + 1, _, by omega, by go_num, rfl, HT2⟩
        case measure => simp [intOf]; omega
      · have HV : Hid (decide (l = m) = false) := Lib.hid (decide_eq_false fun e => he (by simp [e]))
        have t3 : (l[k] != m[k]) = true := by simp [he]
        clear e1 e2 he
        generalize l[k] = x at *
        generalize m[k] = y at *
        go_upto_region 6 with fail
        go_quiet (fail)
        go_wp2
        go_ret
        exact Ret.mk ⟨by rw [HV.out]; rfl, _, (by first | rfl | exact World.drewN_drewN _ _ _)⟩
    · have HV : Hid (decide (l = m) = true) := Lib.hid (decide_eq_true (by
        have h := HT.out
        rw [List.take_of_length_le (by omega), List.take_of_length_le (by have := HLn.out; omega)] at h
        exact h))
      have t2 : decide ((k : Int) < (l.length : Int)) = false := decide_eq_false (by omega)
      go_wp2
      go_ret
      exact Ret.mk ⟨by rw [HV.out]; rfl, q, rfl⟩
set_option maxRecDepth 100000 in
set_option maxHeartbeats 1000000 in
theorem errs_any (A B : Option Addr) (ca cb : Nat) (l m : List Int) (w : World) (hl : IntsAt w A l) (hm : IntsAt w B m) (hn : l.length ≤ 1000000) :
    Calls Tryz.prog 35 #[.slice A l.length ca, .slice B m.length cb] w (Ret fun v w' => v = .bool (decide (l = m)) ∧ ∃ q, w' = w.drewN q) := by
  have Hl := Lib.hid hl
  have Hm := Lib.hid hm
  clear hl hm
  by_cases hlen : l.length = m.length
  rotate_left 1
  · have t1 : ((l.length : Int) != (m.length : Int)) = true := by simp; omega
    have HV : Hid (decide (l = m) = false) := Lib.hid (decide_eq_false fun e => hlen (by rw [e]))
    clear hlen
    go_enter Tryz.func35, Tryz.ntmps35
    go_wp2
    go_ret
    exact Ret.mk ⟨by rw [HV.out]; rfl, 0, rfl⟩
  have t1 : ((l.length : Int) != (m.length : Int)) = false := by simp; omega
  have HLn := Lib.hid hlen
  clear hlen
  go_enter Tryz.func35, Tryz.ntmps35
  go_wp2
  go_loopw [5] (fun i wr => ∃ k q : Nat, k ≤ l.length ∧ i = .int .i64 k ∧ wr = w.drewN q ∧ Hid (l.take k = m.take k)) (fun i _ => l.length - (intOf i).toNat)
  case atStart => exact ⟨0, 0, Nat.zero_le _, rfl, rfl, Lib.hid rfl⟩
  case round =>
    obtain ⟨k, q, hk, rfl, rfl, HT⟩ := hrel
    by_cases hkl : k < l.length
    · have hkm : k < m.length := by have := HLn.out; omega
      obtain ⟨b1, o1, rfl, g1⟩ := Hl.out.at_ hkl
      obtain ⟨b2, o2, rfl, g2⟩ := Hm.out.at_ hkm
      have g1 : (w.drewN q).cell? ⟨b1, o1 + k, none⟩ = some (.int .i64 l[k]) := g1
      have g2 : (w.drewN q).cell? ⟨b2, o2 + k, none⟩ = some (.int .i64 m[k]) := g2
      have e1 := List.take_succ_eq_append_getElem hkl
      have e2 := List.take_succ_eq_append_getElem hkm
      have t2 : decide ((k : Int) < (l.length : Int)) = true := decide_eq_true (by omega)
      have k0 : (0 : Int) ≤ (k : Int) := by omega
      have k1 : (k : Int) < (l.length : Int) := by omega
      have k2 : (k : Int) < (m.length : Int) := by omega
      by_cases he : l[k] = m[k]
      · have HT2 : Hid (l.take (k + 1) = m.take (k + 1)) := Lib.hid (by rw [e1, e2, HT.out, he])
        have t3 : (l[k] != m[k]) = false := by simp [he]
        clear e1 e2 he
        generalize l[k] = x at *
        generalize m[k] = y at *
        go_upto_region 6 with fail
        go_quiet (fail)
        go_wp2
        go_roundw
        case rel => exact ⟨k + 1, _, by omega, by go_num, rfl, HT2⟩
        case measure => simp [intOf]; omega
      · have HV : Hid (decide (l = m) = false) := Lib.hid (decide_eq_false fun e => he (by simp [e]))
        have t3 : (l[k] != m[k]) = true := by simp [he]
        clear e1 e2 he
        generalize l[k] = x at *
        generalize m[k] = y at *
        go_upto_region 6 with fail
        go_quiet (fail)
        go_wp2
        go_ret
        exact Ret.mk ⟨by rw [HV.out]; rfl, _, (by first | rfl | exact World.drewN_drewN _ _ _)⟩
    · have HV : Hid (decide (l = m) = true) := Lib.hid (decide_eq_true (by
        have h := HT.out
        rw [List.take_of_length_le (by omega), List.take_of_length_le (by have := HLn.out; omega)] at h
        exact h))
      have t2 : decide ((k : Int) < (l.length : Int)) = false := decide_eq_false (by omega)
      go_wp2
      go_ret
      exact Ret.mk ⟨by rw [HV.out]; rfl, q, rfl⟩
/-- the protocol of the examples -/
def journeyL : List UInt8 := [100, 97, 121, 32, 51, 10, 98, 111, 120, 32, 55, 10, 115, 105, 110, 103, 32, 49, 49, 32, 53, 32, 57, 48, 10, 99, 111, 112, 121, 32, 49, 50, 32, 49, 49, 10, 100, 97, 121, 32, 50, 10, 99, 114, 97, 99, 107, 32, 49, 49, 10, 99, 111, 112, 121, 32, 49, 51, 32, 49, 49, 10, 115, 116, 114, 105, 107, 101, 32, 52, 10, 115, 116, 114, 105, 107, 101, 32, 51, 10]
set_option maxRecDepth 100000 in
set_option maxHeartbeats 2000000 in
theorem Journey_any (w : World) : Calls Tryz.prog 47 #[] w (Ret fun v w' => v = .string (bs journeyL) ∧ w' = w) := by
  go_enter Tryz.func47, Tryz.ntmps47
  go_wp2
  go_ret
  exact Ret.mk ⟨by kernel_rfl, rfl⟩
set_option maxRecDepth 100000 in
set_option maxHeartbeats 2000000 in
theorem Card_any (k a b c : Int) (w : World) : Calls Tryz.prog 46 #[.int .i64 k, .int .i64 a, .int .i64 b, .int .i64 c] w (Ret fun v w' => v = vCard (k, a, b, c) ∧ Below w.heap.size w w') := by
  have hX := heap_alloc_new w (.cells #[.int .i64 0, .int .i64 0, .int .i64 0, .int .i64 0] 36)
  have HB := Lib.hid (below_alloc' (Below.refl w.heap.size w) (.cells #[.int .i64 0, .int .i64 0, .int .i64 0, .int .i64 0] 36))
  go_enter Tryz.func46, Tryz.ntmps46
  go_upto_region 1 with fail
  generalize w.alloc (.cells #[.int .i64 0, .int .i64 0, .int .i64 0, .int .i64 0] 36) = w1 at *
  obtain ⟨p0, p1, p2, p3, q0, q1, q2, q3⟩ := four_cells hX
  go_wp2
  (try simp only [Exit.inBlock, Exit.then])
  refine bodyPost_ret (results_cell_row rfl _ _ w.heap.size _ _ _ _ rfl (four_put hX _ _ _ _) Tryz.underlying36 rfl rfl) rfl ?_
  exact Ret.mk ⟨rfl, four_below HB.out (Nat.le_refl _) _ _ _ _⟩
set_option maxRecDepth 100000 in
theorem fine_any (s : ByteArray) (w : World) : Calls Tryz.prog 41 #[.string s] w (Ret fun v w' => v = .bool (decide (s.size ≤ 5000 ∧ textErr s.data.toList = 0)) ∧ Below w.heap.size w w') := by
  obtain ⟨bv, hbv⟩ : ∃ bv, decide (s.size ≤ 5000 ∧ textErr s.data.toList = 0) = bv := ⟨_, rfl⟩
  rw [hbv]
  by_cases h1 : 5000 < s.size
  · have HV : Hid (bv = false) := Lib.hid (hbv.symm.trans (decide_eq_false fun h => by omega))
    clear hbv
    have t1 : decide ((s.size : Int) > 5000) = true := decide_eq_true (by omega)
    have t2 : decide ((5000 : Int) < (s.size : Int)) = true := decide_eq_true (by omega)
    clear h1
    go_enter Tryz.func41, Tryz.ntmps41
    go_wp2
    go_ret
    exact Ret.mk ⟨by rw [HV.out]; rfl, Below.refl _ _⟩
  · have t1 : decide ((s.size : Int) > 5000) = false := decide_eq_false (by omega)
    have t2 : decide ((5000 : Int) < (s.size : Int)) = false := decide_eq_false (by omega)
    have HR := Lib.hid (rLines_any s w (by omega))
    have HV : Hid (bv = (textErr s.data.toList == 0)) := Lib.hid (by
      rw [← hbv]
      by_cases e : textErr s.data.toList = 0
      · rw [decide_eq_true ⟨by omega, e⟩, e]; rfl
      · rw [decide_eq_false fun h => e h.2]; symm; simpa using e)
    clear h1
    clear hbv
    unfold LinesQ at HR
    generalize textErr s.data.toList = er at *
    go_enter Tryz.func41, Tryz.ntmps41
    go_wp2_with fail
    refine HR.out.mono ?_
    rintro _ w1 ⟨v, rfl, ⟨h2, rfl⟩ | ⟨h2, A, ca, rfl, h3, h4⟩, hB⟩
    · have HB := Lib.hid hB
      have t3 : (er == 0) = false := by simpa using h2
      clear hB h2
      go_wp2
      go_ret
      exact Ret.mk ⟨by rw [HV.out, t3]; rfl, HB.out⟩
    · have HB := Lib.hid hB
      clear hB h3 h4
      subst h2
      go_wp2
      go_ret
      exact Ret.mk ⟨by rw [HV.out]; rfl, HB.out⟩
end Go.Proofs.YtkpmmgeffbhngaaGreatDoor
namespace Go.Proofs.YtkpmmgeffbhngaaGreatDoor
open Go.RowKit Go.Shelf Prot Go.Lib Go.Maps
theorem takeD {P : Program} {md : Region.Mode} {ops : Array Oper} {Q : Exit → Act → World → Prop} {S : World → Prop} {i d : Nat} {oi : Oper} {v : Value} {fuel : Nat} {listed : Array Bool} {a : Act} {w : World} (hi : ops[i]? = some oi) (hd : oi.dst = some d)
    (hs : Region.noSelect ops = true) (hf : Region.free md ops listed i = true) (hr : (Region.ready md ops listed).contains i = true)
    (hQ : ∀ c a w, Q (.panic c) (a.put oi.dst v) w → Q (.panic c) a w) (hy : YieldsIf P ops S oi v a) (hS : S w)
    (h : wpAnyH P md ops Q S fuel (listed.setIfInBounds i true) ⟨a.tmps.setIfInBounds d v, a.defers⟩ w) : wpAnyH P md ops Q S (fuel + 1) listed a w :=
  wpAnyH_take hi hs hf hr hQ hy hS (by rw [hd]; exact h)
theorem mapM_ex {α β : Type} {f : α → Option β} : ∀ (l : List α), (∀ x ∈ l, ∃ y, f x = some y) → ∃ ys, l.mapM f = some ys
  | [], _ => ⟨[], by simp⟩
  | x :: l, h => by
    obtain ⟨y, hy⟩ := h x (by simp)
    obtain ⟨ys, hys⟩ := mapM_ex l (fun z hz => h z (by simp [hz]))
    exact ⟨y :: ys, by rw [List.mapM_cons, hy, hys]; rfl⟩
theorem Tryz.cells3 : Tryz.prog.cellsOf 3 = 1 := by kernel_rfl
theorem Tryz.cells120 : Tryz.prog.cellsOf 120 = 1000 := by kernel_rfl
theorem shelf_lits {S : Array Value} (hS : S.size = 1000) (hi : ∀ (i : Nat) (h : i < S.size), ∃ n : Int, S[i] = .int .i64 n ∧ 0 ≤ n ∧ n ≤ 100000) : ∃ la, Tryz.prog.keyLits 2 120 S.toList = some la := by
  have h1 : ∃ ys, (List.range 1000).mapM (fun i => Tryz.prog.keyLits 1 3 ((S.toList.drop (i * Tryz.prog.cellsOf 3)).take (Tryz.prog.cellsOf 3))) = some ys := mapM_ex _ fun i hm => by
    have him : i < S.size := by rw [hS]; exact List.mem_range.1 hm
    obtain ⟨n, e, n0, n1⟩ := hi i him
    have hd : (S.toList.drop (i * Tryz.prog.cellsOf 3)).take (Tryz.prog.cellsOf 3) = [.int .i64 n] := by
      rw [Tryz.cells3, Nat.mul_one, List.drop_eq_getElem_cons (by simpa using him), List.take_succ_cons, List.take_zero]
      simpa using e
    rw [hd]
    refine ⟨[.int .i64 n], ?_⟩
    unfold Program.keyLits
    rw [Tryz.underlying3]
    dsimp only
    have hw : (Lit.int .i64 n).wf = true := by
      have e1 : IntKind.min .i64 = -9223372036854775808 := by decide
      have e2 : IntKind.max .i64 = 9223372036854775807 := by decide
      show (decide (IntKind.min .i64 ≤ n) && decide (n ≤ IntKind.max .i64)) = true
      rw [e1, e2, decide_eq_true (by omega), decide_eq_true (by omega)]; rfl
    rw [if_pos ⟨rfl, hw⟩]
  obtain ⟨ys, hys⟩ := h1
  refine ⟨ys.flatten, ?_⟩
  unfold Program.keyLits
  rw [Tryz.underlying120]
  dsimp only
  rw [if_pos (by rw [Tryz.cells120]; simpa using hS), hys]
  rfl
theorem shelf_same (l : List It) (hl : l.length ≤ 100000) (w : World) : (binOp .neq 120 (.agg (shelfC l)) (.agg (shelfC l))).run Tryz.prog w = .ok (.bool false) w := by
  obtain ⟨la, hla⟩ := shelf_lits (S := shelfC l) (shelfC_size l) fun i h => by
    have h' : i < 1000 := by rw [shelfC_size] at h; exact h
    have := shelfC_at l h'
    rw [Array.getElem?_eq_getElem h] at this
    have hr := room_le l (i : Int)
    exact ⟨_, Option.some.inj this, by omega, by omega⟩
  have hf : (Value.agg (shelfC l)).formed Tryz.prog 120 = true := by
    unfold Value.formed
    rw [Tryz.underlying120]
    dsimp only
    rw [shelfC_size, Tryz.cells120]; rfl
  obtain ⟨r, hr, hiff⟩ := run_equalIn_deep 9998 2 120 (by kernel_rfl) w 2 2 (.agg (shelfC l)) (.agg (shelfC l)) la la hf hf hla hla
  rw [run_neq_struct]
  have e : (9998 + 2 : Nat) = 10000 := rfl
  rw [e] at hr
  rw [hr, hiff.2 rfl]
  rfl
end Go.Proofs.YtkpmmgeffbhngaaGreatDoor
