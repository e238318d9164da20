/- What the laws of the chapter rest on, part 10. -/
import Derived.Test.YtkpmmgeffbhngaaGreatDoorC08
import Derived.Test.YtkpmmgeffbhngaaGreatDoorC09
set_option linter.unusedSimpArgs false
set_option linter.unusedVariables false
set_option linter.unnecessarySimpa false
namespace Prot
end Prot
namespace Go.Shelf
end Go.Shelf
namespace Go.Maps
end Go.Maps
namespace Go.Proofs.YtkpmmgeffbhngaaGreatDoor
open Go.RowKit Prot Go.Lib Go.Maps
theorem elemEr : ElemT 23 1 8 (.int .i64 0) := ⟨by kernel_rfl, rfl, by omega, by omega⟩
/-- how the definition's lists stand to a state: all cards, and the indexes of those that count -/
structure AllR (s : St) (ds : List Card) (ks : List Int) : Prop where
  are : ks = countsOf s.cards
  same : ∀ k ∈ ks, ds.getD k.toNat zeroC = s.cards.getD k.toNat zeroC
  len : ds.length = s.cards.length
theorem AllR.start : AllR St.start [] [] := ⟨rfl, (fun k h => by cases h), rfl⟩
theorem AllR.take {s : St} {ds : List Card} {ks : List Int} (h : AllR s ds ks) (es : List Int) {c : Card} (hc : c ≠ zeroC) (j : Jn) : AllR ⟨es, s.cards ++ [c], j⟩ (ds ++ [c]) (ks ++ [(ds.length : Int)]) := by
  refine ⟨?_, fun k hk => ?_, by simp [h.len]⟩
  · dsimp only; rw [countsOf_snoc, if_neg hc, h.are, h.len]
  · dsimp only
    rcases List.mem_append.1 hk with hk | hk
    · have hlt := (mem_countsOf.1 (h.are ▸ hk)).2.1
      rw [getD_snoc_lt hlt, getD_snoc_lt (by rw [h.len]; exact hlt)]
      exact h.same k hk
    · rw [List.mem_singleton] at hk
      subst hk
      rw [Int.toNat_natCast, getD_snoc_eq, h.len, getD_snoc_eq]
theorem AllR.strike {s : St} {ds : List Card} {ks : List Int} (h : AllR s ds ks) (es : List Int) (c : Card) (j : Jn) (a : Nat) : AllR ⟨es, butC s.cards a ++ [zeroC], j⟩ (ds ++ [c]) (ks.filter fun k => decide (k ≠ (a : Int))) := by
  refine ⟨?_, fun k hk => ?_, by simp [h.len, butC_len]⟩
  · dsimp only; rw [countsOf_snoc, if_pos rfl, List.append_nil, countsOf_but, ← h.are]
  · obtain ⟨h1, h2⟩ := List.mem_filter.1 hk
    have h3 := mem_countsOf.1 (h.are ▸ h1)
    have hne : ¬ k.toNat = a := fun e => by
      have : k ≠ (a : Int) := by simpa using h2
      omega
    dsimp only
    rw [getD_snoc_lt (by rw [h.len]; exact h3.2.1), getD_snoc_lt (by rw [butC_len]; exact h3.2.1), butC_at h3.2.1, if_neg hne]
    exact h.same k h1
theorem rows_grown {α : Type} {enc : α → List Value} {k : Nat} {w w' : World} {A : Option Addr} {l : List α} {row : Option Nat} (h : RowsAt enc k w A l) (hg : w.grownBy w' row) (hne : ∀ g o, A = some ⟨g, o, none⟩ → l ≠ [] → some g ≠ row) : RowsAt enc k w' A l := fun i hi => by
  obtain ⟨b, off, hA, hc⟩ := h i hi
  exact ⟨b, off, hA, fun j v hv => hg.cell (hc j v hv) (hne b off hA (by intro e; subst e; simp at hi))⟩
/-- where all lies in a round: errors, cards, indexes, the state (in block jb), the result's block, the lines -/
structure AllW (B : Nat) (w W : World) (A : Option Addr) (ls : List (List UInt8)) (jb : Nat) (E C K : Value) (es : List Int) (ds : List Card) (ks : List Int) (j : Jn) (G : Option Addr) (gc : Nat) : Prop where
  errs : W.ownsRow B 23 1 E es.length (es.flatMap encI)
  cards : W.ownsRow B 36 4 C ds.length (ds.flatMap encCd)
  counts : W.ownsRow B 3 1 K ks.length (ks.flatMap encI)
  items : OwnIt W w.heap.size G gc j.items
  jn : W.heap[jb]? = some (.cells #[.int .i64 j.day, .int .i64 j.opn, .slice G j.items.length gc] 108 (0, 0))
  res : W.heap[w.heap.size]? = some (.cells #[.int .i64 0, .int .i64 0, .slice none 0 0] 108 (0, 0))
  lines : StrsAt W A ls
  old : ∀ g o, A = some ⟨g, o, none⟩ → ls ≠ [] → g < B
  below : Below w.heap.size w W
  lo : w.heap.size < jb
  mid : jb < B
section
variable {B : Nat} {w W V : World} {A : Option Addr} {ls : List (List UInt8)} {jb : Nat} {E C K : Value} {es : List Int} {ds : List Card} {ks : List Int} {j : Jn} {G : Option Addr} {gc : Nat}
theorem AllW.go (h : AllW B w W A ls jb E C K es ds ks j G gc) (hb : Below W.heap.size W V) : AllW B w V A ls jb E C K es ds ks j G gc :=
  ⟨own_below' h.errs hb, own_below' h.cards hb, own_below' h.counts hb, h.items.below hb, blk_below hb h.jn, blk_below hb h.res, h.lines.below hb, h.old, below_trans' h.below hb, h.lo, h.mid⟩
theorem AllW.size (h : AllW B w W A ls jb E C K es ds ks j G gc) : jb < W.heap.size := blk_lt h.jn
theorem AllW.pushE (h : AllW B w W A ls jb E C K es ds ks j G gc) (o : Obj) (hg : (W.alloc o).grownBy V E.ownBlock) {E' : Value} {es' : List Int} (hO : V.ownsRow B 23 1 E' es'.length (es'.flatMap encI)) : AllW B w V A ls jb E' C K es' ds ks j G gc :=
  ⟨hO, (h.cards.alloc o).kept hg (own_apart h.cards h.errs (by decide)), (h.counts.alloc o).kept hg (own_apart h.counts h.errs (by decide)), (World.ownsRow.alloc h.items o).kept hg (own_apart h.items h.errs (by decide)),
    blk_grown hg (blk_alloc h.jn o) (own_ne_blk h.errs h.jn (by decide)), blk_grown hg (blk_alloc h.res o) (own_ne_blk h.errs h.res (by decide)),
    rows_grown (h.lines.alloc o) hg (fun g a e hne k => by have := own_base h.errs g k.symm; have := h.old g a e hne; omega), h.old, (below_alloc' h.below o).grown hg (by have := h.below.size; simp; omega) (fun r e => by have := own_base h.errs r e; have := h.lo; have := h.mid; omega), h.lo, h.mid⟩
theorem AllW.pushC (h : AllW B w W A ls jb E C K es ds ks j G gc) (o : Obj) (hg : (W.alloc o).grownBy V C.ownBlock) {C' : Value} {ds' : List Card} (hO : V.ownsRow B 36 4 C' ds'.length (ds'.flatMap encCd)) : AllW B w V A ls jb E C' K es ds' ks j G gc :=
  ⟨(h.errs.alloc o).kept hg (own_apart h.errs h.cards (by decide)), hO, (h.counts.alloc o).kept hg (own_apart h.counts h.cards (by decide)), (World.ownsRow.alloc h.items o).kept hg (own_apart h.items h.cards (by decide)),
    blk_grown hg (blk_alloc h.jn o) (own_ne_blk h.cards h.jn (by decide)), blk_grown hg (blk_alloc h.res o) (own_ne_blk h.cards h.res (by decide)),
    rows_grown (h.lines.alloc o) hg (fun g a e hne k => by have := own_base h.cards g k.symm; have := h.old g a e hne; omega), h.old, (below_alloc' h.below o).grown hg (by have := h.below.size; simp; omega) (fun r e => by have := own_base h.cards r e; have := h.lo; have := h.mid; omega), h.lo, h.mid⟩
end
end Go.Proofs.YtkpmmgeffbhngaaGreatDoor
namespace Go.Proofs.YtkpmmgeffbhngaaGreatDoor
open Go.RowKit Prot Go.Lib Go.Maps
/-- the number before element r of a rising list -/
def lastN (T : List It) (r : Nat) : Int := if r = 0 then 0 else ((T[r - 1]?).map It.num).getD 0
theorem lastN_next {T : List It} {r : Nat} (h : r < T.length) : lastN T (r + 1) = T[r].num := by
  unfold lastN
  rw [if_neg (by omega), Nat.add_sub_cancel, List.getElem?_eq_getElem h]; rfl
theorem rise_lt {T : List It} (h : Rise T) {i j : Nat} (hij : i < j) (hj : j < T.length) : T[i].num < T[j].num := List.pairwise_iff_getElem.1 h i j (by omega) hj hij
/-- the least number behind the last one is that of the next element -/
theorem least_is {l : List It} (hn : (l.map It.num).Nodup) (h1 : ∀ x ∈ l, 1 ≤ x.num) {r b : Nat} (hr : r < (toldL l).length) (hb : b < l.length) (hgt : lastN (toldL l) r < l[b].num) (hmin : ∀ x ∈ l, lastN (toldL l) r < x.num → l[b].num ≤ x.num) : l[b] = (toldL l)[r] := by
  have hT := told_rise hn
  have hp := told_perm l
  generalize toldL l = T at *
  have h2 : lastN T r < T[r].num := by
    unfold lastN
    by_cases h0 : r = 0
    · rw [if_pos h0]
      have := h1 T[r] (hp.subset (List.getElem_mem hr))
      omega
    · rw [if_neg h0, List.getElem?_eq_getElem (by omega)]
      exact rise_lt hT (by omega) hr
  have h3 := hmin T[r] (hp.subset (List.getElem_mem hr)) h2
  obtain ⟨i, hi, hie⟩ := List.getElem_of_mem (hp.symm.subset (List.getElem_mem hb))
  have hir : r ≤ i := by
    refine Classical.byContradiction fun hc => ?_
    have h4 : T[i].num ≤ lastN T r := by
      unfold lastN
      rw [if_neg (by omega), List.getElem?_eq_getElem (by omega)]
      show T[i].num ≤ T[r - 1].num
      by_cases e : i = r - 1
      · subst e; exact Int.le_refl _
      · have := rise_lt hT (i := i) (j := r - 1) (by omega) (by omega)
        omega
    rw [hie] at h4
    omega
  by_cases e : i = r
  · subst e; exact hie.symm
  · have := rise_lt hT (i := r) (j := i) (by omega) hi
    rw [hie] at this
    omega
/-- a list of cylinders that a call answers -/
def ItemsQ (l : List It) (w : World) (v : Value) (w' : World) : Prop := ∃ A ca, v = .slice A l.length ca ∧ l.length ≤ ca ∧ ItemsAt w' A l ∧ Below w.heap.size w w'
/-- what the best one so far is -/
def BestS (l : List It) (last : Int) (i : Nat) (v : Value) : Prop := (v = .int .i64 (-1) ∧ ∀ x ∈ l.take i, ¬ last < x.num) ∨ ∃ (b : Nat) (h : b < l.length), v = .int .i64 b ∧ last < l[b].num ∧ ∀ x ∈ l.take i, last < x.num → l[b].num ≤ x.num
theorem BestS.keep {l : List It} {last : Int} {i : Nat} {v : Value} (h : BestS l last i v) (hi : i < l.length) (hk : ¬ last < l[i].num) : BestS l last (i + 1) v := by
  rcases h with ⟨h1, h2⟩ | ⟨b, hb, h1, h2, h3⟩
  · refine .inl ⟨h1, fun x hx => ?_⟩
    rw [List.take_succ_eq_append_getElem hi] at hx
    rcases List.mem_append.1 hx with hx | hx
    · exact h2 x hx
    · rw [List.mem_singleton] at hx; subst hx; exact hk
  · refine .inr ⟨b, hb, h1, h2, fun x hx => ?_⟩
    rw [List.take_succ_eq_append_getElem hi] at hx
    rcases List.mem_append.1 hx with hx | hx
    · exact h3 x hx
    · rw [List.mem_singleton] at hx; subst hx; exact fun k => absurd k hk
theorem BestS.worse {l : List It} {last : Int} {i b : Nat} (hb : b < l.length) (h2 : last < l[b].num) (h3 : ∀ x ∈ l.take i, last < x.num → l[b].num ≤ x.num) (hi : i < l.length) (hk : ¬ l[i].num < l[b].num) : BestS l last (i + 1) (.int .i64 b) := by
  refine .inr ⟨b, hb, rfl, h2, fun x hx => ?_⟩
  rw [List.take_succ_eq_append_getElem hi] at hx
  rcases List.mem_append.1 hx with hx | hx
  · exact h3 x hx
  · rw [List.mem_singleton] at hx; subst hx; intro _; omega
theorem BestS.take {l : List It} {last : Int} {i : Nat} {v : Value} (h : BestS l last i v) (hi : i < l.length) (hk : last < l[i].num) (hv : v = .int .i64 (-1) ∨ ∃ (b : Nat) (hb : b < l.length), v = .int .i64 b ∧ l[i].num < l[b].num) : BestS l last (i + 1) (.int .i64 i) := by
  refine .inr ⟨i, hi, rfl, hk, fun x hx => ?_⟩
  rw [List.take_succ_eq_append_getElem hi] at hx
  rcases List.mem_append.1 hx with hx | hx
  · rcases h with ⟨h1, h2⟩ | ⟨b, hb, h1, h2, h3⟩
    · exact fun k => absurd k (h2 x hx)
    · intro k
      have h4 := h3 x hx k
      rcases hv with hv | ⟨b', hb', hv, h5⟩
      · rw [h1] at hv; injection hv with _ hv; omega
      · rw [h1] at hv
        injection hv with _ hv
        have : b = b' := by omega
        subst this
        omega
  · rw [List.mem_singleton] at hx; subst hx; intro _; exact Int.le_refl _
set_option maxRecDepth 100000 in
set_option maxHeartbeats 1000000 in
theorem rsorted_any (A : Option Addr) (ca : Nat) (l : List It) (w : World) (hl : ItemsAt w A l) (hn : l.length ≤ 50000) (once : (l.map It.num).Nodup) (hpos : ∀ x ∈ l, 1 ≤ x.num) :
    Calls Tryz.prog 74 #[.slice A l.length ca] w (Ret (ItemsQ (toldL l) w)) := by
  have Hl := Lib.hid hl
  have Hold := Lib.hid (rows_old encIt_len (by omega) hl)
  have hTl : (toldL l).length = l.length := (told_perm l).length_eq
  have HLs : Hid (∀ (r b : Nat) (hr : r < l.length) (hb : b < l.length), lastN (toldL l) r < l[b].num → (∀ x ∈ l, lastN (toldL l) r < x.num → l[b].num ≤ x.num) → (toldL l).take (r + 1) = (toldL l).take r ++ [l[b]] ∧ lastN (toldL l) (r + 1) = l[b].num) := Lib.hid fun r b hr hb h1 h2 => by
    have hr' : r < (toldL l).length := by omega
    have := least_is once hpos hr' hb h1 h2
    exact ⟨by rw [List.take_succ_eq_append_getElem hr', this], by rw [lastN_next hr', this]⟩
  have HEx : Hid (∀ r, r < l.length → ∃ x ∈ l, lastN (toldL l) r < x.num) := Lib.hid fun r hr => by
    have hT := told_rise once
    have hp := told_perm l
    have hr' : r < (toldL l).length := by omega
    refine ⟨(toldL l)[r], hp.subset (List.getElem_mem hr'), ?_⟩
    generalize toldL l = T at *
    unfold lastN
    by_cases h0 : r = 0
    · rw [if_pos h0]
      have := hpos T[r] (hp.subset (List.getElem_mem hr'))
      omega
    · rw [if_neg h0, List.getElem?_eq_getElem (by omega)]
      exact rise_lt hT (by omega) hr'
  have HT := Lib.hid hTl
  clear hl hTl once hpos
  generalize toldL l = T at *
  go_enter Tryz.func74, Tryz.ntmps74
  go_wp2
  go_loopw [3, 4] (fun u x wr => ∃ (r : Nat) (o : List It), r ≤ l.length ∧ x = .int .i64 (lastN T r) ∧ o.length = r ∧ Hid (T.take r = o) ∧ Hid (wr.ownsRow w.heap.size 67 7 u o.length (o.flatMap encIt)) ∧ Hid (Below w.heap.size w wr)) (fun u _ _ => l.length - (match u with | .slice _ n _ => n | _ => 0))
  case atStart => exact ⟨0, [], by omega, rfl, rfl, Lib.hid rfl, Lib.hid (World.ownsRow_nil _ _ _ _), Lib.hid (Below.refl _ _)⟩
  case round =>
    obtain ⟨r, o, hr, rfl, ho, HP, HO, HB⟩ := hrel
    obtain ⟨G, gc, rfl, hgc⟩ := own_form HO.out
    have Ho := Lib.hid ho
    rw [ho]
    clear ho
    by_cases hrl : r < l.length
    · have HI := Lib.hid (ItemsAt.below Hl.out HB.out)
      have hk0 : decide ((r : Int) < (l.length : Int)) = true := decide_eq_true (by omega)
      obtain ⟨wo, hwo⟩ : ∃ x, x = wr := ⟨_, rfl⟩
      subst hwo
      go_wp2
      go_loopw [5, 6] (fun v i wr => ∃ (m q : Nat), m ≤ l.length ∧ i = .int .i64 m ∧ wr = wo.drewN q ∧ Hid (BestS l (lastN T r) m v)) (fun _ i _ => l.length - (intOf i).toNat)
      case atStart => exact ⟨0, 0, by omega, rfl, rfl, Lib.hid (.inl ⟨rfl, fun x hx => by simp at hx⟩)⟩
      case round =>
        obtain ⟨m, q, hm, rfl, rfl, HBs⟩ := hrel
        by_cases hml : m < l.length
        · obtain ⟨b, off, rfl, g1, -⟩ := HI.out.at_ hml
          have g1 : (wo.drewN q).cell? ⟨b, off + m * 7, none⟩ = some (.int .i64 l[m].num) := g1
          have m0 : (0 : Int) ≤ (m : Int) := by omega
          have m1 : (m : Int) < (l.length : Int) := by omega
          by_cases hgt : lastN T r < l[m].num
          · rcases id HBs.out with ⟨rfl, -⟩ | ⟨bb, hbb, rfl, hb2, hb3⟩
            · have HB2 := Lib.hid (HBs.out.take hml hgt (.inl rfl))
              generalize l[m].num = y at *
              generalize lastN T r = x at *
              have t1 : decide (y > x) = true := decide_eq_true hgt
              have t2 : decide (x < y) = true := decide_eq_true hgt
              clear hgt HBs
              go_upto_region 8 with fail
              go_quiet (fail)
              go_wp2
              go_roundw
              case rel => exact ⟨m + 1, _, by omega, by go_num, rfl, HB2⟩
              case measure => simp [intOf]; omega
            · obtain ⟨b', off', hA, g2, -⟩ := HI.out.at_ hbb
              injection hA with hA
              injection hA with hA1 hA2
              subst hA1; subst hA2
              have g2 : (wo.drewN q).cell? ⟨b, off + bb * 7, none⟩ = some (.int .i64 l[bb].num) := g2
              have n0 : (0 : Int) ≤ (bb : Int) := by omega
              have n1 : (bb : Int) < (l.length : Int) := by omega
              have t0 : decide ((bb : Int) < 0) = false := decide_eq_false (by omega)
              by_cases hlt : l[m].num < l[bb].num
              · have HB2 := Lib.hid (HBs.out.take hml hgt (.inr ⟨bb, hbb, rfl, hlt⟩))
                generalize l[m].num = y at *
                generalize l[bb].num = z at *
                generalize lastN T r = x at *
                have t1 : decide (y > x) = true := decide_eq_true hgt
                have t2 : decide (x < y) = true := decide_eq_true hgt
                have t3 : decide (y < z) = true := decide_eq_true hlt
                clear hgt HBs hlt hb2 hb3
                go_upto_region 8 with fail
                go_quiet (fail)
                go_wp2
                go_roundw
                case rel => exact ⟨m + 1, _, by omega, by go_num, rfl, HB2⟩
                case measure => simp [intOf]; omega
              · have HB2 := Lib.hid (BestS.worse hbb hb2 hb3 hml hlt)
                generalize l[m].num = y at *
                generalize l[bb].num = z at *
                generalize lastN T r = x at *
                have t1 : decide (y > x) = true := decide_eq_true hgt
                have t2 : decide (x < y) = true := decide_eq_true hgt
                have t3 : decide (y < z) = false := decide_eq_false hlt
                clear hgt HBs hlt hb2 hb3
                go_upto_region 8 with fail
                go_quiet (fail)
                go_wp2
                go_roundw
                case rel => exact ⟨m + 1, _, by omega, by go_num, rfl, HB2⟩
                case measure => simp [intOf]; omega
          · have HB2 := Lib.hid (HBs.out.keep hml hgt)
            generalize l[m].num = y at *
            generalize lastN T r = x at *
            have t1 : decide (y > x) = false := decide_eq_false hgt
            have t2 : decide (x < y) = false := decide_eq_false hgt
            clear hgt HBs
            go_upto_region 8 with fail
            go_quiet (fail)
            go_wp2
            go_roundw
            case rel => exact ⟨m + 1, _, by omega, by go_num, rfl, HB2⟩
            case measure => simp [intOf]; omega
        · obtain rfl : m = l.length := by omega
          have hbs := HBs.out
          rw [BestS, List.take_length] at hbs
          rcases hbs with ⟨-, hno⟩ | ⟨bb, hbb, rfl, hb2, hb3⟩
          · obtain ⟨x, hx, hx2⟩ := HEx.out r hrl
            exact absurd hx2 (hno x hx)
          · obtain ⟨hs1, hs2⟩ := HLs.out r bb hrl hbb hb2 hb3
            have HI2 := Lib.hid (ItemsAt.drewN HI.out q)
            have HO2 := Lib.hid (own_drewN HO.out q)
            have HB2 := Lib.hid (below_drewN HB.out q)
            rw [HP.out] at hs1
            have HS1 := Lib.hid hs1
            have HS2 := Lib.hid hs2
            clear hs1 hs2 hb2 hb3 HBs HI HO HB HP
            generalize wo.drewN q = w1 at HI2 HO2 HB2 ⊢
            obtain ⟨b, off, rfl, g0, g1, g2, g3, g4, g5, g6⟩ := HI2.out.at_ hbb
            obtain ⟨it, hit⟩ : ∃ it, it = l[bb] := ⟨_, rfl⟩
            rw [← hit] at g0 g1 g2 g3 g4 g5 g6 HS1 HS2
            clear hit
            have n0 : (0 : Int) ≤ (bb : Int) := by omega
            have n1 : (bb : Int) < (l.length : Int) := by omega
            have hoB := Hold.out b off rfl (by intro e; subst e; simp at hbb)
            have hbk := heap_alloc_new w1 (.cells #[.int .i64 it.num, .int .i64 it.box, .int .i64 it.day, .int .i64 it.voice, .int .i64 it.turns, .int .i64 it.src, .bool it.cracked] 67)
            have HOA := Lib.hid (HO2.out.alloc (.cells #[.int .i64 it.num, .int .i64 it.box, .int .i64 it.day, .int .i64 it.voice, .int .i64 it.turns, .int .i64 it.src, .bool it.cracked] 67))
            have hr6 := own_base HO2.out
            have hsw := HB2.out.size
            have hol := Ho.out
            have HVo : Hid ((Value.slice G r gc) = .slice G o.length gc) := Lib.hid (by rw [Ho.out])
            go_upto_region 11 with (at_builtin; go_must (refine wpList_push _ rfl (.tmp 43) (.tmp 48) 44 rfl elemIt encIt_len oneIt Tryz.underlying44 w.heap.size (.slice G o.length gc) o (by first | rfl | exact HVo.out) HOA.out (by omega) it w1.heap.size (by rfl) _ rfl _ _ hbk (by rw [World.size_alloc]; omega) ?_); intro g9 cap9 w6 hO6 hg6)
            have HB6 := Lib.hid ((below_alloc' HB2.out (.cells #[.int .i64 it.num, .int .i64 it.box, .int .i64 it.day, .int .i64 it.voice, .int .i64 it.turns, .int .i64 it.src, .bool it.cracked] 67)).grown hg6 (by rw [World.size_alloc]; omega) (fun r e => by have := hr6 r e; omega))
            have HO6 := Lib.hid hO6
            have g0 := hg6.cell (cell_alloc g0 (.cells #[.int .i64 it.num, .int .i64 it.box, .int .i64 it.day, .int .i64 it.voice, .int .i64 it.turns, .int .i64 it.src, .bool it.cracked] 67)) (fun e => by have := hr6 b e.symm; omega)
            have HO7 : Hid (w6.ownsRow w.heap.size 67 7 (.slice (some ⟨g9, 0, none⟩) (r + 1) cap9) (o.length + 1) ((o ++ [it]).flatMap encIt)) := Lib.hid (by have := HO6.out; rw [hol] at this ⊢; exact this)
            clear hO6 hg6 hr6 HO2 HOA hbk HB2 g1 g2 g3 g4 g5 g6 HI2
            go_wp2
            go_roundw
            case rel => exact ⟨r + 1, o ++ [it], by omega, by rw [HS2.out], by rw [len_snoc]; omega, HS1, by rw [len_snoc]; exact HO7, HB6⟩
            case measure => dsimp only; omega
    · obtain rfl : r = l.length := by omega
      rw [← HT.out, List.take_length] at HP
      have hk0 : decide ((l.length : Int) < (l.length : Int)) = false := decide_eq_false (by omega)
      have HI := Lib.hid (RowsAt.of_own encIt_len HO.out)
      clear HO
      go_wp2
      go_ret
      exact Ret.mk (by rw [HP.out]; exact ⟨G, gc, by rw [Ho.out]; rfl, hgc, HI.out, HB.out⟩)
end Go.Proofs.YtkpmmgeffbhngaaGreatDoor
namespace Go.Proofs.YtkpmmgeffbhngaaGreatDoor
open Go.RowKit Prot Go.Lib Go.Maps
theorem runA_err {t : List UInt8} (h : textErr t ≠ 0) : runA t = ([], textErr t) := by unfold runA; rw [if_pos h]
theorem runA_ok {t : List UInt8} (h : textErr t = 0) : runA t = ((runV (rowsL t)).errs, 0) := by unfold runA; rw [if_neg (by rw [h]; simp)]
theorem stateA_err {t : List UInt8} (h : textErr t ≠ 0) : stateA t = ([], textErr t) := by unfold stateA; rw [if_pos h]
theorem stateA_ok {t : List UInt8} (h : textErr t = 0) : stateA t = (toldL (runV (rowsL t)).jn.items, 0) := by unfold stateA; rw [if_neg (by rw [h]; simp)]
theorem fairA_err {t : List UInt8} (h : textErr t ≠ 0) : fairA t = ([], textErr t) := by unfold fairA; rw [if_pos h]
theorem fairA_ok {t : List UInt8} (h : textErr t = 0) : fairA t = (textL (fairL (rowsL t) (runV (rowsL t)).cards), 0) := by unfold fairA; rw [if_neg (by rw [h]; simp)]
/-- cylinders, and an error -/
def ItQ (r : List It × Int) (w : World) (v : Value) (w' : World) : Prop := ∃ A ca, v = .tuple #[.slice A r.1.length ca, .int .i64 r.2] ∧ r.1.length ≤ ca ∧ ItemsAt w' A r.1 ∧ Below w.heap.size w w'
/-- a text, and an error -/
def textT (r : List UInt8 × Int) : Value := .tuple #[.string (bs r.1), .int .i64 r.2]
theorem textL_take (ls : List (List UInt8)) (k : Nat) : (textL (ls.take k)).length ≤ (textL ls).length := by
  have : textL ls = textL (ls.take k) ++ textL (ls.drop k) := by rw [← textL_append, List.take_append_drop]
  rw [this, List.length_append]; omega
end Go.Proofs.YtkpmmgeffbhngaaGreatDoor
namespace Go.Proofs.YtkpmmgeffbhngaaGreatDoor
open Go.RowKit Prot Go.Lib Go.Maps
theorem split_len (l : List UInt8) : (splitSp l).length ≤ l.length + 1 := by
  have hj := congrArg List.length (join_split l)
  have key : ∀ ws : List (List UInt8), ws.length ≤ (joinSp ws).length + 1 := fun ws => by
    induction ws with
    | nil => exact Nat.zero_le _
    | cons y ws ih =>
      by_cases e : ws = []
      · subst e; show 1 ≤ _; omega
      · rw [joinSp_cons e, List.length_append, List.length_cons, List.length_cons]; omega
  have := key (splitSp l)
  omega
theorem split_word_len (l : List UInt8) : ∀ x ∈ splitSp l, x.length ≤ l.length := fun x hx => by
  have hj := congrArg List.length (join_split l)
  have key : ∀ (ws : List (List UInt8)) (x : List UInt8), x ∈ ws → x.length ≤ (joinSp ws).length := fun ws => by
    induction ws with
    | nil => intro x hx; cases hx
    | cons y ws ih =>
      intro x hx
      by_cases e : ws = []
      · subst e; rw [List.mem_singleton] at hx; subst hx; exact Nat.le_refl _
      · rw [joinSp_cons e, List.length_append, List.length_cons]
        rcases List.mem_cons.1 hx with rfl | hx
        · omega
        · have := ih x hx; omega
  have := key _ x hx
  omega
theorem StrsAt.cells {w : World} {A : Option Addr} {l : List (List UInt8)} (h : StrsAt w A l) (h0 : 0 < l.length) : ∃ b off, A = some ⟨b, off, none⟩ ∧ ∀ i (hi : i < l.length), w.cell? ⟨b, off + i, none⟩ = some (.string (bs l[i])) := by
  obtain ⟨b, off, rfl, _⟩ := h.at_ h0
  refine ⟨b, off, rfl, fun i hi => ?_⟩
  obtain ⟨b', off', hA, g⟩ := h.at_ hi
  have hA2 := Option.some.inj hA
  injection hA2 with h1 h2
  subst h1; subst h2
  exact g
def ItErr (w : World) (e : Int) (v : Value) (w' : World) : Prop := ItQ ([], e) w v w'
theorem ItErr.mk {w w' : World} {e : Int} (hB : Below w.heap.size w w') : ItQ ([], e) w (.tuple #[.slice none 0 0, .int .i64 e]) w' := ⟨none, 0, rfl, Nat.le_refl _, ItemsAt.nil, hB⟩
end Go.Proofs.YtkpmmgeffbhngaaGreatDoor
