/- ref: Below. -/
import Derived.Test.YtkjmeeggjmeajaaPB
import Derived.Test.YtkjmeeggjmeajaaD2
namespace Go.Proofs.Ytkjmeeggjmeajaa
open Go.RowKit Go.Shelf

/-- the row of a list of ints, made by the call, at the head of block g -/
def IntRow (w : World) (base g : Nat) (o : List Int) : Prop := w.ownsRow base 3 1 (.slice (some ⟨g, 0, none⟩) o.length o.length) o.length (o.flatMap encI)
theorem IntRow.cell {w : World} {base g : Nat} {o : List Int} (h : IntRow w base g o) {j : Nat} (hj : j < o.length) : w.cell? ⟨g, j, none⟩ = some (.int .i64 (o.getD j 0)) := by
  rw [World.ownsRow.cellAt h j (by omega), ← map_encI]
  simp [List.getD_eq_getElem?_getD, hj]
theorem IntRow.frozen {w : World} {base g : Nat} {o : List Int} (h : IntRow w base g o) (j : Nat) : w.frozen? ⟨g, j, none⟩ = false := World.ownsRow.frozenAt h j
theorem IntRow.set {w : World} {base g : Nat} {o : List Int} (h : IntRow w base g o) (j : Nat) (x : Int) : IntRow (w.setCell ⟨g, j, none⟩ (.int .i64 x)) base g (o.set j x) := by
  have h1 := (World.ownsRow.stored h j (.int .i64 x)).1
  unfold IntRow
  rw [List.length_set, ← map_encI, List.map_set, map_encI]
  exact h1
theorem IntRow.drewN {w : World} {base g : Nat} {o : List Int} (h : IntRow w base g o) (q : Nat) : IntRow (w.drewN q) base g o := h

set_option maxRecDepth 100000 in
set_option maxHeartbeats 1000000 in
theorem below_any (A : Option Addr) (ca : Nat) (l : List Rg) (w : World) (hl : RangesAt w A l) (hn : l.length ≤ 1000) (hg : GoodR l) :
    Calls Try.prog 55 #[.slice A l.length ca] w (Ret fun v w' => (∃ o, v = .slice (some ⟨w.heap.size, 0, none⟩) l.length l.length ∧ BelowIs l o ∧ IntsAt w' (some ⟨w.heap.size, 0, none⟩) o) ∧ Below w.heap.size w w') := by
  have Hl := Lib.hid hl; clear hl
  have Hg := Lib.hid hg; clear hg
  obtain ⟨zs, hzs⟩ : ∃ zs : Array Value, zs = madeCells #[.int .i64 0] l.length := ⟨_, rfl⟩
  have hmk := fun w => run_make_row' (P := Try.prog) 26 3 (.int .i64 0) 8 Try.underlying26 infoI3 rfl .i64 .i64 l.length (by omega) (by omega) w
  rw [← hzs] at hmk
  have Hzs := Lib.hid hzs; clear hzs
  go_enter Try.func55, Try.ntmps55
  go_wp2
  have hrow : IntRow (w.alloc (.cells zs 3)) w.heap.size w.heap.size (List.replicate l.length 0) := by
    have hz : zs.size = l.length := by rw [Hzs.out]; simp [madeCells]
    refine ⟨by simp [flatMap_len encI_len], .inr ⟨w.heap.size, _, zs, rfl, Nat.le_refl _, heap_alloc_new w _, Nat.le_refl _, by simp only [maxLen, List.length_replicate]; omega, by simp [hz], ?_⟩⟩
    rw [← map_encI, Hzs.out, toList_madeCells_one]; simp
  have Hrow := Lib.hid hrow
  have HB0 := Lib.hid (below_alloc' (Below.refl w.heap.size w) (.cells zs 3))
  clear hrow hmk
  go_loopw [4] (fun i wr => ∃ (r : Nat) (o : List Int), r ≤ l.length ∧ i = .int .i64 r ∧ BUp l r 0 o ∧ IntRow wr w.heap.size w.heap.size o ∧ Below w.heap.size w wr) (fun i _ => l.length - (intOf i).toNat)
  case atStart => exact ⟨0, _, by omega, rfl, BUp.start l, Hrow.out, HB0.out⟩
  case round =>
    obtain ⟨r, o, hr, rfl, hb, hro, hB⟩ := hrel
    have Hb := Lib.hid hb
    have Hro := Lib.hid hro
    have HB := Lib.hid hB
    clear hb hro hB Hrow HB0
    by_cases hrn : r < l.length
    · go_wp2
      go_loopw [5] (fun i wr => ∃ (i' : Nat) (o : List Int), i' ≤ l.length ∧ i = .int .i64 i' ∧ BUp l r i' o ∧ IntRow wr w.heap.size w.heap.size o ∧ Below w.heap.size w wr) (fun i _ => l.length - (intOf i).toNat)
      case atStart => exact ⟨0, o, by omega, rfl, Hb.out, Hro.out, HB.out⟩
      case round =>
        clear Hb Hro HB
        obtain ⟨i, o, hi, rfl, hb, hro, hB⟩ := hrel
        have Hb := Lib.hid hb
        have Hro := Lib.hid hro
        have HB := Lib.hid hB
        clear hb hro hB
        by_cases hin : i < l.length
        · have c0 := Hro.out.cell (j := i) (by rw [Hb.out.len]; exact hin)
          have f0 := Hro.out.frozen i
          have hz0 := Hb.out.nonneg hin
          have hz1 := Hb.out.le Hg.out hin
          generalize hx : o.getD i 0 = x at c0 hz0 hz1
          have Hx := Lib.hid hx; clear hx
          have Hin := Lib.hid (Hb.out.into hin)
          rw [Hx.out] at Hin
          go_wp2
          go_loopw [6] (fun v wr => ∃ (k : Nat) (o : List Int), k ≤ l.length ∧ v = .int .i64 k ∧ BIn l r i k o ∧ IntRow wr w.heap.size w.heap.size o ∧ Below w.heap.size w wr) (fun v _ => l.length - (intOf v).toNat)
          case atStart => exact ⟨0, _, by omega, rfl, Hin.out, Hro.out.set _ _, HB.out.setCell (Nat.le_refl _) _⟩
          case round =>
            clear Hb Hro HB Hin c0 f0 Hx hz0 hz1
            obtain ⟨k, o, hk, rfl, hb, hro, hB⟩ := hrel
            have Hb := Lib.hid hb
            have Hro := Lib.hid hro
            have HB := Lib.hid hB
            clear hb hro hB
            by_cases hkn : k < l.length
            · obtain ⟨b1, o1, rfl, g1, g2⟩ := (Hl.out.below HB.out).at_ hkn
              obtain ⟨b2, o2, e2, g3, g4⟩ := (Hl.out.below HB.out).at_ hin
              injection e2 with e2
              injection e2 with e2 e3
              subst e2 e3
              have hlt1 : (l[k]).2 < (l[i]).1 ∨ ¬ (l[k]).2 < (l[i]).1 := by omega
              have c0 := Hro.out.cell (j := i) (by rw [Hb.out.up.len]; exact hin)
              have f0 := Hro.out.frozen i
              have c1 := Hro.out.cell (j := k) (by rw [Hb.out.up.len]; exact hkn)
              have hz0 := Hb.out.up.nonneg hkn
              have hz1 := Hb.out.up.le Hg.out hkn
              rcases hlt1 with hlt | hlt
              · have Hnext := Lib.hid (Hb.out.take Hg.out hkn hin hlt)
                generalize l[k] = lk at g1 g2 hlt
                generalize l[i] = li at g3 g4 hlt
                generalize hx : o.getD i 0 = x at c0
                generalize hy : o.getD k 0 = y at c1 hz0 hz1
                rw [hx, hy] at Hnext
                clear hx hy
                obtain ⟨k1, k2⟩ := lk
                obtain ⟨i1, i2⟩ := li
                dsimp only at g1 g2 g3 g4 hlt
                go_wp2
                go_quiet (fail)
                go_wp2
                go_big_region
                go_wp2
                go_roundw
                case rel => exact ⟨k + 1, _, by omega, by go_num, Hnext.out, ((Hro.out.drewN _).set _ _), ((below_drewN HB.out _).setCell (Nat.le_refl _) _)⟩
                case measure => simp [intOf]; omega
              · have Hnext := Lib.hid (Hb.out.skip hkn hin hlt)
                generalize l[k] = lk at g1 g2 hlt
                generalize l[i] = li at g3 g4 hlt
                clear c0 c1 f0 hz0 hz1
                obtain ⟨k1, k2⟩ := lk
                obtain ⟨i1, i2⟩ := li
                dsimp only at g1 g2 g3 g4 hlt
                go_wp2
                go_quiet (fail)
                go_wp2
                go_roundw
                case rel => exact ⟨k + 1, _, by omega, by go_num, Hnext.out, Hro.out, below_drewN HB.out _⟩
                case measure => simp [intOf]; omega
            · have hkl : k = l.length := by omega
              subst hkl
              go_wp2
              go_roundw
              case rel => exact ⟨i + 1, o, by omega, by go_num, Hb.out.done hin, Hro.out, HB.out⟩
              case measure => simp [intOf]; omega
        · have hil : i = l.length := by omega
          subst hil
          go_wp2
          go_roundw
          case rel => exact ⟨r + 1, o, by omega, by go_num, Hb.out.round, Hro.out, HB.out⟩
          case measure => simp [intOf]; omega
    · have hrl : r = l.length := by omega
      subst hrl
      go_wp2
      go_ret
      refine Ret.mk' rfl ⟨⟨o, rfl, Hb.out.all_done Hg.out, ?_⟩, HB.out⟩
      exact RowsAt.of_own encI_len Hro.out
end Go.Proofs.Ytkjmeeggjmeajaa
