/- Fewest. Apart. -/
import Derived.Test.YtkjmeeggjmeajaaB12
import Derived.Test.YtkjmeeggjmeajaaB9
import Derived.Ground.NamesProg
import Derived.Shelf.Sort.Plain
import Derived.Sort.OwnSortedInts
import Derived.Laws.CopyOwn
import Derived.Deep.OwnRows
namespace Go.Proofs.Ytkjmeeggjmeajaa
open Go.RowKit Go.Shelf

/-- a song's tones in an order of their upper ends -/
def Sorted (l : List (Int × Int)) (ts : List Tone) : Prop := ts.Perm (tonesUp l l.length) ∧ ByHi ts
theorem inB1 : inB (1 : Int) := by unfold inB; omega
theorem inB0 : inB (0 : Int) := by unfold inB; omega

set_option maxHeartbeats 1000000 in
theorem fewest_any (A : Option Addr) (ca : Nat) (l : List (Int × Int)) (w : World) (hl : RangesAt w A l) (hn : l.length ≤ 100000) :
    Calls Try.prog 31 #[.slice A l.length ca] w (Ret fun v w' => (songErr l ≠ 0 ∧ v = .tuple #[.slice none 0 0, .int .i64 (songErr l)] ∨ songErr l = 0 ∧ ∃ ts B c s n, Sorted l ts ∧ v = .tuple #[.slice B s.length c, .int .i64 0] ∧ (s, n) = highGo (1, 0) ts [] [] (-1) ∧
      w'.ownsRow w.heap.size 2 1 (.slice B s.length c) s.length (s.flatMap encI)) ∧ Below w.heap.size w w') := by
  have Hl := Lib.hid hl; clear hl
  go_enter Try.func31, Try.ntmps31
  go_wp2_with fail
  refine (checkSong_any _ _ l _ Hl.out hn).mono ?_
  rintro e w1 ⟨v, rfl, rfl, hB1⟩
  have HB1 := Lib.hid hB1; clear hB1
  by_cases h0 : songErr l = 0
  · have hlen := song_len h0
    have hin := song_in h0
    have d0 : (songErr l != 0) = false := by simp [h0]
    have H0 := Lib.hid h0; clear h0
    have Hin := Lib.hid hin; clear hin
    go_wp2_with fail
    refine (newSong_any _ _ l _ (Hl.out.below HB1.out) (by omega) Hin.out).mono ?_
    rintro e w2 ⟨v, rfl, rfl, ⟨ts, hp, ho, hsa⟩, hB2⟩
    have HB2 := Lib.hid hB2; clear hB2
    have Hp := Lib.hid hp; clear hp
    have Hsa := Lib.hid (SongAt.of hsa); clear hsa
    have Ho := Lib.hid ho; clear ho
    have hh := high_any (1, 0) w1.heap.size ts w2 Hsa.out (by rw [perm_len Hp.out]; omega) ⟨inB1, inB0⟩
    unfold vR at hh
    have HH := Lib.hid hh; clear hh
    go_wp2_with fail
    refine HH.out.mono ?_
    rintro e w3 ⟨v, rfl, ⟨A1, B1, c1, d1, s, n, rfl, hg, ho1, ho2⟩, hB3⟩
    have HB3 := Lib.hid (below_trans' (below_trans' HB1.out HB2.out) hB3); have HB3' := Lib.hid hB3; clear hB3
    have Hg := Lib.hid hg
    have HO1 := Lib.hid ho1
    clear hg ho1 ho2
    go_wp2
    go_ret2
    refine Ret.mk' rfl ⟨.inr ⟨H0.out, ts, A1, c1, s, n, ⟨Hp.out, Ho.out⟩, rfl, Hg.out, own_mono HO1.out ?_⟩, HB3.out⟩
    have := HB1.out.size; have := HB2.out.size; omega
  · have d0 : (songErr l != 0) = true := by simpa using h0
    go_wp2
    go_ret2
    exact Ret.mk' rfl ⟨.inl ⟨h0, rfl⟩, HB1.out⟩
end Go.Proofs.Ytkjmeeggjmeajaa

namespace Go.Proofs
open Go.Shelf
def Try.laysSort_ren : Go.Shelf.Ren := ⟨fun | 189 => 54 | 125 => 70 | 257 => 69 | 128 => 84 | 129 => 85 | 294 => 75 | 295 => 76 | 296 => 77 | 297 => 78 | 298 => 79 | 299 => 80 | 216 => 81 | 300 => 82 | 301 => 83 | 328 => 88 | 329 => 89 | 330 => 90 | 331 => 91 | 332 => 92 | 215 => 93 | 343 => 95 | n => n, fun | 28 => 26 | 3 => 3 | 46 => 115 | 0 => 0 | 51 => 130 | 53 => 132 | 4 => 4 | 183 => 122 | 182 => 121 | 131 => 127 | 5 => 5 | 9 => 9 | 218 => 135 | 222 => 139 | 228 => 142 | 229 => 143 | n => n, fun | n => n⟩
theorem Try.laysSort : Lays.n189 Try.prog Try.laysSort_ren := {
    mixed := by kernel_rfl,
    f125 := Try.func70.trans (congrArg some (by kernel_rfl)),
    f128 := Try.func84.trans (congrArg some (by kernel_rfl)),
    f129 := Try.func85.trans (congrArg some (by kernel_rfl)),
    f189 := Try.func54.trans (congrArg some (by kernel_rfl)),
    f215 := Try.func93.trans (congrArg some (by kernel_rfl)),
    f216 := Try.func81.trans (congrArg some (by kernel_rfl)),
    f257 := Try.func69.trans (congrArg some (by kernel_rfl)),
    f294 := Try.func75.trans (congrArg some (by kernel_rfl)),
    f295 := Try.func76.trans (congrArg some (by kernel_rfl)),
    f296 := Try.func77.trans (congrArg some (by kernel_rfl)),
    f297 := Try.func78.trans (congrArg some (by kernel_rfl)),
    f298 := Try.func79.trans (congrArg some (by kernel_rfl)),
    f299 := Try.func80.trans (congrArg some (by kernel_rfl)),
    f300 := Try.func82.trans (congrArg some (by kernel_rfl)),
    f301 := Try.func83.trans (congrArg some (by kernel_rfl)),
    f328 := Try.func88.trans (congrArg some (by kernel_rfl)),
    f329 := Try.func89.trans (congrArg some (by kernel_rfl)),
    f330 := Try.func90.trans (congrArg some (by kernel_rfl)),
    f331 := Try.func91.trans (congrArg some (by kernel_rfl)),
    f332 := Try.func92.trans (congrArg some (by kernel_rfl)),
    f343 := Try.func95.trans (congrArg some (by kernel_rfl)),
    t0 := Try.underlying0,
    a0 := Try.isAgg0,
    z0 := Try.sizeOf0,
    v0 := Try.zeroValue0,
    t3 := Try.underlying3,
    a3 := Try.isAgg3,
    z3 := Try.sizeOf3,
    v3 := Try.zeroValue3,
    t4 := Try.underlying4,
    a4 := Try.isAgg4,
    z4 := Try.sizeOf4,
    v4 := Try.zeroValue4,
    t5 := Try.underlying5,
    a5 := Try.isAgg5,
    z5 := Try.sizeOf5,
    v5 := Try.zeroValue5,
    t9 := Try.underlying9,
    a9 := Try.isAgg9,
    z9 := Try.sizeOf9,
    v9 := Try.zeroValue9,
    t28 := Try.underlying26,
    a28 := Try.isAgg26,
    z28 := Try.sizeOf26,
    v28 := Try.zeroValue26,
    t46 := Try.underlying115,
    a46 := Try.isAgg115,
    z46 := Try.sizeOf115,
    v46 := Try.zeroValue115,
    t51 := Try.underlying130,
    a51 := Try.isAgg130,
    z51 := Try.sizeOf130,
    v51 := Try.zeroValue130,
    t53 := Try.underlying132,
    a53 := Try.isAgg132,
    z53 := Try.sizeOf132,
    v53 := Try.zeroValue132,
    t131 := Try.underlying127,
    a131 := Try.isAgg127,
    z131 := Try.sizeOf127,
    v131 := Try.zeroValue127,
    t182 := Try.underlying121,
    a182 := Try.isAgg121,
    z182 := Try.sizeOf121,
    v182 := Try.zeroValue121,
    t183 := Try.underlying122,
    a183 := Try.isAgg122,
    z183 := Try.sizeOf122,
    v183 := Try.zeroValue122,
    t218 := Try.underlying135,
    a218 := Try.isAgg135,
    z218 := Try.sizeOf135,
    v218 := Try.zeroValue135,
    t222 := Try.underlying139,
    a222 := Try.isAgg139,
    z222 := Try.sizeOf139,
    v222 := Try.zeroValue139,
    t228 := Try.underlying142,
    a228 := Try.isAgg142,
    z228 := Try.sizeOf142,
    v228 := Try.zeroValue142,
    t229 := Try.underlying143,
    a229 := Try.isAgg143,
    z229 := Try.sizeOf143,
    v229 := Try.zeroValue143 }
end Go.Proofs
namespace Go.Proofs.Ytkjmeeggjmeajaa
open Go.RowKit Go.Shelf

theorem highGo_len (cl : Int × Int) : ∀ (ts : List Tone) (s n : List Int) (last : Int), (highGo cl ts s n last).1.length ≤ s.length + ts.length ∧ (highGo cl ts s n last).2.length ≤ n.length + ts.length
  | [], s, n, last => by simp [highGo]
  | t :: ts, s, n, last => by
    simp only [highGo]
    split
    · have := highGo_len cl ts s n last; simp only [List.length_cons]; omega
    · split
      · simp only [List.length_append, List.length_cons, List.length_nil]; omega
      · have := highGo_len cl ts (s ++ [atOf cl t.2.1]) (n ++ [t.2.2]) (atOf cl t.2.1)
        simp only [List.length_append, List.length_cons, List.length_nil] at this ⊢; omega
def sortI (l : List Int) : List Int := l.mergeSort fun x y => decide (x ≤ y)
theorem map_encI (l : List Int) : l.map (Value.int .i64) = l.flatMap encI := by induction l <;> simp_all [encI]
theorem Try.sortI_any (blk off cap : Nat) (zs : List Int) (w : World) (hH : Sort.Holds (Value.int .i64) w blk off zs.toArray) (hblk : blk < w.heap.size) (hsz : zs.length ≤ 100000) :
    Calls Try.prog 54 #[.slice (some ⟨blk, off, none⟩) zs.length cap] w fun e w' => e = .returned (.tuple #[]) ∧ ∃ n os, w' = Sort.grow (Sort.putRow (Value.int .i64) (Sort.ahead w n) blk off (sortI zs).toArray) os :=
  Any.slices_Sort_int Try.laysSort blk off cap zs w hH hblk (by omega)

set_option maxRecDepth 100000 in
set_option maxHeartbeats 1000000 in
theorem apart_any (A : Option Addr) (ca : Nat) (l : List (Int × Int)) (w : World) (hl : RangesAt w A l) (hn : l.length ≤ 100000) :
    Calls Try.prog 37 #[.slice A l.length ca] w (Ret fun v w' => (songErr l ≠ 0 ∧ v = .tuple #[.slice none 0 0, .int .i64 (songErr l)] ∨ songErr l = 0 ∧ ∃ ts g c n, Sorted l ts ∧ v = .tuple #[.slice (some ⟨g, 0, none⟩) n.length c, .int .i64 0] ∧ n = sortI (highGo (1, 0) ts [] [] (-1)).2 ∧ n.length ≤ c ∧ IntsAt w' (some ⟨g, 0, none⟩) n) ∧ Below w.heap.size w w') := by
  have Hl := Lib.hid hl; clear hl
  obtain ⟨i3, hi, hz0, hz1, hz2⟩ := info_parts infoI3
  go_enter Try.func37, Try.ntmps37
  go_wp2_with fail
  refine (checkSong_any _ _ l _ Hl.out hn).mono ?_
  rintro e w1 ⟨v, rfl, rfl, hB1⟩
  have HB1 := Lib.hid hB1; clear hB1
  by_cases h0 : songErr l = 0
  · have hlen := song_len h0
    have hin := song_in h0
    have d0 : (songErr l != 0) = false := by simp [h0]
    have H0 := Lib.hid h0; clear h0
    have Hin := Lib.hid hin; clear hin
    go_wp2_with fail
    refine (newSong_any _ _ l _ (Hl.out.below HB1.out) (by omega) Hin.out).mono ?_
    rintro e w2 ⟨v, rfl, rfl, ⟨ts, hp, ho, hsa⟩, hB2⟩
    have HB2 := Lib.hid hB2; clear hB2
    have Hp := Lib.hid hp; clear hp
    have Hsa := Lib.hid (SongAt.of hsa); clear hsa
    have Ho := Lib.hid ho; clear ho
    have hh := high_any (1, 0) w1.heap.size ts w2 Hsa.out (by rw [perm_len Hp.out]; omega) ⟨inB1, inB0⟩
    unfold vR at hh
    have HH := Lib.hid hh; clear hh
    go_wp2_with fail
    refine HH.out.mono ?_
    rintro e w3 ⟨v, rfl, ⟨A1, B1, c1, d1, s, n, rfl, hg, ho1, ho2⟩, hB3⟩
    have HB3 := Lib.hid (below_trans' (below_trans' HB1.out HB2.out) hB3); clear hB3
    have hnl : n.length ≤ 100000 := by
      have h1 := (highGo_len (1, 0) ts [] [] (-1)).2
      rw [← hg] at h1
      have h2 := perm_len Hp.out
      simp at h1; omega
    have Hg := Lib.hid hg
    have HO2 := Lib.hid ho2
    have HR2 : Hid (IntsAt w3 B1 n) := RowsAt.of_own encI_len ho2
    clear hg ho1 ho2
    obtain ⟨zs, hzs⟩ : ∃ zs : Array Value, zs = madeCells #[.int .i64 0] n.length := ⟨_, rfl⟩
    have hzl : zs.toList.length = n.length := by rw [hzs]; simp [madeCells]
    have hmk := fun w => run_make_row' (P := Try.prog) 26 3 (.int .i64 0) 8 Try.underlying26 infoI3 rfl .i64 .i64 n.length (by omega) (by omega) w
    rw [← hzs] at hmk
    have Hzs := Lib.hid hzs; clear hzs
    obtain ⟨X, hX⟩ : ∃ X : List Value, X = n.flatMap encI := ⟨_, rfl⟩
    have hXl : X.length = n.length := by rw [hX, flatMap_len encI_len]; omega
    have HX1 : Hid (∀ v ∈ X, v.oneCell' = true) := fun v hv => by
      rw [hX, List.mem_flatMap] at hv
      obtain ⟨x, _, hx⟩ := hv
      exact oneI x v hx
    have HXs : Hid (0 < X.length → ∃ ad, B1 = some ad ∧ ∀ j v, X[j]? = some v → (w3.alloc (.cells zs 3)).cell? (ad.add j) = some v) := fun h0 => by
      obtain ⟨b, off, hb, _⟩ := HR2.out 0 (by omega)
      exact ⟨_, hb, fun j v hj => cell_alloc (RowsAt.olds encI_len HR2.out _ hb j v (by rw [← hX]; exact hj)) _⟩
    have HXl := Lib.hid hXl
    have HX := Lib.hid hX; clear hX
    have Hzl := Lib.hid hzl
    clear hXl hzl
    go_wp2_with (first
      | (refine wpList_copy_splice (o := ⟨some 25, _, _, _, _, _⟩) rfl (.tmp 23) (.tmp 24) 26 26 rfl 3 Try.underlying26 (by kernel_rfl) (some ⟨w3.heap.size, 0, none⟩) B1 n.length n.length n.length d1 (by rfl) (by rfl) w3.heap.size 0 zs.toList 3 (by rw [Array.toArray_toList]; exact heap_alloc_new w3 _) X (by rw [HXl.out]; exact (Nat.min_self _).symm) (fun h => ⟨rfl, HXs.out h⟩) (by rw [HXl.out, Hzl.out, Nat.zero_add]; exact Nat.le_refl _) HX1.out w3.heap.size w3 (below_alloc' (Below.refl _ _) _) (Nat.le_refl _) ?_
         intro w4 HG4 hb4
         have HB4 := Lib.hid hb4
         clear hb4
         have HG : Hid (w4.heap[w3.heap.size]? = some (.cells X.toArray 3 (0, 0))) := by
           show _ = _
           rw [HG4.out]; simp [splice, HXl.out, Hzl.out])
      | (go_at_call 54; refine (Try.sortI_any w3.heap.size 0 n.length n w4 (holds_of_blockI HG.out (by rw [HX.out, ← map_encI]; show List.take n.length (n.map (Value.int .i64)) = _; exact List.take_of_length_le (by rw [List.length_map]; exact Nat.le_refl _))) (blk_lt HG.out) hnl).mono ?_
         rintro e w5 ⟨rfl, q, os, hw5⟩
         have HW5 := Lib.hid hw5; clear hw5))
    go_ret2
    have hcur := heap_sortedI (n := q) (os := os) (sortI n).toArray HG.out
    have hsl : (sortI n).length = n.length := List.length_mergeSort _
    have hown := ownsRow_sortedI (n := q) (os := os) (base := w3.heap.size) (ss := n) (ts := sortI n) hsl (Nat.le_refl _) HG.out (Nat.le_refl _) (by simp only [maxLen]; omega) (by simp [HXl.out])
    have hgr := grownBy_sortedI (w := w4) (g := w3.heap.size) (n := q) (os := os) (sortI n).toArray
    rw [← HW5.out] at hown hgr
    have hn2 : n = (highGo (1, 0) ts [] [] (-1)).2 := by rw [← Hg.out]
    refine Ret.mk' rfl ⟨.inr ⟨H0.out, ts, w3.heap.size, n.length, sortI n, ⟨Hp.out, Ho.out⟩, by rw [hsl]; rfl, by rw [← hn2], by rw [hsl]; exact Nat.le_refl _, ?_⟩, below_trans' HB3.out (HB4.out.grown hgr HB4.out.size (fun k e => by cases e; exact Nat.le_refl _))⟩
    have h := RowsAt.of_own (l := sortI n) encI_len (by rw [hsl, ← map_encI]; exact hown)
    exact h
  · have d0 : (songErr l != 0) = true := by simpa using h0
    go_wp2
    go_ret2
    exact Ret.mk' rfl ⟨.inl ⟨h0, rfl⟩, HB1.out⟩
end Go.Proofs.Ytkjmeeggjmeajaa
