/- Frames of 128 slots, and leaving a function behind several loops over iterators. -/
import Derived.Test.YtkjmeeggjmeajaaC8
namespace Go.Proofs.Ytkjmeeggjmeajaa
open Go.RowKit Go.Shelf

theorem open8 {l : List Value} {n : Nat} (h : l.length = n + 8) : ∃ (a b c d e f g i : Value) (r : List Value), l = a :: b :: c :: d :: e :: f :: g :: i :: r ∧ r.length = n := by
  obtain ⟨a, l, rfl⟩ := List.exists_cons_of_length_eq_add_one (n := n + 7) h
  obtain ⟨b, l, rfl⟩ := List.exists_cons_of_length_eq_add_one (l := l) (n := n + 6) (by simpa using h)
  obtain ⟨c, l, rfl⟩ := List.exists_cons_of_length_eq_add_one (l := l) (n := n + 5) (by simpa using h)
  obtain ⟨d, l, rfl⟩ := List.exists_cons_of_length_eq_add_one (l := l) (n := n + 4) (by simpa using h)
  obtain ⟨e, l, rfl⟩ := List.exists_cons_of_length_eq_add_one (l := l) (n := n + 3) (by simpa using h)
  obtain ⟨f, l, rfl⟩ := List.exists_cons_of_length_eq_add_one (l := l) (n := n + 2) (by simpa using h)
  obtain ⟨g, l, rfl⟩ := List.exists_cons_of_length_eq_add_one (l := l) (n := n + 1) (by simpa using h)
  obtain ⟨i, l, rfl⟩ := List.exists_cons_of_length_eq_add_one (l := l) (n := n + 0) (by simpa using h)
  exact ⟨a, b, c, d, e, f, g, i, l, rfl, by simpa using h⟩
set_option maxRecDepth 10000 in
theorem open128 {t : Array Value} (h : t.size = 128) {motive : Array Value → Prop} (H : ∀ (x0 x1 x2 x3 x4 x5 x6 x7 x8 x9 x10 x11 x12 x13 x14 x15 x16 x17 x18 x19 x20 x21 x22 x23 x24 x25 x26 x27 x28 x29 x30 x31 x32 x33 x34 x35 x36 x37 x38 x39 x40 x41 x42 x43 x44 x45 x46 x47 x48 x49 x50 x51 x52 x53 x54 x55 x56 x57 x58 x59 x60 x61 x62 x63 x64 x65 x66 x67 x68 x69 x70 x71 x72 x73 x74 x75 x76 x77 x78 x79 x80 x81 x82 x83 x84 x85 x86 x87 x88 x89 x90 x91 x92 x93 x94 x95 x96 x97 x98 x99 x100 x101 x102 x103 x104 x105 x106 x107 x108 x109 x110 x111 x112 x113 x114 x115 x116 x117 x118 x119 x120 x121 x122 x123 x124 x125 x126 x127 : Value), motive (List.toArray (x0 :: x1 :: x2 :: x3 :: x4 :: x5 :: x6 :: x7 :: x8 :: x9 :: x10 :: x11 :: x12 :: x13 :: x14 :: x15 :: x16 :: x17 :: x18 :: x19 :: x20 :: x21 :: x22 :: x23 :: x24 :: x25 :: x26 :: x27 :: x28 :: x29 :: x30 :: x31 :: x32 :: x33 :: x34 :: x35 :: x36 :: x37 :: x38 :: x39 :: x40 :: x41 :: x42 :: x43 :: x44 :: x45 :: x46 :: x47 :: x48 :: x49 :: x50 :: x51 :: x52 :: x53 :: x54 :: x55 :: x56 :: x57 :: x58 :: x59 :: x60 :: x61 :: x62 :: x63 :: x64 :: x65 :: x66 :: x67 :: x68 :: x69 :: x70 :: x71 :: x72 :: x73 :: x74 :: x75 :: x76 :: x77 :: x78 :: x79 :: x80 :: x81 :: x82 :: x83 :: x84 :: x85 :: x86 :: x87 :: x88 :: x89 :: x90 :: x91 :: x92 :: x93 :: x94 :: x95 :: x96 :: x97 :: x98 :: x99 :: x100 :: x101 :: x102 :: x103 :: x104 :: x105 :: x106 :: x107 :: x108 :: x109 :: x110 :: x111 :: x112 :: x113 :: x114 :: x115 :: x116 :: x117 :: x118 :: x119 :: x120 :: x121 :: x122 :: x123 :: x124 :: x125 :: x126 :: x127 :: []))) : motive t := by
  obtain ⟨l⟩ := t
  have h0 : l.length = 120 + 8 := h
  obtain ⟨x0, x1, x2, x3, x4, x5, x6, x7, l, rfl, h1⟩ := open8 (n := 120) h0
  replace h1 : l.length = 112 + 8 := h1
  obtain ⟨x8, x9, x10, x11, x12, x13, x14, x15, l, rfl, h2⟩ := open8 (n := 112) h1
  replace h2 : l.length = 104 + 8 := h2
  obtain ⟨x16, x17, x18, x19, x20, x21, x22, x23, l, rfl, h3⟩ := open8 (n := 104) h2
  replace h3 : l.length = 96 + 8 := h3
  obtain ⟨x24, x25, x26, x27, x28, x29, x30, x31, l, rfl, h4⟩ := open8 (n := 96) h3
  replace h4 : l.length = 88 + 8 := h4
  obtain ⟨x32, x33, x34, x35, x36, x37, x38, x39, l, rfl, h5⟩ := open8 (n := 88) h4
  replace h5 : l.length = 80 + 8 := h5
  obtain ⟨x40, x41, x42, x43, x44, x45, x46, x47, l, rfl, h6⟩ := open8 (n := 80) h5
  replace h6 : l.length = 72 + 8 := h6
  obtain ⟨x48, x49, x50, x51, x52, x53, x54, x55, l, rfl, h7⟩ := open8 (n := 72) h6
  replace h7 : l.length = 64 + 8 := h7
  obtain ⟨x56, x57, x58, x59, x60, x61, x62, x63, l, rfl, h8⟩ := open8 (n := 64) h7
  replace h8 : l.length = 56 + 8 := h8
  obtain ⟨x64, x65, x66, x67, x68, x69, x70, x71, l, rfl, h9⟩ := open8 (n := 56) h8
  replace h9 : l.length = 48 + 8 := h9
  obtain ⟨x72, x73, x74, x75, x76, x77, x78, x79, l, rfl, h10⟩ := open8 (n := 48) h9
  replace h10 : l.length = 40 + 8 := h10
  obtain ⟨x80, x81, x82, x83, x84, x85, x86, x87, l, rfl, h11⟩ := open8 (n := 40) h10
  replace h11 : l.length = 32 + 8 := h11
  obtain ⟨x88, x89, x90, x91, x92, x93, x94, x95, l, rfl, h12⟩ := open8 (n := 32) h11
  replace h12 : l.length = 24 + 8 := h12
  obtain ⟨x96, x97, x98, x99, x100, x101, x102, x103, l, rfl, h13⟩ := open8 (n := 24) h12
  replace h13 : l.length = 16 + 8 := h13
  obtain ⟨x104, x105, x106, x107, x108, x109, x110, x111, l, rfl, h14⟩ := open8 (n := 16) h13
  replace h14 : l.length = 8 + 8 := h14
  obtain ⟨x112, x113, x114, x115, x116, x117, x118, x119, l, rfl, h15⟩ := open8 (n := 8) h14
  replace h15 : l.length = 0 + 8 := h15
  obtain ⟨x120, x121, x122, x123, x124, x125, x126, x127, l, rfl, h16⟩ := open8 (n := 0) h15
  obtain rfl := List.length_eq_zero_iff.1 h16
  exact H x0 x1 x2 x3 x4 x5 x6 x7 x8 x9 x10 x11 x12 x13 x14 x15 x16 x17 x18 x19 x20 x21 x22 x23 x24 x25 x26 x27 x28 x29 x30 x31 x32 x33 x34 x35 x36 x37 x38 x39 x40 x41 x42 x43 x44 x45 x46 x47 x48 x49 x50 x51 x52 x53 x54 x55 x56 x57 x58 x59 x60 x61 x62 x63 x64 x65 x66 x67 x68 x69 x70 x71 x72 x73 x74 x75 x76 x77 x78 x79 x80 x81 x82 x83 x84 x85 x86 x87 x88 x89 x90 x91 x92 x93 x94 x95 x96 x97 x98 x99 x100 x101 x102 x103 x104 x105 x106 x107 x108 x109 x110 x111 x112 x113 x114 x115 x116 x117 x118 x119 x120 x121 x122 x123 x124 x125 x126 x127

set_option maxRecDepth 10000 in
theorem all128 {motive : Array Value → Prop} (H : ∀ (x0 x1 x2 x3 x4 x5 x6 x7 x8 x9 x10 x11 x12 x13 x14 x15 x16 x17 x18 x19 x20 x21 x22 x23 x24 x25 x26 x27 x28 x29 x30 x31 x32 x33 x34 x35 x36 x37 x38 x39 x40 x41 x42 x43 x44 x45 x46 x47 x48 x49 x50 x51 x52 x53 x54 x55 x56 x57 x58 x59 x60 x61 x62 x63 x64 x65 x66 x67 x68 x69 x70 x71 x72 x73 x74 x75 x76 x77 x78 x79 x80 x81 x82 x83 x84 x85 x86 x87 x88 x89 x90 x91 x92 x93 x94 x95 x96 x97 x98 x99 x100 x101 x102 x103 x104 x105 x106 x107 x108 x109 x110 x111 x112 x113 x114 x115 x116 x117 x118 x119 x120 x121 x122 x123 x124 x125 x126 x127 : Value), motive (List.toArray (x0 :: x1 :: x2 :: x3 :: x4 :: x5 :: x6 :: x7 :: x8 :: x9 :: x10 :: x11 :: x12 :: x13 :: x14 :: x15 :: x16 :: x17 :: x18 :: x19 :: x20 :: x21 :: x22 :: x23 :: x24 :: x25 :: x26 :: x27 :: x28 :: x29 :: x30 :: x31 :: x32 :: x33 :: x34 :: x35 :: x36 :: x37 :: x38 :: x39 :: x40 :: x41 :: x42 :: x43 :: x44 :: x45 :: x46 :: x47 :: x48 :: x49 :: x50 :: x51 :: x52 :: x53 :: x54 :: x55 :: x56 :: x57 :: x58 :: x59 :: x60 :: x61 :: x62 :: x63 :: x64 :: x65 :: x66 :: x67 :: x68 :: x69 :: x70 :: x71 :: x72 :: x73 :: x74 :: x75 :: x76 :: x77 :: x78 :: x79 :: x80 :: x81 :: x82 :: x83 :: x84 :: x85 :: x86 :: x87 :: x88 :: x89 :: x90 :: x91 :: x92 :: x93 :: x94 :: x95 :: x96 :: x97 :: x98 :: x99 :: x100 :: x101 :: x102 :: x103 :: x104 :: x105 :: x106 :: x107 :: x108 :: x109 :: x110 :: x111 :: x112 :: x113 :: x114 :: x115 :: x116 :: x117 :: x118 :: x119 :: x120 :: x121 :: x122 :: x123 :: x124 :: x125 :: x126 :: x127 :: []))) : ∀ t : Array Value, t.size = 128 → motive t := fun _ h => open128 h H

def mark (D : Nat) : Deferred := { target := .collected D, args := #[] }
/-- the marks of the loops that were left: blocks of their own, from B on -/
def Marks (B : Nat) (W : World) (Ds : List Nat) : Prop := Ds.Nodup ∧ ∀ D ∈ Ds, B ≤ D ∧ W.heap[D]? = some (.deferred (some []))
def shut (W : World) : List Nat → World
  | [] => W
  | D :: Ds => shut (W.putObj D (.deferred none)) Ds
theorem Marks.cons {B : Nat} {W : World} {Ds : List Nat} {D : Nat} (h : Marks B W Ds) (hB : B ≤ D) (hD : W.heap[D]? = some (.deferred (some []))) (hn : D ∉ Ds) : Marks B W (D :: Ds) :=
  ⟨List.nodup_cons.2 ⟨hn, h.1⟩, fun E hE => by rcases List.mem_cons.1 hE with rfl | hE; exact ⟨hB, hD⟩; exact h.2 E hE⟩
theorem Marks.nil (B : Nat) (W : World) : Marks B W [] := ⟨List.nodup_nil, fun _ h => by simp at h⟩
theorem Marks.kept {B : Nat} {W W' : World} {Ds : List Nat} (h : Marks B W Ds) (hk : ∀ D : Nat, W.heap[D]? = some (Obj.deferred (some [])) → W'.heap[D]? = some (Obj.deferred (some []))) : Marks B W' Ds :=
  ⟨h.1, fun D hD => ⟨(h.2 D hD).1, hk D (h.2 D hD).2⟩⟩
theorem Marks.tail {B : Nat} {W : World} {Ds : List Nat} {D : Nat} (h : Marks B W (D :: Ds)) : Marks B (W.putObj D (.deferred none)) Ds :=
  ⟨(List.nodup_cons.1 h.1).2, fun E hE => ⟨(h.2 E (List.mem_cons_of_mem _ hE)).1, (World.putObj_heap_other (fun e => (List.nodup_cons.1 h.1).1 (by first | exact e ▸ hE | exact e.symm ▸ hE | (rw [e] at hE; exact hE) | (rw [← e] at hE; exact hE)))).trans (h.2 E (List.mem_cons_of_mem _ hE)).2⟩⟩
theorem leave_marks {fn : Func} {R : Ending → World → Prop} {tmps : Array Value} (v : Value) (hres : ∀ W, (results fn tmps).run Try.prog W = .ok v W) : ∀ (Ds : List Nat) (B : Nat) (W : World), Marks B W Ds → R (.returned v) (shut W Ds) →
    bodyPostM Fence.wide 10 Try.prog fn R .ret { tmps, defers := Ds.map mark } W
  | [], _, W, _, hR => ⟨v, hres W, hR⟩
  | D :: Ds, B, W, hM, hR => by
    have h1 := leave_marks v hres Ds B _ hM.tail hR
    exact ⟨by simp, .inl ⟨_, _, rfl, run_takeDeferred (hM.2 D (by simp)).2, h1⟩⟩
theorem shut_below {B : Nat} {w0 : World} : ∀ (Ds : List Nat) (W : World), Marks B W Ds → Below B w0 W → Below B w0 (shut W Ds)
  | [], W, _, h => h
  | D :: Ds, W, hM, h => shut_below Ds _ hM.tail (below_put h (hM.2 D (by simp)).1 _ (hM.2 D (by simp)).2)
theorem shut_cell {B : Nat} {a : Addr} {u : Value} : ∀ (Ds : List Nat) (W : World), Marks B W Ds → W.cell? a = some u → (shut W Ds).cell? a = some u
  | [], W, _, h => h
  | D :: Ds, W, hM, h => shut_cell Ds _ hM.tail (cell_put h (hM.2 D (by simp)).2 rfl)
end Go.Proofs.Ytkjmeeggjmeajaa
