/- The stable sort of tones. The stable sort of tones, of at most two blocks. The sort's contract: SortStableFunc of tones, at most 39 of them. -/
import Derived.Test.YtkjmeeggjmeajaaSO8
namespace Go.Proofs.Ytkjmeeggjmeajaa
open Go.RowKit

theorem symMerge_any (base g c n : Nat) (hn : n ≤ 1000) (hc : n ≤ c) : ∀ (N : Nat) (X Y : List Tone), X.length + Y.length ≤ N → 0 < X.length → 0 < Y.length → ByHi X → ByHi Y → (∀ x ∈ X, inB x.2.1) → (∀ y ∈ Y, inB y.2.1) → SymOk base g c n X Y
  | 0, X, Y, h, h1, h2, _, _, _, _ => by omega
  | N + 1, X, Y, h, h1, h2, o1, o2, b1, b2 => by
    by_cases hx : X.length = 1
    · obtain ⟨x, rfl⟩ := List.length_eq_one_iff.1 hx
      intro a m b P S w hr hP hX hY
      exact merge1_any base g c n a m b P Y S x w hr hn hc hP hX hY (b1 x (by simp)) b2 o2
    · by_cases hy : Y.length = 1
      · obtain ⟨y, rfl⟩ := List.length_eq_one_iff.1 hy
        intro a m b P S w hr hP hX hY
        refine (merge2_any base g c n a m b P X S y w hr hn hc hP hX hY (by omega) (b2 y (by simp)) b1 o1).mono ?_
        rintro e w' ⟨v, rfl, ⟨Z, h1, h2, h3⟩, h4⟩
        exact Ret.mk ⟨⟨Z, h1.trans (List.perm_append_singleton y X).symm, h2, h3⟩, h4⟩
      · exact merge3_any base g c n X Y hn hc (by omega) (by omega) b1 b2 o1 o2 (fun X' Y' hl a1 a2 a3 a4 a5 a6 => symMerge_any base g c n hn hc N X' Y' (by omega) a1 a2 a3 a4 a5 a6)

/-- the insertion sort of no more than one tone -/
theorem insertion_none (v : Value) (c a b : Nat) (hv : b ≤ a + 1) (A : Option Addr) (n : Nat) (f : Value) (w : World) (hv' : v = .slice A n c) (ha : a ≤ 1000) :
    Calls Try.prog 86 #[v, .int .i64 a, .int .i64 b, f] w (Ret fun _ w' => w' = w) := by
  subst hv'
  have g1 : IntKind.i64.wrap ((a : Int) + 1) = (a : Int) + 1 := IntWalk.i64_in _ (by omega)
  have g2 : decide ((a : Int) + 1 < (b : Int)) = false := by simp; omega
  have g3 : ¬ ((a : Int) + 1 < (b : Int)) := by omega
  go_enter Try.func86, Try.ntmps86
  go_wp2
  go_loopw [8] (fun i wr => i = .int .i64 ((a : Int) + 1) ∧ wr = w) (fun i _ => 0)
  case atStart => exact ⟨rfl, rfl⟩
  case round =>
    obtain ⟨rfl, rfl⟩ := hrel
    go_wp2
    go_end0
    exact Ret.mk' rfl rfl
end Go.Proofs.Ytkjmeeggjmeajaa

namespace Go.Proofs.Ytkjmeeggjmeajaa
open Go.RowKit

theorem stable_none (v : Value) (c : Nat) (A : Option Addr) (w : World) (hv : v = .slice A 0 c) : Calls Try.prog 72 #[v, .int .i64 0, .func (.func 60) #[] #[]] w (Ret fun _ w' => w' = w) := by
  have hi := fun f w => insertion_none (.slice A 0 c) c 0 0 (by omega) A 0 f w rfl (by omega)
  have Hi := Lib.hid hi; clear hi
  subst hv
  go_enter Try.func72, Try.ntmps72
  go_wp2
  go_loopw [7, 8] (fun a b wr => a = .int .i64 0 ∧ b = .int .i64 20 ∧ wr = w) (fun _ _ _ => 0)
  case atStart => exact ⟨rfl, rfl, rfl⟩
  case round =>
    obtain ⟨rfl, rfl, rfl⟩ := hrel
    go_wp2_with fail
    refine (Hi.out _ _).mono ?_
    rintro e w1 ⟨_, rfl, rfl⟩
    go_wp2
    go_loopw [6] (fun a wr => a = .int .i64 20 ∧ wr = w1) (fun _ _ => 0)
    case atStart => exact ⟨rfl, rfl⟩
    case round =>
      obtain ⟨rfl, rfl⟩ := hrel
      go_wp2
      go_end0
      exact Ret.mk' rfl rfl

set_option maxRecDepth 100000 in
set_option maxHeartbeats 1000000 in
theorem stable_any (base g c n : Nat) (ts : List Tone) (w : World) (hrow : TRow w base g c n ts) (hn : n ≤ 39) (hc : n ≤ c) (hb : ∀ t ∈ ts, inB t.2.1) :
    Calls Try.prog 72 #[.slice (some ⟨g, 0, none⟩) n c, .int .i64 n, .func (.func 60) #[] #[]] w (Ret fun _ w' => (∃ Z, Z.Perm ts ∧ ByHi Z ∧ TRow w' base g c n Z) ∧ w.grownBy w' (some g)) := by
  have Hrow := Lib.hid hrow; clear hrow
  have Hb := Lib.hid hb; clear hb
  go_enter Try.func72, Try.ntmps72
  go_wp2
  go_loopw [7, 8] (fun va vb wr => ∃ (a b : Nat) (Z R : List Tone), va = .int .i64 a ∧ vb = .int .i64 b ∧ b = a + 20 ∧ (a = 0 ∨ a = 20) ∧ a ≤ n ∧ Z.length = a ∧ ByHi Z ∧ (Z ++ R).Perm ts ∧ TRow wr base g c n (Z ++ R) ∧ w.grownBy wr (some g)) (fun va _ _ => 60 - (intOf va).toNat)
  case atStart => exact ⟨0, 20, [], ts, rfl, rfl, rfl, .inl rfl, by omega, rfl, List.Pairwise.nil, List.Perm.refl _, Hrow.out, World.grownBy.refl _ _⟩
  case round =>
    obtain ⟨a, b, Z, R, rfl, rfl, hab, ha, han, hZ, hoZ, hp, hr, hg⟩ := hrel
    have HZ := Lib.hid hZ
    have HoZ := Lib.hid hoZ
    have Hp := Lib.hid hp
    have Hr := Lib.hid hr
    have Hg := Lib.hid hg
    clear hZ hoZ hp hr hg Hrow
    by_cases hbn : b ≤ n
    · have ha0 : a = 0 := by omega
      subst ha0
      have hb20 : b = 20 := by omega
      subst hb20
      have Hz : Hid (Z = []) := Lib.hid (List.length_eq_zero_iff.1 HZ.out)
      have hlR : 20 ≤ R.length := by have := Hr.out.1; rw [Hz.out] at this; simp at this; omega
      have Hins := Lib.hid (insertion_any base g c n 0 20 [] (R.take 20) (R.drop 20) wr (by have h := Hr.out; rw [Hz.out] at h; simpa using h) (by omega) hc rfl (by simp; omega) (fun t ht => Hb.out t (Hp.out.subset (by rw [Hz.out]; exact List.mem_of_mem_take ht))))
      have HlR := Lib.hid hlR; clear hlR hab ha
      have hlen20 : (20 : Int) ≤ (n : Int) := by omega
      go_wp2_with fail
      refine Hins.out.mono ?_
      rintro e w1 ⟨_, rfl, ⟨Z1, h1, h2, h3⟩, h4⟩
      have H1 := Lib.hid h1
      have H2 := Lib.hid h2
      have H3 := Lib.hid h3
      have H4 := Lib.hid h4
      clear h1 h2 h3 h4 Hins
      go_wp2
      go_roundw
      case rel =>
        refine ⟨20, 40, Z1, R.drop 20, rfl, rfl, rfl, .inr rfl, by omega, ?_, H2.out, ?_, by simpa using H3.out, Hg.out.trans H4.out⟩
        · rw [H1.out.length_eq, List.length_take]; exact Nat.min_eq_left HlR.out
        · have h := Hp.out
          rw [Hz.out, List.nil_append] at h
          refine List.Perm.trans ?_ h
          have h5 := H1.out.append_right (R.drop 20)
          rw [List.take_append_drop] at h5
          exact h5
      case measure => simp [intOf]
    · have Hlen : Hid (a + R.length = n) := Lib.hid (by have := Hr.out.1; rw [List.length_append, HZ.out] at this; exact this)
      have Hins := Lib.hid (insertion_any base g c n a n Z R [] wr (by rw [List.append_nil]; exact Hr.out) (by omega) hc HZ.out Hlen.out (fun t ht => Hb.out t (Hp.out.subset (List.mem_append_right _ ht))))
      go_wp2_with fail
      refine Hins.out.mono ?_
      rintro e w1 ⟨_, rfl, ⟨Z1, h1, h2, h3⟩, h4⟩
      rw [List.append_nil] at h3
      obtain ⟨L, hL⟩ : ∃ L, L = Z ++ Z1 := ⟨_, rfl⟩
      rw [← hL] at h3
      have H3 := Lib.hid h3
      have HG1 := Lib.hid (Hg.out.trans h4)
      have HpL : Hid (L.Perm ts) := Lib.hid (by rw [hL]; exact (h1.append_left Z).trans Hp.out)
      have HLs : Hid (ByHi (L.take 20) ∧ ByHi (L.drop 20)) := Lib.hid (by
        rcases ha with ha | ha
        · have hz : Z = [] := List.length_eq_zero_iff.1 (by rw [HZ.out]; exact ha)
          have hl : L.length ≤ 20 := by rw [h3.1]; omega
          rw [List.take_of_length_le hl, List.drop_of_length_le hl, hL, hz, List.nil_append]
          exact ⟨h2, List.Pairwise.nil⟩
        · rw [hL, List.take_left' (by rw [HZ.out]; exact ha), List.drop_left' (by rw [HZ.out]; exact ha)]
          exact ⟨HoZ.out, h2⟩)
      clear h1 h2 h3 h4 hL Hr Hg Hp HZ HoZ Hlen Hins hab ha hbn han
      go_wp2
      go_loopw [6] (fun v wr => ∃ (bs : Nat) (L : List Tone), v = .int .i64 bs ∧ L.Perm ts ∧ (bs = 20 ∧ ByHi (L.take 20) ∧ ByHi (L.drop 20) ∨ bs = 40 ∧ ByHi L) ∧ TRow wr base g c n L ∧ w.grownBy wr (some g)) (fun v _ => 60 - (intOf v).toNat)
      case atStart => exact ⟨20, L, rfl, HpL.out, .inl ⟨rfl, HLs.out⟩, H3.out, HG1.out⟩
      case round =>
        clear HpL HLs H3 HG1
        obtain ⟨bs, L, rfl, hp, hs, hr, hg⟩ := hrel
        have Hp := Lib.hid hp
        have Hs := Lib.hid hs
        have Hr := Lib.hid hr
        have Hg := Lib.hid hg
        clear hp hs hr hg
        by_cases hlt : bs < n
        · have hbs : bs = 20 := by have := Hs.out; omega
          subst hbs
          have Hs2 : Hid (ByHi (L.take 20) ∧ ByHi (L.drop 20)) := Lib.hid (by rcases Hs.out with h | h; exact h.2; omega)
          have hLl := Hr.out.1
          have Hmg := Lib.hid (symMerge_any base g c n (by omega) hc L.length (L.take 20) (L.drop 20) (by rw [List.length_take, List.length_drop]; omega) (by rw [List.length_take]; omega) (by rw [List.length_drop]; omega) Hs2.out.1 Hs2.out.2 (fun t ht => Hb.out t (Hp.out.subset (List.mem_of_mem_take ht))) (fun t ht => Hb.out t (Hp.out.subset (List.mem_of_mem_drop ht))) 0 20 n [] [] wr (by simpa using Hr.out) rfl (by rw [List.length_take]; omega) (by rw [List.length_drop]; omega))
          clear hLl Hs
          have f1 : (20 : Int) < (n : Int) := by omega
          have f2 : ¬ (40 : Int) ≤ (n : Int) := by omega
          go_wp2
          go_loopw [7, 8] (fun va vb wr2 => va = .int .i64 0 ∧ vb = .int .i64 40 ∧ wr2 = wr) (fun _ _ _ => 0)
          case atStart => exact ⟨rfl, rfl, rfl⟩
          case round =>
            obtain ⟨rfl, rfl, rfl⟩ := hrel
            go_wp2_with fail
            refine Hmg.out.mono ?_
            rintro e w2 ⟨_, rfl, ⟨Z2, h1, h2, h3⟩, h4⟩
            have H1 := Lib.hid h1
            have H2 := Lib.hid h2
            have H3 := Lib.hid h3
            have H4 := Lib.hid h4
            clear h1 h2 h3 h4 Hmg
            go_wp2
            go_roundw
            case rel => exact ⟨40, Z2, rfl, (by have h := H1.out; rw [List.take_append_drop] at h; exact h.trans Hp.out), .inr ⟨rfl, H2.out⟩, by simpa using H3.out, Hg.out.trans H4.out⟩
            case measure => simp [intOf]
        · go_wp2
          go_end0
          refine Ret.mk' rfl ⟨⟨L, Hp.out, ?_, Hr.out⟩, Hg.out⟩
          rcases Hs.out with ⟨h1, h2, _⟩ | ⟨_, h2⟩
          · rw [List.take_of_length_le (by rw [Hr.out.1]; omega)] at h2; exact h2
          · exact h2
end Go.Proofs.Ytkjmeeggjmeajaa

namespace Go.Proofs.Ytkjmeeggjmeajaa
open Go.RowKit

theorem sortStable_any (base : Nat) (v : Value) (ts : List Tone) (w : World) (hown : w.ownsRow base 95 3 v ts.length (ts.flatMap encT)) (hn : ts.length ≤ 39) (hb : ∀ t ∈ ts, inB t.2.1) :
    Calls Try.prog 59 #[v, .func (.func 60) #[] #[]] w (Ret fun _ w' => (∃ ts' : List Tone, ts'.Perm ts ∧ ByHi ts' ∧ w'.ownsRow base 95 3 v ts'.length (ts'.flatMap encT)) ∧ w.grownBy w' v.ownBlock) := by
  by_cases h0 : ts.length = 0
  · have hts := List.length_eq_zero_iff.1 h0
    subst hts
    obtain ⟨A, c, rfl, _⟩ := own_form hown
    have Hown := Lib.hid hown; clear hown
    have hs := Lib.hid (stable_none (.slice A 0 c) c A w rfl)
    go_enter Try.func59, Try.ntmps59
    go_wp2_with fail
    refine hs.out.mono ?_
    rintro e w1 ⟨_, rfl, rfl⟩
    go_wp2
    go_end0
    exact Ret.mk' rfl ⟨⟨[], List.Perm.refl _, List.Pairwise.nil, Hown.out⟩, World.grownBy.refl _ _⟩
  · obtain ⟨g, c, rfl, _⟩ := hown.form (by omega)
    have hc : ts.length ≤ c := by
      obtain ⟨A, c', e, h⟩ := own_form hown
      injection e with _ _ e; omega
    have hs := stable_any base g c ts.length ts w ⟨rfl, hown⟩ hn hc hb
    obtain ⟨n, hnn⟩ : ∃ n, n = ts.length := ⟨_, rfl⟩
    rw [← hnn] at hs ⊢
    have Hs := Lib.hid hs
    have Hn := Lib.hid hnn
    clear hs hnn hown hn hc h0
    go_enter Try.func59, Try.ntmps59
    go_wp2_with fail
    refine Hs.out.mono ?_
    rintro e w1 ⟨_, rfl, ⟨Z, h1, h2, h3⟩, h4⟩
    have H1 := Lib.hid h1
    have H2 := Lib.hid h2
    have H3 := Lib.hid h3
    have H4 := Lib.hid h4
    clear h1 h2 h3 h4 Hs
    go_wp2
    go_end0
    exact Ret.mk' rfl ⟨⟨Z, H1.out, H2.out, by rw [H3.out.1]; exact H3.out.2⟩, H4.out⟩
end Go.Proofs.Ytkjmeeggjmeajaa
