/- Named's way: variants' numbers turned by t, steps turned by c. -/
import Derived.Test.YtggcooplhodocaaDoorP0
namespace Fam
theorem rot {n a b v : Nat} (h : a + b = n) (hv : v < n) : ((v + a) % n + b) % n = v := by
  by_cases hl : v + a < n
  · rw [Nat.mod_eq_of_lt hl, show v + a + b = v + n by omega, Nat.add_mod_right, Nat.mod_eq_of_lt hv]
  · have e : (v + a) % n = v + a - n := by rw [Nat.mod_eq_sub_mod (by omega), Nat.mod_eq_of_lt (by omega)]
    rw [e, show v + a - n + b = v by omega, Nat.mod_eq_of_lt hv]
/-- the step that lies at place j of the turned book -/
def namedS (n t c : Nat) (l : List St) (j : Nat) : St := ((((stAt l ((j + c) % l.length)).1.toNat + t) % n : Nat), ((((stAt l ((j + c) % l.length)).2.1.toNat + t) % n : Nat) : Int), (stAt l ((j + c) % l.length)).2.2)
def namedL (n t c : Nat) (l : List St) (k : Nat) : List St := (List.range k).map (namedS n t c l)
theorem namedL_len (n t c : Nat) (l : List St) (k : Nat) : (namedL n t c l k).length = k := by unfold namedL; simp
theorem namedL_succ (n t c : Nat) (l : List St) (k : Nat) : namedL n t c l (k + 1) = namedL n t c l k ++ [namedS n t c l k] := by unfold namedL; rw [List.range_succ, List.map_append]; rfl
theorem namedL_at {n t c : Nat} {l : List St} {j k : Nat} (h : j < k) : stAt (namedL n t c l k) j = namedS n t c l j := by
  rw [stAt_eq (by rw [namedL_len]; exact h)]
  unfold namedL
  simp
theorem named_book {n r t c : Nat} {l : List St} (h : BookOk (n : Int) (r : Int) l) : BookOk (n : Int) (((r + t) % n : Nat) : Int) (namedL n t c l l.length) := by
  have hd := h.dim
  have hn : 0 < n := by omega
  have hlt : ∀ v, (v + t) % n < n := fun v => Nat.mod_lt _ hn
  refine ⟨h.dim, by rw [namedL_len]; exact h.many, ⟨by omega, by have := hlt r; omega⟩, fun x hx => ?_⟩
  unfold namedL at hx
  obtain ⟨j, hj, rfl⟩ := List.mem_map.1 hx
  have hj := List.mem_range.1 hj
  have hm : (j + c) % l.length < l.length := Nat.mod_lt _ (by omega)
  have hs := h.stp _ (stAt_mem hm)
  have h1 := hlt (stAt l ((j + c) % l.length)).1.toNat
  have h2 := hlt (stAt l ((j + c) % l.length)).2.1.toNat
  refine ⟨⟨by unfold namedS; dsimp only; omega, by unfold namedS; dsimp only; omega⟩, ⟨by unfold namedS; dsimp only; omega, by unfold namedS; dsimp only; omega⟩, ?_, hs.2.2.2.1, hs.2.2.2.2⟩
  unfold namedS
  dsimp only
  generalize stAt l ((j + c) % l.length) = x at hs
  obtain ⟨x1, x2, x3⟩ := x
  dsimp only at hs ⊢
  obtain ⟨a, rfl⟩ := Int.eq_ofNat_of_zero_le hs.1.1
  obtain ⟨b, rfl⟩ := Int.eq_ofNat_of_zero_le hs.2.1.1
  intro e
  have e1 : (a + t) % n = (b + t) % n := by
    have : (((a : Int).toNat + t) % n : Nat) = (((b : Int).toNat + t) % n : Nat) := by omega
    simpa using this
  have ha : a < n := by omega
  have hb : b < n := by omega
  have k1 := rot (n := n) (a := t % n) (b := n - t % n) (v := a) (by have := Nat.mod_lt t hn; omega) ha
  have k2 := rot (n := n) (a := t % n) (b := n - t % n) (v := b) (by have := Nat.mod_lt t hn; omega) hb
  rw [Nat.add_mod_mod] at k1 k2
  rw [e1, k2] at k1
  exact hs.2.2.1 (by omega)
theorem named_iso {n r t c : Nat} {l : List St} (h : BookOk (n : Int) (r : Int) l) :
    Iso (netB (n : Int) (r : Int) l) (netB (n : Int) (((r + t) % n : Nat) : Int) (namedL n t c l l.length)) (fun v => (v + t) % n) (fun v => (v + (n - t % n)) % n) (fun i => (i + (l.length - c % l.length)) % l.length) (fun j => (j + c) % l.length) := by
  have hd := h.dim
  have hn : 0 < n := by omega
  have hN : (netB (n : Int) (r : Int) l).n = n := by show (n : Int).toNat = n; simp
  have hM : (netB (n : Int) (((r + t) % n : Nat) : Int) (namedL n t c l l.length)).m = l.length := namedL_len _ _ _ _ _
  have ht := Nat.mod_lt t hn
  have fo : ∀ v, v < n → ((v + t) % n + (n - t % n)) % n = v := fun v hv => by
    have := rot (n := n) (a := t % n) (b := n - t % n) (v := v) (by omega) hv
    rwa [Nat.add_mod_mod] at this
  have ba : ∀ v, v < n → ((v + (n - t % n)) % n + t) % n = v := fun v hv => by
    have := rot (n := n) (a := n - t % n) (b := t % n) (v := v) (by omega) hv
    rwa [Nat.add_mod_mod] at this
  have sb : ∀ j, j < l.length → ((j + c) % l.length + (l.length - c % l.length)) % l.length = j := fun j hj => by
    have hc := Nat.mod_lt c (show 0 < l.length by omega)
    have := rot (n := l.length) (a := c % l.length) (b := l.length - c % l.length) (v := j) (by omega) hj
    rwa [Nat.add_mod_mod] at this
  have sf : ∀ i, i < l.length → ((i + (l.length - c % l.length)) % l.length + c) % l.length = i := fun i hi => by
    have hc := Nat.mod_lt c (show 0 < l.length by omega)
    have := rot (n := l.length) (a := l.length - c % l.length) (b := c % l.length) (v := i) (by omega) hi
    rwa [Nat.add_mod_mod] at this
  have at' : ∀ j, j < l.length → stAt (namedL n t c l l.length) j = namedS n t c l j := fun j hj => namedL_at hj
  have lt : ∀ x, 0 < l.length → x % l.length < l.length := fun x hx => Nat.mod_lt _ hx
  refine ⟨⟨rfl, ?_, fun v hv => ?_, fun v hv => ?_, fun i hi _ => ?_⟩, ⟨rfl, ?_, fun v hv => ?_, fun v hv => ?_, fun j hj _ => ?_⟩, fun i hi => ?_, fun j hj => ?_, fun j hj => ?_, fun i hi => ?_⟩
  · show (((r + t) % n : Nat) : Int).toNat = ((r : Int).toNat + t) % n
    simp only [Int.toNat_natCast]
  · rw [hN] at hv ⊢
    exact ⟨Nat.mod_lt _ hn, fo v hv⟩
  · rw [hN] at hv ⊢
    exact ⟨Nat.mod_lt _ hn, ba v hv⟩
  · have hi : i < l.length := hi
    have h1 := lt (i + (l.length - c % l.length)) (by omega)
    refine ⟨by rw [hM]; exact h1, ?_, ?_⟩
    · show (stAt (namedL n t c l l.length) _).1.toNat = _
      rw [at' _ h1]
      unfold namedS
      rw [sf i hi]
      rfl
    · show (stAt (namedL n t c l l.length) _).2.1.toNat = _
      rw [at' _ h1]
      unfold namedS
      rw [sf i hi]
      rfl
  · show (r : Int).toNat = ((((r + t) % n : Nat) : Int).toNat + (n - t % n)) % n
    have := h.root
    have := fo r (by omega)
    simp only [Int.toNat_natCast]
    omega
  · have hv : v < n := by rw [← hN]; exact hv
    exact ⟨by show _ < (n : Int).toNat; simp only [Int.toNat_natCast]; exact Nat.mod_lt _ hn, ba v hv⟩
  · have hv : v < n := by rw [← hN]; exact hv
    exact ⟨by show _ < (n : Int).toNat; simp only [Int.toNat_natCast]; exact Nat.mod_lt _ hn, fo v hv⟩
  · have hj : j < l.length := by rw [← hM]; exact hj
    have h1 := lt (j + c) (by omega)
    have hs := h.stp _ (stAt_mem h1)
    refine ⟨h1, ?_, ?_⟩
    · show (stAt l ((j + c) % l.length)).1.toNat = ((stAt (namedL n t c l l.length) j).1.toNat + (n - t % n)) % n
      rw [at' _ hj]
      unfold namedS
      dsimp only
      rw [Int.toNat_natCast, fo _ (by omega)]
    · show (stAt l ((j + c) % l.length)).2.1.toNat = ((stAt (namedL n t c l l.length) j).2.1.toNat + (n - t % n)) % n
      rw [at' _ hj]
      unfold namedS
      dsimp only
      rw [Int.toNat_natCast, fo _ (by omega)]
  · have hi : i < l.length := hi
    have h1 := lt (i + (l.length - c % l.length)) (by omega)
    show (stAt (namedL n t c l l.length) _).2.2 = (stAt l i).2.2
    rw [at' _ h1]
    unfold namedS
    rw [sf i hi]
  · have hj : j < l.length := by rw [← hM]; exact hj
    show (stAt l ((j + c) % l.length)).2.2 = (stAt (namedL n t c l l.length) j).2.2
    rw [at' _ hj]
    rfl
  · have hj : j < l.length := by rw [← hM]; exact hj
    exact sb j hj
  · exact sf i hi
/-- a grade of the turned book is the grade of the step that it was -/
theorem named_grade {n r t c : Nat} {l : List St} (h : BookOk (n : Int) (r : Int) l) {b : Int} (hb : Best (netB (n : Int) (r : Int) l) b) {j : Nat} (hj : j < l.length) {x y : Int} (hx : GradeIs (netB (n : Int) (r : Int) l) ((j + c) % l.length) x) (hy : GradeIs (netB (n : Int) (((r + t) % n : Nat) : Int) (namedL n t c l l.length)) j y) : x = y := by
  have hd := h.dim
  have hr := h.root
  have hk := named_book (t := t) (c := c) h
  have hI := named_iso (t := t) (c := c) h
  have hr1 : (netB (n : Int) (r : Int) l).r < (netB (n : Int) (r : Int) l).n := by show (r : Int).toNat < (n : Int).toNat; omega
  have hr2 : (netB (n : Int) (((r + t) % n : Nat) : Int) (namedL n t c l l.length)).r < (netB (n : Int) (((r + t) % n : Nat) : Int) (namedL n t c l l.length)).n := by
    have := hk.root
    show ((((r + t) % n : Nat) : Int)).toNat < (n : Int).toNat
    omega
  have hjm : j < (netB (n : Int) (((r + t) % n : Nat) : Int) (namedL n t c l l.length)).m := by show j < (namedL n t c l l.length).length; rw [namedL_len]; exact hj
  have ht : (netB (n : Int) (((r + t) % n : Nat) : Int) (namedL n t c l l.length)).to j < (netB (n : Int) (((r + t) % n : Nat) : Int) (namedL n t c l l.length)).n := by
    have := hk.stp _ (stAt_mem hjm)
    show (stAt (namedL n t c l l.length) j).2.1.toNat < (n : Int).toNat
    omega
  have hb2 := hI.best hr1 hr2 hb
  obtain ⟨⟨T, hT, e⟩, _⟩ := id hb2
  exact (hI.grade hr1 hr2 hb hjm ht hx).uniq hy ⟨T, hb2.tree.2 ⟨hT, e⟩⟩
theorem named_best {n r t c : Nat} {l : List St} (h : BookOk (n : Int) (r : Int) l) {b : Int} (hb : Best (netB (n : Int) (r : Int) l) b) : Best (netB (n : Int) (((r + t) % n : Nat) : Int) (namedL n t c l l.length)) b := by
  have hd := h.dim
  have hr := h.root
  have hk := named_book (t := t) (c := c) h
  refine (named_iso (t := t) (c := c) h).best ?_ ?_ hb
  · show (r : Int).toNat < (n : Int).toNat; omega
  · have := hk.root
    show ((((r + t) % n : Nat) : Int)).toNat < (n : Int).toNat
    omega
theorem named_full {n r t c : Nat} {l : List St} (h : BookOk (n : Int) (r : Int) l) (hf : Full (netB (n : Int) (r : Int) l) (allS (netB (n : Int) (r : Int) l))) : Full (netB (n : Int) (((r + t) % n : Nat) : Int) (namedL n t c l l.length)) (allS (netB (n : Int) (((r + t) % n : Nat) : Int) (namedL n t c l l.length))) := by
  have hI := named_iso (t := t) (c := c) h
  exact hI.go.full (fun i hi => ⟨hi, trivial, (hI.go.stp i hi trivial).1⟩) hf
end Fam
