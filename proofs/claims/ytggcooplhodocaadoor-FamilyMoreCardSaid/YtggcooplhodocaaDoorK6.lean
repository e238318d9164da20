/- maps.Keys, slices.Sorted at this seat; the keys of the prices; rows of prices. told: the prices of the groups that have one. Prices. -/
import Derived.Test.YtggcooplhodocaaDoorSL
namespace Go.Proofs.YtggcooplhodocaaDoor
open Go.RowKit Go.Shelf Go.Maps Fam

theorem sortsI (m : Nat) : AnyZI.SortsIn Tryd.prog Tryd.laysSorted_ren Fence.wide m :=
  ⟨fun blk off cap ss W hH hblk hsz => callsIn_wide.2 (AnyM.slices_Sort_int Tryd.laysSortI blk off cap ss W hH hblk hsz),
   fun p cap W => callsIn_wide.2 (AnyM.slices_Sort_int_none Tryd.laysSortI p cap W)⟩
theorem keys_any (mb : Option Nat) (W : World) : Calls Tryd.prog 61 #[.map mb] W (Ret fun v w' => v = .func (.func 71) #[] #[.pointer (some ⟨W.heap.size, 0, none⟩)] ∧ w' = W.alloc (.cells #[.map mb] 88)) := by
  have h : CallsIn Fence.wide 5 Tryd.prog 61 #[.map mb] W fun e w' => e = .returned (.func (.func 71) #[] #[.pointer (some ⟨W.heap.size, 0, none⟩)]) ∧ w' = W.alloc (.cells #[.map mb] 88) := AnyZI.keys_in Tryd.laysKeys Fence.wide 5 trivial rfl mb W
  refine (callsIn_wide.1 h).mono ?_
  rintro e w' ⟨rfl, rfl⟩
  exact Ret.mk ⟨rfl, rfl⟩
theorem map_encZ (l : List Int) : l.map encZ = l.flatMap encI := by
  induction l with
  | nil => rfl
  | cons x l ih => rw [List.map_cons, List.flatMap_cons, ih]; rfl
theorem sorted_any (mb cnt : Nat) (D : DataW Unit) (W : World) (hD : MapD W mb cnt D) (hn : cnt ≤ 100000) :
    Calls Tryd.prog 60 #[.func (.func 71) #[] #[.pointer (some ⟨W.heap.size, 0, none⟩)]] (W.alloc (.cells #[.map (some mb)] 88)) (Ret fun v w' => (∃ ss : List Int, ss.Perm (intKeys D) ∧
      w'.ownsRow (W.heap.size + 1) 3 1 v (ss.mergeSort leI).length ((ss.mergeSort leI).flatMap encI)) ∧ Below (W.heap.size + 1) (W.alloc (.cells #[.map (some mb)] 88)) w') := by
  have hbl := MapD.lt hD
  have hsz := World.ownsMap.size_le hD
  have hseq : SeqGives Fence.wide 2 Tryd.prog 71 #[.pointer (some ⟨W.heap.size, 0, none⟩)] encZ (fun ss => ss.Perm (intKeys D)) (Maps.size D) (W.alloc (.cells #[.map (some mb)] 88)) :=
    AnyZI.keys_gives (ρ := Tryd.laysKeys_ren) { Tryd.laysKeys with } Fence.wide _ trivial rfl (by omega) W.heap.size mb cnt D _ (by simp) (by simp) (by
      obtain ⟨es, clock, hb, Ft, hs, hD⟩ := hD
      exact ⟨es, clock, (Below.heap_alloc _ _ mb hbl).trans hb, Ft, hs, hD⟩)
  have cS := AnyZI.sorted_in Tryd.laysSorted Fence.wide 5 trivial trivial trivial trivial rfl (by omega) (sortsI _) (enters_of Tryd.func70 (by kernel_rfl) rfl) 71 #[.pointer (some ⟨W.heap.size, 0, none⟩)] trivial (enters_of Tryd.func71 (by kernel_rfl) rfl) _ _ (by unfold maxLen; omega) (by omega) _ hseq
  change CallsIn _ _ Tryd.prog 60 _ _ _ at cS
  refine (callsIn_wide.1 cS).mono ?_
  rintro e w' ⟨v, ss, rfl, hS, hrow, _, hb⟩
  rw [World.size_alloc] at hrow hb
  refine Ret.mk ⟨⟨ss, hS, ?_⟩, hb⟩
  rw [List.length_mergeSort, ← map_encZ]
  exact hrow
theorem mem_intKeys {W : World} {b n : Nat} {D : DataW Unit} (hD : MapD W b n D) (x : Int) : x ∈ intKeys D ↔ Maps.has D (.int .i64 x) = true := by
  obtain ⟨es, rfl, hko⟩ := World.ownsMap.keysOf hD
  show x ∈ (es.map fun p => Go.intOf p.1) ↔ _
  rw [has_eq, List.any_eq_true, List.mem_map]
  constructor
  · rintro ⟨p, hp, rfl⟩
    obtain ⟨v, hv⟩ := hko p hp
    obtain ⟨y, _, hy, _⟩ := Maps.keyOf_i64 Tryd.underlying3 hv
    exact ⟨p, hp, by rw [hy]; simp [Lit.sameKey, Go.intOf]⟩
  · rintro ⟨p, hp, hs⟩
    obtain ⟨v, hv⟩ := hko p hp
    obtain ⟨y, _, hy, _⟩ := Maps.keyOf_i64 Tryd.underlying3 hv
    rw [hy] at hs
    exact ⟨p, hp, by rw [hy]; simpa [Lit.sameKey, Go.intOf] using hs⟩
theorem nodup_intKeys {W : World} {b n : Nat} {D : DataW Unit} (hD : MapD W b n D) : (intKeys D).Nodup := by
  obtain ⟨es, hE, hpw, _⟩ := World.ownsMap.entries hD Tryd.lawI
  obtain ⟨es', hE', hko⟩ := World.ownsMap.keysOf hD
  obtain rfl : es = es' := by rw [hE] at hE'; simpa using hE'
  subst hE
  refine List.pairwise_map.2 (hpw.imp_of_mem fun {p q} hp' hq' hne e => hne ?_)
  obtain ⟨_, ha⟩ := hko p hp'
  obtain ⟨_, hb⟩ := hko q hq'
  obtain ⟨a, _, ha, _⟩ := Maps.keyOf_i64 Tryd.underlying3 ha
  obtain ⟨b, _, hb, _⟩ := Maps.keyOf_i64 Tryd.underlying3 hb
  rw [ha, hb] at e ⊢
  exact congrArg _ e
/-- the keys of the map, sorted, are the groups that have a price -/
theorem told_keys {W : World} {b n : Nat} {D : DataW Unit} (hD : MapD W b n D) {Hm : List EntM} (hp : PrD D Hm) (hk : ∀ g : Nat, g < 65536 → (Maps.has D (.int .i64 g) = true ↔ prSum Hm g ≠ 0)) (hx : ∀ x ∈ Hm, x.1 < 65536) {ss : List Int} (hs : ss.Perm (intKeys D)) :
    ∃ gs, ss.mergeSort leI = castL gs ∧ ToldQ Hm gs := by
  have hperm : (ss.mergeSort leI).Perm (intKeys D) := (List.mergeSort_perm _ _).trans hs
  have hmem : ∀ x, x ∈ ss.mergeSort leI ↔ Maps.has D (.int .i64 x) = true := fun x => (hperm.mem_iff).trans (mem_intKeys hD x)
  have hform : ∀ x ∈ ss.mergeSort leI, ∃ g : Nat, x = g ∧ g < 65536 := fun x h => by
    obtain ⟨y, hy, e⟩ := hp.has _ ((hmem x).1 h)
    exact ⟨y.1, by have := key_inj e; exact this, hx y hy⟩
  have hnd : (ss.mergeSort leI).Nodup := hperm.nodup_iff.2 (nodup_intKeys hD)
  generalize ss.mergeSort leI = ks at hmem hform hnd
  have hc : castL (ks.map Int.toNat) = ks := by
    unfold castL
    rw [List.map_map]
    refine (List.map_congr_left fun x h => ?_).trans (List.map_id ks)
    obtain ⟨g, rfl, _⟩ := hform x h
    simp
  refine ⟨ks.map Int.toNat, hc.symm, ?_, fun g => ?_⟩
  · refine List.pairwise_map.2 (hnd.imp_of_mem fun {p q} hp' hq' hne e => hne ?_)
    obtain ⟨a, rfl, _⟩ := hform p hp'
    obtain ⟨b, rfl, _⟩ := hform q hq'
    have e' : a = b := by simpa using e
    rw [e']
  · rw [List.mem_map]
    constructor
    · rintro ⟨x, h, rfl⟩
      obtain ⟨a, rfl, ha⟩ := hform x h
      rw [Int.toNat_natCast]
      exact ⟨ha, (hk a ha).1 ((hmem _).1 h)⟩
    · rintro ⟨h1, h2⟩
      exact ⟨(g : Int), (hmem _).2 ((hk g h1).2 h2), by simp⟩

/-! rows of prices -/
/-- a price as it lies: where its numbers lie, how many, their room, the price -/
abbrev Qr := Option Addr × Nat × Nat × Int
def encQ (q : Qr) : List Value := [.slice q.1 q.2.1 q.2.2.1, .int .i64 q.2.2.2]
theorem encQ_len (q : Qr) : (encQ q).length = 2 := rfl
theorem oneQ (x : Qr) : ∀ u ∈ encQ x, u.oneCell' = true := by simp [encQ, Value.oneCell']
theorem elemQ : ElemT 38 2 32 (.agg #[.slice none 0 0, .int .i64 0]) := ⟨by kernel_rfl, rfl, by omega, by omega⟩
/-- the rows Q are the prices P -/
def SongsAt (w : World) (Q : List Qr) (P : List Pc) : Prop := Q.length = P.length ∧ ∀ i (h : i < Q.length) (h' : i < P.length), Q[i].2.1 = P[i].1.length ∧ Q[i].2.2.2 = P[i].2 ∧ IntsAt w Q[i].1 P[i].1
def PsAt (w : World) (A : Option Addr) (P : List Pc) : Prop := ∃ Q, RowsAt encQ 2 w A Q ∧ SongsAt w Q P
theorem SongsAt.below {w w' : World} {Q : List Qr} {P : List Pc} (h : SongsAt w Q P) (hb : Below w.heap.size w w') : SongsAt w' Q P := ⟨h.1, fun i h1 h2 => ⟨(h.2 i h1 h2).1, (h.2 i h1 h2).2.1, IntsAt.below (h.2 i h1 h2).2.2 hb⟩⟩
theorem PsAt.below {w w' : World} {A : Option Addr} {P : List Pc} (h : PsAt w A P) (hb : Below w.heap.size w w') : PsAt w' A P := by
  obtain ⟨Q, h1, h2⟩ := h
  exact ⟨Q, h1.below hb, h2.below hb⟩
theorem PsAt.at_ {w : World} {A : Option Addr} {P : List Pc} (h : PsAt w A P) {i : Nat} (hi : i < P.length) : ∃ b off G c, A = some ⟨b, off, none⟩ ∧ w.cell? ⟨b, off + i * 2, none⟩ = some (.slice G P[i].1.length c) ∧ w.cell? ⟨b, off + i * 2 + 1, none⟩ = some (.int .i64 P[i].2) ∧ IntsAt w G P[i].1 := by
  obtain ⟨Q, h1, h2, h3⟩ := h
  have hi' : i < Q.length := by omega
  obtain ⟨b, off, e, hc⟩ := h1 i hi'
  obtain ⟨e1, e2, e3⟩ := h3 i hi' hi
  refine ⟨b, off, Q[i].1, Q[i].2.2.1, e, ?_, ?_, e3⟩
  · have := hc 0 _ rfl; rw [← e1]; exact this
  · have := hc 1 _ rfl; rw [← e2]; exact this
/-- rows that are owned: they stay behind appends to a row of another type -/
def SongsOwn (w : World) (base : Nat) (Q : List Qr) (P : List Pc) : Prop := Q.length = P.length ∧ ∀ i (h : i < Q.length) (h' : i < P.length), Q[i].2.1 = P[i].1.length ∧ Q[i].2.2.2 = P[i].2 ∧ w.ownsRow base 3 1 (.slice Q[i].1 P[i].1.length Q[i].2.2.1) P[i].1.length (P[i].1.flatMap encI)
theorem SongsOwn.songs {w : World} {base : Nat} {Q : List Qr} {P : List Pc} (h : SongsOwn w base Q P) : SongsAt w Q P := ⟨h.1, fun i h1 h2 => ⟨(h.2 i h1 h2).1, (h.2 i h1 h2).2.1, RowsAt.of_own encI_len (h.2 i h1 h2).2.2⟩⟩
theorem SongsOwn.below {w w' : World} {base : Nat} {Q : List Qr} {P : List Pc} (h : SongsOwn w base Q P) (hb : Below w.heap.size w w') : SongsOwn w' base Q P := ⟨h.1, fun i h1 h2 => ⟨(h.2 i h1 h2).1, (h.2 i h1 h2).2.1, own_below' (h.2 i h1 h2).2.2 hb⟩⟩
theorem SongsOwn.kept {w w' : World} {base base2 : Nat} {Q : List Qr} {P : List Pc} (h : SongsOwn w base Q P) {e : TypeId} {size n : Nat} {v : Value} {xs : List Value} (ho : w.ownsRow base2 e size v n xs) (hne : 3 ≠ e) (hg : w.grownBy w' v.ownBlock) : SongsOwn w' base Q P :=
  ⟨h.1, fun i h1 h2 => ⟨(h.2 i h1 h2).1, (h.2 i h1 h2).2.1, (h.2 i h1 h2).2.2.kept hg (own_apart (h.2 i h1 h2).2.2 ho hne)⟩⟩
theorem SongsOwn.nil (w : World) (base : Nat) : SongsOwn w base [] [] := ⟨rfl, fun i h _ => by simp at h⟩
theorem SongsOwn.snoc {w : World} {base : Nat} {Q : List Qr} {P : List Pc} (h : SongsOwn w base Q P) {q : Qr} {x : Pc} (h1 : q.2.1 = x.1.length) (h2 : q.2.2.2 = x.2) (h3 : w.ownsRow base 3 1 (.slice q.1 x.1.length q.2.2.1) x.1.length (x.1.flatMap encI)) : SongsOwn w base (Q ++ [q]) (P ++ [x]) :=
  ⟨by simp [h.1], fun i hi hi' => by
    by_cases e : i < Q.length
    · have e' : i < P.length := by have := h.1; omega
      rw [List.getElem_append_left e, List.getElem_append_left e']
      exact h.2 i e e'
    · have e1 : i = Q.length := by simp at hi; omega
      have e2 : ¬ i < P.length := by have := h.1; omega
      rw [List.getElem_append_right (by omega), List.getElem_append_right (by have := h.1; omega)]
      simp only [List.getElem_singleton]
      exact ⟨h1, h2, h3⟩⟩
end Go.Proofs.YtggcooplhodocaaDoor

namespace Go.Proofs.YtggcooplhodocaaDoor
open Go.RowKit Go.Shelf Go.Maps Fam

theorem key_form {key : Value} {kl : Lit} (h : keyOf Tryd.prog 3 key = some kl) : ∃ x : Int, key = .int .i64 x := by
  obtain ⟨x, rfl, _⟩ := Maps.keyOf_i64 Tryd.underlying3 h
  exact ⟨x, rfl⟩
theorem key_lit {x : Int} {kl : Lit} (h : keyOf Tryd.prog 3 (.int .i64 x) = some kl) : kl = .int .i64 x := by
  obtain ⟨y, e, rfl, _⟩ := Maps.keyOf_i64 Tryd.underlying3 h
  rw [encZ_inj e]
theorem rB_form {v : Value} {y : DataW Unit × List MemPlace} (h : rB v = some y) : ∃ c : Int, v = .int .i64 c := by
  unfold rB at h
  split at h
  · exact ⟨_, rfl⟩
  · cases h
theorem same_int {x : Int} : ∀ z : Lit, z.sameKey (.int .i64 x) = true → z = .int .i64 x := fun _ h => WideAt.sameKey_eq h
theorem MapD.keepG {n lb mb b k : Nat} {D : DataW Unit} {X Y : World} (h : KeepG n lb mb X Y) (hD : MapD X b k D) (h1 : b < n) (h2 : b ≠ lb) (h3 : b ≠ mb) : MapD Y b k D := hD.blk (h.block b h1 h2 h3)
theorem grow_below {n mb : Nat} {X Y Z : World} (h : KeepG n mb mb X Y) {m : Nat} (k : Below m Y Z) (hn : n ≤ m) : KeepG n mb mb X Z := ⟨k.os.trans h.os, k.tape.trans h.tape, k.output.trans h.output, Nat.le_trans h.size k.size, fun b h1 h2 h3 => (k.block b (by omega)).trans (h.block b h1 h2 h3)⟩
theorem joinDag {P G : Prop} (h1 : Hid P → G) (h2 : P) : G := h1 (Lib.hid h2)
set_option maxRecDepth 100000 in
set_option maxHeartbeats 4000000 in
theorem told_any (S R : Int) (A : Option Addr) (ca : Nat) (l : List St) (base : Nat) (Hm : List EntM) (K : List Nat) (D : DataW Unit) (cnt wb mb : Nat) (u : Value) (G : Option Addr) (w : World) (hQ : GrownQ S R A ca l base Hm K D cnt wb mb u G w) (hok : BookOk S R l) (hT : Tab w) (hm1 : mb ≠ 1) :
    Calls Tryd.prog 48 #[.pointer (some ⟨wb, 0, none⟩)] w (Ret fun v w' => (∃ gs B c, v = .slice B (toldL Hm gs).length c ∧ ToldQ Hm gs ∧ PsAt w' B (toldL Hm gs)) ∧ KeepG w.heap.size mb mb w w') := by
  have hmany := hQ.grown.many hok.net
  rw [hist_len] at hmany
  have hH32 : Hm.length ≤ 32 := by have := hok.dim; have h5 : (netB S R l).n = S.toNat := rfl; omega
  have HP := Lib.hid hQ.pr
  have hcnt := hQ.cnt
  have hown := hQ.map
  have HX := Lib.hid hQ.wood
  have hwb := blk_lt hQ.wood
  have hmb := MapD.lt hown
  have hne : wb ≠ mb := fun e => by
    obtain ⟨es, clock, h1, _⟩ := hown
    rw [← e, hQ.wood] at h1; cases h1
  have HL16 : Hid (∀ x ∈ Hm, x.1 < 65536) := Lib.hid fun x hx => by
    obtain ⟨k, _, ho⟩ := hQ.grown.at_ _ (List.mem_map.2 ⟨x, hx, rfl⟩)
    exact lt_of_bits fun v hv => by
      have h1 := ho.sub v hv
      have h2 : (netB S R l).n = S.toNat := rfl
      have h3 := hok.dim
      omega
  have y4 : w.cell? ⟨wb, 4, none⟩ = some (.map (some mb)) := (blk_cell hQ.wood).trans rfl
  have HT := Lib.hid hT
  clear hQ hmany hT hok
  go_enter Tryd.func48, Tryd.ntmps48
  go_wp2_with (first | (at_range; refine wpList_range_own _ rfl (.tmp 13) 88 rfl 3 2 Tryd.lawI Tryd.underlying88 rB mb cnt D rfl hown ?_; intro W2 hrg2 hg2 hs2))
  clear y4 hown
  go_frame
  go_loopw [] (fun wr => ∃ (left : Lit → Bool) (D2 : DataW Unit) (c2 : Nat), Hid (wr.ranges Tryd.prog 3 rB mb w.heap.size cnt D2 left c2) ∧ Hid (Cut D D2 left) ∧ Hid (KeepG w.heap.size mb mb w wr)) (fun wr => wr.rangeLeft mb w.heap.size)
  case atStart => exact ⟨_, D, _, Lib.hid hrg2, Lib.hid (Cut.start D), Lib.hid ((KeepG.refl _ _ _ _).grown hg2 (Nat.le_refl _) (fun r e => by cases e))⟩
  case round =>
    clear hrg2 hg2 hs2
    obtain ⟨left, D2, c2, HR, HC, HKp⟩ := hrel
    go_wp2_with (first | (at_next; refine wpList_next_ranges _ rfl (.tmp 14) rfl 3 Tryd.lawI rB (fun x : Int => .int .i64 x) (fun x : Int => .int .i64 x) (fun key kl h => key_form h) (fun v y h => rB_form h) mb w.heap.size cnt D2 left c2 rfl HR.out ?_ ?_))
    · intro hc0 hl0
      obtain ⟨hP2, hkey2⟩ := HC.out.ends hl0 HP.out
      have hown2 : MapD wr mb cnt D2 := HR.out.owns
      have HM0 := Lib.hid hown2
      have HP2 := Lib.hid hP2
      have HK2 := Lib.hid hkey2
      have hst := HKp.out.size
      have y4 : wr.cell? ⟨wb, 4, none⟩ = some (.map (some mb)) := (blk_cell ((HKp.out.block wb hwb hne hne).trans HX.out)).trans rfl
      have HKe := Lib.hid (keys_any (some mb) wr)
      have HSo := Lib.hid (sorted_any mb cnt D2 wr hown2 (by omega))
      clear hP2 hkey2 hown2 HC HR hc0 hl0
      go_wp2_with fail
      refine HKe.out.mono ?_
      rintro e w1 ⟨v, rfl, rfl, rfl⟩
      clear HKe y4
      go_wp2_with fail
      refine HSo.out.mono ?_
      rintro e w2 ⟨v, rfl, ⟨ss, hperm, hrow⟩, hb⟩
      clear HSo
      obtain ⟨gs, hgs, hTo⟩ := told_keys HM0.out HP2.out HK2.out HL16.out hperm
      rw [hgs] at hrow
      obtain ⟨Gk, ck, rfl, hck⟩ := own_form hrow
      have hal : Below wr.heap.size wr (wr.alloc (.cells #[.map (some mb)] 88)) := below_alloc' (Below.refl _ _) _
      have hb2 : Below wr.heap.size wr w2 := hal.trans (hb.mono (by omega))
      have hs2 : wr.heap.size ≤ w2.heap.size := hb2.size
      have HKp2 := Lib.hid (grow_below HKp.out hb2 hst)
      have HM2 := Lib.hid (HM0.out.below hb2)
      have HIk : Hid (IntsAt w2 Gk (castL gs)) := Lib.hid (RowsAt.of_own encI_len hrow)
      have HTo := Lib.hid hTo
      have hlen := hTo.len
      rw [castL_len] at hck ⊢
      clear hb hal hb2 hrow hTo hperm hgs HM0 HK2 HKp
      have HB0 : Hid (Below w2.heap.size w2 w2) := Lib.hid (Below.refl _ _)
      go_wp2
      go_loopw [5, 34] (fun uo i wv => ∃ (k : Nat) (Q : List Qr), k ≤ gs.length ∧ i = .int .i64 k ∧ Hid (Q.length = k) ∧ Hid (wv.ownsRow w2.heap.size 38 2 uo Q.length (Q.flatMap encQ)) ∧ Hid (SongsOwn wv w2.heap.size Q (toldL Hm (gs.take k))) ∧ Hid (Below w2.heap.size w2 wv)) (fun _ i _ => gs.length - (intOf i).toNat)
      case atStart => exact ⟨0, [], by omega, rfl, Lib.hid rfl, Lib.hid (World.ownsRow_nil w2 w2.heap.size 38 2), Lib.hid (SongsOwn.nil _ _), HB0⟩
      case round =>
        clear HB0
        obtain ⟨k, Q, hk, rfl, hQk, HO, HS, HB⟩ := hrel
        by_cases hkn : k < gs.length
        · obtain ⟨b, off, rfl, g1⟩ := IntsAt.at_ (IntsAt.below HIk.out HB.out) (i := k) (by rw [castL_len]; exact hkn)
          rw [castL_at hkn] at g1
          have HTS := Lib.hid (take_snoc hkn rfl)
          have hg := ((HTo.out.mem _).1 (List.getElem_mem hkn)).1
          generalize gs[k] = g at g1 HTS hg
          have hMv := HM2.out.below HB.out
          have hlook := hMv.look (g := (g : Int)) (x := prSum Hm g) ⟨by omega, by omega⟩ (HP2.out.at_ g hg)
          obtain ⟨p, hp⟩ : ∃ p, prSum Hm g = p := ⟨_, rfl⟩
          rw [hp] at hlook
          have Hp := Lib.hid hp
          have y4 : wr.cell? ⟨wb, 4, none⟩ = some (.map (some mb)) := (blk_cell (blk_below HB.out ((HKp2.out.block wb hwb hne hne).trans HX.out))).trans rfl
          have hsv := HB.out.size
          have hbx := heap_alloc_new wr (.cells #[.slice none 0 0, .int .i64 p] 38)
          have hba := below_alloc' (Below.refl wr.heap.size wr) (.cells #[.slice none 0 0, .int .i64 p] 38)
          have hza := World.size_alloc wr (.cells #[.slice none 0 0, .int .i64 p] 38)
          have k0 : (0 : Int) ≤ (k : Int) := by omega
          have k1 : (k : Int) < (gs.length : Int) := by omega
          have HT3 : Hid (Tab (wr.alloc (.cells #[.slice none 0 0, .int .i64 p] 38))) := Lib.hid fun j hj => by
            have h1 := HT.out j hj
            have h2 := block_lt_of_cell h1
            dsimp only at h2
            have h3 : w2.cell? ⟨1, j, none⟩ = _ := (World.cell?_of_block (a := ⟨1, j, none⟩) (HKp2.out.block 1 h2 (fun e => hm1 e.symm) (fun e => hm1 e.symm))).trans h1
            exact cell_below hba (cell_below HB.out h3)
          have h1pb : 1 < wr.heap.size := by
            have h1 := HT.out 0 (by decide)
            have h2 := block_lt_of_cell h1
            dsimp only at h2
            omega
          clear hp
          go_upto_region 11 with fail
          have HAl := Lib.hid hba
          obtain ⟨wv, hwv⟩ : ∃ x, x = wr := ⟨_, rfl⟩
          subst hwv
          clear hba g1 hlook y4 hMv
          generalize hpb : wv.heap.size = pb at *
          have HPB := Lib.hid hpb
          generalize wv.alloc (.cells #[.slice none 0 0, .int .i64 p] 38) = W3 at *
          have HX3 := Lib.hid hbx
          have hs3 : pb + 1 ≤ W3.heap.size := by omega
          clear hza hbx hpb
          go_wp2
          go_loopw [9] (fun i wv => ∃ (kk r : Nat) (us : Value), i = .int .i64 r ∧ Hid (RestB g kk r) ∧ r < 65536 ∧ Hid (wv.heap[pb]? = some (.cells #[us, .int .i64 p] 38 (0, 0))) ∧ Hid (wv.ownsRow (pb + 1) 3 1 us (bitsK g kk).length ((bitsK g kk).flatMap encI)) ∧ Hid (Below pb W3 wv) ∧ pb + 1 ≤ wv.heap.size) (fun i _ => (intOf i).toNat)
          case atStart => exact ⟨0, g, .slice none 0 0, rfl, Lib.hid (RestB.start g), hg, HX3, Lib.hid (World.ownsRow_nil W3 (pb + 1) 3 1), Lib.hid (Below.refl _ _), hs3⟩
          case round =>
            clear HX3
            obtain ⟨kk, r, us, rfl, HRe, hr, HXp, HOp, HBp, hsp⟩ := hrel
            by_cases hr0 : r = 0
            · subst hr0
              have hbe := HRe.out.done
              rw [hbe] at HOp
              obtain ⟨Au, cu, rfl, hcu⟩ := own_form HOp.out
              have hBv : Below wv.heap.size wv wr := by rw [HPB.out]; exact HAl.out.trans HBp.out
              have HOo := Lib.hid (own_below' HO.out hBv)
              have HSo : Hid (SongsOwn wr w2.heap.size (Q ++ [(Au, (bitsL g).length, cu, p)]) (toldL Hm (gs.take (k + 1)))) := Lib.hid (by
                have h1 : toldL Hm (gs.take (k + 1)) = toldL Hm (gs.take k) ++ [(bitsL g, p)] := by
                  unfold toldL
                  rw [HTS.out, List.map_append, ← Hp.out]; rfl
                rw [h1]
                exact (HS.out.below hBv).snoc rfl rfl (own_mono HOp.out (by omega)))
              have HBo := Lib.hid (below_trans' HB.out hBv)
              have c0 : wr.cell? ⟨pb, 0, none⟩ = some (.slice Au (bitsL g).length cu) := (blk_cell HXp.out).trans rfl
              have c1 : wr.cell? ⟨pb, 1, none⟩ = some (.int .i64 p) := (blk_cell HXp.out).trans rfl
              have hbk := heap_alloc_new wr (.cells #[.slice Au (bitsL g).length cu, .int .i64 p] 38)
              have HOA := Lib.hid (HOo.out.alloc (.cells #[.slice Au (bitsL g).length cu, .int .i64 p] 38))
              have hrO := own_base HO.out
              have hal : Below wr.heap.size wr (wr.alloc (.cells #[.slice Au (bitsL g).length cu, .int .i64 p] 38)) := below_alloc' (Below.refl _ _) _
              have hza := World.size_alloc wr (.cells #[.slice Au (bitsL g).length cu, .int .i64 p] 38)
              have hQ40 : Q.length ≤ 100000 := by have := hQk.out; have := HTo.out.len; omega
              clear hBv HO HS HB HOp HBp HXp HRe hbe HOo
              go_wp2_with (at_builtin; refine wpList_push _ rfl (.tmp 60) (.tmp 62) 36 rfl elemQ encQ_len oneQ Tryd.underlying36 w2.heap.size _ Q rfl HOA.out hQ40 (Au, (bitsL g).length, cu, p) wr.heap.size (by rfl) _ rfl _ _ hbk (by omega) ?_; intro g2 cap w6 hO6 hg6)
              have HS6 := Lib.hid ((HSo.out.below hal).kept HOA.out (by decide) hg6)
              have HB6 := Lib.hid ((below_trans' HBo.out hal).grown hg6 (by omega) hrO)
              have HO6 := Lib.hid hO6
              clear hO6 hg6 hrO HOA hbk hal hza c0 c1 HSo HBo
              go_roundw
              case rel => exact ⟨k + 1, _, by omega, by go_num, Lib.hid (by rw [len_snoc, hQk.out]), by rw [len_snoc]; exact HO6, HS6, HB6⟩
              case measure => simp [intOf]; omega
            · obtain ⟨hb1, hb2, hb3, hb4⟩ := HRe.out.next hr0 (by omega) hg
              have HTd : Tab wr.drew := fun j hj => (World.cell?_of_block (a := ⟨1, j, none⟩) (HBp.out.block 1 h1pb)).trans (HT3.out j hj)
              have HZ := Lib.hid (tz_any r hr hr0 wr.drew HTd)
              have hw : IntKind.u64.wrap (r : Int) = (r : Int) := by rw [IntKind.wrap_u64]; omega
              have d0 : ((r : Int) != 0) = true := by simp; omega
              have hand : bits .and .i64 (r : Int) ((r : Int) - 1) = ((r &&& (r - 1) : Nat) : Int) := by
                rw [show ((r : Int) - 1) = ((r - 1 : Nat) : Int) by omega]; exact bits_and_nat (by omega) (by omega)
              have hTl : (bitsK g kk).length ≤ 16 := Nat.le_trans (bitsK_len g kk) HRe.out.k16
              have HN := Lib.hid hb1
              have HRn := Lib.hid hb2
              have c0 : wr.cell? ⟨pb, 0, none⟩ = some us := (blk_cell HXp.out).trans rfl
              clear hb1 hb2 HTd
              obtain ⟨t, ht⟩ : ∃ t, Lib.ctz 64 r = t := ⟨_, rfl⟩
              rw [ht] at HN HRn hb4 HZ
              obtain ⟨r2, hr2⟩ : ∃ r2, r &&& (r - 1) = r2 := ⟨_, rfl⟩
              rw [hr2] at HRn hb3 hand
              obtain ⟨T, hT⟩ : ∃ T, bitsK g kk = T := ⟨_, rfl⟩
              rw [hT] at HN HOp hTl
              clear ht hr2 hT
              go_upto_region 14 with fail
              refine wp_region_held (S := fun _ => True) (by kernel_rfl) ?_
              refine wpAnyH_take (i := 0) (v := ?_) rfl (by kernel_rfl) (by kernel_rfl) (by kernel_rfl) (fun _ _ _ h => h) (Or.inl ⟨by rfl, ?_⟩) trivial ?_
              rotate_left 1
              · intro W hW; obtain _ := hW; go_simp <;> with_reducible rfl
              refine wpAnyH_take (i := 2) (v := ?_) rfl (by kernel_rfl) (by kernel_rfl) (by kernel_rfl) (fun _ _ _ h => h) (Or.inl ⟨by rfl, ?_⟩) trivial ?_
              rotate_left 1
              · intro W hW; obtain _ := hW; go_simp <;> with_reducible rfl
              refine wpAnyH_take (i := 3) (v := ?_) rfl (by kernel_rfl) (by kernel_rfl) (by kernel_rfl) (fun _ _ _ h => h) (Or.inl ⟨by rfl, ?_⟩) trivial ?_
              rotate_left 1
              · intro W hW; obtain _ := hW; go_simp <;> with_reducible rfl
              simp only [Act.put, List.setIfInBounds_toArray]
              have c0a := cell_alloc c0 (.cells #[.int .i64 t] 3)
              apply joinDag
              · intro F
                refine wpAnyH_ready (rs := [1, 4]) (by kernel_rfl) (by simp) ?_
                refine AllReadyH.cons rfl (fun K hK => ?_) (AllReadyH.cons rfl (fun K hK => ?_) AllReadyH.nil)
                · go_simp
                  refine hK.out _ _ trivial (fun _ => ?_)
                  clear hK K
                  refine wpAnyH_ready (rs := [4]) (by kernel_rfl) (by simp) ?_
                  refine AllReadyH.cons rfl (fun K hK => ?_) AllReadyH.nil
                  go_simp
                  refine HZ.out.mono ?_
                  rintro e V1 ⟨v, rfl, rfl, rfl⟩
                  refine hK.out _ _ trivial (fun _ => ?_)
                  clear hK K
                  refine wpAnyH_ready (rs := [5]) (by kernel_rfl) (by simp) ?_
                  refine AllReadyH.cons rfl (fun K hK => ?_) AllReadyH.nil
                  go_simp
                  refine hK.out _ _ trivial (fun _ => ?_)
                  clear hK K
                  exact F.out
                · go_simp
                  refine HZ.out.mono ?_
                  rintro e V1 ⟨v, rfl, rfl, rfl⟩
                  refine hK.out _ _ trivial (fun _ => ?_)
                  clear hK K
                  refine wpAnyH_ready (rs := [1, 5]) (by kernel_rfl) (by simp) ?_
                  refine AllReadyH.cons rfl (fun K hK => ?_) (AllReadyH.cons rfl (fun K hK => ?_) AllReadyH.nil)
                  · go_simp
                    refine hK.out _ _ trivial (fun _ => ?_)
                    clear hK K
                    refine wpAnyH_ready (rs := [5]) (by kernel_rfl) (by simp) ?_
                    refine AllReadyH.cons rfl (fun K hK => ?_) AllReadyH.nil
                    go_simp
                    refine hK.out _ _ trivial (fun _ => ?_)
                    clear hK K
                    exact F.out
                  · go_simp
                    refine hK.out _ _ trivial (fun _ => ?_)
                    clear hK K
                    refine wpAnyH_ready (rs := [1]) (by kernel_rfl) (by simp) ?_
                    refine AllReadyH.cons rfl (fun K hK => ?_) AllReadyH.nil
                    go_simp
                    refine hK.out _ _ trivial (fun _ => ?_)
                    clear hK K
                    exact F.out
              · have hnb : ((wr.alloc (.cells #[.int .i64 t] 3)).drew).heap[wr.heap.size]? = some (.cells #[.int .i64 t] 3 (0, 0)) := heap_alloc_new wr (.cells #[.int .i64 t] 3)
                have HOb := Lib.hid ((HOp.out.alloc (.cells #[.int .i64 t] 3)).drew)
                have hba := below_alloc' (Below.refl wr.heap.size wr) (.cells #[.int .i64 t] 3)
                have HBb : Hid (Below pb W3 (wr.alloc (.cells #[.int .i64 t] 3)).drew) := Lib.hid (HBp.out.trans (hba.mono (by omega))).drew
                have HXb : Hid ((wr.alloc (.cells #[.int .i64 t] 3)).drew.heap[pb]? = some (.cells #[us, .int .i64 p] 38 (0, 0))) := Lib.hid (blk_below hba.drew HXp.out)
                have hzb : pb + 1 ≤ (wr.alloc (.cells #[.int .i64 t] 3)).drew.heap.size := by
                  show pb + 1 ≤ (wr.alloc (.cells #[.int .i64 t] 3)).heap.size
                  rw [World.size_alloc]; omega
                have hrO := own_base HOp.out
                clear hba c0 c0a HZ HOp HXp HBp
                generalize (wr.alloc (.cells #[.int .i64 t] 3)).drew = V1 at *
                generalize wr.heap.size = nb at *
                refine wpAnyH_ready (rs := [6]) (by kernel_rfl) (by simp) ?_
                refine AllReadyH.cons rfl (fun K hK => ?_) AllReadyH.nil
                refine step_push (w := V1) rfl (.tmp 53) (.tmp 57) 25 rfl elemI encI_len oneI Tryd.underlying25 (pb + 1) us T (by rfl) HOb.out (by omega) (t : Int) nb (by rfl) #[.int .i64 t] rfl 3 (0, 0) hnb hzb ?_
                intro g2 cap2 V2 hO2 hg2
                have hsz2 := hg2.size
                have HX2 := Lib.hid (blk_grown hg2 HXb.out (fun e => by have := hrO _ e.symm; omega))
                have HB2 := Lib.hid (HBb.out.grown hg2 (by omega) (fun r e => by have := hrO r e; omega))
                refine hK.out _ _ trivial (fun _ => ?_)
                clear hK K hnb hg2 hrO HXb HBb HOb
                refine wpAnyH_take (i := 7) (v := ?_) rfl (by kernel_rfl) (by kernel_rfl) (by kernel_rfl) (fun _ _ _ h => h) (Or.inl ⟨by rfl, ?_⟩) trivial ?_
                rotate_left 1
                · intro W hW; obtain _ := hW; go_simp <;> with_reducible rfl
                simp only [Act.put, List.setIfInBounds_toArray]
                have e0 : V2.cell? ⟨pb, 0, none⟩ = some us := (blk_cell HX2.out).trans rfl
                have f0 := blk_frozen (i := 0) HX2.out
                refine wpAnyH_ready (rs := [8]) (by kernel_rfl) (by simp) ?_
                refine AllReadyH.cons rfl (fun K hK => ?_) AllReadyH.nil
                go_simp
                refine hK.out _ _ trivial (fun _ => ?_)
                clear hK K e0 f0
                refine wpAnyH_done (by kernel_rfl) ?_ _
                have HX6 : Hid ((V2.setCell ⟨pb, 0, none⟩ (.slice (some ⟨g2, 0, none⟩) (T.length + 1) cap2)).heap[pb]? = some (.cells #[.slice (some ⟨g2, 0, none⟩) (T.length + 1) cap2, .int .i64 p] 38 (0, 0))) := Lib.hid (blk_set (i := 0) HX2.out _)
                have HO6 := Lib.hid (ownsRow_setCell_below (a := ⟨pb, 0, none⟩) hO2 (by dsimp only; omega) (.slice (some ⟨g2, 0, none⟩) (T.length + 1) cap2))
                have HB6 := Lib.hid (HB2.out.setCell (p := ⟨pb, 0, none⟩) (Nat.le_refl _) (.slice (some ⟨g2, 0, none⟩) (T.length + 1) cap2))
                have hs6 : pb + 1 ≤ (V2.setCell ⟨pb, 0, none⟩ (.slice (some ⟨g2, 0, none⟩) (T.length + 1) cap2)).heap.size := by simp; omega
                clear hO2 HX2 HB2
                go_wp2
                go_roundw
                case rel => exact ⟨t + 1, r2, _, rfl, HRn, by omega, HX6, by rw [HN.out, len_snoc]; exact HO6, HB6, hs6⟩
                case measure => simp [intOf]; omega
        · obtain rfl : k = gs.length := by omega
          rw [List.take_length] at HS
          obtain ⟨B, c, rfl, hc⟩ := own_form HO.out
          have hlen : (toldL Hm gs).length = Q.length := by rw [← HS.out.1]
          have HR : Hid (RowsAt encQ 2 wr B Q) := Lib.hid (RowsAt.of_own encQ_len HO.out)
          have HKf := Lib.hid (grow_below HKp2.out HB.out (by omega))
          have HSf := Lib.hid HS.out.songs
          have HLf := Lib.hid hlen
          clear hlen HO HS HB
          go_wp2
          go_ret
          exact Ret.mk ⟨⟨gs, B, c, by rw [HLf.out]; rfl, HTo.out, Q, HR.out, HSf.out⟩, HKf.out⟩
    · intro x c kl yd yp w4 cnt4 hkey hlk hv hat hrg4 hlt hg4 hs4 hen
      obtain rfl := key_lit hkey
      have hyc : D2.atKey (.int .i64 x) (dB 0) = dB c := by
        rw [rB_v] at hv
        injection hv with hv
        injection hv with hv _
        rw [hat, ← hv]
      have HKp4 := Lib.hid (HKp.out.grown hg4 (Nat.le_refl _) (fun r e => by injection e with e; exact .inr (.inr (Nat.le_of_eq e))))
      have y4 : w4.cell? ⟨wb, 4, none⟩ = some (.map (some mb)) := (blk_cell ((HKp4.out.block wb hwb hne hne).trans HX.out)).trans rfl
      clear hat hv hs4 hg4
      by_cases hc : c = 0
      · subst hc
        have HCn := Lib.hid (HC.out.drop same_int (by simp [Lit.sameKey]) hlk hyc)
        have hm4 : wb < w4.heap.size := blk_lt ((HKp4.out.block wb hwb hne hne).trans HX.out)
        go_wp2_with (first | (at_delete; refine wpList_delete_ranges _ rfl (.tmp 25) (.tmp 26) 88 3 rfl 2 Tryd.lawI Tryd.underlying88 rB mb w.heap.size cnt D2 _ _ rfl hrg4 (.int .i64 x) _ rfl hkey ?_; intro w6 cnt6 hrg6 hle hturn))
        have HKp6 := Lib.hid (HKp4.out.grown hturn.grown (Nat.le_refl _) (fun r e => by injection e with e; exact .inl e.symm))
        simp only [Act.put]
        go_roundw
        case rel => exact ⟨_, _, cnt6, Lib.hid hrg6, HCn, HKp6⟩
        case measure => rw [hrg6.left_eq, HR.out.left_eq]; omega
      · have HCn := Lib.hid (HC.out.pass same_int hlk (by rw [hyc]; exact fun e => hc (dB_inj e)))
        have d1 : (c == 0) = false := by simpa using hc
        go_wp2
        go_roundw
        case rel => exact ⟨_, D2, cnt4, Lib.hid hrg4, HCn, HKp4⟩
        case measure => rw [hrg4.left_eq, HR.out.left_eq]; exact hlt
end Go.Proofs.YtggcooplhodocaaDoor

namespace Go.Proofs.YtggcooplhodocaaDoor
open Go.RowKit Go.Shelf Go.Maps Fam

/-- what Prices answers -/
def PricesQ (S R : Int) (l : List St) (v : Value) (w : World) : Prop :=
  (bookErr S R l ≠ 0 ∧ v = .tuple #[.slice none 0 0, .int .i64 (bookErr S R l)]) ∨
  (bookErr S R l = 0 ∧ ¬ Full (netB S R l) (allS (netB S R l)) ∧ v = .tuple #[.slice none 0 0, .int .i64 13]) ∨
  (bookErr S R l = 0 ∧ ∃ P B c b, v = .tuple #[.slice B P.length c, .int .i64 0] ∧ PsAt w B P ∧ P.length ≤ 40 ∧ Best (netB S R l) b ∧ pricesV S R l P = (b, 0))
theorem Tab.lt {w : World} (h : Tab w) : 1 < w.heap.size := block_lt_of_cell (h 0 (by decide))
theorem PsAt.same {w w' : World} {A : Option Addr} {P : List Pc} (h : PsAt w A P) (hb : Below w.heap.size w w') : PsAt w' A P := h.below hb
set_option maxRecDepth 100000 in
set_option maxHeartbeats 2000000 in
theorem prices_any (S R : Int) (A : Option Addr) (ca : Nat) (l : List St) (w : World) (hl : StepsAt w A l) (hn : l.length ≤ 100000) (hT : Tab w) :
    Calls Tryd.prog 23 #[vBook S R A l.length ca] w (Ret fun v w' => PricesQ S R l v w' ∧ Below w.heap.size w w') := by
  have Hgr := Lib.hid (fun W (h : StepsAt W A l) => grown_any S R A ca l W h hn)
  have Hl := Lib.hid hl; clear hl
  have HT := Lib.hid hT; clear hT
  unfold vBook at Hgr ⊢
  have hX := heap_alloc_new w (.cells #[.int .i64 S, .int .i64 R, .slice A l.length ca] 24)
  have hba := below_alloc' (Below.refl w.heap.size w) (.cells #[.int .i64 S, .int .i64 R, .slice A l.length ca] 24)
  have y0 := (blk_cell (i := 0) hX).trans rfl
  have y1 := (blk_cell (i := 1) hX).trans rfl
  have y2 := (blk_cell (i := 2) hX).trans rfl
  go_enter Tryd.func23, Tryd.ntmps23
  go_wp2_with fail
  have HB0 := Lib.hid hba
  clear hba
  generalize w.alloc (.cells #[.int .i64 S, .int .i64 R, .slice A l.length ca] 24) = w0 at *
  refine (Hgr.out w0 (Hl.out.below HB0.out)).mono ?_
  rintro e w1 ⟨v, rfl, hres, hB1⟩
  have HB1 := Lib.hid (below_trans' HB0.out hB1)
  have hs0 := HB0.out.size
  clear hB1 HB0 hX y0 y1 y2
  rcases hres with ⟨he, rfl⟩ | ⟨he, hnf, rfl⟩ | ⟨he, Hm, K, D, cnt, wb, mb, u, G, c, rfl, hc1, hc2, hQ⟩
  · have d1 : (bookErr S R l != 0) = true := by simpa using he
    have HE := Lib.hid he
    clear he
    go_wp2
    go_ret2
    exact Ret.mk ⟨.inl ⟨HE.out, rfl⟩, HB1.out⟩
  · have HE := Lib.hid he
    clear he
    go_wp2
    go_ret2
    exact Ret.mk ⟨.inr (.inl ⟨HE.out, hnf, rfl⟩), HB1.out⟩
  · have HE := Lib.hid he
    have HQ := Lib.hid hQ
    have hok := bookErr_iff.1 he
    have HK := Lib.hid hok
    clear he hQ
    have h1w := HT.out.lt
    have hlow := HQ.out.low
    have Hto := Lib.hid (told_any S R A ca l _ Hm K D cnt wb mb u G w1 HQ.out hok (HT.out.below HB1.out) (by omega))
    clear hok
    go_wp2_with fail
    refine Hto.out.mono ?_
    rintro e w2 ⟨v, rfl, ⟨gs, B, cb, rfl, hto, hps⟩, hk⟩
    have HB2 : Hid (Below w.heap.size w w2) := Lib.hid (HB1.out.trans (hk.to_below (by omega) (by omega) HB1.out.size))
    have HP : Hid (PricesQ S R l (.tuple #[.slice B (toldL Hm gs).length cb, .int .i64 0]) w2) := Lib.hid (by
      obtain ⟨htr, hcost⟩ := layL_tree HK.out.net HQ.out.grown HQ.out.kept HQ.out.full
      refine .inr (.inr ⟨HE.out, toldL Hm gs, B, cb, bound (prc (hist Hm)), rfl, hps, ?_, ?_, told_right HK.out HQ.out.grown hto⟩)
      · have h1 := HQ.out.grown.many HK.out.net
        rw [hist_len] at h1
        have h2 := hto.len
        have h3 := HK.out.dim
        have h5 : (netB S R l).n = S.toNat := rfl
        unfold toldL
        rw [List.length_map]
        omega
      · rw [← hcost]
        exact best_of htr.2.2.2 (HQ.out.grown.right HK.out.net) hcost)
    clear hps hto hk HQ Hto
    go_wp2
    go_ret2
    exact Ret.mk ⟨HP.out, HB2.out⟩
end Go.Proofs.YtggcooplhodocaaDoor
