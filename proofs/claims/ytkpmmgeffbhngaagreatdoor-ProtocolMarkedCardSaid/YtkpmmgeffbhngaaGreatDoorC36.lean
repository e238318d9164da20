/- What the laws of the chapter rest on, part 36. -/
import Derived.Test.YtkpmmgeffbhngaaGreatDoorC26
import Derived.Test.YtkpmmgeffbhngaaGreatDoorC35
import Derived.Sort.CutIn
set_option linter.unusedSimpArgs false
set_option linter.unusedVariables false
set_option linter.unnecessarySimpa false
namespace Prot
end Prot
namespace Go.Shelf
end Go.Shelf
namespace Go.Maps
end Go.Maps
namespace Go.Proofs.YtkpmmgeffbhngaaGreatDoor
open Go.RowKit Go.Shelf Prot Go.Lib Go.Maps
def Touchy (o : Obj) : Prop := (∃ cs fr, o = .cells cs 106 fr ∨ o = .cells cs 161 fr ∨ o = .cells cs 36 fr ∨ o = .cells cs 23 fr) ∨ ∃ es c, o = .map es c
structure TchT (N : Nat) (X Y : World) : Prop where
  os : Y.os = X.os
  tape : Y.tape = X.tape
  output : Y.output = X.output
  size : X.heap.size ≤ Y.heap.size
  block : ∀ b, b < X.heap.size → (b < N ∨ ∀ o, X.heap[b]? = some o → ¬ Touchy o) → Y.heap[b]? = X.heap[b]?
theorem TchT.of_below {N : Nat} {X Y : World} (h : Below X.heap.size X Y) : TchT N X Y := ⟨h.os, h.tape, h.output, h.size, fun b hb _ => h.block b hb⟩
theorem TchT.refl (N : Nat) (X : World) : TchT N X X := TchT.of_below (Below.refl _ _)
theorem TchT.trans {N : Nat} {X Y Z : World} (h : TchT N X Y) (k : TchT N Y Z) : TchT N X Z :=
  ⟨k.os.trans h.os, k.tape.trans h.tape, k.output.trans h.output, Nat.le_trans h.size k.size, fun b hb ht => by
    have e := h.block b hb ht
    refine (k.block b (Nat.lt_of_lt_of_le hb h.size) ?_).trans e
    rcases ht with ht | ht
    · exact .inl ht
    · exact .inr fun o ho => ht o (e ▸ ho)⟩
theorem TchT.drew {N : Nat} {X Y : World} (h : TchT N X Y) : TchT N X Y.drew := ⟨h.os, h.tape, h.output, h.size, h.block⟩
/-- blocks that are touchy, and lie behind the mark, may differ -/
theorem TchT.of {N : Nat} {X Y : World} (h1 : Y.os = X.os) (h2 : Y.tape = X.tape) (h3 : Y.output = X.output) (h4 : X.heap.size ≤ Y.heap.size) (S : Nat → Prop) (hS : ∀ b, S b → N ≤ b ∧ ∃ o, X.heap[b]? = some o ∧ Touchy o)
    (h : ∀ b, b < X.heap.size → ¬ S b → Y.heap[b]? = X.heap[b]?) : TchT N X Y :=
  ⟨h1, h2, h3, h4, fun b hb ht => h b hb fun s => by
    obtain ⟨k1, o, k2, k3⟩ := hS b s
    rcases ht with ht | ht
    · omega
    · exact ht o k2 k3⟩
theorem jbox_touchy {W : World} {jb mb n : Nat} {j : Jn} (h : JAt W jb mb n j) : ∃ o, W.heap[jb]? = some o ∧ Touchy o := by
  obtain ⟨cs, h1, _⟩ := h.box.blk
  exact ⟨_, h1, .inl ⟨cs, (0, 0), .inr (.inl rfl)⟩⟩
theorem jmap_touchy {W : World} {jb mb n : Nat} {j : Jn} (h : JAt W jb mb n j) : ∃ o, W.heap[mb]? = some o ∧ Touchy o := by
  obtain ⟨D, ⟨es, c, h1, _⟩, _⟩ := h.map
  exact ⟨_, h1, .inr ⟨es, c, rfl⟩⟩
theorem own_touchy {W : World} {base : Nat} {e : TypeId} {size n : Nat} {v : Value} {xs : List Value} (h : W.ownsRow base e size v n xs) (he : e = 36 ∨ e = 23) : ∀ r, v.ownBlock = some r → base ≤ r ∧ ∃ o, W.heap[r]? = some o ∧ Touchy o := fun r hr => by
  rcases h.2 with ⟨rfl, _⟩ | ⟨g, cap, cur, rfl, hb, hh, _⟩
  · simp [Value.ownBlock] at hr
  · simp only [Value.ownBlock, Option.some.injEq] at hr
    subst hr
    refine ⟨hb, _, hh, .inl ⟨cur, (0, 0), ?_⟩⟩
    rcases he with rfl | rfl
    · exact .inr (.inr (.inl rfl))
    · exact .inr (.inr (.inr rfl))
theorem TchT.of_keepC {N : Nat} {X Y : World} {jb mb n : Nat} {j : Jn} (h : JAt X jb mb n j) (h1 : N ≤ jb) (h2 : N ≤ mb) (k : KeepC X.heap.size jb mb X Y) : TchT N X Y :=
  TchT.of k.os k.tape k.output k.size (fun b => b = jb ∨ b = mb) (fun b hb => by
    rcases hb with rfl | rfl
    · exact ⟨h1, jbox_touchy h⟩
    · exact ⟨h2, jmap_touchy h⟩) (fun b hb hn => k.block b hb (fun e => hn (.inl e)) (fun e => hn (.inr e)))
theorem book_touchy {B bb jb mb n : Nat} {W : World} {s : St} {C E : Value} (h : BookW B W bb jb mb n s C E) : ∃ o, W.heap[bb]? = some o ∧ Touchy o := ⟨_, h.blk, .inl ⟨_, (0, 0), .inl rfl⟩⟩
theorem TchT.of_keepS {N : Nat} {X Y : World} {bb jb mb n : Nat} {s : St} {C E : Value} (h : BookW N X bb jb mb n s C E) (h1 : N ≤ bb) (k : KeepS bb C X Y) : TchT N X Y :=
  TchT.of k.1 k.2.1 k.2.2.1 k.2.2.2.1 (fun b => b = bb ∨ C.ownBlock = some b) (fun b hb => by
    rcases hb with rfl | hb
    · exact ⟨h1, book_touchy h⟩
    · exact own_touchy h.cards (.inl rfl) b hb) (fun b hb hn => k.2.2.2.2 b hb (fun e => hn (.inl e)) (fun e => hn (.inr e.symm)))
theorem TchT.set {N : Nat} {X : World} {bb jb mb n : Nat} {s : St} {C E : Value} (h : BookW N X bb jb mb n s C E) (h1 : N ≤ bb) (i : Nat) (v : Value) : TchT N X (X.setCell ⟨bb, i, none⟩ v) :=
  TchT.of rfl rfl rfl (by simp) (fun b => b = bb) (fun b hb => by subst hb; exact ⟨h1, book_touchy h⟩) (fun b _ hn => Below.heap_setCell X ⟨bb, i, none⟩ v b hn)
theorem TchT.grown {N : Nat} {X Y : World} {base : Nat} {e : TypeId} {size n : Nat} {v : Value} {xs : List Value} (h : X.ownsRow base e size v n xs) (he : e = 36 ∨ e = 23) (hb : N ≤ base) (hg : X.grownBy Y v.ownBlock) : TchT N X Y :=
  TchT.of hg.os hg.tape hg.output hg.size (fun b => v.ownBlock = some b) (fun b hb' => by
    obtain ⟨h1, h2⟩ := own_touchy h he b hb'
    exact ⟨by omega, h2⟩) (fun b hb' hn => hg.block b hb' (fun e => hn e.symm))
theorem TchT.below {N : Nat} {w X Y : World} (h : Below N w X) (k : TchT N X Y) (hN : N ≤ X.heap.size) : Below N w Y :=
  ⟨k.os.trans h.os, k.tape.trans h.tape, k.output.trans h.output, Nat.le_trans h.size k.size, fun b hb => (k.block b (by omega) (.inl hb)).trans (h.block b hb)⟩
theorem loop_calm {o : Obj} (h : LoopObj o) : ¬ Touchy o := by
  rintro (⟨cs, fr, h1 | h1 | h1 | h1⟩ | ⟨es, c, h1⟩) <;> rcases h with ⟨r, rfl⟩ | ⟨d, rfl⟩ <;> cases h1
theorem TchT.loops {N n : Nat} {X Y : World} (k : TchT N X Y) : KeepL n X Y := fun l o _ hl ho =>
  (k.block l (blk_lt hl) (.inr fun o' h => by rw [hl] at h; injection h with h; subst h; exact loop_calm ho)).trans hl
theorem TchT.calm {N b : Nat} {X Y : World} {cs : Array Value} {t : TypeId} {fr : Nat × Nat} (k : TchT N X Y) (h : X.heap[b]? = some (.cells cs t fr)) (h1 : t ≠ 106 ∧ t ≠ 161 ∧ t ≠ 36 ∧ t ≠ 23) : Y.heap[b]? = some (.cells cs t fr) :=
  (k.block b (blk_lt h) (.inr fun o ho => by
    rw [h] at ho
    injection ho with ho
    subst ho
    rintro (⟨cs', fr', e | e | e | e⟩ | ⟨es, c, e⟩)
    · injection e with _ e; exact h1.1 e
    · injection e with _ e; exact h1.2.1 e
    · injection e with _ e; exact h1.2.2.1 e
    · injection e with _ e; exact h1.2.2.2 e
    · cases e)).trans h
/-- a book stays where its blocks do -/
theorem BookW.keepT {B bb jb mb n : Nat} {W W' : World} {s : St} {C E : Value} (h : BookW B W bb jb mb n s C E) (hk : ∀ (b : Nat) (o : Obj), W.heap[b]? = some o → Touchy o → W'.heap[b]? = some o) : BookW B W' bb jb mb n s C E := by
  have same : ∀ {b}, (∃ o, W.heap[b]? = some o ∧ Touchy o) → W'.heap[b]? = W.heap[b]? := fun ⟨o, h1, h2⟩ => (hk _ o h1 h2).trans h1.symm
  have own : ∀ {e : TypeId} {size n : Nat} {v : Value} {xs : List Value}, W.ownsRow B e size v n xs → (e = 36 ∨ e = 23) → W'.ownsRow B e size v n xs := fun h he =>
    ⟨h.1, h.2.imp id fun ⟨g, cap, cur, a, b, c, d⟩ => ⟨g, cap, cur, a, b, (same ((own_touchy h he g (by rw [a]; rfl)).2)).trans c, d⟩⟩
  exact ⟨(same (book_touchy h)).trans h.blk, h.jn.same (same (jbox_touchy h.jn)) (same (jmap_touchy h.jn)), own h.cards (.inl rfl), own h.errs (.inr rfl), h.few⟩
/-- the state behind the lines that are named -/
def stOf (L : List (List UInt8)) (ks : List Nat) : St := runV (ks.map fun k => L.getD k [])
/-- what look holds from round to round -/
structure LookI (w : World) (N : Nat) (L : List (List UInt8)) (ks : List Nat) (W : World) : Prop where
  ex : ∃ jb mb n C E, BookW N W (N + 2) jb mb n (stOf L ks) C E ∧ n ≤ ks.length ∧ N ≤ jb ∧ N ≤ mb
  pb : W.heap[N + 3]? = some (.cells #[.pointer (some ⟨N + 2, 0, none⟩)] 100 (0, 0))
  bx : ∃ v, W.heap[N + 4]? = some (.cells #[v] 9 (0, 0))
  below : Below N w W
theorem LookI.keep {w : World} {N : Nat} {L : List (List UInt8)} {ks : List Nat} {W W' : World} (h : LookI w N L ks W) (hk : ∀ (b : Nat) (o : Obj), W.heap[b]? = some o → Touchy o → W'.heap[b]? = some o) (h1 : W'.heap[N + 3]? = W.heap[N + 3]?) (h2 : ∃ v, W'.heap[N + 4]? = some (.cells #[v] 9 (0, 0))) (hb : Below N W W') : LookI w N L ks W' := by
  obtain ⟨⟨jb, mb, n, C, E, a1, a2, a3, a4⟩, a5, a6, a7⟩ := h
  exact ⟨⟨jb, mb, n, C, E, a1.keepT hk, a2, a3, a4⟩, h1.trans a5, h2, a7.trans hb⟩
theorem LookI.stays (w : World) (N : Nat) (L : List (List UInt8)) (α : Type) (f : α → Nat) : Stays (fun (pre : List α) W => LookI w N L (pre.map f) W) := fun s W W' h hg => by
  have hb : Below W.heap.size W W' := ⟨hg.os, hg.tape, hg.output, hg.size, fun b hb => hg.block b hb (by simp)⟩
  have hs : N + 3 < W.heap.size := blk_lt h.pb
  refine h.keep (fun b o ho _ => blk_below hb ho) (hb.block _ hs) ?_ (hb.mono (by omega))
  obtain ⟨v, hv⟩ := h.bx
  exact ⟨v, blk_below hb hv⟩
theorem LookI.put {w : World} {N : Nat} {L : List (List UInt8)} {ks : List Nat} {W : World} (h : LookI w N L ks W) {l : Nat} {o : Obj} (o' : Obj) (hN : N + 5 ≤ l) (hl : W.heap[l]? = some o) (ho : LoopObj o) : LookI w N L ks (W.putObj l o') := by
  refine h.keep (fun b o2 hb ht => ?_) (World.putObj_heap_other (by omega)) ?_ ⟨rfl, rfl, rfl, by simp [World.putObj], fun b hb => World.putObj_heap_other (by omega)⟩
  · by_cases e : b = l
    · subst e
      rw [hl] at hb
      injection hb with hb
      subst hb
      exact absurd ht (loop_calm ho)
    · exact (World.putObj_heap_other (fun k => e k)).trans hb
  · obtain ⟨v, hv⟩ := h.bx
    exact ⟨v, (World.putObj_heap_other (by omega)).trans hv⟩
theorem LookI.box {w : World} {N : Nat} {L : List (List UInt8)} {ks : List Nat} {W : World} (h : LookI w N L ks W) (v : Value) : LookI w N L ks (W.setCell ⟨N + 4, 0, none⟩ v) := by
  obtain ⟨u, hu⟩ := h.bx
  refine h.keep (fun b o hb ht => ?_) (Below.heap_setCell W ⟨N + 4, 0, none⟩ v _ (by show N + 3 ≠ N + 4; omega)) ⟨v, blk_set hu (i := 0) v⟩ ⟨rfl, rfl, rfl, by simp, fun b hb => Below.heap_setCell W ⟨N + 4, 0, none⟩ v b (by show b ≠ N + 4; omega)⟩
  refine (Below.heap_setCell W ⟨N + 4, 0, none⟩ v b ?_).trans hb
  show b ≠ N + 4
  intro e
  subst e
  rw [hu] at hb
  injection hb with hb
  subst hb
  rcases ht with ⟨cs, fr, e | e | e | e⟩ | ⟨es, c, e⟩
  · injection e with _ e; exact absurd e (by decide)
  · injection e with _ e; exact absurd e (by decide)
  · injection e with _ e; exact absurd e (by decide)
  · injection e with _ e; exact absurd e (by decide)
  · cases e
end Go.Proofs.YtkpmmgeffbhngaaGreatDoor
namespace Go.Proofs.YtkpmmgeffbhngaaGreatDoor
open Go.RowKit Go.Shelf Prot Go.Lib Go.Maps
section
variable {ops : Array Oper} {Q : Exit → Act → World → Prop} {md : Region.Mode} {n : Nat}
theorem operIn_of_oper {l : Nat} {o : Oper} {a : Act} {w : World} {K : Act → World → Prop} (hnd : ∀ c, o.op ≠ .defer c) (h : o.wp Tryz.prog a w K Q) : o.wpIn (Fence.wide.inRound l) n Tryz.prog a w K Q := by
  unfold Oper.wp at h
  refine ⟨fun _ _ => trivial, ?_⟩
  rw [Oper.semAt_eq _ _ _ hnd]
  generalize (execOp a.eval o).run Tryz.prog w = r at *
  have hd : ((Fence.wide.inRound l).depth.isSome = true → 1 ≤ n) := fun h => by simp [Fence.wide] at h
  cases r with
  | ok x w' =>
    cases x
    case value v => exact h
    case skip => exact h
    case defer d => exact h
    case enter f args => exact ⟨hd, CallsIn.inRound l (callsIn_wide.2 h)⟩
    case row row args => exact ⟨hd, fun c cs _ => let ⟨v, w', r, s⟩ := h c cs; ⟨v, w', r, stepsIn_wide.2 s⟩⟩
    all_goals exact h.elim
  | halt x w' =>
    cases x
    case panic v => exact h
    all_goals exact h.elim
theorem wpOpIn_of_wpOp {l : Nat} (hnd : ∀ (i : Nat) (o : Oper), ops[i]? = some o → ∀ c, o.op ≠ .defer c) (hlo : ¬ LetsOut Q) {i : Nat} {K : Act → World → Prop} {a : Act} {w : World} (h : wpOp Tryz.prog ops Q i K a w) : wpOpIn (Fence.wide.inRound l) n Tryz.prog ops Q i K a w := by
  unfold wpOp at h
  unfold wpOpIn
  cases ho : ops[i]? with
  | none => rw [ho] at h; exact h
  | some o =>
    rw [ho] at h
    dsimp only at h ⊢
    by_cases hw : Region.wanted o (yielded ops a.tmps) = true
    · rw [if_pos hw] at h ⊢
      rcases h with h | ⟨_, h⟩
      · exact operIn_of_oper (hnd i o ho) h
      · exact absurd h hlo
    · rw [if_neg hw] at h ⊢
      exact ⟨fun _ _ => trivial, h⟩
theorem wpAnyIn_of_wpAny {l : Nat} (hnd : ∀ (i : Nat) (o : Oper), ops[i]? = some o → ∀ c, o.op ≠ .defer c) (hlo : ¬ LetsOut Q) : ∀ (fuel : Nat) (listed : Array Bool) (a : Act) (w : World), wpAny Tryz.prog md ops Q fuel listed a w → wpAnyIn (Fence.wide.inRound l) n Tryz.prog md ops Q fuel listed a w
  | 0, _, _, _, h => h
  | fuel + 1, _, _, _, h => ⟨h.1, fun i hi => wpOpIn_mono (fun a' w' h' => wpAnyIn_of_wpAny hnd hlo fuel _ a' w' h') (wpOpIn_of_wpOp hnd hlo (h.2 i hi))⟩
def noDefer (ops : Array Oper) : Bool := ops.all fun o => match o.op with | .defer _ => false | _ => true
theorem noDefer_spec (h : noDefer ops = true) : ∀ (i : Nat) (o : Oper), ops[i]? = some o → ∀ c, o.op ≠ .defer c := fun i o ho c e => by
  unfold noDefer at h
  rw [Array.all_eq_true] at h
  obtain ⟨hi, rfl⟩ := Array.getElem?_eq_some_iff.1 ho
  have := h i hi
  rw [e] at this
  cases this
/-- a drawn region in a round, by the walk that holds S -/
theorem wpIn_region_held {id l : Nat} {S : World → Prop} {a : Act} {w : World} (hm : Tryz.prog.follows .mixedOrders = true) (hnd : noDefer ops = true) (hlo : ¬ LetsOut Q)
    (h : wpAnyH Tryz.prog .any ops Q S ops.size (Array.replicate ops.size false) a w.drew) : (Code.region id ops true).wpIn (Fence.wide.inRound l) n Tryz.prog Q a w :=
  wpIn_region_any hm (wpAnyIn_of_wpAny (noDefer_spec hnd) hlo _ _ _ _ (wpAny_of_held _ _ _ _ h))
end
theorem TchT.new {N k : Nat} {X Y : World} (h : TchT N X Y) (hk : X.heap.size ≤ k) (i : Nat) (v : Value) : TchT N X (Y.setCell ⟨k, i, none⟩ v) :=
  ⟨h.os, h.tape, h.output, by simpa using h.size, fun b hb ht => (Below.heap_setCell Y ⟨k, i, none⟩ v b (by show b ≠ k; omega)).trans (h.block b hb ht)⟩
section
variable {B bb jb mb n : Nat} {W : World} {s : St} {C E : Value}
theorem BookW.jb_ne (h : BookW B W bb jb mb n s C E) {b : Nat} {cs : Array Value} {t : TypeId} {fr : Nat × Nat} (hb : W.heap[b]? = some (.cells cs t fr)) (ht : t ≠ 161) : jb ≠ b := fun e => by
  obtain ⟨c2, h1, _⟩ := h.jn.box.blk
  rw [e, hb] at h1; injection h1 with h1; injection h1 with _ h1; exact ht h1
theorem BookW.mb_ne (h : BookW B W bb jb mb n s C E) {b : Nat} {cs : Array Value} {t : TypeId} {fr : Nat × Nat} (hb : W.heap[b]? = some (.cells cs t fr)) : mb ≠ b := fun e => by
  obtain ⟨D, ⟨es, c, h1, _⟩, _⟩ := h.jn.map
  rw [e, hb] at h1; cases h1
theorem BookW.bb_ne (h : BookW B W bb jb mb n s C E) {b : Nat} {cs : Array Value} {t : TypeId} {fr : Nat × Nat} (hb : W.heap[b]? = some (.cells cs t fr)) (ht : t ≠ 106) : bb ≠ b := fun e => by
  have h1 := h.blk
  rw [e, hb] at h1; injection h1 with h1; injection h1 with _ h1; exact ht h1
/-- a box of a card beside the book -/
theorem BookW.box (h : BookW B W bb jb mb n s C E) {k : Nat} {cs : Array Value} {fr : Nat × Nat} (hx : W.heap[k]? = some (.cells cs 36 fr)) (hC : ∀ r, C.ownBlock = some r → r < k) (i : Nat) (v : Value) : BookW B (W.setCell ⟨k, i, none⟩ v) bb jb mb n s C E := by
  have far : ∀ b, b ≠ k → (W.setCell ⟨k, i, none⟩ v).heap[b]? = W.heap[b]? := fun b hb => Below.heap_setCell W ⟨k, i, none⟩ v b hb
  refine ⟨(far _ (h.bb_ne hx (by decide))).trans h.blk, h.jn.same (far _ (h.jb_ne hx (by decide))) (far _ (h.mb_ne hx)), ?_, ?_, h.few⟩
  · exact ownsRow_setCell_other h.cards (a := ⟨k, i, none⟩) (fun e => by have := hC k e; omega) v
  · exact ownsRow_setCell_other h.errs (a := ⟨k, i, none⟩) (fun e => own_ne_blk h.errs hx (by decide) e.symm) v
theorem BookW.box4 (h : BookW B W bb jb mb n s C E) {k : Nat} {a0 a1 a2 a3 : Value} (hx : W.heap[k]? = some (.cells #[a0, a1, a2, a3] 36 (0, 0))) (hC : ∀ r, C.ownBlock = some r → r < k) (v0 v1 v2 v3 : Value) : BookW B ((((W.setCell ⟨k, 0, none⟩ v0).setCell ⟨k, 1, none⟩ v1).setCell ⟨k, 2, none⟩ v2).setCell ⟨k, 3, none⟩ v3) bb jb mb n s C E := by
  have h0 := blk_set hx (i := 0) v0
  have h1 := blk_set h0 (i := 1) v1
  have h2 := blk_set h1 (i := 2) v2
  exact (((h.box hx hC 0 v0).box h0 hC 1 v1).box h1 hC 2 v2).box h2 hC 3 v3
/-- one card more -/
theorem BookW.pushC (h : BookW B W bb jb mb n s C E) {o : Obj} {W6 : World} {g cap : Nat} {f : Card} (hO : W6.ownsRow B 36 4 (.slice (some ⟨g, 0, none⟩) (s.cards.length + 1) cap) (s.cards.length + 1) ((s.cards ++ [f]).flatMap encCd)) (hg : (W.alloc o).grownBy W6 C.ownBlock) (hl : s.cards.length < 1000) :
    BookW B (W6.setCell ⟨bb, 1, none⟩ (.slice (some ⟨g, 0, none⟩) (s.cards.length + 1) cap)) bb jb mb n ⟨s.errs, s.cards ++ [f], s.jn⟩ (.slice (some ⟨g, 0, none⟩) (s.cards.length + 1) cap) E := by
  have kb := blk_grown hg (blk_alloc h.blk o) (own_ne_blk h.cards h.blk (by decide))
  obtain ⟨cj, hj1, hj2⟩ := h.jn.box.blk
  have kj := blk_grown hg (blk_alloc hj1 o) (own_ne_blk h.cards hj1 (by decide))
  have ej : W6.heap[jb]? = W.heap[jb]? := kj.trans hj1.symm
  have em : W6.heap[mb]? = W.heap[mb]? := by
    obtain ⟨D, ⟨es, c, h1, _⟩, _⟩ := h.jn.map
    have hne : some mb ≠ C.ownBlock := fun e => by
      obtain ⟨_, o2, h2, h3⟩ := own_touchy h.cards (.inl rfl) mb e.symm
      rcases h.cards.2 with ⟨rfl, _⟩ | ⟨g', cap', cur', rfl, _, hh, _⟩
      · simp [Value.ownBlock] at e
      · simp only [Value.ownBlock, Option.some.injEq] at e
        rw [← e, h1] at hh; cases hh
    exact (blk_grown hg (blk_alloc h1 o) hne).trans h1.symm
  have hgb : (Value.slice (some ⟨g, 0, none⟩) (s.cards.length + 1) cap).ownBlock ≠ some bb := fun e => own_ne_blk hO kb (by decide) e.symm
  have far : ∀ b, b ≠ bb → (W6.setCell ⟨bb, 1, none⟩ (.slice (some ⟨g, 0, none⟩) (s.cards.length + 1) cap)).heap[b]? = W6.heap[b]? := fun b hb => Below.heap_setCell W6 ⟨bb, 1, none⟩ _ b hb
  have hjb : jb ≠ bb := h.jb_ne h.blk (by decide)
  have hmb : mb ≠ bb := h.mb_ne h.blk
  refine ⟨blk_set kb (i := 1) _, h.jn.same ((far _ hjb).trans ej) ((far _ hmb).trans em), ?_, ?_, ?_⟩
  · exact ownsRow_setCell_other (by rw [len_snoc]; exact hO) (a := ⟨bb, 1, none⟩) hgb _
  · have h1 := (h.errs.alloc o).kept hg (own_apart h.errs h.cards (by decide))
    exact ownsRow_setCell_other h1 (a := ⟨bb, 1, none⟩) (fun e => own_ne_blk h.errs h.blk (by decide) e.symm) _
  · dsimp only; rw [len_snoc]; exact ⟨by omega, h.few.2⟩
theorem BookW.pushE (h : BookW B W bb jb mb n s C E) {o : Obj} {W6 : World} {g cap : Nat} {f : Int} (hO : W6.ownsRow B 23 1 (.slice (some ⟨g, 0, none⟩) (s.errs.length + 1) cap) (s.errs.length + 1) ((s.errs ++ [f]).flatMap encI)) (hg : (W.alloc o).grownBy W6 E.ownBlock) :
    BookW B (W6.setCell ⟨bb, 2, none⟩ (.slice (some ⟨g, 0, none⟩) (s.errs.length + 1) cap)) bb jb mb n ⟨s.errs ++ [f], s.cards, s.jn⟩ C (.slice (some ⟨g, 0, none⟩) (s.errs.length + 1) cap) := by
  have kb := blk_grown hg (blk_alloc h.blk o) (own_ne_blk h.errs h.blk (by decide))
  obtain ⟨cj, hj1, hj2⟩ := h.jn.box.blk
  have kj := blk_grown hg (blk_alloc hj1 o) (own_ne_blk h.errs hj1 (by decide))
  have ej : W6.heap[jb]? = W.heap[jb]? := kj.trans hj1.symm
  have em : W6.heap[mb]? = W.heap[mb]? := by
    obtain ⟨D, ⟨es, c, h1, _⟩, _⟩ := h.jn.map
    have hne : some mb ≠ E.ownBlock := fun e => by
      rcases h.errs.2 with ⟨rfl, _⟩ | ⟨g', cap', cur', rfl, _, hh, _⟩
      · simp [Value.ownBlock] at e
      · simp only [Value.ownBlock, Option.some.injEq] at e
        rw [← e, h1] at hh; cases hh
    exact (blk_grown hg (blk_alloc h1 o) hne).trans h1.symm
  have hgb : (Value.slice (some ⟨g, 0, none⟩) (s.errs.length + 1) cap).ownBlock ≠ some bb := fun e => own_ne_blk hO kb (by decide) e.symm
  have far : ∀ b, b ≠ bb → (W6.setCell ⟨bb, 2, none⟩ (.slice (some ⟨g, 0, none⟩) (s.errs.length + 1) cap)).heap[b]? = W6.heap[b]? := fun b hb => Below.heap_setCell W6 ⟨bb, 2, none⟩ _ b hb
  have hjb : jb ≠ bb := h.jb_ne h.blk (by decide)
  have hmb : mb ≠ bb := h.mb_ne h.blk
  refine ⟨blk_set kb (i := 2) _, h.jn.same ((far _ hjb).trans ej) ((far _ hmb).trans em), ?_, ?_, h.few⟩
  · have h1 := (h.cards.alloc o).kept hg (own_apart h.cards h.errs (by decide))
    exact ownsRow_setCell_other h1 (a := ⟨bb, 2, none⟩) (fun e => own_ne_blk h.cards h.blk (by decide) e.symm) _
  · exact ownsRow_setCell_other (by rw [len_snoc]; exact hO) (a := ⟨bb, 2, none⟩) hgb _
theorem TchT.push {N : Nat} {X Y Z : World} {o : Obj} {base : Nat} {e : TypeId} {size m : Nat} {v : Value} {xs : List Value} (h : TchT N X Y) (ho : Y.ownsRow base e size v m xs) (he : e = 36 ∨ e = 23) (hb : N ≤ base) (hg : (Y.alloc o).grownBy Z v.ownBlock) (h' : BookW N Y bb jb mb n s C E) (h1 : N ≤ bb) (i : Nat) (u : Value) : TchT N X (Z.setCell ⟨bb, i, none⟩ u) := by
  have k1 : TchT N Y (Y.alloc o) := TchT.of_below (below_alloc' (Below.refl _ _) o)
  have k2 : TchT N (Y.alloc o) Z := TchT.grown (ho.alloc o) he hb hg
  have kb : ∃ cs, Z.heap[bb]? = some (.cells cs 106 (0, 0)) := by
    have hne : some bb ≠ v.ownBlock := own_ne_blk ho h'.blk (by rcases he with rfl | rfl <;> decide)
    exact ⟨_, blk_grown hg (blk_alloc h'.blk o) hne⟩
  obtain ⟨cs, kb⟩ := kb
  have k3 : TchT N Z (Z.setCell ⟨bb, i, none⟩ u) := TchT.of rfl rfl rfl (by simp) (fun b => b = bb) (fun b hb => by subst hb; exact ⟨h1, _, kb, .inl ⟨cs, (0, 0), .inl rfl⟩⟩) (fun b _ hn => Below.heap_setCell Z ⟨bb, i, none⟩ u b hn)
  exact h.trans (k1.trans (k2.trans k3))
end
theorem strikeN_len (s : St) (i : Nat) : (strikeN s i).2.1.length = s.cards.length := by
  unfold strikeN
  split
  · rfl
  · split
    · rfl
    · exact butC_len _ _
theorem BookW.of_keepC {B bb jb mb n n' : Nat} {W W' : World} {s : St} {C E : Value} {j' : Jn} (h : BookW B W bb jb mb n s C E) (k : KeepC W.heap.size jb mb W W') (hj : JAt W' jb mb n' j') (hn : n' ≤ 1000) : BookW B W' bb jb mb n' ⟨s.errs, s.cards, j'⟩ C E := by
  have own : ∀ {e : TypeId} {size m : Nat} {v : Value} {xs : List Value}, W.ownsRow B e size v m xs → e ≠ 161 → W'.ownsRow B e size v m xs := fun h1 he =>
    ⟨h1.1, h1.2.imp id fun ⟨g, cap, cur, a, b, c, d⟩ => ⟨g, cap, cur, a, b, (k.block g (blk_lt c) (fun e => h.jb_ne c he e.symm) (fun e => h.mb_ne c e.symm)).trans c, d⟩⟩
  exact ⟨(k.block bb (blk_lt h.blk) (fun e => h.jb_ne h.blk (by decide) e.symm) (fun e => h.mb_ne h.blk e.symm)).trans h.blk, hj, own h.cards (by decide), own h.errs (by decide), ⟨h.few.1, hn⟩⟩
theorem mem_textL {ls : List (List UInt8)} {l : List UInt8} (h : l ∈ ls) : l.length ≤ (textL ls).length := by
  induction ls with
  | nil => cases h
  | cons x ls ih =>
    rw [textL_cons, List.length_append, List.length_cons]
    rcases List.mem_cons.1 h with rfl | h
    · omega
    · have := ih h; omega
theorem getD_range (L : List (List UInt8)) : ((List.range L.length).map fun k => L.getD k []) = L := by
  apply List.ext_getElem
  · simp
  · intro i h1 h2
    simp [List.getD_eq_getElem?_getD, List.getElem?_eq_getElem h2]
end Go.Proofs.YtkpmmgeffbhngaaGreatDoor
namespace Go.Proofs.YtkpmmgeffbhngaaGreatDoor
open Go.RowKit Go.Shelf Prot Go.Lib Go.Maps
attribute [local go_sem] Oper.semAt_some
theorem wpIn_thenK {F : Fence} {n : Nat} {P : Program} {S : Code} {id : Nat} {K : Act → World → Prop} {Qo : Exit → Act → World → Prop} {a : Act} {w : World} (h : S.wpIn F n P (Exit.then K (Exit.inBlock id (Exit.then K Qo))) a w) : S.wpIn F n P (Exit.inBlock id (Exit.then K Qo)) a w :=
  wpIn_mono h (fun e a w hq => by cases e <;> exact hq)
/-- where the lines of a round stand behind its switch -/
def Mid (N : Nat) (W : World) (len : Nat) (C E : Value) (k8 : Nat) (f : Card) (Wc : World) (P : St → Prop) : Prop :=
  Wc.heap[k8]? = some (.cells #[.int .i64 f.1, .int .i64 f.2.1, .int .i64 f.2.2.1, .int .i64 f.2.2.2] 36 (0, 0)) ∧ TchT N W Wc ∧ ∃ (s2 : St) (jb mb n : Nat), BookW N Wc (N + 2) jb mb n s2 C E ∧ n ≤ len + 1 ∧ N ≤ jb ∧ N ≤ mb ∧ s2.cards.length = len ∧ P s2
set_option maxRecDepth 100000 in
set_option maxHeartbeats 1000000 in
theorem look_any (t : List UInt8) (w : World) (hT : Tab w) (ht : t.length ≤ 100000) :
    Calls Tryz.prog 71 #[.string (bs t)] w (Ret fun v w' => (textErr t ≠ 0 ∧ v = .tuple #[.pointer none, .int .i64 (textErr t)] ∨ textErr t = 0 ∧ ∃ bb jb mb n C E, v = .tuple #[.pointer (some ⟨bb, 0, none⟩), .int .i64 0] ∧ w.heap.size ≤ bb ∧ BookW w.heap.size w' bb jb mb n (runV (rowsL t)) C E) ∧ Below w.heap.size w w') := by
  have HT := Lib.hid hT
  have HC := Lib.hid (checkText_any (bs t) w (by rw [bs_size]; omega))
  rw [bs_list] at HC
  by_cases he : textErr t = 0
  rotate_left 1
  · have HE := Lib.hid he
    have t1 : (textErr t != 0) = true := by simpa using he
    generalize textErr t = e at *
    clear he
    go_enter Tryz.func71, Tryz.ntmps71
    go_wp2_with fail
    refine HC.out.mono ?_
    rintro _ w1 ⟨v, rfl, rfl, rfl⟩
    go_wp2
    go_ret2
    exact Ret.mk ⟨.inl ⟨HE.out, rfl⟩, Below.refl _ _⟩
  have HE := Lib.hid he
  rw [he] at HC
  clear he
  have HBg := Lib.hid (begin_any w)
  refine calls_of_wp_marks Tryz.func71 rfl ?_
  simp only [Tryz.ntmps71, List.size_toArray, List.length_cons, List.length_nil, Nat.reduceAdd, Nat.reduceSub, Array.replicate_succ, Array.replicate_zero, List.push_toArray, List.append_toArray, List.nil_append, List.cons_append]
  go_wp2_with fail
  refine HC.out.mono ?_
  rintro _ w1 ⟨v, rfl, rfl, hw0⟩
  rw [hw0]
  clear hw0 w1
  go_wp2_with fail
  refine HBg.out.mono ?_
  rintro _ w1 ⟨v, rfl, rfl, hw1⟩
  have hJ0 := jn_start_at w
  rw [← hw1] at hJ0
  have hB1 : Below w.heap.size w w1 := by rw [hw1]; exact below_alloc' (below_alloc' (Below.refl _ _) _) _
  have hs1 : w1.heap.size = w.heap.size + 2 := by rw [hw1]; simp
  clear hw1 HBg
  generalize hN : w.heap.size = N at *
  have HJ0 := Lib.hid hJ0
  have HB1 := Lib.hid hB1
  clear hJ0 hB1
  have HNw := Lib.hid hN
  clear hN
  go_wp2_with fail
  have hB3 : Below N w ((w1.alloc (.cells #[.pointer (some ⟨N + 1, 0, none⟩), .slice none 0 0, .slice none 0 0] 106)).alloc (.cells #[.pointer (some ⟨N + 2, 0, none⟩)] 100)) := HB1.out.trans ((below_alloc' (below_alloc' (Below.refl w1.heap.size w1) _) _).mono (by omega))
  have hbk := blk_alloc (heap_alloc_at w1 (.cells #[.pointer (some ⟨N + 1, 0, none⟩), .slice none 0 0, .slice none 0 0] 106) hs1) (.cells #[.pointer (some ⟨N + 2, 0, none⟩)] 100)
  have hpb : ((w1.alloc (.cells #[.pointer (some ⟨N + 1, 0, none⟩), .slice none 0 0, .slice none 0 0] 106)).alloc (.cells #[.pointer (some ⟨N + 2, 0, none⟩)] 100)).heap[N + 3]? = some (.cells #[.pointer (some ⟨N + 2, 0, none⟩)] 100 (0, 0)) := heap_alloc_at _ _ (by simp [hs1])
  have hs3 : ((w1.alloc (.cells #[.pointer (some ⟨N + 1, 0, none⟩), .slice none 0 0, .slice none 0 0] 106)).alloc (.cells #[.pointer (some ⟨N + 2, 0, none⟩)] 100)).heap.size = N + 4 := by simp [hs1]
  have HJ3 := Lib.hid (HJ0.out.below (below_alloc' (below_alloc' (Below.refl w1.heap.size w1) (.cells #[.pointer (some ⟨N + 1, 0, none⟩), .slice none 0 0, .slice none 0 0] 106)) (.cells #[.pointer (some ⟨N + 2, 0, none⟩)] 100)))
  generalize (w1.alloc (.cells #[.pointer (some ⟨N + 1, 0, none⟩), .slice none 0 0, .slice none 0 0] 106)).alloc (.cells #[.pointer (some ⟨N + 2, 0, none⟩)] 100) = w3 at *
  have HR := Lib.hid (rows_any (bs t) w3)
  rw [hs3] at HR
  refine HR.out.mono ?_
  rintro _ w4 ⟨v, rfl, rfl, hw4⟩
  have hs4 : w4.heap.size = N + 5 := by rw [hw4]; simp [hs3]
  have hB34 : Below w3.heap.size w3 w4 := by rw [hw4]; exact below_alloc' (Below.refl _ _) _
  have hbx : w4.heap[N + 4]? = some (.cells #[.string (bs t)] 9 (0, 0)) := by rw [hw4]; exact heap_alloc_at _ _ hs3
  have HBk := Lib.hid (blk_below hB34 hbk)
  have HPb := Lib.hid (blk_below hB34 hpb)
  have HJ4 := Lib.hid (HJ3.out.below hB34)
  have HB4 := Lib.hid (hB3.trans (hB34.mono (by omega)))
  have HT4 := Lib.hid (HT.out.below (by rw [HNw.out]; exact HB4.out))
  have HBx := Lib.hid hbx
  clear hw4 hB34 hbx hbk hpb hB3 hs3 HJ3 HJ0 HB1 hs1 HR w1 w3
  obtain ⟨L, hL⟩ : ∃ L, rowsL t = L := ⟨_, rfl⟩
  obtain ⟨-, -, hL60⟩ := textErr_ok HE.out
  rw [hL] at hL60
  obtain ⟨xs, hxs⟩ := subs_range 1 L.length L.length (fun x hx => by omega)
  have hxl : xs.length = L.length := by have := congrArg List.length hxs; simpa using this
  have HLt : Hid (∀ l ∈ L, l.length ≤ 90000) := Lib.hid fun l hl => by
    have h1 := textErr_ok HE.out
    rw [← hL] at hl
    have h2 := mem_textL hl
    rw [text_rows h1.2.1] at h2
    omega
  obtain ⟨m5, h5⟩ := HT4.out.max
  have h5N : 5 < N := by
    obtain ⟨m, hm⟩ := HT.out.max
    have := block_lt_of_cell hm
    rw [HNw.out] at this; exact this
  have hSeq := rows1_seq2 (fun x : {k : Nat // 1 * k < L.length} => x.1) xs (N + 4) t m5 (KeepB (N + 4)) (fun A B h => h) w4 (by omega) (by omega) (by rw [hL]; exact hxs) HBx.out h5 (by rw [hL]; omega)
  rw [hL] at hSeq
  have HSeq := Lib.hid hSeq
  have HL := Lib.hid hL
  clear hSeq hL h5
  go_wp2_with fail
  refine wp_rangeB2 (a := _) (gf := 113) (lb := #[.pointer (some ⟨N + 4, 0, none⟩)]) (by rfl) enters113 (encs := fun x : {k : Nat // 1 * k < L.length} => #[.int .i64 (x.1 : Nat), .string (bs (L.getD x.1 []))]) (Kp := KeepB (N + 4)) (xs := xs) (N + 4) (by omega) HSeq.out
    (fun h k => ⟨k.1.trans h.1, fun m q => k.2 m (h.2 m q)⟩) (fun W l o' hl => ⟨World.putObj_heap_other (by omega), fun m q => (World.cell?_of_block (a := ⟨5, 0, none⟩) (World.putObj_heap_other (show (5 : Nat) ≠ l by omega))).trans q⟩) (fun _ => rfl)
    (fun pre W => LookI w N L (pre.map (fun x : {k : Nat // 1 * k < L.length} => x.1)) W) (LookI.stays w N L _ (fun x : {k : Nat // 1 * k < L.length} => x.1)) (fun ys V l o o' h hl ho hlo => h.put o' (by omega) ho hlo) (fun ys V v h => h.box v)
    ⟨⟨N + 1, N, 0, .slice none 0 0, .slice none 0 0, ⟨HBk.out, HJ4.out, World.ownsRow_nil _ _ _ _, World.ownsRow_nil _ _ _ _, ⟨Nat.zero_le _, Nat.zero_le _⟩⟩, Nat.zero_le _, by omega, Nat.le_refl _⟩, HPb.out, ⟨_, HBx.out⟩, HB4.out⟩
    (fun x t => ((t.setIfInBounds 20 (.int .i64 (x.1 : Nat))).setIfInBounds 21 (.string (bs (L.getD x.1 [])))).setIfInBounds 7 (.string (bs (L.getD x.1 []))))
    ?assign ?body ?done
  case assign =>
    rintro l0 x W K9 hK9
    gi_wp2
    exact hK9
  case done =>
    rintro D W hD hI hm
    have HI : Hid (LookI w N L (List.range L.length) (W.putObj D (.deferred none))) := Lib.hid (by
      have h := hI.put (l := D) (.deferred none) (by omega) hm (.inr ⟨_, rfl⟩)
      rw [hxs] at h
      exact h)
    have HMk := Lib.hid (MarksAt.one hm (Nat.le_of_lt (Nat.lt_of_lt_of_le (show N < w4.heap.size by omega) hD)))
    have p0 : W.cell? ⟨N + 2 + 1, 0, none⟩ = some (.pointer (some ⟨N + 2, 0, none⟩)) := (blk_cell hI.pb).trans rfl
    clear hI hm
    dsimp only
    rw [show ({ target := .collected D, args := #[] } : Deferred) = mark D from rfl]
    go_wp2
    obtain ⟨⟨jb, mb, n, C, E, hbk, -, -, -⟩, -, -, hbel⟩ := HI.out
    unfold stOf at hbk
    rw [getD_range, ← HL.out] at hbk
    exact leaves_marks [D] _ HMk.out ⟨_, results_tmp2 (t := 2) (u := 3) rfl _ _ _, Ret.mk ⟨.inr ⟨HE.out, N + 2, jb, mb, n, C, E, rfl, by rw [HNw.out]; omega, by rw [HNw.out]; exact hbk⟩, by rw [HNw.out]; exact hbel⟩⟩
  case body =>
    rintro l0 pre ⟨x, hx⟩ W hl0 hI hpl
    obtain ⟨⟨jb, mb, n, C, E, hbk, hn, hj, hm⟩, hpb, ⟨vx, hvx⟩, hbel⟩ := hI
    have hm1 : (pre ++ [(⟨x, hx⟩ : {k : Nat // 1 * k < L.length})]).map (fun x : {k : Nat // 1 * k < L.length} => x.1) = pre.map (fun x : {k : Nat // 1 * k < L.length} => x.1) ++ [x] := by simp
    have HNx : Hid (stOf L (pre.map (fun x : {k : Nat // 1 * k < L.length} => x.1) ++ [x]) = stepV (stOf L (pre.map (fun x : {k : Nat // 1 * k < L.length} => x.1))) (L.getD x [])) := Lib.hid (by
      unfold stOf
      rw [List.map_append, List.map_cons, List.map_nil, runV_snoc])
    have HOk : Hid (StOk ((pre.map (fun x : {k : Nat // 1 * k < L.length} => x.1)).map fun k => L.getD k []) (stOf L (pre.map (fun x : {k : Nat // 1 * k < L.length} => x.1)))) := Lib.hid (runV_ok _)
    have hlen : (stOf L (pre.map (fun x : {k : Nat // 1 * k < L.length} => x.1))).cards.length = pre.length := by
      have := HOk.out.len
      simpa using this
    have hll : (L.getD x []).length ≤ 90000 := by
      rw [List.getD_eq_getElem?_getD, List.getElem?_eq_getElem (by omega)]
      exact HLt.out _ (List.getElem_mem _)
    rw [List.length_map] at hn
    obtain ⟨ks, hks⟩ : ∃ ks, pre.map (fun x : {k : Nat // 1 * k < L.length} => x.1) = ks := ⟨_, rfl⟩
    have hkl : ks.length = pre.length := by rw [← hks]; simp
    rw [hks] at HNx HOk hbk hm1 hlen
    generalize L.getD x [] = l at *
    generalize stOf L ks = s at HNx HOk hbk hlen
    have HBk := Lib.hid hbk
    have HPb := Lib.hid hpb
    have HVx := Lib.hid hvx
    have HBl := Lib.hid hbel
    have HTW := Lib.hid (HT.out.below (by rw [HNw.out]; exact hbel))
    have hNW : N + 5 ≤ W.heap.size := by have := blk_lt hvx; omega
    have HM1 := Lib.hid hm1
    clear hbk hpb hvx hbel hm1 hks
    have HP := Lib.hid (Parse_any (bs l) W HTW.out (by rw [bs_size]; exact hll))
    rw [bs_list] at HP
    unfold parseT vCard at HP
    obtain ⟨pv, hpv⟩ : ∃ pv, parseV l = pv := ⟨_, rfl⟩
    rw [hpv] at HP
    obtain ⟨⟨c1, c2, c3, c4⟩, e⟩ := pv
    dsimp only at HP
    have HPv := Lib.hid hpv
    clear hpv
    gi_wp2_with fail
    refine ⟨trivial, (CallsIn.inRound l0 (callsIn_wide.2 HP.out)).mono ?_⟩
    rintro _ W1 ⟨v, rfl, rfl, hB1⟩
    have hB2 := below_alloc' hB1 (.cells #[.int .i64 c1, .int .i64 c2, .int .i64 c3, .int .i64 c4] 36)
    have HX2 := Lib.hid (heap_alloc_new W1 (.cells #[.int .i64 c1, .int .i64 c2, .int .i64 c3, .int .i64 c4] 36))
    have HBk2 := Lib.hid (HBk.out.below hB2)
    have HPb2 := Lib.hid (blk_below hB2 HPb.out)
    have HT2 : Hid (TchT N W (W1.alloc (.cells #[.int .i64 c1, .int .i64 c2, .int .i64 c3, .int .i64 c4] 36))) := Lib.hid (TchT.of_below hB2)
    have hW1 := hB1.size
    have hK8 : W1.heap.size < (W1.alloc (.cells #[.int .i64 c1, .int .i64 c2, .int .i64 c3, .int .i64 c4] 36)).heap.size := by simp
    clear HP hB1 hB2
    gi_upto_if 33 with fail
    generalize W1.alloc (.cells #[.int .i64 c1, .int .i64 c2, .int .i64 c3, .int .i64 c4] 36) = W2 at *
    generalize W1.heap.size = k8 at *
    have HCK : Hid (∀ r, C.ownBlock = some r → r < k8) := Lib.hid fun r hr => Nat.lt_of_lt_of_le (HBk.out.cards.lt r hr).2 hW1
    refine wpIn_thenK ?_
    gi_cut [9] from 33 (fun e9 Wc => ∃ (er : Int) (f : Card), e9 = .int .i64 er ∧ Hid (Mid N W pre.length C E k8 f Wc (fun s2 => stepV s l = ⟨s2.errs ++ [er], s2.cards ++ [if er = 0 then f else zeroC], s2.jn⟩)))
    case first =>
      have hlt8 := blk_lt HX2.out
      obtain ⟨x0, x1, x2, x3, y0, y1, y2, y3⟩ := four_cells HX2.out
      have p0 : W2.cell? ⟨N + 2 + 1, 0, none⟩ = some (.pointer (some ⟨N + 2, 0, none⟩)) := (blk_cell HPb2.out).trans rfl
      by_cases he : e = 0
      rotate_left 1
      · have t1 : (e != 0) = true := by simpa using he
        have HMd : Hid (Mid N W pre.length C E k8 (c1, c2, c3, c4) W2 (fun s2 => stepV s l = ⟨s2.errs ++ [e], s2.cards ++ [if e = 0 then (c1, c2, c3, c4) else zeroC], s2.jn⟩)) := Lib.hid ⟨HX2.out, HT2.out, s, jb, mb, n, HBk2.out, by omega, hj, hm, hlen, by
          unfold stepV; rw [HPv.out, if_pos he, if_neg he]⟩
        clear he hlen
        gi_wp2_with fail
        gi_meet
        case rel => exact ⟨e, _, rfl, HMd⟩
      subst he
      have hcd : CardOk (c1, c2, c3, c4) := by
        have := parse_card (l := l) (by rw [HPv.out])
        rw [HPv.out] at this; exact this
      by_cases h7 : c1 = 7
      · have hs1 := hcd.strike h7
        have hs2 := hcd.one
        dsimp only at hs1 hs2
        obtain ⟨i, hi⟩ : ∃ i : Nat, c2 = (i : Int) + 1 := ⟨(c2 - 1).toNat, by omega⟩
        subst h7
        subst hi
        have HS := Lib.hid (strike_any N (N + 2) jb mb n i s _ C E W2 HBk2.out HOk.out (by omega) (by omega))
        have e1 : IntKind.i64.wrap ((i : Int) + 1 - 1) = (i : Int) := by rw [show (i : Int) + 1 - 1 = i by omega]; exact IntWalk.i64_in _ (by omega)
        have e2 : IntKind.i64.wrap (i : Int) = (i : Int) := IntWalk.i64_in _ (by omega)
        have HV : Hid (stepV s l = ⟨s.errs ++ [(strikeN s i).1], (strikeN s i).2.1 ++ [zeroC], (strikeN s i).2.2⟩) := Lib.hid (by
          unfold stepV
          rw [HPv.out, if_neg (by simp), if_pos rfl, strikeV_N s (by dsimp only; omega)]
          dsimp only
          rw [show ((i : Int) + 1 - 1).toNat = i by omega])
        have HLn := Lib.hid hlen
        clear hs1 hs2 hcd hlen
        gi_wp2_with fail
        refine ⟨trivial, (CallsIn.inRound l0 (callsIn_wide.2 HS.out)).mono ?_⟩
        rintro _ W3 ⟨v, rfl, rfl, ⟨jb3, mb3, n3, hj3, hn3, hbk3⟩, hks⟩
        have hX3 : W3.heap[k8]? = some (.cells #[.int .i64 7, .int .i64 ((i : Int) + 1), .int .i64 c3, .int .i64 c4] 36 (0, 0)) := (hks.2.2.2.2 k8 hlt8 (fun e => HBk2.out.bb_ne HX2.out (by decide) e.symm) (fun e => by have := HCK.out k8 e.symm; omega)).trans HX2.out
        have hT3 := HT2.out.trans (TchT.of_keepS HBk2.out (by omega) hks)
        have hszW2 := HT2.out.size
        have HMd : Hid (Mid N W pre.length C E k8 zeroC ((((W3.setCell ⟨k8, 0, none⟩ (.int .i64 0)).setCell ⟨k8, 1, none⟩ (.int .i64 0)).setCell ⟨k8, 2, none⟩ (.int .i64 0)).setCell ⟨k8, 3, none⟩ (.int .i64 0)) (fun s2 => stepV s l = ⟨s2.errs ++ [(strikeN s i).1], s2.cards ++ [if (strikeN s i).1 = 0 then zeroC else zeroC], s2.jn⟩)) := Lib.hid
          ⟨four_put hX3 _ _ _ _, (((hT3.new hW1 0 _).new hW1 1 _).new hW1 2 _).new hW1 3 _, ⟨s.errs, (strikeN s i).2.1, (strikeN s i).2.2⟩, jb3, mb3, n3, hbk3.box4 hX3 HCK.out _ _ _ _, by have := HLn.out; omega, by omega, by omega, by dsimp only; rw [strikeN_len]; exact HLn.out, by rw [HV.out, ite_self]⟩
        clear p0 x0 x1 x2 x3 y0 y1 y2 y3
        obtain ⟨x0, x1, x2, x3, y0, y1, y2, y3⟩ := four_cells hX3
        clear hX3 hT3 hbk3 hks hj3 hn3
        generalize (strikeN s i).1 = er at *
        gi_wp2_with fail
        gi_meet
        case rel => exact ⟨er, _, rfl, HMd⟩
      · have t1 : (c1 == 7) = false := by simpa using h7
        have b0 : W2.cell? ⟨N + 2, 0, none⟩ = some (.pointer (some ⟨jb, 0, none⟩)) := (blk_cell HBk2.out.blk).trans rfl
        have HC := Lib.hid (do_any jb mb n s.jn (c1, c2, c3, c4) W2.drew HBk2.out.jn.drew HOk.out.ok (by omega) hcd h7)
        unfold vCard at HC
        dsimp only at HC
        have HV : Hid (stepV s l = ⟨s.errs ++ [(doV s.jn (c1, c2, c3, c4)).2], s.cards ++ [if (doV s.jn (c1, c2, c3, c4)).2 = 0 then (c1, c2, c3, c4) else zeroC], (doV s.jn (c1, c2, c3, c4)).1⟩) := Lib.hid (by
          unfold stepV
          rw [HPv.out, if_neg (by simp), if_neg h7]
          dsimp only
          by_cases hz : (doV s.jn (c1, c2, c3, c4)).2 = 0
          · rw [if_neg (by rw [hz]; simp), if_pos hz, hz]
          · rw [if_pos hz, if_neg hz, doV_same hz])
        have HLn := Lib.hid hlen
        clear hcd h7 hlen
        gi_upto_region 8 with fail
        refine wpIn_region_held (S := fun V => V.cell? ⟨N + 2 + 1, 0, none⟩ = some (.pointer (some ⟨N + 2, 0, none⟩)) ∧ V.cell? ⟨N + 2, 0, none⟩ = some (.pointer (some ⟨jb, 0, none⟩)) ∧ V.cell? ⟨k8, 0, none⟩ = some (.int .i64 c1) ∧ V.cell? ⟨k8, 1, none⟩ = some (.int .i64 c2) ∧ V.cell? ⟨k8, 2, none⟩ = some (.int .i64 c3) ∧ V.cell? ⟨k8, 3, none⟩ = some (.int .i64 c4)) (by kernel_rfl) (by kernel_rfl) (by rintro ⟨_, _, h⟩; first | exact h | exact h.elim | cases h.1) ?_
        have hq : W2.drew.cell? ⟨N + 2 + 1, 0, none⟩ = some (.pointer (some ⟨N + 2, 0, none⟩)) ∧ W2.drew.cell? ⟨N + 2, 0, none⟩ = some (.pointer (some ⟨jb, 0, none⟩)) ∧ W2.drew.cell? ⟨k8, 0, none⟩ = some (.int .i64 c1) ∧ W2.drew.cell? ⟨k8, 1, none⟩ = some (.int .i64 c2) ∧ W2.drew.cell? ⟨k8, 2, none⟩ = some (.int .i64 c3) ∧ W2.drew.cell? ⟨k8, 3, none⟩ = some (.int .i64 c4) := ⟨p0, b0, x0, x1, x2, x3⟩
        have HX9 : Hid (W2.drew.heap[k8]? = some (.cells #[.int .i64 c1, .int .i64 c2, .int .i64 c3, .int .i64 c4] 36 (0, 0))) := HX2
        have HB9 : Hid (BookW N W2.drew (N + 2) jb mb n s C E) := Lib.hid ⟨HBk2.out.blk, HBk2.out.jn.drew, HBk2.out.cards, HBk2.out.errs, HBk2.out.few⟩
        have HP9 : Hid (W2.drew.heap[N + 3]? = some (.cells #[.pointer (some ⟨N + 2, 0, none⟩)] 100 (0, 0))) := HPb2
        have HT9 := Lib.hid HT2.out.drew
        clear p0 b0 x0 x1 x2 x3 y0 y1 y2 y3 hlt8
        generalize W2.drew = W9 at HC hq HX9 HB9 HP9 HT9 ⊢
        refine wpAnyH_take (i := 0) (v := ?_) rfl (by kernel_rfl) (by kernel_rfl) (by kernel_rfl) (fun _ _ _ h => h) (Or.inl ⟨by rfl, ?_⟩) hq ?_
        rotate_left 1
        · intro W hW; obtain ⟨z0, z1, z2, z3, z4, z5⟩ := hW; go_simp <;> with_reducible rfl
        refine wpAnyH_take (i := 1) (v := ?_) rfl (by kernel_rfl) (by kernel_rfl) (by kernel_rfl) (fun _ _ _ h => h) (Or.inl ⟨by rfl, ?_⟩) hq ?_
        rotate_left 1
        · intro W hW; obtain ⟨z0, z1, z2, z3, z4, z5⟩ := hW; go_simp <;> with_reducible rfl
        refine wpAnyH_take (i := 2) (v := ?_) rfl (by kernel_rfl) (by kernel_rfl) (by kernel_rfl) (fun _ _ _ h => h) (Or.inl ⟨by rfl, ?_⟩) hq ?_
        rotate_left 1
        · intro W hW; obtain ⟨z0, z1, z2, z3, z4, z5⟩ := hW; go_simp <;> with_reducible rfl
        refine wpAnyH_take (i := 3) (v := ?_) rfl (by kernel_rfl) (by kernel_rfl) (by kernel_rfl) (fun _ _ _ h => h) (Or.inl ⟨by rfl, ?_⟩) hq ?_
        rotate_left 1
        · intro W hW; obtain ⟨z0, z1, z2, z3, z4, z5⟩ := hW; go_simp <;> with_reducible rfl
        refine wpAnyH_take (i := 4) (v := ?_) rfl (by kernel_rfl) (by kernel_rfl) (by kernel_rfl) (fun _ _ _ h => h) (Or.inl ⟨by rfl, ?_⟩) hq ?_
        rotate_left 1
        · intro W hW; obtain ⟨z0, z1, z2, z3, z4, z5⟩ := hW; go_simp <;> with_reducible rfl
        simp only [Act.put, List.setIfInBounds_toArray]
        refine wpAnyH_ready (rs := [5]) (by kernel_rfl) (by simp) ?_
        refine AllReadyH.cons rfl (fun K hK => ?_) AllReadyH.nil
        go_simp
        refine HC.out.mono ?_
        rintro _ V4 ⟨v, rfl, rfl, ⟨n4, hn4, hJ4⟩, hK4⟩
        have hX4 := (hK4.block k8 (blk_lt HX9.out) (fun e => HB9.out.jb_ne HX9.out (by decide) e.symm) (fun e => HB9.out.mb_ne HX9.out e.symm)).trans HX9.out
        have hP4 := (hK4.block (N + 3) (blk_lt HP9.out) (fun e => HB9.out.jb_ne HP9.out (by decide) e.symm) (fun e => HB9.out.mb_ne HP9.out e.symm)).trans HP9.out
        have hB4 := HB9.out.of_keepC hK4 hJ4 (by omega)
        have hT4 := HT9.out.trans (TchT.of_keepC HB9.out.jn hj hm hK4)
        obtain ⟨x0, x1, x2, x3, -, -, -, -⟩ := four_cells hX4
        have p4 : V4.cell? ⟨N + 2 + 1, 0, none⟩ = some (.pointer (some ⟨N + 2, 0, none⟩)) := (blk_cell hP4).trans rfl
        have b4 : V4.cell? ⟨N + 2, 0, none⟩ = some (.pointer (some ⟨jb, 0, none⟩)) := (blk_cell hB4.blk).trans rfl
        refine hK.out _ _ ⟨p4, b4, x0, x1, x2, x3⟩ (fun _ => ?_)
        clear hK K
        have HMd : Hid (Mid N W pre.length C E k8 (c1, c2, c3, c4) V4 (fun s2 => stepV s l = ⟨s2.errs ++ [(doV s.jn (c1, c2, c3, c4)).2], s2.cards ++ [if (doV s.jn (c1, c2, c3, c4)).2 = 0 then (c1, c2, c3, c4) else zeroC], s2.jn⟩)) := Lib.hid
          ⟨hX4, hT4, ⟨s.errs, s.cards, (doV s.jn (c1, c2, c3, c4)).1⟩, jb, mb, n4, hB4, by omega, hj, hm, HLn.out, HV.out⟩
        clear hX4 hT4 hB4 hP4 hK4 hJ4 HC hq HX9 HB9 HP9 HT9 HV
        generalize (doV s.jn (c1, c2, c3, c4)).2 = er at *
        refine wpAnyH_ready (rs := [6]) (by kernel_rfl) (by simp) ?_
        refine AllReadyH.cons rfl (fun K hK => ?_) AllReadyH.nil
        go_simp
        refine hK.out _ _ ⟨p4, b4, x0, x1, x2, x3⟩ (fun _ => ?_)
        clear hK K
        refine wpAnyH_done (by kernel_rfl) ?_ _
        gi_wp2_with fail
        gi_meet
        case rel => exact ⟨er, _, rfl, HMd⟩
    case rest =>
      obtain ⟨er, f, rfl, HM⟩ := hcut
      gi_upto_if 47 with fail
      gi_cut [] from 48 (fun Wd => ∃ f2 : Card, Hid (Mid N W pre.length C E k8 f2 Wd (fun s2 => stepV s l = ⟨s2.errs ++ [er], s2.cards ++ [f2], s2.jn⟩)))
      case first =>
        obtain ⟨HX3, hT3, s2, jb2, mb2, n2, hbk3, hn3, hj3, hm3, hl3, hst⟩ := HM.out
        by_cases he : er = 0
        · have t1 : (er != 0) = false := by simpa using he
          rw [if_pos he] at hst
          have HMd : Hid (Mid N W pre.length C E k8 f wc (fun s2 => stepV s l = ⟨s2.errs ++ [er], s2.cards ++ [f], s2.jn⟩)) := Lib.hid ⟨HX3, hT3, s2, jb2, mb2, n2, hbk3, hn3, hj3, hm3, hl3, hst⟩
          clear he HX3 hT3 hbk3 hst HM
          gi_wp2_with fail
          gi_meet
          case rel => exact ⟨f, HMd⟩
        · have t1 : (er != 0) = true := by simpa using he
          rw [if_neg he] at hst
          obtain ⟨p0, p1, p2, p3, q0, q1, q2, q3⟩ := four_cells HX3
          have HMd : Hid (Mid N W pre.length C E k8 zeroC ((((wc.setCell ⟨k8, 0, none⟩ (.int .i64 0)).setCell ⟨k8, 1, none⟩ (.int .i64 0)).setCell ⟨k8, 2, none⟩ (.int .i64 0)).setCell ⟨k8, 3, none⟩ (.int .i64 0)) (fun s2 => stepV s l = ⟨s2.errs ++ [er], s2.cards ++ [zeroC], s2.jn⟩)) := Lib.hid
            ⟨four_put HX3 _ _ _ _, (((hT3.new hW1 0 _).new hW1 1 _).new hW1 2 _).new hW1 3 _, s2, jb2, mb2, n2, hbk3.box4 HX3 HCK.out _ _ _ _, hn3, hj3, hm3, hl3, hst⟩
          clear he HX3 hT3 hbk3 hst HM
          gi_wp2_with fail
          gi_meet
          case rel => exact ⟨zeroC, HMd⟩
      case rest =>
        obtain ⟨f2, HM2⟩ := hcut
        clear HM
        gi_upto_region 15 with fail
        gi_cut [] from 49 (fun We => ∃ (C2 : Value) (s2 : St) (jb2 mb2 n2 : Nat), Hid (BookW N We (N + 2) jb2 mb2 n2 ⟨s2.errs, s2.cards ++ [f2], s2.jn⟩ C2 E ∧ TchT N W We ∧ n2 ≤ pre.length + 1 ∧ N ≤ jb2 ∧ N ≤ mb2 ∧ stepV s l = ⟨s2.errs ++ [er], s2.cards ++ [f2], s2.jn⟩))
        case first =>
          obtain ⟨HX3, hT3, s2, jb2, mb2, n2, hbk3, hn3, hj3, hm3, hl3, hst⟩ := HM2.out
          clear HM2
          obtain ⟨f1, fa, fb, fc⟩ := f2
          dsimp only at HX3
          have hp3 := hT3.calm HPb.out ⟨by decide, by decide, by decide, by decide⟩
          have p0 : wc.cell? ⟨N + 2 + 1, 0, none⟩ = some (.pointer (some ⟨N + 2, 0, none⟩)) := (blk_cell hp3).trans rfl
          have q1 : wc.cell? ⟨N + 2, 1, none⟩ = some C := (blk_cell (i := 1) hbk3.blk).trans rfl
          obtain ⟨x0, x1, x2, x3, -, -, -, -⟩ := four_cells HX3
          have HXd : Hid (wc.drew.heap[k8]? = some (.cells #[.int .i64 f1, .int .i64 fa, .int .i64 fb, .int .i64 fc] 36 (0, 0))) := Lib.hid HX3
          have HBd : Hid (BookW N wc.drew (N + 2) jb2 mb2 n2 s2 C E) := Lib.hid ⟨hbk3.blk, hbk3.jn.drew, hbk3.cards, hbk3.errs, hbk3.few⟩
          have HTd := Lib.hid hT3.drew
          have HPd : Hid (wc.drew.heap[N + 3]? = some (.cells #[.pointer (some ⟨N + 2, 0, none⟩)] 100 (0, 0))) := Lib.hid hp3
          have hwc := hT3.size
          have HLn := Lib.hid hl3
          clear hl3
          refine wpIn_region_held (S := fun V => V.cell? ⟨N + 2 + 1, 0, none⟩ = some (.pointer (some ⟨N + 2, 0, none⟩)) ∧ V.cell? ⟨k8, 0, none⟩ = some (.int .i64 f1) ∧ V.cell? ⟨k8, 1, none⟩ = some (.int .i64 fa) ∧ V.cell? ⟨k8, 2, none⟩ = some (.int .i64 fb) ∧ V.cell? ⟨k8, 3, none⟩ = some (.int .i64 fc)) (by kernel_rfl) (by kernel_rfl) (by rintro ⟨_, _, h⟩; first | exact h | exact h.elim | cases h.1) ?_
          have hq : wc.drew.cell? ⟨N + 2 + 1, 0, none⟩ = some (.pointer (some ⟨N + 2, 0, none⟩)) ∧ wc.drew.cell? ⟨k8, 0, none⟩ = some (.int .i64 f1) ∧ wc.drew.cell? ⟨k8, 1, none⟩ = some (.int .i64 fa) ∧ wc.drew.cell? ⟨k8, 2, none⟩ = some (.int .i64 fb) ∧ wc.drew.cell? ⟨k8, 3, none⟩ = some (.int .i64 fc) := ⟨p0, x0, x1, x2, x3⟩
          have q1d : wc.drew.cell? ⟨N + 2, 1, none⟩ = some C := q1
          have HSz : Hid (N ≤ wc.drew.heap.size) := Lib.hid (by show N ≤ wc.heap.size; omega)
          clear p0 q1 HX3 hT3 hbk3 hp3
          generalize wc.drew = W9 at HXd HBd HTd HPd hq q1d HSz ⊢
          refine wpAnyH_take (i := 0) (v := ?_) rfl (by kernel_rfl) (by kernel_rfl) (by kernel_rfl) (fun _ _ _ h => h) (Or.inl ⟨by rfl, ?_⟩) hq ?_
          rotate_left 1
          · intro W hW; obtain ⟨z0, z1, z2, z3, z4⟩ := hW; go_simp <;> with_reducible rfl
          refine wpAnyH_take (i := 1) (v := ?_) rfl (by kernel_rfl) (by kernel_rfl) (by kernel_rfl) (fun _ _ _ h => h) (Or.inl ⟨by rfl, ?_⟩) hq ?_
          rotate_left 1
          · intro W hW; obtain ⟨z0, z1, z2, z3, z4⟩ := hW; go_simp <;> with_reducible rfl
          refine wpAnyH_take (i := 2) (v := ?_) rfl (by kernel_rfl) (by kernel_rfl) (by kernel_rfl) (fun _ _ _ h => h) (Or.inl ⟨by rfl, ?_⟩) hq ?_
          rotate_left 1
          · intro W hW; obtain ⟨z0, z1, z2, z3, z4⟩ := hW; go_simp <;> with_reducible rfl
          refine wpAnyH_take (i := 3) (v := ?_) rfl (by kernel_rfl) (by kernel_rfl) (by kernel_rfl) (fun _ _ _ h => h) (Or.inl ⟨by rfl, ?_⟩) hq ?_
          rotate_left 1
          · intro W hW; obtain ⟨z0, z1, z2, z3, z4⟩ := hW; go_simp <;> with_reducible rfl
          refine wpAnyH_take (i := 5) (v := ?_) rfl (by kernel_rfl) (by kernel_rfl) (by kernel_rfl) (fun _ _ _ h => h) (Or.inl ⟨by rfl, ?_⟩) hq ?_
          rotate_left 1
          · intro W hW; obtain ⟨z0, z1, z2, z3, z4⟩ := hW; go_simp <;> with_reducible rfl
          simp only [Act.put, List.setIfInBounds_toArray]
          have hbka := heap_alloc_new W9 (.cells #[.int .i64 f1, .int .i64 fa, .int .i64 fb, .int .i64 fc] 36)
          have HOA := Lib.hid (HBd.out.cards.alloc (.cells #[.int .i64 f1, .int .i64 fa, .int .i64 fb, .int .i64 fc] 36))
          have hqa : (W9.alloc (.cells #[.int .i64 f1, .int .i64 fa, .int .i64 fb, .int .i64 fc] 36)).cell? ⟨N + 2 + 1, 0, none⟩ = some (.pointer (some ⟨N + 2, 0, none⟩)) ∧ (W9.alloc (.cells #[.int .i64 f1, .int .i64 fa, .int .i64 fb, .int .i64 fc] 36)).cell? ⟨k8, 0, none⟩ = some (.int .i64 f1) ∧ (W9.alloc (.cells #[.int .i64 f1, .int .i64 fa, .int .i64 fb, .int .i64 fc] 36)).cell? ⟨k8, 1, none⟩ = some (.int .i64 fa) ∧ (W9.alloc (.cells #[.int .i64 f1, .int .i64 fa, .int .i64 fb, .int .i64 fc] 36)).cell? ⟨k8, 2, none⟩ = some (.int .i64 fb) ∧ (W9.alloc (.cells #[.int .i64 f1, .int .i64 fa, .int .i64 fb, .int .i64 fc] 36)).cell? ⟨k8, 3, none⟩ = some (.int .i64 fc) := ⟨cell_alloc hq.1 _, cell_alloc hq.2.1 _, cell_alloc hq.2.2.1 _, cell_alloc hq.2.2.2.1 _, cell_alloc hq.2.2.2.2 _⟩
          have q1a : (W9.alloc (.cells #[.int .i64 f1, .int .i64 fa, .int .i64 fb, .int .i64 fc] 36)).cell? ⟨N + 2, 1, none⟩ = some C := cell_alloc q1d _
          refine wpAnyH_ready (rs := [4, 6]) (by kernel_rfl) (by simp) ?_
          refine AllReadyH.cons rfl (fun K hK => ?_) (AllReadyH.cons rfl (fun K hK => ?_) AllReadyH.nil)
          · go_simp
            refine hK.out _ _ hq (fun _ => ?_)
            clear hK K
            refine wpAnyH_ready (rs := [6]) (by kernel_rfl) (by simp) ?_
            refine AllReadyH.cons rfl (fun K hK => ?_) AllReadyH.nil
            go_simp
            refine hK.out _ _ hqa (fun _ => ?_)
            clear hK K
            refine wpAnyH_ready (rs := [7]) (by kernel_rfl) (by simp) ?_
            refine AllReadyH.cons rfl (fun K hK => ?_) AllReadyH.nil
            refine step_push rfl (.tmp 53) (.tmp 55) 104 rfl elemCd encCd_len oneCd Tryz.underlying104 N C s2.cards (by rfl) HOA.out (by have := HLn.out; omega) (f1, fa, fb, fc) W9.heap.size (by rfl) _ rfl _ _ hbka (by rw [World.size_alloc]; have := HSz.out; omega) ?_
            intro g9 cap9 w6 hO6 hg6
            have hq6 : w6.cell? ⟨N + 2 + 1, 0, none⟩ = some (.pointer (some ⟨N + 2, 0, none⟩)) ∧ w6.cell? ⟨k8, 0, none⟩ = some (.int .i64 f1) ∧ w6.cell? ⟨k8, 1, none⟩ = some (.int .i64 fa) ∧ w6.cell? ⟨k8, 2, none⟩ = some (.int .i64 fb) ∧ w6.cell? ⟨k8, 3, none⟩ = some (.int .i64 fc) := ⟨hg6.cell hqa.1 (own_ne_blk HBd.out.cards HPd.out (by decide)), hg6.cell hqa.2.1 (fun e => by have := HCK.out k8 e.symm; omega), hg6.cell hqa.2.2.1 (fun e => by have := HCK.out k8 e.symm; omega), hg6.cell hqa.2.2.2.1 (fun e => by have := HCK.out k8 e.symm; omega), hg6.cell hqa.2.2.2.2 (fun e => by have := HCK.out k8 e.symm; omega)⟩
            refine hK.out _ _ hq6 (fun _ => ?_)
            clear hK K
            refine wpAnyH_take (i := 8) (v := ?_) rfl (by kernel_rfl) (by kernel_rfl) (by kernel_rfl) (fun _ _ _ h => h) (Or.inl ⟨by rfl, ?_⟩) hq6 ?_
            rotate_left 1
            · intro W hW; obtain ⟨z0, z1, z2, z3, z4⟩ := hW; go_simp <;> with_reducible rfl
            refine wpAnyH_take (i := 9) (v := ?_) rfl (by kernel_rfl) (by kernel_rfl) (by kernel_rfl) (fun _ _ _ h => h) (Or.inl ⟨by rfl, ?_⟩) hq6 ?_
            rotate_left 1
            · intro W hW; obtain ⟨z0, z1, z2, z3, z4⟩ := hW; go_simp <;> with_reducible rfl
            simp only [Act.put, List.setIfInBounds_toArray]
            have HB6 := Lib.hid (HBd.out.pushC hO6 hg6 (by have := HLn.out; omega))
            have HT6 := Lib.hid (HTd.out.push HBd.out.cards (.inl rfl) (Nat.le_refl _) hg6 HBd.out (by omega) 1 (.slice (some ⟨g9, 0, none⟩) (s2.cards.length + 1) cap9))
            have kb := blk_grown hg6 (blk_alloc HBd.out.blk _) (own_ne_blk HBd.out.cards HBd.out.blk (by decide))
            have c1' := (blk_cell (i := 1) kb).trans rfl
            have fr := blk_frozen (i := 1) kb
            have hkn : k8 ≠ N + 2 := fun e => HBd.out.bb_ne HXd.out (by decide) e.symm
            have hkb : (⟨k8, 0, none⟩ : Addr) ≠ ⟨N + 2, 1, none⟩ := fun e => hkn (by injection e)
            have hkb1 : (⟨k8, 1, none⟩ : Addr) ≠ ⟨N + 2, 1, none⟩ := fun e => hkn (by injection e)
            have hkb2 : (⟨k8, 2, none⟩ : Addr) ≠ ⟨N + 2, 1, none⟩ := fun e => hkn (by injection e)
            have hkb3 : (⟨k8, 3, none⟩ : Addr) ≠ ⟨N + 2, 1, none⟩ := fun e => hkn (by injection e)
            refine wpAnyH_ready (rs := [10]) (by kernel_rfl) (by simp) ?_
            refine AllReadyH.cons rfl (fun K hK => ?_) AllReadyH.nil
            go_simp
            refine hK.out _ _ ⟨cell_far hq6.1 (by intro e; injection e with e; omega), cell_far hq6.2.1 hkb, cell_far hq6.2.2.1 hkb1, cell_far hq6.2.2.2.1 hkb2, cell_far hq6.2.2.2.2 hkb3⟩ (fun _ => ?_)
            clear hK K
            refine wpAnyH_done (by kernel_rfl) ?_ _
            gi_wp2_with fail
            gi_meet
            case rel => exact ⟨_, s2, jb2, mb2, n2, Lib.hid ⟨HB6.out, HT6.out, hn3, hj3, hm3, hst⟩⟩
          · go_simp
            refine hK.out _ _ hqa (fun _ => ?_)
            clear hK K
            refine wpAnyH_ready (rs := [4]) (by kernel_rfl) (by simp) ?_
            refine AllReadyH.cons rfl (fun K hK => ?_) AllReadyH.nil
            go_simp
            refine hK.out _ _ hqa (fun _ => ?_)
            clear hK K
            refine wpAnyH_ready (rs := [7]) (by kernel_rfl) (by simp) ?_
            refine AllReadyH.cons rfl (fun K hK => ?_) AllReadyH.nil
            refine step_push rfl (.tmp 53) (.tmp 55) 104 rfl elemCd encCd_len oneCd Tryz.underlying104 N C s2.cards (by rfl) HOA.out (by have := HLn.out; omega) (f1, fa, fb, fc) W9.heap.size (by rfl) _ rfl _ _ hbka (by rw [World.size_alloc]; have := HSz.out; omega) ?_
            intro g9 cap9 w6 hO6 hg6
            have hq6 : w6.cell? ⟨N + 2 + 1, 0, none⟩ = some (.pointer (some ⟨N + 2, 0, none⟩)) ∧ w6.cell? ⟨k8, 0, none⟩ = some (.int .i64 f1) ∧ w6.cell? ⟨k8, 1, none⟩ = some (.int .i64 fa) ∧ w6.cell? ⟨k8, 2, none⟩ = some (.int .i64 fb) ∧ w6.cell? ⟨k8, 3, none⟩ = some (.int .i64 fc) := ⟨hg6.cell hqa.1 (own_ne_blk HBd.out.cards HPd.out (by decide)), hg6.cell hqa.2.1 (fun e => by have := HCK.out k8 e.symm; omega), hg6.cell hqa.2.2.1 (fun e => by have := HCK.out k8 e.symm; omega), hg6.cell hqa.2.2.2.1 (fun e => by have := HCK.out k8 e.symm; omega), hg6.cell hqa.2.2.2.2 (fun e => by have := HCK.out k8 e.symm; omega)⟩
            refine hK.out _ _ hq6 (fun _ => ?_)
            clear hK K
            refine wpAnyH_take (i := 8) (v := ?_) rfl (by kernel_rfl) (by kernel_rfl) (by kernel_rfl) (fun _ _ _ h => h) (Or.inl ⟨by rfl, ?_⟩) hq6 ?_
            rotate_left 1
            · intro W hW; obtain ⟨z0, z1, z2, z3, z4⟩ := hW; go_simp <;> with_reducible rfl
            refine wpAnyH_take (i := 9) (v := ?_) rfl (by kernel_rfl) (by kernel_rfl) (by kernel_rfl) (fun _ _ _ h => h) (Or.inl ⟨by rfl, ?_⟩) hq6 ?_
            rotate_left 1
            · intro W hW; obtain ⟨z0, z1, z2, z3, z4⟩ := hW; go_simp <;> with_reducible rfl
            simp only [Act.put, List.setIfInBounds_toArray]
            have HB6 := Lib.hid (HBd.out.pushC hO6 hg6 (by have := HLn.out; omega))
            have HT6 := Lib.hid (HTd.out.push HBd.out.cards (.inl rfl) (Nat.le_refl _) hg6 HBd.out (by omega) 1 (.slice (some ⟨g9, 0, none⟩) (s2.cards.length + 1) cap9))
            have kb := blk_grown hg6 (blk_alloc HBd.out.blk _) (own_ne_blk HBd.out.cards HBd.out.blk (by decide))
            have c1' := (blk_cell (i := 1) kb).trans rfl
            have fr := blk_frozen (i := 1) kb
            have hkn : k8 ≠ N + 2 := fun e => HBd.out.bb_ne HXd.out (by decide) e.symm
            have hkb : (⟨k8, 0, none⟩ : Addr) ≠ ⟨N + 2, 1, none⟩ := fun e => hkn (by injection e)
            have hkb1 : (⟨k8, 1, none⟩ : Addr) ≠ ⟨N + 2, 1, none⟩ := fun e => hkn (by injection e)
            have hkb2 : (⟨k8, 2, none⟩ : Addr) ≠ ⟨N + 2, 1, none⟩ := fun e => hkn (by injection e)
            have hkb3 : (⟨k8, 3, none⟩ : Addr) ≠ ⟨N + 2, 1, none⟩ := fun e => hkn (by injection e)
            refine wpAnyH_ready (rs := [10]) (by kernel_rfl) (by simp) ?_
            refine AllReadyH.cons rfl (fun K hK => ?_) AllReadyH.nil
            go_simp
            refine hK.out _ _ ⟨cell_far hq6.1 (by intro e; injection e with e; omega), cell_far hq6.2.1 hkb, cell_far hq6.2.2.1 hkb1, cell_far hq6.2.2.2.1 hkb2, cell_far hq6.2.2.2.2 hkb3⟩ (fun _ => ?_)
            clear hK K
            refine wpAnyH_done (by kernel_rfl) ?_ _
            gi_wp2_with fail
            gi_meet
            case rel => exact ⟨_, s2, jb2, mb2, n2, Lib.hid ⟨HB6.out, HT6.out, hn3, hj3, hm3, hst⟩⟩
        case rest =>
          obtain ⟨C2, s2, jb2, mb2, n2, HM3⟩ := hcut
          clear HM2
          obtain ⟨hbk3, hT3, hn3, hj3, hm3, hst⟩ := HM3.out
          have hee : s2.errs.length = pre.length := by
            have h1 := (HOk.out.step l).errs
            rw [hst] at h1
            simp at h1
            omega
          have hp3 := hT3.calm HPb.out ⟨by decide, by decide, by decide, by decide⟩
          have p0 : wc.cell? ⟨N + 2 + 1, 0, none⟩ = some (.pointer (some ⟨N + 2, 0, none⟩)) := (blk_cell hp3).trans rfl
          have q1 : wc.cell? ⟨N + 2, 2, none⟩ = some E := (blk_cell (i := 2) hbk3.blk).trans rfl
          have HBd : Hid (BookW N wc.drew (N + 2) jb2 mb2 n2 ⟨s2.errs, s2.cards ++ [f2], s2.jn⟩ C2 E) := Lib.hid ⟨hbk3.blk, hbk3.jn.drew, hbk3.cards, hbk3.errs, hbk3.few⟩
          have HTd := Lib.hid hT3.drew
          have HPd : Hid (wc.drew.heap[N + 3]? = some (.cells #[.pointer (some ⟨N + 2, 0, none⟩)] 100 (0, 0))) := Lib.hid hp3
          have hwc := hT3.size
          have HLn := Lib.hid hee
          clear HM3 hee
          gi_upto_region 16 with fail
          refine wpIn_region_held (S := fun V => V.cell? ⟨N + 2 + 1, 0, none⟩ = some (.pointer (some ⟨N + 2, 0, none⟩)) ∧ True) (by kernel_rfl) (by kernel_rfl) (by rintro ⟨_, _, h⟩; first | exact h | exact h.elim | cases h.1) ?_
          have hq : wc.drew.cell? ⟨N + 2 + 1, 0, none⟩ = some (.pointer (some ⟨N + 2, 0, none⟩)) ∧ True := ⟨p0, trivial⟩
          have q1d : wc.drew.cell? ⟨N + 2, 2, none⟩ = some E := q1
          have HSz : Hid (N ≤ wc.drew.heap.size) := Lib.hid (by show N ≤ wc.heap.size; omega)
          clear p0 q1 hT3 hbk3 hp3
          generalize wc.drew = W9 at HBd HTd HPd hq q1d HSz ⊢
          refine wpAnyH_take (i := 0) (v := ?_) rfl (by kernel_rfl) (by kernel_rfl) (by kernel_rfl) (fun _ _ _ h => h) (Or.inl ⟨by rfl, ?_⟩) hq ?_
          rotate_left 1
          · intro W hW; obtain ⟨z0, -⟩ := hW; go_simp <;> with_reducible rfl
          refine wpAnyH_take (i := 1) (v := ?_) rfl (by kernel_rfl) (by kernel_rfl) (by kernel_rfl) (fun _ _ _ h => h) (Or.inl ⟨by rfl, ?_⟩) hq ?_
          rotate_left 1
          · intro W hW; obtain ⟨z0, -⟩ := hW; go_simp <;> with_reducible rfl
          refine wpAnyH_take (i := 2) (v := ?_) rfl (by kernel_rfl) (by kernel_rfl) (by kernel_rfl) (fun _ _ _ h => h) (Or.inl ⟨by rfl, ?_⟩) hq ?_
          rotate_left 1
          · intro W hW; obtain ⟨z0, -⟩ := hW; go_simp <;> with_reducible rfl
          refine wpAnyH_take (i := 3) (v := ?_) rfl (by kernel_rfl) (by kernel_rfl) (by kernel_rfl) (fun _ _ _ h => h) (Or.inl ⟨by rfl, ?_⟩) hq ?_
          rotate_left 1
          · intro W hW; obtain ⟨z0, -⟩ := hW; go_simp <;> with_reducible rfl
          refine wpAnyH_take (i := 5) (v := ?_) rfl (by kernel_rfl) (by kernel_rfl) (by kernel_rfl) (fun _ _ _ h => h) (Or.inl ⟨by rfl, ?_⟩) hq ?_
          rotate_left 1
          · intro W hW; obtain ⟨z0, -⟩ := hW; go_simp <;> with_reducible rfl
          simp only [Act.put, List.setIfInBounds_toArray]
          have hbka := heap_alloc_new W9 (.cells #[.int .i64 er] 23)
          have HOA := Lib.hid (HBd.out.errs.alloc (.cells #[.int .i64 er] 23))
          have hqa : (W9.alloc (.cells #[.int .i64 er] 23)).cell? ⟨N + 2 + 1, 0, none⟩ = some (.pointer (some ⟨N + 2, 0, none⟩)) ∧ True := ⟨cell_alloc hq.1 _, trivial⟩
          have q1a : (W9.alloc (.cells #[.int .i64 er] 23)).cell? ⟨N + 2, 2, none⟩ = some E := cell_alloc q1d _
          refine wpAnyH_ready (rs := [4, 6]) (by kernel_rfl) (by simp) ?_
          refine AllReadyH.cons rfl (fun K hK => ?_) (AllReadyH.cons rfl (fun K hK => ?_) AllReadyH.nil)
          · go_simp
            refine hK.out _ _ hq (fun _ => ?_)
            clear hK K
            refine wpAnyH_ready (rs := [6]) (by kernel_rfl) (by simp) ?_
            refine AllReadyH.cons rfl (fun K hK => ?_) AllReadyH.nil
            go_simp
            refine hK.out _ _ hqa (fun _ => ?_)
            clear hK K
            refine wpAnyH_ready (rs := [7]) (by kernel_rfl) (by simp) ?_
            refine AllReadyH.cons rfl (fun K hK => ?_) AllReadyH.nil
            refine step_push rfl (.tmp 63) (.tmp 65) 41 rfl elemEr encI_len oneI Tryz.underlying41 N E s2.errs (by rfl) HOA.out (by have := HLn.out; omega) er W9.heap.size (by rfl) _ rfl _ _ hbka (by rw [World.size_alloc]; have := HSz.out; omega) ?_
            intro g9 cap9 w6 hO6 hg6
            have hq6 : w6.cell? ⟨N + 2 + 1, 0, none⟩ = some (.pointer (some ⟨N + 2, 0, none⟩)) ∧ True := ⟨hg6.cell hqa.1 (own_ne_blk HBd.out.errs HPd.out (by decide)), trivial⟩
            refine hK.out _ _ hq6 (fun _ => ?_)
            clear hK K
            refine wpAnyH_take (i := 8) (v := ?_) rfl (by kernel_rfl) (by kernel_rfl) (by kernel_rfl) (fun _ _ _ h => h) (Or.inl ⟨by rfl, ?_⟩) hq6 ?_
            rotate_left 1
            · intro W hW; obtain ⟨z0, -⟩ := hW; go_simp <;> with_reducible rfl
            refine wpAnyH_take (i := 9) (v := ?_) rfl (by kernel_rfl) (by kernel_rfl) (by kernel_rfl) (fun _ _ _ h => h) (Or.inl ⟨by rfl, ?_⟩) hq6 ?_
            rotate_left 1
            · intro W hW; obtain ⟨z0, -⟩ := hW; go_simp <;> with_reducible rfl
            simp only [Act.put, List.setIfInBounds_toArray]
            have HB6 := Lib.hid (HBd.out.pushE hO6 hg6)
            have HT6 := Lib.hid (HTd.out.push HBd.out.errs (.inr rfl) (Nat.le_refl _) hg6 HBd.out (by omega) 2 (.slice (some ⟨g9, 0, none⟩) (s2.errs.length + 1) cap9))
            have kb := blk_grown hg6 (blk_alloc HBd.out.blk _) (own_ne_blk HBd.out.errs HBd.out.blk (by decide))
            have c1' := (blk_cell (i := 2) kb).trans rfl
            have fr := blk_frozen (i := 2) kb
            refine wpAnyH_ready (rs := [10]) (by kernel_rfl) (by simp) ?_
            refine AllReadyH.cons rfl (fun K hK => ?_) AllReadyH.nil
            go_simp
            refine hK.out _ _ ⟨cell_far hq6.1 (by intro e; injection e with e; omega), trivial⟩ (fun _ => ?_)
            clear hK K
            refine wpAnyH_done (by kernel_rfl) ?_ _
            (try simp only [Exit.inBlock, Exit.then])
            refine ⟨rfl, HT6.out.loops, ⟨(HT6.out.calm HVx.out ⟨by decide, by decide, by decide, by decide⟩).trans HVx.out.symm, fun m q => (World.cell?_of_block (a := ⟨5, 0, none⟩) (HT6.out.block 5 (by omega) (.inl h5N))).trans q⟩, ?_⟩
            show LookI w N L ((pre ++ [(⟨x, hx⟩ : {k : Nat // 1 * k < L.length})]).map (fun x : {k : Nat // 1 * k < L.length} => x.1)) _
            rw [HM1.out]
            exact ⟨⟨jb2, mb2, n2, C2, _, (by rw [HNx.out, hst]; exact HB6.out), (by rw [List.length_append, hkl]; exact hn3), hj3, hm3⟩, HT6.out.calm HPb.out ⟨by decide, by decide, by decide, by decide⟩, ⟨vx, HT6.out.calm HVx.out ⟨by decide, by decide, by decide, by decide⟩⟩, HT6.out.below HBl.out (by omega)⟩
          · go_simp
            refine hK.out _ _ hqa (fun _ => ?_)
            clear hK K
            refine wpAnyH_ready (rs := [4]) (by kernel_rfl) (by simp) ?_
            refine AllReadyH.cons rfl (fun K hK => ?_) AllReadyH.nil
            go_simp
            refine hK.out _ _ hqa (fun _ => ?_)
            clear hK K
            refine wpAnyH_ready (rs := [7]) (by kernel_rfl) (by simp) ?_
            refine AllReadyH.cons rfl (fun K hK => ?_) AllReadyH.nil
            refine step_push rfl (.tmp 63) (.tmp 65) 41 rfl elemEr encI_len oneI Tryz.underlying41 N E s2.errs (by rfl) HOA.out (by have := HLn.out; omega) er W9.heap.size (by rfl) _ rfl _ _ hbka (by rw [World.size_alloc]; have := HSz.out; omega) ?_
            intro g9 cap9 w6 hO6 hg6
            have hq6 : w6.cell? ⟨N + 2 + 1, 0, none⟩ = some (.pointer (some ⟨N + 2, 0, none⟩)) ∧ True := ⟨hg6.cell hqa.1 (own_ne_blk HBd.out.errs HPd.out (by decide)), trivial⟩
            refine hK.out _ _ hq6 (fun _ => ?_)
            clear hK K
            refine wpAnyH_take (i := 8) (v := ?_) rfl (by kernel_rfl) (by kernel_rfl) (by kernel_rfl) (fun _ _ _ h => h) (Or.inl ⟨by rfl, ?_⟩) hq6 ?_
            rotate_left 1
            · intro W hW; obtain ⟨z0, -⟩ := hW; go_simp <;> with_reducible rfl
            refine wpAnyH_take (i := 9) (v := ?_) rfl (by kernel_rfl) (by kernel_rfl) (by kernel_rfl) (fun _ _ _ h => h) (Or.inl ⟨by rfl, ?_⟩) hq6 ?_
            rotate_left 1
            · intro W hW; obtain ⟨z0, -⟩ := hW; go_simp <;> with_reducible rfl
            simp only [Act.put, List.setIfInBounds_toArray]
            have HB6 := Lib.hid (HBd.out.pushE hO6 hg6)
            have HT6 := Lib.hid (HTd.out.push HBd.out.errs (.inr rfl) (Nat.le_refl _) hg6 HBd.out (by omega) 2 (.slice (some ⟨g9, 0, none⟩) (s2.errs.length + 1) cap9))
            have kb := blk_grown hg6 (blk_alloc HBd.out.blk _) (own_ne_blk HBd.out.errs HBd.out.blk (by decide))
            have c1' := (blk_cell (i := 2) kb).trans rfl
            have fr := blk_frozen (i := 2) kb
            refine wpAnyH_ready (rs := [10]) (by kernel_rfl) (by simp) ?_
            refine AllReadyH.cons rfl (fun K hK => ?_) AllReadyH.nil
            go_simp
            refine hK.out _ _ ⟨cell_far hq6.1 (by intro e; injection e with e; omega), trivial⟩ (fun _ => ?_)
            clear hK K
            refine wpAnyH_done (by kernel_rfl) ?_ _
            (try simp only [Exit.inBlock, Exit.then])
            refine ⟨rfl, HT6.out.loops, ⟨(HT6.out.calm HVx.out ⟨by decide, by decide, by decide, by decide⟩).trans HVx.out.symm, fun m q => (World.cell?_of_block (a := ⟨5, 0, none⟩) (HT6.out.block 5 (by omega) (.inl h5N))).trans q⟩, ?_⟩
            show LookI w N L ((pre ++ [(⟨x, hx⟩ : {k : Nat // 1 * k < L.length})]).map (fun x : {k : Nat // 1 * k < L.length} => x.1)) _
            rw [HM1.out]
            exact ⟨⟨jb2, mb2, n2, C2, _, (by rw [HNx.out, hst]; exact HB6.out), (by rw [List.length_append, hkl]; exact hn3), hj3, hm3⟩, HT6.out.calm HPb.out ⟨by decide, by decide, by decide, by decide⟩, ⟨vx, HT6.out.calm HVx.out ⟨by decide, by decide, by decide, by decide⟩⟩, HT6.out.below HBl.out (by omega)⟩
end Go.Proofs.YtkpmmgeffbhngaaGreatDoor
