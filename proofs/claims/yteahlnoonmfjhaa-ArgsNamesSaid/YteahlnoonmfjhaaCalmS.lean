/- Generic: a region that draws its order, in pieces: quiet operations, which may stand anywhere, and others, which stand in one order and may change the blocks of a set; perhaps a new variable; at its end a tail in one forced order. No statement of its own. -/
import Derived.Test.YteahlnoonmfjhaaCalmW
set_option linter.unusedVariables false
namespace Go.Proofs.Yteahlnoonmfjhaa
open Go.RowKit

/-- w' is w, but for new blocks and the blocks of S. -/
structure Mut (S : Nat → Prop) (w w' : World) : Prop where
  os : w'.os = w.os
  tape : w'.tape = w.tape
  output : w'.output = w.output
  size : w.heap.size ≤ w'.heap.size
  block : ∀ i, i < w.heap.size → ¬ S i → w'.heap[i]? = w.heap[i]?
theorem Mut.refl (S : Nat → Prop) (w : World) : Mut S w w := ⟨rfl, rfl, rfl, Nat.le_refl _, fun _ _ _ => rfl⟩
theorem Mut.trans {S : Nat → Prop} {a b c : World} (h : Mut S a b) (k : Mut S b c) : Mut S a c :=
  ⟨k.os.trans h.os, k.tape.trans h.tape, k.output.trans h.output, Nat.le_trans h.size k.size, fun i hi hn => (k.block i (Nat.lt_of_lt_of_le hi h.size) hn).trans (h.block i hi hn)⟩
theorem Mut.of_ext {S : Nat → Prop} {w w' : World} (h : Ext w w') : Mut S w w' := ⟨h.os, h.tape, h.output, h.size, fun i hi _ => h.block i hi⟩
theorem Mut.of_grown {S : Nat → Prop} {w w' : World} {g : Option Nat} (h : w.grownBy w' g) (hg : ∀ b, g = some b → S b) : Mut S w w' :=
  ⟨h.os, h.tape, h.output, h.size, fun i hi hn => h.block i hi fun e => hn (hg i e.symm)⟩
theorem Mut.below {S : Nat → Prop} {B : Nat} {w w' : World} (h : Mut S w w') (hB : ∀ i, S i → B ≤ i) (hBw : B ≤ w.heap.size) : Below B w w' :=
  ⟨h.os, h.tape, h.output, h.size, fun i hi => h.block i (by omega) fun hs => by have := hB i hs; omega⟩
theorem Mut.cell {S : Nat → Prop} {w w' : World} (h : Mut S w w') {k o : Nat} (hk : k < w.heap.size) (hn : ¬ S k) : w'.cell? ⟨k, o, none⟩ = w.cell? ⟨k, o, none⟩ :=
  World.cell?_of_block (h.block k hk hn)
theorem Mut.mono {S S' : Nat → Prop} {w w' : World} (h : Mut S w w') (k : ∀ i, S i → S' i) : Mut S' w w' := ⟨h.os, h.tape, h.output, h.size, fun i hi hn => h.block i hi fun hs => hn (k i hs)⟩
/-- The worlds that are as w0 but for S, with a fact. -/
structure ExtS (S : Nat → Prop) (w0 : World) (ψ : World → Prop) where
  val : World
  ok : Mut S w0 val
  ps : ψ val
theorem ExtS.cell {S : Nat → Prop} {w0 : World} {ψ : World → Prop} (e : ExtS S w0 ψ) {k o : Nat} {v : Value} (h : w0.cell? ⟨k, o, none⟩ = some v) (hk : k < w0.heap.size) (hn : ¬ S k) : e.val.cell? ⟨k, o, none⟩ = some v := (e.ok.cell hk hn).trans h
theorem extS_of {P : Program} {f : FuncId} {args : Array Value} {w : World} {S : Nat → Prop} {ψ : World → Prop} {e : ExtS S w ψ} {v : Value} (hψ : Closed ψ)
    (h : Calls P f args e.val fun r w' => r = .returned v ∧ Below e.val.heap.size e.val w') : Calls P f args e.val fun r w'' => r = .returned v ∧ ∃ e' : ExtS S w ψ, w'' = e'.val :=
  h.mono fun _ w' ⟨he, hm⟩ => ⟨he, ⟨w', e.ok.trans (Mut.of_ext hm), hψ _ _ e.ps hm⟩, rfl⟩
def inS (S : Nat → Prop) (w0 : World) (ψ : World → Prop) : World → Prop := fun w' => ∃ e : ExtS S w0 ψ, w' = e.val
section
variable {P : Program} {ops : Array Oper} {md : Region.Mode}

/-- In every world that is as w but for S, operation o yields v, and only adds to memory. -/
def CalmS (P : Program) (ops : Array Oper) (S : Nat → Prop) (o : Oper) (v : Value) (a : Act) (w : World) : Prop := ∀ w', Mut S w w' → CalmY.YieldsIn' P ops o v a w'
theorem CalmS.ext {S : Nat → Prop} {o : Oper} {v : Value} {a : Act} {w w1 : World} (h : CalmS P ops S o v a w) (k : Mut S w w1) : CalmS P ops S o v a w1 := fun w' hw' => h w' (k.trans hw')
theorem CalmS.of_same {S : Nat → Prop} {o : Oper} {v : Value} {a a' : Act} {w : World} (hy : CalmS P ops S o v a w) (he : execOp a'.eval o = execOp a.eval o)
    (hw : Region.wanted o (yielded ops a'.tmps) = Region.wanted o (yielded ops a.tmps)) : CalmS P ops S o v a' w := fun w' hw' => by
  have := hy w' hw'
  unfold CalmY.YieldsIn' Oper.quietAt at *
  rw [he, hw]
  exact this
theorem CalmS.hOp {S : Nat → Prop} {i : Nat} {o : Oper} {v : Value} {a : Act} {w : World} (hi : ops[i]? = some o) (hy : CalmS P ops S o v a w) {K : Act → World → Prop} (h : ∀ w', Ext w w' → K (a.put o.dst v) w') : hOp P ops i K a w := by
  unfold Go.Proofs.Yteahlnoonmfjhaa.hOp
  simp only [hi]
  rcases hy w (Mut.refl _ _) with ⟨hw, h3⟩ | ⟨hw, rfl⟩
  · simp only [hw, if_true]
    unfold Oper.quietAt at h3
    unfold Oper.wp
    generalize (execOp a.eval o).run P w = r at *
    cases r with
    | ok n w' =>
      cases n <;> simp only [Oper.quietUpon] at h3 <;> simp only [Oper.upon]
      case value u => obtain ⟨rfl, rfl⟩ := h3; exact h _ (Ext.refl _)
      case skip => obtain ⟨rfl, rfl⟩ := h3; exact h _ (Ext.refl _)
      case enter f args =>
        obtain ⟨rfl, hc⟩ := h3
        exact hc.mono fun e w'' ⟨he, hw''⟩ => by subst he; exact h _ hw''
    | halt x w' => simp only [Oper.quietUpon] at h3
  · simp only [hw, Bool.false_eq_true, if_false]; exact h _ (Ext.refl _)

theorem hOp_putS {S : Nat → Prop} {j : Nat} {oi oj : Oper} {v : Value} (hj : ops[j]? = some oj) (hap : oi.apart ops oj = true)
    (hsi : ∀ cs b, oi.op ≠ .select cs b) (hsj : ∀ cs b, oj.op ≠ .select cs b) {K : Act → World → Prop} {a : Act} {w w0 : World}
    (hy : CalmS P ops S oi v a w0) (h : hOp P ops j K (a.put oi.dst v) w) :
    hOp P ops j (fun a' w' => CalmS P ops S oi v a' w0 ∧ K (a'.put oi.dst v) w') a w := by
  obtain ⟨h1, h2, h3⟩ := Oper.apart_spec hap
  have keep : ∀ (a : Act), CalmS P ops S oi v a w0 → ∀ u, CalmS P ops S oi v (a.put oj.dst u) w0 := fun a hy u =>
    hy.of_same (execOp_put oi hsi a oj.dst u h3) (wanted_put oi a oj.dst u h3)
  have keepD : ∀ d, CalmS P ops S oi v { a with defers := d :: a.defers } w0 := fun d => hy.of_same rfl rfl
  unfold hOp at *
  simp only [hj] at *
  rw [wanted_put oj a oi.dst v h1] at h
  split
  · rename_i hw
    simp only [hw, if_true] at h
    unfold Oper.wp at *
    rw [execOp_put oj hsj a oi.dst v h1] at h
    generalize (execOp a.eval oj).run P w = r at *
    cases r with
    | ok n w' =>
      cases n <;> simp only [Oper.upon] at h ⊢
      case value u => exact ⟨keep a hy u, by rw [← Act.put_comm a v u h2]; exact h⟩
      case skip => exact ⟨keep a hy _, by rw [← Act.put_comm a v undef h2]; exact h⟩
      case defer d =>
        refine ⟨keep _ (keepD d) _, ?_⟩
        rw [← Act.put_comm _ v undef h2, ← Act.put_defers]
        exact h
      case enter f args =>
        refine Calls.mono h fun e w'' he => ?_
        cases e with
        | returned u => exact ⟨keep a hy u, by rw [← Act.put_comm a v u h2]; exact he⟩
        | panicked c => exact he
        | outgrown => exact he
      case row row args => exact Rows.mono h fun u w'' he => ⟨keep a hy u, by rw [← Act.put_comm a v u h2]; exact he⟩
    | halt x w' => cases x <;> simp only [Oper.upon] at h ⊢ <;> exact h
  · rename_i hw
    simp only [hw] at h
    exact ⟨keep a hy _, by rw [← Act.put_comm a v undef h2]; exact h⟩

/-- Whatever order is picked, whatever memory is added between: f operations of the head, then L. -/
def wpES (P : Program) (md : Region.Mode) (ops : Array Oper) (S : Nat → Prop) (n : Nat) (L : Array Bool → Act → World → Prop) : Nat → Array Bool → Act → World → Prop
  | 0, listed, a, w => ∀ w', Ext w w' → L listed a w'
  | f + 1, listed, a, w => Region.ready md ops listed ≠ [] ∧ ∀ i ∈ Region.ready md ops listed, i < n ∧ ∀ w1, Ext w w1 →
    hOp P ops i (fun a' w' => Mut S w1 w' ∧ wpES P md ops S n L f (listed.setIfInBounds i true) a' w') a w1
theorem wpES.ext {S : Nat → Prop} {n : Nat} {L : Array Bool → Act → World → Prop} {f : Nat} {listed : Array Bool} {a : Act} {w w1 : World} (h : wpES P md ops S n L f listed a w) (k : Ext w w1) : wpES P md ops S n L f listed a w1 := by
  cases f with
  | zero => exact fun w' hw' => h w' (k.trans hw')
  | succ f => exact ⟨h.1, fun i hi => ⟨(h.2 i hi).1, fun w' hw' => (h.2 i hi).2 w' (k.trans hw')⟩⟩
theorem wpAny_of_ES {S : Nat → Prop} {n g : Nat} {L : Array Bool → Act → World → Prop} {Q : Exit → Act → World → Prop} (hL : ∀ listed a w, L listed a w → wpAny P md ops Q g listed a w) :
    ∀ (f : Nat) (listed : Array Bool) (a : Act) (w : World), wpES P md ops S n L f listed a w → wpAny P md ops Q (f + g) listed a w
  | 0, listed, a, w, h => by rw [Nat.zero_add]; exact hL _ _ _ (h w (Ext.refl w))
  | f + 1, listed, a, w, h => by
    rw [show f + 1 + g = (f + g) + 1 by omega]
    refine ⟨fun h0 => absurd h0 h.1, fun i hi => ?_⟩
    exact wpOp_of_hOp (hOp_mono (fun a' w' h' => wpAny_of_ES hL f _ a' w' h'.2) ((h.2 i hi).2 w (Ext.refl w)))

theorem wpES_first {S : Nat → Prop} {n i : Nat} {oi : Oper} {v : Value} {L : Array Bool → Act → World → Prop} (hi : ops[i]? = some oi) (hsel : ∀ (j : Nat) (o : Oper) cs b, ops[j]? = some o → o.op ≠ .select cs b)
    (ht : tailB md ops n = true) (hin : i < n) (hdone : ∀ listed a w, L listed a w → ∀ j ∈ Region.ready md ops listed, n ≤ j) :
    ∀ (f : Nat) (listed : Array Bool) (a : Act) (w : World), HeadInv md ops n listed →
      (∀ j oj, ops[j]? = some oj → j ≠ i → listed.getD j true = false → (∀ e ∈ oj.after, Region.binds md e = true → e.on ≠ i) → oi.apart ops oj = true) →
      i ∈ Region.ready md ops listed → CalmS P ops S oi v a w →
      wpES P md ops S n L f (listed.setIfInBounds i true) (a.put oi.dst v) w → wpES P md ops S n L (f + 1) listed a w := by
  intro f
  induction f with
  | zero =>
    intro listed a w inv _ hr hy H
    refine ⟨fun h => (by rw [h] at hr; cases hr), fun j hj => ?_⟩
    have hjn := tail_not ht inv hin (mem_ready.1 hr).1 j hj
    refine ⟨hjn, fun w1 hw1 => ?_⟩
    by_cases hji : j = i
    · subst hji; exact (hy.ext (Mut.of_ext hw1)).hOp hi fun w' hw' => ⟨Mut.of_ext hw', H.ext (hw1.trans hw')⟩
    · have := hdone _ _ _ (H w (Ext.refl w)) j (ready_mono hj hji)
      omega
  | succ f ih =>
    intro listed a w inv hfree hr hy H
    refine ⟨fun h => (by rw [h] at hr; cases hr), fun j hj => ?_⟩
    have hjn := tail_not ht inv hin (mem_ready.1 hr).1 j hj
    refine ⟨hjn, fun w1 hw1 => ?_⟩
    by_cases hji : j = i
    · subst hji; exact (hy.ext (Mut.of_ext hw1)).hOp hi fun w' hw' => ⟨Mut.of_ext hw', H.ext (hw1.trans hw')⟩
    · have h1 := (H.2 j (ready_mono hj hji)).2 w1 hw1
      obtain ⟨hjun, oj, hoj, hall⟩ := mem_ready.1 hj
      have hnot : ∀ e ∈ oj.after, Region.binds md e = true → e.on ≠ i := fun e he hb heq => by
        have h2 := hall e he hb
        rw [heq, getD_both (mem_ready.1 hr).1] at h2
        cases h2
      have h2 := hOp_putS hoj (hfree j oj hoj hji hjun hnot) (fun cs b => hsel i oi cs b hi) (fun cs b => hsel j oj cs b hoj) (hy.ext (Mut.of_ext hw1)) h1
      refine hOp_mono (fun a' w' h3 => ⟨h3.2.1, ih (listed.setIfInBounds j true) a' w' (inv.set hj hjn) (fun k ok hk hki hun hno => hfree k ok hk hki ?_ hno) (ready_mono hr (Ne.symm hji)) (h3.1.ext h3.2.1) ?_⟩) h2
      · by_cases hjk : j = k
        · subst hjk; exact hjun
        · rw [getD_set_ne true hjk] at hun; exact hun
      · rw [Array.setIfInBounds_comm _ _ hji]
        exact h3.2.2

/-- The walk, piece by piece: (true, operations): quiet ones; (false, [o]): one that may change the blocks of S; at the end the tail. -/
def wpMS (P : Program) (ops : Array Oper) (S : Nat → Prop) (tl : Act → World → Prop) : List (Bool × List Oper) → Act → World → Prop
  | [], a, w => ∀ w', Ext w w' → tl a w'
  | (true, l) :: rest, a, w => slotsB a.tmps.size l = true ∧
    ∃ A : Act, (∀ ψ, Closed ψ → Nonempty (ExtS S w ψ) → wpQuiet P ops (fun w' => ∃ e : ExtS S w ψ, w' = e.val) (fun a' => a' = A) l a) ∧ wpMS P ops S tl rest A w
  | (false, l) :: rest, a, w => ∀ w1, Ext w w1 → ∀ K : Act → World → Prop, (∀ a' w', Mut S w1 w' → wpMS P ops S tl rest a' w' → K a' w') → wpList P ops (Exit.then K noQ) l a w1

theorem calm_pieceS {S : Nat → Prop} {n : Nat} {L : Array Bool → Act → World → Prop} {A : Act} {w : World} {f : Nat} {ol : List Oper} (hol : ol.toArray = ops) (hs : Region.noSelect ops = true) (ht : tailB md ops n = true) (hdone : ∀ listed a w, L listed a w → ∀ j ∈ Region.ready md ops listed, n ≤ j) :
    ∀ (l : List Nat) (listed : Array Bool) (a : Act), HeadInv md ops n listed → calmB md ops n l listed = true →
      (∀ ψ, Closed ψ → (∃ w', inS S w ψ w') → walkV P ops (inS S w ψ) A (l.flatMap fun k => (ol[k]?).toList) a) →
      (HeadInv md ops n (setAll listed l) → wpES P md ops S n L f (setAll listed l) A w) → wpES P md ops S n L (l.length + f) listed a w
  | [], listed, a, inv, _, hv, H => by
    have : a = A := hv (fun _ => True) closed_true ⟨w, ⟨w, Mut.refl _ _, trivial⟩, rfl⟩
    rw [List.length_nil, Nat.zero_add, this]
    exact H inv
  | k :: l, listed, a, inv, hB, hv, H => by
    simp only [calmB, Bool.and_eq_true, decide_eq_true_eq] at hB
    obtain ⟨⟨⟨hkn, hr⟩, hf⟩, hB'⟩ := hB
    have hr' : k ∈ Region.ready md ops listed := by simpa using hr
    obtain ⟨_, o, ho, _⟩ := mem_ready.1 hr'
    have ho' : ol[k]? = some o := by rw [← hol] at ho; simpa using ho
    simp only [List.flatMap_cons, ho', Option.toList_some, List.singleton_append] at hv
    rw [List.length_cons, show l.length + 1 + f = (l.length + f) + 1 by omega]
    refine wpES_first ho (Region.noSelect_spec hs) ht hkn hdone (l.length + f) listed a w inv (Region.free_spec ho hf) hr' (v := A.eval (.tmp (o.dst.getD 0))) ?_
      (calm_pieceS hol hs ht hdone l _ _ (inv.set hr' hkn) hB' (fun ψ hψ hne => (hv ψ hψ hne).2) H)
    intro w' hw'
    have hne : ∃ w'', inS S w (fun w'' => Below w'.heap.size w' w'') w'' := ⟨w', ⟨w', hw', Below.refl _ _⟩, rfl⟩
    have hcl : Closed fun w'' => Below w'.heap.size w' w'' := fun x y hx hxy => hx.trans (hxy.mono hx.size)
    rcases (hv _ hcl hne).1 with ⟨h1, h2⟩ | h1
    · refine .inl ⟨h1, ?_⟩
      have h3 := h2 w' ⟨⟨w', hw', Below.refl _ _⟩, rfl⟩
      unfold Oper.quietAt at *
      generalize (execOp a.eval o).run P w' = r at *
      cases r with
      | ok m w2 =>
        cases m <;> simp only [Oper.quietUpon] at h3 ⊢ <;> first | exact h3 | (refine ⟨h3.1, h3.2.mono fun e w3 he => ⟨he.1, ?_⟩⟩; obtain ⟨e', rfl⟩ := he.2; exact e'.ps)
      | halt x w2 => exact h3
    · exact .inr h1

theorem wpES_of_M {S : Nat → Prop} {n g : Nat} {tl : Act → World → Prop} {ol : List Oper} (hol : ol.toArray = ops) (hs : Region.noSelect ops = true) (ht : tailB md ops n = true) :
    ∀ (π : List (Bool × List Nat)) (listed : Array Bool) (a : Act) (w : World), HeadInv md ops n listed → ordB md ops g n π listed = true → wpMS P ops S tl (pick ol π) a w →
      wpES P md ops S n (fun listed' a' w' => Region.seqB md ops g n listed' = true ∧ tl a' w') (count π) listed a w
  | [], listed, a, w, inv, hB, h => fun w' hw' => ⟨hB, h w' hw'⟩
  | (true, l) :: π, listed, a, w, inv, hB, h => by
    simp only [ordB, Bool.and_eq_true] at hB
    obtain ⟨hsl, A, h1, h2⟩ := h
    refine calm_pieceS hol hs ht (fun _ _ _ hL => seqB_ready hL.1) l listed a inv hB.1 (fun ψ hψ hne => ?_) fun inv' => wpES_of_M hol hs ht π _ A w inv' hB.2 h2
    exact walkV_of _ a hsl (h1 ψ hψ (by obtain ⟨_, e, _⟩ := hne; exact ⟨e⟩))
  | (false, [k]) :: π, listed, a, w, inv, hB, h => by
    simp only [ordB, Bool.and_eq_true, decide_eq_true_eq] at hB
    obtain ⟨⟨hkn, hr⟩, hB'⟩ := hB
    have hk : k ∈ Region.ready md ops listed := by rw [hr]; simp
    obtain ⟨_, o, ho, _⟩ := mem_ready.1 hk
    have ho' : ol[k]? = some o := by rw [← hol] at ho; simpa using ho
    show wpES P md ops S n _ (1 + count π) listed a w
    rw [Nat.add_comm]
    refine ⟨by rw [hr]; simp, fun i hi => ?_⟩
    rw [hr] at hi
    obtain rfl : i = k := by simpa using hi
    refine ⟨hkn, fun w1 hw1 => ?_⟩
    have h' : ∀ w1, Ext w w1 → ∀ K : Act → World → Prop, (∀ a' w', Mut S w1 w' → wpMS P ops S tl (pick ol π) a' w' → K a' w') → wpList P ops (Exit.then K noQ) [o] a w1 := by
      have := h
      simp only [pick, List.map_cons, List.flatMap_cons, ho', List.flatMap_nil, Option.toList_some, List.singleton_append] at this
      exact this
    have h3 := h' w1 hw1 (fun a' w' => Mut S w1 w' ∧ wpES P md ops S n (fun listed' a' w' => Region.seqB md ops g n listed' = true ∧ tl a' w') (count π) (listed.setIfInBounds i true) a' w')
      (fun a' w' hx hm => ⟨hx, wpES_of_M hol hs ht π _ a' w' (inv.set hk hkn) hB' hm⟩)
    unfold hOp
    simp only [ho]
    unfold wpList at h3
    split
    · rename_i hw
      rw [if_pos hw] at h3
      rcases h3 with h3 | ⟨_, _, _, h3⟩
      · unfold Oper.wp at *
        generalize (execOp a.eval o).run P w1 = r at *
        cases r with
        | ok m w2 =>
          cases m <;> simp only [Oper.upon] at h3 ⊢ <;> first | exact h3 | (refine Calls.mono h3 fun e w3 he => ?_; cases e <;> first | exact he | exact False.elim he | (obtain ⟨_, _, hf⟩ := he; exact False.elim hf))
        | halt x w2 => cases x <;> simp only [Oper.upon] at h3 ⊢ <;> first | exact h3 | exact False.elim h3
      · exact False.elim h3
    · rename_i hw
      rw [if_neg hw] at h3
      exact h3
  | (false, []) :: π, _, _, _, _, hB, _ => by simp [ordB] at hB
  | (false, _ :: _ :: _) :: π, _, _, _, _, hB, _ => by simp [ordB] at hB

theorem wp_region_piecesS {id : Nat} {Q : Exit → Act → World → Prop} {a : Act} {w : World} {l : List Oper} (S : Nat → Prop) (n : Nat) (π : List (Bool × List Nat)) (hm : P.follows .mixedOrders = true)
    (hB : (Region.noSelect l.toArray && tailB .any l.toArray n && decide (count π = n) && ordB .any l.toArray (l.length - n) n π (Array.replicate l.length false)) = true)
    (h : wpMS P l.toArray S (wpList P l.toArray Q (l.drop n)) (pick l π) a w) : (Code.region id l.toArray true).wp P Q a w := by
  simp only [Bool.and_eq_true, decide_eq_true_eq] at hB
  obtain ⟨⟨⟨hs, ht⟩, hc⟩, ho⟩ := hB
  have hnl : n ≤ l.length := by
    simp only [tailB, Bool.or_eq_true, decide_eq_true_eq, Bool.and_eq_true, List.size_toArray] at ht
    omega
  have inv0 : HeadInv .any l.toArray n (Array.replicate l.length false) :=
    ⟨by simp, fun j oj _ hl => (by rw [getD_replicate_false] at hl; cases hl), fun t _ ht => getD_in (by simpa using ht) (getD_replicate_false _ _)⟩
  have hdl : (l.drop n).length = l.length - n := by simp
  have H := (wpES_of_M (P := P) (md := .any) (g := l.length - n) (tl := wpList P l.toArray Q (l.drop n)) rfl hs ht π _ a w inv0 ho h).ext (w1 := { w with drawn := w.drawn + 1 }) (Below.refl _ w).drew
  refine wp_region_any hm ?_
  have := wpAny_of_ES (P := P) (md := .any) (Q := Q) (g := l.length - n) (fun listed a' w' hL => by
    have := wpAny_of_seq (md := .any) (Q' := Q) (l.drop n) n listed a' w' (fun j => by simp [List.getElem?_drop]) (by rw [hdl]; exact hL.1) hL.2
    rwa [hdl] at this) _ _ _ _ H
  rw [hc, show n + (l.length - n) = l.length by omega] at this
  simpa using this

/-! A new variable, which may be made at any time: the last operation of the head. -/
theorem hOp_over {j : Nat} {oi oj : Oper} {v : Value} (hj : ops[j]? = some oj) (hap : oi.apart ops oj = true)
    (hsj : ∀ cs b, oj.op ≠ .select cs b) {K : Act → World → Prop} {a : Act} {w : World} (h : hOp P ops j K a w) :
    hOp P ops j (fun a' w' => ∃ a'', a' = a''.put oi.dst v ∧ K a'' w') (a.put oi.dst v) w := by
  obtain ⟨h1, h2, h3⟩ := Oper.apart_spec hap
  unfold hOp at *
  simp only [hj] at *
  rw [wanted_put oj a oi.dst v h1]
  split
  · rename_i hw
    simp only [hw, if_true] at h
    unfold Oper.wp at *
    rw [execOp_put oj hsj a oi.dst v h1]
    generalize (execOp a.eval oj).run P w = r at *
    cases r with
    | ok n w' =>
      cases n <;> simp only [Oper.upon] at h ⊢
      case value u => exact ⟨_, Act.put_comm a v u h2, h⟩
      case skip => exact ⟨_, Act.put_comm a v undef h2, h⟩
      case defer d =>
        refine ⟨_, ?_, h⟩
        rw [← Act.put_comm _ v undef h2]
        congr 1
        unfold Act.put
        cases oi.dst <;> rfl
      case enter f args =>
        refine Calls.mono h fun e w'' he => ?_
        cases e with
        | returned u => exact ⟨_, Act.put_comm a v u h2, he⟩
        | panicked c => exact he
        | outgrown => exact he
      case row row args => exact Rows.mono h fun u w'' he => ⟨_, Act.put_comm a v u h2, he⟩
    | halt x w' => cases x <;> simp only [Oper.upon] at h ⊢ <;> exact h
  · rename_i hw
    simp only [hw] at h
    exact ⟨_, Act.put_comm a v undef h2, h⟩


/-- The new variable is made: its address stands in slot d. -/
theorem wpES_made {S : Nat → Prop} {n i g W0 : Nat} {oi : Oper} {O : Obj} {C : Array Bool → Prop} {tl : Act → World → Prop} (hsel : ∀ (j : Nat) (o : Oper) cs b, ops[j]? = some o → o.op ≠ .select cs b)
    (hap : ∀ (j : Nat) (oj : Oper), ops[j]? = some oj → j < n → j ≠ i → oi.apart ops oj = true) (hS : ¬ S g) (hg0 : W0 ≤ g) :
    ∀ (f : Nat) (listed : Array Bool) (a : Act) (w : World), listed.getD i true = true → w.heap[g]? = some O →
      wpES P md ops S n (fun listed a w => C listed ∧ ∀ g, W0 ≤ g → ¬ S g → w.heap[g]? = some O → tl (a.put oi.dst (.pointer (some ⟨g, 0, none⟩))) w) f listed a w →
      wpES P md ops S n (fun listed a w => C listed ∧ tl a w) f listed (a.put oi.dst (.pointer (some ⟨g, 0, none⟩))) w
  | 0, listed, a, w, _, hg, H => fun w' hw' => ⟨(H w' hw').1, (H w' hw').2 g hg0 hS ((hw'.block g (Array.getElem?_eq_some_iff.1 hg).1).trans hg)⟩
  | f + 1, listed, a, w, hl, hg, H => by
    refine ⟨H.1, fun j hj => ⟨(H.2 j hj).1, fun w1 hw1 => ?_⟩⟩
    have h1 := (H.2 j hj).2 w1 hw1
    obtain ⟨hjun, oj, hoj, hall⟩ := mem_ready.1 hj
    have hji : j ≠ i := by rintro rfl; rw [hjun] at hl; cases hl
    have hg1 := (hw1.block g (Array.getElem?_eq_some_iff.1 hg).1).trans hg
    refine hOp_mono (fun a' w' h2 => ?_) (hOp_over hoj (hap j oj hoj (H.2 j hj).1 hji) (fun cs b => hsel j oj cs b hoj) h1)
    obtain ⟨a'', rfl, h3, h4⟩ := h2
    refine ⟨h3, wpES_made hsel hap hS hg0 f _ a'' w' ?_ ((h3.block g (Array.getElem?_eq_some_iff.1 hg1).1 hS).trans hg1) h4⟩
    rw [getD_set_ne true hji]
    exact hl

/-- The new variable may be made at any time. -/
theorem wpES_float {S : Nat → Prop} {n i W0 : Nat} {oi : Oper} {O : Obj} {C : Array Bool → Prop} {tl : Act → World → Prop} (hsel : ∀ (j : Nat) (o : Oper) cs b, ops[j]? = some o → o.op ≠ .select cs b) (hi : ops[i]? = some oi) (hin : i < n)
    (hap : ∀ (j : Nat) (oj : Oper), ops[j]? = some oj → j < n → j ≠ i → oi.apart ops oj = true) (ht : tailB md ops n = true) (hng : oi.guard = none)
    (hrun : ∀ (a : Act) (w : World), (execOp a.eval oi).run P w = .ok (.value (.pointer (some ⟨w.heap.size, 0, none⟩))) (w.alloc O)) (hSW : ∀ k, S k → k < W0) (hC : ∀ listed, C listed → ∀ j ∈ Region.ready md ops listed, n ≤ j) :
    ∀ (f : Nat) (listed : Array Bool) (a : Act) (w : World), HeadInv md ops n listed → i ∈ Region.ready md ops listed → W0 ≤ w.heap.size →
      wpES P md ops S n (fun listed a w => C listed ∧ ∀ g, W0 ≤ g → ¬ S g → w.heap[g]? = some O → tl (a.put oi.dst (.pointer (some ⟨g, 0, none⟩))) w) f (listed.setIfInBounds i true) a w →
      wpES P md ops S n (fun listed a w => C listed ∧ tl a w) (f + 1) listed a w := by
  have made : ∀ (f : Nat) (listed : Array Bool) (a : Act) (w w1 : World), W0 ≤ w.heap.size → Ext w w1 →
      wpES P md ops S n (fun listed a w => C listed ∧ ∀ g, W0 ≤ g → ¬ S g → w.heap[g]? = some O → tl (a.put oi.dst (.pointer (some ⟨g, 0, none⟩))) w) f (listed.setIfInBounds i true) a w →
      hOp P ops i (fun a' w' => Mut S w1 w' ∧ wpES P md ops S n (fun listed a w => C listed ∧ tl a w) f (listed.setIfInBounds i true) a' w') a w1 := by
    intro f listed a w w1 hW hw1 H
    have hns : ¬ S w1.heap.size := fun h => by have := hSW _ h; have := hw1.size; omega
    unfold hOp
    simp only [hi]
    rw [if_pos (by simp [Region.wanted, hng])]
    unfold Oper.wp
    rw [hrun, Oper.upon_value]
    exact ⟨Mut.of_ext ((Below.refl _ w1).alloc (Nat.le_refl _) _), wpES_made hsel hap hns (by have := hw1.size; omega) f _ _ _ (getD_self listed i) (heap_alloc_last w1 O) (H.ext (hw1.trans ((Below.refl _ w1).alloc (Nat.le_refl _) _)))⟩
  intro f
  induction f with
  | zero =>
    intro listed a w inv hr hW H
    refine ⟨fun h => (by rw [h] at hr; cases hr), fun j hj => ?_⟩
    have hjn := tail_not ht inv hin (mem_ready.1 hr).1 j hj
    refine ⟨hjn, fun w1 hw1 => ?_⟩
    by_cases hji : j = i
    · subst hji; exact made 0 listed a w w1 hW hw1 H
    · have := hC _ (H w (Ext.refl w)).1 j (ready_mono hj hji)
      omega
  | succ f ih =>
    intro listed a w inv hr hW H
    refine ⟨fun h => (by rw [h] at hr; cases hr), fun j hj => ?_⟩
    have hjn := tail_not ht inv hin (mem_ready.1 hr).1 j hj
    refine ⟨hjn, fun w1 hw1 => ?_⟩
    by_cases hji : j = i
    · subst hji; exact made (f + 1) listed a w w1 hW hw1 H
    · have h1 := (H.2 j (ready_mono hj hji)).2 w1 hw1
      refine hOp_mono (fun a' w' h2 => ⟨h2.1, ih _ a' w' (inv.set hj hjn) (ready_mono hr (Ne.symm hji)) (Nat.le_trans hW (Nat.le_trans hw1.size h2.1.size)) ?_⟩) h1
      rw [Array.setIfInBounds_comm _ _ hji]
      exact h2.2

def apartB (ops : Array Oper) (n i : Nat) : Bool := match ops[i]? with
  | none => false
  | some oi => (List.range n).all fun j => j == i || match ops[j]? with | none => true | some oj => oi.apart ops oj

/-- As wp_region_piecesS; operation i of the head makes a new variable, the object O, which no other operation of the head looks at. -/
theorem wp_region_piecesA {id : Nat} {Q : Exit → Act → World → Prop} {a : Act} {w : World} {l : List Oper} (S : Nat → Prop) (n i : Nat) (π : List (Bool × List Nat)) {oi : Oper} {O : Obj} (hm : P.follows .mixedOrders = true)
    (hB : (Region.noSelect l.toArray && tailB .any l.toArray n && decide (count π + 1 = n) && decide (i < n) && apartB l.toArray n i && (Region.ready .any l.toArray (Array.replicate l.length false)).contains i && ordB .any l.toArray (l.length - n) n π ((Array.replicate l.length false).setIfInBounds i true)) = true)
    (hi : l[i]? = some oi) (hng : oi.guard = none) (hrun : ∀ (a : Act) (w : World), (execOp a.eval oi).run P w = .ok (.value (.pointer (some ⟨w.heap.size, 0, none⟩))) (w.alloc O)) (hS : ∀ k, S k → k < w.heap.size)
    (h : wpMS P l.toArray S (fun a' w' => ∀ g, w.heap.size ≤ g → ¬ S g → w'.heap[g]? = some O → wpList P l.toArray Q (l.drop n) (a'.put oi.dst (.pointer (some ⟨g, 0, none⟩))) w') (pick l π) a w) : (Code.region id l.toArray true).wp P Q a w := by
  simp only [Bool.and_eq_true, decide_eq_true_eq] at hB
  obtain ⟨⟨⟨⟨⟨⟨hs, ht⟩, hc⟩, hin⟩, hap⟩, hri⟩, ho⟩ := hB
  have hnl : n ≤ l.length := by
    simp only [tailB, Bool.or_eq_true, decide_eq_true_eq, Bool.and_eq_true, List.size_toArray] at ht
    omega
  have inv0 : HeadInv .any l.toArray n (Array.replicate l.length false) :=
    ⟨by simp, fun j oj _ hl => (by rw [getD_replicate_false] at hl; cases hl), fun t _ ht => getD_in (by simpa using ht) (getD_replicate_false _ _)⟩
  have hr : i ∈ Region.ready .any l.toArray (Array.replicate l.length false) := by simpa using hri
  have hi' : l.toArray[i]? = some oi := by simpa using hi
  have hap' : ∀ (j : Nat) (oj : Oper), l.toArray[j]? = some oj → j < n → j ≠ i → oi.apart l.toArray oj = true := by
    intro j oj hoj hjn hji
    simp only [apartB, hi', List.all_eq_true, List.mem_range] at hap
    have := hap j hjn
    simp only [hoj, Bool.or_eq_true, beq_iff_eq] at this
    exact this.resolve_left hji
  have hdl : (l.drop n).length = l.length - n := by simp
  have H := (wpES_of_M (P := P) (md := .any) (g := l.length - n) rfl hs ht π _ a w (inv0.set hr hin) ho h).ext (w1 := { w with drawn := w.drawn + 1 }) (Below.refl _ w).drew
  have H2 := wpES_float (P := P) (md := .any) (S := S) (W0 := w.heap.size) (C := fun listed => Region.seqB .any l.toArray (l.length - n) n listed = true) (tl := wpList P l.toArray Q (l.drop n)) (Region.noSelect_spec hs) hi' hin hap' ht hng hrun hS (fun listed hL => seqB_ready hL) (count π) _ a { w with drawn := w.drawn + 1 } inv0 hr (Nat.le_refl _) H
  refine wp_region_any hm ?_
  have := wpAny_of_ES (P := P) (md := .any) (Q := Q) (g := l.length - n) (fun listed a' w' hL => by
    have := wpAny_of_seq (md := .any) (Q' := Q) (l.drop n) n listed a' w' (fun j => by simp [List.getElem?_drop]) (by rw [hdl]; exact hL.1) hL.2
    rwa [hdl] at this) _ _ _ _ H2
  rw [hc, show n + (l.length - n) = l.length by omega] at this
  simpa using this
end
end Go.Proofs.Yteahlnoonmfjhaa
