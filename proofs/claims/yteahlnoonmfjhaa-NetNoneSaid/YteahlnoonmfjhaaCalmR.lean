/- Generic: XCalmS with any relation between worlds in the place of 'but for the blocks of S'; operations on maps in drawn regions. No statement of its own. -/
import Derived.Test.YteahlnoonmfjhaaMo
import Derived.WideKeyEntry
set_option linter.unusedVariables false
namespace Go.Proofs.Yteahlnoonmfjhaa
open Go.RowKit Go.MapKept Go.ChangeMaps

/-- A relation between worlds that bears new blocks. -/
structure Rl where
  r : World → World → Prop
  refl : ∀ w, r w w
  trans : ∀ {a b c}, r a b → r b c → r a c
  ext : ∀ {a b}, Ext a b → r a b
/-- The worlds that are as w0 but for S, with a fact. -/
structure ExtR (S : Rl) (w0 : World) (ψ : World → Prop) where
  val : World
  ok : S.r w0 val
  ps : ψ val
theorem extR_of {P : Program} {f : FuncId} {args : Array Value} {w : World} {S : Rl} {ψ : World → Prop} {e : ExtR S w ψ} {v : Value} (hψ : Closed ψ)
    (h : Calls P f args e.val fun r w' => r = .returned v ∧ Below e.val.heap.size e.val w') : Calls P f args e.val fun r w'' => r = .returned v ∧ ∃ e' : ExtR S w ψ, w'' = e'.val :=
  h.mono fun _ w' ⟨he, hm⟩ => ⟨he, ⟨w', S.trans e.ok (S.ext hm), hψ _ _ e.ps hm⟩, rfl⟩
def inR (S : Rl) (w0 : World) (ψ : World → Prop) : World → Prop := fun w' => ∃ e : ExtR S w0 ψ, w' = e.val
section
variable {P : Program} {ops : Array Oper} {md : Region.Mode}

/-- In every world that is as w but for S, operation o yields v, and only adds to memory. -/
def CalmR (P : Program) (ops : Array Oper) (S : Rl) (o : Oper) (v : Value) (a : Act) (w : World) : Prop := ∀ w', S.r w w' → CalmY.YieldsIn' P ops o v a w'
theorem CalmR.ext {S : Rl} {o : Oper} {v : Value} {a : Act} {w w1 : World} (h : CalmR P ops S o v a w) (k : S.r w w1) : CalmR P ops S o v a w1 := fun w' hw' => h w' (S.trans k hw')
theorem CalmR.of_same {S : Rl} {o : Oper} {v : Value} {a a' : Act} {w : World} (hy : CalmR P ops S o v a w) (he : execOp a'.eval o = execOp a.eval o)
    (hw : Region.wanted o (yielded ops a'.tmps) = Region.wanted o (yielded ops a.tmps)) : CalmR P ops S o v a' w := fun w' hw' => by
  have := hy w' hw'
  unfold CalmY.YieldsIn' Oper.quietAt at *
  rw [he, hw]
  exact this
theorem CalmR.hOp {S : Rl} {i : Nat} {o : Oper} {v : Value} {a : Act} {w : World} (hi : ops[i]? = some o) (hy : CalmR P ops S o v a w) {K : Act → World → Prop} (h : ∀ w', Ext w w' → K (a.put o.dst v) w') : hOp P ops i K a w := by
  unfold Go.Proofs.Yteahlnoonmfjhaa.hOp
  simp only [hi]
  rcases hy w (S.refl _) with ⟨hw, h3⟩ | ⟨hw, rfl⟩
  · simp only [hw, if_true]
    unfold Oper.quietAt at h3
    unfold Oper.wp
    generalize (execOp a.eval o).run P w = r at *
    cases r with
    | ok n w' =>
      cases n <;> simp only [Oper.quietUpon] at h3 <;> simp only [Oper.upon]
      case value u => obtain ⟨rfl, rfl⟩ := h3; exact h _ (Ext.refl _)
      case skip => obtain ⟨rfl, rfl⟩ := h3; exact h _ (Ext.refl _)
      case enter f args =>
        obtain ⟨rfl, hc⟩ := h3
        exact hc.mono fun e w'' ⟨he, hw''⟩ => by subst he; exact h _ hw''
    | halt x w' => simp only [Oper.quietUpon] at h3
  · simp only [hw, Bool.false_eq_true, if_false]; exact h _ (Ext.refl _)

theorem hOp_putR {S : Rl} {j : Nat} {oi oj : Oper} {v : Value} (hj : ops[j]? = some oj) (hap : oi.apart ops oj = true)
    (hsi : ∀ cs b, oi.op ≠ .select cs b) (hsj : ∀ cs b, oj.op ≠ .select cs b) {K : Act → World → Prop} {a : Act} {w w0 : World}
    (hy : CalmR P ops S oi v a w0) (h : hOp P ops j K (a.put oi.dst v) w) :
    hOp P ops j (fun a' w' => CalmR P ops S oi v a' w0 ∧ K (a'.put oi.dst v) w') a w := by
  obtain ⟨h1, h2, h3⟩ := Oper.apart_spec hap
  have keep : ∀ (a : Act), CalmR P ops S oi v a w0 → ∀ u, CalmR P ops S oi v (a.put oj.dst u) w0 := fun a hy u =>
    hy.of_same (execOp_put oi hsi a oj.dst u h3) (wanted_put oi a oj.dst u h3)
  have keepD : ∀ d, CalmR P ops S oi v { a with defers := d :: a.defers } w0 := fun d => hy.of_same rfl rfl
  unfold hOp at *
  simp only [hj] at *
  rw [wanted_put oj a oi.dst v h1] at h
  split
  · rename_i hw
    simp only [hw, if_true] at h
    unfold Oper.wp at *
    rw [execOp_put oj hsj a oi.dst v h1] at h
    generalize (execOp a.eval oj).run P w = r at *
    cases r with
    | ok n w' =>
      cases n <;> simp only [Oper.upon] at h ⊢
      case value u => exact ⟨keep a hy u, by rw [← Act.put_comm a v u h2]; exact h⟩
      case skip => exact ⟨keep a hy _, by rw [← Act.put_comm a v undef h2]; exact h⟩
      case defer d =>
        refine ⟨keep _ (keepD d) _, ?_⟩
        rw [← Act.put_comm _ v undef h2, ← Act.put_defers]
        exact h
      case enter f args =>
        refine Calls.mono h fun e w'' he => ?_
        cases e with
        | returned u => exact ⟨keep a hy u, by rw [← Act.put_comm a v u h2]; exact he⟩
        | panicked c => exact he
        | outgrown => exact he
      case row row args => exact Rows.mono h fun u w'' he => ⟨keep a hy u, by rw [← Act.put_comm a v u h2]; exact he⟩
    | halt x w' => cases x <;> simp only [Oper.upon] at h ⊢ <;> exact h
  · rename_i hw
    simp only [hw] at h
    exact ⟨keep a hy _, by rw [← Act.put_comm a v undef h2]; exact h⟩

/-- Whatever order is picked, whatever memory is added between: f operations of the head, then L. -/
def wpER (P : Program) (md : Region.Mode) (ops : Array Oper) (S : Rl) (n : Nat) (L : Array Bool → Act → World → Prop) : Nat → Array Bool → Act → World → Prop
  | 0, listed, a, w => ∀ w', Ext w w' → L listed a w'
  | f + 1, listed, a, w => Region.ready md ops listed ≠ [] ∧ ∀ i ∈ Region.ready md ops listed, i < n ∧ ∀ w1, Ext w w1 →
    hOp P ops i (fun a' w' => S.r w1 w' ∧ wpER P md ops S n L f (listed.setIfInBounds i true) a' w') a w1
theorem wpER.ext {S : Rl} {n : Nat} {L : Array Bool → Act → World → Prop} {f : Nat} {listed : Array Bool} {a : Act} {w w1 : World} (h : wpER P md ops S n L f listed a w) (k : Ext w w1) : wpER P md ops S n L f listed a w1 := by
  cases f with
  | zero => exact fun w' hw' => h w' (k.trans hw')
  | succ f => exact ⟨h.1, fun i hi => ⟨(h.2 i hi).1, fun w' hw' => (h.2 i hi).2 w' (k.trans hw')⟩⟩
theorem wpAny_of_ER {S : Rl} {n g : Nat} {L : Array Bool → Act → World → Prop} {Q : Exit → Act → World → Prop} (hL : ∀ listed a w, L listed a w → wpAny P md ops Q g listed a w) :
    ∀ (f : Nat) (listed : Array Bool) (a : Act) (w : World), wpER P md ops S n L f listed a w → wpAny P md ops Q (f + g) listed a w
  | 0, listed, a, w, h => by rw [Nat.zero_add]; exact hL _ _ _ (h w (Ext.refl w))
  | f + 1, listed, a, w, h => by
    rw [show f + 1 + g = (f + g) + 1 by omega]
    refine ⟨fun h0 => absurd h0 h.1, fun i hi => ?_⟩
    exact wpOp_of_hOp (hOp_mono (fun a' w' h' => wpAny_of_ER hL f _ a' w' h'.2) ((h.2 i hi).2 w (Ext.refl w)))

theorem wpER_first {S : Rl} {n i : Nat} {oi : Oper} {v : Value} {L : Array Bool → Act → World → Prop} (hi : ops[i]? = some oi) (hsel : ∀ (j : Nat) (o : Oper) cs b, ops[j]? = some o → o.op ≠ .select cs b)
    (ht : tailB md ops n = true) (hin : i < n) (hdone : ∀ listed a w, L listed a w → ∀ j ∈ Region.ready md ops listed, n ≤ j) :
    ∀ (f : Nat) (listed : Array Bool) (a : Act) (w : World), HeadInv md ops n listed →
      (∀ j oj, ops[j]? = some oj → j ≠ i → listed.getD j true = false → (∀ e ∈ oj.after, Region.binds md e = true → e.on ≠ i) → oi.apart ops oj = true) →
      i ∈ Region.ready md ops listed → CalmR P ops S oi v a w →
      wpER P md ops S n L f (listed.setIfInBounds i true) (a.put oi.dst v) w → wpER P md ops S n L (f + 1) listed a w := by
  intro f
  induction f with
  | zero =>
    intro listed a w inv _ hr hy H
    refine ⟨fun h => (by rw [h] at hr; cases hr), fun j hj => ?_⟩
    have hjn := tail_not ht inv hin (mem_ready.1 hr).1 j hj
    refine ⟨hjn, fun w1 hw1 => ?_⟩
    by_cases hji : j = i
    · subst hji; exact (hy.ext (S.ext hw1)).hOp hi fun w' hw' => ⟨S.ext hw', H.ext (hw1.trans hw')⟩
    · have := hdone _ _ _ (H w (Ext.refl w)) j (ready_mono hj hji)
      omega
  | succ f ih =>
    intro listed a w inv hfree hr hy H
    refine ⟨fun h => (by rw [h] at hr; cases hr), fun j hj => ?_⟩
    have hjn := tail_not ht inv hin (mem_ready.1 hr).1 j hj
    refine ⟨hjn, fun w1 hw1 => ?_⟩
    by_cases hji : j = i
    · subst hji; exact (hy.ext (S.ext hw1)).hOp hi fun w' hw' => ⟨S.ext hw', H.ext (hw1.trans hw')⟩
    · have h1 := (H.2 j (ready_mono hj hji)).2 w1 hw1
      obtain ⟨hjun, oj, hoj, hall⟩ := mem_ready.1 hj
      have hnot : ∀ e ∈ oj.after, Region.binds md e = true → e.on ≠ i := fun e he hb heq => by
        have h2 := hall e he hb
        rw [heq, getD_both (mem_ready.1 hr).1] at h2
        cases h2
      have h2 := hOp_putR hoj (hfree j oj hoj hji hjun hnot) (fun cs b => hsel i oi cs b hi) (fun cs b => hsel j oj cs b hoj) (hy.ext (S.ext hw1)) h1
      refine hOp_mono (fun a' w' h3 => ⟨h3.2.1, ih (listed.setIfInBounds j true) a' w' (inv.set hj hjn) (fun k ok hk hki hun hno => hfree k ok hk hki ?_ hno) (ready_mono hr (Ne.symm hji)) (h3.1.ext h3.2.1) ?_⟩) h2
      · by_cases hjk : j = k
        · subst hjk; exact hjun
        · rw [getD_set_ne true hjk] at hun; exact hun
      · rw [Array.setIfInBounds_comm _ _ hji]
        exact h3.2.2

/-- The walk, piece by piece: (true, operations): quiet ones; (false, [o]): one that may change the blocks of S; at the end the tail. -/
def wpMR (P : Program) (ops : Array Oper) (S : Rl) (tl : Act → World → Prop) : List (Bool × List Oper) → Act → World → Prop
  | [], a, w => ∀ w', Ext w w' → tl a w'
  | (true, l) :: rest, a, w => slotsB a.tmps.size l = true ∧
    ∃ A : Act, (∀ ψ, Closed ψ → Nonempty (ExtR S w ψ) → wpQuiet P ops (fun w' => ∃ e : ExtR S w ψ, w' = e.val) (fun a' => a' = A) l a) ∧ wpMR P ops S tl rest A w
  | (false, l) :: rest, a, w => ∀ w1, Ext w w1 → ∀ K : Act → World → Prop, (∀ a' w', S.r w1 w' → wpMR P ops S tl rest a' w' → K a' w') → wpList P ops (Exit.then K noQ) l a w1

theorem calm_pieceR {S : Rl} {n : Nat} {L : Array Bool → Act → World → Prop} {A : Act} {w : World} {f : Nat} {ol : List Oper} (hol : ol.toArray = ops) (hs : Region.noSelect ops = true) (ht : tailB md ops n = true) (hdone : ∀ listed a w, L listed a w → ∀ j ∈ Region.ready md ops listed, n ≤ j) :
    ∀ (l : List Nat) (listed : Array Bool) (a : Act), HeadInv md ops n listed → calmB md ops n l listed = true →
      (∀ ψ, Closed ψ → (∃ w', inR S w ψ w') → walkV P ops (inR S w ψ) A (l.flatMap fun k => (ol[k]?).toList) a) →
      (HeadInv md ops n (setAll listed l) → wpER P md ops S n L f (setAll listed l) A w) → wpER P md ops S n L (l.length + f) listed a w
  | [], listed, a, inv, _, hv, H => by
    have : a = A := hv (fun _ => True) closed_true ⟨w, ⟨w, S.refl _, trivial⟩, rfl⟩
    rw [List.length_nil, Nat.zero_add, this]
    exact H inv
  | k :: l, listed, a, inv, hB, hv, H => by
    simp only [calmB, Bool.and_eq_true, decide_eq_true_eq] at hB
    obtain ⟨⟨⟨hkn, hr⟩, hf⟩, hB'⟩ := hB
    have hr' : k ∈ Region.ready md ops listed := by simpa using hr
    obtain ⟨_, o, ho, _⟩ := mem_ready.1 hr'
    have ho' : ol[k]? = some o := by rw [← hol] at ho; simpa using ho
    simp only [List.flatMap_cons, ho', Option.toList_some, List.singleton_append] at hv
    rw [List.length_cons, show l.length + 1 + f = (l.length + f) + 1 by omega]
    refine wpER_first ho (Region.noSelect_spec hs) ht hkn hdone (l.length + f) listed a w inv (Region.free_spec ho hf) hr' (v := A.eval (.tmp (o.dst.getD 0))) ?_
      (calm_pieceR hol hs ht hdone l _ _ (inv.set hr' hkn) hB' (fun ψ hψ hne => (hv ψ hψ hne).2) H)
    intro w' hw'
    have hne : ∃ w'', inR S w (fun w'' => Below w'.heap.size w' w'') w'' := ⟨w', ⟨w', hw', Below.refl _ _⟩, rfl⟩
    have hcl : Closed fun w'' => Below w'.heap.size w' w'' := fun x y hx hxy => hx.trans (hxy.mono hx.size)
    rcases (hv _ hcl hne).1 with ⟨h1, h2⟩ | h1
    · refine .inl ⟨h1, ?_⟩
      have h3 := h2 w' ⟨⟨w', hw', Below.refl _ _⟩, rfl⟩
      unfold Oper.quietAt at *
      generalize (execOp a.eval o).run P w' = r at *
      cases r with
      | ok m w2 =>
        cases m <;> simp only [Oper.quietUpon] at h3 ⊢ <;> first | exact h3 | (refine ⟨h3.1, h3.2.mono fun e w3 he => ⟨he.1, ?_⟩⟩; obtain ⟨e', rfl⟩ := he.2; exact e'.ps)
      | halt x w2 => exact h3
    · exact .inr h1

theorem wpER_of_M {S : Rl} {n g : Nat} {tl : Act → World → Prop} {ol : List Oper} (hol : ol.toArray = ops) (hs : Region.noSelect ops = true) (ht : tailB md ops n = true) :
    ∀ (π : List (Bool × List Nat)) (listed : Array Bool) (a : Act) (w : World), HeadInv md ops n listed → ordB md ops g n π listed = true → wpMR P ops S tl (pick ol π) a w →
      wpER P md ops S n (fun listed' a' w' => Region.seqB md ops g n listed' = true ∧ tl a' w') (count π) listed a w
  | [], listed, a, w, inv, hB, h => fun w' hw' => ⟨hB, h w' hw'⟩
  | (true, l) :: π, listed, a, w, inv, hB, h => by
    simp only [ordB, Bool.and_eq_true] at hB
    obtain ⟨hsl, A, h1, h2⟩ := h
    refine calm_pieceR hol hs ht (fun _ _ _ hL => seqB_ready hL.1) l listed a inv hB.1 (fun ψ hψ hne => ?_) fun inv' => wpER_of_M hol hs ht π _ A w inv' hB.2 h2
    exact walkV_of _ a hsl (h1 ψ hψ (by obtain ⟨_, e, _⟩ := hne; exact ⟨e⟩))
  | (false, [k]) :: π, listed, a, w, inv, hB, h => by
    simp only [ordB, Bool.and_eq_true, decide_eq_true_eq] at hB
    obtain ⟨⟨hkn, hr⟩, hB'⟩ := hB
    have hk : k ∈ Region.ready md ops listed := by rw [hr]; simp
    obtain ⟨_, o, ho, _⟩ := mem_ready.1 hk
    have ho' : ol[k]? = some o := by rw [← hol] at ho; simpa using ho
    show wpER P md ops S n _ (1 + count π) listed a w
    rw [Nat.add_comm]
    refine ⟨by rw [hr]; simp, fun i hi => ?_⟩
    rw [hr] at hi
    obtain rfl : i = k := by simpa using hi
    refine ⟨hkn, fun w1 hw1 => ?_⟩
    have h' : ∀ w1, Ext w w1 → ∀ K : Act → World → Prop, (∀ a' w', S.r w1 w' → wpMR P ops S tl (pick ol π) a' w' → K a' w') → wpList P ops (Exit.then K noQ) [o] a w1 := by
      have := h
      simp only [pick, List.map_cons, List.flatMap_cons, ho', List.flatMap_nil, Option.toList_some, List.singleton_append] at this
      exact this
    have h3 := h' w1 hw1 (fun a' w' => S.r w1 w' ∧ wpER P md ops S n (fun listed' a' w' => Region.seqB md ops g n listed' = true ∧ tl a' w') (count π) (listed.setIfInBounds i true) a' w')
      (fun a' w' hx hm => ⟨hx, wpER_of_M hol hs ht π _ a' w' (inv.set hk hkn) hB' hm⟩)
    unfold hOp
    simp only [ho]
    unfold wpList at h3
    split
    · rename_i hw
      rw [if_pos hw] at h3
      rcases h3 with h3 | ⟨_, _, _, h3⟩
      · unfold Oper.wp at *
        generalize (execOp a.eval o).run P w1 = r at *
        cases r with
        | ok m w2 =>
          cases m <;> simp only [Oper.upon] at h3 ⊢ <;> first | exact h3 | (refine Calls.mono h3 fun e w3 he => ?_; cases e <;> first | exact he | exact False.elim he | (obtain ⟨_, _, hf⟩ := he; exact False.elim hf))
        | halt x w2 => cases x <;> simp only [Oper.upon] at h3 ⊢ <;> first | exact h3 | exact False.elim h3
      · exact False.elim h3
    · rename_i hw
      rw [if_neg hw] at h3
      exact h3
  | (false, []) :: π, _, _, _, _, hB, _ => by simp [ordB] at hB
  | (false, _ :: _ :: _) :: π, _, _, _, _, hB, _ => by simp [ordB] at hB

theorem wp_region_piecesR {id : Nat} {Q : Exit → Act → World → Prop} {a : Act} {w : World} {l : List Oper} (S : Rl) (n : Nat) (π : List (Bool × List Nat)) (hm : P.follows .mixedOrders = true)
    (hB : (Region.noSelect l.toArray && tailB .any l.toArray n && decide (count π = n) && ordB .any l.toArray (l.length - n) n π (Array.replicate l.length false)) = true)
    (h : wpMR P l.toArray S (wpList P l.toArray Q (l.drop n)) (pick l π) a w) : (Code.region id l.toArray true).wp P Q a w := by
  simp only [Bool.and_eq_true, decide_eq_true_eq] at hB
  obtain ⟨⟨⟨hs, ht⟩, hc⟩, ho⟩ := hB
  have hnl : n ≤ l.length := by
    simp only [tailB, Bool.or_eq_true, decide_eq_true_eq, Bool.and_eq_true, List.size_toArray] at ht
    omega
  have inv0 : HeadInv .any l.toArray n (Array.replicate l.length false) :=
    ⟨by simp, fun j oj _ hl => (by rw [getD_replicate_false] at hl; cases hl), fun t _ ht => getD_in (by simpa using ht) (getD_replicate_false _ _)⟩
  have hdl : (l.drop n).length = l.length - n := by simp
  have H := (wpER_of_M (P := P) (md := .any) (g := l.length - n) (tl := wpList P l.toArray Q (l.drop n)) rfl hs ht π _ a w inv0 ho h).ext (w1 := { w with drawn := w.drawn + 1 }) (Below.refl _ w).drew
  refine wp_region_any hm ?_
  have := wpAny_of_ER (P := P) (md := .any) (Q := Q) (g := l.length - n) (fun listed a' w' hL => by
    have := wpAny_of_seq (md := .any) (Q' := Q) (l.drop n) n listed a' w' (fun j => by simp [List.getElem?_drop]) (by rw [hdl]; exact hL.1) hL.2
    rwa [hdl] at this) _ _ _ _ H
  rw [hc, show n + (l.length - n) = l.length by omega] at this
  simpa using this
end
section
variable {P : Program} {ops : Array Oper} {rest : List Oper} {o : Oper} {a : Act} {w w' : World} {Q : Exit → Act → World → Prop}
theorem quiet_lkN {C : World → Prop} {K : Act → Prop} (ty : TypeId) (x y : Operand) (c : Bool) (ho : o.op = .lookup ty x y c) {v : Value} (hr : ∀ w, C w → (Instr.lookup ty (a.eval x) (a.eval y) c).run P w = .ok v w)
    (hk : K (a.put o.dst v)) : o.quiet P a C K :=
  ⟨v, fun w hw => by unfold Oper.quietAt execOp; simp only [ho, Sem.run_bind, hr w hw, Result.andThen_ok, Sem.run_pure]; exact ⟨rfl, rfl⟩, hk⟩
theorem wpList_lkN (ty : TypeId) (x y : Operand) (c : Bool) (ho : o.op = .lookup ty x y c) (hg : Region.wanted o (yielded ops a.tmps) = true) {v : Value} (hr : (Instr.lookup ty (a.eval x) (a.eval y) c).run P w = .ok v w)
    (h : wpList P ops Q rest (a.put o.dst v) w) : wpList P ops Q (o :: rest) a w := by
  unfold wpList
  rw [if_pos hg]
  refine .inl ?_
  unfold Oper.wp execOp
  simp only [ho, Sem.run_bind, hr, Result.andThen_ok, Sem.run_pure]
  exact h
theorem wpList_ldgM (ty : TypeId) (x : Operand) (ho : o.op = .load ty x) (hg : Region.wanted o (yielded ops a.tmps) = true) {v : Value} (hr : (Instr.loadAt ty (a.eval x)).run P w = .ok v w)
    (h : wpList P ops Q rest (a.put o.dst v) w) : wpList P ops Q (o :: rest) a w := by
  unfold wpList
  rw [if_pos hg]
  refine .inl ?_
  unfold Oper.wp execOp
  simp only [ho, Sem.run_bind, hr, Result.andThen_ok, Sem.run_pure]
  exact h
theorem wpList_me (hgd : o.guard = none) (ty : TypeId) (x y : Operand) (ho : o.op = .mapEntry ty x y) {v : Value} (hr : (Instr.mapEntry ty (a.eval x) (a.eval y)).run P w = .ok v w')
    (h : wpList P ops Q rest (a.put o.dst v) w') : wpList P ops Q (o :: rest) a w :=
  wpList_plain hgd fun K hK => by unfold Oper.wp execOp; simp only [ho, Sem.run_bind, hr, Result.andThen_ok, Sem.run_pure]; exact hK _ _ h
theorem wpList_es (hgd : o.guard = none) (ty : TypeId) (x y z : Operand) (ho : o.op = .entryStore ty x y z) (hr : (Instr.entryStore ty (a.eval x) (a.eval y) (a.eval z)).run P w = .ok () w')
    (h : wpList P ops Q rest (a.put o.dst undef) w') : wpList P ops Q (o :: rest) a w :=
  wpList_plain hgd fun K hK => by unfold Oper.wp execOp; simp only [ho, Sem.run_bind, hr, Result.andThen_ok, Sem.run_pure]; exact hK _ _ h
end
section
variable {α : Type} {P : Program} {t k e : TypeId} {kv : α → Value}
theorem grown_set {w : World} {b : Nat} {es : Array MapEntry} {clock : Nat} {o' : Obj} (hb : w.heap[b]? = some (.map es clock)) : w.grownBy (setBlock w b o') (some b) :=
  ⟨rfl, rfl, rfl, by simp [setBlock], fun i _ hi => heap_setBlock_other hb _ (fun e => hi (by rw [e]))⟩
/-- An entry is looked for, or made, and written later. -/
theorem MapK.entry [DecidableEq α] (hinj : ∀ a b, kv a = kv b → a = b) (K : Maps.Keyed P k) {w : World} {b : Nat} {F : α → Option Value} (h : MapK P k kv w b F) (ht : P.underlying t = some (.map k e)) {z : Value} (hz : ∀ u : World, (zeroValue e).run P u = .ok z u) {a : α} (hw : KeyV P k (kv a)) :
    ∃ (v0 : Value) (st : Nat) (w2 : World), (Instr.mapEntry t (.map (some b)) (kv a)).run P w = .ok (.tuple #[v0, goInt st]) w2 ∧ (∃ F2, MapK P k kv w2 b F2 ∧ ∀ q, (F2 q).getD z = (F q).getD z) ∧ w.grownBy w2 (some b) ∧
      ∀ (w3 : World) (val : Value), w3.heap[b]? = w2.heap[b]? → ∃ w4, (Instr.entryStore t (.map (some b)) (goInt st) val).run P w3 = .ok () w4 ∧ MapK P k kv w4 b (updK F a val) ∧ w3.grownBy w4 (some b) := by
  have hup := fun val => MapK.update hinj K h ht hw val
  have h0 := h
  obtain ⟨es, clock, hb, h⟩ := h
  obtain ⟨la, hkey⟩ := hw
  have hkeys : ∀ x ∈ es.toList, ∃ l, keyOf P k x.key = some l := fun x hx => by
    obtain ⟨a', h1, ⟨l, h2⟩, _⟩ := h.tos x hx
    exact ⟨l, by rw [h1]; exact h2⟩
  obtain ⟨s1, s2⟩ : (∀ x ∈ es.toList, x.born < clock) ∧ (es.toList.map (·.born)).Nodup := ⟨h.st.1, h.st.2.1⟩
  -- what the update leaves, from what it computes
  have hto : ∀ (val : Value) (es' : Array MapEntry) (clock' : Nat), (Instr.mapUpdate t (.map (some b)) (kv a) val).run P w = .ok () (setBlock w b (.map es' clock')) → EntsK P k kv es' clock' (updK F a val) := by
    intro val es' clock' hr
    obtain ⟨w', hr', ⟨es2, clock2, hb2, he2⟩, -⟩ := hup val
    rw [hr] at hr'
    injection hr' with _ e2
    subst e2
    rw [heap_setBlock_same hb] at hb2
    injection hb2 with hb2
    injection hb2 with e3 e4
    subst e3 e4
    exact he2
  rcases K.find w hkey es.toList hkeys with ⟨h1, h2⟩ | ⟨j, e0, h1, h2, h3⟩
  · have hF : F a = none := by
      cases hFa : F a with
      | none => rfl
      | some v =>
        obtain ⟨x, hx, h4, _⟩ := h.back a v hFa
        exact absurd h4 (h2 x hx)
    have hU : ∀ val, (Instr.mapUpdate t (.map (some b)) (kv a) val).run P w = .ok () (setBlock w b (.map (es.push ⟨kv a, val, clock⟩) (clock + 1))) := fun val => by
      simp [Instr.mapUpdate, run_underlying ht, MapKept.run_getObj_map hb, K.check w false hkey, h1, MapKept.run_setObj_map _ hb, Result.andThen, setBlock]
    refine ⟨z, clock, setBlock w b (.map (es.push ⟨kv a, z, clock⟩) (clock + 1)), ?_, ⟨updK F a z, ⟨_, _, heap_setBlock_same hb _, hto z _ _ (hU z)⟩, fun q => ?_⟩, grown_set hb, fun w3 val hw3 => ?_⟩
    · simp [Instr.mapEntry, run_underlying ht, MapKept.run_getObj_map hb, K.check w false hkey, h1, hz, MapKept.run_setObj_map _ hb, Result.andThen, setBlock]
    · unfold updK
      by_cases e : q = a
      · subst e; rw [if_pos rfl, hF]; rfl
      · rw [if_neg e]
    · rw [heap_setBlock_same hb] at hw3
      have hidx : (es.push ⟨kv a, z, clock⟩).findIdx? (fun e => ((e.born : Nat) : Int) == ((clock : Nat) : Int)) = some es.size := by
        rw [WideElems.findIdx_arr]
        have := WideElems.findIdx_born (l := (es.push ⟨kv a, z, clock⟩).toList) (j := es.size) (e0 := ⟨kv a, z, clock⟩) (by
          rw [Array.toList_push, List.map_append]
          refine List.nodup_append.2 ⟨s2, by simp, fun x hx y hy e1 => ?_⟩
          obtain rfl : y = clock := by simpa using hy
          obtain ⟨u, hu, rfl⟩ := List.mem_map.1 hx
          have := s1 u hu
          omega) (by simp)
        exact this
      have hmod : (es.push ⟨kv a, z, clock⟩).modify es.size (fun e => { e with val := val }) = es.push ⟨kv a, val, clock⟩ := by
        apply Array.ext'
        rw [Array.toList_modify, Array.toList_push, Array.toList_push, ← Array.length_toList, WideElems.modify_last]
      refine ⟨setBlock w3 b (.map (es.push ⟨kv a, val, clock⟩) (clock + 1)), ?_, ⟨_, _, heap_setBlock_same hw3 _, hto val _ _ (hU val)⟩, grown_set hw3⟩
      simp [Instr.entryStore, MapKept.run_getObj_map hw3, asInt, asIntOf, goInt, hidx, hmod, MapKept.run_setObj_map _ hw3, Result.andThen, setBlock]
  · have hj : es[j]? = some e0 := by simpa using h2
    have hsame : es.modify j (fun e => { e with key := kv a }) = es := by
      apply Array.ext'
      rw [Array.toList_modify, modify_eq_set _ _ _ _ h2]
      have : ({ e0 with key := kv a } : MapEntry) = e0 := by rw [← h3]
      rw [this]
      exact WideElems.set_self _ _ _ h2
    have hU : ∀ val, (Instr.mapUpdate t (.map (some b)) (kv a) val).run P w = .ok () (setBlock w b (.map (es.modify j (fun e' => { e' with key := kv a, val := val })) clock)) := fun val => by
      simp [Instr.mapUpdate, run_underlying ht, MapKept.run_getObj_map hb, K.check w false hkey, h1, hj, h3, K.stays w hkey, MapKept.run_setObj_map _ hb, Result.andThen, setBlock]
    refine ⟨e0.val, e0.born, setBlock w b (.map es clock), ?_, ⟨F, ⟨_, _, heap_setBlock_same hb _, h⟩, fun q => rfl⟩, grown_set hb, fun w3 val hw3 => ?_⟩
    · simp [Instr.mapEntry, run_underlying ht, MapKept.run_getObj_map hb, K.check w false hkey, h1, hj, h3, K.stays w hkey, hsame, MapKept.run_setObj_map _ hb, Result.andThen, setBlock]
    · rw [heap_setBlock_same hb] at hw3
      have hidx : es.findIdx? (fun e => ((e.born : Nat) : Int) == ((e0.born : Nat) : Int)) = some j := by
        rw [WideElems.findIdx_arr]
        exact WideElems.findIdx_born s2 h2
      have hmod : es.modify j (fun e => { e with val := val }) = es.modify j (fun e' => { e' with key := kv a, val := val }) := by
        apply Array.ext'
        rw [Array.toList_modify, Array.toList_modify, modify_eq_set _ _ _ _ h2, modify_eq_set _ _ _ _ h2, ← h3]
      refine ⟨setBlock w3 b (.map (es.modify j (fun e' => { e' with key := kv a, val := val })) clock), ?_, ⟨_, _, heap_setBlock_same hw3 _, hto val _ _ (hU val)⟩, grown_set hw3⟩
      simp [Instr.entryStore, MapKept.run_getObj_map hw3, asInt, asIntOf, goInt, hidx, hmod, MapKept.run_setObj_map _ hw3, Result.andThen, setBlock]
/-- What one map of counts may turn to while an entry is made: as before, but for entries that are zero. -/
def mapRl (P : Program) (k : TypeId) (kv : α → Value) (b : Nat) (z : Value) : Rl where
  r := fun w w' => Mut (fun j => j = b) w w' ∧ ∀ F, MapK P k kv w b F → ∃ F', MapK P k kv w' b F' ∧ ∀ q, (F' q).getD z = (F q).getD z
  refl := fun w => ⟨Mut.refl _ _, fun F h => ⟨F, h, fun _ => rfl⟩⟩
  trans := fun h1 h2 => ⟨h1.1.trans h2.1, fun F h => by
    obtain ⟨F', h3, h4⟩ := h1.2 F h
    obtain ⟨F'', h5, h6⟩ := h2.2 F' h3
    exact ⟨F'', h5, fun q => (h6 q).trans (h4 q)⟩⟩
  ext := fun h => ⟨Mut.of_ext h, fun F hF => ⟨F, hF.of_block (h.block _ hF.lt), fun _ => rfl⟩⟩
end
end Go.Proofs.Yteahlnoonmfjhaa
