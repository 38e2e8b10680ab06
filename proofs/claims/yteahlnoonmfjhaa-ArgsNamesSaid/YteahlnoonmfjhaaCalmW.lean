/- Generic: a region that draws its order, in pieces: quiet operations, which may stand anywhere, and others, which stand in one order and may change whatever lies from a block B on; at its end a tail in one forced order. No statement of its own. -/
import Derived.Test.YteahlnoonmfjhaaCalm
set_option linter.unusedVariables false
namespace Go.Proofs.Yteahlnoonmfjhaa
open Go.RowKit
theorem below_sc {B g o : Nat} {w0 w : World} {v : Value} (h : Below B w0 w) (hg : B ≤ g) : Below B w0 (w.setCell ⟨g, o, none⟩ v) := Below.setCell h (p := ⟨g, o, none⟩) hg v
section
variable {P : Program} {ops : Array Oper} {md : Region.Mode}

/-- In every world that is as w below B, operation o yields v, and only adds to memory. -/
def CalmW (P : Program) (ops : Array Oper) (B : Nat) (o : Oper) (v : Value) (a : Act) (w : World) : Prop := ∀ w', Below B w w' → CalmY.YieldsIn' P ops o v a w'
theorem CalmW.ext {B : Nat} {o : Oper} {v : Value} {a : Act} {w w1 : World} (h : CalmW P ops B o v a w) (k : Below B w w1) : CalmW P ops B o v a w1 := fun w' hw' => h w' (k.trans hw')
theorem CalmW.of_same {B : Nat} {o : Oper} {v : Value} {a a' : Act} {w : World} (hy : CalmW P ops B o v a w) (he : execOp a'.eval o = execOp a.eval o)
    (hw : Region.wanted o (yielded ops a'.tmps) = Region.wanted o (yielded ops a.tmps)) : CalmW P ops B o v a' w := fun w' hw' => by
  have := hy w' hw'
  unfold CalmY.YieldsIn' Oper.quietAt at *
  rw [he, hw]
  exact this
theorem CalmW.hOp {B : Nat} {i : Nat} {o : Oper} {v : Value} {a : Act} {w : World} (hi : ops[i]? = some o) (hy : CalmW P ops B o v a w) {K : Act → World → Prop} (h : ∀ w', Ext w w' → K (a.put o.dst v) w') : hOp P ops i K a w := by
  unfold Go.Proofs.Yteahlnoonmfjhaa.hOp
  simp only [hi]
  rcases hy w (Below.refl _ _) with ⟨hw, h3⟩ | ⟨hw, rfl⟩
  · simp only [hw, if_true]
    unfold Oper.quietAt at h3
    unfold Oper.wp
    generalize (execOp a.eval o).run P w = r at *
    cases r with
    | ok n w' =>
      cases n <;> simp only [Oper.quietUpon] at h3 <;> simp only [Oper.upon]
      case value u => obtain ⟨rfl, rfl⟩ := h3; exact h _ (Ext.refl _)
      case skip => obtain ⟨rfl, rfl⟩ := h3; exact h _ (Ext.refl _)
      case enter f args =>
        obtain ⟨rfl, hc⟩ := h3
        exact hc.mono fun e w'' ⟨he, hw''⟩ => by subst he; exact h _ hw''
    | halt x w' => simp only [Oper.quietUpon] at h3
  · simp only [hw, Bool.false_eq_true, if_false]; exact h _ (Ext.refl _)

theorem hOp_putW {B : Nat} {j : Nat} {oi oj : Oper} {v : Value} (hj : ops[j]? = some oj) (hap : oi.apart ops oj = true)
    (hsi : ∀ cs b, oi.op ≠ .select cs b) (hsj : ∀ cs b, oj.op ≠ .select cs b) {K : Act → World → Prop} {a : Act} {w w0 : World}
    (hy : CalmW P ops B oi v a w0) (h : hOp P ops j K (a.put oi.dst v) w) :
    hOp P ops j (fun a' w' => CalmW P ops B oi v a' w0 ∧ K (a'.put oi.dst v) w') a w := by
  obtain ⟨h1, h2, h3⟩ := Oper.apart_spec hap
  have keep : ∀ (a : Act), CalmW P ops B oi v a w0 → ∀ u, CalmW P ops B oi v (a.put oj.dst u) w0 := fun a hy u =>
    hy.of_same (execOp_put oi hsi a oj.dst u h3) (wanted_put oi a oj.dst u h3)
  have keepD : ∀ d, CalmW P ops B oi v { a with defers := d :: a.defers } w0 := fun d => hy.of_same rfl rfl
  unfold hOp at *
  simp only [hj] at *
  rw [wanted_put oj a oi.dst v h1] at h
  split
  · rename_i hw
    simp only [hw, if_true] at h
    unfold Oper.wp at *
    rw [execOp_put oj hsj a oi.dst v h1] at h
    generalize (execOp a.eval oj).run P w = r at *
    cases r with
    | ok n w' =>
      cases n <;> simp only [Oper.upon] at h ⊢
      case value u => exact ⟨keep a hy u, by rw [← Act.put_comm a v u h2]; exact h⟩
      case skip => exact ⟨keep a hy _, by rw [← Act.put_comm a v undef h2]; exact h⟩
      case defer d =>
        refine ⟨keep _ (keepD d) _, ?_⟩
        rw [← Act.put_comm _ v undef h2, ← Act.put_defers]
        exact h
      case enter f args =>
        refine Calls.mono h fun e w'' he => ?_
        cases e with
        | returned u => exact ⟨keep a hy u, by rw [← Act.put_comm a v u h2]; exact he⟩
        | panicked c => exact he
        | outgrown => exact he
      case row row args => exact Rows.mono h fun u w'' he => ⟨keep a hy u, by rw [← Act.put_comm a v u h2]; exact he⟩
    | halt x w' => cases x <;> simp only [Oper.upon] at h ⊢ <;> exact h
  · rename_i hw
    simp only [hw] at h
    exact ⟨keep a hy _, by rw [← Act.put_comm a v undef h2]; exact h⟩

/-- Whatever order is picked, whatever memory is added between: f operations of the head, then L. -/
def wpEW (P : Program) (md : Region.Mode) (ops : Array Oper) (B : Nat) (L : Array Bool → Act → World → Prop) : Nat → Array Bool → Act → World → Prop
  | 0, listed, a, w => ∀ w', Ext w w' → L listed a w'
  | f + 1, listed, a, w => Region.ready md ops listed ≠ [] ∧ ∀ i ∈ Region.ready md ops listed, ∀ w1, Ext w w1 →
    hOp P ops i (fun a' w' => Below B w1 w' ∧ wpEW P md ops B L f (listed.setIfInBounds i true) a' w') a w1
theorem wpEW.ext {B : Nat} {L : Array Bool → Act → World → Prop} {f : Nat} {listed : Array Bool} {a : Act} {w w1 : World} (h : wpEW P md ops B L f listed a w) (k : Ext w w1) : wpEW P md ops B L f listed a w1 := by
  cases f with
  | zero => exact fun w' hw' => h w' (k.trans hw')
  | succ f => exact ⟨h.1, fun i hi w' hw' => h.2 i hi w' (k.trans hw')⟩
theorem wpEW.mono {B B' : Nat} {L : Array Bool → Act → World → Prop} (k : B ≤ B') : ∀ {f : Nat} {listed : Array Bool} {a : Act} {w : World}, wpEW P md ops B' L f listed a w → wpEW P md ops B L f listed a w
  | 0, _, _, _, h => h
  | f + 1, _, _, _, h => ⟨h.1, fun i hi w' hw' => hOp_mono (fun _ _ h' => ⟨h'.1.mono k, wpEW.mono k h'.2⟩) (h.2 i hi w' hw')⟩
theorem wpAny_of_EW {B : Nat} {g : Nat} {L : Array Bool → Act → World → Prop} {Q : Exit → Act → World → Prop} (hL : ∀ listed a w, L listed a w → wpAny P md ops Q g listed a w) :
    ∀ (f : Nat) (listed : Array Bool) (a : Act) (w : World), wpEW P md ops B L f listed a w → wpAny P md ops Q (f + g) listed a w
  | 0, listed, a, w, h => by rw [Nat.zero_add]; exact hL _ _ _ (h w (Ext.refl w))
  | f + 1, listed, a, w, h => by
    rw [show f + 1 + g = (f + g) + 1 by omega]
    refine ⟨fun h0 => absurd h0 h.1, fun i hi => ?_⟩
    exact wpOp_of_hOp (hOp_mono (fun a' w' h' => wpAny_of_EW hL f _ a' w' h'.2) (h.2 i hi w (Ext.refl w)))

theorem wpEW_first {B : Nat} {n i : Nat} {oi : Oper} {v : Value} {L : Array Bool → Act → World → Prop} (hi : ops[i]? = some oi) (hsel : ∀ (j : Nat) (o : Oper) cs b, ops[j]? = some o → o.op ≠ .select cs b)
    (ht : tailB md ops n = true) (hin : i < n) (hdone : ∀ listed a w, L listed a w → ∀ j ∈ Region.ready md ops listed, n ≤ j) :
    ∀ (f : Nat) (listed : Array Bool) (a : Act) (w : World), B ≤ w.heap.size → HeadInv md ops n listed →
      (∀ j oj, ops[j]? = some oj → j ≠ i → listed.getD j true = false → (∀ e ∈ oj.after, Region.binds md e = true → e.on ≠ i) → oi.apart ops oj = true) →
      i ∈ Region.ready md ops listed → CalmW P ops B oi v a w →
      wpEW P md ops B L f (listed.setIfInBounds i true) (a.put oi.dst v) w → wpEW P md ops B L (f + 1) listed a w := by
  intro f
  induction f with
  | zero =>
    intro listed a w hB inv _ hr hy H
    refine ⟨fun h => (by rw [h] at hr; cases hr), fun j hj w1 hw1 => ?_⟩
    have hjn := tail_not ht inv hin (mem_ready.1 hr).1 j hj
    by_cases hji : j = i
    · subst hji; exact (hy.ext (Below.mono hw1 hB)).hOp hi fun w' hw' => ⟨Below.mono hw' (Nat.le_trans hB hw1.size), H.ext (hw1.trans hw')⟩
    · have := hdone _ _ _ (H w (Ext.refl w)) j (ready_mono hj hji)
      omega
  | succ f ih =>
    intro listed a w hB inv hfree hr hy H
    refine ⟨fun h => (by rw [h] at hr; cases hr), fun j hj w1 hw1 => ?_⟩
    have hjn := tail_not ht inv hin (mem_ready.1 hr).1 j hj
    have hB1 : B ≤ w1.heap.size := Nat.le_trans hB hw1.size
    by_cases hji : j = i
    · subst hji; exact (hy.ext (Below.mono hw1 hB)).hOp hi fun w' hw' => ⟨Below.mono hw' hB1, H.ext (hw1.trans hw')⟩
    · have h1 := H.2 j (ready_mono hj hji) w1 hw1
      obtain ⟨hjun, oj, hoj, hall⟩ := mem_ready.1 hj
      have hnot : ∀ e ∈ oj.after, Region.binds md e = true → e.on ≠ i := fun e he hb heq => by
        have h2 := hall e he hb
        rw [heq, getD_both (mem_ready.1 hr).1] at h2
        cases h2
      have h2 := hOp_putW hoj (hfree j oj hoj hji hjun hnot) (fun cs b => hsel i oi cs b hi) (fun cs b => hsel j oj cs b hoj) (hy.ext (Below.mono hw1 hB)) h1
      refine hOp_mono (fun a' w' h3 => ⟨h3.2.1, ih (listed.setIfInBounds j true) a' w' (Nat.le_trans hB1 h3.2.1.size) (inv.set hj hjn) (fun k ok hk hki hun hno => hfree k ok hk hki ?_ hno) (ready_mono hr (Ne.symm hji)) (h3.1.ext h3.2.1) ?_⟩) h2
      · by_cases hjk : j = k
        · subst hjk; exact hjun
        · rw [getD_set_ne true hjk] at hun; exact hun
      · rw [Array.setIfInBounds_comm _ _ hji]
        exact h3.2.2

/-- The walk, piece by piece: (true, operations): quiet ones; (false, [o]): one that may change what lies from B on; at the end the tail. B may grow. -/
def wpMW (P : Program) (ops : Array Oper) (tail : List Oper) (Q : Exit → Act → World → Prop) : List (Bool × List Oper) → Nat → Act → World → Prop
  | [], _, a, w => ∀ w', Ext w w' → wpList P ops Q tail a w'
  | (true, l) :: rest, B, a, w => slotsB a.tmps.size l = true ∧
    ∃ A : Act, (∀ ψ, Closed ψ → Nonempty (ExtP B w ψ) → wpQuiet P ops (fun w' => ∃ e : ExtP B w ψ, w' = e.val) (fun a' => a' = A) l a) ∧ wpMW P ops tail Q rest B A w
  | (false, l) :: rest, B, a, w => ∀ w1, Ext w w1 → ∀ K : Act → World → Prop, (∀ a' w' B', B ≤ B' → B' ≤ w'.heap.size → Below B w1 w' → wpMW P ops tail Q rest B' a' w' → K a' w') → wpList P ops (Exit.then K noQ) l a w1

theorem calm_pieceW {B : Nat} {n : Nat} {L : Array Bool → Act → World → Prop} {A : Act} {w : World} {f : Nat} {ol : List Oper} (hB0 : B ≤ w.heap.size) (hol : ol.toArray = ops) (hs : Region.noSelect ops = true) (ht : tailB md ops n = true) (hdone : ∀ listed a w, L listed a w → ∀ j ∈ Region.ready md ops listed, n ≤ j) :
    ∀ (l : List Nat) (listed : Array Bool) (a : Act), HeadInv md ops n listed → calmB md ops n l listed = true →
      (∀ ψ, Closed ψ → (∃ w', inP B w ψ w') → walkV P ops (inP B w ψ) A (l.flatMap fun k => (ol[k]?).toList) a) →
      (HeadInv md ops n (setAll listed l) → wpEW P md ops B L f (setAll listed l) A w) → wpEW P md ops B L (l.length + f) listed a w
  | [], listed, a, inv, _, hv, H => by
    have : a = A := hv (fun _ => True) closed_true ⟨w, ⟨w, Below.refl _ _, trivial⟩, rfl⟩
    rw [List.length_nil, Nat.zero_add, this]
    exact H inv
  | k :: l, listed, a, inv, hB, hv, H => by
    simp only [calmB, Bool.and_eq_true, decide_eq_true_eq] at hB
    obtain ⟨⟨⟨hkn, hr⟩, hf⟩, hB'⟩ := hB
    have hr' : k ∈ Region.ready md ops listed := by simpa using hr
    obtain ⟨_, o, ho, _⟩ := mem_ready.1 hr'
    have ho' : ol[k]? = some o := by rw [← hol] at ho; simpa using ho
    simp only [List.flatMap_cons, ho', Option.toList_some, List.singleton_append] at hv
    rw [List.length_cons, show l.length + 1 + f = (l.length + f) + 1 by omega]
    refine wpEW_first ho (Region.noSelect_spec hs) ht hkn hdone (l.length + f) listed a w hB0 inv (Region.free_spec ho hf) hr' (v := A.eval (.tmp (o.dst.getD 0))) ?_
      (calm_pieceW hB0 hol hs ht hdone l _ _ (inv.set hr' hkn) hB' (fun ψ hψ hne => (hv ψ hψ hne).2) H)
    intro w' hw'
    have hne : ∃ w'', inP B w (fun w'' => Below w'.heap.size w' w'') w'' := ⟨w', ⟨w', hw', Below.refl _ _⟩, rfl⟩
    have hcl : Closed fun w'' => Below w'.heap.size w' w'' := fun x y hx hxy => hx.trans (hxy.mono hx.size)
    rcases (hv _ hcl hne).1 with ⟨h1, h2⟩ | h1
    · refine .inl ⟨h1, ?_⟩
      have h3 := h2 w' ⟨⟨w', hw', Below.refl _ _⟩, rfl⟩
      unfold Oper.quietAt at *
      generalize (execOp a.eval o).run P w' = r at *
      cases r with
      | ok m w2 =>
        cases m <;> simp only [Oper.quietUpon] at h3 ⊢ <;> first | exact h3 | (refine ⟨h3.1, h3.2.mono fun e w3 he => ⟨he.1, ?_⟩⟩; obtain ⟨e', rfl⟩ := he.2; exact e'.ps)
      | halt x w2 => exact h3
    · exact .inr h1

theorem wpEW_of_M {n g : Nat} {Q : Exit → Act → World → Prop} {ol tail : List Oper} (hol : ol.toArray = ops) (hs : Region.noSelect ops = true) (ht : tailB md ops n = true) :
    ∀ (π : List (Bool × List Nat)) (B : Nat) (listed : Array Bool) (a : Act) (w : World), B ≤ w.heap.size → HeadInv md ops n listed → ordB md ops g n π listed = true → wpMW P ops tail Q (pick ol π) B a w →
      wpEW P md ops B (fun listed' a' w' => Region.seqB md ops g n listed' = true ∧ wpList P ops Q tail a' w') (count π) listed a w
  | [], B, listed, a, w, hBw, inv, hB, h => fun w' hw' => ⟨hB, h w' hw'⟩
  | (true, l) :: π, B, listed, a, w, hBw, inv, hB, h => by
    simp only [ordB, Bool.and_eq_true] at hB
    obtain ⟨hsl, A, h1, h2⟩ := h
    refine calm_pieceW hBw hol hs ht (fun _ _ _ hL => seqB_ready hL.1) l listed a inv hB.1 (fun ψ hψ hne => ?_) fun inv' => wpEW_of_M hol hs ht π B _ A w hBw inv' hB.2 h2
    exact walkV_of _ a hsl (h1 ψ hψ (by obtain ⟨_, e, _⟩ := hne; exact ⟨e⟩))
  | (false, [k]) :: π, B, listed, a, w, hBw, inv, hB, h => by
    simp only [ordB, Bool.and_eq_true, decide_eq_true_eq] at hB
    obtain ⟨⟨hkn, hr⟩, hB'⟩ := hB
    have hk : k ∈ Region.ready md ops listed := by rw [hr]; simp
    obtain ⟨_, o, ho, _⟩ := mem_ready.1 hk
    have ho' : ol[k]? = some o := by rw [← hol] at ho; simpa using ho
    show wpEW P md ops B _ (1 + count π) listed a w
    rw [Nat.add_comm]
    refine ⟨by rw [hr]; simp, fun i hi w1 hw1 => ?_⟩
    rw [hr] at hi
    obtain rfl : i = k := by simpa using hi
    have h' : ∀ w1, Ext w w1 → ∀ K : Act → World → Prop, (∀ a' w' B', B ≤ B' → B' ≤ w'.heap.size → Below B w1 w' → wpMW P ops tail Q (pick ol π) B' a' w' → K a' w') → wpList P ops (Exit.then K noQ) [o] a w1 := by
      have := h
      simp only [pick, List.map_cons, List.flatMap_cons, ho', List.flatMap_nil, Option.toList_some, List.singleton_append] at this
      exact this
    have h3 := h' w1 hw1 (fun a' w' => Below B w1 w' ∧ wpEW P md ops B (fun listed' a' w' => Region.seqB md ops g n listed' = true ∧ wpList P ops Q tail a' w') (count π) (listed.setIfInBounds i true) a' w')
      (fun a' w' B2 hb1 hb2 hx hm => ⟨hx, (wpEW_of_M hol hs ht π B2 _ a' w' hb2 (inv.set hk hkn) hB' hm).mono hb1⟩)
    unfold hOp
    simp only [ho]
    unfold wpList at h3
    split
    · rename_i hw
      rw [if_pos hw] at h3
      rcases h3 with h3 | ⟨_, _, _, h3⟩
      · unfold Oper.wp at *
        generalize (execOp a.eval o).run P w1 = r at *
        cases r with
        | ok m w2 =>
          cases m <;> simp only [Oper.upon] at h3 ⊢ <;> first | exact h3 | (refine Calls.mono h3 fun e w3 he => ?_; cases e <;> first | exact he | exact False.elim he | (obtain ⟨_, _, hf⟩ := he; exact False.elim hf))
        | halt x w2 => cases x <;> simp only [Oper.upon] at h3 ⊢ <;> first | exact h3 | exact False.elim h3
      · exact False.elim h3
    · rename_i hw
      rw [if_neg hw] at h3
      exact h3
  | (false, []) :: π, _, _, _, _, _, _, hB, _ => by simp [ordB] at hB
  | (false, _ :: _ :: _) :: π, _, _, _, _, _, _, hB, _ => by simp [ordB] at hB

theorem wp_region_piecesW {id : Nat} {Q : Exit → Act → World → Prop} {a : Act} {w : World} {l : List Oper} (B n : Nat) (π : List (Bool × List Nat)) (hBw : B ≤ w.heap.size) (hm : P.follows .mixedOrders = true)
    (hB : (Region.noSelect l.toArray && tailB .any l.toArray n && decide (count π = n) && ordB .any l.toArray (l.length - n) n π (Array.replicate l.length false)) = true)
    (h : wpMW P l.toArray (l.drop n) Q (pick l π) B a w) : (Code.region id l.toArray true).wp P Q a w := by
  simp only [Bool.and_eq_true, decide_eq_true_eq] at hB
  obtain ⟨⟨⟨hs, ht⟩, hc⟩, ho⟩ := hB
  have hnl : n ≤ l.length := by
    simp only [tailB, Bool.or_eq_true, decide_eq_true_eq, Bool.and_eq_true, List.size_toArray] at ht
    omega
  have inv0 : HeadInv .any l.toArray n (Array.replicate l.length false) :=
    ⟨by simp, fun j oj _ hl => (by rw [getD_replicate_false] at hl; cases hl), fun t _ ht => getD_in (by simpa using ht) (getD_replicate_false _ _)⟩
  have hdl : (l.drop n).length = l.length - n := by simp
  have H := (wpEW_of_M (P := P) (md := .any) (g := l.length - n) (Q := Q) (tail := l.drop n) rfl hs ht π B _ a w hBw inv0 ho h).ext (w1 := { w with drawn := w.drawn + 1 }) (Below.refl _ w).drew
  refine wp_region_any hm ?_
  have := wpAny_of_EW (P := P) (md := .any) (Q := Q) (g := l.length - n) (fun listed a' w' hL => by
    have := wpAny_of_seq (md := .any) (Q' := Q) (l.drop n) n listed a' w' (fun j => by simp [List.getElem?_drop]) (by rw [hdl]; exact hL.1) hL.2
    rwa [hdl] at this) _ _ _ _ H
  rw [hc, show n + (l.length - n) = l.length by omega] at this
  simpa using this
end
end Go.Proofs.Yteahlnoonmfjhaa
