/- Generic: a region that draws its order, whose first n operations are quiet in every class of extended worlds, whose operation n makes a new variable, and whose rest stands in one forced order. No statement of its own. -/
import Derived.Test.YteahlnoonmfjhaaTail
set_option linter.unusedVariables false
namespace Go.Proofs.Yteahlnoonmfjhaa
open Go.RowKit

/-- A fact that new memory does not undo. -/
def Closed (ψ : World → Prop) : Prop := ∀ w w', ψ w → Below w.heap.size w w' → ψ w'
/-- The worlds that are as w0 below block number B, with a fact. -/
structure ExtP (B : Nat) (w0 : World) (ψ : World → Prop) where
  val : World
  ok : Below B w0 val
  ps : ψ val
theorem ExtP.cell {B : Nat} {w0 : World} {ψ : World → Prop} (e : ExtP B w0 ψ) {p : Addr} {v : Value} (h : w0.cell? p = some v) (hp : p.block < B) : e.val.cell? p = some v := (e.ok.cell hp).trans h
theorem extP_of {P : Program} {f : FuncId} {args : Array Value} {w : World} {B : Nat} {ψ : World → Prop} {e : ExtP B w ψ} {v : Value} (hψ : Closed ψ) (hB : B ≤ w.heap.size)
    (h : Calls P f args e.val fun r w' => r = .returned v ∧ Below e.val.heap.size e.val w') : Calls P f args e.val fun r w'' => r = .returned v ∧ ∃ e' : ExtP B w ψ, w'' = e'.val :=
  h.mono fun _ w' ⟨he, hm⟩ => ⟨he, ⟨w', e.ok.trans (hm.mono (Nat.le_trans hB e.ok.size)), hψ _ _ e.ps hm⟩, rfl⟩
/-- The class. -/
def inP (B : Nat) (w0 : World) (ψ : World → Prop) : World → Prop := fun w' => ∃ e : ExtP B w0 ψ, w' = e.val
/-- 'Block g is new and is just the object o.' -/
def hasBlk (B g : Nat) (o : Obj) : World → Prop := fun w' => B ≤ g ∧ w'.heap[g]? = some o
theorem closed_true : Closed fun _ => True := fun _ _ _ _ => trivial
theorem closed_blk (B g : Nat) (o : Obj) : Closed (hasBlk B g o) := fun w w' ⟨h1, h2⟩ hb => ⟨h1, (hb.block g (Array.getElem?_eq_some_iff.1 h2).1).trans h2⟩

section
variable {P : Program} {ops : Array Oper} {md : Region.Mode} {C : World → Prop}

/-- The walk with the values that the last frame holds. -/
def walkV (P : Program) (ops : Array Oper) (C : World → Prop) (A : Act) : List Oper → Act → Prop
  | [], a => a = A
  | o :: l, a => YieldsIn P ops C o (A.eval (.tmp (o.dst.getD 0))) a ∧ walkV P ops C A l (a.put o.dst (A.eval (.tmp (o.dst.getD 0))))

theorem eval_put_ne {a : Act} {d t : Tmp} (v : Value) (h : t ≠ d) : (a.put (some d) v).eval (.tmp t) = a.eval (.tmp t) := by
  simp only [Act.put, Act.eval, Array.getD_eq_getD_getElem?]
  rw [Array.getElem?_setIfInBounds_ne (Ne.symm h)]
theorem eval_put_eq {a : Act} {d : Tmp} (v : Value) (h : d < a.tmps.size) : (a.put (some d) v).eval (.tmp d) = v := by
  simp only [Act.put, Act.eval, Array.getD_eq_getD_getElem?]
  simp [h]
theorem size_put (a : Act) (d : Option Tmp) (v : Value) : (a.put d v).tmps.size = a.tmps.size := by cases d <;> simp [Act.put]

/-- Each of the operations has a slot of its own, within the frame. -/
def slotsB (n : Nat) : List Oper → Bool
  | [] => true
  | o :: l => (match o.dst with | some d => decide (d < n) && l.all (fun o' => o'.dst != some d) | none => false) && slotsB n l

theorem quiet_keeps {A : Act} {d : Tmp} : ∀ (l : List Oper) (a : Act), (∀ o ∈ l, o.dst ≠ some d) → wpQuiet P ops C (fun a' => a' = A) l a → A.eval (.tmp d) = a.eval (.tmp d)
  | [], a, _, h => by rw [show a = A from h]
  | o :: l, a, hd, h => by
    have key : ∀ v, wpQuiet P ops C (fun a' => a' = A) l (a.put o.dst v) → A.eval (.tmp d) = a.eval (.tmp d) := fun v hv => by
      rw [quiet_keeps l _ (fun o' ho' => hd o' (List.mem_cons_of_mem _ ho')) hv]
      cases ho : o.dst with
      | none => rfl
      | some t =>
        refine eval_put_ne v fun e => hd o (by simp) ?_
        rw [ho, e]
    unfold wpQuiet at h
    split at h
    · obtain ⟨v, _, hv⟩ := h
      exact key v hv
    · exact key _ h

theorem walkV_of {A : Act} : ∀ (l : List Oper) (a : Act), slotsB a.tmps.size l = true → wpQuiet P ops C (fun a' => a' = A) l a → walkV P ops C A l a
  | [], a, _, h => h
  | o :: l, a, hs, h => by
    simp only [slotsB, Bool.and_eq_true] at hs
    cases ho : o.dst with
    | none => rw [ho] at hs; exact absurd hs.1 (by simp)
    | some d =>
      rw [ho] at hs
      simp only [Bool.and_eq_true, decide_eq_true_eq, List.all_eq_true, bne_iff_ne] at hs
      have hv : ∀ v, wpQuiet P ops C (fun a' => a' = A) l (a.put o.dst v) → A.eval (.tmp (o.dst.getD 0)) = v := fun v hv => by
        rw [ho] at hv ⊢
        exact (quiet_keeps l _ hs.1.2 hv).trans (eval_put_eq v hs.1.1)
      unfold wpQuiet at h
      unfold walkV
      split at h
      · rename_i hw
        obtain ⟨v, h1, h2⟩ := h
        rw [hv v h2]
        exact ⟨.inl ⟨hw, h1⟩, walkV_of l _ (by rw [size_put]; exact hs.2) h2⟩
      · rename_i hw
        rw [hv _ h]
        exact ⟨.inr ⟨by simpa using hw, rfl⟩, walkV_of l _ (by rw [size_put]; exact hs.2) h⟩

/-- Whatever order is picked: the new variable, number n, is not made yet. 'Cg', 'L': by where it will lie. -/
def headA (P : Program) (md : Region.Mode) (ops : Array Oper) (C : World → Prop) (n : Nat) (d : Tmp) (Cg : Nat → World → Prop) (L : Nat → Array Bool → Act → Prop) : Nat → Array Bool → Act → Prop
  | 0, listed, a => n ∈ Region.ready md ops listed ∧ (∀ i ∈ Region.ready md ops listed, i = n) ∧
    ∀ g, (∃ w, Cg g w) → L g (listed.setIfInBounds n true) (a.put (some d) (.pointer (some ⟨g, 0, none⟩)))
  | f + 1, listed, a => Region.ready md ops listed ≠ [] ∧ ∀ i ∈ Region.ready md ops listed,
    (i = n ∧ ∀ g, (∃ w, Cg g w) → headQ P md ops (Cg g) (n + 1) (L g) (f + 1) (listed.setIfInBounds n true) (a.put (some d) (.pointer (some ⟨g, 0, none⟩)))) ∨
    (i < n ∧ qOp P ops C i (headA P md ops C n d Cg L f (listed.setIfInBounds i true)) a)

theorem headA_at {n : Nat} {d : Tmp} {Cg : Nat → World → Prop} {L : Nat → Array Bool → Act → Prop} {f : Nat} {listed : Array Bool} {a : Act} (h : headA P md ops C n d Cg L f listed a) (hn : n ∈ Region.ready md ops listed) :
    ∀ g, (∃ w, Cg g w) → headQ P md ops (Cg g) (n + 1) (L g) f (listed.setIfInBounds n true) (a.put (some d) (.pointer (some ⟨g, 0, none⟩))) := by
  cases f with
  | zero => exact h.2.2
  | succ f =>
    rcases h.2 n hn with h1 | h1
    · exact h1.2
    · exact absurd h1.1 (Nat.lt_irrefl _)

theorem qOp_shape {i : Nat} {oi : Oper} {a : Act} {K : Act → Prop} (hi : ops[i]? = some oi) (h : qOp P ops C i K a) : qOp P ops C i (fun a' => (∃ u, a' = a.put oi.dst u) ∧ K a') a := by
  obtain ⟨v, hy, hK⟩ := yieldsIn_of_qOp hi h
  exact hy.qOp hi ⟨⟨v, rfl⟩, hK⟩

theorem yields_put {oi oj : Oper} {v : Value} {a : Act} (u : Value) (hap : oi.apart ops oj = true) (hsi : ∀ cs b, oi.op ≠ .select cs b) (hy : YieldsIn P ops C oi v a) : YieldsIn P ops C oi v (a.put oj.dst u) := by
  obtain ⟨h1, h2, h3⟩ := Oper.apart_spec hap
  exact hy.of_same (execOp_put oi hsi a oj.dst u h3) (wanted_put oi a oj.dst u h3)

theorem headA_first {n i : Nat} {d : Tmp} {oi on : Oper} {v : Value} {Cg : Nat → World → Prop} {L : Nat → Array Bool → Act → Prop} (hi : ops[i]? = some oi) (hnop : ops[n]? = some on) (hnd : on.dst = some d)
    (hsel : ∀ (j : Nat) (o : Oper) cs b, ops[j]? = some o → o.op ≠ .select cs b)
    (hs : Region.sinkB md ops (n + 1) = true) (hc : Region.chainB md ops (n + 1) = true) (hn : n + 1 < ops.size) (hin : i < n)
    (hdone : ∀ g listed a, L g listed a → ∀ j ∈ Region.ready md ops listed, n + 1 ≤ j) :
    ∀ (f : Nat) (listed : Array Bool) (a : Act), HeadInv md ops (n + 1) listed →
      (∀ j oj, ops[j]? = some oj → j ≠ i → listed.getD j true = false → (∀ e ∈ oj.after, Region.binds md e = true → e.on ≠ i) → oi.apart ops oj = true) →
      i ∈ Region.ready md ops listed → YieldsIn P ops C oi v a → (∀ g, YieldsIn P ops (Cg g) oi v a) →
      headA P md ops C n d Cg L f (listed.setIfInBounds i true) (a.put oi.dst v) → headA P md ops C n d Cg L (f + 1) listed a := by
  intro f
  induction f with
  | zero =>
    intro listed a inv hfree hr hy hyg H
    refine ⟨fun h => (by rw [h] at hr; cases hr), fun j hj => ?_⟩
    by_cases hji : j = i
    · subst hji; exact .inr ⟨hin, hy.qOp hi H⟩
    · have hjn := H.2.1 j (ready_mono hj hji)
      subst hjn
      obtain ⟨hjun, oj, hoj, hall⟩ := mem_ready.1 hj
      obtain rfl : oj = on := Option.some.inj (hoj.symm.trans hnop)
      have hap := hfree j oj hoj hji hjun fun e he hb heq => by
        have h2 := hall e he hb
        rw [heq, getD_both (mem_ready.1 hr).1] at h2
        cases h2
      obtain ⟨_, hdd, _⟩ := Oper.apart_spec hap
      refine .inl ⟨rfl, fun g hg => ?_⟩
      have H' := headA_at H (ready_mono hj hji) g hg
      refine headQ_first (v := v) (n := j + 1) hi hsel hs hc hn (by omega) (hdone g) 0 _ _ (inv.set hj (Nat.lt_succ_self _)) (fun k ok hk hki hun hno => hfree k ok hk hki ?_ hno) (ready_mono hr (Ne.symm hji)) ?_ ?_
      · by_cases hjk : j = k
        · subst hjk; exact hjun
        · rw [getD_set_ne true hjk] at hun; exact hun
      · have := yields_put (P := P) (C := Cg g) (oj := oj) (Value.pointer (some ⟨g, 0, none⟩)) hap (fun cs b => hsel i oi cs b hi) (hyg g)
        rwa [hnd] at this
      · rw [Array.setIfInBounds_comm _ _ hji]
        have := Act.put_comm (x := oi.dst) (y := oj.dst) a v (Value.pointer (some ⟨g, 0, none⟩)) hdd
        rw [hnd] at this
        rw [← this]
        exact H'
  | succ f ih =>
    intro listed a inv hfree hr hy hyg H
    refine ⟨fun h => (by rw [h] at hr; cases hr), fun j hj => ?_⟩
    by_cases hji : j = i
    · subst hji; exact .inr ⟨hin, hy.qOp hi H⟩
    · obtain ⟨hjun, oj, hoj, hall⟩ := mem_ready.1 hj
      have hnot : ∀ e ∈ oj.after, Region.binds md e = true → e.on ≠ i := fun e he hb heq => by
        have h2 := hall e he hb
        rw [heq, getD_both (mem_ready.1 hr).1] at h2
        cases h2
      have hap := hfree j oj hoj hji hjun hnot
      rcases H.2 j (ready_mono hj hji) with ⟨hjn, H1⟩ | ⟨hjn, h1⟩
      · subst hjn
        obtain rfl : oj = on := Option.some.inj (hoj.symm.trans hnop)
        obtain ⟨_, hdd, _⟩ := Oper.apart_spec hap
        refine .inl ⟨rfl, fun g hg => ?_⟩
        refine headQ_first (v := v) (n := j + 1) hi hsel hs hc hn (by omega) (hdone g) (f + 1) _ _ (inv.set hj (Nat.lt_succ_self _)) (fun k ok hk hki hun hno => hfree k ok hk hki ?_ hno) (ready_mono hr (Ne.symm hji)) ?_ ?_
        · by_cases hjk : j = k
          · subst hjk; exact hjun
          · rw [getD_set_ne true hjk] at hun; exact hun
        · have := yields_put (P := P) (C := Cg g) (oj := oj) (Value.pointer (some ⟨g, 0, none⟩)) hap (fun cs b => hsel i oi cs b hi) (hyg g)
          rwa [hnd] at this
        · rw [Array.setIfInBounds_comm _ _ hji]
          have := Act.put_comm (x := oi.dst) (y := oj.dst) a v (Value.pointer (some ⟨g, 0, none⟩)) hdd
          rw [hnd] at this
          rw [← this]
          exact H1 g hg
      · refine .inr ⟨hjn, ?_⟩
        have h2 := qOp_shape hoj (qOp_put hoj hap (fun cs b => hsel i oi cs b hi) (fun cs b => hsel j oj cs b hoj) hy h1)
        refine qOp_mono (fun a' h3 => ?_) h2
        obtain ⟨⟨u, rfl⟩, h3, h4⟩ := h3
        refine ih (listed.setIfInBounds j true) _ (inv.set hj (by omega)) (fun k ok hk hki hun hno => hfree k ok hk hki ?_ hno) (ready_mono hr (Ne.symm hji)) h3
          (fun g => yields_put u hap (fun cs b => hsel i oi cs b hi) (hyg g)) ?_
        · by_cases hjk : j = k
          · subst hjk; exact hjun
          · rw [getD_set_ne true hjk] at hun; exact hun
        · rw [Array.setIfInBounds_comm _ _ hji]
          exact h4

theorem getD_self (listed : Array Bool) (k : Nat) : (listed.setIfInBounds k true).getD k true = true := by
  simp only [Array.getD_eq_getD_getElem?]
  rcases Nat.lt_or_ge k listed.size with h | h
  · simp [h]
  · simp [Array.getElem?_eq_none (show (listed.setIfInBounds k true).size ≤ k by simpa using h)]

theorem headA_lex {n g0 : Nat} {d : Tmp} {on : Oper} {A : Act} {Cg : Nat → World → Prop} {LA : Nat → Act → Prop} (hnop : ops[n]? = some on) (hnd : on.dst = some d) (hsel : Region.noSelect ops = true)
    (hs : Region.sinkB md ops (n + 1) = true) (hc : Region.chainB md ops (n + 1) = true) (hn : n + 1 < ops.size)
    (hL : ∀ g, (∃ w, Cg g w) → LA g (A.put (some d) (.pointer (some ⟨g, 0, none⟩)))) :
    ∀ (l : List Oper) (k : Nat) (listed : Array Bool) (a : Act), (∀ j, j < l.length → l[j]? = ops[k + j]?) → k + l.length = n → HeadInv md ops (n + 1) listed → (∀ i, i < k → listed.getD i true = true) →
    Region.lexHead md ops g0 (l.length + 1) k listed = true → walkV P ops C A l a → (∀ g, walkV P ops (Cg g) A l a) →
    headA P md ops C n d Cg (fun g listed' a' => Region.seqB md ops g0 (n + 1) listed' = true ∧ LA g a') l.length listed a
  | [], k, listed, a, _, hk, inv, hd, hB, h, _ => by
    obtain rfl : k = n := by simpa using hk
    simp only [List.length_nil, Region.lexHead, Bool.and_eq_true] at hB
    have hr : k ∈ Region.ready md ops listed := by simpa using hB.1.1
    refine ⟨hr, fun i hi => ?_, fun g hg => ⟨hB.2, ?_⟩⟩
    · apply Decidable.byContradiction
      intro hik
      rcases Nat.lt_or_ge i k with hlt | hge
      · have h1 := hd i hlt
        rw [(mem_ready.1 hi).1] at h1
        cases h1
      · exact tail_waits hs hc hn inv _ k rfl (by omega) (mem_ready.1 hr).1 i (by omega) hi
    · rw [show a = A from h]
      exact hL g hg
  | o :: l, k, listed, a, hl, hk, inv, hd, hB, h, hg => by
    have h0 : ops[k]? = some o := by simpa using (hl 0 (by simp)).symm
    simp only [List.length_cons, Region.lexHead, Bool.and_eq_true] at hB
    obtain ⟨⟨hr, hf⟩, hB'⟩ := hB
    have hkn : k < n := by simp only [List.length_cons] at hk; omega
    have hr' : k ∈ Region.ready md ops listed := by simpa using hr
    refine headA_first h0 hnop hnd (Region.noSelect_spec hsel) hs hc hn hkn (fun g _ _ hL => seqB_ready hL.1) l.length listed a inv (Region.free_spec h0 hf) hr' h.1 (fun g => (hg g).1) ?_
    refine headA_lex hnop hnd hsel hs hc hn hL l (k + 1) _ _ (fun j hj => ?_) (by simp only [List.length_cons] at hk; omega) (inv.set hr' (by omega)) (fun i hi => ?_) ?_ h.2 (fun g => (hg g).2)
    · have := hl (j + 1) (by simp; omega)
      simpa [Nat.add_assoc, Nat.add_comm 1 j] using this
    · by_cases hik : i = k
      · subst hik; exact getD_self listed i
      · rw [getD_set_ne true (by omega)]; exact hd i (by omega)
    · simpa [Region.lexHead] using hB'

theorem wpAny_of_headA {n g0 : Nat} {d : Tmp} {on : Oper} {z : Array Value} {T : TypeId} {B : Nat} {w0 : World} {L : Nat → Array Bool → Act → Prop} {Q' : Exit → Act → World → Prop} (hB0 : B ≤ w0.heap.size)
    (hnop : ops[n]? = some on) (hnd : on.dst = some d) (hng : on.guard = none) (hrun : ∀ (a : Act) (w : World), (execOp a.eval on).run P w = .ok (.value (.pointer (some ⟨w.heap.size, 0, none⟩))) (w.alloc (.cells z T)))
    (hL : ∀ g listed a w, inP B w0 (hasBlk B g (.cells z T)) w → L g listed a → wpAny P md ops Q' g0 listed a w) :
    ∀ (f : Nat) (listed : Array Bool) (a : Act) (w : World), inP B w0 (fun _ => True) w →
      headA P md ops (inP B w0 fun _ => True) n d (fun g => inP B w0 (hasBlk B g (.cells z T))) L f listed a → wpAny P md ops Q' (f + 1 + g0) listed a w := by
  have hal : ∀ (f : Nat) (listed : Array Bool) (a : Act) (w : World), inP B w0 (fun _ => True) w →
      (∀ g, (∃ w, inP B w0 (hasBlk B g (.cells z T)) w) → headQ P md ops (inP B w0 (hasBlk B g (.cells z T))) (n + 1) (L g) f (listed.setIfInBounds n true) (a.put (some d) (.pointer (some ⟨g, 0, none⟩)))) →
      wpOp P ops Q' n (fun a' w' => wpAny P md ops Q' (f + g0) (listed.setIfInBounds n true) a' w') a w := by
    rintro f listed a w ⟨e, rfl⟩ h
    have hBe : B ≤ e.val.heap.size := Nat.le_trans hB0 e.ok.size
    have hw : inP B w0 (hasBlk B e.val.heap.size (.cells z T)) (e.val.alloc (.cells z T)) := ⟨⟨_, e.ok.alloc hBe _, hBe, heap_alloc_last _ _⟩, rfl⟩
    have h1 := wpAny_of_headQ (Q' := Q') (g := g0) (hL e.val.heap.size) f _ _ _ hw (h e.val.heap.size ⟨_, hw⟩)
    unfold wpOp
    simp only [hnop]
    rw [if_pos (by simp [Region.wanted, hng])]
    refine .inl ?_
    unfold Oper.wp
    rw [hrun, Oper.upon_value, hnd]
    exact h1
  intro f
  induction f with
  | zero =>
    intro listed a w hw h
    rw [show 0 + 1 + g0 = (0 + g0) + 1 by omega]
    refine ⟨fun h0 => absurd h.1 (by rw [h0]; simp), fun i hi => ?_⟩
    obtain rfl := h.2.1 i hi
    exact hal 0 listed a w hw h.2.2
  | succ f ih =>
    intro listed a w hw h
    rw [show f + 1 + 1 + g0 = (f + 1 + g0) + 1 by omega]
    refine ⟨fun h0 => absurd h0 h.1, fun i hi => ?_⟩
    rcases h.2 i hi with ⟨rfl, h1⟩ | ⟨_, h1⟩
    · exact hal (f + 1) listed a w hw h1
    · exact wpOp_of_qOp hw (fun a' w' hw' h' => ih _ a' w' hw' h') h1

/-- The first n operations quiet whatever new memory there is; operation n makes a new variable (slot d, type T, zero cells z); the rest in its forced order. -/
theorem wp_region_alloc {id : Nat} {Q : Exit → Act → World → Prop} {a : Act} {w : World} {l : List Oper} (B n : Nat) {d : Tmp} {on : Oper} {T : TypeId} {z : Array Value} (hm : P.follows .mixedOrders = true)
    (hB : Region.lexTailB .any l.toArray (n + 1) = true) (hBw : B ≤ w.heap.size) (hnop : l[n]? = some on) (hnd : on.dst = some d) (hng : on.guard = none)
    (hrun : ∀ (a : Act) (w : World), (execOp a.eval on).run P w = .ok (.value (.pointer (some ⟨w.heap.size, 0, none⟩))) (w.alloc (.cells z T))) (hsl : slotsB a.tmps.size (l.take n) = true)
    (h : ∃ A : Act, (∀ ψ, Closed ψ → Nonempty (ExtP B w ψ) → wpQuiet P l.toArray (fun w' => ∃ e : ExtP B w ψ, w' = e.val) (fun a' => a' = A) (l.take n) a) ∧
      (∀ g w', Below B w w' → B ≤ g → w'.heap[g]? = some (.cells z T (0, 0)) → wpList P l.toArray Q (l.drop (n + 1)) (A.put (some d) (.pointer (some ⟨g, 0, none⟩))) w')) : (Code.region id l.toArray true).wp P Q a w := by
  obtain ⟨A, h1, h2⟩ := h
  have hall := hB
  simp only [Region.lexTailB, Bool.and_eq_true, decide_eq_true_eq] at hB
  obtain ⟨⟨⟨⟨hsel, hn⟩, hs⟩, hc⟩, hlex⟩ := hB
  have hn' : n + 1 < l.length := by simpa using hn
  have htl : (l.take n).length = n := by simp; omega
  have hdl : (l.drop (n + 1)).length = l.toArray.size - (n + 1) := by simp
  have inv0 : HeadInv .any l.toArray (n + 1) (Array.replicate l.toArray.size false) :=
    ⟨by simp, fun j oj _ hl => (by rw [getD_replicate_false] at hl; cases hl), fun t _ ht => getD_in (by simpa using ht) (getD_replicate_false _ _)⟩
  have hv : ∀ ψ, Closed ψ → (∃ w', inP B w ψ w') → walkV P l.toArray (inP B w ψ) A (l.take n) a := fun ψ hψ hne =>
    walkV_of _ a hsl (h1 ψ hψ (by obtain ⟨_, e, _⟩ := hne; exact ⟨e⟩))
  have hvac : ∀ (C : World → Prop) (l' : List Oper) (a : Act), (¬ ∃ w', C w') → (∀ C', walkV P l.toArray C' A l' a → True) → walkV P l.toArray (inP B w fun _ => True) A l' a → walkV P l.toArray C A l' a := by
    intro C l'
    induction l' with
    | nil => intro a _ _ h; exact h
    | cons o l' ih =>
      intro a hne _ h
      refine ⟨?_, ih _ hne (fun _ _ => trivial) h.2⟩
      rcases h.1 with ⟨h3, _⟩ | h3
      · exact .inl ⟨h3, fun w' hw' => absurd ⟨w', hw'⟩ hne⟩
      · exact .inr h3
  have hv0 := hv (fun _ => True) closed_true ⟨w, ⟨w, Below.refl _ _, trivial⟩, rfl⟩
  have hvg : ∀ g, walkV P l.toArray (inP B w (hasBlk B g (.cells z T))) A (l.take n) a := fun g => by
    by_cases hne : ∃ w', inP B w (hasBlk B g (.cells z T)) w'
    · exact hv _ (closed_blk _ _ _) hne
    · exact hvac _ _ _ hne (fun _ _ => trivial) hv0
  have H := headA_lex (P := P) (md := .any) (g0 := l.toArray.size - (n + 1)) (C := inP B w fun _ => True) (Cg := fun g => inP B w (hasBlk B g (.cells z T)))
    (LA := fun g a' => ∀ w', inP B w (hasBlk B g (.cells z T)) w' → wpList P l.toArray Q (l.drop (n + 1)) a' w') (by simpa using hnop) hnd hsel hs hc hn
    (fun g _ w' hw' => by obtain ⟨e, rfl⟩ := hw'; exact h2 g e.val e.ok e.ps.1 e.ps.2)
    (l.take n) 0 (Array.replicate l.toArray.size false) a (fun j hj => by rw [htl] at hj; simp [hj]) (by simpa using htl) inv0 (fun i hi => absurd hi (Nat.not_lt_zero _)) (by rw [htl]; exact hlex) hv0 hvg
  refine wp_region_any hm ?_
  have := wpAny_of_headA (P := P) (md := .any) (Q' := Q) (g0 := l.toArray.size - (n + 1)) hBw (by simpa using hnop) hnd hng hrun (fun g listed a' w' hw' hL => by
    have := wpAny_of_seq (md := .any) (Q' := Q) (l.drop (n + 1)) (n + 1) listed a' w' (fun j => by simp [List.getElem?_drop]) (by rw [hdl]; exact hL.1) (hL.2 w' hw')
    rwa [hdl] at this) _ _ _ { w with drawn := w.drawn + 1 } ⟨⟨_, (Below.refl B w).drew, trivial⟩, rfl⟩ H
  rw [htl, show n + 1 + (l.toArray.size - (n + 1)) = l.toArray.size by omega] at this
  exact this
end
end Go.Proofs.Yteahlnoonmfjhaa
