/- Generic: a region that draws its order, step by step: quiet operations, which may stand anywhere, operations in one order, which may change the blocks of a set, and a new variable, which may be made at any time; behind all a tail in one forced order. No statement of its own. -/
import Derived.Test.YteahlnoonmfjhaaCalmS
set_option linter.unusedVariables false
namespace Go.Proofs.Yteahlnoonmfjhaa.C
open Go.RowKit Go.Proofs.Yteahlnoonmfjhaa
section
variable {P : Program} {ops : Array Oper} {md : Region.Mode}

/-- A step: a quiet operation, one in its order. -/
inductive Stp where
  | q (k : Nat)
  | o (k : Nat)

/-- What holds behind a row of steps, whatever memory is added between. -/
def SeqP (P : Program) (ops : Array Oper) (S U : Nat → Prop) (T : Act → World → Prop) : List Stp → Act → World → Prop
  | [], a, w => ∀ w', Ext w w' → T a w'
  | .q k :: r, a, w => ∃ o v, ops[k]? = some o ∧ CalmS P ops S o v a w ∧ SeqP P ops S U T r (a.put o.dst v) w
  | .o k :: r, a, w => ∀ w1, Ext w w1 → hOp P ops k (fun a' w' => Mut U w1 w' ∧ SeqP P ops S U T r a' w') a w1
theorem SeqP.ext {S U : Nat → Prop} {T : Act → World → Prop} : ∀ {r : List Stp} {a : Act} {w w1 : World}, SeqP P ops S U T r a w → Ext w w1 → SeqP P ops S U T r a w1
  | [], _, _, _, h, k => fun w' hw' => h w' (k.trans hw')
  | .q _ :: r, _, _, _, ⟨o, v, h1, h2, h3⟩, k => ⟨o, v, h1, h2.ext (Mut.of_ext k), SeqP.ext h3 k⟩
  | .o _ :: r, _, _, _, h, k => fun w2 hw2 => h w2 (k.trans hw2)
theorem SeqP.mono {S U : Nat → Prop} {T T' : Act → World → Prop} (hT : ∀ a w, T a w → T' a w) : ∀ {r : List Stp} {a : Act} {w : World}, SeqP P ops S U T r a w → SeqP P ops S U T' r a w
  | [], _, _, h => fun w' hw' => hT _ _ (h w' hw')
  | .q _ :: r, _, _, ⟨o, v, h1, h2, h3⟩ => ⟨o, v, h1, h2, SeqP.mono hT h3⟩
  | .o _ :: r, _, _, h => fun w2 hw2 => hOp_mono (fun _ _ h' => ⟨h'.1, SeqP.mono hT h'.2⟩) (h w2 hw2)

theorem SeqP.widen {S U U' : Nat → Prop} {T : Act → World → Prop} (hU : ∀ k, U k → U' k) : ∀ {r : List Stp} {a : Act} {w : World}, SeqP P ops S U T r a w → SeqP P ops S U' T r a w
  | [], _, _, h => h
  | .q _ :: r, _, _, ⟨o, v, h1, h2, h3⟩ => ⟨o, v, h1, h2, SeqP.widen hU h3⟩
  | .o _ :: r, _, _, h => fun w2 hw2 => hOp_mono (fun _ _ h' => ⟨h'.1.mono hU, SeqP.widen hU h'.2⟩) (h w2 hw2)

/-- Are these steps in order? -/
def stpB (md : Region.Mode) (ops : Array Oper) (g n : Nat) : List Stp → Array Bool → Bool
  | [], listed => Region.seqB md ops g n listed
  | .q k :: r, listed => decide (k < n) && (Region.ready md ops listed).contains k && Region.free md ops listed k && stpB md ops g n r (listed.setIfInBounds k true)
  | .o k :: r, listed => decide (k < n) && decide (Region.ready md ops listed = [k]) && stpB md ops g n r (listed.setIfInBounds k true)

theorem wpES_of_seq {S U : Nat → Prop} {n g : Nat} {tl : Act → World → Prop} (hU : ∀ k, U k → S k) (hs : Region.noSelect ops = true) (ht : tailB md ops n = true) :
    ∀ (r : List Stp) (listed : Array Bool) (a : Act) (w : World), HeadInv md ops n listed → stpB md ops g n r listed = true → SeqP P ops S U tl r a w →
      wpES P md ops S n (fun listed' a' w' => Region.seqB md ops g n listed' = true ∧ tl a' w') r.length listed a w
  | [], listed, a, w, inv, hB, h => fun w' hw' => ⟨hB, h w' hw'⟩
  | .q k :: r, listed, a, w, inv, hB, h => by
    simp only [stpB, Bool.and_eq_true, decide_eq_true_eq] at hB
    obtain ⟨⟨⟨hkn, hr⟩, hf⟩, hB'⟩ := hB
    have hr' : k ∈ Region.ready md ops listed := by simpa using hr
    obtain ⟨o, v, ho, hy, hv⟩ := h
    exact wpES_first ho (Region.noSelect_spec hs) ht hkn (fun _ _ _ hL => seqB_ready hL.1) r.length listed a w inv (Region.free_spec ho hf) hr' hy (wpES_of_seq hU hs ht r _ _ w (inv.set hr' hkn) hB' hv)
  | .o k :: r, listed, a, w, inv, hB, h => by
    simp only [stpB, Bool.and_eq_true, decide_eq_true_eq] at hB
    obtain ⟨⟨hkn, hr⟩, hB'⟩ := hB
    have hk : k ∈ Region.ready md ops listed := by rw [hr]; simp
    refine ⟨by rw [hr]; simp, fun i hi => ?_⟩
    rw [hr] at hi
    obtain rfl : i = k := by simpa using hi
    exact ⟨hkn, fun w1 hw1 => hOp_mono (fun a' w' h' => ⟨h'.1.mono hU, wpES_of_seq hU hs ht r _ a' w' (inv.set hk hkn) hB' h'.2⟩) (h w1 hw1)⟩

/-- A quiet yield is not touched by a slot that its operation does not look at. -/
theorem CalmS_put {S : Nat → Prop} {o oi : Oper} {v u : Value} {a : Act} {w : World} (hap : o.apart ops oi = true) (hso : ∀ cs b, o.op ≠ .select cs b) (h : CalmS P ops S o v a w) : CalmS P ops S o v (a.put oi.dst u) w := by
  obtain ⟨h1, h2, h3⟩ := Oper.apart_spec hap
  exact h.of_same (execOp_put o hso a oi.dst u h3) (wanted_put o a oi.dst u h3)

/-- The new variable made ahead of the steps r1. -/
theorem seq_made {S U : Nat → Prop} {i g W0 : Nat} {oi : Oper} {O : Obj} {T : Act → World → Prop} {r2 : List Stp} (hsel : ∀ (j : Nat) (o : Oper) cs b, ops[j]? = some o → o.op ≠ .select cs b) (hi : ops[i]? = some oi) (hg0 : W0 ≤ g) :
    ∀ (r1 : List Stp) (a : Act) (w : World), (∀ s ∈ r1, ∀ k, (s = .q k ∨ s = .o k) → ∀ ok, ops[k]? = some ok → ok.apart ops oi = true ∧ oi.apart ops ok = true) → w.heap[g]? = some O →
      SeqP P ops S (fun _ => False) (fun a w => ∀ g, W0 ≤ g → w.heap[g]? = some O → SeqP P ops S U T r2 (a.put oi.dst (.pointer (some ⟨g, 0, none⟩))) w) r1 a w →
      SeqP P ops S U T (r1 ++ r2) (a.put oi.dst (.pointer (some ⟨g, 0, none⟩))) w
  | [], a, w, _, hg, h => h w (Ext.refl w) g hg0 hg
  | .q k :: r1, a, w, hap, hg, ⟨o, v, ho, hy, hr⟩ => by
    have h2 := hap (.q k) (by simp) k (.inl rfl) o ho
    refine ⟨o, v, ho, CalmS_put h2.1 (fun cs b => hsel k o cs b ho) hy, ?_⟩
    have := seq_made hsel hi hg0 r1 (a.put o.dst v) w (fun s hs => hap s (List.mem_cons_of_mem _ hs)) hg hr
    obtain ⟨h1, h3, h4⟩ := Oper.apart_spec h2.2
    rw [Act.put_comm a _ v h3]
    exact this
  | .o k :: r1, a, w, hap, hg, h => fun w1 hw1 => by
    have hg1 := (hw1.block g (Array.getElem?_eq_some_iff.1 hg).1).trans hg
    cases ho : ops[k]? with
    | none =>
      have h1 := h w1 hw1
      unfold hOp at h1 ⊢
      simp only [ho] at h1 ⊢
      exact ⟨h1.1.mono (fun _ h => h.elim), seq_made hsel hi hg0 r1 a w1 (fun s hs => hap s (List.mem_cons_of_mem _ hs)) hg1 h1.2⟩
    | some o =>
      have h2 := hap (.o k) (by simp) k (.inr rfl) o ho
      refine hOp_mono (fun a' w' h' => ?_) (hOp_over ho h2.2 (fun cs b => hsel k o cs b ho) (h w1 hw1))
      obtain ⟨a'', rfl, h3, h4⟩ := h'
      exact ⟨h3.mono (fun _ h => h.elim), seq_made hsel hi hg0 r1 a'' w' (fun s hs => hap s (List.mem_cons_of_mem _ hs)) ((h3.block g (Array.getElem?_eq_some_iff.1 hg1).1 (fun h => h)).trans hg1) h4⟩

/-- Are the steps r1, the new variable i, and the steps r2 in order, where the variable may be made at any time? -/
def stpA (md : Region.Mode) (ops : Array Oper) (g n i : Nat) (r2 : List Stp) : List Stp → Array Bool → Bool
  | [], listed => decide (Region.ready md ops listed = [i]) && stpB md ops g n r2 (listed.setIfInBounds i true)
  | .q k :: r, listed => decide (k < n) && decide (k ≠ i) && (Region.ready md ops listed).contains i && (Region.ready md ops listed).contains k && Region.free md ops listed k && stpA md ops g n i r2 r (listed.setIfInBounds k true)
  | .o k :: r, listed => decide (k < n) && decide (k ≠ i) && (Region.ready md ops listed).contains i && (Region.ready md ops listed).all (fun j => j == k || j == i) && (Region.ready md ops listed).contains k && stpB md ops g n (.o k :: (r ++ r2)) (listed.setIfInBounds i true) && stpA md ops g n i r2 r (listed.setIfInBounds k true)

theorem wpES_of_seqA {S U : Nat → Prop} {n g i W0 : Nat} {oi : Oper} {O : Obj} {tl : Act → World → Prop} {r2 : List Stp} (hU : ∀ k, U k → S k) (hs : Region.noSelect ops = true) (ht : tailB md ops n = true) (hi : ops[i]? = some oi) (hin : i < n) (hng : oi.guard = none)
    (hrun : ∀ (a : Act) (w : World), (execOp a.eval oi).run P w = .ok (.value (.pointer (some ⟨w.heap.size, 0, none⟩))) (w.alloc O)) :
    ∀ (r1 : List Stp) (listed : Array Bool) (a : Act) (w : World), HeadInv md ops n listed → W0 ≤ w.heap.size → (∀ s ∈ r1, ∀ k, (s = .q k ∨ s = .o k) → ∀ ok, ops[k]? = some ok → ok.apart ops oi = true ∧ oi.apart ops ok = true) → stpA md ops g n i r2 r1 listed = true →
      SeqP P ops S (fun _ => False) (fun a w => ∀ g, W0 ≤ g → w.heap[g]? = some O → SeqP P ops S U tl r2 (a.put oi.dst (.pointer (some ⟨g, 0, none⟩))) w) r1 a w →
      wpES P md ops S n (fun listed' a' w' => Region.seqB md ops g n listed' = true ∧ tl a' w') (r1.length + 1 + r2.length) listed a w := by
  have make : ∀ (f : Nat) (listed : Array Bool) (a : Act) (w1 : World), W0 ≤ w1.heap.size →
      (∀ g0, W0 ≤ g0 → (w1.alloc O).heap[g0]? = some O → wpES P md ops S n (fun listed' a' w' => Region.seqB md ops g n listed' = true ∧ tl a' w') f (listed.setIfInBounds i true) (a.put oi.dst (.pointer (some ⟨g0, 0, none⟩))) (w1.alloc O)) →
      hOp P ops i (fun a' w' => Mut S w1 w' ∧ wpES P md ops S n (fun listed' a' w' => Region.seqB md ops g n listed' = true ∧ tl a' w') f (listed.setIfInBounds i true) a' w') a w1 := by
    intro f listed a w1 hW h
    unfold hOp
    simp only [hi]
    rw [if_pos (by simp [Region.wanted, hng])]
    unfold Oper.wp
    rw [hrun, Oper.upon_value]
    exact ⟨Mut.of_ext ((Below.refl _ w1).alloc (Nat.le_refl _) _), h w1.heap.size hW (heap_alloc_last w1 O)⟩
  have hext : ∀ w1 : World, Ext w1 (w1.alloc O) := fun w1 => (Below.refl _ w1).alloc (Nat.le_refl _) _
  intro r1
  induction r1 with
  | nil =>
    intro listed a w inv hW _ hB h
    simp only [stpA, Bool.and_eq_true, decide_eq_true_eq] at hB
    obtain ⟨hr, hB'⟩ := hB
    have hri : i ∈ Region.ready md ops listed := by rw [hr]; simp
    rw [List.length_nil, show 0 + 1 + r2.length = r2.length + 1 by omega]
    refine ⟨by rw [hr]; simp, fun j hj => ?_⟩
    rw [hr] at hj
    obtain rfl : j = i := by simpa using hj
    exact ⟨hin, fun w1 hw1 => make _ listed a w1 (Nat.le_trans hW hw1.size) fun g0 h1 h3 => wpES_of_seq hU hs ht r2 _ _ _ (inv.set hri hin) hB' (h _ (hw1.trans (hext w1)) g0 h1 h3)⟩
  | cons s r1 ih =>
    intro listed a w inv hW hap hB h
    rw [List.length_cons, show r1.length + 1 + 1 + r2.length = (r1.length + 1 + r2.length) + 1 by omega]
    cases s with
    | q k =>
      simp only [stpA, Bool.and_eq_true, decide_eq_true_eq] at hB
      obtain ⟨⟨⟨⟨⟨hkn, hki⟩, hri⟩, hr⟩, hf⟩, hB'⟩ := hB
      have hr' : k ∈ Region.ready md ops listed := by simpa using hr
      obtain ⟨o, v, ho, hy, hv⟩ := h
      exact wpES_first ho (Region.noSelect_spec hs) ht hkn (fun _ _ _ hL => seqB_ready hL.1) _ listed a w inv (Region.free_spec ho hf) hr' hy
        (ih _ _ w (inv.set hr' hkn) hW (fun s hs => hap s (List.mem_cons_of_mem _ hs)) hB' hv)
    | o k =>
      simp only [stpA, Bool.and_eq_true, decide_eq_true_eq] at hB
      obtain ⟨⟨⟨⟨⟨⟨hkn, hki⟩, hri⟩, hall⟩, hr⟩, hB2⟩, hB'⟩ := hB
      have hk : k ∈ Region.ready md ops listed := by simpa using hr
      have hi' : i ∈ Region.ready md ops listed := by simpa using hri
      refine ⟨(fun h0 => by rw [h0] at hk; cases hk), fun j hj => ?_⟩
      have hjk : j = k ∨ j = i := by
        rw [List.all_eq_true] at hall
        simpa using hall j hj
      rcases hjk with rfl | rfl
      · refine ⟨hkn, fun w1 hw1 => hOp_mono (fun a' w' h' => ⟨h'.1.mono (fun _ h => h.elim), ?_⟩) (h w1 hw1)⟩
        exact ih _ a' w' (inv.set hk hkn) (Nat.le_trans hW (Nat.le_trans hw1.size h'.1.size)) (fun s hs => hap s (List.mem_cons_of_mem _ hs)) hB' h'.2
      · refine ⟨hin, fun w1 hw1 => make _ listed a w1 (Nat.le_trans hW hw1.size) fun g0 h1 h3 => ?_⟩
        have h4 := seq_made (Region.noSelect_spec hs) hi h1 (.o k :: r1) a _ hap h3 (h.ext (hw1.trans (hext w1)))
        have := wpES_of_seq (md := md) (g := g) hU hs ht (.o k :: (r1 ++ r2)) _ _ _ (inv.set hi' hin) hB2 h4
        rw [List.length_cons, List.length_append, show r1.length + r2.length + 1 = r1.length + 1 + r2.length by omega] at this
        exact this

/-- Pieces as steps. -/
def flat : List (Bool × List Nat) → List Stp
  | [] => []
  | (true, l) :: π => l.map Stp.q ++ flat π
  | (false, l) :: π => l.map Stp.o ++ flat π
def flatB (m : Nat) : List (Bool × List Nat) → Bool
  | [] => true
  | (true, l) :: π => l.all (fun k => decide (k < m)) && flatB m π
  | (false, l) :: π => decide (l.length = 1) && l.all (fun k => decide (k < m)) && flatB m π

/-- The walk, piece by piece, quiet operations over worlds that are as they were but for S, ordered ones that change blocks of U. -/
def wpM2 (P : Program) (ops : Array Oper) (S U : Nat → Prop) (tl : Act → World → Prop) : List (Bool × List Oper) → Act → World → Prop
  | [], a, w => ∀ w', Ext w w' → tl a w'
  | (true, l) :: rest, a, w => slotsB a.tmps.size l = true ∧
    ∃ A : Act, (∀ ψ, Closed ψ → Nonempty (ExtS S w ψ) → wpQuiet P ops (fun w' => ∃ e : ExtS S w ψ, w' = e.val) (fun a' => a' = A) l a) ∧ wpM2 P ops S U tl rest A w
  | (false, l) :: rest, a, w => ∀ w1, Ext w w1 → ∀ K : Act → World → Prop, (∀ a' w', Mut U w1 w' → wpM2 P ops S U tl rest a' w' → K a' w') → wpList P ops (Exit.then K noQ) l a w1

theorem seq_quiet {S U : Nat → Prop} {T : Act → World → Prop} {A : Act} {w : World} {ol : List Oper} (hol : ol.toArray = ops) {r : List Stp} (H : SeqP P ops S U T r A w) :
    ∀ (l : List Nat) (a : Act), (∀ k ∈ l, k < ol.length) → (∀ ψ, Closed ψ → (∃ w', inS S w ψ w') → walkV P ops (inS S w ψ) A (l.flatMap fun k => (ol[k]?).toList) a) → SeqP P ops S U T (l.map Stp.q ++ r) a w
  | [], a, _, hv => by
    have : a = A := hv (fun _ => True) closed_true ⟨w, ⟨w, Mut.refl _ _, trivial⟩, rfl⟩
    rw [this]; exact H
  | k :: l, a, hl, hv => by
    have hk := hl k (by simp)
    have ho' : ol[k]? = some ol[k] := List.getElem?_eq_getElem hk
    have ho : ops[k]? = some ol[k] := by rw [← hol]; simp
    simp only [List.flatMap_cons, ho', Option.toList_some, List.singleton_append] at hv
    refine ⟨ol[k], A.eval (.tmp ((ol[k]).dst.getD 0)), ho, fun w' hw' => ?_, seq_quiet hol H l _ (fun k hk => hl k (List.mem_cons_of_mem _ hk)) fun ψ hψ hne => (hv ψ hψ hne).2⟩
    have hne : ∃ w'', inS S w (fun w'' => Below w'.heap.size w' w'') w'' := ⟨w', ⟨w', hw', Below.refl _ _⟩, rfl⟩
    have hcl : Closed fun w'' => Below w'.heap.size w' w'' := fun x y hx hxy => hx.trans (hxy.mono hx.size)
    rcases (hv _ hcl hne).1 with ⟨h1, h2⟩ | h1
    · refine .inl ⟨h1, ?_⟩
      have h3 := h2 w' ⟨⟨w', hw', Below.refl _ _⟩, rfl⟩
      unfold Oper.quietAt at *
      generalize (execOp a.eval ol[k]).run P w' = r at *
      cases r with
      | ok m w2 =>
        cases m <;> simp only [Oper.quietUpon] at h3 ⊢ <;> first | exact h3 | (refine ⟨h3.1, h3.2.mono fun e w3 he => ⟨he.1, ?_⟩⟩; obtain ⟨e', rfl⟩ := he.2; exact e'.ps)
      | halt x w2 => exact h3
    · exact .inr h1

theorem seq_of_M {S U : Nat → Prop} {T : Act → World → Prop} {ol : List Oper} (hol : ol.toArray = ops) :
    ∀ (π : List (Bool × List Nat)) (a : Act) (w : World), flatB ol.length π = true → wpM2 P ops S U T (pick ol π) a w → SeqP P ops S U T (flat π) a w
  | [], a, w, _, h => h
  | (true, l) :: π, a, w, hB, h => by
    simp only [flatB, Bool.and_eq_true, List.all_eq_true, decide_eq_true_eq] at hB
    obtain ⟨hsl, A, h1, h2⟩ := h
    exact seq_quiet hol (seq_of_M hol π A w hB.2 h2) l a hB.1 fun ψ hψ hne => walkV_of _ a hsl (h1 ψ hψ (by obtain ⟨_, e, _⟩ := hne; exact ⟨e⟩))
  | (false, [k]) :: π, a, w, hB, h => by
    simp only [flatB, Bool.and_eq_true, List.all_eq_true, decide_eq_true_eq] at hB
    have hk := hB.1.2 k (by simp)
    have ho' : ol[k]? = some ol[k] := List.getElem?_eq_getElem hk
    have ho : ops[k]? = some ol[k] := by rw [← hol]; simp
    show SeqP P ops S U T (.o k :: flat π) a w
    intro w1 hw1
    have h' : ∀ w1, Ext w w1 → ∀ K : Act → World → Prop, (∀ a' w', Mut U w1 w' → wpM2 P ops S U T (pick ol π) a' w' → K a' w') → wpList P ops (Exit.then K noQ) [ol[k]] a w1 := by
      have := h
      simp only [pick, List.map_cons, List.flatMap_cons, ho', List.flatMap_nil, Option.toList_some, List.singleton_append] at this
      exact this
    have h3 := h' w1 hw1 (fun a' w' => Mut U w1 w' ∧ SeqP P ops S U T (flat π) a' w') (fun a' w' hx hm => ⟨hx, seq_of_M hol π a' w' hB.2 hm⟩)
    unfold hOp
    simp only [ho]
    unfold wpList at h3
    split
    · rename_i hw
      rw [if_pos hw] at h3
      rcases h3 with h3 | ⟨_, _, _, h3⟩
      · unfold Oper.wp at *
        generalize (execOp a.eval ol[k]).run P w1 = r at *
        cases r with
        | ok m w2 =>
          cases m <;> simp only [Oper.upon] at h3 ⊢ <;> first | exact h3 | (refine Calls.mono h3 fun e w3 he => ?_; cases e <;> first | exact he | exact False.elim he | (obtain ⟨_, _, hf⟩ := he; exact False.elim hf))
        | halt x w2 => cases x <;> simp only [Oper.upon] at h3 ⊢ <;> first | exact h3 | exact False.elim h3
      · exact False.elim h3
    · rename_i hw
      rw [if_neg hw] at h3
      exact h3
  | (false, []) :: π, _, _, hB, _ => by simp [flatB] at hB
  | (false, _ :: _ :: _) :: π, _, _, hB, _ => by simp [flatB] at hB

/-- The operation of a step. -/
def Stp.k : Stp → Nat
  | .q k => k
  | .o k => k
def apartsB (ops : Array Oper) (i : Nat) (r : List Stp) : Bool := match ops[i]? with
  | none => false
  | some oi => r.all fun s => match ops[s.k]? with | none => true | some ok => ok.apart ops oi && oi.apart ops ok
/-- The pieces π1, which only add to memory, a new variable (operation i, the object O), the pieces π2, which may change blocks of U; the variable may be made at any time, and no operation of π1 looks at it. -/
theorem wp_region_piecesC {id : Nat} {Q : Exit → Act → World → Prop} {a : Act} {w : World} {l : List Oper} (S U : Nat → Prop) (n i : Nat) (π1 π2 : List (Bool × List Nat)) {oi : Oper} {O : Obj} (hm : P.follows .mixedOrders = true) (hU : ∀ k, U k → S k)
    (hB : (Region.noSelect l.toArray && tailB .any l.toArray n && decide ((flat π1).length + 1 + (flat π2).length = n) && decide (i < n) && flatB l.length π1 && flatB l.length π2 && apartsB l.toArray i (flat π1) && stpA .any l.toArray (l.length - n) n i (flat π2) (flat π1) (Array.replicate l.length false)) = true)
    (hi : l[i]? = some oi) (hng : oi.guard = none) (hrun : ∀ (a : Act) (w : World), (execOp a.eval oi).run P w = .ok (.value (.pointer (some ⟨w.heap.size, 0, none⟩))) (w.alloc O))
    (h : wpM2 P l.toArray S (fun _ => False) (fun a' w' => ∀ g, w.heap.size ≤ g → w'.heap[g]? = some O → wpM2 P l.toArray S U (wpList P l.toArray Q (l.drop n)) (pick l π2) (a'.put oi.dst (.pointer (some ⟨g, 0, none⟩))) w') (pick l π1) a w) : (Code.region id l.toArray true).wp P Q a w := by
  simp only [Bool.and_eq_true, decide_eq_true_eq] at hB
  obtain ⟨⟨⟨⟨⟨⟨⟨hs, ht⟩, hc⟩, hin⟩, hf1⟩, hf2⟩, hap⟩, ho⟩ := hB
  have hnl : n ≤ l.length := by
    simp only [tailB, Bool.or_eq_true, decide_eq_true_eq, Bool.and_eq_true, List.size_toArray] at ht
    omega
  have inv0 : HeadInv .any l.toArray n (Array.replicate l.length false) :=
    ⟨by simp, fun j oj _ hl => (by rw [getD_replicate_false] at hl; cases hl), fun t _ ht => getD_in (by simpa using ht) (getD_replicate_false _ _)⟩
  have hi' : l.toArray[i]? = some oi := by simpa using hi
  have hap' : ∀ s ∈ flat π1, ∀ k, (s = .q k ∨ s = .o k) → ∀ ok, l.toArray[k]? = some ok → ok.apart l.toArray oi = true ∧ oi.apart l.toArray ok = true := by
    intro s hs k hk ok hok
    simp only [apartsB, hi', List.all_eq_true] at hap
    have := hap s hs
    have hsk : s.k = k := by rcases hk with rfl | rfl <;> rfl
    rw [hsk] at this
    simpa only [hok, Bool.and_eq_true] using this
  have hdl : (l.drop n).length = l.length - n := by simp
  have h1 := (seq_of_M (P := P) rfl π1 a w hf1 h).mono (T' := fun a' w' => ∀ g, w.heap.size ≤ g → w'.heap[g]? = some O → SeqP P l.toArray S U (wpList P l.toArray Q (l.drop n)) (flat π2) (a'.put oi.dst (.pointer (some ⟨g, 0, none⟩))) w')
    (fun a' w' h2 g x z => seq_of_M (P := P) rfl π2 _ w' hf2 (h2 g x z))
  have H := wpES_of_seqA (P := P) (md := .any) (S := S) (U := U) (g := l.length - n) (W0 := w.heap.size) (tl := wpList P l.toArray Q (l.drop n)) hU hs ht hi' hin hng hrun (flat π1) _ a { w with drawn := w.drawn + 1 } inv0 (Nat.le_refl _) hap' ho (h1.ext (Below.refl _ w).drew)
  refine wp_region_any hm ?_
  have := wpAny_of_ES (P := P) (md := .any) (Q := Q) (g := l.length - n) (fun listed a' w' hL => by
    have := wpAny_of_seq (md := .any) (Q' := Q) (l.drop n) n listed a' w' (fun j => by simp [List.getElem?_drop]) (by rw [hdl]; exact hL.1) hL.2
    rwa [hdl] at this) _ _ _ _ H
  rw [hc, show n + (l.length - n) = l.length by omega] at this
  simpa using this
end
end Go.Proofs.Yteahlnoonmfjhaa.C
