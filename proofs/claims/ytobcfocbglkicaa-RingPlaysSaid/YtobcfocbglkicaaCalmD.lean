/- Generic: as XCalmB's pieces, where the operation that may stand at any time makes a block whose cells are told by quiet operations ahead of it (a slice of one struct beside a chain of appends). No statement of its own. -/
import Derived.Test.YtobcfocbglkicaaCalmB
set_option linter.unusedVariables false
namespace Go.Proofs.Ytobcfocbglkicaa.C
open Go.RowKit Go.Proofs.Ytobcfocbglkicaa
section
variable {P : Program} {ops : Array Oper} {md : Region.Mode}

theorem hOp_keep {j : Nat} {oi oj : Oper} (hj : ops[j]? = some oj) (hap : oi.apart ops oj = true) (hsi : ∀ cs b, oi.op ≠ .select cs b) {K : Act → World → Prop} {a : Act} {w : World} (h : hOp P ops j K a w) :
    hOp P ops j (fun a' w' => execOp a'.eval oi = execOp a.eval oi ∧ K a' w') a w := by
  obtain ⟨h1, h2, h3⟩ := Oper.apart_spec hap
  unfold hOp at *
  simp only [hj] at *
  split
  · rename_i hw
    simp only [hw, if_true] at h
    unfold Oper.wp at *
    generalize (execOp a.eval oj).run P w = r at *
    cases r with
    | ok n w' =>
      cases n <;> simp only [Oper.upon] at h ⊢
      case value u => exact ⟨execOp_put oi hsi a oj.dst u h3, h⟩
      case skip => exact ⟨execOp_put oi hsi a oj.dst undef h3, h⟩
      case defer d => exact ⟨execOp_put oi hsi { a with defers := d :: a.defers } oj.dst undef h3, h⟩
      case enter f args =>
        refine Calls.mono h fun e w'' he => ?_
        cases e with
        | returned u => exact ⟨execOp_put oi hsi a oj.dst u h3, he⟩
        | panicked c => exact he
        | outgrown => exact he
      case row row args => exact Rows.mono h fun u w'' he => ⟨execOp_put oi hsi a oj.dst u h3, he⟩
    | halt x w' => cases x <;> simp only [Oper.upon] at h ⊢ <;> exact h
  · rename_i hw
    simp only [hw] at h
    exact ⟨execOp_put oi hsi a oj.dst undef h3, h⟩
/-- The new block made ahead of the steps r1. -/
theorem seq_madeD {S U : Nat → Prop} {i g W0 : Nat} {oi : Oper} {O : Obj} {V : Nat → Value} {T : Act → World → Prop} {r2 : List Stp} (hsel : ∀ (j : Nat) (o : Oper) cs b, ops[j]? = some o → o.op ≠ .select cs b) (hi : ops[i]? = some oi) (hg0 : W0 ≤ g) :
    ∀ (r1 : List Stp) (a : Act) (w : World), (∀ s ∈ r1, ∀ k, (s = .q k ∨ s = .o k) → ∀ ok, ops[k]? = some ok → ok.apart ops oi = true ∧ oi.apart ops ok = true) → w.heap[g]? = some O →
      SeqP P ops S (fun _ => False) (fun a w => ∀ g, W0 ≤ g → w.heap[g]? = some O → SeqP P ops S U T r2 (a.put oi.dst (V g)) w) r1 a w →
      SeqP P ops S U T (r1 ++ r2) (a.put oi.dst (V g)) w
  | [], a, w, _, hg, h => h w (Ext.refl w) g hg0 hg
  | .q k :: r1, a, w, hap, hg, ⟨o, v, ho, hy, hr⟩ => by
    have h2 := hap (.q k) (by simp) k (.inl rfl) o ho
    refine ⟨o, v, ho, CalmS_put h2.1 (fun cs b => hsel k o cs b ho) hy, ?_⟩
    have := seq_madeD hsel hi hg0 r1 (a.put o.dst v) w (fun s hs => hap s (List.mem_cons_of_mem _ hs)) hg hr
    obtain ⟨h1, h3, h4⟩ := Oper.apart_spec h2.2
    rw [Act.put_comm a _ v h3]
    exact this
  | .o k :: r1, a, w, hap, hg, h => fun w1 hw1 => by
    have hg1 := (hw1.block g (Array.getElem?_eq_some_iff.1 hg).1).trans hg
    cases ho : ops[k]? with
    | none =>
      have h1 := h w1 hw1
      unfold hOp at h1 ⊢
      simp only [ho] at h1 ⊢
      exact ⟨h1.1.mono (fun _ h => h.elim), seq_madeD hsel hi hg0 r1 a w1 (fun s hs => hap s (List.mem_cons_of_mem _ hs)) hg1 h1.2⟩
    | some o =>
      have h2 := hap (.o k) (by simp) k (.inr rfl) o ho
      refine hOp_mono (fun a' w' h' => ?_) (hOp_over ho h2.2 (fun cs b => hsel k o cs b ho) (h w1 hw1))
      obtain ⟨a'', rfl, h3, h4⟩ := h'
      exact ⟨h3.mono (fun _ h => h.elim), seq_madeD hsel hi hg0 r1 a'' w' (fun s hs => hap s (List.mem_cons_of_mem _ hs)) ((h3.block g (Array.getElem?_eq_some_iff.1 hg1).1 (fun h => h)).trans hg1) h4⟩

theorem wpES_of_seqD {S U : Nat → Prop} {n g i W0 : Nat} {oi : Oper} {O : Obj} {V : Nat → Value} {A0 : Act} {tl : Act → World → Prop} {r2 : List Stp} (hU : ∀ k, U k → S k) (hs : Region.noSelect ops = true) (ht : tailB md ops n = true) (hi : ops[i]? = some oi) (hin : i < n) (hng : oi.guard = none)
    (hrun : ∀ w : World, (execOp A0.eval oi).run P w = .ok (.value (V w.heap.size)) (w.alloc O)) :
    ∀ (r1 : List Stp) (listed : Array Bool) (a : Act) (w : World), HeadInv md ops n listed → W0 ≤ w.heap.size → execOp a.eval oi = execOp A0.eval oi → (∀ s ∈ r1, ∀ k, (s = .q k ∨ s = .o k) → ∀ ok, ops[k]? = some ok → ok.apart ops oi = true ∧ oi.apart ops ok = true) → stpA md ops g n i r2 r1 listed = true →
      SeqP P ops S (fun _ => False) (fun a w => ∀ g, W0 ≤ g → w.heap[g]? = some O → SeqP P ops S U tl r2 (a.put oi.dst (V g)) w) r1 a w →
      wpES P md ops S n (fun listed' a' w' => Region.seqB md ops g n listed' = true ∧ tl a' w') (r1.length + 1 + r2.length) listed a w := by
  have make : ∀ (f : Nat) (listed : Array Bool) (a : Act) (w1 : World), W0 ≤ w1.heap.size → execOp a.eval oi = execOp A0.eval oi →
      (∀ g0, W0 ≤ g0 → (w1.alloc O).heap[g0]? = some O → wpES P md ops S n (fun listed' a' w' => Region.seqB md ops g n listed' = true ∧ tl a' w') f (listed.setIfInBounds i true) (a.put oi.dst (V g0)) (w1.alloc O)) →
      hOp P ops i (fun a' w' => Mut S w1 w' ∧ wpES P md ops S n (fun listed' a' w' => Region.seqB md ops g n listed' = true ∧ tl a' w') f (listed.setIfInBounds i true) a' w') a w1 := by
    intro f listed a w1 hW hE h
    unfold hOp
    simp only [hi]
    rw [if_pos (by simp [Region.wanted, hng])]
    unfold Oper.wp
    rw [hE, hrun, Oper.upon_value]
    exact ⟨Mut.of_ext ((Below.refl _ w1).alloc (Nat.le_refl _) _), h w1.heap.size hW (heap_alloc_last w1 O)⟩
  have hext : ∀ w1 : World, Ext w1 (w1.alloc O) := fun w1 => (Below.refl _ w1).alloc (Nat.le_refl _) _
  have hsi : ∀ cs b, oi.op ≠ .select cs b := fun cs b => Region.noSelect_spec hs i oi cs b hi
  intro r1
  induction r1 with
  | nil =>
    intro listed a w inv hW hE _ hB h
    simp only [stpA, Bool.and_eq_true, decide_eq_true_eq] at hB
    obtain ⟨hr, hB'⟩ := hB
    have hri : i ∈ Region.ready md ops listed := by rw [hr]; simp
    rw [List.length_nil, show 0 + 1 + r2.length = r2.length + 1 by omega]
    refine ⟨by rw [hr]; simp, fun j hj => ?_⟩
    rw [hr] at hj
    obtain rfl : j = i := by simpa using hj
    exact ⟨hin, fun w1 hw1 => make _ listed a w1 (Nat.le_trans hW hw1.size) hE fun g0 h1 h3 => wpES_of_seq hU hs ht r2 _ _ _ (inv.set hri hin) hB' (h _ (hw1.trans (hext w1)) g0 h1 h3)⟩
  | cons s r1 ih =>
    intro listed a w inv hW hE hap hB h
    rw [List.length_cons, show r1.length + 1 + 1 + r2.length = (r1.length + 1 + r2.length) + 1 by omega]
    cases s with
    | q k =>
      simp only [stpA, Bool.and_eq_true, decide_eq_true_eq] at hB
      obtain ⟨⟨⟨⟨⟨hkn, hki⟩, hri⟩, hr⟩, hf⟩, hB'⟩ := hB
      have hr' : k ∈ Region.ready md ops listed := by simpa using hr
      obtain ⟨o, v, ho, hy, hv⟩ := h
      have h3 := (Oper.apart_spec (hap (.q k) (by simp) k (.inl rfl) o ho).2).2.2
      exact wpES_first ho (Region.noSelect_spec hs) ht hkn (fun _ _ _ hL => seqB_ready hL.1) _ listed a w inv (Region.free_spec ho hf) hr' hy
        (ih _ _ w (inv.set hr' hkn) hW ((execOp_put oi hsi a o.dst v h3).trans hE) (fun s hs => hap s (List.mem_cons_of_mem _ hs)) hB' hv)
    | o k =>
      simp only [stpA, Bool.and_eq_true, decide_eq_true_eq] at hB
      obtain ⟨⟨⟨⟨⟨⟨hkn, hki⟩, hri⟩, hall⟩, hr⟩, hB2⟩, hB'⟩ := hB
      have hk : k ∈ Region.ready md ops listed := by simpa using hr
      have hi' : i ∈ Region.ready md ops listed := by simpa using hri
      refine ⟨(fun h0 => by rw [h0] at hk; cases hk), fun j hj => ?_⟩
      have hjk : j = k ∨ j = i := by
        rw [List.all_eq_true] at hall
        simpa using hall j hj
      rcases hjk with rfl | rfl
      · obtain ⟨_, oj, hoj, _⟩ := mem_ready.1 hk
        refine ⟨hkn, fun w1 hw1 => hOp_mono (fun a' w' h' => ⟨h'.2.1.mono (fun _ h => h.elim), ?_⟩) (hOp_keep hoj (hap (.o j) (by simp) j (.inr rfl) oj hoj).2 hsi (h w1 hw1))⟩
        exact ih _ a' w' (inv.set hk hkn) (Nat.le_trans hW (Nat.le_trans hw1.size h'.2.1.size)) (h'.1.trans hE) (fun s hs => hap s (List.mem_cons_of_mem _ hs)) hB' h'.2.2
      · refine ⟨hin, fun w1 hw1 => make _ listed a w1 (Nat.le_trans hW hw1.size) hE fun g0 h1 h3 => ?_⟩
        have h4 := seq_madeD (Region.noSelect_spec hs) hi h1 (.o k :: r1) a _ hap h3 (h.ext (hw1.trans (hext w1)))
        have := wpES_of_seq (md := md) (g := g) hU hs ht (.o k :: (r1 ++ r2)) _ _ _ (inv.set hi' hin) hB2 h4
        rw [List.length_cons, List.length_append, show r1.length + r2.length + 1 = r1.length + 1 + r2.length by omega] at this
        exact this
theorem setAll_size : ∀ (l : List Nat) (x : Array Bool), (setAll x l).size = x.size
  | [], x => rfl
  | k :: l, x => by unfold setAll; rw [setAll_size l]; simp
/-- Quiet operations l0; then the pieces π1, which only add to memory, a new block (operation i, the object O, its value by V), the pieces π2, which may change blocks of U; the block may be made at any time behind l0, and no operation of π1 looks at it. -/
theorem wp_region_piecesD {id : Nat} {Q : Exit → Act → World → Prop} {a : Act} {w : World} {l : List Oper} (S U : Nat → Prop) (n i : Nat) (l0 : List Nat) (π1 π2 : List (Bool × List Nat)) {oi : Oper} {O : Obj} (V : Nat → Value) (hm : P.follows .mixedOrders = true) (hU : ∀ k, U k → S k)
    (hB : (Region.noSelect l.toArray && tailB .any l.toArray n && decide (l0.length + ((flat π1).length + 1 + (flat π2).length) = n) && decide (i < n) && flatB l.length π1 && flatB l.length π2 && apartsB l.toArray i (flat π1) && calmB .any l.toArray n l0 (Array.replicate l.length false) && stpA .any l.toArray (l.length - n) n i (flat π2) (flat π1) (setAll (Array.replicate l.length false) l0)) = true)
    (hi : l[i]? = some oi) (hng : oi.guard = none)
    (h : slotsB a.tmps.size (l0.flatMap fun k => (l[k]?).toList) = true ∧ ∃ A : Act, (∀ ψ, Closed ψ → Nonempty (ExtS S w ψ) → wpQuiet P l.toArray (fun w' => ∃ e : ExtS S w ψ, w' = e.val) (fun a' => a' = A) (l0.flatMap fun k => (l[k]?).toList) a) ∧
      (∀ w' : World, (execOp A.eval oi).run P w' = .ok (.value (V w'.heap.size)) (w'.alloc O)) ∧
      wpM2 P l.toArray S (fun _ => False) (fun a' w' => ∀ g, w.heap.size ≤ g → w'.heap[g]? = some O → wpM2 P l.toArray S U (wpList P l.toArray Q (l.drop n)) (pick l π2) (a'.put oi.dst (V g)) w') (pick l π1) A w) : (Code.region id l.toArray true).wp P Q a w := by
  simp only [Bool.and_eq_true, decide_eq_true_eq] at hB
  obtain ⟨⟨⟨⟨⟨⟨⟨⟨hs, ht⟩, hc⟩, hin⟩, hf1⟩, hf2⟩, hap⟩, hcm⟩, ho⟩ := hB
  have hnl : n ≤ l.length := by
    simp only [tailB, Bool.or_eq_true, decide_eq_true_eq, Bool.and_eq_true, List.size_toArray] at ht
    omega
  have inv0 : HeadInv .any l.toArray n (Array.replicate l.length false) :=
    ⟨by simp, fun j oj _ hl => (by rw [getD_replicate_false] at hl; cases hl), fun t _ ht => getD_in (by simpa using ht) (getD_replicate_false _ _)⟩
  have hi' : l.toArray[i]? = some oi := by simpa using hi
  have hap' : ∀ s ∈ flat π1, ∀ k, (s = .q k ∨ s = .o k) → ∀ ok, l.toArray[k]? = some ok → ok.apart l.toArray oi = true ∧ oi.apart l.toArray ok = true := by
    intro s hs k hk ok hok
    simp only [apartsB, hi', List.all_eq_true] at hap
    have := hap s hs
    have hsk : s.k = k := by rcases hk with rfl | rfl <;> rfl
    rw [hsk] at this
    simpa only [hok, Bool.and_eq_true] using this
  have hdl : (l.drop n).length = l.length - n := by simp
  obtain ⟨hsl, A, hq, hrun, h⟩ := h
  have h1 := (seq_of_M (P := P) rfl π1 A w hf1 h).mono (T' := fun a' w' => ∀ g, w.heap.size ≤ g → w'.heap[g]? = some O → SeqP P l.toArray S U (wpList P l.toArray Q (l.drop n)) (flat π2) (a'.put oi.dst (V g)) w')
    (fun a' w' h2 g x z => seq_of_M (P := P) rfl π2 _ w' hf2 (h2 g x z))
  have H := calm_pieceS (P := P) (md := .any) (S := S) (n := n) (f := (flat π1).length + 1 + (flat π2).length) (L := fun listed' a' w' => Region.seqB .any l.toArray (l.length - n) n listed' = true ∧ wpList P l.toArray Q (l.drop n) a' w') (A := A) (w := w) rfl hs ht (fun _ _ _ hL => seqB_ready hL.1) l0 (Array.replicate l.length false) a inv0 hcm
    (fun ψ hψ hne => walkV_of _ a hsl (hq ψ hψ (by obtain ⟨_, e, _⟩ := hne; exact ⟨e⟩)))
    (fun inv' => wpES_of_seqD (P := P) (md := .any) (S := S) (U := U) (g := l.length - n) (W0 := w.heap.size) (tl := wpList P l.toArray Q (l.drop n)) hU hs ht hi' hin hng hrun (flat π1) _ A w inv' (Nat.le_refl _) rfl hap' ho h1)
  have H := H.ext (w1 := { w with drawn := w.drawn + 1 }) (Below.refl _ w).drew
  refine wp_region_any hm ?_
  have := wpAny_of_ES (P := P) (md := .any) (Q := Q) (g := l.length - n) (fun listed a' w' hL => by
    have := wpAny_of_seq (md := .any) (Q' := Q) (l.drop n) n listed a' w' (fun j => by simp [List.getElem?_drop]) (by rw [hdl]; exact hL.1) hL.2
    rwa [hdl] at this) _ _ _ _ H
  rw [hc, show n + (l.length - n) = l.length by omega] at this
  simpa using this
end
end Go.Proofs.Ytobcfocbglkicaa.C
