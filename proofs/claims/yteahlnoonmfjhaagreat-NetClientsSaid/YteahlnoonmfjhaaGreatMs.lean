/- Texts of mine in one: RsQ, RsP, RsR, RsS. No statement of its own. -/
import Derived.Test.YteahlnoonmfjhaaGreatRsO
import Derived.Test.YteahlnoonmfjhaaGreatRsM
import Derived.Test.YteahlnoonmfjhaaGreatRsL
import Derived.Test.YteahlnoonmfjhaaGreatAfD
set_option linter.unusedVariables false
set_option maxRecDepth 100000
namespace Go.Proofs.YteahlnoonmfjhaaGreat
section
set_option linter.unusedVariables false
set_option maxRecDepth 100000
open Go.RowKit

/-- The program's letter of the document's. -/
def trT (c : UInt8) : UInt8 := if c = 116 then 120 else c
/-- What the document's reading of a letter makes. -/
def gtD (c : UInt8) (s : St) (ok : Bool) (x : RsT) : St × Bool × RsT :=
  if c = 72 then ((rdX s 24).2, (dec (rdX s 24).1).isSome, { x with h := (dec (rdX s 24).1).getD (0, 0, 0) })
  else if c = 65 then ((rdAtD s).1, ok, { x with at_ := (rdAtD s).2 })
  else ((gtR (trT c) s false x).1, ok, (gtR (trT c) s false x).2.2)
def rAllT : List UInt8 → St → Bool → RsT → St × Bool × RsT
  | [], s, ok, x => (s, ok, x)
  | c :: l, s, ok, x => rAllT l (gtD c s ok x).1 (gtD c s ok x).2.1 (gtD c s ok x).2.2
def finH (p : Int) (X : St × Bool × RsT) : RsT × Int := if (X.2.1 && doneB X.1 && rMayT p X.2.2) = true then (X.2.2, 0) else (rs0, 4)
def rH (p : Int) (s : List UInt8) : RsT × Int := if p < 0 ∨ 19 ≤ p then (rs0, 62) else finH p (rAllT (tellL p (rdW (some s)).1) (rdW (some s)).2 true { rs0 with e := (rdW (some s)).1 })
theorem gtD_okw {c : UInt8} (s : St) (ok : Bool) {x : RsT} (h : x.Okw) : (gtD c s ok x).2.2.Okw := by
  unfold gtD
  split
  · exact { h with h := dec_I64 _ }
  · split
    · have := rdW_bd s
      exact { h with at_ := atk_ok _ _ (by omega) }
    · exact gtR_okw s false h
theorem gtD_len (c : UInt8) (s : St) (ok : Bool) (x : RsT) : (gtD c s ok x).1.l.length ≤ s.l.length := by
  unfold gtD
  split
  · exact rdX_len s 24
  · split
    · exact Nat.le_trans (ats_len _ 7) (rdW_len s)
    · exact gtR_len _ _ _ _
end

section
set_option linter.unusedVariables false
set_option maxRecDepth 100000
open Go.RowKit

def lettersRT : List UInt8 := [72, 65, 116, 78, 102, 117, 118, 101, 69]
/-- The document's words of a result's letter. -/
def rPutT (x : RsT) (c : UInt8) : List UInt8 :=
  if c = 72 then hbytes x.h.1 x.h.2.1 x.h.2.2 else if c = 65 then attrB x.at_ else if c = 116 then textL x.text else if c = 78 then intL x.n else if c = 102 then intL x.free
  else if c = 117 then beL x.used else if c = 118 then beL x.verf else if c = 101 then beN (b2i x.end_) 4 else entsB x.ents
def rT (p : Int) (x : RsT) : List UInt8 × Int := if p < 0 ∨ 19 ≤ p then ([], 62) else if rMayT p x then (beN x.e 4 ++ (tellL p x.e).flatMap (rPutT x), 0) else ([], 4)
theorem rTellL_mem {p : Nat} (hp : p < 19) : (∀ c ∈ rTellL (p : Int), c ∈ lettersRT) ∧ (rTellL (p : Int)).length ≤ 3 := by
  have h : p = 0 ∨ p = 1 ∨ p = 2 ∨ p = 3 ∨ p = 4 ∨ p = 5 ∨ p = 6 ∨ p = 7 ∨ p = 8 ∨ p = 9 ∨ p = 10 ∨ p = 11 ∨ p = 12 ∨ p = 13 ∨ p = 14 ∨ p = 15 ∨ p = 16 ∨ p = 17 ∨ p = 18 := by omega
  rcases h with rfl | rfl | rfl | rfl | rfl | rfl | rfl | rfl | rfl | rfl | rfl | rfl | rfl | rfl | rfl | rfl | rfl | rfl | rfl <;> decide
theorem rMayT_spec {p : Int} {x : RsT} (h : rMayT p x = true) : (0 ≤ x.e ∧ x.e ≤ 63) ∧ (72 ∈ tellL p x.e → hmayB x.h.1 x.h.2.1 x.h.2.2 = true) ∧ x.text.length ≤ 2048 ∧ x.ents.length ≤ 64 ∧ longE x.ents = false := by
  unfold rMayT at h
  by_cases h0 : x.e < 0 ∨ 63 < x.e
  · rw [if_pos h0] at h; cases h
  rw [if_neg h0] at h
  unfold rTmay at h
  simp only [Bool.and_eq_true, Bool.not_eq_true'] at h
  obtain ⟨⟨⟨h1, h2⟩, h3⟩, h4⟩ := h
  unfold tD4 at h4
  simp only [Bool.and_eq_true, decide_eq_true_eq] at h4
  refine ⟨by omega, fun hm => ?_, h4.1, h4.2, h3⟩
  unfold tD1 at h1
  simp only [Bool.or_eq_false_iff, Bool.and_eq_false_iff, Bool.not_eq_false'] at h1
  obtain ⟨⟨⟨h1, -⟩, -⟩, -⟩ := h1
  rcases h1 with h1 | h1
  · exact absurd hm (of_decide_eq_false h1)
  · exact h1
theorem longE_each {l : List EnT} (h : longE l = false) : ∀ y ∈ l, y.name.length ≤ 255 := by
  intro y hy
  by_cases hl : 255 < y.name.length
  · exact absurd (List.any_eq_true.2 ⟨y, hy, decide_eq_true hl⟩) (by rw [show l.any (fun y => decide (255 < y.name.length)) = longE l from rfl, h]; decide)
  · omega
theorem rPutT_length {x : RsT} {c : UInt8} (h1 : x.text.length ≤ 2048) (h2 : x.ents.length ≤ 64) (h3 : longE x.ents = false) : (rPutT x c).length ≤ 20000 := by
  have t1 := textL_length x.text
  have t2 := enB_all x.ents (longE_each h3)
  unfold rPutT
  repeat' split
  · rw [hbytes_length]; omega
  · simp [attrB, numsL, beN_length, intL_length]
  · omega
  · rw [intL_length]; omega
  · rw [intL_length]; omega
  · rw [beL_length]; omega
  · rw [beL_length]; omega
  · simp [beN_length]
  · simp only [entsB, List.length_append, beN_length]
    omega
/-- What the document's loop keeps. -/
structure RTst (w wr : World) (ga : Nat) (x : RsT) (rv v : Value) (bs : List UInt8) : Prop where
  own : OwnZ wr (ga + 1) 5 v bs
  ha : wr.heap[ga]? = some (.cells (rsC x rv).toArray 60 (0, 0))
  bel : Below w.heap.size w wr
  lg : w.heap.size ≤ ga
  ls : ga < wr.heap.size
theorem RTst.next {w wr w' : World} {ga : Nat} {x : RsT} {rv v v' : Value} {bs bs' : List UInt8} (h : RTst w wr ga x rv v bs) (k : Below (ga + 1) wr w') (ho : OwnZ w' (ga + 1) 5 v' bs') : RTst w w' ga x rv v' bs' :=
  ⟨ho, (k.block ga (Nat.lt_succ_self _)).trans h.ha, h.bel.trans (k.mono (by have := h.lg; omega)), h.lg, Nat.lt_of_lt_of_le h.ls k.size⟩
end

section
set_option linter.unusedVariables false
set_option maxRecDepth 100000
open Go.RowKit

/-- The document's reader of results. -/
structure RHd (w wr : World) (gr ga g4 B0 : Nat) (st : St) (x : RsT) (rv : Value) : Prop where
  rd : Rd 177 wr gr st
  ha : wr.heap[ga]? = some (.cells (rsC x rv).toArray 60 (0, 0))
  h4 : wr.heap[g4]? = some (.cells (rsC rs0 (.slice none 0 0)).toArray 60 (0, 0))
  en : EnO wr B0 rv x.ents
  ne : gr ≠ ga ∧ gr ≠ g4 ∧ ga ≠ g4
  bel : Below w.heap.size w wr
  lb : w.heap.size ≤ gr ∧ w.heap.size ≤ ga ∧ w.heap.size ≤ g4
  b0 : gr < B0 ∧ ga < B0 ∧ g4 < B0 ∧ B0 ≤ wr.heap.size
section
variable {w wr w' : World} {gr ga g4 B0 : Nat} {st st' : St} {x x' : RsT} {rv rv' : Value}
theorem RHd.read (h : RHd w wr gr ga g4 B0 st x rv) (hr : Rd 177 w' gr st') (k : But gr wr w') : RHd w w' gr ga g4 B0 st' x rv :=
  { rd := hr, ha := (k.block ga (heap_lt h.ha) (by have := h.ne; simp; omega)).trans h.ha, h4 := (k.block g4 (heap_lt h.h4) (by have := h.ne; simp; omega)).trans h.h4, en := h.en.grown k h.b0.1, ne := h.ne, bel := h.bel.trans (k.below h.lb.1 h.bel.size), lb := h.lb, b0 := by have h1 := h.b0; have h2 := k.size; omega }
theorem RHd.ext (h : RHd w wr gr ga g4 B0 st x rv) (k : Ext wr w') : RHd w w' gr ga g4 B0 st x rv := h.read (h.rd.ext k) (But.of k)
theorem RHd.lift (h : RHd w wr gr ga g4 B0 st x rv) : ∀ b, rv.ownBlock = some b → B0 ≤ b ∧ b < wr.heap.size := fun b hb => own_lt h.en hb
theorem RHd.fill (h : RHd w wr gr ga g4 B0 st x rv) (he : x'.ents = x.ents) (hr : ∀ j : Nat, (rsC x' rv).toArray[j]? = (rsC x rv).toArray[j]? ∨ ∃ u, (rsC x rv).toArray[j]? = some u ∧ NoB' u) : RHd w (wr.setRow ga (rsC x' rv).toArray) gr ga g4 B0 st x' rv :=
  { rd := h.rd.setNB h.ne.1 h.ha hr, ha := setRow_heap _ _ _ _ _ _ h.ha, h4 := (setRow_other _ _ _ _ h.ne.2.2.symm).trans h.h4, en := by rw [he]; exact h.en.set h.ha (by decide), ne := h.ne, bel := below_setRow h.bel h.lb.2.1 _, lb := h.lb, b0 := by have := h.b0; simpa [World.setRow] using this }
theorem RHd.fillB (h : RHd w wr gr ga g4 B0 st x rv) (he : x'.ents = x.ents) (hr : ∀ j : Nat, (rsC x' rv).toArray[j]? = (rsC x rv).toArray[j]? ∨ (∃ u, (rsC x rv).toArray[j]? = some u ∧ NoB' u) ∨ ∃ y, (rsC x' rv).toArray[j]? = some (bv y)) : ∃ s', SameH st s' ∧ RHd w (wr.setRow ga (rsC x' rv).toArray) gr ga g4 B0 s' x' rv := by
  obtain ⟨s', hs, hrd⟩ := h.rd.setB h.ne.1 h.ha hr
  exact ⟨s', hs, { rd := hrd, ha := setRow_heap _ _ _ _ _ _ h.ha, h4 := (setRow_other _ _ _ _ h.ne.2.2.symm).trans h.h4, en := by rw [he]; exact h.en.set h.ha (by decide), ne := h.ne, bel := below_setRow h.bel h.lb.2.1 _, lb := h.lb, b0 := by have := h.b0; simpa [World.setRow] using this }⟩
/-- The entries are put anew. -/
theorem RHd.fillE {A : Option Addr} {n c : Nat} (h : RHd w wr gr ga g4 B0 st x rv) (hn : NoB' rv) (ho : EnO wr B0 (.slice A n c) x'.ents) (hx : (rsC x' (.slice A n c)).toArray = (rsC x rv).toArray.setIfInBounds 17 (.slice A n c)) : RHd w (wr.setRow ga (rsC x' (.slice A n c)).toArray) gr ga g4 B0 st x' (.slice A n c) :=
  { rd := h.rd.setNB h.ne.1 h.ha (by rw [hx]; exact set_nb (u := rv) rfl hn), ha := setRow_heap _ _ _ _ _ _ h.ha, h4 := (setRow_other _ _ _ _ h.ne.2.2.symm).trans h.h4, en := ho.set h.ha (by decide), ne := h.ne, bel := below_setRow h.bel h.lb.2.1 _, lb := h.lb, b0 := by have := h.b0; simpa [World.setRow] using this }
/-- A block aside is written. -/
theorem RHd.aside (h : RHd w wr gr ga g4 B0 st x rv) {g : Nat} {T : TypeId} {r r' : Array Value} (hg : wr.heap[g]? = some (.cells r T (0, 0))) (hW : w.heap.size ≤ g) (hne : g ≠ gr ∧ g ≠ ga ∧ g ≠ g4) (ho : ∀ b, rv.ownBlock = some b → b ≠ g) (hr : ∀ j : Nat, r'[j]? = r[j]? ∨ ∃ u, r[j]? = some u ∧ NoB' u) : RHd w (wr.setRow g r') gr ga g4 B0 st x rv := by
  obtain ⟨n1, n2, n3⟩ := hne
  exact { rd := h.rd.setNB n1.symm hg hr, ha := (setRow_other _ _ _ _ n2.symm).trans h.ha, h4 := (setRow_other _ _ _ _ n3.symm).trans h.h4, en := h.en.mutO (mut_setRow (S := fun i => i = g) rfl r') (fun b hb e => ho b hb e), ne := h.ne, bel := below_setRow h.bel hW _, lb := h.lb, b0 := by have := h.b0; simpa [World.setRow] using this }
theorem RHd.grown (h : RHd w wr gr ga g4 B0 st x rv) {A : Option Addr} {n c : Nat} {l : List EnT} (k : wr.grownBy w' rv.ownBlock) (ho : EnO w' B0 (.slice A n c) l) (hb : Below B0 wr w') : Rd 177 w' gr st ∧ w'.heap[ga]? = some (.cells (rsC x rv).toArray 60 (0, 0)) ∧ w'.heap[g4]? = some (.cells (rsC rs0 (.slice none 0 0)).toArray 60 (0, 0)) := by
  have hl := h.lift
  have key : ∀ (b : Nat) (o : Obj), wr.heap[b]? = some o → b < B0 → w'.heap[b]? = some o := fun b o hb hn => (k.block b (heap_lt hb) (by intro e; have := hl b e.symm; omega)).trans hb
  obtain ⟨A, c, h1, h2⟩ := h.rd
  exact ⟨⟨A, c, key _ _ h1 h.b0.1, h2.grown k (fun b o u hb hu => (h.en.nob b o u hb hu).1)⟩, key _ _ h.ha h.b0.2.1, key _ _ h.h4 h.b0.2.2.1⟩
/-- The entries are appended to. -/
theorem RHd.app (h : RHd w wr gr ga g4 B0 st x rv) {A : Option Addr} {n c : Nat} (k : wr.grownBy w' rv.ownBlock) (hn : NoB' rv) (ho : EnO w' B0 (.slice A n c) x'.ents) (hb : Below B0 wr w') (hx : (rsC x' (.slice A n c)).toArray = (rsC x rv).toArray.setIfInBounds 17 (.slice A n c)) : RHd w (w'.setRow ga (rsC x' (.slice A n c)).toArray) gr ga g4 B0 st x' (.slice A n c) := by
  obtain ⟨hr, ha, hf⟩ := h.grown k ho hb
  exact { rd := hr.setNB h.ne.1 ha (by rw [hx]; exact set_nb (u := rv) rfl hn), ha := setRow_heap _ _ _ _ _ _ ha, h4 := (setRow_other _ _ _ _ h.ne.2.2.symm).trans hf, en := ho.set ha (by decide), ne := h.ne, bel := below_setRow (h.bel.trans (hb.mono (by have h1 := h.lb; have h2 := h.b0; omega))) h.lb.2.1 _, lb := h.lb, b0 := by have h1 := h.b0; have h2 := hb.size; have h3 : (w'.setRow ga (rsC x' (.slice A n c)).toArray).heap.size = w'.heap.size := (by simp [World.setRow]); omega }
end
theorem rTell69 {p : Nat} (hp : p < 19) : ∀ k : Nat, (rTellL (p : Int))[k]? = some 69 → k = 0 := by
  have key : ∀ i : Nat, i < 19 → (rTellL (i : Int))[1]? ≠ some 69 ∧ (rTellL (i : Int))[2]? ≠ some 69 := by
    intro i hi
    have h : i = 0 ∨ i = 1 ∨ i = 2 ∨ i = 3 ∨ i = 4 ∨ i = 5 ∨ i = 6 ∨ i = 7 ∨ i = 8 ∨ i = 9 ∨ i = 10 ∨ i = 11 ∨ i = 12 ∨ i = 13 ∨ i = 14 ∨ i = 15 ∨ i = 16 ∨ i = 17 ∨ i = 18 := by omega
    rcases h with rfl | rfl | rfl | rfl | rfl | rfl | rfl | rfl | rfl | rfl | rfl | rfl | rfl | rfl | rfl | rfl | rfl | rfl | rfl <;> decide
  intro k hk
  have hl := (rTellL_mem hp).2
  have hkl := (List.getElem?_eq_some_iff.1 hk).1
  match k, hk with
  | 0, _ => rfl
  | 1, hk => exact absurd hk (key p hp).1
  | 2, hk => exact absurd hk (key p hp).2
  | k + 3, _ => omega
theorem rTell65 {p : Nat} (hp : p < 19) : ∀ k : Nat, (rTellL (p : Int))[k]? = some 65 → k + 1 = (rTellL (p : Int)).length := by
  have key : ∀ i : Nat, i < 19 → ((rTellL (i : Int))[0]? = some 65 → 1 = (rTellL (i : Int)).length) ∧ ((rTellL (i : Int))[1]? = some 65 → 2 = (rTellL (i : Int)).length) ∧ ((rTellL (i : Int))[2]? = some 65 → 3 = (rTellL (i : Int)).length) := by
    intro i hi
    have h : i = 0 ∨ i = 1 ∨ i = 2 ∨ i = 3 ∨ i = 4 ∨ i = 5 ∨ i = 6 ∨ i = 7 ∨ i = 8 ∨ i = 9 ∨ i = 10 ∨ i = 11 ∨ i = 12 ∨ i = 13 ∨ i = 14 ∨ i = 15 ∨ i = 16 ∨ i = 17 ∨ i = 18 := by omega
    rcases h with rfl | rfl | rfl | rfl | rfl | rfl | rfl | rfl | rfl | rfl | rfl | rfl | rfl | rfl | rfl | rfl | rfl | rfl | rfl <;> decide
  intro k hk
  have hl := (rTellL_mem hp).2
  have hkl := (List.getElem?_eq_some_iff.1 hk).1
  match k, hk with
  | 0, hk => exact (key p hp).1 hk
  | 1, hk => exact (key p hp).2.1 hk
  | 2, hk => exact (key p hp).2.2 hk
  | k + 3, _ => omega
end

section
set_option linter.unusedVariables false
set_option maxRecDepth 100000
open Go.RowKit

theorem wpList_ldwR {P : Program} {ops : Array Oper} {rest : List Oper} {o : Oper} {a : Act} {w : World} {Q : Exit → Act → World → Prop} (ty : TypeId) (x : Operand) (ho : o.op = .load ty x) (hg : Region.wanted o (yielded ops a.tmps) = true) {v : Value} (hr : (Instr.loadAt ty (a.eval x)).run P w = .ok v w)
    (h : wpList P ops Q rest (a.put o.dst v) w) : wpList P ops Q (o :: rest) a w := by
  unfold wpList
  rw [if_pos hg]
  refine .inl ?_
  unfold Oper.wp execOp
  simp only [ho, Sem.run_bind, hr, Result.andThen_ok, Sem.run_pure]
  exact h
set_option maxHeartbeats 16000000 in
theorem rHear_any (p : Int) (s : List UInt8) (w : World) (hp : I64 p) (hs : s.length ≤ 20000) :
    Calls Tryz.prog 45 #[.int .i64 p, .string (str s)] w (HearP w (rH p s)) := by
  obtain ⟨R, hR⟩ : ∃ R, rH p s = R := ⟨_, rfl⟩
  rw [hR]
  have h4 : (w.alloc (.cells (rsC rs0 (.slice none 0 0)).toArray 60)).heap[w.heap.size]? = some (.cells (rsC rs0 (.slice none 0 0)).toArray 60 (0, 0)) := heap_alloc_last w _
  have hx4 := extAl w (.cells (rsC rs0 (.slice none 0 0)).toArray 60)
  have hw4 : w.alloc (.cells (rsC rs0 (.slice none 0 0)).toArray 60) = w.alloc (.cells #[.int .i64 0, .int .i64 0, .int .i64 0, .int .i64 0, .int .u8 0, .int .i64 0, .int .i64 0, .int .i64 0, .int .i64 0, .int .i64 0, .int .i64 0, .int .i64 0, .string ⟨#[]⟩, .int .i64 0, .int .i64 0, .int .u64 0, .bool false, .slice none 0 0, .int .u64 0] 60) := rfl
  have H4 := Lib.hid h4
  have HX4 := Lib.hid hx4
  have HW4 := Lib.hid hw4
  obtain ⟨g4, hg4⟩ : ∃ g4, w.heap.size = g4 := ⟨_, rfl⟩
  have HG4 := Lib.hid hg4
  rw [hg4] at H4
  clear h4 hx4 hw4
  by_cases hb : p < 0 ∨ 19 ≤ p
  · have hR0 : R = (rs0, 62) := by rw [← hR]; unfold rH; exact if_pos hb
    subst hR0
    have HS := Lib.hid (storeRsZ H4.out)
    have HFI := Lib.hid (setRow_heap _ g4 _ (rsC rs0 (.slice none 0 0)).toArray _ _ H4.out)
    have HB : Hid (Below w.heap.size w ((w.alloc (.cells (rsC rs0 (.slice none 0 0)).toArray 60)).setRow g4 (rsC rs0 (.slice none 0 0)).toArray)) := Lib.hid (below_setRow HX4.out (by rw [hg4]; exact Nat.le_refl _) _)
    clear hR
    rcases hb with hb | hb
    · go_enter Tryz.func45, Tryz.ntmps45
      go_upto_region 1 with fail
      rw [← HW4.out]
      generalize w.alloc (.cells (rsC rs0 (.slice none 0 0)).toArray 60) = W1 at *
      clear hg4
      go_wp2_with (refine wpList_st rfl 60 (.tmp 4) (.tmp 20) rfl HS.out ?_; simp only [Act.put])
      (try simp only [Exit.inBlock, Exit.then])
      exact bodyPost_ret (results_ct Tryz.results45 _ _ _ _ _ _ _ rfl HFI.out Tryz.underlying60 rfl (by kernel_rfl)) rfl ⟨.slice none 0 0, rfl, OwnR.nil, HB.out⟩
    · have hb0 : ¬ p < 0 := by omega
      go_enter Tryz.func45, Tryz.ntmps45
      go_upto_region 1 with fail
      rw [← HW4.out]
      generalize w.alloc (.cells (rsC rs0 (.slice none 0 0)).toArray 60) = W1 at *
      clear hg4
      go_wp2_with (refine wpList_st rfl 60 (.tmp 4) (.tmp 20) rfl HS.out ?_; simp only [Act.put])
      (try simp only [Exit.inBlock, Exit.then])
      exact bodyPost_ret (results_ct Tryz.results45 _ _ _ _ _ _ _ rfl HFI.out Tryz.underlying60 rfl (by kernel_rfl)) rfl ⟨.slice none 0 0, rfl, OwnR.nil, HB.out⟩
  obtain ⟨q, rfl⟩ : ∃ q : Nat, p = q := ⟨p.toNat, by omega⟩
  have hq : q < 19 := by omega
  have hq' : (q : Int) < 19 := by omega
  have HR1 : Hid (finH q (rAllT (tellL q (rdW (some s)).1) (rdW (some s)).2 true { rs0 with e := (rdW (some s)).1 }) = R) := Lib.hid (by rw [← hR]; unfold rH; exact (if_neg hb).symm)
  have KA := Lib.hid (fun w : World => rTellL_any q hq w)
  have hbw := rdW_bd (some s)
  have hlw := rdW_len (some s)
  obtain ⟨kw, hkw⟩ : ∃ kw, (rdW (some s)).1 = kw := ⟨_, rfl⟩
  obtain ⟨s1, hs1⟩ : ∃ s1, (rdW (some s)).2 = s1 := ⟨_, rfl⟩
  rw [hkw, hs1] at HR1
  rw [hkw] at hbw
  rw [hs1] at hlw
  have HLW : Hid (s1.l.length ≤ 20000) := Lib.hid (Nat.le_trans hlw hs)
  have HBW := Lib.hid hbw
  have hLm := (rTellL_mem hq).1
  have hLl := (rTellL_mem hq).2
  have H69 := Lib.hid (rTell69 hq)
  have H65 := Lib.hid (rTell65 hq)
  clear hR hb hlw
  go_enter Tryz.func45, Tryz.ntmps45
  go_upto_region 3 with fail
  rw [← HW4.out]
  clear hg4 HW4
  generalize w.alloc (.cells (rsC rs0 (.slice none 0 0)).toArray 60) = W1 at *
  obtain ⟨cv, W2, hcv, hrs2, hx2⟩ := conv_str W1 s
  have KN := Lib.hid (rnewReader_any cv s W2 hrs2 (by omega))
  obtain ⟨A2, c2, rfl⟩ := hrs2.form
  have HX2 := Lib.hid hx2
  clear hrs2 hx2
  go_wp2_with fail
  refine KN.out.mono ?_
  rintro e W3 ⟨gr, rfl, r3, hgr, k3⟩
  have hs1' := heap_lt H4.out
  have hgr1 : W1.heap.size ≤ gr := Nat.le_trans (Below.size HX2.out) hgr
  have KW := rword_any gr (some s) W3 r3
  rw [hkw, hs1] at KW
  have HKW := Lib.hid KW
  have H43 := Lib.hid (Ext.blk (Ext.trans HX2.out k3) H4.out)
  have HX3 := Lib.hid (Ext.trans HX4.out (Ext.trans HX2.out k3))
  have HNN : Hid (g4 < gr ∧ gr < W3.heap.size ∧ w.heap.size = g4) := Lib.hid (by have := r3.lt; have := HG4.out; omega)
  clear KW r3 hgr k3 hs1' hgr1 HX2 H4 HX4 HG4 KN hcv hkw hs1
  go_wp2_with fail
  refine HKW.out.mono ?_
  rintro e W4 ⟨rfl, r4, k4⟩
  have hx5 := extAl W4 (.cells (rsC { rs0 with e := kw } (.slice none 0 0)).toArray 60)
  have ha5 := heap_alloc_last W4 (.cells (rsC { rs0 with e := kw } (.slice none 0 0)).toArray 60)
  have h44 := (k4.block g4 (heap_lt H43.out) (by have := HNN.out; simp; omega)).trans H43.out
  have hsz4 := k4.size
  have HST : Hid (RHd w (W4.alloc (.cells (rsC { rs0 with e := kw } (.slice none 0 0)).toArray 60)) gr W4.heap.size g4 (W4.heap.size + 1) s1 { rs0 with e := kw } (.slice none 0 0)) := Lib.hid
    { rd := r4.ext hx5, ha := ha5, h4 := Ext.blk hx5 h44, en := OwnR.nil, ne := (by have := HNN.out; omega), bel := Below.trans HX3.out (Below.trans (k4.below (by have := HNN.out; omega) (Below.size HX3.out)) (hx5.mono (by have := Below.size HX3.out; omega))), lb := (by have := HNN.out; omega), b0 := (by have := HNN.out; simp; omega) }
  have HNW := Lib.hid (new_rsE W4 kw)
  clear hx5 ha5 h44 hsz4 r4 k4 H43 HX3 HKW
  go_wp2_with (refine wpList_st rfl 60 (.tmp 7) (.tmp 27) rfl HNW.out ?_; simp only [Act.put]; clear HNW)
  generalize W4.alloc (.cells (rsC { rs0 with e := kw } (.slice none 0 0)).toArray 60) = W5 at *
  obtain ⟨B0, hB0⟩ : ∃ B0, W4.heap.size + 1 = B0 := ⟨_, rfl⟩
  rw [hB0] at HST
  clear hB0
  generalize W4.heap.size = ga at *
  refine (KA.out _).mono ?_
  rintro e w6 ⟨rfl, h6⟩
  have HS6 := Lib.hid (HST.out.ext h6)
  have HK0 : Hid (RsT.Okw { rs0 with e := kw }) := Lib.hid ⟨⟨i64_zero, i64_zero, i64_zero⟩, ⟨⟨Int.le_refl _, (by show (0 : Int) ≤ 255; decide)⟩, i64_zero, i64_zero, i64_zero, i64_zero, i64_zero, i64_zero, i64_zero⟩, Nat.zero_le _, i64_zero, i64_zero, ⟨Int.le_refl _, (by show (0 : Int) ≤ 18446744073709551615; decide)⟩, ⟨Int.le_refl _, (by show (0 : Int) ≤ 18446744073709551615; decide)⟩, (fun y hy => by cases hy), Nat.zero_le _⟩
  clear HST h6 KA
  have hsz := str_size (rTellL (q : Int))
  by_cases he0 : kw = 0
  · have HR2 : Hid (finH q (rAllT (rTellL (q : Int)) s1 true { rs0 with e := kw }) = R) := Lib.hid (by rw [← HR1.out]; unfold tellL; rw [if_pos he0])
    have HE0 := Lib.hid he0
    have HLM := Lib.hid hLm
    have HQ := Lib.hid hq
    clear he0 hLm HR1 hbw
    generalize rTellL (q : Int) = L at *
    go_upto_region 8 with fail
    go_loopw [9, 10, 11, 12, 13] (fun okv iv _ _ _ wr => ∃ (k : Nat) (st st' : St) (ok : Bool) (x : RsT) (rv : Value), k ≤ L.length ∧ iv = .int .i64 k ∧ Hid (okv = .bool ok) ∧ Hid (RHd w wr gr ga g4 B0 st' x rv) ∧ Hid (finH q (rAllT (L.drop k) st ok x) = R) ∧ Hid (st.l.length ≤ 20000) ∧ Hid (SameH st st' ∧ (k < L.length → st' = st)) ∧ Hid x.Okw ∧ Hid (k = 0 → x.ents = []) ∧ Hid (x.e = 0)) (fun _ iv _ _ _ _ => L.length - (intOf iv).toNat)
    case atStart => exact ⟨0, s1, s1, true, _, _, Nat.zero_le _, rfl, Lib.hid rfl, HS6, HR2, HLW, Lib.hid ⟨SameH.refl _, fun _ => rfl⟩, HK0, Lib.hid (fun _ => rfl), HE0⟩
    case round =>
      obtain ⟨k, st, st', ok, x, rv, hk, rfl, HOK, HRS, HF, HO, HSM, HK, HEN0, HX0⟩ := hrel
      clear HS6 HR2 HK0
      have c0 : wr.cell? ⟨ga, 0, none⟩ = some (.int .i64 0) := by rw [cell_of_row _ _ _ _ _ _ HRS.out.ha, ← HX0.out]; rfl
      have gal := heap_lt HRS.out.ha
      obtain ⟨wo, rfl⟩ : ∃ wo : World, wo = wr := ⟨_, rfl⟩
      by_cases hkl : k < L.length
      · obtain ⟨y, hy⟩ : ∃ y, L[k]? = some y := ⟨_, List.getElem?_eq_getElem hkl⟩
        obtain rfl : st = st' := (HSM.out.2 hkl).symm
        have hym := HLM.out y (List.mem_of_getElem? hy)
        have H69k : Hid (y = 69 → k = 0) := Lib.hid (fun e => H69.out k (by rw [hy, e]))
        have H65k : Hid (y = 65 → k + 1 = L.length) := Lib.hid (fun e => H65.out k (by rw [hy, e]))
        have hks : k < (str L).size := by omega
        have hget : ((((str L)[k]).toNat : Nat) : Int) = (y.toNat : Nat) := by rw [str_get, (List.getElem?_eq_some_iff.1 hy).2]
        have hdr : L.drop k = y :: L.drop (k + 1) := by
          rw [List.drop_eq_getElem_cons hkl]
          congr 1
          exact (List.getElem?_eq_some_iff.1 hy).2
        have HF2 : Hid (finH q (rAllT (L.drop (k + 1)) (gtD y st ok x).1 (gtD y st ok x).2.1 (gtD y st ok x).2.2) = R) := Lib.hid (by rw [← HF.out, hdr]; rfl)
        have HL2 : Hid ((gtD y st ok x).1.l.length ≤ 20000) := Lib.hid (Nat.le_trans (gtD_len _ _ _ _) HO.out)
        have HK2 : Hid ((gtD y st ok x).2.2.Okw) := Lib.hid (gtD_okw st ok HK.out)
        have hstl := HO.out
        have hrv : NoB' rv := by obtain ⟨A, c, e⟩ := HRS.out.en.form; rw [e]; exact nb_slice _ _ _
        have HRV := Lib.hid hrv
        clear hy hdr HF HO HK HSM hrv
        simp only [lettersRT, List.mem_cons, List.not_mem_nil, or_false] at hym
        rcases hym with rfl | rfl | rfl | rfl | rfl | rfl | rfl | rfl | rfl
        · as_aux_lemma =>
            have hget : ((((str L)[k]).toNat : Nat) : Int) = 72 := hget
            obtain ⟨D, hD⟩ : ∃ D, dec (rdX st 24).1 = D := ⟨_, rfl⟩
            have HG : Hid (gtD 72 st ok x = ((rdX st 24).2, D.isSome, { x with h := D.getD (0, 0, 0) })) := Lib.hid (by rw [← hD]; rfl)
            have KE := rHandleR_any gr st wo HRS.out.rd (by omega)
            rw [hD] at KE
            obtain ⟨y, hy⟩ : ∃ y, D.getD (0, 0, 0) = y := ⟨_, rfl⟩
            obtain ⟨n, hn⟩ : ∃ n, D.isSome = n := ⟨_, rfl⟩
            rw [hy, hn] at HG KE
            have HKE := Lib.hid KE
            rw [HG.out] at HF2 HL2 HK2
            clear KE hD hy hn HG
            unfold hvT at HKE
            cases n <;> as_aux_lemma =>
              go_wp2_with fail
              refine HKE.out.mono ?_
              rintro e w4 ⟨rfl, r4, k4⟩
              have H4 := Lib.hid (HRS.out.read r4 k4)
              have hga := H4.out.ha
              have fa : ∀ o, w4.frozen? ⟨ga, o, none⟩ = false := fun o => by simp [World.frozen?, hga]
              obtain ⟨c0, c1, c2⟩ := row3 (o := 1) hga (x := .int .i64 x.h.1) (y := .int .i64 x.h.2.1) (z := .int .i64 x.h.2.2) rfl rfl rfl
              have lga := heap_lt hga
              have ST := set3r (o := 1) (x := .int .i64 y.1) (y := .int .i64 y.2.1) (z := .int .i64 y.2.2) hga
              simp only [Nat.reduceAdd] at ST
              have HFI := Lib.hid (H4.out.fill (x' := { x with h := y }) rfl (fun j => by
                by_cases e0 : j = 1
                · subst e0; exact .inr ⟨.int .i64 x.h.1, rfl, nb_i64 _⟩
                · by_cases e1 : j = 2
                  · subst e1; exact .inr ⟨.int .i64 x.h.2.1, rfl, nb_i64 _⟩
                  · by_cases e2 : j = 3
                    · subst e2; exact .inr ⟨.int .i64 x.h.2.2, rfl, nb_i64 _⟩
                    · left
                      have : (rsC { x with h := y } rv).toArray = (((rsC x rv).toArray.setIfInBounds 1 (.int .i64 y.1)).setIfInBounds 2 (.int .i64 y.2.1)).setIfInBounds 3 (.int .i64 y.2.2) := rfl
                      rw [this, Array.getElem?_setIfInBounds_ne (fun h => e2 h.symm), Array.getElem?_setIfInBounds_ne (fun h => e1 h.symm), Array.getElem?_setIfInBounds_ne (fun h => e0 h.symm)]))
              have HST2 : Hid (((w4.setCell ⟨ga, 1, none⟩ (.int .i64 y.1)).setCell ⟨ga, 2, none⟩ (.int .i64 y.2.1)).setCell ⟨ga, 3, none⟩ (.int .i64 y.2.2) = w4.setRow ga (rsC { x with h := y } rv).toArray) := Lib.hid ST
              clear hga ST HKE r4 k4 HRS
              go_wp2_with fail
              rw [HST2.out]
              go_roundw
              case rel => exact ⟨k + 1, _, _, _, _, rv, by omega, by go_num, Lib.hid rfl, HFI, HF2, HL2, Lib.hid ⟨SameH.refl _, fun _ => rfl⟩, HK2, Lib.hid (fun h => absurd h (by omega)), HX0⟩
              case measure => simp only [intOf]; omega
        ·
            have hget : ((((str L)[k]).toNat : Nat) : Int) = 65 := hget
            have HKL := Lib.hid (H65k.out rfl)
            have KE := rAttrR_any gr st wo HRS.out.rd
            obtain ⟨D, hD⟩ : ∃ D, (rdAtD st).2 = D := ⟨_, rfl⟩
            have HG : Hid (gtD 65 st ok x = ((rdAtD st).1, ok, { x with at_ := D })) := Lib.hid (by rw [← hD]; rfl)
            rw [hD] at KE
            rw [atV_lit0] at KE
            have HKE := Lib.hid KE
            rw [HG.out] at HF2 HL2 HK2
            clear KE hD HG
            go_wp2_with fail
            refine HKE.out.mono ?_
            rintro e w4 ⟨rfl, ⟨s', hs', r4⟩, k4⟩
            have H4 := Lib.hid (HRS.out.read r4 k4)
            have HS' := Lib.hid hs'
            have hga := H4.out.ha
            have fa : ∀ o, w4.frozen? ⟨ga, o, none⟩ = false := fun o => by simp [World.frozen?, hga]
            have d4 : w4.cell? ⟨ga, 4, none⟩ = some (.int .u8 x.at_.kind) := by rw [cell_of_row _ _ _ _ _ _ hga]; rfl
            have d5 : w4.cell? ⟨ga, 5, none⟩ = some (.int .i64 x.at_.mode) := by rw [cell_of_row _ _ _ _ _ _ hga]; rfl
            have d6 : w4.cell? ⟨ga, 6, none⟩ = some (.int .i64 x.at_.links) := by rw [cell_of_row _ _ _ _ _ _ hga]; rfl
            have d7 : w4.cell? ⟨ga, 7, none⟩ = some (.int .i64 x.at_.size) := by rw [cell_of_row _ _ _ _ _ _ hga]; rfl
            have d8 : w4.cell? ⟨ga, 8, none⟩ = some (.int .i64 x.at_.mtime) := by rw [cell_of_row _ _ _ _ _ _ hga]; rfl
            have d9 : w4.cell? ⟨ga, 9, none⟩ = some (.int .i64 x.at_.ctime) := by rw [cell_of_row _ _ _ _ _ _ hga]; rfl
            have d10 : w4.cell? ⟨ga, 10, none⟩ = some (.int .i64 x.at_.ino) := by rw [cell_of_row _ _ _ _ _ _ hga]; rfl
            have d11 : w4.cell? ⟨ga, 11, none⟩ = some (.int .i64 x.at_.gen) := by rw [cell_of_row _ _ _ _ _ _ hga]; rfl
            have lga := heap_lt hga
            have S8 := setC8 (o := 4) (x0 := .int .u8 D.kind) (x1 := .int .i64 D.mode) (x2 := .int .i64 D.links) (x3 := .int .i64 D.size) (x4 := .int .i64 D.mtime) (x5 := .int .i64 D.ctime) (x6 := .int .i64 D.ino) (x7 := .int .i64 D.gen) hga
            simp only [Nat.reduceAdd] at S8
            rw [← rs_at8] at S8
            have HS8 := Lib.hid S8
            have hf := H4.out.fillB (x' := { x with at_ := D }) rfl (fun j => by
              by_cases hj : 4 ≤ j ∧ j ≤ 11
              · have h8 : j = 4 ∨ j = 5 ∨ j = 6 ∨ j = 7 ∨ j = 8 ∨ j = 9 ∨ j = 10 ∨ j = 11 := by omega
                rcases h8 with rfl | rfl | rfl | rfl | rfl | rfl | rfl | rfl
                · exact .inr (.inr (by obtain ⟨y, hy⟩ := kind_bv HK2.out.at_.kind; exact ⟨y, by rw [← hy]; rfl⟩))
                · exact .inr (.inl ⟨.int .i64 x.at_.mode, rfl, nb_i64 _⟩)
                · exact .inr (.inl ⟨.int .i64 x.at_.links, rfl, nb_i64 _⟩)
                · exact .inr (.inl ⟨.int .i64 x.at_.size, rfl, nb_i64 _⟩)
                · exact .inr (.inl ⟨.int .i64 x.at_.mtime, rfl, nb_i64 _⟩)
                · exact .inr (.inl ⟨.int .i64 x.at_.ctime, rfl, nb_i64 _⟩)
                · exact .inr (.inl ⟨.int .i64 x.at_.ino, rfl, nb_i64 _⟩)
                · exact .inr (.inl ⟨.int .i64 x.at_.gen, rfl, nb_i64 _⟩)
              · exact .inl (rs_at8_ne x rv D j hj))
            obtain ⟨s2, hs2, hf⟩ := hf
            have HFI := Lib.hid hf
            have HSS := Lib.hid (hs'.trans hs2)
            clear hga S8 hf hs2 hs' HKE r4 k4 HRS
            go_upto_region 9 with fail
            rw [HS8.out]
            clear d4 d5 d6 d7 d8 d9 d10 d11 fa HS8
            generalize w4.setRow ga (rsC { x with at_ := D } rv).toArray = w5 at *
            go_wp2_with fail
            go_roundw
            case rel => exact ⟨k + 1, _, s2, ok, _, rv, by omega, by go_num, HOK, HFI, HF2, HL2, Lib.hid ⟨HSS.out, fun h => absurd h (by have := HKL.out; omega)⟩, HK2, Lib.hid (fun h => absurd h (by omega)), HX0⟩
            case measure => simp only [intOf]; omega
        ·
          as_aux_lemma =>
            have hget : ((((str L)[k]).toNat : Nat) : Int) = 116 := hget
            have KE := rtext_any gr st 2048 wo HRS.out.rd (by omega)
            have HG : Hid (gtD 116 st ok x = (((rdT st 2048).2), ok, { x with text := (rdT st 2048).1 })) := Lib.hid rfl
            obtain ⟨N, hN⟩ : ∃ N, (str (rdT st 2048).1) = N := ⟨_, rfl⟩
            obtain ⟨s', hs'⟩ : ∃ s' : St, ((rdT st 2048).2) = s' := ⟨_, rfl⟩
            obtain ⟨xx, hxx⟩ : ∃ xx : RsT, ({ x with text := (rdT st 2048).1 }) = xx := ⟨_, rfl⟩
            have HROW : Hid ((rsC x rv).toArray.setIfInBounds 12 (.string N) = (rsC xx rv).toArray) := Lib.hid (by rw [← hN, ← hxx]; rfl)
            have hen : xx.ents = x.ents := by rw [← hxx]
            have HEN := Lib.hid hen
            have HXE : Hid (xx.e = 0) := Lib.hid (by rw [← hxx]; exact HX0.out)
            rw [hN, hs'] at KE
            rw [hs', hxx] at HG
            rw [HG.out] at HF2 HL2 HK2
            have HKE := Lib.hid KE
            clear hN hs' hxx KE hen
            go_wp2_with fail
            refine HKE.out.mono ?_
            rintro e w4 ⟨rfl, r4, k4⟩
            have H4 := Lib.hid (HRS.out.read r4 k4)
            have hga := H4.out.ha
            have fa : w4.frozen? ⟨ga, 12, none⟩ = false := by simp [World.frozen?, hga]
            obtain ⟨u, hu, hun⟩ : ∃ u, (rsC x rv).toArray[12]? = some u ∧ NoB' u := ⟨_, rfl, (nb_str _)⟩
            have ca : w4.cell? ⟨ga, 12, none⟩ = some u := by rw [cell_of_row _ _ _ _ _ _ hga]; exact hu
            have lga := heap_lt hga
            have ST := Lib.hid (setCell_eq_setRow w4 ga 12 _ 60 (0, 0) (.string N) hga)
            have H5 := Lib.hid (H4.out.fill (x' := xx) HEN.out (by rw [← HROW.out]; exact set_nb hu hun))
            clear hga hu HKE r4 k4 HRS
            go_wp2_with fail
            rw [ST.out, HROW.out]
            go_roundw
            case rel => exact ⟨k + 1, s', s', ok, xx, rv, by omega, by go_num, HOK, H5, HF2, HL2, Lib.hid ⟨SameH.refl _, fun _ => rfl⟩, HK2, Lib.hid (fun h => absurd h (by omega)), HXE⟩
            case measure => simp only [intOf]; omega
        ·
          as_aux_lemma =>
            have hget : ((((str L)[k]).toNat : Nat) : Int) = 78 := hget
            have KE := rint_any gr st wo HRS.out.rd
            have HG : Hid (gtD 78 st ok x = (((rdL st).2), ok, { x with n := wrap64 (rdL st).1 })) := Lib.hid rfl
            obtain ⟨N, hN⟩ : ∃ N, (wrap64 (rdL st).1) = N := ⟨_, rfl⟩
            obtain ⟨s', hs'⟩ : ∃ s' : St, ((rdL st).2) = s' := ⟨_, rfl⟩
            obtain ⟨xx, hxx⟩ : ∃ xx : RsT, ({ x with n := wrap64 (rdL st).1 }) = xx := ⟨_, rfl⟩
            have HROW : Hid ((rsC x rv).toArray.setIfInBounds 13 (.int .i64 N) = (rsC xx rv).toArray) := Lib.hid (by rw [← hN, ← hxx]; rfl)
            have hen : xx.ents = x.ents := by rw [← hxx]
            have HEN := Lib.hid hen
            have HXE : Hid (xx.e = 0) := Lib.hid (by rw [← hxx]; exact HX0.out)
            rw [hN, hs'] at KE
            rw [hs', hxx] at HG
            rw [HG.out] at HF2 HL2 HK2
            have HKE := Lib.hid KE
            clear hN hs' hxx KE hen
            go_wp2_with fail
            refine HKE.out.mono ?_
            rintro e w4 ⟨rfl, r4, k4⟩
            have H4 := Lib.hid (HRS.out.read r4 k4)
            have hga := H4.out.ha
            have fa : w4.frozen? ⟨ga, 13, none⟩ = false := by simp [World.frozen?, hga]
            obtain ⟨u, hu, hun⟩ : ∃ u, (rsC x rv).toArray[13]? = some u ∧ NoB' u := ⟨_, rfl, (nb_i64 _)⟩
            have ca : w4.cell? ⟨ga, 13, none⟩ = some u := by rw [cell_of_row _ _ _ _ _ _ hga]; exact hu
            have lga := heap_lt hga
            have ST := Lib.hid (setCell_eq_setRow w4 ga 13 _ 60 (0, 0) (.int .i64 N) hga)
            have H5 := Lib.hid (H4.out.fill (x' := xx) HEN.out (by rw [← HROW.out]; exact set_nb hu hun))
            clear hga hu HKE r4 k4 HRS
            go_wp2_with fail
            rw [ST.out, HROW.out]
            go_roundw
            case rel => exact ⟨k + 1, s', s', ok, xx, rv, by omega, by go_num, HOK, H5, HF2, HL2, Lib.hid ⟨SameH.refl _, fun _ => rfl⟩, HK2, Lib.hid (fun h => absurd h (by omega)), HXE⟩
            case measure => simp only [intOf]; omega
        ·
          as_aux_lemma =>
            have hget : ((((str L)[k]).toNat : Nat) : Int) = 102 := hget
            have KE := rint_any gr st wo HRS.out.rd
            have HG : Hid (gtD 102 st ok x = (((rdL st).2), ok, { x with free := wrap64 (rdL st).1 })) := Lib.hid rfl
            obtain ⟨N, hN⟩ : ∃ N, (wrap64 (rdL st).1) = N := ⟨_, rfl⟩
            obtain ⟨s', hs'⟩ : ∃ s' : St, ((rdL st).2) = s' := ⟨_, rfl⟩
            obtain ⟨xx, hxx⟩ : ∃ xx : RsT, ({ x with free := wrap64 (rdL st).1 }) = xx := ⟨_, rfl⟩
            have HROW : Hid ((rsC x rv).toArray.setIfInBounds 14 (.int .i64 N) = (rsC xx rv).toArray) := Lib.hid (by rw [← hN, ← hxx]; rfl)
            have hen : xx.ents = x.ents := by rw [← hxx]
            have HEN := Lib.hid hen
            have HXE : Hid (xx.e = 0) := Lib.hid (by rw [← hxx]; exact HX0.out)
            rw [hN, hs'] at KE
            rw [hs', hxx] at HG
            rw [HG.out] at HF2 HL2 HK2
            have HKE := Lib.hid KE
            clear hN hs' hxx KE hen
            go_wp2_with fail
            refine HKE.out.mono ?_
            rintro e w4 ⟨rfl, r4, k4⟩
            have H4 := Lib.hid (HRS.out.read r4 k4)
            have hga := H4.out.ha
            have fa : w4.frozen? ⟨ga, 14, none⟩ = false := by simp [World.frozen?, hga]
            obtain ⟨u, hu, hun⟩ : ∃ u, (rsC x rv).toArray[14]? = some u ∧ NoB' u := ⟨_, rfl, (nb_i64 _)⟩
            have ca : w4.cell? ⟨ga, 14, none⟩ = some u := by rw [cell_of_row _ _ _ _ _ _ hga]; exact hu
            have lga := heap_lt hga
            have ST := Lib.hid (setCell_eq_setRow w4 ga 14 _ 60 (0, 0) (.int .i64 N) hga)
            have H5 := Lib.hid (H4.out.fill (x' := xx) HEN.out (by rw [← HROW.out]; exact set_nb hu hun))
            clear hga hu HKE r4 k4 HRS
            go_wp2_with fail
            rw [ST.out, HROW.out]
            go_roundw
            case rel => exact ⟨k + 1, s', s', ok, xx, rv, by omega, by go_num, HOK, H5, HF2, HL2, Lib.hid ⟨SameH.refl _, fun _ => rfl⟩, HK2, Lib.hid (fun h => absurd h (by omega)), HXE⟩
            case measure => simp only [intOf]; omega
        ·
          as_aux_lemma =>
            have hget : ((((str L)[k]).toNat : Nat) : Int) = 117 := hget
            have KE := rlong_any gr st wo HRS.out.rd
            have HG : Hid (gtD 117 st ok x = (((rdL st).2), ok, { x with used := (rdL st).1 })) := Lib.hid rfl
            obtain ⟨N, hN⟩ : ∃ N, ((rdL st).1) = N := ⟨_, rfl⟩
            obtain ⟨s', hs'⟩ : ∃ s' : St, ((rdL st).2) = s' := ⟨_, rfl⟩
            obtain ⟨xx, hxx⟩ : ∃ xx : RsT, ({ x with used := (rdL st).1 }) = xx := ⟨_, rfl⟩
            have HROW : Hid ((rsC x rv).toArray.setIfInBounds 15 (.int .u64 N) = (rsC xx rv).toArray) := Lib.hid (by rw [← hN, ← hxx]; rfl)
            have hen : xx.ents = x.ents := by rw [← hxx]
            have HEN := Lib.hid hen
            have HXE : Hid (xx.e = 0) := Lib.hid (by rw [← hxx]; exact HX0.out)
            rw [hN, hs'] at KE
            rw [hs', hxx] at HG
            rw [HG.out] at HF2 HL2 HK2
            have HKE := Lib.hid KE
            clear hN hs' hxx KE hen
            go_wp2_with fail
            refine HKE.out.mono ?_
            rintro e w4 ⟨rfl, r4, k4⟩
            have H4 := Lib.hid (HRS.out.read r4 k4)
            have hga := H4.out.ha
            have fa : w4.frozen? ⟨ga, 15, none⟩ = false := by simp [World.frozen?, hga]
            obtain ⟨u, hu, hun⟩ : ∃ u, (rsC x rv).toArray[15]? = some u ∧ NoB' u := ⟨_, rfl, (nb_u64 _)⟩
            have ca : w4.cell? ⟨ga, 15, none⟩ = some u := by rw [cell_of_row _ _ _ _ _ _ hga]; exact hu
            have lga := heap_lt hga
            have ST := Lib.hid (setCell_eq_setRow w4 ga 15 _ 60 (0, 0) (.int .u64 N) hga)
            have H5 := Lib.hid (H4.out.fill (x' := xx) HEN.out (by rw [← HROW.out]; exact set_nb hu hun))
            clear hga hu HKE r4 k4 HRS
            go_wp2_with fail
            rw [ST.out, HROW.out]
            go_roundw
            case rel => exact ⟨k + 1, s', s', ok, xx, rv, by omega, by go_num, HOK, H5, HF2, HL2, Lib.hid ⟨SameH.refl _, fun _ => rfl⟩, HK2, Lib.hid (fun h => absurd h (by omega)), HXE⟩
            case measure => simp only [intOf]; omega
        ·
          as_aux_lemma =>
            have hget : ((((str L)[k]).toNat : Nat) : Int) = 118 := hget
            have KE := rlong_any gr st wo HRS.out.rd
            have HG : Hid (gtD 118 st ok x = (((rdL st).2), ok, { x with verf := (rdL st).1 })) := Lib.hid rfl
            obtain ⟨N, hN⟩ : ∃ N, ((rdL st).1) = N := ⟨_, rfl⟩
            obtain ⟨s', hs'⟩ : ∃ s' : St, ((rdL st).2) = s' := ⟨_, rfl⟩
            obtain ⟨xx, hxx⟩ : ∃ xx : RsT, ({ x with verf := (rdL st).1 }) = xx := ⟨_, rfl⟩
            have HROW : Hid ((rsC x rv).toArray.setIfInBounds 18 (.int .u64 N) = (rsC xx rv).toArray) := Lib.hid (by rw [← hN, ← hxx]; rfl)
            have hen : xx.ents = x.ents := by rw [← hxx]
            have HEN := Lib.hid hen
            have HXE : Hid (xx.e = 0) := Lib.hid (by rw [← hxx]; exact HX0.out)
            rw [hN, hs'] at KE
            rw [hs', hxx] at HG
            rw [HG.out] at HF2 HL2 HK2
            have HKE := Lib.hid KE
            clear hN hs' hxx KE hen
            go_wp2_with fail
            refine HKE.out.mono ?_
            rintro e w4 ⟨rfl, r4, k4⟩
            have H4 := Lib.hid (HRS.out.read r4 k4)
            have hga := H4.out.ha
            have fa : w4.frozen? ⟨ga, 18, none⟩ = false := by simp [World.frozen?, hga]
            obtain ⟨u, hu, hun⟩ : ∃ u, (rsC x rv).toArray[18]? = some u ∧ NoB' u := ⟨_, rfl, (nb_u64 _)⟩
            have ca : w4.cell? ⟨ga, 18, none⟩ = some u := by rw [cell_of_row _ _ _ _ _ _ hga]; exact hu
            have lga := heap_lt hga
            have ST := Lib.hid (setCell_eq_setRow w4 ga 18 _ 60 (0, 0) (.int .u64 N) hga)
            have H5 := Lib.hid (H4.out.fill (x' := xx) HEN.out (by rw [← HROW.out]; exact set_nb hu hun))
            clear hga hu HKE r4 k4 HRS
            go_wp2_with fail
            rw [ST.out, HROW.out]
            go_roundw
            case rel => exact ⟨k + 1, s', s', ok, xx, rv, by omega, by go_num, HOK, H5, HF2, HL2, Lib.hid ⟨SameH.refl _, fun _ => rfl⟩, HK2, Lib.hid (fun h => absurd h (by omega)), HXE⟩
            case measure => simp only [intOf]; omega
        · as_aux_lemma =>
            have hget : ((((str L)[k]).toNat : Nat) : Int) = 101 := hget
            have KE := rflag_any gr st wo HRS.out.rd
            obtain ⟨N, hN⟩ : ∃ N, (rdF st).1 = N := ⟨_, rfl⟩
            have HG : Hid (gtD 101 st ok x = ((rdF st).2, ok, { x with end_ := N })) := Lib.hid (by rw [← hN]; rfl)
            rw [hN] at KE
            have HKE := Lib.hid KE
            rw [HG.out] at HF2 HL2 HK2
            clear KE hN HG
            cases N <;> as_aux_lemma =>
              go_wp2_with fail
              refine HKE.out.mono ?_
              rintro e w4 ⟨rfl, r4, k4⟩
              have H4 := Lib.hid (HRS.out.read r4 k4)
              have hga := H4.out.ha
              have fa : w4.frozen? ⟨ga, 16, none⟩ = false := by simp [World.frozen?, hga]
              obtain ⟨E, hE⟩ : ∃ E, (.bool x.end_ : Value) = E := ⟨_, rfl⟩
              have ca : w4.cell? ⟨ga, 16, none⟩ = some E := by rw [cell_of_row _ _ _ _ _ _ hga, ← hE]; rfl
              have lga := heap_lt hga
              have HFT := Lib.hid (And.intro (setCell_eq_setRow w4 ga 16 _ 60 (0, 0) (.bool true) hga) (setCell_eq_setRow w4 ga 16 _ 60 (0, 0) (.bool false) hga))
              have HR1 : Hid ((rsC x rv).toArray.setIfInBounds 16 (.bool true) = (rsC { x with end_ := true } rv).toArray ∧ (rsC x rv).toArray.setIfInBounds 16 (.bool false) = (rsC { x with end_ := false } rv).toArray) := Lib.hid ⟨rfl, rfl⟩
              have HFI := Lib.hid (And.intro (H4.out.fill (x' := { x with end_ := true }) rfl (set_nb (row := (rsC x rv).toArray) (o := 16) (x := .bool true) (u := .bool x.end_) rfl (nb_bool _))) (H4.out.fill (x' := { x with end_ := false }) rfl (set_nb (row := (rsC x rv).toArray) (o := 16) (x := .bool false) (u := .bool x.end_) rfl (nb_bool _))))
              clear hga hE HKE r4 k4 HRS
              go_wp2_with fail
              first | rw [HFT.out.1, HR1.out.1] | rw [HFT.out.2, HR1.out.2]
              go_roundw
              case rel => first | exact ⟨k + 1, _, _, ok, _, rv, by omega, by go_num, HOK, Lib.hid HFI.out.1, HF2, HL2, Lib.hid ⟨SameH.refl _, fun _ => rfl⟩, HK2, Lib.hid (fun h => absurd h (by omega)), HX0⟩ | exact ⟨k + 1, _, _, ok, _, rv, by omega, by go_num, HOK, Lib.hid HFI.out.2, HF2, HL2, Lib.hid ⟨SameH.refl _, fun _ => rfl⟩, HK2, Lib.hid (fun h => absurd h (by omega)), HX0⟩
              case measure => simp only [intOf]; omega
        ·
            have hget : ((((str L)[k]).toNat : Nat) : Int) = 69 := hget
            have hxe : x.ents = [] := HEN0.out (H69k.out rfl)
            have hxx : { x with ents := [] } = x := by rw [← hxe]
            have hbC := rdC_bd st 64
            have h64 := rdC_max st 64 (by decide)
            have hcl := rdC_len st 64
            have KC := rcount_any gr st 64 wo HRS.out.rd
            obtain ⟨nn, hnn⟩ : ∃ nn : Nat, (rdC st 64).1 = nn := ⟨(rdC st 64).1.toNat, by omega⟩
            obtain ⟨s2, hs2⟩ : ∃ s2, (rdC st 64).2 = s2 := ⟨_, rfl⟩
            have hn64 : nn ≤ 64 := by omega
            have HG : Hid (gtD 69 st ok x = ((rdEn nn s2).2, ok, { x with ents := (rdEn nn s2).1 })) := Lib.hid (by
              have : gtD 69 st ok x = ((rdE st).2, ok, { x with ents := (rdE st).1 }) := rfl
              rw [this]
              unfold rdE
              rw [hnn, hs2]
              rfl)
            rw [hnn, hs2] at KC
            rw [hs2] at hcl
            have HKC := Lib.hid KC
            have HSL : Hid (s2.l.length ≤ 20000) := Lib.hid (by omega)
            rw [HG.out] at HF2 HL2 HK2
            have HXX := Lib.hid hxx
            clear KC hnn hs2 hbC h64 hcl HG hxe hxx
            go_wp2_with fail
            refine HKC.out.mono ?_
            rintro e w4 ⟨rfl, r4, k4⟩
            have H4 : Hid (RHd w w4 gr ga g4 B0 s2 { x with ents := [] } rv) := Lib.hid (by rw [HXX.out]; exact HRS.out.read r4 k4)
            clear HKC r4 k4 HRS
            go_wp2_with fail
            go_loopw [12, 13] (fun jv _ wj => ∃ (j : Nat) (rv' : Value), j ≤ nn ∧ jv = .int .i64 j ∧ Hid (RHd w wj gr ga g4 B0 (rdEn j s2).2 { x with ents := (rdEn j s2).1 } rv')) (fun jv _ _ => nn - (intOf jv).toNat)
            case atStart => exact ⟨0, rv, Nat.zero_le _, rfl, H4⟩
            case round =>
              obtain ⟨j, rv', hj, rfl, HJ⟩ := hrel
              clear H4
              by_cases hjl : j < nn
              · have hlen := rdEn_len s2 j
                have HD : Hid (rdEn (j + 1) s2 = ((rdEn j s2).1 ++ [⟨(rdT (rdEn j s2).2 255).1, wrap64 (rdL (rdT (rdEn j s2).2 255).2).1, wrap64 (rdL (rdL (rdT (rdEn j s2).2 255).2).2).1⟩], (rdL (rdL (rdT (rdEn j s2).2 255).2).2).2)) := Lib.hid rfl
                have hel := rdEn_length s2 j
                obtain ⟨E, hE⟩ : ∃ E, (rdEn j s2).1 = E := ⟨_, rfl⟩
                obtain ⟨t2, ht2⟩ : ∃ t2, (rdEn j s2).2 = t2 := ⟨_, rfl⟩
                rw [ht2, hE] at HJ
                rw [ht2] at hlen HD
                rw [hE] at HD hel
                have KT := rtext_any gr t2 255 wr HJ.out.rd (by have := HSL.out; omega)
                obtain ⟨tt, htt⟩ : ∃ t, (rdT t2 255).1 = t := ⟨_, rfl⟩
                obtain ⟨t3, ht3⟩ : ∃ t3, (rdT t2 255).2 = t3 := ⟨_, rfl⟩
                rw [htt, ht3] at KT HD
                have HKT := Lib.hid KT
                obtain ⟨N1, hN1⟩ : ∃ N, wrap64 (rdL t3).1 = N := ⟨_, rfl⟩
                obtain ⟨t4, ht4⟩ : ∃ s, (rdL t3).2 = s := ⟨_, rfl⟩
                obtain ⟨N2, hN2⟩ : ∃ N, wrap64 (rdL t4).1 = N := ⟨_, rfl⟩
                obtain ⟨t5, ht5⟩ : ∃ s, (rdL t4).2 = s := ⟨_, rfl⟩
                have KI : Hid (∀ w : World, Rd 177 w gr t3 → Calls Tryz.prog 78 #[.pointer (some ⟨gr, 0, none⟩)] w fun e w' => e = .returned (.int .i64 N1) ∧ Rd 177 w' gr t4 ∧ But gr w w') := Lib.hid (fun w h => by rw [← hN1, ← ht4]; exact rint_any gr t3 w h)
                have KJ : Hid (∀ w : World, Rd 177 w gr t4 → Calls Tryz.prog 78 #[.pointer (some ⟨gr, 0, none⟩)] w fun e w' => e = .returned (.int .i64 N2) ∧ Rd 177 w' gr t5 ∧ But gr w w') := Lib.hid (fun w h => by rw [← hN2, ← ht5]; exact rint_any gr t4 w h)
                rw [ht4, hN1, ht5, hN2] at HD
                have HEL := Lib.hid hel
                clear KT hlen hE ht2 htt ht3 hN1 ht4 hN2 ht5 hel
                go_wp2_with fail
                refine HKT.out.mono ?_
                rintro e w2 ⟨rfl, r2, k2⟩
                have H2 := HJ.out.read r2 k2
                have hx := extAl w2 (.cells #[.string (str tt), .int .i64 0, .int .i64 0] 113)
                have FO : Hid (∀ b, rv'.ownBlock = some b → b < w2.heap.size) := Lib.hid fun b hb => (H2.lift b hb).2
                have hB2 : Hid (B0 ≤ w2.heap.size) := Lib.hid H2.b0.2.2.2
                have H3 := Lib.hid (H2.ext hx)
                have G3 := Lib.hid (heap_alloc_last w2 (.cells #[.string (str tt), .int .i64 0, .int .i64 0] 113))
                clear H2 hx r2 k2 HKT HJ
                go_upto_region 33 with fail
                generalize w2.alloc (.cells #[.string (str tt), .int .i64 0, .int .i64 0] 113) = w3 at *
                generalize w2.heap.size = gy at *
                have hneY : gy ≠ gr ∧ gy ≠ ga ∧ gy ≠ g4 := by have h1 := H3.out.b0; have h2 := hB2.out; omega
                have hwY : w.heap.size ≤ gy := by have h1 := H3.out.b0; have h2 := hB2.out; have h3 := H3.out.lb; omega
                have HNY := Lib.hid hneY
                have HWY := Lib.hid hwY
                clear hneY hwY
                go_wp2_with fail
                refine (KI.out _ H3.out.rd).mono ?_
                rintro e w4 ⟨rfl, r4, k4⟩
                have H4 := H3.out.read r4 k4
                have G4 := (k4.block gy (heap_lt G3.out) (by have := HNY.out.1; simp; omega)).trans G3.out
                have gyl := heap_lt G4
                have f4 : ∀ o, w4.frozen? ⟨gy, o, none⟩ = false := fun o => by simp [World.frozen?, G4]
                have c4 : w4.cell? ⟨gy, 1, none⟩ = some (.int .i64 0) := by rw [cell_of_row _ _ _ _ _ _ G4]; rfl
                have ST := Lib.hid (setCell_eq_setRow w4 gy 1 _ 113 (0, 0) (.int .i64 N1) G4)
                have H5 := Lib.hid (H4.aside (r' := #[.string (str tt), .int .i64 N1, .int .i64 0]) G4 HWY.out HNY.out (fun b hb e => by have := FO.out b hb; omega) (set_nb (row := #[.string (str tt), .int .i64 0, .int .i64 0]) (o := 1) (x := .int .i64 N1) (u := .int .i64 0) rfl (nb_i64 _)))
                have G5 := Lib.hid (setRow_heap w4 gy _ #[.string (str tt), .int .i64 N1, .int .i64 0] _ _ G4)
                clear H4 G4 H3 G3 r4 k4 KI
                go_upto_region 34 with fail
                rw [ST.out]
                clear ST f4 c4 gyl
                simp only [List.setIfInBounds_toArray, List.set_cons_zero, List.set_cons_succ]
                generalize w4.setRow gy #[.string (str tt), .int .i64 N1, .int .i64 0] = w5 at *
                go_wp2_with fail
                refine (KJ.out _ H5.out.rd).mono ?_
                rintro e w6 ⟨rfl, r6, k6⟩
                have H6 := H5.out.read r6 k6
                have G6 := (k6.block gy (heap_lt G5.out) (by have := HNY.out.1; simp; omega)).trans G5.out
                have gyl := heap_lt G6
                have f4 : ∀ o, w6.frozen? ⟨gy, o, none⟩ = false := fun o => by simp [World.frozen?, G6]
                have c4 : w6.cell? ⟨gy, 2, none⟩ = some (.int .i64 0) := by rw [cell_of_row _ _ _ _ _ _ G6]; rfl
                have ST := Lib.hid (setCell_eq_setRow w6 gy 2 _ 113 (0, 0) (.int .i64 N2) G6)
                have H7 := Lib.hid (H6.aside (r' := #[.string (str tt), .int .i64 N1, .int .i64 N2]) G6 HWY.out HNY.out (fun b hb e => by have := FO.out b hb; omega) (set_nb (row := #[.string (str tt), .int .i64 N1, .int .i64 0]) (o := 2) (x := .int .i64 N2) (u := .int .i64 0) rfl (nb_i64 _)))
                have G7 := Lib.hid (setRow_heap w6 gy _ #[.string (str tt), .int .i64 N1, .int .i64 N2] _ _ G6)
                clear H6 G6 H5 G5 r6 k6 KJ
                go_upto_region 35 with fail
                rw [ST.out]
                clear ST f4 c4 gyl
                simp only [List.setIfInBounds_toArray, List.set_cons_zero, List.set_cons_succ]
                generalize w6.setRow gy #[.string (str tt), .int .i64 N1, .int .i64 N2] = w7 at *
                have g7l := heap_lt G7.out
                have gal7 := heap_lt H7.out.ha
                have d0 : w7.cell? ⟨gy, 0, none⟩ = some (.string (str tt)) := by rw [cell_of_row _ _ _ _ _ _ G7.out]; rfl
                have d1 : w7.cell? ⟨gy, 1, none⟩ = some (.int .i64 N1) := by rw [cell_of_row _ _ _ _ _ _ G7.out]; rfl
                have d2 : w7.cell? ⟨gy, 2, none⟩ = some (.int .i64 N2) := by rw [cell_of_row _ _ _ _ _ _ G7.out]; rfl
                have d17 : w7.cell? ⟨ga, 17, none⟩ = some rv' := by rw [cell_of_row _ _ _ _ _ _ H7.out.ha]; rfl
                have hx := extAl w7 (.cells #[.string (str tt), .int .i64 N1, .int .i64 N2] 113)
                have hsrc := src_row (P := Tryz.prog) (tx := 58) (sz := 3) (n := 1) (c := 1) (cs := enC ⟨tt, N1, N2⟩) Tryz.underlying58 (heap_alloc_last w7 (.cells #[.string (str tt), .int .i64 N1, .int .i64 N2] 113)) rfl (fun u hu => (enC_ec _ u hu).2)
                have H8 := H7.out.ext hx
                obtain ⟨v', w9, hr, ho9, hb9, hg9, -⟩ := app_en (ty := 58) H8.en hsrc H8.b0.2.2.2 (enC_ec _) (by have := HEL.out; show E.length + 1 ≤ _; omega)
                obtain ⟨A', c', rfl⟩ := ho9.form
                have hnb : NoB' rv' := by obtain ⟨A, c, e⟩ := H8.en.form; rw [e]; exact nb_slice _ _ _
                have ho9 : EnO w9 B0 (.slice A' (E.length + 1) c') (E ++ [⟨tt, N1, N2⟩]) := by
                  have e : (E ++ [⟨tt, N1, N2⟩] : List EnT).length = E.length + 1 := by simp
                  unfold EnO
                  rw [e, List.flatMap_append]
                  simpa using ho9
                have hl9 : (.slice A' (E.length + 1) c' : Value) = .slice A' (E.length + 1) c' := rfl
                have hg9r := H8.grown hg9 ho9 hb9
                have fa9 : w9.frozen? ⟨ga, 17, none⟩ = false := by simp [World.frozen?, hg9r.2.1]
                have ca9 : w9.cell? ⟨ga, 17, none⟩ = some rv' := by rw [cell_of_row _ _ _ _ _ _ hg9r.2.1]; rfl
                have gal9 := heap_lt hg9r.2.1
                have ST := Lib.hid (setCell_eq_setRow w9 ga 17 _ 60 (0, 0) (.slice A' (E.length + 1) c') hg9r.2.1)
                have HROW : Hid ((rsC { x with ents := E } rv').toArray.setIfInBounds 17 (.slice A' (E.length + 1) c') = (rsC { x with ents := E ++ [⟨tt, N1, N2⟩] } (.slice A' (E.length + 1) c')).toArray) := Lib.hid rfl
                have HAPP := Lib.hid (H8.app (x' := { x with ents := E ++ [⟨tt, N1, N2⟩] }) hg9 hnb ho9 hb9 rfl)
                have Hr := Lib.hid hr
                clear hr ho9 hb9 hg9 H8 hsrc hx H7 G7 hg9r hl9 hnb FO hB2 HNY HWY
                go_wp2_with (at_builtin; refine wpList_app rfl (.tmp 106) (.tmp 108) 58 58 rfl Hr.out ?_; simp only [Act.put]; clear Hr)
                rw [ST.out, HROW.out]
                go_roundw
                case rel => exact ⟨j + 1, _, by omega, by go_num, by rw [HD.out]; exact HAPP⟩
                case measure => simp only [intOf]; omega
              · obtain rfl : j = nn := by omega
                go_wp2_with fail
                go_roundw
                case rel => exact ⟨k + 1, _, _, ok, _, rv', by omega, by go_num, HOK, HJ, HF2, HL2, Lib.hid ⟨SameH.refl _, fun _ => rfl⟩, HK2, Lib.hid (fun h => absurd h (by omega)), HX0⟩
                case measure => simp only [intOf]; omega
      · obtain rfl : k = L.length := by omega
        have hF := HF.out
        rw [List.drop_length] at hF
        replace hF : (if (ok && doneB st && rMayT q x) = true then (x, (0 : Int)) else (rs0, 4)) = R := hF
        have HF3 := Lib.hid hF
        have HXE : Hid (x.e = kw) := Lib.hid (by rw [HX0.out, HE0.out])
        clear hF HF HEN0
        have hIE : I64 x.e := by have h1 := HBW.out; have h2 := HXE.out; unfold I64; omega
        obtain ⟨A', c', rfl⟩ := HRS.out.en.form
        have KD := rdone_any gr st' wo HRS.out.rd
        rw [doneB_same HSM.out.1] at KD
        have KM := rMayResult_any q HQ.out x (.slice A' x.ents.length c') wo HK.out hIE (HRS.out.en.rr (by decide))
        have hok := HOK.out
        subst hok
        have HL := Lib.hid (ldRs HRS.out.ha)
        have HSB := Lib.hid (storeRsZ HRS.out.h4)
        have HFB := Lib.hid (setRow_heap wo g4 _ (rsC rs0 (.slice none 0 0)).toArray _ _ HRS.out.h4)
        have HBB := Lib.hid (below_setRow HRS.out.bel HRS.out.lb.2.2 (rsC rs0 (.slice none 0 0)).toArray)
        cases ok with
        | false =>
          have hR0 : R = (rs0, 4) := by rw [← HF3.out]; simp
          subst hR0
          have HFI := HFB
          have HB := HBB
          clear KD KM HRS HF3 hIE HL HFB HBB
          go_wp2_with (refine wpList_st rfl 60 (.tmp 4) (.tmp 124) rfl HSB.out ?_; simp only [Act.put])
          (try simp only [Exit.inBlock, Exit.then])
          exact bodyPost_ret (results_ct Tryz.results45 _ _ _ _ _ _ _ rfl HFI.out Tryz.underlying60 rfl (by kernel_rfl)) rfl ⟨.slice none 0 0, rfl, OwnR.nil, HB.out⟩
        | true =>
          cases hd : doneB st with
          | false =>
            rw [hd] at KD
            have hR0 : R = (rs0, 4) := by rw [← HF3.out, hd]; simp
            subst hR0
            have HKD := Lib.hid KD
            have HFI := HFB
            have HB := HBB
            clear KD KM HRS HF3 hIE HL HFB HBB hd
            go_wp2_with fail
            refine HKD.out.mono ?_
            rintro e w5 ⟨rfl, rfl⟩
            go_wp2_with (refine wpList_st rfl 60 (.tmp 4) (.tmp 124) rfl HSB.out ?_; simp only [Act.put])
            (try simp only [Exit.inBlock, Exit.then])
            exact bodyPost_ret (results_ct Tryz.results45 _ _ _ _ _ _ _ rfl HFI.out Tryz.underlying60 rfl (by kernel_rfl)) rfl ⟨.slice none 0 0, rfl, OwnR.nil, HB.out⟩
          | true =>
            rw [hd] at KD
            have HKD := Lib.hid KD
            cases hm : rMayT q x with
            | false =>
              rw [hm] at KM
              have hR0 : R = (rs0, 4) := by rw [← HF3.out, hd, hm]; simp
              subst hR0
              have HKM := Lib.hid KM
              have HSX : Hid (∀ W : World, Ext wo W → RHd w W gr ga g4 B0 st' x (.slice A' x.ents.length c')) := Lib.hid fun W k => HRS.out.ext k
              clear KD KM HRS HF3 hIE HFB HBB hd hm HSB
              go_wp2_with fail
              refine HKD.out.mono ?_
              rintro e w5 ⟨rfl, rfl⟩
              go_wp2_with (refine wpList_ldwR 60 (.tmp 7) rfl (by rfl) HL.out ?_; simp only [Act.put])
              refine HKM.out.mono ?_
              rintro e w8 ⟨rfl, k8⟩
              have H8 := HSX.out w8 k8
              have HSB := Lib.hid (storeRsZ H8.h4)
              have HFI := Lib.hid (setRow_heap w8 g4 _ (rsC rs0 (.slice none 0 0)).toArray _ _ H8.h4)
              have HB := Lib.hid (below_setRow H8.bel H8.lb.2.2 (rsC rs0 (.slice none 0 0)).toArray)
              clear H8 k8
              go_wp2_with (refine wpList_st rfl 60 (.tmp 4) (.tmp 124) rfl HSB.out ?_; simp only [Act.put])
              (try simp only [Exit.inBlock, Exit.then])
              exact bodyPost_ret (results_ct Tryz.results45 _ _ _ _ _ _ _ rfl HFI.out Tryz.underlying60 rfl (by kernel_rfl)) rfl ⟨.slice none 0 0, rfl, OwnR.nil, HB.out⟩
            | true =>
              rw [hm] at KM
              have hR0 : R = (x, 0) := by rw [← HF3.out, hd, hm]; simp
              subst hR0
              have HKM := Lib.hid KM
              have HSX : Hid (∀ W : World, Ext wo W → RHd w W gr ga g4 B0 st' x (.slice A' x.ents.length c')) := Lib.hid fun W k => HRS.out.ext k
              clear KD KM HRS HF3 hIE HFB HBB hd hm HSB
              go_wp2_with fail
              refine HKD.out.mono ?_
              rintro e w5 ⟨rfl, rfl⟩
              go_wp2_with (refine wpList_ldwR 60 (.tmp 7) rfl (by rfl) HL.out ?_; simp only [Act.put])
              refine HKM.out.mono ?_
              rintro e w8 ⟨rfl, k8⟩
              have H8 := HSX.out w8 k8
              have HL8 := Lib.hid (ldRs H8.ha)
              have HSB := Lib.hid (storeRs (y := x) (A := A') (n := x.ents.length) (c := c') H8.h4)
              have HFI := Lib.hid (setRow_heap w8 g4 _ (rsC x (.slice A' x.ents.length c')).toArray _ _ H8.h4)
              have HB := Lib.hid (below_setRow H8.bel H8.lb.2.2 (rsC x (.slice A' x.ents.length c')).toArray)
              have HEF := Lib.hid ((H8.en.mono (B' := w.heap.size) (by have h1 := H8.lb; have h2 := H8.b0; omega)).set (row' := (rsC x (.slice A' x.ents.length c')).toArray) H8.h4 (by decide))
              clear H8 k8 HL
              go_wp2_with (first | (refine wpList_ld rfl 60 (.tmp 7) rfl HL8.out ?_; simp only [Act.put]) | (refine wpList_st rfl 60 (.tmp 4) (.tmp 125) rfl HSB.out ?_; simp only [Act.put]))
              (try simp only [Exit.inBlock, Exit.then])
              exact bodyPost_ret (results_ct Tryz.results45 _ _ _ _ _ _ _ rfl HFI.out Tryz.underlying60 rfl (by kernel_rfl)) rfl ⟨_, rfl, HEF.out, HB.out⟩
  · have HR2 : Hid (finH q (s1, true, { rs0 with e := kw }) = R) := Lib.hid (by rw [← HR1.out]; unfold tellL; rw [if_neg he0]; rfl)
    have HBK := Lib.hid hbw
    have HQ := Lib.hid hq
    clear hLm HR1 hbw
    generalize rTellL (q : Int) = L at *
    go_upto_region 8 with fail
    go_loopw [9, 10, 11, 12, 13] (fun okv iv _ _ _ wr => iv = .int .i64 0 ∧ Hid (okv = .bool true) ∧ Hid (RHd w wr gr ga g4 B0 s1 { rs0 with e := kw } (.slice none 0 0))) (fun _ iv _ _ _ _ => 0)
    case atStart => exact ⟨rfl, Lib.hid rfl, HS6⟩
    case round =>
      obtain ⟨rfl, HOK, HRS⟩ := hrel
      clear HS6
      have hF := HR2.out
      replace hF : (if (true && doneB s1 && rMayT q { rs0 with e := kw }) = true then (({ rs0 with e := kw } : RsT), (0 : Int)) else (rs0, 4)) = R := hF
      have c0 : wr.cell? ⟨ga, 0, none⟩ = some (.int .i64 kw) := by rw [cell_of_row _ _ _ _ _ _ HRS.out.ha]; rfl
      have gal := heap_lt HRS.out.ha
      obtain ⟨x, hx⟩ : ∃ x : RsT, { rs0 with e := kw } = x := ⟨_, rfl⟩
      have HXE : Hid (x.e = kw) := Lib.hid (by rw [← hx])
      rw [hx] at HRS HK0 hF
      have HK := HK0
      obtain ⟨rv, hrv⟩ : ∃ r, (.slice none 0 0 : Value) = r := ⟨_, rfl⟩
      rw [hrv] at HRS
      obtain ⟨st, rfl⟩ : ∃ s, s = s1 := ⟨_, rfl⟩
      obtain ⟨st', hst'⟩ : ∃ s', s' = st := ⟨_, rfl⟩
      have HSM : Hid (SameH st st' ∧ True) := Lib.hid ⟨by rw [hst']; exact SameH.refl _, trivial⟩
      rw [← hst'] at HRS
      obtain ⟨ok, hok⟩ : ∃ ok, true = ok := ⟨_, rfl⟩
      have HF3 : Hid ((if (ok && doneB st && rMayT q x) = true then (x, (0 : Int)) else (rs0, 4)) = R) := Lib.hid (by rw [← hok]; exact hF)
      rw [hok] at HOK
      obtain ⟨wo, rfl⟩ : ∃ wo : World, wo = wr := ⟨_, rfl⟩
      clear hF hx hrv hst' hok HR2
      by_cases hL0 : L.length = 0
      · have hL0' : ¬ (0 : Int) < (L.length : Int) := by omega
        clear hL0
        have hIE : I64 x.e := by have h1 := HBW.out; have h2 := HXE.out; unfold I64; omega
        obtain ⟨A', c', rfl⟩ := HRS.out.en.form
        have KD := rdone_any gr st' wo HRS.out.rd
        rw [doneB_same HSM.out.1] at KD
        have KM := rMayResult_any q HQ.out x (.slice A' x.ents.length c') wo HK.out hIE (HRS.out.en.rr (by decide))
        have hok := HOK.out
        subst hok
        have HL := Lib.hid (ldRs HRS.out.ha)
        have HSB := Lib.hid (storeRsZ HRS.out.h4)
        have HFB := Lib.hid (setRow_heap wo g4 _ (rsC rs0 (.slice none 0 0)).toArray _ _ HRS.out.h4)
        have HBB := Lib.hid (below_setRow HRS.out.bel HRS.out.lb.2.2 (rsC rs0 (.slice none 0 0)).toArray)
        cases ok with
        | false =>
          have hR0 : R = (rs0, 4) := by rw [← HF3.out]; simp
          subst hR0
          have HFI := HFB
          have HB := HBB
          clear KD KM HRS HF3 hIE HL HFB HBB
          go_wp2_with (refine wpList_st rfl 60 (.tmp 4) (.tmp 124) rfl HSB.out ?_; simp only [Act.put])
          (try simp only [Exit.inBlock, Exit.then])
          exact bodyPost_ret (results_ct Tryz.results45 _ _ _ _ _ _ _ rfl HFI.out Tryz.underlying60 rfl (by kernel_rfl)) rfl ⟨.slice none 0 0, rfl, OwnR.nil, HB.out⟩
        | true =>
          cases hd : doneB st with
          | false =>
            rw [hd] at KD
            have hR0 : R = (rs0, 4) := by rw [← HF3.out, hd]; simp
            subst hR0
            have HKD := Lib.hid KD
            have HFI := HFB
            have HB := HBB
            clear KD KM HRS HF3 hIE HL HFB HBB hd
            go_wp2_with fail
            refine HKD.out.mono ?_
            rintro e w5 ⟨rfl, rfl⟩
            go_wp2_with (refine wpList_st rfl 60 (.tmp 4) (.tmp 124) rfl HSB.out ?_; simp only [Act.put])
            (try simp only [Exit.inBlock, Exit.then])
            exact bodyPost_ret (results_ct Tryz.results45 _ _ _ _ _ _ _ rfl HFI.out Tryz.underlying60 rfl (by kernel_rfl)) rfl ⟨.slice none 0 0, rfl, OwnR.nil, HB.out⟩
          | true =>
            rw [hd] at KD
            have HKD := Lib.hid KD
            cases hm : rMayT q x with
            | false =>
              rw [hm] at KM
              have hR0 : R = (rs0, 4) := by rw [← HF3.out, hd, hm]; simp
              subst hR0
              have HKM := Lib.hid KM
              have HSX : Hid (∀ W : World, Ext wo W → RHd w W gr ga g4 B0 st' x (.slice A' x.ents.length c')) := Lib.hid fun W k => HRS.out.ext k
              clear KD KM HRS HF3 hIE HFB HBB hd hm HSB
              go_wp2_with fail
              refine HKD.out.mono ?_
              rintro e w5 ⟨rfl, rfl⟩
              go_wp2_with (refine wpList_ldwR 60 (.tmp 7) rfl (by rfl) HL.out ?_; simp only [Act.put])
              refine HKM.out.mono ?_
              rintro e w8 ⟨rfl, k8⟩
              have H8 := HSX.out w8 k8
              have HSB := Lib.hid (storeRsZ H8.h4)
              have HFI := Lib.hid (setRow_heap w8 g4 _ (rsC rs0 (.slice none 0 0)).toArray _ _ H8.h4)
              have HB := Lib.hid (below_setRow H8.bel H8.lb.2.2 (rsC rs0 (.slice none 0 0)).toArray)
              clear H8 k8
              go_wp2_with (refine wpList_st rfl 60 (.tmp 4) (.tmp 124) rfl HSB.out ?_; simp only [Act.put])
              (try simp only [Exit.inBlock, Exit.then])
              exact bodyPost_ret (results_ct Tryz.results45 _ _ _ _ _ _ _ rfl HFI.out Tryz.underlying60 rfl (by kernel_rfl)) rfl ⟨.slice none 0 0, rfl, OwnR.nil, HB.out⟩
            | true =>
              rw [hm] at KM
              have hR0 : R = (x, 0) := by rw [← HF3.out, hd, hm]; simp
              subst hR0
              have HKM := Lib.hid KM
              have HSX : Hid (∀ W : World, Ext wo W → RHd w W gr ga g4 B0 st' x (.slice A' x.ents.length c')) := Lib.hid fun W k => HRS.out.ext k
              clear KD KM HRS HF3 hIE HFB HBB hd hm HSB
              go_wp2_with fail
              refine HKD.out.mono ?_
              rintro e w5 ⟨rfl, rfl⟩
              go_wp2_with (refine wpList_ldwR 60 (.tmp 7) rfl (by rfl) HL.out ?_; simp only [Act.put])
              refine HKM.out.mono ?_
              rintro e w8 ⟨rfl, k8⟩
              have H8 := HSX.out w8 k8
              have HL8 := Lib.hid (ldRs H8.ha)
              have HSB := Lib.hid (storeRs (y := x) (A := A') (n := x.ents.length) (c := c') H8.h4)
              have HFI := Lib.hid (setRow_heap w8 g4 _ (rsC x (.slice A' x.ents.length c')).toArray _ _ H8.h4)
              have HB := Lib.hid (below_setRow H8.bel H8.lb.2.2 (rsC x (.slice A' x.ents.length c')).toArray)
              have HEF := Lib.hid ((H8.en.mono (B' := w.heap.size) (by have h1 := H8.lb; have h2 := H8.b0; omega)).set (row' := (rsC x (.slice A' x.ents.length c')).toArray) H8.h4 (by decide))
              clear H8 k8 HL
              go_wp2_with (first | (refine wpList_ld rfl 60 (.tmp 7) rfl HL8.out ?_; simp only [Act.put]) | (refine wpList_st rfl 60 (.tmp 4) (.tmp 125) rfl HSB.out ?_; simp only [Act.put]))
              (try simp only [Exit.inBlock, Exit.then])
              exact bodyPost_ret (results_ct Tryz.results45 _ _ _ _ _ _ _ rfl HFI.out Tryz.underlying60 rfl (by kernel_rfl)) rfl ⟨_, rfl, HEF.out, HB.out⟩
      · have hL0' : (0 : Int) < (L.length : Int) := by omega
        clear hL0
        have hIE : I64 x.e := by have h1 := HBW.out; have h2 := HXE.out; unfold I64; omega
        obtain ⟨A', c', rfl⟩ := HRS.out.en.form
        have KD := rdone_any gr st' wo HRS.out.rd
        rw [doneB_same HSM.out.1] at KD
        have KM := rMayResult_any q HQ.out x (.slice A' x.ents.length c') wo HK.out hIE (HRS.out.en.rr (by decide))
        have hok := HOK.out
        subst hok
        have HL := Lib.hid (ldRs HRS.out.ha)
        have HSB := Lib.hid (storeRsZ HRS.out.h4)
        have HFB := Lib.hid (setRow_heap wo g4 _ (rsC rs0 (.slice none 0 0)).toArray _ _ HRS.out.h4)
        have HBB := Lib.hid (below_setRow HRS.out.bel HRS.out.lb.2.2 (rsC rs0 (.slice none 0 0)).toArray)
        cases ok with
        | false =>
          have hR0 : R = (rs0, 4) := by rw [← HF3.out]; simp
          subst hR0
          have HFI := HFB
          have HB := HBB
          clear KD KM HRS HF3 hIE HL HFB HBB
          go_wp2_with (refine wpList_st rfl 60 (.tmp 4) (.tmp 124) rfl HSB.out ?_; simp only [Act.put])
          (try simp only [Exit.inBlock, Exit.then])
          exact bodyPost_ret (results_ct Tryz.results45 _ _ _ _ _ _ _ rfl HFI.out Tryz.underlying60 rfl (by kernel_rfl)) rfl ⟨.slice none 0 0, rfl, OwnR.nil, HB.out⟩
        | true =>
          cases hd : doneB st with
          | false =>
            rw [hd] at KD
            have hR0 : R = (rs0, 4) := by rw [← HF3.out, hd]; simp
            subst hR0
            have HKD := Lib.hid KD
            have HFI := HFB
            have HB := HBB
            clear KD KM HRS HF3 hIE HL HFB HBB hd
            go_wp2_with fail
            refine HKD.out.mono ?_
            rintro e w5 ⟨rfl, rfl⟩
            go_wp2_with (refine wpList_st rfl 60 (.tmp 4) (.tmp 124) rfl HSB.out ?_; simp only [Act.put])
            (try simp only [Exit.inBlock, Exit.then])
            exact bodyPost_ret (results_ct Tryz.results45 _ _ _ _ _ _ _ rfl HFI.out Tryz.underlying60 rfl (by kernel_rfl)) rfl ⟨.slice none 0 0, rfl, OwnR.nil, HB.out⟩
          | true =>
            rw [hd] at KD
            have HKD := Lib.hid KD
            cases hm : rMayT q x with
            | false =>
              rw [hm] at KM
              have hR0 : R = (rs0, 4) := by rw [← HF3.out, hd, hm]; simp
              subst hR0
              have HKM := Lib.hid KM
              have HSX : Hid (∀ W : World, Ext wo W → RHd w W gr ga g4 B0 st' x (.slice A' x.ents.length c')) := Lib.hid fun W k => HRS.out.ext k
              clear KD KM HRS HF3 hIE HFB HBB hd hm HSB
              go_wp2_with fail
              refine HKD.out.mono ?_
              rintro e w5 ⟨rfl, rfl⟩
              go_wp2_with (refine wpList_ldwR 60 (.tmp 7) rfl (by rfl) HL.out ?_; simp only [Act.put])
              refine HKM.out.mono ?_
              rintro e w8 ⟨rfl, k8⟩
              have H8 := HSX.out w8 k8
              have HSB := Lib.hid (storeRsZ H8.h4)
              have HFI := Lib.hid (setRow_heap w8 g4 _ (rsC rs0 (.slice none 0 0)).toArray _ _ H8.h4)
              have HB := Lib.hid (below_setRow H8.bel H8.lb.2.2 (rsC rs0 (.slice none 0 0)).toArray)
              clear H8 k8
              go_wp2_with (refine wpList_st rfl 60 (.tmp 4) (.tmp 124) rfl HSB.out ?_; simp only [Act.put])
              (try simp only [Exit.inBlock, Exit.then])
              exact bodyPost_ret (results_ct Tryz.results45 _ _ _ _ _ _ _ rfl HFI.out Tryz.underlying60 rfl (by kernel_rfl)) rfl ⟨.slice none 0 0, rfl, OwnR.nil, HB.out⟩
            | true =>
              rw [hm] at KM
              have hR0 : R = (x, 0) := by rw [← HF3.out, hd, hm]; simp
              subst hR0
              have HKM := Lib.hid KM
              have HSX : Hid (∀ W : World, Ext wo W → RHd w W gr ga g4 B0 st' x (.slice A' x.ents.length c')) := Lib.hid fun W k => HRS.out.ext k
              clear KD KM HRS HF3 hIE HFB HBB hd hm HSB
              go_wp2_with fail
              refine HKD.out.mono ?_
              rintro e w5 ⟨rfl, rfl⟩
              go_wp2_with (refine wpList_ldwR 60 (.tmp 7) rfl (by rfl) HL.out ?_; simp only [Act.put])
              refine HKM.out.mono ?_
              rintro e w8 ⟨rfl, k8⟩
              have H8 := HSX.out w8 k8
              have HL8 := Lib.hid (ldRs H8.ha)
              have HSB := Lib.hid (storeRs (y := x) (A := A') (n := x.ents.length) (c := c') H8.h4)
              have HFI := Lib.hid (setRow_heap w8 g4 _ (rsC x (.slice A' x.ents.length c')).toArray _ _ H8.h4)
              have HB := Lib.hid (below_setRow H8.bel H8.lb.2.2 (rsC x (.slice A' x.ents.length c')).toArray)
              have HEF := Lib.hid ((H8.en.mono (B' := w.heap.size) (by have h1 := H8.lb; have h2 := H8.b0; omega)).set (row' := (rsC x (.slice A' x.ents.length c')).toArray) H8.h4 (by decide))
              clear H8 k8 HL
              go_wp2_with (first | (refine wpList_ld rfl 60 (.tmp 7) rfl HL8.out ?_; simp only [Act.put]) | (refine wpList_st rfl 60 (.tmp 4) (.tmp 125) rfl HSB.out ?_; simp only [Act.put]))
              (try simp only [Exit.inBlock, Exit.then])
              exact bodyPost_ret (results_ct Tryz.results45 _ _ _ _ _ _ _ rfl HFI.out Tryz.underlying60 rfl (by kernel_rfl)) rfl ⟨_, rfl, HEF.out, HB.out⟩
end
end Go.Proofs.YteahlnoonmfjhaaGreat
