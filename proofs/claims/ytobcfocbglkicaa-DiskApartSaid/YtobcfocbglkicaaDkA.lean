/- The disk: its states, and how one lies in memory. No statement of its own. -/
import Derived.Test.YtobcfocbglkicaaMapI
import Derived.Test.YtobcfocbglkicaaBlkB
set_option linter.unusedVariables false
set_option maxRecDepth 100000
namespace Go.Proofs.Ytobcfocbglkicaa
open Go.RowKit

/-! Writes in their order. -/
abbrev Wr := Int × List UInt8
def lastB (l : List Wr) (z : Int) : Option (List UInt8) := (l.reverse.find? fun p => decide (p.1 = z)).map (·.2)
def lastIx (l : List Wr) (z : Int) : Option Nat := (l.zipIdx.reverse.find? fun p => decide (p.1.1 = z)).map (·.2)
theorem snoc_ind {α : Type} {p : List α → Prop} (h0 : p []) (h1 : ∀ l a, p l → p (l ++ [a])) (l : List α) : p l := by
  have h : ∀ m : List α, p m.reverse := fun m => by
    induction m with
    | nil => exact h0
    | cons a m ih => rw [List.reverse_cons]; exact h1 _ _ ih
  have := h l.reverse
  rwa [List.reverse_reverse] at this
theorem lastB_snoc (l : List Wr) (p : Wr) (z : Int) : lastB (l ++ [p]) z = if p.1 = z then some p.2 else lastB l z := by
  unfold lastB
  rw [List.reverse_append, List.reverse_singleton, List.singleton_append, List.find?_cons]
  by_cases h : p.1 = z <;> simp [h]
theorem lastIx_snoc (l : List Wr) (p : Wr) (z : Int) : lastIx (l ++ [p]) z = if p.1 = z then some l.length else lastIx l z := by
  unfold lastIx
  rw [List.zipIdx_append, List.reverse_append]
  simp only [List.zipIdx_cons, List.zipIdx_nil, List.reverse_singleton, List.singleton_append, List.find?_cons]
  by_cases h : p.1 = z <;> simp [h]
theorem lastB_append (l m : List Wr) (z : Int) : lastB (l ++ m) z = (lastB m z).or (lastB l z) := by
  unfold lastB
  rw [List.reverse_append, List.find?_append]
  cases List.find? (fun p => decide (p.1 = z)) m.reverse <;> simp
theorem lastIx_spec (z : Int) : ∀ l : List Wr, (lastIx l z = none ∧ lastB l z = none) ∨ ∃ i b, lastIx l z = some i ∧ l[i]? = some (z, b) ∧ lastB l z = some b := by
  refine snoc_ind (.inl ⟨rfl, rfl⟩) fun l p ih => ?_
  rw [lastIx_snoc, lastB_snoc]
  by_cases h : p.1 = z
  · refine .inr ⟨l.length, p.2, by rw [if_pos h], ?_, by rw [if_pos h]⟩
    simp
    exact Prod.ext h rfl
  · rw [if_neg h, if_neg h]
    rcases ih with ih | ⟨i, b, h1, h2, h3⟩
    · exact .inl ih
    · exact .inr ⟨i, b, h1, by rw [List.getElem?_append_left (List.getElem?_eq_some_iff.1 h2).1]; exact h2, h3⟩
theorem lastB_mem {l : List Wr} {z : Int} {b : List UInt8} (h : lastB l z = some b) : (z, b) ∈ l := by
  rcases lastIx_spec z l with ⟨_, h2⟩ | ⟨i, b', _, h2, h3⟩
  · rw [h] at h2; cases h2
  · rw [h] at h3
    cases h3
    exact List.mem_of_getElem? h2

def wcell (p : Wr) : List Value := .int .i64 p.1 :: bvs p.2
def wcs (l : List Wr) : List Value := l.flatMap wcell
theorem wcell_length {p : Wr} (h : p.2.length = 512) : (wcell p).length = 513 := by simp [wcell, bvs, h]
theorem wcs_snoc (l : List Wr) (p : Wr) : wcs (l ++ [p]) = wcs l ++ wcell p := by simp [wcs]
theorem wcs_length : ∀ (l : List Wr), (∀ p ∈ l, p.2.length = 512) → (wcs l).length = l.length * 513
  | [], _ => by simp [wcs]
  | p :: l, h => by
    have ih := wcs_length l fun q hq => h q (List.mem_cons_of_mem _ hq)
    have h1 := wcell_length (h p (by simp))
    show (wcell p ++ wcs l).length = _
    rw [List.length_append, ih, h1, List.length_cons]
    omega
theorem wcs_get : ∀ (l : List Wr), (∀ p ∈ l, p.2.length = 512) → ∀ {i : Nat} {p : Wr}, l[i]? = some p → ∀ {j : Nat}, j < 513 → (wcs l)[i * 513 + j]? = (wcell p)[j]?
  | [], _, i, p, h, _, _ => by simp at h
  | q :: l, h, i, p, hi, j, hj => by
    have h1 := wcell_length (h q (by simp))
    show (wcell q ++ wcs l)[_]? = _
    cases i with
    | zero =>
      simp only [List.getElem?_cons_zero, Option.some.injEq] at hi
      subst hi
      rw [Nat.zero_mul, Nat.zero_add, List.getElem?_append_left (by omega)]
    | succ i =>
      simp only [List.getElem?_cons_succ] at hi
      rw [List.getElem?_append_right (by omega), h1, show (i + 1) * 513 + j - 513 = i * 513 + j by omega]
      exact wcs_get l (fun q hq => h q (List.mem_cons_of_mem _ hq)) hi hj
def One (v : Value) : Prop := v.oneCell' = true
theorem wcell_one (p : Wr) : ∀ u ∈ wcell p, One u := by
  intro u hu
  rcases List.mem_cons.1 hu with rfl | hu
  · rfl
  · obtain ⟨b, _, rfl⟩ := List.mem_map.1 hu
    rfl
theorem wcs_one (l : List Wr) : ∀ u ∈ wcs l, One u := by
  intro u hu
  obtain ⟨p, _, hp⟩ := List.mem_flatMap.1 hu
  exact wcell_one p u hp
def bcs (l : List Bool) : List Value := l.map .bool
theorem bcs_one (l : List Bool) : ∀ u ∈ bcs l, One u := by
  intro u hu
  obtain ⟨b, _, rfl⟩ := List.mem_map.1 hu
  rfl

/-! A disk's states. -/
structure DK where
  n : Int
  on : List Wr
  wt : List Wr
  cut : Int
  keep : List Bool
  dead : Bool
def newD (n : Int) (on : List Wr) : DK := ⟨n, on, [], 0, [], false⟩
/-- The writes that wait and have a yes. -/
def kept (keep : List Bool) (l : List Wr) : List Wr := (l.zipIdx.filter fun p => keep.getD p.2 false).map (·.1)
theorem kept_snoc (keep : List Bool) (l : List Wr) (p : Wr) : kept keep (l ++ [p]) = kept keep l ++ (if keep.getD l.length false then [p] else []) := by
  unfold kept
  rw [List.zipIdx_append, List.filter_append, List.map_append]
  simp only [List.zipIdx_cons, List.zipIdx_nil, Nat.zero_add, List.filter_cons, List.filter_nil]
  by_cases h : keep.getD l.length false = true
  · rw [if_pos h, if_pos h]; rfl
  · rw [if_neg h, if_neg h]; rfl
theorem kept_sub {keep : List Bool} {l : List Wr} {p : Wr} (h : p ∈ kept keep l) : p ∈ l := by
  obtain ⟨q, hq, rfl⟩ := List.mem_map.1 h
  exact (List.mem_zipIdx' (List.mem_filter.1 hq).1).2 ▸ List.getElem_mem _
def DK.fail (D : DK) (keep : List Bool) : DK := ⟨D.n, D.on ++ kept keep D.wt, [], 0, [], true⟩
/-- A write or a flush is counted. -/
def DK.count (D : DK) : DK × Int := if D.cut = 0 then (D, 0) else if 0 < D.cut - 1 then ({ D with cut := D.cut - 1 }, 0) else (D.fail D.keep, 51)
def DK.ask (D : DK) : Int := if D.dead then 51 else 0
def DK.askAt (D : DK) (z : Int) : Int := if D.dead then 51 else if 0 ≤ z ∧ z < D.n then 0 else 1
def DK.write (D : DK) (z : Int) (b : List UInt8) : DK × Int := if D.askAt z = 0 then DK.count { D with wt := D.wt ++ [(z, b)] } else (D, D.askAt z)
def DK.flush (D : DK) : DK × Int := if D.ask = 0 then if D.count.2 = 0 then ({ D.count.1 with on := D.on ++ D.wt, wt := [] }, 0) else D.count else (D, D.ask)
def DK.say (D : DK) (n : Int) (keep : List Bool) : DK × Int := if D.ask = 0 then if 0 ≤ n then ({ D with cut := n, keep := if 0 < n then keep else [] }, 0) else (D, 1) else (D, D.ask)
def DK.Fail (D : DK) (keep : List Bool) : DK × Int := if D.ask = 0 then (D.fail keep, 0) else (D, D.ask)
def DK.at (D : DK) (z : Int) : List UInt8 := (lastB (D.on ++ D.wt) z).getD zB
def DK.read (D : DK) (z : Int) : List UInt8 × Int := if D.askAt z = 0 then (D.at z, 0) else (zB, D.askAt z)
def DK.boot (D : DK) : DK × Int := if D.dead then (newD D.n D.on, 0) else (D, 50)
structure DK.Ok (D : DK) : Prop where
  n0 : 64 ≤ D.n
  n1 : D.n ≤ 8192
  c0 : 0 ≤ D.cut
  c1 : D.cut ≤ 9223372036854775807
  on : ∀ p ∈ D.on, 0 ≤ p.1 ∧ p.1 < D.n ∧ p.2.length = 512
  wt : ∀ p ∈ D.wt, 0 ≤ p.1 ∧ p.1 < D.n ∧ p.2.length = 512
theorem DK.Ok.fail {D : DK} (h : D.Ok) (keep : List Bool) : (D.fail keep).Ok :=
  ⟨h.n0, h.n1, by simp [DK.fail], by simp [DK.fail], fun p hp => by
    rcases List.mem_append.1 hp with hp | hp
    · exact h.on p hp
    · exact h.wt p (kept_sub hp), by simp [DK.fail]⟩
theorem DK.Ok.count {D : DK} (h : D.Ok) : D.count.1.Ok := by
  have h2 := h.c1
  unfold DK.count
  split
  · exact h
  · split
    · exact ⟨h.n0, h.n1, by simp only; omega, by simp only; omega, h.on, h.wt⟩
    · exact h.fail _

/-! How a disk lies in memory. -/
def bval (l : List UInt8) : Value := .agg (bvs l).toArray
/-- What a call may have changed, and made, of what belongs to S. -/
def gr (S : Nat → Prop) (w w' : World) : Nat → Prop := fun i => S i ∨ (w.heap.size ≤ i ∧ i < w'.heap.size)
/-- What stands in the map of the newest ones. -/
def ixV (l : List Wr) (a : Int) : Option Value := (lastIx l a).map fun (i : Nat) => Value.int .i64 (i : Int)
structure DkP (w : World) (S : Nat → Prop) (g mo mn : Nat) (sv kv : Value) (D : DK) : Prop where
  hg : w.heap[g]? = some (.cells #[.int .i64 D.n, .map (some mo), sv, .map (some mn), .int .i64 D.cut, kv, .bool D.dead] 104 (0, 0))
  on : MapI w mo fun a => (lastB D.on a).map bval
  nw : MapI w mn (ixV D.wt)
  ne : mo ≠ mn
  wt : OwnR w 0 107 513 One sv D.wt.length (wcs D.wt)
  kp : OwnR w 0 4 1 One kv D.keep.length (bcs D.keep)
  sg : S g
  so : S mo
  sn : S mn
  sw : ∀ b, sv.ownBlock = some b → S b
  sk : ∀ b, kv.ownBlock = some b → S b
  ok : D.Ok
def DkAt (w : World) (S : Nat → Prop) (g : Nat) (D : DK) : Prop := ∃ mo mn sv kv, DkP w S g mo mn sv kv D
/-- A call on disk g of S, which makes it D. -/
def DkTo (S : Nat → Prop) (w w' : World) (g : Nat) (D : DK) : Prop := DkAt w' (gr S w w') g D ∧ Mut S w w'
theorem DkP.mono {w : World} {S S' : Nat → Prop} {g mo mn : Nat} {sv kv : Value} {D : DK} (h : DkP w S g mo mn sv kv D) (k : ∀ i, S i → S' i) : DkP w S' g mo mn sv kv D :=
  { h with sg := k _ h.sg, so := k _ h.so, sn := k _ h.sn, sw := fun b hb => k _ (h.sw b hb), sk := fun b hb => k _ (h.sk b hb) }
theorem DkAt.mono {w : World} {S S' : Nat → Prop} {g : Nat} {D : DK} (h : DkAt w S g D) (k : ∀ i, S i → S' i) : DkAt w S' g D := by
  obtain ⟨mo, mn, sv, kv, h⟩ := h
  exact ⟨mo, mn, sv, kv, h.mono k⟩
theorem DkTo.refl {w : World} {S : Nat → Prop} {g : Nat} {D : DK} (h : DkAt w S g D) : DkTo S w w g D := ⟨h.mono fun i hi => .inl hi, Mut.refl _ _⟩
theorem DkTo.trans {S : Nat → Prop} {a b c : World} {g : Nat} {D D' : DK} (h : DkTo S a b g D) (k : DkTo (gr S a b) b c g D') : DkTo S a c g D' := by
  refine ⟨k.1.mono fun i hi => ?_, h.2.os ▸ k.2.os, h.2.tape ▸ k.2.tape, h.2.output ▸ k.2.output, Nat.le_trans h.2.size k.2.size, fun i hi hn => (k.2.block i (Nat.lt_of_lt_of_le hi h.2.size) ?_).trans (h.2.block i hi hn)⟩
  · have h1 := h.2.size
    have h2 := k.2.size
    rcases hi with (hi | hi) | hi
    · exact .inl hi
    · exact .inr (by omega)
    · exact .inr (by omega)
  · rintro (h1 | h1)
    · exact hn h1
    · omega
/-- Ahead of a step on a disk, memory was added. -/
theorem DkTo.after_ext {S : Nat → Prop} {a b c : World} {g : Nat} {D : DK} (h : Ext a b) (k : DkTo S b c g D) : DkTo S a c g D := by
  have hs := h.size
  have hs2 := k.2.size
  refine ⟨k.1.mono fun i hi => ?_, (Mut.of_ext h).trans k.2⟩
  rcases hi with hi | hi
  · exact .inl hi
  · exact .inr (by omega)
theorem OwnR.set {w : World} {B g : Nat} {T T' : TypeId} {sz : Nat} {C : Value → Prop} {v : Value} {n : Nat} {cs : List Value} {row row' : Array Value} {fr : Nat × Nat} (h : OwnR w B T sz C v n cs) (hg : w.heap[g]? = some (.cells row T' fr)) (hT : T ≠ T') : OwnR (w.setRow g row') B T sz C v n cs := by
  obtain ⟨h0, h⟩ := h
  refine ⟨h0, h.imp id ?_⟩
  rintro ⟨g', c, junk, rfl, hB, hg', hc⟩
  refine ⟨g', c, junk, rfl, hB, ?_, hc⟩
  rw [setRow_other _ _ _ _ (fun e => by subst e; rw [hg] at hg'; simp at hg'; exact hT hg'.2.1.symm)]
  exact hg'
theorem OwnR.mutO {w w' : World} {S : Nat → Prop} {B : Nat} {T : TypeId} {sz : Nat} {C : Value → Prop} {v : Value} {n : Nat} {cs : List Value} (h : OwnR w B T sz C v n cs) (k : Mut S w w') (hn : ∀ b, v.ownBlock = some b → ¬ S b) : OwnR w' B T sz C v n cs := by
  obtain ⟨h0, h⟩ := h
  refine ⟨h0, h.imp id ?_⟩
  rintro ⟨g', c, junk, rfl, hB, hg', hc⟩
  exact ⟨g', c, junk, rfl, hB, (k.block g' (Array.getElem?_eq_some_iff.1 hg').1 (hn g' (by simp [Value.ownBlock]))).trans hg', hc⟩
theorem MapI.set {w : World} {b g : Nat} {F : Int → Option Value} {T' : TypeId} {row row' : Array Value} {fr : Nat × Nat} (h : MapI w b F) (hg : w.heap[g]? = some (.cells row T' fr)) : MapI (w.setRow g row') b F := by
  refine h.of_block (setRow_other _ _ _ _ fun e => ?_)
  subst e
  obtain ⟨es, clock, hb, _⟩ := h
  rw [hg] at hb
  cases hb
theorem mut_setRow {S : Nat → Prop} {w : World} {g : Nat} (h : S g) (row : Array Value) : Mut S w (w.setRow g row) :=
  ⟨rfl, rfl, rfl, by simp [World.setRow], fun i _ hn => setRow_other w g i _ fun e => hn (e ▸ h)⟩
/-- A block of seven cells. -/
theorem blk7 {w : World} {g : Nat} {T : TypeId} {a b c d e f h : Value} (k : w.heap[g]? = some (.cells #[a, b, c, d, e, f, h] T (0, 0))) :
    w.cell? ⟨g, 0, none⟩ = some a ∧ w.cell? ⟨g, 1, none⟩ = some b ∧ w.cell? ⟨g, 2, none⟩ = some c ∧ w.cell? ⟨g, 3, none⟩ = some d ∧ w.cell? ⟨g, 4, none⟩ = some e ∧ w.cell? ⟨g, 5, none⟩ = some f ∧ w.cell? ⟨g, 6, none⟩ = some h ∧ (∀ o, w.frozen? ⟨g, o, none⟩ = false) ∧ g < w.heap.size :=
  ⟨by simp [World.cell?, k], by simp [World.cell?, k], by simp [World.cell?, k], by simp [World.cell?, k], by simp [World.cell?, k], by simp [World.cell?, k], by simp [World.cell?, k], fun o => by simp [World.frozen?, k], (Array.getElem?_eq_some_iff.1 k).1⟩
theorem DkP.mutw {w w' : World} {S T : Nat → Prop} {g mo mn : Nat} {sv kv : Value} {D : DK} (h : DkP w S g mo mn sv kv D) (k : Mut T w w') (hd : ∀ i, S i → ¬ T i) : DkP w' S g mo mn sv kv D :=
  { h with
    hg := (k.block g (Array.getElem?_eq_some_iff.1 h.hg).1 (hd _ h.sg)).trans h.hg
    on := h.on.mut k (hd _ h.so)
    nw := h.nw.mut k (hd _ h.sn)
    wt := h.wt.mutO k fun b hb => hd _ (h.sw b hb)
    kp := h.kp.mutO k fun b hb => hd _ (h.sk b hb) }
theorem DkAt.mutw {w w' : World} {S T : Nat → Prop} {g : Nat} {D : DK} (h : DkAt w S g D) (k : Mut T w w') (hd : ∀ i, S i → ¬ T i) : DkAt w' S g D := by
  obtain ⟨mo, mn, sv, kv, h⟩ := h
  exact ⟨mo, mn, sv, kv, h.mutw k hd⟩
theorem DkP.ext {w w' : World} {S : Nat → Prop} {g mo mn : Nat} {sv kv : Value} {D : DK} (h : DkP w S g mo mn sv kv D) (k : Ext w w') : DkP w' S g mo mn sv kv D :=
  h.mutw (T := fun _ => False) (Mut.of_ext k) fun _ _ h => h
theorem DkAt.ext {w w' : World} {S : Nat → Prop} {g : Nat} {D : DK} (h : DkAt w S g D) (k : Ext w w') : DkAt w' S g D := h.mutw (T := fun _ => False) (Mut.of_ext k) fun _ _ h => h
theorem DkTo.of_ext {w w' : World} {S : Nat → Prop} {g : Nat} {D : DK} (h : DkAt w S g D) (k : Ext w w') : DkTo S w w' g D := ⟨(h.ext k).mono fun i hi => .inl hi, Mut.of_ext k⟩
/-- Its cells are written: the cut, the row that is kept, whether it is dead. -/
theorem DkP.cells {w : World} {S : Nat → Prop} {g mo mn : Nat} {sv kv : Value} {D D' : DK} (h : DkP w S g mo mn sv kv D) (sv' kv' : Value) (hn : D'.n = D.n) (ho : D'.on = D.on) (hi : ∀ a, lastIx D'.wt a = lastIx D.wt a) (hok : D'.Ok)
    (hw : OwnR w 0 107 513 One sv' D'.wt.length (wcs D'.wt)) (hk : OwnR w 0 4 1 One kv' D'.keep.length (bcs D'.keep)) (sw : ∀ b, sv'.ownBlock = some b → S b) (sk : ∀ b, kv'.ownBlock = some b → S b) :
    DkP (w.setRow g #[.int .i64 D'.n, .map (some mo), sv', .map (some mn), .int .i64 D'.cut, kv', .bool D'.dead]) S g mo mn sv' kv' D' where
  hg := setRow_heap _ _ _ _ _ _ h.hg
  on := by rw [ho]; exact h.on.set h.hg
  nw := (h.nw.set h.hg).cong fun a => by unfold ixV; rw [hi]
  ne := h.ne
  wt := hw.set h.hg (by decide)
  kp := hk.set h.hg (by decide)
  sg := h.sg
  so := h.so
  sn := h.sn
  sw := sw
  sk := sk
  ok := hok
end Go.Proofs.Ytobcfocbglkicaa
