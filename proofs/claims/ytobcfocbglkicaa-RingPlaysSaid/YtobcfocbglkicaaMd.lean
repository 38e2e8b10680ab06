/- Texts of mine in one: DkA, DkB, DkC, DkD, DkE, DkF, DkG, DkH, DkI, DkJ. No statement of its own. -/
import Derived.Test.YtobcfocbglkicaaMapI
import Derived.Test.YtobcfocbglkicaaMb
import Derived.Carry
import Derived.Deep.DeepCutAuto
import Derived.Great.CaseRows
import Derived.Laws.Externs
set_option linter.unusedVariables false
set_option maxRecDepth 100000
namespace Go.Proofs.Ytobcfocbglkicaa
section
set_option linter.unusedVariables false
set_option maxRecDepth 100000
open Go.RowKit

/-! Writes in their order. -/
abbrev Wr := Int × List UInt8
def lastB (l : List Wr) (z : Int) : Option (List UInt8) := (l.reverse.find? fun p => decide (p.1 = z)).map (·.2)
def lastIx (l : List Wr) (z : Int) : Option Nat := (l.zipIdx.reverse.find? fun p => decide (p.1.1 = z)).map (·.2)
theorem snoc_ind {α : Type} {p : List α → Prop} (h0 : p []) (h1 : ∀ l a, p l → p (l ++ [a])) (l : List α) : p l := by
  have h : ∀ m : List α, p m.reverse := fun m => by
    induction m with
    | nil => exact h0
    | cons a m ih => rw [List.reverse_cons]; exact h1 _ _ ih
  have := h l.reverse
  rwa [List.reverse_reverse] at this
theorem lastB_snoc (l : List Wr) (p : Wr) (z : Int) : lastB (l ++ [p]) z = if p.1 = z then some p.2 else lastB l z := by
  unfold lastB
  rw [List.reverse_append, List.reverse_singleton, List.singleton_append, List.find?_cons]
  by_cases h : p.1 = z <;> simp [h]
theorem lastIx_snoc (l : List Wr) (p : Wr) (z : Int) : lastIx (l ++ [p]) z = if p.1 = z then some l.length else lastIx l z := by
  unfold lastIx
  rw [List.zipIdx_append, List.reverse_append]
  simp only [List.zipIdx_cons, List.zipIdx_nil, List.reverse_singleton, List.singleton_append, List.find?_cons]
  by_cases h : p.1 = z <;> simp [h]
theorem lastB_append (l m : List Wr) (z : Int) : lastB (l ++ m) z = (lastB m z).or (lastB l z) := by
  unfold lastB
  rw [List.reverse_append, List.find?_append]
  cases List.find? (fun p => decide (p.1 = z)) m.reverse <;> simp
theorem lastIx_spec (z : Int) : ∀ l : List Wr, (lastIx l z = none ∧ lastB l z = none) ∨ ∃ i b, lastIx l z = some i ∧ l[i]? = some (z, b) ∧ lastB l z = some b := by
  refine snoc_ind (.inl ⟨rfl, rfl⟩) fun l p ih => ?_
  rw [lastIx_snoc, lastB_snoc]
  by_cases h : p.1 = z
  · refine .inr ⟨l.length, p.2, by rw [if_pos h], ?_, by rw [if_pos h]⟩
    simp
    exact Prod.ext h rfl
  · rw [if_neg h, if_neg h]
    rcases ih with ih | ⟨i, b, h1, h2, h3⟩
    · exact .inl ih
    · exact .inr ⟨i, b, h1, by rw [List.getElem?_append_left (List.getElem?_eq_some_iff.1 h2).1]; exact h2, h3⟩
theorem lastB_mem {l : List Wr} {z : Int} {b : List UInt8} (h : lastB l z = some b) : (z, b) ∈ l := by
  rcases lastIx_spec z l with ⟨_, h2⟩ | ⟨i, b', _, h2, h3⟩
  · rw [h] at h2; cases h2
  · rw [h] at h3
    cases h3
    exact List.mem_of_getElem? h2

def wcell (p : Wr) : List Value := .int .i64 p.1 :: bvs p.2
def wcs (l : List Wr) : List Value := l.flatMap wcell
theorem wcell_length {p : Wr} (h : p.2.length = 512) : (wcell p).length = 513 := by simp [wcell, bvs, h]
theorem wcs_snoc (l : List Wr) (p : Wr) : wcs (l ++ [p]) = wcs l ++ wcell p := by simp [wcs]
theorem wcs_length : ∀ (l : List Wr), (∀ p ∈ l, p.2.length = 512) → (wcs l).length = l.length * 513
  | [], _ => by simp [wcs]
  | p :: l, h => by
    have ih := wcs_length l fun q hq => h q (List.mem_cons_of_mem _ hq)
    have h1 := wcell_length (h p (by simp))
    show (wcell p ++ wcs l).length = _
    rw [List.length_append, ih, h1, List.length_cons]
    omega
theorem wcs_get : ∀ (l : List Wr), (∀ p ∈ l, p.2.length = 512) → ∀ {i : Nat} {p : Wr}, l[i]? = some p → ∀ {j : Nat}, j < 513 → (wcs l)[i * 513 + j]? = (wcell p)[j]?
  | [], _, i, p, h, _, _ => by simp at h
  | q :: l, h, i, p, hi, j, hj => by
    have h1 := wcell_length (h q (by simp))
    show (wcell q ++ wcs l)[_]? = _
    cases i with
    | zero =>
      simp only [List.getElem?_cons_zero, Option.some.injEq] at hi
      subst hi
      rw [Nat.zero_mul, Nat.zero_add, List.getElem?_append_left (by omega)]
    | succ i =>
      simp only [List.getElem?_cons_succ] at hi
      rw [List.getElem?_append_right (by omega), h1, show (i + 1) * 513 + j - 513 = i * 513 + j by omega]
      exact wcs_get l (fun q hq => h q (List.mem_cons_of_mem _ hq)) hi hj
def One (v : Value) : Prop := v.oneCell' = true
theorem wcell_one (p : Wr) : ∀ u ∈ wcell p, One u := by
  intro u hu
  rcases List.mem_cons.1 hu with rfl | hu
  · rfl
  · obtain ⟨b, _, rfl⟩ := List.mem_map.1 hu
    rfl
theorem wcs_one (l : List Wr) : ∀ u ∈ wcs l, One u := by
  intro u hu
  obtain ⟨p, _, hp⟩ := List.mem_flatMap.1 hu
  exact wcell_one p u hp
def bcs (l : List Bool) : List Value := l.map .bool
theorem bcs_one (l : List Bool) : ∀ u ∈ bcs l, One u := by
  intro u hu
  obtain ⟨b, _, rfl⟩ := List.mem_map.1 hu
  rfl

/-! A disk's states. -/
structure DK where
  n : Int
  on : List Wr
  wt : List Wr
  cut : Int
  keep : List Bool
  dead : Bool
def newD (n : Int) (on : List Wr) : DK := ⟨n, on, [], 0, [], false⟩
/-- The writes that wait and have a yes. -/
def kept (keep : List Bool) (l : List Wr) : List Wr := (l.zipIdx.filter fun p => keep.getD p.2 false).map (·.1)
theorem kept_snoc (keep : List Bool) (l : List Wr) (p : Wr) : kept keep (l ++ [p]) = kept keep l ++ (if keep.getD l.length false then [p] else []) := by
  unfold kept
  rw [List.zipIdx_append, List.filter_append, List.map_append]
  simp only [List.zipIdx_cons, List.zipIdx_nil, Nat.zero_add, List.filter_cons, List.filter_nil]
  by_cases h : keep.getD l.length false = true
  · rw [if_pos h, if_pos h]; rfl
  · rw [if_neg h, if_neg h]; rfl
theorem kept_sub {keep : List Bool} {l : List Wr} {p : Wr} (h : p ∈ kept keep l) : p ∈ l := by
  obtain ⟨q, hq, rfl⟩ := List.mem_map.1 h
  exact (List.mem_zipIdx' (List.mem_filter.1 hq).1).2 ▸ List.getElem_mem _
def DK.fail (D : DK) (keep : List Bool) : DK := ⟨D.n, D.on ++ kept keep D.wt, [], 0, [], true⟩
/-- A write or a flush is counted. -/
def DK.count (D : DK) : DK × Int := if D.cut = 0 then (D, 0) else if 0 < D.cut - 1 then ({ D with cut := D.cut - 1 }, 0) else (D.fail D.keep, 51)
def DK.ask (D : DK) : Int := if D.dead then 51 else 0
def DK.askAt (D : DK) (z : Int) : Int := if D.dead then 51 else if 0 ≤ z ∧ z < D.n then 0 else 1
def DK.write (D : DK) (z : Int) (b : List UInt8) : DK × Int := if D.askAt z = 0 then DK.count { D with wt := D.wt ++ [(z, b)] } else (D, D.askAt z)
def DK.flush (D : DK) : DK × Int := if D.ask = 0 then if D.count.2 = 0 then ({ D.count.1 with on := D.on ++ D.wt, wt := [] }, 0) else D.count else (D, D.ask)
def DK.say (D : DK) (n : Int) (keep : List Bool) : DK × Int := if D.ask = 0 then if 0 ≤ n then ({ D with cut := n, keep := if 0 < n then keep else [] }, 0) else (D, 1) else (D, D.ask)
def DK.Fail (D : DK) (keep : List Bool) : DK × Int := if D.ask = 0 then (D.fail keep, 0) else (D, D.ask)
def DK.at (D : DK) (z : Int) : List UInt8 := (lastB (D.on ++ D.wt) z).getD zB
def DK.read (D : DK) (z : Int) : List UInt8 × Int := if D.askAt z = 0 then (D.at z, 0) else (zB, D.askAt z)
def DK.boot (D : DK) : DK × Int := if D.dead then (newD D.n D.on, 0) else (D, 50)
structure DK.Ok (D : DK) : Prop where
  n0 : 64 ≤ D.n
  n1 : D.n ≤ 8192
  c0 : 0 ≤ D.cut
  c1 : D.cut ≤ 9223372036854775807
  on : ∀ p ∈ D.on, 0 ≤ p.1 ∧ p.1 < D.n ∧ p.2.length = 512
  wt : ∀ p ∈ D.wt, 0 ≤ p.1 ∧ p.1 < D.n ∧ p.2.length = 512
theorem DK.Ok.fail {D : DK} (h : D.Ok) (keep : List Bool) : (D.fail keep).Ok :=
  ⟨h.n0, h.n1, by simp [DK.fail], by simp [DK.fail], fun p hp => by
    rcases List.mem_append.1 hp with hp | hp
    · exact h.on p hp
    · exact h.wt p (kept_sub hp), by simp [DK.fail]⟩
theorem DK.Ok.count {D : DK} (h : D.Ok) : D.count.1.Ok := by
  have h2 := h.c1
  unfold DK.count
  split
  · exact h
  · split
    · exact ⟨h.n0, h.n1, by simp only; omega, by simp only; omega, h.on, h.wt⟩
    · exact h.fail _

/-! How a disk lies in memory. -/
def bval (l : List UInt8) : Value := .agg (bvs l).toArray
/-- What a call may have changed, and made, of what belongs to S. -/
def gr (S : Nat → Prop) (w w' : World) : Nat → Prop := fun i => S i ∨ (w.heap.size ≤ i ∧ i < w'.heap.size)
/-- What stands in the map of the newest ones. -/
def ixV (l : List Wr) (a : Int) : Option Value := (lastIx l a).map fun (i : Nat) => Value.int .i64 (i : Int)
structure DkP (w : World) (S : Nat → Prop) (g mo mn : Nat) (sv kv : Value) (D : DK) : Prop where
  hg : w.heap[g]? = some (.cells #[.int .i64 D.n, .map (some mo), sv, .map (some mn), .int .i64 D.cut, kv, .bool D.dead] 104 (0, 0))
  on : MapI w mo fun a => (lastB D.on a).map bval
  nw : MapI w mn (ixV D.wt)
  ne : mo ≠ mn
  wt : OwnR w 0 107 513 One sv D.wt.length (wcs D.wt)
  kp : OwnR w 0 4 1 One kv D.keep.length (bcs D.keep)
  sg : S g
  so : S mo
  sn : S mn
  sw : ∀ b, sv.ownBlock = some b → S b
  sk : ∀ b, kv.ownBlock = some b → S b
  ok : D.Ok
def DkAt (w : World) (S : Nat → Prop) (g : Nat) (D : DK) : Prop := ∃ mo mn sv kv, DkP w S g mo mn sv kv D
/-- A call on disk g of S, which makes it D. -/
def DkTo (S : Nat → Prop) (w w' : World) (g : Nat) (D : DK) : Prop := DkAt w' (gr S w w') g D ∧ Mut S w w'
theorem DkP.mono {w : World} {S S' : Nat → Prop} {g mo mn : Nat} {sv kv : Value} {D : DK} (h : DkP w S g mo mn sv kv D) (k : ∀ i, S i → S' i) : DkP w S' g mo mn sv kv D :=
  { h with sg := k _ h.sg, so := k _ h.so, sn := k _ h.sn, sw := fun b hb => k _ (h.sw b hb), sk := fun b hb => k _ (h.sk b hb) }
theorem DkAt.mono {w : World} {S S' : Nat → Prop} {g : Nat} {D : DK} (h : DkAt w S g D) (k : ∀ i, S i → S' i) : DkAt w S' g D := by
  obtain ⟨mo, mn, sv, kv, h⟩ := h
  exact ⟨mo, mn, sv, kv, h.mono k⟩
theorem DkTo.refl {w : World} {S : Nat → Prop} {g : Nat} {D : DK} (h : DkAt w S g D) : DkTo S w w g D := ⟨h.mono fun i hi => .inl hi, Mut.refl _ _⟩
theorem DkTo.trans {S : Nat → Prop} {a b c : World} {g : Nat} {D D' : DK} (h : DkTo S a b g D) (k : DkTo (gr S a b) b c g D') : DkTo S a c g D' := by
  refine ⟨k.1.mono fun i hi => ?_, h.2.os ▸ k.2.os, h.2.tape ▸ k.2.tape, h.2.output ▸ k.2.output, Nat.le_trans h.2.size k.2.size, fun i hi hn => (k.2.block i (Nat.lt_of_lt_of_le hi h.2.size) ?_).trans (h.2.block i hi hn)⟩
  · have h1 := h.2.size
    have h2 := k.2.size
    rcases hi with (hi | hi) | hi
    · exact .inl hi
    · exact .inr (by omega)
    · exact .inr (by omega)
  · rintro (h1 | h1)
    · exact hn h1
    · omega
/-- Ahead of a step on a disk, memory was added. -/
theorem DkTo.after_ext {S : Nat → Prop} {a b c : World} {g : Nat} {D : DK} (h : Ext a b) (k : DkTo S b c g D) : DkTo S a c g D := by
  have hs := h.size
  have hs2 := k.2.size
  refine ⟨k.1.mono fun i hi => ?_, (Mut.of_ext h).trans k.2⟩
  rcases hi with hi | hi
  · exact .inl hi
  · exact .inr (by omega)
theorem OwnR.set {w : World} {B g : Nat} {T T' : TypeId} {sz : Nat} {C : Value → Prop} {v : Value} {n : Nat} {cs : List Value} {row row' : Array Value} {fr : Nat × Nat} (h : OwnR w B T sz C v n cs) (hg : w.heap[g]? = some (.cells row T' fr)) (hT : T ≠ T') : OwnR (w.setRow g row') B T sz C v n cs := by
  obtain ⟨h0, h⟩ := h
  refine ⟨h0, h.imp id ?_⟩
  rintro ⟨g', c, junk, rfl, hB, hg', hc⟩
  refine ⟨g', c, junk, rfl, hB, ?_, hc⟩
  rw [setRow_other _ _ _ _ (fun e => by subst e; rw [hg] at hg'; simp at hg'; exact hT hg'.2.1.symm)]
  exact hg'
theorem OwnR.mutO {w w' : World} {S : Nat → Prop} {B : Nat} {T : TypeId} {sz : Nat} {C : Value → Prop} {v : Value} {n : Nat} {cs : List Value} (h : OwnR w B T sz C v n cs) (k : Mut S w w') (hn : ∀ b, v.ownBlock = some b → ¬ S b) : OwnR w' B T sz C v n cs := by
  obtain ⟨h0, h⟩ := h
  refine ⟨h0, h.imp id ?_⟩
  rintro ⟨g', c, junk, rfl, hB, hg', hc⟩
  exact ⟨g', c, junk, rfl, hB, (k.block g' (Array.getElem?_eq_some_iff.1 hg').1 (hn g' (by simp [Value.ownBlock]))).trans hg', hc⟩
theorem MapI.set {w : World} {b g : Nat} {F : Int → Option Value} {T' : TypeId} {row row' : Array Value} {fr : Nat × Nat} (h : MapI w b F) (hg : w.heap[g]? = some (.cells row T' fr)) : MapI (w.setRow g row') b F := by
  refine h.of_block (setRow_other _ _ _ _ fun e => ?_)
  subst e
  obtain ⟨es, clock, hb, _⟩ := h
  rw [hg] at hb
  cases hb
theorem mut_setRow {S : Nat → Prop} {w : World} {g : Nat} (h : S g) (row : Array Value) : Mut S w (w.setRow g row) :=
  ⟨rfl, rfl, rfl, by simp [World.setRow], fun i _ hn => setRow_other w g i _ fun e => hn (e ▸ h)⟩
/-- A block of seven cells. -/
theorem blk7 {w : World} {g : Nat} {T : TypeId} {a b c d e f h : Value} (k : w.heap[g]? = some (.cells #[a, b, c, d, e, f, h] T (0, 0))) :
    w.cell? ⟨g, 0, none⟩ = some a ∧ w.cell? ⟨g, 1, none⟩ = some b ∧ w.cell? ⟨g, 2, none⟩ = some c ∧ w.cell? ⟨g, 3, none⟩ = some d ∧ w.cell? ⟨g, 4, none⟩ = some e ∧ w.cell? ⟨g, 5, none⟩ = some f ∧ w.cell? ⟨g, 6, none⟩ = some h ∧ (∀ o, w.frozen? ⟨g, o, none⟩ = false) ∧ g < w.heap.size :=
  ⟨by simp [World.cell?, k], by simp [World.cell?, k], by simp [World.cell?, k], by simp [World.cell?, k], by simp [World.cell?, k], by simp [World.cell?, k], by simp [World.cell?, k], fun o => by simp [World.frozen?, k], (Array.getElem?_eq_some_iff.1 k).1⟩
theorem DkP.mutw {w w' : World} {S T : Nat → Prop} {g mo mn : Nat} {sv kv : Value} {D : DK} (h : DkP w S g mo mn sv kv D) (k : Mut T w w') (hd : ∀ i, S i → ¬ T i) : DkP w' S g mo mn sv kv D :=
  { h with
    hg := (k.block g (Array.getElem?_eq_some_iff.1 h.hg).1 (hd _ h.sg)).trans h.hg
    on := h.on.mut k (hd _ h.so)
    nw := h.nw.mut k (hd _ h.sn)
    wt := h.wt.mutO k fun b hb => hd _ (h.sw b hb)
    kp := h.kp.mutO k fun b hb => hd _ (h.sk b hb) }
theorem DkAt.mutw {w w' : World} {S T : Nat → Prop} {g : Nat} {D : DK} (h : DkAt w S g D) (k : Mut T w w') (hd : ∀ i, S i → ¬ T i) : DkAt w' S g D := by
  obtain ⟨mo, mn, sv, kv, h⟩ := h
  exact ⟨mo, mn, sv, kv, h.mutw k hd⟩
theorem DkP.ext {w w' : World} {S : Nat → Prop} {g mo mn : Nat} {sv kv : Value} {D : DK} (h : DkP w S g mo mn sv kv D) (k : Ext w w') : DkP w' S g mo mn sv kv D :=
  h.mutw (T := fun _ => False) (Mut.of_ext k) fun _ _ h => h
theorem DkAt.ext {w w' : World} {S : Nat → Prop} {g : Nat} {D : DK} (h : DkAt w S g D) (k : Ext w w') : DkAt w' S g D := h.mutw (T := fun _ => False) (Mut.of_ext k) fun _ _ h => h
theorem DkTo.of_ext {w w' : World} {S : Nat → Prop} {g : Nat} {D : DK} (h : DkAt w S g D) (k : Ext w w') : DkTo S w w' g D := ⟨(h.ext k).mono fun i hi => .inl hi, Mut.of_ext k⟩
/-- Its cells are written: the cut, the row that is kept, whether it is dead. -/
theorem DkP.cells {w : World} {S : Nat → Prop} {g mo mn : Nat} {sv kv : Value} {D D' : DK} (h : DkP w S g mo mn sv kv D) (sv' kv' : Value) (hn : D'.n = D.n) (ho : D'.on = D.on) (hi : ∀ a, lastIx D'.wt a = lastIx D.wt a) (hok : D'.Ok)
    (hw : OwnR w 0 107 513 One sv' D'.wt.length (wcs D'.wt)) (hk : OwnR w 0 4 1 One kv' D'.keep.length (bcs D'.keep)) (sw : ∀ b, sv'.ownBlock = some b → S b) (sk : ∀ b, kv'.ownBlock = some b → S b) :
    DkP (w.setRow g #[.int .i64 D'.n, .map (some mo), sv', .map (some mn), .int .i64 D'.cut, kv', .bool D'.dead]) S g mo mn sv' kv' D' where
  hg := setRow_heap _ _ _ _ _ _ h.hg
  on := by rw [ho]; exact h.on.set h.hg
  nw := (h.nw.set h.hg).cong fun a => by unfold ixV; rw [hi]
  ne := h.ne
  wt := hw.set h.hg (by decide)
  kp := hk.set h.hg (by decide)
  sg := h.sg
  so := h.so
  sn := h.sn
  sw := sw
  sk := sk
  ok := hok
end

section
set_option linter.unusedVariables false
set_option maxRecDepth 100000
open Go.RowKit

set_option maxHeartbeats 1000000 in
theorem ask_any {S : Nat → Prop} {g : Nat} {D : DK} (w : World) (h : DkAt w S g D) :
    Calls Try.prog 66 #[.pointer (some ⟨g, 0, none⟩)] w fun e w' => e = .returned (.int .i64 D.ask) ∧ Below w.heap.size w w' := by
  obtain ⟨mo, mn, sv, kv, h⟩ := h
  obtain ⟨c0, c1, c2, c3, c4, c5, c6, fz, hlt⟩ := blk7 h.hg
  obtain ⟨n, on, wt, cut, keep, dead⟩ := D
  simp only at c0 c1 c2 c3 c4 c5 c6
  cases dead
  · go_enter Try.func66, Try.ntmps66
    go_wp2
    go_ret
    exact ⟨rfl, by (repeat' (first | (with_reducible assumption) | (with_reducible exact Below.refl _ _) | (with_reducible refine below_sc ?_ ?_) | ((with_reducible show (_ : Nat) ≤ _); omega) | refine Below.setCell ?_ (by first | omega | (simp; done) | (simp; omega)) _ | refine Below.alloc ?_ (by first | omega | (simp; done) | (simp; omega)) _ | refine Below.drew ?_ | refine below_drewN ?_ _ | refine Below.trans ?_ (Below.mono (by assumption) (by first | omega | (simp; done) | (simp; omega)))))⟩
  · go_enter Try.func66, Try.ntmps66
    go_wp2
    go_ret
    exact ⟨rfl, by (repeat' (first | (with_reducible assumption) | (with_reducible exact Below.refl _ _) | (with_reducible refine below_sc ?_ ?_) | ((with_reducible show (_ : Nat) ≤ _); omega) | refine Below.setCell ?_ (by first | omega | (simp; done) | (simp; omega)) _ | refine Below.alloc ?_ (by first | omega | (simp; done) | (simp; omega)) _ | refine Below.drew ?_ | refine below_drewN ?_ _ | refine Below.trans ?_ (Below.mono (by assumption) (by first | omega | (simp; done) | (simp; omega)))))⟩
set_option maxHeartbeats 1000000 in
theorem askAt_any {S : Nat → Prop} {g : Nat} {D : DK} (z : Int) (w : World) (h : DkAt w S g D) :
    Calls Try.prog 70 #[.pointer (some ⟨g, 0, none⟩), .int .i64 z] w fun e w' => e = .returned (.int .i64 (D.askAt z)) ∧ Below w.heap.size w w' := by
  have h0 := h
  have K := fun w (h : DkAt w S g D) => ask_any w h
  obtain ⟨mo, mn, sv, kv, h⟩ := h
  obtain ⟨c0, c1, c2, c3, c4, c5, c6, fz, hlt⟩ := blk7 h.hg
  obtain ⟨n, on, wt, cut, keep, dead⟩ := D
  simp only at c0 c1 c2 c3 c4 c5 c6
  cases dead
  · rw [show DK.ask ⟨n, on, wt, cut, keep, false⟩ = 0 from rfl] at K
    by_cases h1 : z < 0
    · rw [show DK.askAt ⟨n, on, wt, cut, keep, false⟩ z = 1 by simp [DK.askAt]; omega]
      go_enter Try.func70, Try.ntmps70
      go_wp2_with (go_at_call 66; refine (K _ h0).mono ?_; rintro e w1 ⟨rfl, hb1⟩; have hz1 := hb1.size; (try simp only [World.size_alloc] at hz1))
      go_ret
      exact ⟨rfl, by (repeat' (first | (with_reducible assumption) | (with_reducible exact Below.refl _ _) | (with_reducible refine below_sc ?_ ?_) | ((with_reducible show (_ : Nat) ≤ _); omega) | refine Below.setCell ?_ (by first | omega | (simp; done) | (simp; omega)) _ | refine Below.alloc ?_ (by first | omega | (simp; done) | (simp; omega)) _ | refine Below.drew ?_ | refine below_drewN ?_ _ | refine Below.trans ?_ (Below.mono (by assumption) (by first | omega | (simp; done) | (simp; omega)))))⟩
    · by_cases h2 : n ≤ z
      · rw [show DK.askAt ⟨n, on, wt, cut, keep, false⟩ z = 1 by simp [DK.askAt]; omega]
        go_enter Try.func70, Try.ntmps70
        go_wp2_with (go_at_call 66; refine (K _ h0).mono ?_; rintro e w1 ⟨rfl, hb1⟩; have hz1 := hb1.size; (try simp only [World.size_alloc] at hz1); rw [← (hb1.cell (p := ⟨g, 0, none⟩) hlt)] at c0)
        go_ret
        exact ⟨rfl, by (repeat' (first | (with_reducible assumption) | (with_reducible exact Below.refl _ _) | (with_reducible refine below_sc ?_ ?_) | ((with_reducible show (_ : Nat) ≤ _); omega) | refine Below.setCell ?_ (by first | omega | (simp; done) | (simp; omega)) _ | refine Below.alloc ?_ (by first | omega | (simp; done) | (simp; omega)) _ | refine Below.drew ?_ | refine below_drewN ?_ _ | refine Below.trans ?_ (Below.mono (by assumption) (by first | omega | (simp; done) | (simp; omega)))))⟩
      · rw [show DK.askAt ⟨n, on, wt, cut, keep, false⟩ z = 0 by simp [DK.askAt]; omega]
        go_enter Try.func70, Try.ntmps70
        go_wp2_with (go_at_call 66; refine (K _ h0).mono ?_; rintro e w1 ⟨rfl, hb1⟩; have hz1 := hb1.size; (try simp only [World.size_alloc] at hz1); rw [← (hb1.cell (p := ⟨g, 0, none⟩) hlt)] at c0)
        go_ret
        exact ⟨rfl, by (repeat' (first | (with_reducible assumption) | (with_reducible exact Below.refl _ _) | (with_reducible refine below_sc ?_ ?_) | ((with_reducible show (_ : Nat) ≤ _); omega) | refine Below.setCell ?_ (by first | omega | (simp; done) | (simp; omega)) _ | refine Below.alloc ?_ (by first | omega | (simp; done) | (simp; omega)) _ | refine Below.drew ?_ | refine below_drewN ?_ _ | refine Below.trans ?_ (Below.mono (by assumption) (by first | omega | (simp; done) | (simp; omega)))))⟩
  · rw [show DK.ask ⟨n, on, wt, cut, keep, true⟩ = 51 from rfl] at K
    rw [show DK.askAt ⟨n, on, wt, cut, keep, true⟩ z = 51 by simp [DK.askAt]]
    go_enter Try.func70, Try.ntmps70
    go_wp2_with (go_at_call 66; refine (K _ h0).mono ?_; rintro e w1 ⟨rfl, hb1⟩; have hz1 := hb1.size; (try simp only [World.size_alloc] at hz1))
    go_ret
    exact ⟨rfl, by (repeat' (first | (with_reducible assumption) | (with_reducible exact Below.refl _ _) | (with_reducible refine below_sc ?_ ?_) | ((with_reducible show (_ : Nat) ≤ _); omega) | refine Below.setCell ?_ (by first | omega | (simp; done) | (simp; omega)) _ | refine Below.alloc ?_ (by first | omega | (simp; done) | (simp; omega)) _ | refine Below.drew ?_ | refine below_drewN ?_ _ | refine Below.trans ?_ (Below.mono (by assumption) (by first | omega | (simp; done) | (simp; omega)))))⟩
set_option maxHeartbeats 1000000 in
theorem blocks_any {S : Nat → Prop} {g : Nat} {D : DK} (w : World) (h : DkAt w S g D) :
    Calls Try.prog 36 #[.pointer (some ⟨g, 0, none⟩)] w fun e w' => e = .returned (.int .i64 D.n) ∧ Below w.heap.size w w' := by
  obtain ⟨mo, mn, sv, kv, h⟩ := h
  obtain ⟨c0, c1, c2, c3, c4, c5, c6, fz, hlt⟩ := blk7 h.hg
  obtain ⟨n, on, wt, cut, keep, dead⟩ := D
  simp only at c0 c1 c2 c3 c4 c5 c6
  go_enter Try.func36, Try.ntmps36
  go_wp2
  go_ret
  exact ⟨rfl, by (repeat' (first | (with_reducible assumption) | (with_reducible exact Below.refl _ _) | (with_reducible refine below_sc ?_ ?_) | ((with_reducible show (_ : Nat) ≤ _); omega) | refine Below.setCell ?_ (by first | omega | (simp; done) | (simp; omega)) _ | refine Below.alloc ?_ (by first | omega | (simp; done) | (simp; omega)) _ | refine Below.drew ?_ | refine below_drewN ?_ _ | refine Below.trans ?_ (Below.mono (by assumption) (by first | omega | (simp; done) | (simp; omega)))))⟩
set_option maxHeartbeats 1000000 in
theorem dead_any {S : Nat → Prop} {g : Nat} {D : DK} (w : World) (h : DkAt w S g D) :
    Calls Try.prog 29 #[.pointer (some ⟨g, 0, none⟩)] w fun e w' => e = .returned (.bool D.dead) ∧ Below w.heap.size w w' := by
  obtain ⟨mo, mn, sv, kv, h⟩ := h
  obtain ⟨c0, c1, c2, c3, c4, c5, c6, fz, hlt⟩ := blk7 h.hg
  obtain ⟨n, on, wt, cut, keep, dead⟩ := D
  simp only at c0 c1 c2 c3 c4 c5 c6
  cases dead
  · go_enter Try.func29, Try.ntmps29
    go_wp2
    go_ret
    exact ⟨rfl, by (repeat' (first | (with_reducible assumption) | (with_reducible exact Below.refl _ _) | (with_reducible refine below_sc ?_ ?_) | ((with_reducible show (_ : Nat) ≤ _); omega) | refine Below.setCell ?_ (by first | omega | (simp; done) | (simp; omega)) _ | refine Below.alloc ?_ (by first | omega | (simp; done) | (simp; omega)) _ | refine Below.drew ?_ | refine below_drewN ?_ _ | refine Below.trans ?_ (Below.mono (by assumption) (by first | omega | (simp; done) | (simp; omega)))))⟩
  · go_enter Try.func29, Try.ntmps29
    go_wp2
    go_ret
    exact ⟨rfl, by (repeat' (first | (with_reducible assumption) | (with_reducible exact Below.refl _ _) | (with_reducible refine below_sc ?_ ?_) | ((with_reducible show (_ : Nat) ≤ _); omega) | refine Below.setCell ?_ (by first | omega | (simp; done) | (simp; omega)) _ | refine Below.alloc ?_ (by first | omega | (simp; done) | (simp; omega)) _ | refine Below.drew ?_ | refine below_drewN ?_ _ | refine Below.trans ?_ (Below.mono (by assumption) (by first | omega | (simp; done) | (simp; omega)))))⟩
set_option maxHeartbeats 1000000 in
theorem waiting_any {S : Nat → Prop} {g : Nat} {D : DK} (w : World) (h : DkAt w S g D) :
    Calls Try.prog 32 #[.pointer (some ⟨g, 0, none⟩)] w fun e w' => e = .returned (.int .i64 D.wt.length) ∧ Below w.heap.size w w' := by
  obtain ⟨mo, mn, sv, kv, h⟩ := h
  obtain ⟨c0, c1, c2, c3, c4, c5, c6, fz, hlt⟩ := blk7 h.hg
  obtain ⟨n, on, wt, cut, keep, dead⟩ := D
  simp only at c0 c1 c2 c3 c4 c5 c6
  obtain ⟨A, c, rfl⟩ := h.wt.form
  go_enter Try.func32, Try.ntmps32
  go_wp2
  go_ret
  exact ⟨rfl, by (repeat' (first | (with_reducible assumption) | (with_reducible exact Below.refl _ _) | (with_reducible refine below_sc ?_ ?_) | ((with_reducible show (_ : Nat) ≤ _); omega) | refine Below.setCell ?_ (by first | omega | (simp; done) | (simp; omega)) _ | refine Below.alloc ?_ (by first | omega | (simp; done) | (simp; omega)) _ | refine Below.drew ?_ | refine below_drewN ?_ _ | refine Below.trans ?_ (Below.mono (by assumption) (by first | omega | (simp; done) | (simp; omega)))))⟩
set_option maxHeartbeats 1000000 in
theorem with_any {n : Int} {on : List Wr} {mo : Nat} (w : World) (h : MapI w mo fun a => (lastB on a).map bval) (ok : (newD n on).Ok) :
    Calls Try.prog 65 #[.int .i64 n, .map (some mo)] w fun e w' => ∃ g, e = .returned (.pointer (some ⟨g, 0, none⟩)) ∧ w.heap.size ≤ g ∧ DkAt w' (fun i => i = mo ∨ (w.heap.size ≤ i ∧ i < w'.heap.size)) g (newD n on) ∧ Below w.heap.size w w' := by
  have hmm := @run_makeMap Try.prog
  have hlt := h.lt
  have hX : Below w.heap.size w ((w.alloc (.map #[] 0)).alloc (.cells #[.int .i64 n, .map (some mo), .slice none 0 0, .map (some w.heap.size), .int .i64 0, .slice none 0 0, .bool false] 104)) := by (repeat' (first | (with_reducible assumption) | (with_reducible exact Below.refl _ _) | (with_reducible refine below_sc ?_ ?_) | ((with_reducible show (_ : Nat) ≤ _); omega) | refine Below.setCell ?_ (by first | omega | (simp; done) | (simp; omega)) _ | refine Below.alloc ?_ (by first | omega | (simp; done) | (simp; omega)) _ | refine Below.drew ?_ | refine below_drewN ?_ _ | refine Below.trans ?_ (Below.mono (by assumption) (by first | omega | (simp; done) | (simp; omega)))))
  go_enter Try.func65, Try.ntmps65
  go_wp2
  go_ret
  refine ⟨_, rfl, ?_, ⟨mo, w.heap.size, .slice none 0 0, .slice none 0 0, ?_⟩, hX⟩
  · simp
  · exact {
      hg := heap_alloc2_new w _ _
      on := h.ext hX
      nw := ((mapI_made w).ext (extAl _ _)).cong fun a => rfl
      ne := by omega
      wt := OwnR.nil
      kp := OwnR.nil
      sg := .inr (by simp)
      so := .inl rfl
      sn := .inr (by simp; omega)
      sw := by simp [Value.ownBlock]
      sk := by simp [Value.ownBlock]
      ok := ok }
set_option maxHeartbeats 1000000 in
theorem new_no (n : Int) (w : World) (h : ¬ (64 ≤ n ∧ n ≤ 8192)) :
    Calls Try.prog 23 #[.int .i64 n] w fun e w' => e = .returned (.tuple #[.pointer none, .int .i64 1]) ∧ Below w.heap.size w w' := by
  by_cases h1 : n < 64
  · go_enter Try.func23, Try.ntmps23
    go_wp2
    exact bodyPost_ret (v := .tuple #[.pointer none, .int .i64 1]) (by simp only [results, Try.results23]; go_simp) rfl ⟨rfl, by (repeat' (first | (with_reducible assumption) | (with_reducible exact Below.refl _ _) | (with_reducible refine below_sc ?_ ?_) | ((with_reducible show (_ : Nat) ≤ _); omega) | refine Below.setCell ?_ (by first | omega | (simp; done) | (simp; omega)) _ | refine Below.alloc ?_ (by first | omega | (simp; done) | (simp; omega)) _ | refine Below.drew ?_ | refine below_drewN ?_ _ | refine Below.trans ?_ (Below.mono (by assumption) (by first | omega | (simp; done) | (simp; omega)))))⟩
  · have h2 : 8192 < n := by omega
    go_enter Try.func23, Try.ntmps23
    go_wp2
    exact bodyPost_ret (v := .tuple #[.pointer none, .int .i64 1]) (by simp only [results, Try.results23]; go_simp) rfl ⟨rfl, by (repeat' (first | (with_reducible assumption) | (with_reducible exact Below.refl _ _) | (with_reducible refine below_sc ?_ ?_) | ((with_reducible show (_ : Nat) ≤ _); omega) | refine Below.setCell ?_ (by first | omega | (simp; done) | (simp; omega)) _ | refine Below.alloc ?_ (by first | omega | (simp; done) | (simp; omega)) _ | refine Below.drew ?_ | refine below_drewN ?_ _ | refine Below.trans ?_ (Below.mono (by assumption) (by first | omega | (simp; done) | (simp; omega)))))⟩
set_option maxHeartbeats 1000000 in
theorem new_ok (n : Int) (w : World) (h1 : 64 ≤ n) (h2 : n ≤ 8192) :
    Calls Try.prog 23 #[.int .i64 n] w fun e w' => ∃ g, e = .returned (.tuple #[.pointer (some ⟨g, 0, none⟩), .int .i64 0]) ∧ w.heap.size ≤ g ∧ DkAt w' (fun i => w.heap.size ≤ i ∧ i < w'.heap.size) g (newD n []) ∧ Below w.heap.size w w' := by
  have hmm := @run_makeMap Try.prog
  have hm := mapI_made w
  have hok : (newD n []).Ok := ⟨by simp only [newD]; omega, by simp only [newD]; omega, Int.le_refl _, by simp [newD], by simp [newD], by simp [newD]⟩
  go_enter Try.func23, Try.ntmps23
  go_wp2_with (go_at_call 65; refine (with_any (on := []) _ (hm.cong fun a => rfl) hok).mono ?_; rintro e w1 ⟨g, rfl, hgs, hd, hb1⟩; have hz1 := hb1.size; simp only [World.size_alloc] at hz1 hd hgs)
  refine bodyPost_ret (v := .tuple #[.pointer (some ⟨g, 0, none⟩), .int .i64 0]) (by simp only [results, Try.results23]; go_simp) rfl ⟨g, rfl, by omega, hd.mono fun i hi => ?_, Below.trans (extAl w _) (hb1.mono (by simp))⟩
  rcases hi with rfl | hi <;> omega
end

section
set_option linter.unusedVariables false
set_option maxRecDepth 100000
open Go.RowKit

theorem loadAt_cs {P : Program} {w : World} {g off : Nat} {ty : TypeId} {fs : Array Field} {cs : List Value} (hu : P.underlying ty = some (.struct fs)) (hi : (P.info? ty).map (·.size) = some cs.length) (hc : ∀ j (h : j < cs.length), w.cell? ⟨g, off + j, none⟩ = some cs[j]) :
    (Instr.loadAt ty (.pointer (some ⟨g, off, none⟩))).run P w = .ok (.agg cs.toArray) w := by
  have hl : (loadCells ⟨g, off, none⟩ cs.length).run P w = .ok cs.toArray w :=
    run_loadCells_list (P := P) w ⟨g, off, none⟩ cs (fun j v hv => by
      rw [Addr.add_lit]
      have hj : j < cs.length := (List.getElem?_eq_some_iff.1 hv).1
      rw [hc j hj, ← hv]
      simp [hj])
  obtain ⟨i, hi', hs⟩ : ∃ i, P.info? ty = some i ∧ i.size = cs.length := by
    cases h : P.info? ty with
    | none => rw [h] at hi; simp at hi
    | some i => rw [h] at hi; exact ⟨i, rfl, by simpa using hi⟩
  simp only [Instr.loadAt, Instr.sureAddr, Sem.run_bind, Sem.run_pure, Result.andThen]
  simp [loadVar, isAgg, run_underlying hu, sizeOf, typeInfo, hi', hs, hl]
theorem loadAt_bk {w : World} {g off : Nat} {l : List UInt8} (h5 : l.length = 512) (hc : ∀ j (h : j < l.length), w.cell? ⟨g, off + j, none⟩ = some (bv l[j])) :
    (Instr.loadAt 25 (.pointer (some ⟨g, off, none⟩))).run Try.prog w = .ok (.agg (bvs l).toArray) w := by
  have hl : (loadCells ⟨g, off, none⟩ (bvs l).length).run Try.prog w = .ok (bvs l).toArray w :=
    run_loadCells_list (P := Try.prog) w ⟨g, off, none⟩ (bvs l) (fun j v hv => by
      rw [Addr.add_lit]
      have hj : j < l.length := by have := (List.getElem?_eq_some_iff.1 hv).1; simpa [bvs] using this
      rw [hc j hj, ← hv]
      simp [bvs, hj])
  have e5 : (bvs l).length = 512 := by rw [bvs_length, h5]
  rw [e5] at hl
  have h0 := info_blk
  obtain ⟨i, hi⟩ : ∃ i, Try.prog.info? 25 = some i := by
    cases h : Try.prog.info? 25 with
    | none => rw [h] at h0; simp at h0
    | some i => exact ⟨i, rfl⟩
  have hs : i.size = 512 := by rw [hi] at h0; simpa using h0
  simp only [Instr.loadAt, Instr.sureAddr, Sem.run_bind, Sem.run_pure, Result.andThen]
  simp [loadVar, isAgg, run_underlying Try.underlying25, sizeOf, typeInfo, hi, hs, hl]
theorem info_wr : (Try.prog.info? 107).map (·.size) = some 513 := by kernel_rfl
def zW : Wr := (0, zB)
theorem alloc_wr (w : World) : (Instr.alloc 107 true (.tuple #[])).run Try.prog w = .ok (.pointer (some ⟨w.heap.size, 0, none⟩)) (w.alloc (.cells (wcell zW).toArray 107)) := by kernel_rfl
theorem st_wr {w : World} {g : Nat} {t : TypeId} {p q : Wr} (hg : w.heap[g]? = some (.cells (wcell q).toArray t (0, 0))) (hp : p.2.length = 512) (hq : q.2.length = 512) :
    (Instr.storeAt 107 (.pointer (some ⟨g, 0, none⟩)) (.agg (wcell p).toArray)).run Try.prog w = .ok () (w.setRow g (wcell p).toArray) :=
  storeAt_row hg (by rw [info_wr]; simp [wcell_length hp]) (by simp [wcell_length hp, wcell_length hq]) (by rw [Array.all_eq_true_iff_forall_mem]; intro u hu; exact wcell_one p u (by simpa using hu))
/-- Element i of a row of writes. -/
theorem ld_wr {w : World} {B g c i : Nat} {l : List Wr} {p : Wr} (h : OwnR w B 107 513 One (.slice (some ⟨g, 0, none⟩) l.length c) l.length (wcs l)) (hl : ∀ q ∈ l, q.2.length = 512) (hi : l[i]? = some p) :
    (Instr.loadAt 107 (.pointer (some ⟨g, i * 513, none⟩))).run Try.prog w = .ok (.agg (wcell p).toArray) w := by
  have hil := (List.getElem?_eq_some_iff.1 hi).1
  have hp := wcell_length (hl p (List.mem_of_getElem? hi))
  obtain ⟨g', hA, _, _, _, hc⟩ := h.cells (by omega)
  simp only [Option.some.injEq, Addr.mk.injEq, and_true] at hA
  subst hA
  refine loadAt_cs (fs := _) Try.underlying107 (by rw [info_wr, hp]) fun j hj => ?_
  have hj' : j < 513 := by omega
  have hg := wcs_get l hl hi hj'
  rw [List.getElem?_eq_getElem hj] at hg
  obtain ⟨hlt, hg⟩ := List.getElem?_eq_some_iff.1 hg
  rw [hc _ hlt, hg]
/-- The block of a write that lies alone. -/
theorem ld_wrb {w : World} {g : Nat} {T : TypeId} {fr : Nat × Nat} {p : Wr} (hg : w.heap[g]? = some (.cells (wcell p).toArray T fr)) (hp : p.2.length = 512) :
    (Instr.loadAt 25 (.pointer (some ⟨g, 1, none⟩))).run Try.prog w = .ok (bval p.2) w :=
  loadAt_bk hp fun j hj => by
    rw [cell_of_row _ _ _ _ _ _ hg]
    simp [wcell, Nat.add_comm 1 j, bvs, hj]

theorem set7_2 {w : World} {g : Nat} {T : TypeId} {a b c d e f h : Value} (x : Value) (k : w.heap[g]? = some (.cells #[a, b, c, d, e, f, h] T (0, 0))) : w.setCell ⟨g, 2, none⟩ x = w.setRow g #[a, b, x, d, e, f, h] := by
  rw [setCell_eq_setRow w g 2 _ T (0, 0) _ k]; rfl
theorem set7_4 {w : World} {g : Nat} {T : TypeId} {a b c d e f h : Value} (x : Value) (k : w.heap[g]? = some (.cells #[a, b, c, d, e, f, h] T (0, 0))) : w.setCell ⟨g, 4, none⟩ x = w.setRow g #[a, b, c, d, x, f, h] := by
  rw [setCell_eq_setRow w g 4 _ T (0, 0) _ k]; rfl
theorem set7_5 {w : World} {g : Nat} {T : TypeId} {a b c d e f h : Value} (x : Value) (k : w.heap[g]? = some (.cells #[a, b, c, d, e, f, h] T (0, 0))) : w.setCell ⟨g, 5, none⟩ x = w.setRow g #[a, b, c, d, e, x, h] := by
  rw [setCell_eq_setRow w g 5 _ T (0, 0) _ k]; rfl
theorem set7_456 {w : World} {g : Nat} {T : TypeId} {a b c d e f h : Value} (x y z : Value) (k : w.heap[g]? = some (.cells #[a, b, c, d, e, f, h] T (0, 0))) : ((w.setCell ⟨g, 4, none⟩ x).setCell ⟨g, 5, none⟩ y).setCell ⟨g, 6, none⟩ z = w.setRow g #[a, b, c, d, x, y, z] := by
  rw [set7_4 x k]
  have h1 := setRow_heap w g _ #[a, b, c, d, x, f, h] T (0, 0) k
  rw [set7_5 y h1, setRow_setRow]
  have h2 := setRow_heap w g _ #[a, b, c, d, x, y, h] T (0, 0) k
  rw [setCell_eq_setRow _ g 6 _ T (0, 0) _ h2, setRow_setRow]
  rfl
theorem set7_45 {w : World} {g : Nat} {T : TypeId} {a b c d e f h : Value} (x y : Value) (k : w.heap[g]? = some (.cells #[a, b, c, d, e, f, h] T (0, 0))) : (w.setCell ⟨g, 4, none⟩ x).setCell ⟨g, 5, none⟩ y = w.setRow g #[a, b, c, d, x, y, h] := by
  rw [set7_4 x k]
  have h1 := setRow_heap w g _ #[a, b, c, d, x, f, h] T (0, 0) k
  rw [set7_5 y h1, setRow_setRow]

set_option maxHeartbeats 1000000 in
/-- Nothing waits any more: its row, and the map of the newest ones. -/
theorem forget_any {S : Nat → Prop} {g mo mn : Nat} {sv kv : Value} {D : DK} (w : World) (h : DkP w S g mo mn sv kv D) :
    Calls Try.prog 69 #[.pointer (some ⟨g, 0, none⟩)] w fun e w' => e = .returned (.tuple #[]) ∧ DkP w' S g mo mn (.slice none 0 0) kv { D with wt := [] } ∧ Mut (fun i => i = g ∨ i = mn) w w' := by
  obtain ⟨c0, c1, c2, c3, c4, c5, c6, fz, hlt⟩ := blk7 h.hg
  have hs := set7_2 (.slice none 0 0) h.hg
  have hg1 := setRow_heap w g _ #[.int .i64 D.n, .map (some mo), .slice none 0 0, .map (some mn), .int .i64 D.cut, kv, .bool D.dead] _ _ h.hg
  have hnew := h.nw.set (row' := #[.int .i64 D.n, .map (some mo), .slice none 0 0, .map (some mn), .int .i64 D.cut, kv, .bool D.dead]) h.hg
  have hon := h.on.set (row' := #[.int .i64 D.n, .map (some mo), .slice none 0 0, .map (some mn), .int .i64 D.cut, kv, .bool D.dead]) h.hg
  have hkp := h.kp.set (row' := #[.int .i64 D.n, .map (some mo), .slice none 0 0, .map (some mn), .int .i64 D.cut, kv, .bool D.dead]) h.hg (by decide)
  have hgm : g ≠ mn := by
    rintro rfl
    obtain ⟨es, cl, hb, _⟩ := h.nw
    rw [h.hg] at hb
    cases hb
  have hkm : ∀ b, kv.ownBlock = some b → b ≠ mn := by
    rintro b hb rfl
    obtain ⟨_, ⟨rfl, _⟩ | ⟨g', c, junk, rfl, _, hg', _⟩⟩ := h.kp
    · simp [Value.ownBlock] at hb
    · obtain rfl : g' = b := by simpa [Value.ownBlock] using hb
      obtain ⟨es, cl, hb, _⟩ := h.nw
      rw [hg'] at hb
      cases hb
  have hmut := mut_setRow (S := fun i => i = g ∨ i = mn) (w := w) (g := g) (.inl rfl) #[.int .i64 D.n, .map (some mo), .slice none 0 0, .map (some mn), .int .i64 D.cut, kv, .bool D.dead]
  rw [← hs] at hg1 hnew hon hkp hmut
  obtain ⟨w2, hr, hm, hgr⟩ := hnew.clear (P := Try.prog) (t := 102) Try.underlying102
  have hgl : g < (w.setCell ⟨g, 2, none⟩ (.slice none 0 0)).heap.size := (Array.getElem?_eq_some_iff.1 hg1).1
  have hM : Mut (fun i => i = mn) (w.setCell ⟨g, 2, none⟩ (.slice none 0 0)) w2 := Mut.of_grown hgr fun b hb => by simpa using hb.symm
  have Hr := Lib.hid hr
  have fin : DkP w2 S g mo mn (.slice none 0 0) kv { D with wt := [] } ∧ Mut (fun i => i = g ∨ i = mn) w w2 := by
    refine ⟨{
      hg := (hM.block g hgl hgm).trans hg1
      on := hon.mut hM h.ne
      nw := hm.cong fun a => rfl
      ne := h.ne
      wt := OwnR.nil
      kp := hkp.mutO hM hkm
      sg := h.sg
      so := h.so
      sn := h.sn
      sw := by simp [Value.ownBlock]
      sk := h.sk
      ok := ⟨h.ok.n0, h.ok.n1, h.ok.c0, h.ok.c1, h.ok.on, by simp⟩ }, hmut.trans (hM.mono fun i hi => .inr hi)⟩
  have Fin := Lib.hid fin
  have hns := h.sg
  clear fin hgr hm hM hg1 hnew hon hkp hmut hr hgl h hs
  go_enter Try.func69, Try.ntmps69
  go_wp2_with (refine wpList_clr rfl (.tmp 8) 102 rfl (Hr.out _) ?_; simp only [Act.put])
  go_end0
  exact ⟨rfl, Fin.out⟩

/-- v is a slice of the truth values l, which can be read in w. -/
def RBo (w : World) (v : Value) (l : List Bool) : Prop := (∃ A c, v = .slice A 0 c ∧ l = []) ∨ ∃ b off c, v = .slice (some ⟨b, off, none⟩) l.length c ∧ b < w.heap.size ∧ l.length ≤ c ∧ ∀ j (h : j < l.length), w.cell? ⟨b, off + j, none⟩ = some (.bool l[j])
theorem RBo.form {w : World} {v : Value} {l : List Bool} (h : RBo w v l) : ∃ A c, v = .slice A l.length c := by
  rcases h with ⟨A, c, rfl, rfl⟩ | ⟨b, off, c, rfl, _⟩
  · exact ⟨A, c, rfl⟩
  · exact ⟨_, c, rfl⟩
theorem RBo.mutO {S : Nat → Prop} {w w' : World} {v : Value} {l : List Bool} (h : RBo w v l) (k : Mut S w w') (hn : ∀ b off n c, v = .slice (some ⟨b, off, none⟩) n c → ¬ S b) : RBo w' v l := by
  rcases h with h | ⟨b, off, c, rfl, hb, hc, hj⟩
  · exact .inl h
  · exact .inr ⟨b, off, c, rfl, Nat.lt_of_lt_of_le hb k.size, hc, fun j hjl => (k.cell hb (hn b off _ c rfl)).trans (hj j hjl)⟩
theorem RBo.ext {w w' : World} {v : Value} {l : List Bool} (h : RBo w v l) (k : Ext w w') : RBo w' v l := h.mutO (S := fun _ => False) (Mut.of_ext k) fun _ _ _ _ _ h => h
theorem RBo.mutM {w w' : World} {v : Value} {l : List Bool} {mo : Nat} {F : Int → Option Value} (h : RBo w v l) (hm : MapI w mo F) (k : Mut (fun i => i = mo) w w') : RBo w' v l := by
  cases l with
  | nil =>
    rcases h with ⟨A, c, rfl, _⟩ | ⟨b, off, c, rfl, _⟩
    · exact .inl ⟨A, c, rfl, rfl⟩
    · exact .inl ⟨_, c, rfl, rfl⟩
  | cons x l =>
    refine h.mutO k fun b off n c hv hb => ?_
    rcases h with ⟨A, c', rfl, h0⟩ | ⟨b', off', c', rfl, hb', hc, hj⟩
    · cases h0
    · simp only [Value.slice.injEq, Option.some.injEq, Addr.mk.injEq] at hv
      obtain ⟨⟨rfl, _⟩, _⟩ := hv
      subst hb
      have h0 := hj 0 (by simp)
      obtain ⟨es, cl, hb, _⟩ := hm
      simp [World.cell?, hb] at h0
theorem OwnR.rb {w : World} {B : Nat} {T : TypeId} {v : Value} {l : List Bool} (h : OwnR w B T 1 One v l.length (bcs l)) : RBo w v l := by
  by_cases h0 : l = []
  · subst h0
    obtain ⟨A, c, rfl⟩ := h.form
    exact .inl ⟨A, c, rfl, rfl⟩
  · obtain ⟨A, c, rfl⟩ := h.form
    obtain ⟨g, rfl, _, hlt, hc, hj⟩ := h.cells (List.length_pos_iff.2 h0)
    refine .inr ⟨g, 0, c, rfl, hlt, hc (by omega), fun j hjl => ?_⟩
    have := hj j (by simp [bcs]; exact hjl)
    simpa [bcs] using this

theorem wf_i64 {a : Int} (h0 : -9223372036854775808 ≤ a) (h1 : a ≤ 9223372036854775807) : (Lit.int .i64 a).wf = true := by
  simp [Lit.wf, IntKind.min, IntKind.max, IntKind.signed, IntKind.bits]
  omega
/-- One block more is on the disk. -/
theorem DkP.on_upd {w w' : World} {S : Nat → Prop} {g mo mn : Nat} {sv kv : Value} {D : DK} {p : Wr} (h : DkP w S g mo mn sv kv D) (k : w.grownBy w' (some mo)) (hm : MapI w' mo (upd (fun a => (lastB D.on a).map bval) p.1 (bval p.2))) (hp : 0 ≤ p.1 ∧ p.1 < D.n ∧ p.2.length = 512) :
    DkP w' S g mo mn sv kv { D with on := D.on ++ [p] } := by
  have hM : Mut (fun i => i = mo) w w' := Mut.of_grown k fun b hb => by simpa using hb.symm
  obtain ⟨es, cl, hb, _⟩ := h.on
  have hnm : ∀ {b : Nat} {row : Array Value} {T : TypeId} {fr : Nat × Nat}, w.heap[b]? = some (.cells row T fr) → b ≠ mo := by
    rintro b row T fr h1 rfl
    rw [hb] at h1
    cases h1
  have hrow : ∀ {B : Nat} {T : TypeId} {sz : Nat} {C : Value → Prop} {v : Value} {n : Nat} {cs : List Value}, OwnR w B T sz C v n cs → ∀ b, v.ownBlock = some b → b ≠ mo := by
    intro B T sz C v n cs ho b hv
    obtain ⟨_, ⟨rfl, _⟩ | ⟨g', c, junk, rfl, _, hg', _⟩⟩ := ho
    · simp [Value.ownBlock] at hv
    · obtain rfl : g' = b := by simpa [Value.ownBlock] using hv
      exact hnm hg'
  exact {
    hg := (hM.block g (Array.getElem?_eq_some_iff.1 h.hg).1 (hnm h.hg)).trans h.hg
    on := hm.cong fun a => by
      simp only [lastB_snoc, upd]
      by_cases e : a = p.1
      · rw [if_pos e, if_pos e.symm]; rfl
      · rw [if_neg e, if_neg fun h => e h.symm]
    nw := h.nw.mut hM fun e => h.ne e.symm
    ne := h.ne
    wt := h.wt.mutO hM (hrow h.wt)
    kp := h.kp.mutO hM (hrow h.kp)
    sg := h.sg
    so := h.so
    sn := h.sn
    sw := h.sw
    sk := h.sk
    ok := ⟨h.ok.n0, h.ok.n1, h.ok.c0, h.ok.c1, fun q hq => by
      rcases List.mem_append.1 hq with hq | hq
      · exact h.ok.on q hq
      · rw [List.mem_singleton.1 hq]; exact hp, h.ok.wt⟩ }
theorem kept_step {keep : List Bool} {wt : List Wr} {p : Wr} {j : Nat} (hp : wt[j]? = some p) : kept keep (wt.take (j + 1)) = kept keep (wt.take j) ++ if keep.getD j false then [p] else [] := by
  have hj := (List.getElem?_eq_some_iff.1 hp).1
  have e : wt.take (j + 1) = wt.take j ++ [p] := by rw [List.take_add_one, hp]; rfl
  have e2 : (wt.take j).length = j := by simp; omega
  rw [e, kept_snoc, e2]
set_option maxHeartbeats 4000000 in
theorem fail_any {S : Nat → Prop} {g : Nat} {D : DK} {vk : Value} (keep : List Bool) (w : World) (h : DkAt w S g D) (hk : RBo w vk keep) (hkl : keep.length ≤ 1000000) (hwl : D.wt.length ≤ 1000000) :
    Calls Try.prog 71 #[.pointer (some ⟨g, 0, none⟩), vk] w fun e w' => e = .returned (.tuple #[]) ∧ DkTo S w w' g (D.fail keep) := by
  obtain ⟨mo, mn, sv, kv, h⟩ := h
  obtain ⟨c0, c1, c2, c3, c4, c5, c6, fz, hlt⟩ := blk7 h.hg
  obtain ⟨A, c, rfl⟩ := h.wt.form
  obtain ⟨kA, kc, rfl⟩ := hk.form
  obtain ⟨n, on, wt, cut, kp, dead⟩ := D
  simp only at *
  have h0k : ∀ q ∈ wt, 0 ≤ q.1 ∧ q.1 < n ∧ q.2.length = 512 := h.ok.wt
  have hw512 : ∀ q ∈ wt, q.2.length = 512 := fun q hq => (h0k q hq).2.2
  have H0 := Lib.hid h
  have K0 := Lib.hid hk
  clear h hk
  go_enter Try.func71, Try.ntmps71
  go_wp2_with fail
  go_loopw [11] (fun i wr => ∃ j : Nat, j ≤ wt.length ∧ i = .int .i64 j ∧ Hid (DkP wr (gr S w wr) g mo mn (.slice A wt.length c) kv ⟨n, on ++ kept keep (wt.take j), wt, cut, kp, dead⟩) ∧ Hid (Mut (fun i => i = mo) w wr)) (fun i _ => wt.length - (intOf i).toNat)
  case atStart => exact ⟨0, Nat.zero_le _, rfl, Lib.hid (by simpa [kept] using H0.out.mono fun i hi => .inl hi), Lib.hid (Mut.refl _ _)⟩
  case round =>
    obtain ⟨j, hj, rfl, HR, MR⟩ := hrel
    by_cases hjl : j < wt.length
    · obtain ⟨p, hp⟩ : ∃ p, wt[j]? = some p := ⟨_, List.getElem?_eq_getElem hjl⟩
      have hp5 := hw512 p (List.mem_of_getElem? hp)
      have hRw := HR.out.wt
      obtain ⟨gs, hA, _, hgs, hjc, _⟩ := hRw.cells (by omega)
      subst hA
      have hld := Lib.hid (ld_wr hRw hw512 hp)
      have hjc := hjc (by omega)
      clear hRw
      have st := st_wr (p := p) (heap_alloc_last wr (.cells (wcell zW).toArray 107)) hp5 zB_length
      rw [World.setRow_alloc_new] at st
      have St := Lib.hid st
      have hX := extAl wr (.cells (wcell p).toArray 107)
      have hgl := heap_alloc_last wr (.cells (wcell p).toArray 107)
      have HV := Lib.hid (HR.out.ext hX)
      have KV := Lib.hid ((K0.out.mutM H0.out.on MR.out).ext hX)
      have MV := Lib.hid (MR.out.trans (Mut.of_ext hX))
      have hgg : S g ∧ S mo ∧ S mn := ⟨H0.out.sg, H0.out.so, H0.out.sn⟩
      clear st
      go_upto_region 3 with (first | (refine wpList_ld rfl 107 (.tmp 14) rfl hld.out ?_; simp only [Act.put]) | (refine wpList_al rfl 107 rfl alloc_wr ?_; simp only [Act.put]) | (refine wpList_st rfl 107 (.tmp 5) (.tmp 15) rfl St.out ?_; simp only [Act.put]))
      have ht := kept_step (keep := keep) hp
      have hgV : g < (wr.alloc (.cells (wcell p).toArray 107)).heap.size := (Array.getElem?_eq_some_iff.1 HV.out.hg).1
      have hglV : wr.heap.size < (wr.alloc (.cells (wcell p).toArray 107)).heap.size := by simp
      have cg := cell_of_row _ _ 1 _ _ _ HV.out.hg
      have cl0 : (wr.alloc (.cells (wcell p).toArray 107)).cell? ⟨wr.heap.size, 0, none⟩ = some (.int .i64 p.1) := by
        rw [cell_of_row _ _ _ _ _ _ hgl]; rfl
      simp only [List.getElem?_toArray, List.getElem?_cons_succ, List.getElem?_cons_zero] at cg
      have hsz := hX.size
      have HV' := Lib.hid (HV.out.mono (S' := gr S w (wr.alloc (.cells (wcell p).toArray 107))) fun i hi => by
        rcases hi with hi | hi
        · exact .inl hi
        · exact .inr (by omega))
      have LB := Lib.hid fun w' (he : Ext (wr.alloc (.cells (wcell p).toArray 107)) w') => ld_wrb ((he.block wr.heap.size hglV).trans hgl) hp5
      have hpr := h0k p (List.mem_of_getElem? hp)
      clear hX hgl HV hsz hld St hp
      generalize wr.alloc (.cells (wcell p).toArray 107) = V at *
      generalize wr.heap.size = gl at *
      by_cases hjk : j < keep.length
      · have hkc : ∃ b off, kA = some ⟨b, off, none⟩ ∧ keep.length ≤ kc ∧ V.cell? ⟨b, off + j, none⟩ = some (.bool keep[j]) := by
          rcases KV.out with ⟨A', c', hv, h0⟩ | ⟨b, off, c', hv, _, hc', hcc⟩
          · rw [h0] at hjk; simp at hjk
          · simp only [Value.slice.injEq] at hv
            obtain ⟨rfl, -, rfl⟩ := hv
            exact ⟨b, off, rfl, hc', hcc j hjk⟩
        obtain ⟨b, off, rfl, hkc, hcell⟩ := hkc
        have hkj : keep.getD j false = keep[j] := by simp [List.getD, hjk]
        rw [hkj] at ht
        clear hkj KV K0
        cases hkb : keep[j] with
        | false =>
          rw [hkb] at ht hcell
          go_wp2
          go_roundw
          case rel => exact ⟨j + 1, by omega, by simp, Lib.hid (by rw [ht]; simpa using HV'.out), MV⟩
          case measure => simp [intOf]; omega
        | true =>
          rw [hkb] at ht hcell
          go_wp2_with fail
          have e1 : ∀ ψ (e : ExtP V.heap.size V ψ), e.val.cell? ⟨g, 1, none⟩ = some (.map (some mo)) := fun ψ e => e.cell cg hgV
          have e2 : ∀ ψ (e : ExtP V.heap.size V ψ), e.val.cell? ⟨gl, 0, none⟩ = some (.int .i64 p.1) := fun ψ e => e.cell cl0 hglV
          refine wp_region_pieces 8  [(true, [0, 1, 2, 3, 4, 5, 6, 7])] (by kernel_rfl) (by kernel_rfl) ?_; simp only [pick, List.map_cons, List.map_nil, List.flatMap_cons, List.flatMap_nil, Option.toList_some, List.singleton_append, List.drop_succ_cons, List.drop_zero, List.getElem?_cons_zero, List.getElem?_cons_succ]
          refine ⟨by kernel_rfl, ?_⟩; apply Exists.intro; refine ⟨fun ψ hψ hne => (by (repeat (first | ( go_big_quiet_want; refine quiet_ld 25 (.tmp 32) rfl (fun w' hw' => LB.out w' (ext_in hw')) ?_; go_simp; go_big_quiet_on ) | go_big_quiet_step ((  fail )))); exact wpQuiet_nil rfl), ?_⟩
          intro V' hV'
          obtain ⟨w3, hr, hm3, hg3⟩ := (HV'.out.ext hV').on.update (P := Try.prog) (t := 100) Try.underlying100 Try.underlying3 (wf_i64 (a := p.1) (by omega) (by have := H0.out.ok.n1; simp only at this; omega)) (bval p.2)
          have Hr := Lib.hid hr
          have fin : DkP w3 (gr S w w3) g mo mn (.slice (some ⟨gs, 0, none⟩) wt.length c) kv ⟨n, on ++ kept keep (wt.take (j + 1)), wt, cut, kp, dead⟩ := by
            have h4 := (HV'.out.ext hV').on_upd hg3 hm3 hpr
            rw [ht]
            simp only [if_true, ← List.append_assoc]
            refine h4.mono fun i hi => ?_
            have := hV'.size
            have := hg3.size
            rcases hi with hi | hi
            · exact .inl hi
            · exact .inr (by omega)
          have Fin := Lib.hid fin
          have M3 := Lib.hid ((MV.out.trans (Mut.of_ext hV')).trans (Mut.of_grown hg3 fun b hb => by simpa using hb.symm))
          clear fin hr hm3 hg3 HV' LB e1 e2
          go_wp2_with (refine wpList_mu rfl 100 (.tmp 29) (.tmp 31) (.tmp 33) rfl Hr.out ?_; simp only [Act.put])
          go_roundw
          case rel => exact ⟨j + 1, by omega, by simp, Fin, M3⟩
          case measure => simp [intOf]; omega
      · have hkj : keep.getD j false = false := by simp [List.getD, hjk]
        rw [hkj] at ht
        go_wp2
        go_roundw
        case rel => exact ⟨j + 1, by omega, by simp, Lib.hid (by rw [ht]; simpa using HV'.out), MV⟩
        case measure => simp [intOf]; omega
    · obtain rfl : j = wt.length := by omega
      rw [List.take_length] at HR
      clear c0 c1 c2 c3 c4 c5 c6 fz hlt
      go_wp2_with (go_at_call 69; refine (forget_any _ HR.out).mono ?_; rintro e w1 ⟨rfl, hd1, hm1⟩; obtain ⟨d0, d1, d2, d3, d4, d5, d6, fz, hlt1⟩ := blk7 hd1.hg)
      go_end0
      refine ⟨rfl, ?_⟩
      rw [set7_456 _ _ _ hd1.hg]
      have hfin := hd1.cells (D' := DK.fail ⟨n, on, wt, cut, kp, dead⟩ keep) (.slice none 0 0) (.slice none 0 0) rfl rfl (fun a => rfl) ((H0.out.ok).fail keep) OwnR.nil OwnR.nil (by simp [Value.ownBlock]) (by simp [Value.ownBlock])
      have hg1 := MR.out.size
      have hg2 := hm1.size
      refine ⟨⟨_, _, _, _, hfin.mono fun i hi => ?_⟩, ?_⟩
      · rcases hi with hi | hi
        · exact .inl hi
        · exact .inr (by simp [World.setRow]; omega)
      · refine (MR.out.mono (S' := S) (by rintro i rfl; exact H0.out.so)).trans ((hm1.mono (S' := S) ?_).trans (mut_setRow H0.out.sg _))
        rintro i (rfl | rfl)
        · exact H0.out.sg
        · exact H0.out.sn
end

section
set_option linter.unusedVariables false
set_option maxRecDepth 100000
open Go.RowKit

theorem alloc_row0 (w : World) (T : TypeId) (B sz : Nat) (C : Value → Prop) (hB : B ≤ w.heap.size) : OwnR (w.alloc (.cells #[] T)) B T sz C (.slice (some ⟨w.heap.size, 0, none⟩) 0 0) 0 [] :=
  ⟨by simp, .inr ⟨w.heap.size, 0, [], rfl, hB, heap_alloc_last _ _, by simp, by simp⟩⟩
theorem RBo.src {w : World} {v : Value} {l : List Bool} {tx e' : TypeId} (h : RBo w v l) (hk : Try.prog.underlying tx = some (.slice e')) : Src Try.prog 1 tx v l.length (bcs l) w := by
  rcases h with ⟨A, c, rfl, rfl⟩ | ⟨b, off, c, rfl, hb, hc, hj⟩
  · cases A with
    | none => exact Src.ofNil w hk c
    | some a => exact Src.ofSlice w hk a 0 c [] rfl (fun j u h => by simp at h) (fun u h => by simp at h)
  · refine Src.ofSlice w hk ⟨b, off, none⟩ _ c (bcs l) (by simp [bcs]) (fun j u hu => ?_) (bcs_one l)
    rw [Addr.add_lit]
    have hjl : j < l.length := by have := (List.getElem?_eq_some_iff.1 hu).1; simpa [bcs] using this
    rw [hj j hjl, ← hu]
    simp [bcs, hjl]
theorem info_prt {P : Program} {t : TypeId} {z : Value} {n m : Nat} (h : (P.info? t).map (fun i => (i.zero, i.size, i.bytes)) = some (some z, n, m)) : ∃ i, P.info? t = some i ∧ i.zero = some z ∧ i.size = n ∧ i.bytes = m := by
  cases hi : P.info? t with
  | none => rw [hi] at h; simp at h
  | some i =>
    rw [hi] at h
    simp only [Option.map_some, Option.some.injEq, Prod.mk.injEq] at h
    exact ⟨i, rfl, h.1, h.2.1, h.2.2⟩
theorem app_bool {w : World} {B n : Nat} {v x : Value} {cs : List Value} {m : Nat} {new : List Value} {tx ty : TypeId} (ho : OwnR w B 4 1 One v n cs) (hs : Src Try.prog 1 tx x m new w) (hB : B ≤ w.heap.size) (hn : ∀ u ∈ new, One u) (hc : n + m ≤ 100000000) :
    ∃ v' w', (Builtin.append_ #[39, tx] ty #[v, x]).run Try.prog w = .ok v' w' ∧ OwnR w' B 4 1 One v' (n + m) (cs ++ new) ∧ Below B w w' := by
  have h : (Try.prog.info? 4).map (fun i => (i.zero, i.size, i.bytes)) = some (some (.bool false), 1, 1) := by kernel_rfl
  obtain ⟨i, hi, hz0, hz1, hz2⟩ := info_prt h
  obtain ⟨v', w', h1, h2, h3, _⟩ := appG (ty := ty) Try.underlying39 hi hz1 hz0 rfl ho hs hB (by omega) hn (by intro u hu; simp [Value.cells] at hu; subst hu; rfl) (by rw [hz2]; omega) (by omega)
  exact ⟨v', w', h1, h2, h3⟩
theorem app_wr {w : World} {B n : Nat} {v x : Value} {cs : List Value} {m : Nat} {new : List Value} {tx ty : TypeId} (ho : OwnR w B 107 513 One v n cs) (hs : Src Try.prog 513 tx x m new w) (hB : B ≤ w.heap.size) (hn : ∀ u ∈ new, One u) (hc : n + m ≤ 100000000) :
    ∃ v' w', (Builtin.append_ #[101, tx] ty #[v, x]).run Try.prog w = .ok v' w' ∧ OwnR w' B 107 513 One v' (n + m) (cs ++ new) ∧ Below B w w' ∧ w.grownBy w' v.ownBlock ∧ (∀ b, v'.ownBlock = some b → v.ownBlock = some b ∨ w.heap.size ≤ b) := by
  have h : (Try.prog.info? 107).map (fun i => (i.zero, i.size, i.bytes)) = some (some (.agg (wcell zW).toArray), 513, 520) := by kernel_rfl
  have h1 : (wcell zW).length = 513 := wcell_length zB_length
  have h2 := wcell_one zW
  generalize wcell zW = Z at *
  obtain ⟨i, hi, hz0, hz1, hz2⟩ := info_prt h
  refine appG2 (ty := ty) Try.underlying101 hi hz1 hz0 ?_ ho hs hB (by omega) hn (fun u hu => ?_) (by rw [hz2]; omega) (by omega)
  · show Z.toArray.size = 513
    simpa using h1
  · have hu' : u ∈ Z.toArray := hu
    exact h2 u (by simpa using hu')

theorem run_equalIn_slice_nil {P : Program} (w : World) (d : Nat) (t e : TypeId) (A : Option Addr) (n c : Nat) (h : P.underlying t = some (.slice e)) :
    (Op.equalIn (d + 1) t (.slice A n c) (.slice none 0 0)).run P w = .ok A.isNone w := by
  cases A <;> simp [Op.equalIn, run_underlying h]
theorem run_eql_slice_nil {P : Program} (w : World) (t e : TypeId) (A : Option Addr) (n c : Nat) (h : P.underlying t = some (.slice e)) :
    (binOp .eql t (.slice A n c) (.slice none 0 0)).run P w = .ok (.bool A.isNone) w := by
  simp only [binOp]
  simp [show Op.equal t (.slice A n c) (.slice none 0 0) = Op.equalIn (9999 + 1) t (.slice A n c) (.slice none 0 0) from rfl, run_equalIn_slice_nil w 9999 t e A n c h]
set_option maxHeartbeats 1000000 in
theorem clone_bools {v : Value} (l : List Bool) (w : World) (h : RBo w v l) (hl : l.length ≤ 1000000) :
    Calls Try.prog 67 #[v] w fun e w' => ∃ v', e = .returned v' ∧ OwnR w' w.heap.size 4 1 One v' l.length (bcs l) ∧ Below w.heap.size w w' := by
  have hf := h.form
  obtain ⟨A, c, rfl⟩ := hf
  have hq := fun w => run_eql_slice_nil (P := Try.prog) w 39 _ A l.length c Try.underlying39
  have ho := alloc_row0 w 4 w.heap.size 1 One (Nat.le_refl _)
  have hs := (h.ext (extAl w (.cells #[] 4))).src (tx := 39) Try.underlying39
  obtain ⟨v', w1, hr, ho1, hb⟩ := app_bool (tx := 39) (ty := 39) ho hs (by simp) (bcs_one l) (by omega)
  have hb' : Below w.heap.size w w1 := Below.trans (extAl w _) hb
  simp only [Nat.zero_add, List.nil_append] at ho1
  cases A with
  | none =>
    have h0 : l = [] := by
      rcases h with ⟨A, c, hv, h0⟩ | ⟨b, off, c, hv, _⟩
      · exact h0
      · simp at hv
    subst h0
    simp only [Option.isNone_none, List.length_nil] at hq
    go_enter Try.func67, Try.ntmps67
    go_wp2
    go_ret
    exact ⟨_, rfl, OwnR.nil, by (repeat' (first | (with_reducible assumption) | (with_reducible exact Below.refl _ _) | (with_reducible refine below_sc ?_ ?_) | ((with_reducible show (_ : Nat) ≤ _); omega) | refine Below.setCell ?_ (by first | omega | (simp; done) | (simp; omega)) _ | refine Below.alloc ?_ (by first | omega | (simp; done) | (simp; omega)) _ | refine Below.drew ?_ | refine below_drewN ?_ _ | refine Below.trans ?_ (Below.mono (by assumption) (by first | omega | (simp; done) | (simp; omega)))))⟩
  | some a =>
    have Hr := Lib.hid hr
    simp only [Option.isNone_some] at hq
    clear hr hs ho
    go_enter Try.func67, Try.ntmps67
    go_wp2_with (refine wpList_app rfl (.tmp 5) (.tmp 6) 39 39 rfl Hr.out ?_; simp only [Act.put])
    go_ret
    exact ⟨_, rfl, ho1, hb'⟩

theorem DkAt.rb {w : World} {S : Nat → Prop} {g mo mn : Nat} {sv kv : Value} {D : DK} (h : DkP w S g mo mn sv kv D) : RBo w kv D.keep := h.kp.rb
theorem dkTo_set {w : World} {S : Nat → Prop} {g mo mn : Nat} {sv kv : Value} {D' : DK} {row : Array Value} (h : DkP (w.setRow g row) S g mo mn sv kv D') (hs : S g) : DkTo S w (w.setRow g row) g D' :=
  ⟨⟨_, _, _, _, h.mono fun i hi => .inl hi⟩, mut_setRow hs _⟩
set_option maxHeartbeats 2000000 in
theorem count_any {S : Nat → Prop} {g : Nat} {D : DK} (w : World) (h : DkAt w S g D) (hkl : D.keep.length ≤ 1000000) (hwl : D.wt.length ≤ 1000000) :
    Calls Try.prog 68 #[.pointer (some ⟨g, 0, none⟩)] w fun e w' => e = .returned (.int .i64 D.count.2) ∧ DkTo S w w' g D.count.1 := by
  have h0 := h
  obtain ⟨mo, mn, sv, kv, h⟩ := h
  obtain ⟨c0, c1, c2, c3, c4, c5, c6, fz, hlt⟩ := blk7 h.hg
  obtain ⟨n, on, wt, cut, kp, dead⟩ := D
  simp only at c0 c1 c2 c3 c4 c5 c6
  have b0 := h.ok.c0
  have b1 := h.ok.c1
  simp only at b0 b1
  by_cases hc : cut = 0
  · subst hc
    rw [show DK.count ⟨n, on, wt, 0, kp, dead⟩ = (⟨n, on, wt, 0, kp, dead⟩, 0) from rfl]
    have F := Lib.hid (DkTo.refl h0)
    clear h h0
    go_enter Try.func68, Try.ntmps68
    go_wp2
    go_ret
    exact ⟨rfl, F.out⟩
  · have hok : DK.Ok ⟨n, on, wt, cut - 1, kp, dead⟩ := ⟨h.ok.n0, h.ok.n1, by simp only; omega, by simp only; omega, h.ok.on, h.ok.wt⟩
    have h1 := h.cells (D' := ⟨n, on, wt, cut - 1, kp, dead⟩) sv kv rfl rfl (fun _ => rfl) hok h.wt h.kp h.sw h.sk
    have hT := dkTo_set h1 h.sg
    have hs := set7_4 (.int .i64 (cut - 1)) h.hg
    simp only at h1 hT hs
    rw [← hs] at h1 hT
    clear hs
    by_cases h2 : 0 < cut - 1
    · rw [show DK.count ⟨n, on, wt, cut, kp, dead⟩ = (⟨n, on, wt, cut - 1, kp, dead⟩, 0) by simp only [DK.count]; rw [if_neg hc, if_pos h2]]
      have F := Lib.hid hT
      clear h h0 h1 hT hok
      go_enter Try.func68, Try.ntmps68
      go_wp2
      go_ret
      exact ⟨rfl, F.out⟩
    · rw [show DK.count ⟨n, on, wt, cut, kp, dead⟩ = (DK.fail ⟨n, on, wt, cut, kp, dead⟩ kp, 51) by simp only [DK.count]; rw [if_neg hc, if_neg h2]]
      have F := Lib.hid hT
      have R := Lib.hid h1.kp.rb
      obtain ⟨kA, kc, rfl⟩ := h.kp.form
      clear h h0 h1 hT hok
      go_enter Try.func68, Try.ntmps68
      go_wp2_with (go_at_call 71; refine (fail_any kp _ F.out.1 R.out hkl hwl).mono ?_; rintro e w1 ⟨rfl, hd1⟩)
      go_ret
      exact ⟨rfl, F.out.trans hd1⟩
end

section
set_option linter.unusedVariables false
set_option maxRecDepth 100000
open Go.RowKit

theorem ask_cases (D : DK) : (D.ask = 0 ∧ D.dead = false) ∨ (D.ask = 51 ∧ D.dead = true) := by
  unfold DK.ask
  cases D.dead <;> simp
theorem count_cases (D : DK) : (D.count.2 = 0 ∧ D.count.1.on = D.on ∧ D.count.1.wt = D.wt ∧ D.count.1.n = D.n ∧ D.count.1.dead = D.dead ∧ D.count.1.keep = D.keep) ∨ (D.count.2 = 51 ∧ D.count.1 = D.fail D.keep) := by
  unfold DK.count
  split
  · exact .inl ⟨rfl, rfl, rfl, rfl, rfl, rfl⟩
  · split
    · exact .inl ⟨rfl, rfl, rfl, rfl, rfl, rfl⟩
    · exact .inr ⟨rfl, rfl⟩
set_option maxHeartbeats 1000000 in
theorem Fail_any {S : Nat → Prop} {g : Nat} {D : DK} {vk : Value} (keep : List Bool) (w : World) (h : DkAt w S g D) (hk : RBo w vk keep) (hkl : keep.length ≤ 1000000) (hwl : D.wt.length ≤ 1000000) :
    Calls Try.prog 28 #[.pointer (some ⟨g, 0, none⟩), vk] w fun e w' => e = .returned (.int .i64 (D.Fail keep).2) ∧ DkTo S w w' g (D.Fail keep).1 := by
  obtain ⟨kA, kc, rfl⟩ := hk.form
  rcases ask_cases D with ⟨ha, _⟩ | ⟨ha, _⟩
  · rw [show D.Fail keep = (D.fail keep, 0) by simp [DK.Fail, ha]]
    go_enter Try.func28, Try.ntmps28
    go_wp2_with fail
    refine (ask_any _ h).mono ?_
    rw [ha]
    rintro e w1 ⟨rfl, hb1⟩; have hz1 := hb1.size; (try simp only [World.size_alloc] at hz1)
    go_wp2_with fail
    refine (fail_any keep _ (h.ext hb1) (hk.ext hb1) hkl hwl).mono ?_
    rintro e w2 ⟨rfl, hd⟩
    have F := Lib.hid (DkTo.after_ext hb1 hd)
    go_wp2
    go_ret
    exact ⟨rfl, F.out⟩
  · rw [show D.Fail keep = (D, 51) by simp [DK.Fail, ha]]
    go_enter Try.func28, Try.ntmps28
    go_wp2_with fail
    refine (ask_any _ h).mono ?_
    rw [ha]
    rintro e w1 ⟨rfl, hb1⟩; have hz1 := hb1.size; (try simp only [World.size_alloc] at hz1)
    have F := Lib.hid (DkTo.of_ext h hb1)
    go_wp2
    go_ret
    exact ⟨rfl, F.out⟩
theorem keep_new {S : Nat → Prop} {w0 w1 w2 : World} {g mo mn : Nat} {sv kv kv' : Value} {D D' : DK} (h : DkP w2 S g mo mn sv kv D) (hn : D'.n = D.n) (ho : D'.on = D.on) (hi : ∀ a, lastIx D'.wt a = lastIx D.wt a) (hok : D'.Ok)
    (hw : OwnR w2 0 107 513 One sv D'.wt.length (wcs D'.wt)) (hk : OwnR w2 w1.heap.size 4 1 One kv' D'.keep.length (bcs D'.keep)) (hb : Ext w1 w2) :
    DkTo (gr S w0 w1) w1 (w2.setRow g #[.int .i64 D'.n, .map (some mo), sv, .map (some mn), .int .i64 D'.cut, kv', .bool D'.dead]) g D' := by
  have hlt : ∀ b, kv'.ownBlock = some b → w1.heap.size ≤ b ∧ b < w2.heap.size := by
    intro b hb
    obtain ⟨_, ⟨rfl, _⟩ | ⟨g', c, junk, rfl, hB, hg', _⟩⟩ := hk
    · simp [Value.ownBlock] at hb
    · obtain rfl : g' = b := by simpa [Value.ownBlock] using hb
      exact ⟨hB, (Array.getElem?_eq_some_iff.1 hg').1⟩
  have h2 : DkP w2 (gr (gr S w0 w1) w1 w2) g mo mn sv kv D := h.mono fun i hi => .inl (.inl hi)
  have h5 := h2.cells (D' := D') sv kv' hn ho hi hok hw (hk.mono (Nat.zero_le _)) h2.sw fun b hb => .inr (hlt b hb)
  refine ⟨⟨_, _, _, _, h5.mono fun i hi => ?_⟩, (Mut.of_ext hb).trans (mut_setRow (.inl h.sg) _)⟩
  rcases hi with hi | hi
  · exact .inl hi
  · exact .inr (by simp [World.setRow]; omega)
set_option maxHeartbeats 2000000 in
theorem Cut_any {S : Nat → Prop} {g : Nat} {D : DK} {vk : Value} (n : Int) (keep : List Bool) (w : World) (h : DkAt w S g D) (hk : RBo w vk keep) (hkl : keep.length ≤ 1000000) (hn : ∀ b off m c, vk = .slice (some ⟨b, off, none⟩) m c → ¬ S b) (hn1 : n ≤ 9223372036854775807) :
    Calls Try.prog 24 #[.pointer (some ⟨g, 0, none⟩), .int .i64 n, vk] w fun e w' => e = .returned (.int .i64 (D.say n keep).2) ∧ DkTo S w w' g (D.say n keep).1 := by
  obtain ⟨kA, kc, rfl⟩ := hk.form
  rcases ask_cases D with ⟨ha, hd⟩ | ⟨ha, _⟩
  case inr =>
    rw [show D.say n keep = (D, 51) by simp [DK.say, ha]]
    go_enter Try.func24, Try.ntmps24
    go_wp2_with fail
    refine (ask_any _ h).mono ?_
    rw [ha]
    rintro e w1 ⟨rfl, hb1⟩; have hz1 := hb1.size; (try simp only [World.size_alloc] at hz1)
    have F := Lib.hid (DkTo.of_ext h hb1)
    go_wp2
    go_ret
    exact ⟨rfl, F.out⟩
  by_cases h0 : 0 ≤ n
  case neg =>
    rw [show D.say n keep = (D, 1) by simp only [DK.say]; rw [if_pos ha, if_neg h0]]
    go_enter Try.func24, Try.ntmps24
    go_wp2_with fail
    refine (ask_any _ h).mono ?_
    rw [ha]
    rintro e w1 ⟨rfl, hb1⟩; have hz1 := hb1.size; (try simp only [World.size_alloc] at hz1)
    have F := Lib.hid (DkTo.of_ext h hb1)
    go_wp2
    go_ret
    exact ⟨rfl, F.out⟩
  by_cases h2 : 0 < n
  · rw [show D.say n keep = ({ D with cut := n, keep := keep }, 0) by simp only [DK.say]; rw [if_pos ha, if_pos h0, if_pos h2]]
    go_enter Try.func24, Try.ntmps24
    go_wp2_with fail
    refine (ask_any _ h).mono ?_
    rw [ha]
    rintro e w1 ⟨rfl, hb1⟩; have hz1 := hb1.size; (try simp only [World.size_alloc] at hz1)
    have hk1 := hk.ext hb1
    have X1 := Lib.hid hb1
    obtain ⟨mo, mn, sv, kv, h⟩ := h.ext hb1
    clear hk hb1 hz1
    obtain ⟨c0, c1, c2, c3, c4, c5, c6, fz, hlt⟩ := blk7 h.hg
    have hok : DK.Ok { D with cut := n, keep := [] } := ⟨h.ok.n0, h.ok.n1, h0, hn1, h.ok.on, h.ok.wt⟩
    have h1 := h.cells (D' := { D with cut := n, keep := [] }) sv (.slice none 0 0) rfl rfl (fun _ => rfl) hok h.wt OwnR.nil h.sw (by simp [Value.ownBlock])
    have hs := set7_45 (.int .i64 n) (.slice none 0 0) h.hg
    simp only at h1 hs
    have hT := dkTo_set h1 h.sg
    rw [← hs] at h1 hT
    have hk2 := hk1.mutO hT.2 hn
    have sg := h.sg
    have K := Lib.hid (clone_bools keep _ hk2 hkl)
    have T := Lib.hid hT
    have H1 := Lib.hid h1
    clear h h1 hT hs hk1 hk2 hok
    go_wp2_with (go_at_call 67; refine K.out.mono ?_; rintro e w2 ⟨v', rfl, ho, hb2⟩; obtain ⟨vA, vc, rfl⟩ := ho.form; have hg2 := H1.out.ext hb2; obtain ⟨d0, d1, d2, d3, d4, d5, d6, fz2, hlt2⟩ := blk7 hg2.hg)
    go_ret
    refine ⟨rfl, ?_⟩
    rw [set7_5 _ hg2.hg]
    exact DkTo.after_ext X1.out (T.out.trans (keep_new hg2 (D' := { D with cut := n, keep := keep }) rfl rfl (fun _ => rfl) ⟨hg2.ok.n0, hg2.ok.n1, hg2.ok.c0, hg2.ok.c1, hg2.ok.on, hg2.ok.wt⟩ hg2.wt ho hb2))
  · rw [show D.say n keep = ({ D with cut := n, keep := [] }, 0) by simp only [DK.say]; rw [if_pos ha, if_pos h0, if_neg h2]]
    go_enter Try.func24, Try.ntmps24
    go_wp2_with fail
    refine (ask_any _ h).mono ?_
    rw [ha]
    rintro e w1 ⟨rfl, hb1⟩; have hz1 := hb1.size; (try simp only [World.size_alloc] at hz1)
    have hk1 := hk.ext hb1
    have X1 := Lib.hid hb1
    obtain ⟨mo, mn, sv, kv, h⟩ := h.ext hb1
    clear hk hb1 hz1
    obtain ⟨c0, c1, c2, c3, c4, c5, c6, fz, hlt⟩ := blk7 h.hg
    have hok : DK.Ok { D with cut := n, keep := [] } := ⟨h.ok.n0, h.ok.n1, h0, hn1, h.ok.on, h.ok.wt⟩
    have h1 := h.cells (D' := { D with cut := n, keep := [] }) sv (.slice none 0 0) rfl rfl (fun _ => rfl) hok h.wt OwnR.nil h.sw (by simp [Value.ownBlock])
    have hs := set7_45 (.int .i64 n) (.slice none 0 0) h.hg
    simp only at h1 hs
    have hT := dkTo_set h1 h.sg
    rw [← hs] at h1 hT
    have hk2 := hk1.mutO hT.2 hn
    have sg := h.sg
    have T := Lib.hid (DkTo.after_ext X1.out hT)
    clear h h1 hT hs hk1 hk2 hok
    go_wp2
    go_ret
    exact ⟨rfl, T.out⟩
end

section
set_option linter.unusedVariables false
set_option maxRecDepth 100000
open Go.RowKit

theorem fill_2 {z0 : Array Value} (hz : z0.size = 513) {x : Value} (hx : x.cells = #[x]) {bs : List Value} (hb : bs.length = 512) {pl : Nat → Option (Nat × Nat)} (p0 : pl 0 = some (0, 1)) (p1 : pl 1 = some (1, 512)) :
    Instr.fill pl z0 [(0, x), (1, .agg bs.toArray)] = some (x :: bs).toArray := by
  have h1 := Go.Great.foldl_set 0 [x] 0 z0
  have h2 := Go.Great.foldl_set 1 bs 0 (([x].zipIdx 0).foldl (fun cs (x : Value × Nat) => cs.setIfInBounds (0 + x.2) x.1) z0)
  have hc : (Value.agg bs.toArray).cells = bs.toArray := rfl
  have e1 : (#[x].zipIdx.foldl (fun cs (y : Value × Nat) => cs.setIfInBounds (0 + y.2) y.1) z0) = (([x].zipIdx 0).foldl (fun cs (x : Value × Nat) => cs.setIfInBounds (0 + x.2) x.1) z0) := by
    rw [← Array.foldl_toList, Array.toList_zipIdx]
  have hs1 := h1.1
  have s1 : Instr.fill pl z0 [(0, x), (1, .agg bs.toArray)] = Instr.fill pl (([x].zipIdx 0).foldl (fun cs (x : Value × Nat) => cs.setIfInBounds (0 + x.2) x.1) z0) [(1, .agg bs.toArray)] := by
    rw [← e1]
    conv => lhs; unfold Instr.fill
    simp only [p0, hx]
    rw [if_neg (by simp [hz])]
  rw [s1]
  unfold Instr.fill
  simp only [p1, hc]
  rw [if_neg (by rw [hs1]; simp [hb, hz])]
  unfold Instr.fill
  simp only [Nat.zero_add] at e1 h1 h2 hs1 ⊢
  congr 1
  have e2 : (bs.toArray.zipIdx.foldl (fun cs (y : Value × Nat) => cs.setIfInBounds (1 + y.2) y.1) (([x].zipIdx 0).foldl (fun cs (x : Value × Nat) => cs.setIfInBounds x.2 x.1) z0)) = (bs.zipIdx 0).foldl (fun cs (x : Value × Nat) => cs.setIfInBounds (1 + x.2) x.1) (([x].zipIdx 0).foldl (fun cs (x : Value × Nat) => cs.setIfInBounds x.2 x.1) z0) := by
    rw [← Array.foldl_toList, Array.toList_zipIdx]
  rw [e2]
  apply Array.ext_getElem?
  intro k
  rw [h2.2 k, h1.2 k, hs1]
  simp only [List.length_singleton, hb, hz, List.getElem?_toArray]
  by_cases h0 : k = 0
  · subst h0
    rw [if_neg (by omega), if_pos (by omega)]
    rfl
  · by_cases hk : k < 513
    · rw [if_pos (by omega)]
      obtain ⟨j, rfl⟩ : ∃ j, k = j + 1 := ⟨k - 1, by omega⟩
      rw [List.getElem?_cons_succ]
      congr 1
    · rw [if_neg (by omega), if_neg (by omega), Array.getElem?_eq_none (by omega), List.getElem?_eq_none (by simp; omega)]
theorem build_wr (z : Int) {b : List UInt8} (hb : b.length = 512) (w : World) : (Instr.build 107 #[(0, .int .i64 z), (1, .agg (bvs b).toArray)]).run Try.prog w = .ok (.agg (wcell (z, b)).toArray) w := by
  refine run_build w _ _ _ ?_
  have h : (Try.prog.info? 107).map (fun i => (i.zero, i.size, i.bytes)) = some (some (.agg (wcell zW).toArray), 513, 520) := by kernel_rfl
  obtain ⟨i, hi, hz0, _, _⟩ := info_prt h
  have h1 : (wcell zW).length = 513 := wcell_length zB_length
  generalize wcell zW = Z at *
  obtain ⟨fs, hu, hp⟩ : ∃ fs, Try.prog.underlying 107 = some (.struct fs) ∧ fs.toList.mapM (fun f => (Try.prog.info? f.type).map fun i => (f.offset, i.size)) = some [(0, 1), (1, 512)] := ⟨_, Try.underlying107, by kernel_rfl⟩
  unfold Program.built
  rw [hi, hu]
  simp only [hz0, hp]
  exact fill_2 (z0 := Z.toArray) (by simpa using h1) rfl (by simp [bvs, hb]) rfl rfl

theorem DK.flush_no {D : DK} (h : D.ask = 51) : D.flush = (D, 51) := by unfold DK.flush; rw [if_neg (by omega), h]
theorem DK.flush_cut {D : DK} (h : D.ask = 0) (h2 : D.count.2 = 51) : D.flush = (D.count.1, 51) := by unfold DK.flush; rw [if_pos h, if_neg (by omega)]; exact Prod.ext rfl h2
theorem DK.flush_ok {D : DK} (h : D.ask = 0) (h2 : D.count.2 = 0) : D.flush = ({ D.count.1 with on := D.on ++ D.wt, wt := [] }, 0) := by unfold DK.flush; rw [if_pos h, if_pos h2]
set_option maxHeartbeats 4000000 in
theorem Flush_any {S : Nat → Prop} {g : Nat} {D : DK} (w : World) (h : DkAt w S g D) (hkl : D.keep.length ≤ 1000000) (hwl : D.wt.length ≤ 1000000) :
    Calls Try.prog 25 #[.pointer (some ⟨g, 0, none⟩)] w fun e w' => e = .returned (.int .i64 D.flush.2) ∧ DkTo S w w' g D.flush.1 := by
  rcases ask_cases D with ⟨ha, hd⟩ | ⟨ha, _⟩
  case inr =>
    rw [DK.flush_no ha]
    go_enter Try.func25, Try.ntmps25
    go_wp2_with fail
    refine (ask_any _ h).mono ?_
    rw [ha]
    rintro e w1 ⟨rfl, hb1⟩; have hz1 := hb1.size; (try simp only [World.size_alloc] at hz1)
    have F := Lib.hid (DkTo.of_ext h hb1)
    go_wp2
    go_ret
    exact ⟨rfl, F.out⟩
  rcases count_cases D with ⟨hc, hon, hwt, -, -, -⟩ | ⟨hc, -⟩
  case inr =>
    rw [DK.flush_cut ha hc]
    go_enter Try.func25, Try.ntmps25
    go_wp2_with fail
    refine (ask_any _ h).mono ?_
    rw [ha]
    rintro e w1 ⟨rfl, hb1⟩; have hz1 := hb1.size; (try simp only [World.size_alloc] at hz1)
    go_wp2_with fail
    refine (count_any _ (h.ext hb1) hkl hwl).mono ?_
    rw [hc]
    rintro e w2 ⟨rfl, hd2⟩
    have F := Lib.hid (DkTo.after_ext hb1 hd2)
    go_wp2
    go_ret
    exact ⟨rfl, F.out⟩
  rw [DK.flush_ok ha hc]
  rw [← hwt] at hwl
  rw [← hon, ← hwt]
  have kC := fun w (h : DkAt w S g D) => count_any w h hkl (hwt ▸ hwl)
  rw [hc] at kC
  obtain ⟨D1, hD1⟩ : ∃ D1, D1 = D.count.1 := ⟨_, rfl⟩
  rw [← hD1] at hwl kC ⊢
  go_enter Try.func25, Try.ntmps25
  go_wp2_with fail
  refine (ask_any _ h).mono ?_
  rw [ha]
  rintro e w1 ⟨rfl, hb1⟩; have hz1 := hb1.size; (try simp only [World.size_alloc] at hz1)
  go_wp2_with fail
  refine (kC _ (h.ext hb1)).mono ?_
  rintro e w2 ⟨rfl, hd2⟩
  have TT := Lib.hid (DkTo.after_ext hb1 hd2)
  clear hb1 hz1 hd2 h ha hc hon hwt hkl kC hD1
  obtain ⟨mo, mn, sv, kv, h⟩ := TT.out.1
  obtain ⟨S1, hS1⟩ : ∃ S1, S1 = gr S w w2 := ⟨_, rfl⟩
  rw [← hS1] at h
  obtain ⟨c0, c1, c2, c3, c4, c5, c6, fz, hlt⟩ := blk7 h.hg
  obtain ⟨A, c, rfl⟩ := h.wt.form
  obtain ⟨n, on, wt, cut, kp, dead⟩ := D1
  simp only at *
  have h0k : ∀ q ∈ wt, 0 ≤ q.1 ∧ q.1 < n ∧ q.2.length = 512 := h.ok.wt
  have hw512 : ∀ q ∈ wt, q.2.length = 512 := fun q hq => (h0k q hq).2.2
  have H0 := Lib.hid h
  clear h
  go_wp2_with fail
  go_loopw [22] (fun i wr => ∃ j : Nat, j ≤ wt.length ∧ i = .int .i64 j ∧ Hid (DkP wr (gr S1 w2 wr) g mo mn (.slice A wt.length c) kv ⟨n, on ++ wt.take j, wt, cut, kp, dead⟩) ∧ Hid (Mut (fun i => i = mo) w2 wr)) (fun i _ => wt.length - (intOf i).toNat)
  case atStart => exact ⟨0, Nat.zero_le _, rfl, Lib.hid (by simpa using H0.out.mono fun i hi => .inl hi), Lib.hid (Mut.refl _ _)⟩
  case round =>
    obtain ⟨j, hj, rfl, HR, MR⟩ := hrel
    by_cases hjl : j < wt.length
    · obtain ⟨p, hp⟩ : ∃ p, wt[j]? = some p := ⟨_, List.getElem?_eq_getElem hjl⟩
      have hp5 := hw512 p (List.mem_of_getElem? hp)
      have hRw := HR.out.wt
      obtain ⟨gs, hA, _, hgs, hjc, _⟩ := hRw.cells (by omega)
      subst hA
      have hld := Lib.hid (ld_wr hRw hw512 hp)
      have hjc := hjc (by omega)
      clear hRw
      have st := st_wr (p := p) (heap_alloc_last wr (.cells (wcell zW).toArray 107)) hp5 zB_length
      rw [World.setRow_alloc_new] at st
      have St := Lib.hid st
      have hX := extAl wr (.cells (wcell p).toArray 107)
      have hgl := heap_alloc_last wr (.cells (wcell p).toArray 107)
      have HV := Lib.hid (HR.out.ext hX)
      have MV := Lib.hid (MR.out.trans (Mut.of_ext hX))
      clear st
      go_upto_region 10 with (first | (refine wpList_ld rfl 107 (.tmp 24) rfl hld.out ?_; simp only [Act.put]) | (refine wpList_al rfl 107 rfl alloc_wr ?_; simp only [Act.put]) | (refine wpList_st rfl 107 (.tmp 6) (.tmp 25) rfl St.out ?_; simp only [Act.put]))
      have ht : wt.take (j + 1) = wt.take j ++ [p] := by rw [List.take_add_one, hp]; rfl
      have hgV : g < (wr.alloc (.cells (wcell p).toArray 107)).heap.size := (Array.getElem?_eq_some_iff.1 HV.out.hg).1
      have hglV : wr.heap.size < (wr.alloc (.cells (wcell p).toArray 107)).heap.size := by simp
      have cg := cell_of_row _ _ 1 _ _ _ HV.out.hg
      have cl0 : (wr.alloc (.cells (wcell p).toArray 107)).cell? ⟨wr.heap.size, 0, none⟩ = some (.int .i64 p.1) := by
        rw [cell_of_row _ _ _ _ _ _ hgl]; rfl
      simp only [List.getElem?_toArray, List.getElem?_cons_succ, List.getElem?_cons_zero] at cg
      have hsz := hX.size
      have HV' := Lib.hid (HV.out.mono (S' := gr S1 w2 (wr.alloc (.cells (wcell p).toArray 107))) fun i hi => by
        rcases hi with hi | hi
        · exact .inl hi
        · exact .inr (by omega))
      have LB := Lib.hid fun w' (he : Ext (wr.alloc (.cells (wcell p).toArray 107)) w') => ld_wrb ((he.block wr.heap.size hglV).trans hgl) hp5
      have hpr := h0k p (List.mem_of_getElem? hp)
      clear hX hgl HV hsz hld St hp
      generalize wr.alloc (.cells (wcell p).toArray 107) = V at *
      generalize wr.heap.size = gl at *
      simp only [List.setIfInBounds_toArray, List.set_cons_zero, List.set_cons_succ]
      have e1 : ∀ ψ (e : ExtP V.heap.size V ψ), e.val.cell? ⟨g, 1, none⟩ = some (.map (some mo)) := fun ψ e => e.cell cg hgV
      have e2 : ∀ ψ (e : ExtP V.heap.size V ψ), e.val.cell? ⟨gl, 0, none⟩ = some (.int .i64 p.1) := fun ψ e => e.cell cl0 hglV
      refine wp_region_pieces 8  [(true, [0, 1, 2, 3, 4, 5, 6, 7])] (by kernel_rfl) (by kernel_rfl) ?_; simp only [pick, List.map_cons, List.map_nil, List.flatMap_cons, List.flatMap_nil, Option.toList_some, List.singleton_append, List.drop_succ_cons, List.drop_zero, List.getElem?_cons_zero, List.getElem?_cons_succ]
      refine ⟨by kernel_rfl, ?_⟩; apply Exists.intro; refine ⟨fun ψ hψ hne => (by (repeat (first | ( go_big_quiet_want; refine quiet_ld 25 (.tmp 32) rfl (fun w' hw' => LB.out w' (ext_in hw')) ?_; go_simp; go_big_quiet_on ) | go_big_quiet_step ((  fail )))); exact wpQuiet_nil rfl), ?_⟩
      intro V' hV'
      obtain ⟨w3, hr, hm3, hg3⟩ := (HV'.out.ext hV').on.update (P := Try.prog) (t := 100) Try.underlying100 Try.underlying3 (wf_i64 (a := p.1) (by omega) (by have := H0.out.ok.n1; simp only at this; omega)) (bval p.2)
      have Hr := Lib.hid hr
      have fin : DkP w3 (gr S1 w2 w3) g mo mn (.slice (some ⟨gs, 0, none⟩) wt.length c) kv ⟨n, on ++ wt.take (j + 1), wt, cut, kp, dead⟩ := by
        have h4 := (HV'.out.ext hV').on_upd hg3 hm3 hpr
        rw [ht]
        simp only [← List.append_assoc]
        refine h4.mono fun i hi => ?_
        have := hV'.size
        have := hg3.size
        rcases hi with hi | hi
        · exact .inl hi
        · exact .inr (by omega)
      have Fin := Lib.hid fin
      have M3 := Lib.hid ((MV.out.trans (Mut.of_ext hV')).trans (Mut.of_grown hg3 fun b hb => by simpa using hb.symm))
      clear fin hr hm3 hg3 HV' LB e1 e2
      go_wp2_with (refine wpList_mu rfl 100 (.tmp 29) (.tmp 31) (.tmp 33) rfl Hr.out ?_; simp only [Act.put])
      go_roundw
      case rel => exact ⟨j + 1, by omega, by simp, Fin, M3⟩
      case measure => simp [intOf]; omega
    · obtain rfl : j = wt.length := by omega
      rw [List.take_length] at HR
      clear c0 c1 c2 c3 c4 c5 c6 fz hlt
      go_wp2_with (go_at_call 69; refine (forget_any _ HR.out).mono ?_; rintro e w4 ⟨rfl, hd1, hm1⟩)
      go_ret
      refine ⟨rfl, TT.out.trans ?_⟩
      rw [← hS1]
      have hg1 := MR.out.size
      have hg2 := hm1.size
      refine ⟨⟨_, _, _, _, hd1.mono fun i hi => ?_⟩, ?_⟩
      · rcases hi with hi | hi
        · exact .inl hi
        · exact .inr (by omega)
      · refine (MR.out.mono (S' := S1) (by rintro i rfl; exact H0.out.so)).trans (hm1.mono (S' := S1) ?_)
        rintro i (rfl | rfl)
        · exact H0.out.sg
        · exact H0.out.sn
end

section
set_option linter.unusedVariables false
set_option maxRecDepth 100000
open Go.RowKit

theorem exts_in {S : Nat → Prop} {w w' : World} {ψ : World → Prop} (h : ∃ e : ExtS S w ψ, w' = e.val) : Mut S w w' := by obtain ⟨e, rfl⟩ := h; exact e.ok
theorem quiet_bw {P : Program} {o : Oper} {a : Act} {C : World → Prop} {K : Act → Prop} (ty : TypeId) (x y : Operand) (ho : o.op = .build ty #[(0, x), (1, y)]) {v : Value} (hr : ∀ w, C w → (Instr.build ty #[(0, a.eval x), (1, a.eval y)]).run P w = .ok v w)
    (hk : K (a.put o.dst v)) : o.quiet P a C K :=
  ⟨v, fun w hw => by
    have h := hr w hw
    have e : (#[(0, x), (1, y)] : Array (Nat × Operand)).map (fun z => (z.1, a.eval z.2)) = #[(0, a.eval x), (1, a.eval y)] := by simp
    unfold Oper.quietAt execOp
    simp only [ho, Sem.run_bind]
    rw [e, h]
    simp only [Result.andThen_ok, Sem.run_pure]
    exact ⟨rfl, rfl⟩, hk⟩
/-- A row of one write, built. -/
theorem wpList_bs1 {ops : Array Oper} {rest : List Oper} {o : Oper} {a : Act} {w : World} {Q : Exit → Act → World → Prop} {p : Wr} {x : Operand} (hg : o.guard = none) (ho : o.op = .buildSlice 101 1 #[(0, x)]) (hx : a.eval x = .agg (wcell p).toArray) (hp : p.2.length = 512)
    (h : wpList Try.prog ops Q rest (a.put o.dst (.slice (some ⟨w.heap.size, 0, none⟩) 1 1)) (w.alloc (.cells (wcell p).toArray 107))) : wpList Try.prog ops Q (o :: rest) a w := by
  have h0 : (Try.prog.info? 107).map (fun i => (i.zero, i.size, i.bytes)) = some (some (.agg (wcell zW).toArray), 513, 520) := by kernel_rfl
  obtain ⟨i, hi, hz0, hz1, _⟩ := info_prt h0
  have hl := wcell_length hp
  refine Go.wpList_buildSlice hg 101 107 1 _ ho (wcell p).toArray i _ Try.underlying101 hi hz0 (by rw [hz1]; omega) (by rw [hz1]; omega) ?_ h
  have e1 : ((#[(0, x)] : Array (Nat × Operand)).map fun (i, x) => (i, a.eval x)).toList = (([Value.agg (wcell p).toArray] : List Value).zipIdx 0).map fun x => (x.2, x.1) := by
    simp [hx]
  rw [e1, hz1, Go.Great.fill_whole (by omega) _ _ (by simp [Value.cells, hl]) (by simp)]
  simp [Value.cells]
theorem askAt_cases (D : DK) (z : Int) : (D.askAt z = 0 ∧ D.dead = false ∧ 0 ≤ z ∧ z < D.n) ∨ D.askAt z = 1 ∨ D.askAt z = 51 := by
  unfold DK.askAt
  cases D.dead
  · by_cases h : 0 ≤ z ∧ z < D.n
    · exact .inl ⟨by simp [h], rfl, h⟩
    · exact .inr (.inl (by simp [h]))
  · exact .inr (.inr (by simp))
theorem own_ne {w : World} {B g : Nat} {T T' : TypeId} {sz : Nat} {C : Value → Prop} {v : Value} {n : Nat} {cs : List Value} {row : Array Value} {fr : Nat × Nat} (h : OwnR w B T sz C v n cs) (hg : w.heap[g]? = some (.cells row T' fr)) (hT : T ≠ T') : v.ownBlock ≠ some g := by
  intro hv
  obtain ⟨_, ⟨rfl, _⟩ | ⟨g', c, junk, rfl, _, hg', _⟩⟩ := h
  · simp [Value.ownBlock] at hv
  · obtain rfl : g' = g := by simpa [Value.ownBlock] using hv
    rw [hg] at hg'
    simp at hg'
    exact hT hg'.2.1.symm
theorem own_nm {w : World} {B g : Nat} {T : TypeId} {sz : Nat} {C : Value → Prop} {v : Value} {n : Nat} {cs : List Value} {F : Int → Option Value} (h : OwnR w B T sz C v n cs) (hg : MapI w g F) : v.ownBlock ≠ some g := by
  intro hv
  obtain ⟨_, ⟨rfl, _⟩ | ⟨g', c, junk, rfl, _, hg', _⟩⟩ := h
  · simp [Value.ownBlock] at hv
  · obtain rfl : g' = g := by simpa [Value.ownBlock] using hv
    obtain ⟨es, cl, hb, _⟩ := hg
    rw [hg'] at hb
    cases hb
theorem cells_nm {w : World} {b g : Nat} {T : TypeId} {row : Array Value} {fr : Nat × Nat} {F : Int → Option Value} (hg : w.heap[b]? = some (.cells row T fr)) (h : MapI w g F) : b ≠ g := by
  rintro rfl
  obtain ⟨es, cl, hb, _⟩ := h
  rw [hg] at hb
  cases hb
theorem own_lt {w : World} {B b : Nat} {T : TypeId} {sz : Nat} {C : Value → Prop} {v : Value} {n : Nat} {cs : List Value} (h : OwnR w B T sz C v n cs) (hb : v.ownBlock = some b) : b < w.heap.size := by
  obtain ⟨_, ⟨rfl, _⟩ | ⟨g', c, junk, rfl, hB, hg', _⟩⟩ := h
  · simp [Value.ownBlock] at hb
  · obtain rfl : g' = b := by simpa [Value.ownBlock] using hb
    exact (Array.getElem?_eq_some_iff.1 hg').1

/-- The write waits: its place is told in the map (w3), its cells stand behind the others (wc), and the disk says so. -/
theorem wait_fin {w w3 wc : World} {S : Nat → Prop} {g mo mn : Nat} {sv sv' kv : Value} {D : DK} {p : Wr} (h : DkP w S g mo mn sv kv D) (hm : MapI w3 mn (upd (ixV D.wt) p.1 (.int .i64 D.wt.length))) (hg3 : w.grownBy w3 (some mn))
    (hmc : Mut (fun i => sv.ownBlock = some i) w3 wc) (ho : OwnR wc 0 107 513 One sv' (D.wt.length + 1) (wcs D.wt ++ wcell p)) (hs : ∀ b, sv'.ownBlock = some b → sv.ownBlock = some b ∨ w3.heap.size ≤ b) (hp : 0 ≤ p.1 ∧ p.1 < D.n ∧ p.2.length = 512) :
    wc.heap[g]? = some (.cells #[.int .i64 D.n, .map (some mo), sv, .map (some mn), .int .i64 D.cut, kv, .bool D.dead] 104 (0, 0)) ∧
    DkTo S w (wc.setRow g #[.int .i64 D.n, .map (some mo), sv', .map (some mn), .int .i64 D.cut, kv, .bool D.dead]) g { D with wt := D.wt ++ [p] } := by
  have hM3 : Mut (fun i => i = mn) w w3 := Mut.of_grown hg3 fun b hb => by simpa using hb.symm
  have hg3' := (hM3.block g (Array.getElem?_eq_some_iff.1 h.hg).1 (cells_nm h.hg h.nw)).trans h.hg
  have ho3 := h.on.mut hM3 h.ne
  have hw3 := h.wt.mutO hM3 fun b hb e => own_nm h.wt h.nw (e ▸ hb)
  have hk3 := h.kp.mutO hM3 fun b hb e => own_nm h.kp h.nw (e ▸ hb)
  have hgc := (hmc.block g (Array.getElem?_eq_some_iff.1 hg3').1 (own_ne hw3 hg3' (by decide))).trans hg3'
  have hoc := ho3.mut hmc (own_nm hw3 ho3)
  have hnc := hm.mut hmc (own_nm hw3 hm)
  have hkc : OwnR wc 0 4 1 One kv D.keep.length (bcs D.keep) := hk3.mutO hmc fun b hb hb2 => by
    obtain ⟨_, ⟨rfl, _⟩ | ⟨g', c, junk, rfl, _, hg', _⟩⟩ := hk3
    · simp [Value.ownBlock] at hb
    · obtain rfl : g' = b := by simpa [Value.ownBlock] using hb
      exact own_ne hw3 hg' (by decide) hb2
  have s1 := hM3.size
  have s2 := hmc.size
  refine ⟨hgc, ⟨mo, mn, sv', kv, ?_⟩, ?_⟩
  · exact {
      hg := setRow_heap _ _ _ _ _ _ hgc
      on := hoc.set hgc
      nw := (hnc.set hgc).cong fun a => by
        simp only [ixV, lastIx_snoc, upd]
        by_cases e : a = p.1
        · rw [if_pos e, if_pos e.symm]; rfl
        · rw [if_neg e, if_neg fun h => e h.symm]
      ne := h.ne
      wt := by
        have := ho.set (row' := #[.int .i64 D.n, .map (some mo), sv', .map (some mn), .int .i64 D.cut, kv, .bool D.dead]) hgc (by decide)
        simp only [List.length_append, List.length_singleton, wcs_snoc]
        exact this
      kp := hkc.set hgc (by decide)
      sg := .inl h.sg
      so := .inl h.so
      sn := .inl h.sn
      sw := fun b hb => by
        rcases hs b hb with hb' | hb'
        · exact .inl (h.sw b hb')
        · exact .inr ⟨by omega, by simp [World.setRow]; exact own_lt ho hb⟩
      sk := fun b hb => .inl (h.sk b hb)
      ok := ⟨h.ok.n0, h.ok.n1, h.ok.c0, h.ok.c1, h.ok.on, fun q hq => by
        rcases List.mem_append.1 hq with hq | hq
        · exact h.ok.wt q hq
        · rw [List.mem_singleton.1 hq]; exact hp⟩ }
  · refine (hM3.mono (S' := S) (by rintro i rfl; exact h.sn)).trans ((hmc.mono (S' := S) fun i hi => h.sw i hi).trans (mut_setRow h.sg _))

set_option maxHeartbeats 1000000 in
theorem Write_any {S : Nat → Prop} {g : Nat} {D : DK} (z : Int) (b : List UInt8) (w : World) (h : DkAt w S g D) (hb : b.length = 512) (hkl : D.keep.length ≤ 1000000) (hwl : D.wt.length ≤ 100000) :
    Calls Try.prog 26 #[.pointer (some ⟨g, 0, none⟩), .int .i64 z, .agg (bvs b).toArray] w fun e w' => e = .returned (.int .i64 (D.write z b).2) ∧ DkTo S w w' g (D.write z b).1 := by
  rcases askAt_cases D z with ⟨he, -, hz0, hz1⟩ | he | he
  case inr.inl =>
    rw [show D.write z b = (D, 1) by unfold DK.write; rw [if_neg (by omega), he]]
    go_enter Try.func26, Try.ntmps26
    go_wp2_with fail
    refine (askAt_any z _ (h.ext (extAl w _))).mono ?_
    rw [he]
    rintro e w1 ⟨rfl, hb1⟩; have hz1 := hb1.size; (try simp only [World.size_alloc] at hz1)
    have F := Lib.hid (DkTo.of_ext h (Ext.trans (extAl w (.cells (bvs b).toArray 25)) hb1))
    go_wp2
    go_ret
    exact ⟨rfl, F.out⟩
  case inr.inr =>
    rw [show D.write z b = (D, 51) by unfold DK.write; rw [if_neg (by omega), he]]
    go_enter Try.func26, Try.ntmps26
    go_wp2_with fail
    refine (askAt_any z _ (h.ext (extAl w _))).mono ?_
    rw [he]
    rintro e w1 ⟨rfl, hb1⟩; have hz1 := hb1.size; (try simp only [World.size_alloc] at hz1)
    have F := Lib.hid (DkTo.of_ext h (Ext.trans (extAl w (.cells (bvs b).toArray 25)) hb1))
    go_wp2
    go_ret
    exact ⟨rfl, F.out⟩
  rw [show D.write z b = DK.count { D with wt := D.wt ++ [(z, b)] } by unfold DK.write; rw [if_pos he]]
  have n1 : D.n ≤ 8192 := by obtain ⟨_, _, _, _, h⟩ := h; exact h.ok.n1
  have kC := fun {S : Nat → Prop} w (h : DkAt w S g { D with wt := D.wt ++ [(z, b)] }) => count_any w h hkl (by simp only [List.length_append, List.length_singleton]; omega)
  obtain ⟨R, hR⟩ : ∃ R, R = DK.count { D with wt := D.wt ++ [(z, b)] } := ⟨_, rfl⟩
  rw [← hR] at kC ⊢
  obtain ⟨R1, R2⟩ := R
  simp only at kC ⊢
  go_enter Try.func26, Try.ntmps26
  go_wp2_with fail
  refine (askAt_any z _ (h.ext (extAl w _))).mono ?_
  rw [he]
  rintro e w1 ⟨rfl, hb1⟩; have hz1 := hb1.size; (try simp only [World.size_alloc] at hz1)
  have X1 := Lib.hid (Ext.trans (extAl w (.cells (bvs b).toArray 25)) hb1)
  obtain ⟨mo, mn, sv, kv, h⟩ := h.ext X1.out
  have hbx := (hb1.block w.heap.size (by simp)).trans (heap_alloc_last w (.cells (bvs b).toArray 25))
  have h5 : w.heap.size < w1.heap.size := (Array.getElem?_eq_some_iff.1 hbx).1
  generalize w.heap.size = g5 at *
  obtain ⟨A, c, rfl⟩ := h.wt.form
  have cc := blk7 h.hg
  have hlt := (Array.getElem?_eq_some_iff.1 h.hg).1
  have hgm := cells_nm h.hg h.nw
  have hbm := cells_nm hbx h.nw
  have hgs := own_ne h.wt h.hg (by decide)
  have hbs := own_ne h.wt hbx (by decide)
  clear hb1 hz1 he hR
  have H := Lib.hid h
  have e1 : ∀ ψ (e : ExtP w1.heap.size w1 ψ), e.val.cell? ⟨g, 3, none⟩ = some (.map (some mn)) := fun ψ e => e.cell cc.2.2.2.1 hlt
  have e2 : ∀ ψ (e : ExtP w1.heap.size w1 ψ), e.val.cell? ⟨g, 2, none⟩ = some (.slice A D.wt.length c) := fun ψ e => e.cell cc.2.2.1 hlt
  go_wp2_with fail
  refine wp_region_pieces 10  [(true, [0, 1, 2, 3, 4, 5, 6, 7, 8, 9])] (by kernel_rfl) (by kernel_rfl) ?_; simp only [pick, List.map_cons, List.map_nil, List.flatMap_cons, List.flatMap_nil, Option.toList_some, List.singleton_append, List.drop_succ_cons, List.drop_zero, List.getElem?_cons_zero, List.getElem?_cons_succ]
  refine ⟨by kernel_rfl, ?_⟩; apply Exists.intro; refine ⟨fun ψ hψ hne => (by (repeat (go_big_quiet_step (( fail )))); exact wpQuiet_nil rfl), ?_⟩
  intro w2 hx2
  clear e1 e2 cc h
  have h2 := H.out.ext hx2
  obtain ⟨w3, hr, hm3, hg3⟩ := h2.nw.update (P := Try.prog) (t := 102) Try.underlying102 Try.underlying3 (wf_i64 (a := z) (by omega) (by omega)) (.int .i64 D.wt.length)
  have Hr := Lib.hid hr
  have hM3 : Mut (fun i => i = mn) w2 w3 := Mut.of_grown hg3 fun b hb => by simpa using hb.symm
  have hgx := (hM3.block g (Nat.lt_of_lt_of_le hlt hx2.size) hgm).trans h2.hg
  have hbx3 := (hM3.block g5 (Nat.lt_of_lt_of_le h5 hx2.size) hbm).trans ((hx2.block g5 h5).trans hbx)
  have hw3 := h2.wt.mutO hM3 fun b hb e => own_nm h2.wt h2.nw (e ▸ hb)
  have cc := blk7 hgx
  have Hm3 := Lib.hid hm3
  have Hg3 := Lib.hid hg3
  have Hw3 := Lib.hid hw3
  clear hr hm3 hg3 hw3 hM3
  go_wp2_with (refine wpList_mu rfl 102 (.tmp 17) (.tmp 18) (.tmp 23) rfl Hr.out ?_; simp only [Act.put])
  clear Hr
  have hlt3 := (Array.getElem?_eq_some_iff.1 hgx).1
  have hlt5 := (Array.getElem?_eq_some_iff.1 hbx3).1
  have e2 : ∀ ψ (e : ExtS (fun i => (Value.slice A D.wt.length c).ownBlock = some i) w3 ψ), e.val.cell? ⟨g, 2, none⟩ = some (.slice A D.wt.length c) := fun ψ e => e.cell cc.2.2.1 hlt3 hgs
  have LB := Lib.hid fun w' (hw' : Mut (fun i => (Value.slice A D.wt.length c).ownBlock = some i) w3 w') => ld_blk ((hw'.block g5 hlt5 hbs).trans hbx3) hb
  have BW := Lib.hid fun w' => build_wr z hb w'
  clear cc
  refine wp_region_piecesS (fun i => (Value.slice A D.wt.length c).ownBlock = some i) 10 [(true, [0, 1, 2, 3, 4, 5, 6, 7]), (false, [8]), (false, [9])] (by kernel_rfl) (by kernel_rfl) ?_; simp only [pick, List.map_cons, List.map_nil, List.flatMap_cons, List.flatMap_nil, Option.toList_some, List.singleton_append, List.drop_succ_cons, List.drop_zero, List.getElem?_cons_zero, List.getElem?_cons_succ]
  refine ⟨by kernel_rfl, ?_⟩; apply Exists.intro; refine ⟨fun ψ hψ hne => ?_, ?_⟩
  · iterate 6 (go_big_quiet_step (fail))
    go_big_quiet_want; refine quiet_ld 25 (.tmp 5) rfl (fun w' hw' => LB.out w' (exts_in hw')) ?_; go_simp; go_big_quiet_on
    go_big_quiet_want; refine quiet_bw 107 (.tmp 29) (.tmp 30) rfl (fun w' _ => BW.out w') ?_; go_simp; go_big_quiet_on
    exact wpQuiet_nil rfl
  intro wa ha K hK
  have BS := heap_alloc_last wa (.cells (wcell (z, b)).toArray 107)
  go_wp2_with (refine wpList_bs1 (p := (z, b)) rfl rfl rfl hb ?_; simp only [Act.put])
  refine hK _ _ (Mut.of_ext (extAl wa _)) ?_
  have Ha := Lib.hid (Ext.trans ha (extAl wa (.cells (wcell (z, b)).toArray 107)))
  generalize wa.alloc (.cells (wcell (z, b)).toArray 107) = wA at *
  generalize wa.heap.size = g9 at *
  clear hK K ha LB BW e2
  intro wb hxb K hK
  have hsrc := src_row (P := Try.prog) (sz := 513) (tx := 101) (n := 1) (c := 1) Try.underlying101 ((hxb.block g9 (Array.getElem?_eq_some_iff.1 BS).1).trans BS) (by rw [wcell_length hb]) (wcell_one (z, b))
  obtain ⟨v', wc, hr, ho, -, hgr, hs⟩ := app_wr (ty := 101) (Hw3.out.ext (Ext.trans Ha.out hxb)) hsrc (Nat.zero_le _) (wcell_one (z, b)) (by omega)
  have Hr := Lib.hid hr
  have hMc : Mut (fun i => (Value.slice A D.wt.length c).ownBlock = some i) wb wc := Mut.of_grown hgr fun b hb => hb
  obtain ⟨A', c', rfl⟩ := ho.form
  go_wp2_with (refine wpList_app rfl (.tmp 28) (.tmp 32) 101 101 rfl Hr.out ?_; simp only [Act.put])
  refine hK _ _ hMc ?_
  clear hK K Hr hr hsrc hgr
  intro wd hxd
  have hXb : Ext w3 wb := Ext.trans Ha.out hxb
  obtain ⟨hgd, hT⟩ := wait_fin (p := (z, b)) (wc := wd) (sv' := .slice A' (D.wt.length + 1) c') (H.out.ext hx2) Hm3.out Hg3.out ((Mut.of_ext hXb).trans (hMc.trans (Mut.of_ext hxd))) (ho.ext hxd) (fun i hi => (hs i hi).imp id fun h => Nat.le_trans hXb.size h) ⟨hz0, hz1, hb⟩
  have hst := set7_2 (.slice A' (D.wt.length + 1) c') hgd
  rw [← hst] at hT
  have T := Lib.hid (DkTo.after_ext (Ext.trans X1.out hx2) hT)
  obtain ⟨d0, d1, d2, d3, d4, d5, d6, fz, hltd⟩ := blk7 hgd
  clear hst hT hgd hs ho hMc hXb Ha BS Hm3 Hg3 Hw3
  go_wp2_with (go_at_call 68; refine (kC _ T.out.1).mono ?_; rintro e w9 ⟨rfl, h9⟩)
  go_ret
  exact ⟨rfl, T.out.trans h9⟩
end

section
set_option linter.unusedVariables false
set_option maxRecDepth 100000
open Go.RowKit

theorem lastB_512 {n : Int} {l : List Wr} (h : ∀ p ∈ l, 0 ≤ p.1 ∧ p.1 < n ∧ p.2.length = 512) {z : Int} {b : List UInt8} (k : lastB l z = some b) : b.length = 512 := (h _ (lastB_mem k)).2.2
theorem DK.Ok.at {D : DK} (h : D.Ok) (z : Int) : (D.at z).length = 512 := by
  unfold DK.at
  cases k : lastB (D.on ++ D.wt) z with
  | none => exact zB_length
  | some b =>
    exact lastB_512 (n := D.n) (fun p hp => by
      rcases List.mem_append.1 hp with hp | hp
      · exact h.on p hp
      · exact h.wt p hp) k
/-- Block of element i of a row of writes. -/
theorem ld_wrf {w : World} {B g c i : Nat} {l : List Wr} {z : Int} {b : List UInt8} (h : OwnR w B 107 513 One (.slice (some ⟨g, 0, none⟩) l.length c) l.length (wcs l)) (hl : ∀ q ∈ l, q.2.length = 512) (hi : l[i]? = some (z, b)) :
    (Instr.loadAt 25 (.pointer (some ⟨g, i * 513 + 1, none⟩))).run Try.prog w = .ok (bval b) w := by
  have hil := (List.getElem?_eq_some_iff.1 hi).1
  have hp := hl _ (List.mem_of_getElem? hi)
  obtain ⟨g', hA, _, _, _, hc⟩ := h.cells (by omega)
  simp only [Option.some.injEq, Addr.mk.injEq, and_true] at hA
  subst hA
  refine loadAt_bk hp fun j hj => ?_
  have hj' : j + 1 < 513 := by simp only at hp; omega
  have hg := wcs_get l hl hi hj'
  have e : (wcell (z, b))[j + 1]? = some (bv b[j]) := by simp [wcell, bvs, hj]
  rw [e] at hg
  obtain ⟨hlt, hg⟩ := List.getElem?_eq_some_iff.1 hg
  rw [show i * 513 + 1 + j = i * 513 + (j + 1) by omega, hc _ hlt, hg]
theorem zero_int (w : World) : (zeroValue 3).run Try.prog w = .ok (.int .i64 0) w := by kernel_rfl
theorem zero_blk (w : World) : (zeroValue 25).run Try.prog w = .ok (bval zB) w := by kernel_rfl

set_option maxHeartbeats 2000000 in
theorem Read_any {S : Nat → Prop} {g : Nat} {D : DK} (z : Int) (w : World) (h : DkAt w S g D) (hwl : D.wt.length ≤ 1000000) :
    Calls Try.prog 31 #[.pointer (some ⟨g, 0, none⟩), .int .i64 z] w fun e w' => e = .returned (.tuple #[bval (D.read z).1, .int .i64 (D.read z).2]) ∧ Below w.heap.size w w' := by
  rcases askAt_cases D z with ⟨he, -, hz0, hz1⟩ | he | he
  case inr.inl =>
    rw [show D.read z = (zB, 1) by unfold DK.read; rw [if_neg (by omega), he]]
    go_enter Try.func31, Try.ntmps31
    go_wp2_with (refine wpList_al rfl 25 rfl alloc_blk ?_; simp only [Act.put])
    refine (askAt_any z _ (h.ext (extAl w _))).mono ?_
    rw [he]
    rintro e w1 ⟨rfl, hb1⟩; have hz1 := hb1.size; (try simp only [World.size_alloc] at hz1)
    have hbx := (hb1.block w.heap.size (by simp)).trans (heap_alloc_last w (.cells (bvs zB).toArray 25))
    have X1 := Lib.hid (Ext.trans (extAl w (.cells (bvs zB).toArray 25)) hb1)
    have St := Lib.hid (st_blk (l := zB) hbx zB_length zB_length)
    have Hres := Lib.hid (setRow_heap _ _ _ (bvs zB).toArray _ _ hbx)
    have Fin := Lib.hid (below_setRow X1.out (Nat.le_refl _) (bvs zB).toArray)
    clear hb1 hz1 hbx he
    clear h
    go_wp2_with (first | (refine wpList_bd rfl 25 rfl build_blk ?_; simp only [Act.put]) | (refine wpList_st rfl 25 (.tmp 4) (.tmp 14) rfl St.out ?_; simp only [Act.put]))
    exact bodyPost_ret (results_cell_tmp Try.results31 _ _ _ _ _ _ _ rfl Hres.out Try.underlying25 rfl (by rw [info_blk, bvs_size, zB_length])) rfl ⟨rfl, Fin.out⟩
  case inr.inr =>
    rw [show D.read z = (zB, 51) by unfold DK.read; rw [if_neg (by omega), he]]
    go_enter Try.func31, Try.ntmps31
    go_wp2_with (refine wpList_al rfl 25 rfl alloc_blk ?_; simp only [Act.put])
    refine (askAt_any z _ (h.ext (extAl w _))).mono ?_
    rw [he]
    rintro e w1 ⟨rfl, hb1⟩; have hz1 := hb1.size; (try simp only [World.size_alloc] at hz1)
    have hbx := (hb1.block w.heap.size (by simp)).trans (heap_alloc_last w (.cells (bvs zB).toArray 25))
    have X1 := Lib.hid (Ext.trans (extAl w (.cells (bvs zB).toArray 25)) hb1)
    have St := Lib.hid (st_blk (l := zB) hbx zB_length zB_length)
    have Hres := Lib.hid (setRow_heap _ _ _ (bvs zB).toArray _ _ hbx)
    have Fin := Lib.hid (below_setRow X1.out (Nat.le_refl _) (bvs zB).toArray)
    clear hb1 hz1 hbx he
    clear h
    go_wp2_with (first | (refine wpList_bd rfl 25 rfl build_blk ?_; simp only [Act.put]) | (refine wpList_st rfl 25 (.tmp 4) (.tmp 14) rfl St.out ?_; simp only [Act.put]))
    exact bodyPost_ret (results_cell_tmp Try.results31 _ _ _ _ _ _ _ rfl Hres.out Try.underlying25 rfl (by rw [info_blk, bvs_size, zB_length])) rfl ⟨rfl, Fin.out⟩
  rw [show D.read z = (D.at z, 0) by unfold DK.read; rw [if_pos he]]
  have hok : D.Ok := by obtain ⟨_, _, _, _, h⟩ := h; exact h.ok
  have n1 := hok.n1
  have hat := hok.at z
  have hwf := wf_i64 (a := z) (by omega) (by omega)
  have hD : D.at z = ((lastB D.wt z).or (lastB D.on z)).getD zB := by unfold DK.at; rw [lastB_append]
  rcases lastIx_spec z D.wt with ⟨hi, hb⟩ | ⟨i, b, hi, hget, hb⟩
  · rw [hb, Option.none_or] at hD
    obtain ⟨X, hX⟩ : ∃ X, X = D.at z := ⟨_, rfl⟩
    rw [← hX] at hat hD ⊢
    clear hX
    go_enter Try.func31, Try.ntmps31
    go_wp2_with (refine wpList_al rfl 25 rfl alloc_blk ?_; simp only [Act.put])
    refine (askAt_any z _ (h.ext (extAl w _))).mono ?_
    rw [he]
    rintro e w1 ⟨rfl, hb1⟩; have hz1 := hb1.size; (try simp only [World.size_alloc] at hz1)
    have hbx := (hb1.block w.heap.size (by simp)).trans (heap_alloc_last w (.cells (bvs zB).toArray 25))
    have X1 := Lib.hid (Ext.trans (extAl w (.cells (bvs zB).toArray 25)) hb1)
    have St := Lib.hid (st_blk (l := X) hbx zB_length hat)
    have Hres := Lib.hid (setRow_heap _ _ _ (bvs X).toArray _ _ hbx)
    have Fin := Lib.hid (below_setRow X1.out (Nat.le_refl _) (bvs X).toArray)
    clear hb1 hz1 hbx he
    obtain ⟨mo, mn, sv, kv, h⟩ := h.ext X1.out
    obtain ⟨c0, c1, c2, c3, c4, c5, c6, fz, hlt⟩ := blk7 h.hg
    have L1 := h.nw.look (P := Try.prog) true (t := 102) Try.underlying102 Try.underlying3 (zero_int w1) hwf
    have L2 := h.on.look (P := Try.prog) false (t := 100) Try.underlying100 Try.underlying3 (zero_blk w1) hwf
    have e1 : ixV D.wt z = none := by unfold ixV; rw [hi]; rfl
    have e2 : (((lastB D.on z).map bval).getD (bval zB)) = .agg (bvs X).toArray := by rw [hD]; cases lastB D.on z <;> rfl
    simp only [e1, if_true, Option.getD_none, Option.isSome_none] at L1
    simp only [e2, Bool.false_eq_true, if_false] at L2
    have H1 := Lib.hid L1
    have H2 := Lib.hid L2
    clear L1 L2 h c0 c2 c4 c5 c6 e1 e2 hD
    go_wp2_with (first | (refine wpList_lk rfl 102 (.tmp 20) (.tmp 21) true rfl H1.out ?_; simp only [Act.put]) | (refine wpList_lk rfl 100 (.tmp 37) (.tmp 38) false rfl H2.out ?_; simp only [Act.put]) | (refine wpList_st rfl 25 (.tmp 4) (.tmp 39) rfl St.out ?_; simp only [Act.put]))
    exact bodyPost_ret (results_cell_tmp Try.results31 _ _ _ _ _ _ _ rfl Hres.out Try.underlying25 rfl (by rw [info_blk, bvs_size, hat])) rfl ⟨rfl, Fin.out⟩
  · rw [hb, Option.some_or, Option.getD_some] at hD
    rw [hD] at hat ⊢
    have hil := (List.getElem?_eq_some_iff.1 hget).1
    go_enter Try.func31, Try.ntmps31
    go_wp2_with (refine wpList_al rfl 25 rfl alloc_blk ?_; simp only [Act.put])
    refine (askAt_any z _ (h.ext (extAl w _))).mono ?_
    rw [he]
    rintro e w1 ⟨rfl, hb1⟩; have hz1 := hb1.size; (try simp only [World.size_alloc] at hz1)
    have hbx := (hb1.block w.heap.size (by simp)).trans (heap_alloc_last w (.cells (bvs zB).toArray 25))
    have X1 := Lib.hid (Ext.trans (extAl w (.cells (bvs zB).toArray 25)) hb1)
    have St := Lib.hid (st_blk (l := b) hbx zB_length hat)
    have Hres := Lib.hid (setRow_heap _ _ _ (bvs b).toArray _ _ hbx)
    have Fin := Lib.hid (below_setRow X1.out (Nat.le_refl _) (bvs b).toArray)
    clear hb1 hz1 hbx he
    obtain ⟨mo, mn, sv, kv, h⟩ := h.ext X1.out
    obtain ⟨A, c, rfl⟩ := h.wt.form
    obtain ⟨gs, rfl, -, hgs, hcc, -⟩ := h.wt.cells (by omega)
    have hcc := hcc (by omega)
    obtain ⟨c0, c1, c2, c3, c4, c5, c6, fz, hlt⟩ := blk7 h.hg
    have L1 := h.nw.look (P := Try.prog) true (t := 102) Try.underlying102 Try.underlying3 (zero_int w1) hwf
    have H2 := Lib.hid (ld_wrf h.wt (fun q hq => (hok.wt q hq).2.2) hget)
    have e1 : ixV D.wt z = some (.int .i64 i) := by unfold ixV; rw [hi]; rfl
    simp only [e1, if_true, Option.getD_some, Option.isSome_some] at L1
    have H1 := Lib.hid L1
    clear L1 h c0 c1 c4 c5 c6 e1 hD
    go_wp2_with (first | (refine wpList_lk rfl 102 (.tmp 20) (.tmp 21) true rfl H1.out ?_; simp only [Act.put]) | (refine wpList_ld rfl 25 (.tmp 32) rfl H2.out ?_; simp only [Act.put]) | (refine wpList_st rfl 25 (.tmp 4) (.tmp 33) rfl St.out ?_; simp only [Act.put]))
    exact bodyPost_ret (results_cell_tmp Try.results31 _ _ _ _ _ _ _ rfl Hres.out Try.underlying25 rfl (by rw [info_blk, bvs_size, hat])) rfl ⟨rfl, Fin.out⟩
end

section
set_option linter.unusedVariables false
set_option maxRecDepth 100000
open Go.RowKit Go.MapKept Go.ChangeMaps

section
variable {P : Program}
theorem run_equalIn_map_nil (w : World) (d : Nat) (t k e : TypeId) (p : Option Nat) (h : P.underlying t = some (.map k e)) : (Op.equalIn (d + 1) t (.map p) (.map none)).run P w = .ok p.isNone w := by
  cases p <;> simp [Op.equalIn, run_underlying h]
theorem run_eql_map_nil (w : World) (t k e : TypeId) (p : Option Nat) (h : P.underlying t = some (.map k e)) : (binOp .eql t (.map p) (.map none)).run P w = .ok (.bool p.isNone) w := by
  simp only [binOp]
  simp [show Op.equal t (.map p) (.map none) = Op.equalIn (9999 + 1) t (.map p) (.map none) from rfl, run_equalIn_map_nil w 9999 t k e p h]
theorem run_typeAssert_map (w : World) (t xT k e : TypeId) (v : Value) (h : P.underlying t = some (.map k e)) : (Instr.typeAssert (.iface t v) xT t false).run P w = .ok v w := by
  simp [Instr.typeAssert, run_underlying h, go_sem, Result.andThen]
theorem run_maps_clone (w : World) {r : Nat} {es : Array MapEntry} {clock : Nat} (t : TypeId) (hb : w.heap[r]? = some (.map es clock)) :
    (Extern.MapsClone.clone #[.iface t (.map (some r))]).run P w = .ok (.iface t (.map (some w.heap.size))) (w.alloc (.map es clock)) := by
  have e : Extern.MapsClone.clone #[.iface t (.map (some r))] = (getObj r >>= fun o => match o with
      | .map entries clock => (newObj (.map entries clock) >>= fun n => pure (.iface t (.map (some n))))
      | _ => stuck "maps.clone: a map expected") := rfl
  rw [e]
  simp [MapKept.run_getObj_map hb, Result.andThen, go_sem]
variable {ops : Array Oper} {rest : List Oper} {o : Oper} {a : Act} {w : World} {Q : Exit → Act → World → Prop}
theorem wpList_rg (hg : o.guard = none) (m : Operand) (t : TypeId) (hop : o.op = Op.range t m) {b : Nat} {v : Value} {w' : World} (hm : a.eval m = .map (some b)) (hr : (Instr.range t (.map (some b))).run P w = .ok v w') (h : wpList P ops Q rest (a.put o.dst v) w') :
    wpList P ops Q (o :: rest) a w :=
  wpList_plain hg fun K hK => by unfold Oper.wp; simp [execOp, hop, hm, hr, Result.andThen]; exact hK _ _ h
theorem wpList_nx {b r cnt : Nat} {F : Int → Option Value} {left : Int → Bool} (hg : o.guard = none) (it : Operand) (hop : o.op = Op.next it false) (hit : a.eval it = .pointer (some ⟨r, 0, none⟩)) (h : RangI w b r F left cnt)
    (hDone : (∀ a v, F a = some v → left a = false) → wpList P ops Q rest (a.put o.dst (.tuple #[.bool false])) w)
    (hMore : ∀ x v w' cnt', (Lit.int .i64 x).wf = true → F x = some v → RangI w' b r F (fun z => left z && !decide (z = x)) cnt' → cnt' < cnt → w.grownBy w' (some r) → w'.heap.size = w.heap.size → (Instr.entry (.pointer (some ⟨r, 0, none⟩))).run P w' = .ok (.tuple #[.int .i64 x, v]) w' →
      wpList P ops Q rest (a.put o.dst (.tuple #[.bool true, .int .i64 x, v])) w') : wpList P ops Q (o :: rest) a w := by
  refine wpList_plain hg fun K' hK' => ?_
  unfold Oper.wp
  rcases h.next (P := P) o.type with ⟨hl, hrun⟩ | ⟨x, v, w', cnt', hwf, hF, hrun, hrg, hlt, hgr, hsz, hen⟩
  · simp [execOp, hop, hit, hrun, Result.andThen]
    exact hK' _ _ (hDone hl)
  · simp [execOp, hop, hit, hrun, Result.andThen]
    exact hK' _ _ (hMore x v w' cnt' hwf hF hrg hlt hgr hsz hen)
end

set_option maxHeartbeats 2000000 in
theorem mclone_any {mo : Nat} {F : Int → Option Value} (w : World) (h : MapI w mo F) :
    Calls Try.prog 72 #[.map (some mo)] w fun e w' => e = .returned (.map (some w.heap.size)) ∧ MapI w' w.heap.size F ∧ Ext w w' := by
  obtain ⟨es, clock, hb, he⟩ := h
  have hq := fun w => run_eql_map_nil (P := Try.prog) w 100 _ _ (some mo) Try.underlying100
  simp only [Option.isNone_some] at hq
  go_enter Try.func72, Try.ntmps72
  go_wp2
  rw [run_callFunc_extern Try.func90 (by kernel_rfl) (by kernel_rfl) (by kernel_rfl) (e := Extern.MapsClone.clone) (by kernel_rfl), run_maps_clone w 100 hb]
  simp only [Result.andThen]
  rw [Oper.upon_value]
  go_wp2
  rw [run_typeAssert_map _ 100 _ _ _ _ Try.underlying100]
  simp only [Result.andThen]
  rw [Oper.upon_value]
  go_wp2
  go_ret
  exact ⟨rfl, ⟨es, clock, heap_alloc_last _ _, he⟩, extAl w _⟩

set_option maxHeartbeats 1000000 in
theorem clone_wrs {v : Value} (l : List Wr) (w : World) (h : OwnR w 0 107 513 One v l.length (wcs l)) (hl : l.length ≤ 1000000) :
    Calls Try.prog 73 #[v] w fun e w' => ∃ v', e = .returned v' ∧ OwnR w' w.heap.size 107 513 One v' l.length (wcs l) ∧ Below w.heap.size w w' := by
  have hf := h.form
  obtain ⟨A, c, rfl⟩ := hf
  have hq := fun w => run_eql_slice_nil (P := Try.prog) w 101 _ A l.length c Try.underlying101
  have ho := alloc_row0 w 107 w.heap.size 513 One (Nat.le_refl _)
  have hs := (h.ext (extAl w (.cells #[] 107))).src (P := Try.prog) (tx := 101) Try.underlying101 (wcs_one l)
  obtain ⟨v', w1, hr, ho1, hb, -, -⟩ := app_wr (tx := 101) (ty := 101) ho hs (by simp) (wcs_one l) (by omega)
  have hb' : Below w.heap.size w w1 := Below.trans (extAl w _) hb
  simp only [Nat.zero_add, List.nil_append] at ho1
  cases A with
  | none =>
    have h0 : l = [] := by
      cases l with
      | nil => rfl
      | cons p l =>
        obtain ⟨_, ⟨_, h0⟩ | ⟨g, c', junk, hv, _⟩⟩ := h
        · simp at h0
        · simp at hv
    subst h0
    simp only [Option.isNone_none, List.length_nil] at hq
    go_enter Try.func73, Try.ntmps73
    go_wp2
    go_ret
    exact ⟨_, rfl, OwnR.nil, by (repeat' (first | (with_reducible assumption) | (with_reducible exact Below.refl _ _) | (with_reducible refine below_sc ?_ ?_) | ((with_reducible show (_ : Nat) ≤ _); omega) | refine Below.setCell ?_ (by first | omega | (simp; done) | (simp; omega)) _ | refine Below.alloc ?_ (by first | omega | (simp; done) | (simp; omega)) _ | refine Below.drew ?_ | refine below_drewN ?_ _ | refine Below.trans ?_ (Below.mono (by assumption) (by first | omega | (simp; done) | (simp; omega)))))⟩
  | some a =>
    have Hr := Lib.hid hr
    simp only [Option.isNone_some] at hq
    clear hr hs ho
    go_enter Try.func73, Try.ntmps73
    go_wp2_with (refine wpList_app rfl (.tmp 5) (.tmp 6) 101 101 rfl Hr.out ?_; simp only [Act.put])
    go_ret
    exact ⟨_, rfl, ho1, hb'⟩

set_option maxHeartbeats 2000000 in
theorem mcopy_any {bd bs : Nat} {F : Int → Option Value} (w : World) (hd : MapI w bd fun _ => none) (hs : MapI w bs F) (hne : bd ≠ bs) (hF : ∀ a v, F a = some v → ∃ i, v = .int .i64 i) :
    Calls Try.prog 74 #[.map (some bd), .map (some bs)] w fun e w' => e = .returned (.tuple #[]) ∧ MapI w' bd F ∧ Mut (fun i => i = bd) w w' := by
  have hbd := hd.lt
  have hbs := hs.lt
  obtain ⟨w0, cnt0, hrun, hrg0, hx0, hsz0⟩ := hs.range (P := Try.prog) (t := 102) Try.underlying102
  have Hrun := Lib.hid hrun
  have Hd0 := Lib.hid (hd.ext hx0)
  have Hx0 := Lib.hid hx0
  have Hrg0 := Lib.hid hrg0
  clear hrun hd hs hx0 hrg0 hsz0
  go_enter Try.func74, Try.ntmps74
  go_wp2_with (refine wpList_rg rfl (.tmp 6) 102 rfl rfl Hrun.out ?_)
  go_frame
  go_loopw [8] (fun _ wr => ∃ (left : Int → Bool) (cnt : Nat), Hid (RangI wr bs w.heap.size F left cnt) ∧ Hid (MapI wr bd (fun a => if left a = true then none else F a)) ∧ Hid (Mut (fun i => i = bd) w wr)) (fun _ wr => wr.rangeLeft bs w.heap.size)
  case atStart => exact ⟨_, _, Hrg0, Lib.hid (Hd0.out.cong fun a => rfl), Lib.hid (Mut.of_ext Hx0.out)⟩
  case round =>
    obtain ⟨left, cnt, hrg, hout, hgw⟩ := hrel
    go_wp2_with (refine wpList_nx rfl (.tmp 7) rfl rfl hrg.out ?_ ?_)
    · intro hl0
      try go_frame
      go_wp2
      go_end0
      exact ⟨rfl, hout.out.cong fun a => by
        cases h : F a with
        | none => simp
        | some v => simp [hl0 a v h], hgw.out⟩
    · intro x v w1 cnt1 hwf hFx hrg1 hlt hg1 hs1 hen
      obtain ⟨i, rfl⟩ := hF x v hFx
      try go_frame
      have hM1 : Mut (fun i => i = w.heap.size) wr w1 := Mut.of_grown hg1 fun b hb => by simpa using hb.symm
      have hout1 := hout.out.mut hM1 (fun e => by omega)
      obtain ⟨w2, hr2, hm2, hg2⟩ := hout1.update (P := Try.prog) (t := 102) Try.underlying102 Try.underlying3 hwf (.int .i64 i)
      have hM2 : Mut (fun i => i = bd) w1 w2 := Mut.of_grown hg2 fun b hb => by simpa using hb.symm
      have hrg2 := Lib.hid (hrg1.mut hM2 (fun e => hne e.symm) (fun e => by omega))
      have hfin := Lib.hid (hm2.cong (G := fun a => if (left a && !decide (a = x)) = true then none else F a) fun a => by
        unfold upd
        by_cases e : a = x
        · subst e; simp [hFx]
        · simp [e])
      have hgw2 : Hid (Mut (fun i => i = bd) w w2) := Lib.hid ⟨hM2.os.trans (hM1.os.trans hgw.out.os), hM2.tape.trans (hM1.tape.trans hgw.out.tape), hM2.output.trans (hM1.output.trans hgw.out.output), Nat.le_trans hgw.out.size (Nat.le_trans hM1.size hM2.size), fun i hi hn =>
        (hM2.block i (Nat.lt_of_lt_of_le hi (Nat.le_trans hgw.out.size hM1.size)) hn).trans ((hM1.block i (Nat.lt_of_lt_of_le hi hgw.out.size) (by omega)).trans (hgw.out.block i hi hn))⟩
      have Hr2 := Lib.hid hr2
      have hcl := hrg.out.left_eq
      have hcl2 := hrg2.out.left_eq
      clear hr2 hm2 hg2 hM1 hM2 hout1 hrg1 hout hgw hg1 hs1
      go_wp2_with (refine wpList_mu rfl 102 (.tmp 13) (.tmp 14) (.tmp 15) rfl Hr2.out ?_; simp only [Act.put])
      go_roundw
      case rel => exact ⟨_, cnt1, hrg2, hfin, hgw2⟩
      case measure => rw [hcl, hcl2]; exact hlt
end

section
set_option linter.unusedVariables false
set_option maxRecDepth 100000
open Go.RowKit

theorem DkAt.ok {w : World} {S : Nat → Prop} {g : Nat} {D : DK} (h : DkAt w S g D) : D.Ok := by obtain ⟨_, _, _, _, h⟩ := h; exact h.ok
set_option maxHeartbeats 2000000 in
theorem Boot_no {S : Nat → Prop} {g : Nat} {D : DK} (w : World) (h : DkAt w S g D) (hd : D.dead = false) :
    Calls Try.prog 35 #[.pointer (some ⟨g, 0, none⟩)] w fun e w' => e = .returned (.tuple #[.pointer none, .int .i64 50]) ∧ Below w.heap.size w w' := by
  obtain ⟨mo, mn, sv, kv, h⟩ := h
  obtain ⟨c0, c1, c2, c3, c4, c5, c6, fz, hlt⟩ := blk7 h.hg
  rw [hd] at c6
  go_enter Try.func35, Try.ntmps35
  go_wp2
  exact bodyPost_ret (v := .tuple #[.pointer none, .int .i64 50]) (by simp only [results, Try.results35]; go_simp) rfl ⟨rfl, by (repeat' (first | (with_reducible assumption) | (with_reducible exact Below.refl _ _) | (with_reducible refine below_sc ?_ ?_) | ((with_reducible show (_ : Nat) ≤ _); omega) | refine Below.setCell ?_ (by first | omega | (simp; done) | (simp; omega)) _ | refine Below.alloc ?_ (by first | omega | (simp; done) | (simp; omega)) _ | refine Below.drew ?_ | refine below_drewN ?_ _ | refine Below.trans ?_ (Below.mono (by assumption) (by first | omega | (simp; done) | (simp; omega)))))⟩
set_option maxHeartbeats 2000000 in
theorem Boot_ok {S : Nat → Prop} {g : Nat} {D : DK} (w : World) (h : DkAt w S g D) (hd : D.dead = true) :
    Calls Try.prog 35 #[.pointer (some ⟨g, 0, none⟩)] w fun e w' => ∃ g', e = .returned (.tuple #[.pointer (some ⟨g', 0, none⟩), .int .i64 0]) ∧ w.heap.size ≤ g' ∧ DkAt w' (fun i => w.heap.size ≤ i ∧ i < w'.heap.size) g' (newD D.n D.on) ∧ Below w.heap.size w w' := by
  have ok := h.ok
  have hok : (newD D.n D.on).Ok := ⟨ok.n0, ok.n1, Int.le_refl _, by simp [newD], ok.on, by simp [newD]⟩
  obtain ⟨mo, mn, sv, kv, h⟩ := h
  have cc := blk7 h.hg
  have c6 := cc.2.2.2.2.2.2.1
  have hlt := (Array.getElem?_eq_some_iff.1 h.hg).1
  rw [hd] at c6
  go_enter Try.func35, Try.ntmps35
  go_wp2_with fail
  have e1 : ∀ ψ (e : ExtP w.heap.size w ψ), e.val.cell? ⟨g, 0, none⟩ = some (.int .i64 D.n) := fun ψ e => e.cell cc.1 hlt
  have e2 : ∀ ψ (e : ExtP w.heap.size w ψ), e.val.cell? ⟨g, 1, none⟩ = some (.map (some mo)) := fun ψ e => e.cell cc.2.1 hlt
  clear cc
  refine wp_region_pieces 10  [(true, [0, 1, 2, 3, 4, 5, 6, 7]), (false, [8]), (false, [9])] (by kernel_rfl) (by kernel_rfl) ?_; simp only [pick, List.map_cons, List.map_nil, List.flatMap_cons, List.flatMap_nil, Option.toList_some, List.singleton_append, List.drop_succ_cons, List.drop_zero, List.getElem?_cons_zero, List.getElem?_cons_succ]
  refine ⟨by kernel_rfl, ?_⟩; apply Exists.intro; refine ⟨fun ψ hψ hne => (by (repeat (go_big_quiet_step (( fail )))); exact wpQuiet_nil rfl), ?_⟩
  intro wa ha K hK
  clear e1 e2
  go_wp2_with (go_at_call 72; refine (mclone_any _ (h.on.ext ha)).mono ?_; rintro e wb ⟨rfl, hm, hb⟩)
  refine hK _ _ hb ?_
  clear hK K
  intro wc hc K hK
  have hcs := Ext.trans ha (Ext.trans hb hc)
  have hsz := ha.size
  have hmlt := hm.lt
  go_wp2_with (go_at_call 65; refine (with_any (on := D.on) _ (hm.ext hc) hok).mono ?_; rintro e wd ⟨g', rfl, hg', hd, hbd⟩)
  refine hK _ _ hbd ?_
  clear hK K
  intro we he
  have hs2 := hbd.size
  have hs3 := he.size
  have hs4 := hb.size
  have hs5 := hc.size
  have F := Lib.hid (Ext.trans hcs (Ext.trans hbd he))
  have D2 := Lib.hid (hd.ext he)
  have hgl : w.heap.size ≤ g' := by omega
  have hx : ∀ i, (i = wa.heap.size ∨ wc.heap.size ≤ i ∧ i < wd.heap.size) → w.heap.size ≤ i ∧ i < we.heap.size := by
    rintro i (rfl | hi) <;> omega
  clear hd hbd hcs hm hb hc ha he hs2 hs3 hs4 hs5 hg' hmlt hsz
  go_wp2
  exact bodyPost_ret (v := .tuple #[.pointer (some ⟨g', 0, none⟩), .int .i64 0]) (by simp only [results, Try.results35]; go_simp) rfl ⟨g', rfl, hgl, D2.out.mono hx, F.out⟩

/-- A disk under way to be one: what stands in the map of the newest is told by itself; all of it is new since B. -/
structure DkQ (w : World) (B g mo mn : Nat) (sv kv : Value) (D : DK) (F : Int → Option Value) : Prop where
  hg : w.heap[g]? = some (.cells #[.int .i64 D.n, .map (some mo), sv, .map (some mn), .int .i64 D.cut, kv, .bool D.dead] 104 (0, 0))
  on : MapI w mo fun a => (lastB D.on a).map bval
  nw : MapI w mn F
  ne : mo ≠ mn
  wt : OwnR w 0 107 513 One sv D.wt.length (wcs D.wt)
  kp : OwnR w 0 4 1 One kv D.keep.length (bcs D.keep)
  bg : B ≤ g
  bo : B ≤ mo
  bn : B ≤ mn
  bw : ∀ b, sv.ownBlock = some b → B ≤ b
  bk : ∀ b, kv.ownBlock = some b → B ≤ b
theorem DkQ.mut {w w' : World} {S : Nat → Prop} {B g mo mn : Nat} {sv kv : Value} {D : DK} {F : Int → Option Value} (h : DkQ w B g mo mn sv kv D F) (k : Mut S w w') (hS : ∀ i, S i → i < B) : DkQ w' B g mo mn sv kv D F :=
  have no : ∀ i, B ≤ i → ¬ S i := fun i hi hs => by have := hS i hs; omega
  { h with
    hg := (k.block g (Array.getElem?_eq_some_iff.1 h.hg).1 (no _ h.bg)).trans h.hg
    on := h.on.mut k (no _ h.bo)
    nw := h.nw.mut k (no _ h.bn)
    wt := h.wt.mutO k fun b hb => no _ (h.bw b hb)
    kp := h.kp.mutO k fun b hb => no _ (h.bk b hb) }
theorem DkQ.ext {w w' : World} {B g mo mn : Nat} {sv kv : Value} {D : DK} {F : Int → Option Value} (h : DkQ w B g mo mn sv kv D F) (k : Ext w w') : DkQ w' B g mo mn sv kv D F := h.mut (S := fun _ => False) (Mut.of_ext k) fun _ h => h.elim
theorem DkQ.cells {w : World} {B g mo mn : Nat} {sv kv : Value} {D D' : DK} {F : Int → Option Value} (h : DkQ w B g mo mn sv kv D F) (sv' kv' : Value) (ho : D'.on = D.on) (hw : OwnR w 0 107 513 One sv' D'.wt.length (wcs D'.wt)) (hk : OwnR w 0 4 1 One kv' D'.keep.length (bcs D'.keep))
    (bw : ∀ b, sv'.ownBlock = some b → B ≤ b) (bk : ∀ b, kv'.ownBlock = some b → B ≤ b) :
    DkQ (w.setRow g #[.int .i64 D'.n, .map (some mo), sv', .map (some mn), .int .i64 D'.cut, kv', .bool D'.dead]) B g mo mn sv' kv' D' F where
  hg := setRow_heap _ _ _ _ _ _ h.hg
  on := by rw [ho]; exact h.on.set h.hg
  nw := h.nw.set h.hg
  ne := h.ne
  wt := hw.set h.hg (by decide)
  kp := hk.set h.hg (by decide)
  bg := h.bg
  bo := h.bo
  bn := h.bn
  bw := bw
  bk := bk
theorem DkQ.newest {w w' : World} {B g mo mn : Nat} {sv kv : Value} {D : DK} {F F' : Int → Option Value} (h : DkQ w B g mo mn sv kv D F) (k : Mut (fun i => i = mn) w w') (hm : MapI w' mn F') : DkQ w' B g mo mn sv kv D F' where
  hg := (k.block g (Array.getElem?_eq_some_iff.1 h.hg).1 (cells_nm h.hg h.nw)).trans h.hg
  on := h.on.mut k h.ne
  nw := hm
  ne := h.ne
  wt := h.wt.mutO k fun b hb e => own_nm h.wt h.nw (e ▸ hb)
  kp := h.kp.mutO k fun b hb e => own_nm h.kp h.nw (e ▸ hb)
  bg := h.bg
  bo := h.bo
  bn := h.bn
  bw := h.bw
  bk := h.bk
theorem DkQ.at {w : World} {B g mo mn : Nat} {sv kv : Value} {D : DK} (h : DkQ w B g mo mn sv kv D (ixV D.wt)) (ok : D.Ok) : DkAt w (fun i => B ≤ i ∧ i < w.heap.size) g D :=
  ⟨mo, mn, sv, kv, {
    hg := h.hg
    on := h.on
    nw := h.nw
    ne := h.ne
    wt := h.wt
    kp := h.kp
    sg := ⟨h.bg, (Array.getElem?_eq_some_iff.1 h.hg).1⟩
    so := ⟨h.bo, h.on.lt⟩
    sn := ⟨h.bn, h.nw.lt⟩
    sw := fun b hb => ⟨h.bw b hb, own_lt h.wt hb⟩
    sk := fun b hb => ⟨h.bk b hb, own_lt h.kp hb⟩
    ok := ok }⟩
theorem DkAt.q {w : World} {S : Nat → Prop} {B g : Nat} {D : DK} (h : DkAt w S g D) (hS : ∀ i, S i → B ≤ i) : ∃ mo mn sv kv, DkQ w B g mo mn sv kv D (ixV D.wt) := by
  obtain ⟨mo, mn, sv, kv, h⟩ := h
  exact ⟨mo, mn, sv, kv, ⟨h.hg, h.on, h.nw, h.ne, h.wt, h.kp, hS _ h.sg, hS _ h.so, hS _ h.sn, fun b hb => hS _ (h.sw b hb), fun b hb => hS _ (h.sk b hb)⟩⟩
theorem ixV_int {l : List Wr} {a : Int} {v : Value} (h : ixV l a = some v) : ∃ i, v = .int .i64 i := by
  unfold ixV at h
  cases k : lastIx l a with
  | none => rw [k] at h; cases h
  | some i => rw [k] at h; exact ⟨_, (Option.some.inj h).symm⟩
set_option maxHeartbeats 2000000 in
theorem Copy_any {S : Nat → Prop} {g : Nat} {D : DK} (w : World) (h : DkAt w S g D) (hkl : D.keep.length ≤ 1000000) (hwl : D.wt.length ≤ 1000000) :
    Calls Try.prog 33 #[.pointer (some ⟨g, 0, none⟩)] w fun e w' => ∃ g', e = .returned (.pointer (some ⟨g', 0, none⟩)) ∧ w.heap.size ≤ g' ∧ DkAt w' (fun i => w.heap.size ≤ i ∧ i < w'.heap.size) g' D ∧ Below w.heap.size w w' := by
  have ok := h.ok
  have hok : (newD D.n D.on).Ok := ⟨ok.n0, ok.n1, Int.le_refl _, by simp [newD], ok.on, by simp [newD]⟩
  obtain ⟨mo, mn, sv, kv, h⟩ := h
  have cc := blk7 h.hg
  have hlt := (Array.getElem?_eq_some_iff.1 h.hg).1
  go_enter Try.func33, Try.ntmps33
  go_wp2_with fail
  have e1 : ∀ ψ (e : ExtP w.heap.size w ψ), e.val.cell? ⟨g, 0, none⟩ = some (.int .i64 D.n) := fun ψ e => e.cell cc.1 hlt
  have e2 : ∀ ψ (e : ExtP w.heap.size w ψ), e.val.cell? ⟨g, 1, none⟩ = some (.map (some mo)) := fun ψ e => e.cell cc.2.1 hlt
  clear cc
  refine wp_region_pieces 10  [(true, [0, 1, 2, 3, 4, 5, 6, 7]), (false, [8]), (false, [9])] (by kernel_rfl) (by kernel_rfl) ?_; simp only [pick, List.map_cons, List.map_nil, List.flatMap_cons, List.flatMap_nil, Option.toList_some, List.singleton_append, List.drop_succ_cons, List.drop_zero, List.getElem?_cons_zero, List.getElem?_cons_succ]
  refine ⟨by kernel_rfl, ?_⟩; apply Exists.intro; refine ⟨fun ψ hψ hne => (by (repeat (go_big_quiet_step (( fail )))); exact wpQuiet_nil rfl), ?_⟩
  intro wa ha K hK
  clear e1 e2
  go_wp2_with (go_at_call 72; refine (mclone_any _ (h.on.ext ha)).mono ?_; rintro e wb ⟨rfl, hm, hb⟩)
  refine hK _ _ hb ?_
  clear hK K
  intro wc hc K hK
  have hcs := Ext.trans ha (Ext.trans hb hc)
  have hsz := ha.size
  have hmlt := hm.lt
  go_wp2_with (go_at_call 65; refine (with_any (on := D.on) _ (hm.ext hc) hok).mono ?_; rintro e wd ⟨g', rfl, hg', hd, hbd⟩)
  refine hK _ _ hbd ?_
  clear hK K
  intro we he
  have hs2 := hbd.size
  have hs3 := he.size
  have hs4 := hb.size
  have hs5 := hc.size
  have F := Lib.hid (Ext.trans hcs (Ext.trans hbd he))
  have hgl : w.heap.size ≤ g' := by omega
  obtain ⟨mo', mn', sv', kv', q⟩ := (hd.ext he).q (B := w.heap.size) (by rintro i (rfl | hi) <;> omega)
  clear hd hbd hcs hm hb hc ha he hs2 hs3 hs4 hs5 hg' hmlt hsz
  have Q1 := Lib.hid q
  have h1 := h.ext F.out
  have cc := blk7 h1.hg
  obtain ⟨A, c, rfl⟩ := h.wt.form
  have KC := Lib.hid (clone_wrs D.wt _ h1.wt hwl)
  clear q h1
  obtain ⟨c0, c1, c2, c3, c4, c5, c6, fz, -⟩ := cc
  go_upto_region 5 with (go_at_call 73; refine KC.out.mono ?_; rintro e w2 ⟨v2, rfl, ho2, hb2⟩; obtain ⟨A2, c2', rfl⟩ := ho2.form; have Q2 := Lib.hid (Q1.out.ext hb2); obtain ⟨d0, d1, d2, d3, d4, d5, d6, fz2, -⟩ := blk7 Q2.out.hg)
  have hst := set7_2 (.slice A2 D.wt.length c2') Q2.out.hg
  have q3 := Q2.out.cells (D' := { newD D.n D.on with wt := D.wt }) (.slice A2 D.wt.length c2') kv' rfl (ho2.mono (Nat.zero_le _)) Q2.out.kp (fun b hb => by
    obtain ⟨_, ⟨h1, _⟩ | ⟨g9, c9, junk, h1, hB, _, _⟩⟩ := ho2
    · rw [h1] at hb; simp [Value.ownBlock] at hb
    · rw [h1] at hb
      obtain rfl : g9 = b := by simpa [Value.ownBlock] using hb
      exact Nat.le_trans F.out.size hB) Q2.out.bk
  have f3 : Ext w (w2.setRow g' _) := below_setRow (Ext.trans F.out hb2) hgl #[.int .i64 D.n, .map (some mo'), .slice A2 D.wt.length c2', .map (some mn'), .int .i64 0, kv', .bool false]
  try simp only [newD] at hst q3
  rw [← hst] at q3 f3
  have Q3 := Lib.hid q3
  have F3 := Lib.hid f3
  clear q3 f3 hst ho2 Q2 Q1 KC c0 c1 c2 c3 c4 c5 c6 fz d0 d1 d2 d3 d4 d5 d6 fz2 hb2 F
  try simp only [List.setIfInBounds_toArray, List.set_cons_zero, List.set_cons_succ]
  generalize w2.setCell ⟨g', 2, none⟩ (.slice A2 D.wt.length c2') = V at *
  have hV := h.ext F3.out
  have cc := blk7 hV.hg
  have cq := blk7 Q3.out.hg
  have hlV := (Array.getElem?_eq_some_iff.1 hV.hg).1
  have hlQ := (Array.getElem?_eq_some_iff.1 Q3.out.hg).1
  have e1 : ∀ ψ (e : ExtP V.heap.size V ψ), e.val.cell? ⟨g', 3, none⟩ = some (.map (some mn')) := fun ψ e => e.cell cq.2.2.2.1 hlQ
  have e2 : ∀ ψ (e : ExtP V.heap.size V ψ), e.val.cell? ⟨g, 3, none⟩ = some (.map (some mn)) := fun ψ e => e.cell cc.2.2.2.1 hlV
  clear cc cq
  have hmn : mn' ≠ mn := by have := Q3.out.bn; have := h.nw.lt; omega
  refine wp_region_pieces 8  [(true, [0, 1, 2, 3, 4, 5, 6, 7])] (by kernel_rfl) (by kernel_rfl) ?_; simp only [pick, List.map_cons, List.map_nil, List.flatMap_cons, List.flatMap_nil, Option.toList_some, List.singleton_append, List.drop_succ_cons, List.drop_zero, List.getElem?_cons_zero, List.getElem?_cons_succ]
  refine ⟨by kernel_rfl, ?_⟩; apply Exists.intro; refine ⟨fun ψ hψ hne => (by (repeat (go_big_quiet_step (( fail )))); exact wpQuiet_nil rfl), ?_⟩
  intro V' hx
  clear e1 e2
  have MC := Lib.hid (mcopy_any V' ((Q3.out.ext hx).nw.cong fun a => rfl) (hV.ext hx).nw hmn fun a v h => ixV_int h)
  go_upto_region 6 with (go_at_call 74; refine MC.out.mono ?_; rintro e w4 ⟨rfl, hm4, hM4⟩)
  have Q4 := Lib.hid ((Q3.out.ext hx).newest hM4 hm4)
  have F4 : Hid (Ext w w4) := Lib.hid (Below.trans (Ext.trans F3.out hx) (hM4.below (B := w.heap.size) (by rintro i rfl; exact Q3.out.bn) (Nat.le_trans F3.out.size hx.size)))
  clear MC hm4 hM4 hx Q3 F3 hV hlV hlQ
  have h4 := h.ext F4.out
  obtain ⟨kA, kc, rfl⟩ := h.kp.form
  have cc := blk7 h4.hg
  have hl4 := (Array.getElem?_eq_some_iff.1 h4.hg).1
  have hgg : ¬ g = g' := by omega
  have KC := Lib.hid fun w' (hw' : Mut (fun i => i = g') w4 w') => clone_bools D.keep w' (OwnR.rb (h4.kp.mutO hw' fun b hb e => by have := own_lt h.kp hb; omega)) hkl
  have e1 : ∀ ψ (e : ExtS (fun i => i = g') w4 ψ), e.val.cell? ⟨g, 4, none⟩ = some (.int .i64 D.cut) := fun ψ e => e.cell cc.2.2.2.2.1 hl4 hgg
  have e2 : ∀ ψ (e : ExtS (fun i => i = g') w4 ψ), e.val.cell? ⟨g, 5, none⟩ = some (.slice kA D.keep.length kc) := fun ψ e => e.cell cc.2.2.2.2.2.1 hl4 hgg
  clear cc
  try simp only [List.setIfInBounds_toArray, List.set_cons_zero, List.set_cons_succ]
  refine wp_region_piecesS (fun i => i = g') 14 [(true, [0, 1, 2, 3, 4, 5, 6, 7, 8, 9]), (false, [10]), (true, [11, 12]), (false, [13])] (by kernel_rfl) (by kernel_rfl) ?_; simp only [pick, List.map_cons, List.map_nil, List.flatMap_cons, List.flatMap_nil, Option.toList_some, List.singleton_append, List.drop_succ_cons, List.drop_zero, List.getElem?_cons_zero, List.getElem?_cons_succ]
  refine ⟨by kernel_rfl, ?_⟩; apply Exists.intro; refine ⟨fun ψ hψ hne => (by (repeat (go_big_quiet_step (( fail )))); exact wpQuiet_nil rfl), ?_⟩
  intro xa hxa K hK
  go_wp2_with (go_at_call 67; refine (KC.out _ (Mut.of_ext hxa)).mono ?_; rintro e xb ⟨v3, rfl, ho3, hb3⟩; obtain ⟨A3, c3', rfl⟩ := ho3.form)
  refine hK _ _ (Mut.of_ext hb3) ?_
  clear hK K e1 e2 KC
  refine ⟨by kernel_rfl, ?_⟩; apply Exists.intro; refine ⟨fun ψ hψ hne => (by (repeat (go_big_quiet_step (( fail )))); exact wpQuiet_nil rfl), ?_⟩
  intro xc hxc K hK
  have hX4 : Ext w4 xc := Ext.trans hxa (Ext.trans hb3 hxc)
  have Q5 := Lib.hid (Q4.out.ext hX4)
  have F5 := Lib.hid (Ext.trans F4.out hX4)
  obtain ⟨d0, d1, d2, d3, d4, d5, d6, fz2, hl5⟩ := blk7 Q5.out.hg
  have hst := set7_4 (.int .i64 D.cut) Q5.out.hg
  have q6 := Q5.out.cells (D' := { newD D.n D.on with wt := D.wt, cut := D.cut }) (.slice A2 D.wt.length c2') kv' rfl Q5.out.wt Q5.out.kp Q5.out.bw Q5.out.bk
  have f6 : Ext w (xc.setRow g' _) := below_setRow F5.out hgl #[.int .i64 D.n, .map (some mo'), .slice A2 D.wt.length c2', .map (some mn'), .int .i64 D.cut, kv', .bool false]
  have hM6 := mut_setRow (S := fun i => i = g') (w := xc) (g := g') rfl #[.int .i64 D.n, .map (some mo'), .slice A2 D.wt.length c2', .map (some mn'), .int .i64 D.cut, kv', .bool false]
  try simp only [newD] at q6
  rw [← hst] at q6 f6 hM6
  have ho4 := (ho3.ext hxc).mutO hM6 (fun b hb e => by
    obtain ⟨_, ⟨h1, _⟩ | ⟨g9, c9, junk, h1, hB, _, _⟩⟩ := ho3
    · rw [h1] at hb; simp [Value.ownBlock] at hb
    · rw [h1] at hb
      obtain rfl : g9 = b := by simpa [Value.ownBlock] using hb
      have := (Array.getElem?_eq_some_iff.1 Q4.out.hg).1
      have := hxa.size
      omega)
  have hB4 : ∀ b, (Value.slice A3 D.keep.length c3').ownBlock = some b → w.heap.size ≤ b := fun b hb => by
    obtain ⟨_, ⟨h1, _⟩ | ⟨g9, c9, junk, h1, hB, _, _⟩⟩ := ho3
    · rw [h1] at hb; simp [Value.ownBlock] at hb
    · rw [h1] at hb
      obtain rfl : g9 = b := by simpa [Value.ownBlock] using hb
      have := F4.out.size
      have := hxa.size
      omega
  have Q6 := Lib.hid q6
  have F6 := Lib.hid f6
  have O4 := Lib.hid ho4
  clear q6 f6 ho4 hst ho3 hb3 hxa hxc hX4 Q4 F4 Q5 F5 hl4 h4
  go_wp2_with fail
  refine hK _ _ hM6 ?_
  clear hK K hM6 d0 d1 d2 d3 d4 d5 d6 fz2 hl5
  generalize xc.setCell ⟨g', 4, none⟩ (.int .i64 D.cut) = xd at *
  intro y hy
  have Q7 := Lib.hid (Q6.out.ext hy)
  have F7 := Lib.hid (Ext.trans F6.out hy)
  have O7 := Lib.hid (O4.out.ext hy)
  have h7 := h.ext F7.out
  obtain ⟨-, -, -, -, -, -, s6, fs, -⟩ := blk7 h7.hg
  obtain ⟨d0, d1, d2, d3, d4, d5, d6, fz2, hl5⟩ := blk7 Q7.out.hg
  have hgg' : ¬ g' = g := fun e => hgg e.symm
  clear h7 Q6 F6 O4 hy
  go_wp2_with fail
  go_ret
  refine ⟨g', rfl, hgl, ?_⟩
  have e : ((y.setCell ⟨g', 5, none⟩ (.slice A3 D.keep.length c3')).setCell ⟨g', 6, none⟩ (.bool D.dead)) = y.setRow g' #[.int .i64 D.n, .map (some mo'), .slice A2 D.wt.length c2', .map (some mn'), .int .i64 D.cut, .slice A3 D.keep.length c3', .bool D.dead] := by
    rw [set7_5 _ Q7.out.hg]
    have h2 := setRow_heap y g' _ #[.int .i64 D.n, .map (some mo'), .slice A2 D.wt.length c2', .map (some mn'), .int .i64 D.cut, .slice A3 D.keep.length c3', .bool false] _ _ Q7.out.hg
    rw [setCell_eq_setRow _ g' 6 _ _ (0, 0) _ h2, setRow_setRow]
    rfl
  rw [e]
  exact ⟨(Q7.out.cells (D' := D) (.slice A2 D.wt.length c2') (.slice A3 D.keep.length c3') rfl Q7.out.wt (O7.out.mono (Nat.zero_le _)) Q7.out.bw hB4).at ok, below_setRow F7.out hgl _⟩
end
end Go.Proofs.Ytobcfocbglkicaa
