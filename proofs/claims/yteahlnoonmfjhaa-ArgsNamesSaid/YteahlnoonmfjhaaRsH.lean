/- Results: a reader of fields reads an Attr. -/
import Derived.Test.YteahlnoonmfjhaaRsA
import Derived.Test.YteahlnoonmfjhaaAgJ
set_option linter.unusedVariables false
set_option maxRecDepth 100000
namespace Go.Proofs.Yteahlnoonmfjhaa
open Go.RowKit

/-- As much is left, and it is bad or not alike. -/
def SameH (s s' : St) : Prop := s'.isSome = s.isSome ∧ s'.l.length = s.l.length
theorem SameH.refl (s : St) : SameH s s := ⟨rfl, rfl⟩
theorem SameH.trans {a b c : St} (h : SameH a b) (k : SameH b c) : SameH a c := ⟨k.1.trans h.1, k.2.trans h.2⟩
theorem RS.setB {w : World} {v : Value} {l : List UInt8} {g : Nat} {T : TypeId} {row row' : Array Value} (h : RS w v l) (hg : w.heap[g]? = some (.cells row T (0, 0))) (hr : ∀ j : Nat, row'[j]? = row[j]? ∨ (∃ u, row[j]? = some u ∧ NoB' u) ∨ ∃ x, row'[j]? = some (bv x)) : ∃ l' : List UInt8, l'.length = l.length ∧ RS (w.setRow g row') v l' := by
  rcases h with ⟨rfl, rfl⟩ | ⟨b, off, c, rfl, hb, hc, hj⟩
  · exact ⟨[], rfl, .inl ⟨rfl, rfl⟩⟩
  · obtain ⟨l', hl, hq⟩ := list_of (Q := fun i x => (w.setRow g row').cell? ⟨b, off + i, none⟩ = some (bv x)) l.length (fun i hi => by
      have h1 := hj i hi
      rw [bvs_get hi] at h1
      by_cases e : b = g
      · subst e
        rw [cell_of_row _ _ _ _ _ _ hg] at h1
        rw [cell_of_row _ _ _ _ _ _ (setRow_heap w b row row' T (0, 0) hg)]
        rcases hr (off + i) with h2 | ⟨u, h2, h3⟩ | h2
        · exact ⟨l[i], by rw [h2]; exact h1⟩
        · rw [h2] at h1
          simp only [Option.some.injEq] at h1
          exact absurd h1 (h3 _)
        · exact h2
      · exact ⟨l[i], by rw [← h1]; exact World.cell?_of_block (setRow_other w g b row' e)⟩)
    refine ⟨l', hl, .inr ⟨b, off, c, by rw [hl], by simpa [World.setRow] using hb, by omega, fun j hjl => ?_⟩⟩
    rw [bvs_get hjl]
    exact hq j _ (List.getElem?_eq_getElem hjl)
theorem Rd.setB {w : World} {T T' : TypeId} {gr g : Nat} {st : St} {row row' : Array Value} (h : Rd T w gr st) (hne : gr ≠ g) (hg : w.heap[g]? = some (.cells row T' (0, 0))) (hr : ∀ j : Nat, row'[j]? = row[j]? ∨ (∃ u, row[j]? = some u ∧ NoB' u) ∨ ∃ x, row'[j]? = some (bv x)) : ∃ st', SameH st st' ∧ Rd T (w.setRow g row') gr st' := by
  obtain ⟨A, c, h1, h2⟩ := h
  obtain ⟨l', hl, h3⟩ := h2.setB hg hr
  have h4 := (setRow_other w g gr row' hne).trans h1
  cases st with
  | none =>
    have e : l' = [] := List.length_eq_zero_iff.1 hl
    subst e
    exact ⟨none, SameH.refl _, A, c, h4, h3⟩
  | some l =>
    have hl : l'.length = l.length := hl
    refine ⟨some l', ⟨rfl, hl⟩, A, c, ?_, ?_⟩
    · show (w.setRow g row').heap[gr]? = some (.cells #[.slice A l'.length c, .bool false] T (0, 0))
      rw [hl]; exact h4
    · show RS _ (.slice A l'.length c) l'
      rw [hl]; exact h3
section
variable {W0 w w' : World} {gr gf ga b2 b3 : Nat} {Ta Tp : TypeId} {st st' : St} {bad : Bool} {row : Array Value}
theorem RdS.fillB (h : RdS W0 w gr gf ga b2 b3 Ta Tp st bad row) (row' : Array Value) (hr : ∀ j : Nat, row'[j]? = row[j]? ∨ (∃ u, row[j]? = some u ∧ NoB' u) ∨ ∃ x, row'[j]? = some (bv x)) : ∃ st', SameH st st' ∧ RdS W0 (w.setRow ga row') gr gf ga b2 b3 Ta Tp st' bad row' := by
  obtain ⟨n1, n2, n3, n4, n5, n6, n7, n8, n9⟩ := h.ne
  obtain ⟨st', hs, hrd⟩ := h.rd.setB n2 h.ha hr
  exact ⟨st', hs, { rd := hrd, hf := (setRow_other _ _ _ _ n3).trans h.hf, ha := setRow_heap _ _ _ _ _ _ h.ha, h2 := (setRow_other _ _ _ _ n6).trans h.h2, h3 := (setRow_other _ _ _ _ n9).trans h.h3, ne := h.ne, mu := h.mu.trans (mut_setRow (S := fun i => i = gr ∨ i = gf ∨ i = ga) (.inr (.inr rfl)) _) }⟩
theorem RdS.asideB (h : RdS W0 w gr gf ga b2 b3 Ta Tp st bad row) {g : Nat} {T : TypeId} {r r' : Array Value} (hg : w.heap[g]? = some (.cells r T (0, 0))) (hW : W0.heap.size ≤ g) (hne : g ≠ gr ∧ g ≠ gf ∧ g ≠ ga ∧ g ≠ b2 ∧ g ≠ b3) (hr : ∀ j : Nat, r'[j]? = r[j]? ∨ (∃ u, r[j]? = some u ∧ NoB' u) ∨ ∃ x, r'[j]? = some (bv x)) : ∃ st', SameH st st' ∧ RdS W0 (w.setRow g r') gr gf ga b2 b3 Ta Tp st' bad row := by
  obtain ⟨n1, n2, n3, n4, n5⟩ := hne
  obtain ⟨st', hs, hrd⟩ := h.rd.setB n1.symm hg hr
  exact ⟨st', hs, { rd := hrd, hf := (setRow_other _ _ _ _ n2.symm).trans h.hf, ha := (setRow_other _ _ _ _ n3.symm).trans h.ha, h2 := (setRow_other _ _ _ _ n4.symm).trans h.h2, h3 := (setRow_other _ _ _ _ n5.symm).trans h.h3, ne := h.ne, mu := h.mu.thenM (mut_setRow (S := fun i => i = g) rfl r') (fun i hi => by omega) }⟩
end
theorem kind_bv {n : Int} (h : 0 ≤ n ∧ n ≤ 255) : ∃ x, (.int .u8 n : Value) = bv x := by
  refine ⟨UInt8.ofNat n.toNat, ?_⟩
  have e : (UInt8.ofNat n.toNat).toNat = n.toNat := by
    rw [UInt8.toNat_ofNat']
    omega
  show (.int .u8 n : Value) = .int .u8 ((UInt8.ofNat n.toNat).toNat : Int)
  rw [e]
  congr 1
  omega
/-- The state behind k numbers, and the k-th of them. -/
def ats (s : St) : Nat → St
  | 0 => s
  | k + 1 => (rdL (ats s k)).2
def atn (s : St) (k : Nat) : Int := wrap64 (rdL (ats s k)).1
def atk (s : St) (kd : Int) (k : Nat) : AtT := ⟨kd, if 0 < k then atn s 0 else 0, if 1 < k then atn s 1 else 0, if 2 < k then atn s 2 else 0, if 3 < k then atn s 3 else 0, if 4 < k then atn s 4 else 0, if 5 < k then atn s 5 else 0, if 6 < k then atn s 6 else 0⟩
/-- What reading an Attr makes: of the reader, whether it is bad, the Attr. -/
def rdAt (s : St) : St × Bool × AtT := if kindB (rdW s).1 = true then (ats (rdW s).2 7, false, atk (rdW s).2 (rdW s).1 7) else ((rdW s).2, true, at0)
theorem at_nb (kd n1 n2 n3 n4 n5 n6 n7 : Int) (k : Nat) (x : Value) (hk : 1 ≤ k) : ∀ j : Nat, ((#[.int .u8 kd, .int .i64 n1, .int .i64 n2, .int .i64 n3, .int .i64 n4, .int .i64 n5, .int .i64 n6, .int .i64 n7] : Array Value).setIfInBounds k x)[j]? = (#[.int .u8 kd, .int .i64 n1, .int .i64 n2, .int .i64 n3, .int .i64 n4, .int .i64 n5, .int .i64 n6, .int .i64 n7] : Array Value)[j]? ∨ ∃ u, (#[.int .u8 kd, .int .i64 n1, .int .i64 n2, .int .i64 n3, .int .i64 n4, .int .i64 n5, .int .i64 n6, .int .i64 n7] : Array Value)[j]? = some u ∧ NoB' u := fun j => by
  match k, hk with
  | 1, _ => exact set_nb (u := .int .i64 n1) rfl (nb_i64 _) j
  | 2, _ => exact set_nb (u := .int .i64 n2) rfl (nb_i64 _) j
  | 3, _ => exact set_nb (u := .int .i64 n3) rfl (nb_i64 _) j
  | 4, _ => exact set_nb (u := .int .i64 n4) rfl (nb_i64 _) j
  | 5, _ => exact set_nb (u := .int .i64 n5) rfl (nb_i64 _) j
  | 6, _ => exact set_nb (u := .int .i64 n6) rfl (nb_i64 _) j
  | 7, _ => exact set_nb (u := .int .i64 n7) rfl (nb_i64 _) j
  | k + 8, _ => left; rw [Array.setIfInBounds_eq_of_size_le (by simp)]
section
variable {W0 : World} {gr gf ga b2 b3 : Nat} {Ta Tp : TypeId} {st : St} {bad : Bool} {row : Array Value}
/-- What fields.attr comes to. -/
def AttrP (W0 : World) (gr gf ga b2 b3 : Nat) (Ta Tp : TypeId) (st : St) (bad : Bool) (row : Array Value) (e : Ending) (w' : World) : Prop :=
  e = .returned (.agg (atC (rdAt st).2.2).toArray) ∧ ∃ s', SameH (rdAt st).1 s' ∧ RdS W0 w' gr gf ga b2 b3 Ta Tp s' (bad || (rdAt st).2.1) row
theorem fAttr_no (w : World) (h : RdS W0 w gr gf ga b2 b3 Ta Tp st bad row) (hk : kindB (rdW st).1 = false) :
    Calls Try.prog 137 #[.pointer (some ⟨gf, 0, none⟩)] w (AttrP W0 gr gf ga b2 b3 Ta Tp st bad row) := by
  have HE : Hid (rdAt st = ((rdW st).2, true, at0)) := Lib.hid (by unfold rdAt; rw [if_neg (by rw [hk]; decide)])
  have hz := extAl w (.cells #[.int .u8 0, .int .i64 0, .int .i64 0, .int .i64 0, .int .i64 0, .int .i64 0, .int .i64 0, .int .i64 0] 38)
  have hz2 := heap_alloc_last w (.cells #[.int .u8 0, .int .i64 0, .int .i64 0, .int .i64 0, .int .i64 0, .int .i64 0, .int .i64 0, .int .i64 0] 38)
  have h1 := h.ext hz
  have hlt : gr < w.heap.size ∧ gf < w.heap.size ∧ ga < w.heap.size ∧ b2 < w.heap.size ∧ b3 < w.heap.size ∧ W0.heap.size ≤ w.heap.size := ⟨h.rd.lt, heap_lt h.hf, heap_lt h.ha, heap_lt h.h2, heap_lt h.h3, h.mu.size⟩
  have HLT := Lib.hid hlt
  obtain ⟨kd, hkd⟩ : ∃ kd, (rdW st).1 = kd := ⟨_, rfl⟩
  obtain ⟨s1, hs1⟩ : ∃ s1, (rdW st).2 = s1 := ⟨_, rfl⟩
  have KW := word_any gr st _ h1.rd
  rw [hkd, hs1] at KW
  have hbd := rdW_bd st
  rw [hkd] at hk hbd
  have HK := Lib.hid KW
  have H1 := Lib.hid h1
  have HZ := Lib.hid hz2
  rw [hs1] at HE
  clear KW h1 hz2 hz h hlt hkd hs1
  go_enter Try.func137, Try.ntmps137
  go_upto_region 1 with fail
  obtain ⟨c0, -, f0, -, gl⟩ := blk2 H1.out.hf
  generalize w.alloc (.cells #[.int .u8 0, .int .i64 0, .int .i64 0, .int .i64 0, .int .i64 0, .int .i64 0, .int .i64 0, .int .i64 0] 38) = W1 at *
  generalize w.heap.size = g2 at *
  go_wp2_with fail
  refine HK.out.mono ?_
  rintro e w2 ⟨rfl, r2, k2⟩
  have H2 := Lib.hid (H1.out.read r2 k2)
  have hz2 := (k2.block g2 (heap_lt HZ.out) (by have := HLT.out; simp; omega)).trans HZ.out
  have HZ2 := Lib.hid hz2
  clear HK H1 HZ r2 k2 hz2 c0 f0 gl
  have KI := isKind_any kd w2
  rw [hk] at KI
  have HKI := Lib.hid KI
  clear KI hk
  go_wp2_with fail
  refine HKI.out.mono ?_
  rintro e w3 ⟨rfl, k3⟩
  have H3 := Lib.hid (H2.out.ext k3)
  have HZ3 := Lib.hid (Ext.blk k3 HZ2.out)
  clear HKI H2 HZ2 k3
  obtain ⟨c0, c1, f0, f1, gl⟩ := blk2 H3.out.hf
  have s1' := blk2_st1 (.bool true) H3.out.hf
  have H4 := Lib.hid (H3.out.spoil true)
  have HZ4 := Lib.hid ((setRow_other w3 gf g2 #[.pointer (some ⟨gr, 0, none⟩), .bool true] (by have := HLT.out; omega)).trans HZ3.out)
  have S1 := Lib.hid s1'
  clear s1' H3 HZ3
  go_upto_region 4 with fail
  rw [S1.out]
  clear c0 c1 f0 f1 gl S1
  generalize w3.setRow gf #[.pointer (some ⟨gr, 0, none⟩), .bool true] = w4 at *
  have gzl := heap_lt HZ4.out
  have fz : ∀ o, w4.frozen? ⟨g2, o, none⟩ = false := fun o => by have := HZ4.out; simp [World.frozen?, this]
  have c0 : w4.cell? ⟨g2, 0, none⟩ = some (.int .u8 0) := by rw [cell_of_row _ _ _ _ _ _ HZ4.out]; rfl
  have c1 : w4.cell? ⟨g2, 1, none⟩ = some (.int .i64 0) := by rw [cell_of_row _ _ _ _ _ _ HZ4.out]; rfl
  have c2 : w4.cell? ⟨g2, 2, none⟩ = some (.int .i64 0) := by rw [cell_of_row _ _ _ _ _ _ HZ4.out]; rfl
  have c3 : w4.cell? ⟨g2, 3, none⟩ = some (.int .i64 0) := by rw [cell_of_row _ _ _ _ _ _ HZ4.out]; rfl
  have c4 : w4.cell? ⟨g2, 4, none⟩ = some (.int .i64 0) := by rw [cell_of_row _ _ _ _ _ _ HZ4.out]; rfl
  have c5 : w4.cell? ⟨g2, 5, none⟩ = some (.int .i64 0) := by rw [cell_of_row _ _ _ _ _ _ HZ4.out]; rfl
  have c6 : w4.cell? ⟨g2, 6, none⟩ = some (.int .i64 0) := by rw [cell_of_row _ _ _ _ _ _ HZ4.out]; rfl
  have c7 : w4.cell? ⟨g2, 7, none⟩ = some (.int .i64 0) := by rw [cell_of_row _ _ _ _ _ _ HZ4.out]; rfl
  have S8 := setC8 (o := 0) (x0 := .int .u8 0) (x1 := .int .i64 0) (x2 := .int .i64 0) (x3 := .int .i64 0) (x4 := .int .i64 0) (x5 := .int .i64 0) (x6 := .int .i64 0) (x7 := .int .i64 0) HZ4.out
  simp only [Nat.zero_add] at S8
  have HS8 := Lib.hid S8
  have HF := Lib.hid (H4.out.aside (r' := (atC at0).toArray) HZ4.out (by have := HLT.out; omega) (by have := HLT.out; omega) (fun j => .inl rfl))
  have HG := Lib.hid (setRow_heap w4 g2 _ (atC at0).toArray _ _ HZ4.out)
  clear S8 H4
  go_wp2_with fail
  rw [HS8.out]
  (try simp only [Exit.inBlock, Exit.then])
  refine bodyPost_ret (v := .agg (atC at0).toArray) (results_cell_row Try.results137 _ _ _ _ _ _ _ rfl HG.out Try.underlying38 rfl (by kernel_rfl)) rfl ?_
  unfold AttrP
  rw [HE.out]
  refine ⟨rfl, _, SameH.refl _, ?_⟩
  rw [Bool.or_true]
  exact HF.out
set_option maxHeartbeats 8000000 in
theorem fAttr_yes (w : World) (h : RdS W0 w gr gf ga b2 b3 Ta Tp st bad row) (hk : kindB (rdW st).1 = true) :
    Calls Try.prog 137 #[.pointer (some ⟨gf, 0, none⟩)] w (AttrP W0 gr gf ga b2 b3 Ta Tp st bad row) := by
  have HE : Hid (rdAt st = (ats (rdW st).2 7, false, atk (rdW st).2 (rdW st).1 7)) := Lib.hid (by unfold rdAt; rw [if_pos hk])
  have hk3 : (rdW st).1 = 1 ∨ (rdW st).1 = 2 ∨ (rdW st).1 = 3 := by simpa [kindB] using hk
  have hz := extAl w (.cells #[.int .u8 0, .int .i64 0, .int .i64 0, .int .i64 0, .int .i64 0, .int .i64 0, .int .i64 0, .int .i64 0] 38)
  have hz2 := heap_alloc_last w (.cells #[.int .u8 0, .int .i64 0, .int .i64 0, .int .i64 0, .int .i64 0, .int .i64 0, .int .i64 0, .int .i64 0] 38)
  have h1 := h.ext hz
  have hlt : gr < w.heap.size ∧ gf < w.heap.size ∧ ga < w.heap.size ∧ b2 < w.heap.size ∧ b3 < w.heap.size ∧ W0.heap.size ≤ w.heap.size := ⟨h.rd.lt, heap_lt h.hf, heap_lt h.ha, heap_lt h.h2, heap_lt h.h3, h.mu.size⟩
  have HLT := Lib.hid hlt
  obtain ⟨kd, hkd⟩ : ∃ kd, (rdW st).1 = kd := ⟨_, rfl⟩
  obtain ⟨s1, hs1⟩ : ∃ s1, (rdW st).2 = s1 := ⟨_, rfl⟩
  have KW := word_any gr st _ h1.rd
  rw [hkd, hs1] at KW
  have hbd := rdW_bd st
  rw [hkd] at hk hbd
  have HK := Lib.hid KW
  have H1 := Lib.hid h1
  have HZ := Lib.hid hz2
  rw [hs1, hkd] at HE
  rw [hkd] at hk3
  have hm8 : kd % 256 = kd := by omega
  have HKD := Lib.hid hk3
  clear KW h1 hz2 hz h hlt hkd hs1 hk3 hbd
  go_enter Try.func137, Try.ntmps137
  go_upto_region 1 with fail
  obtain ⟨c0, -, f0, -, gl⟩ := blk2 H1.out.hf
  generalize w.alloc (.cells #[.int .u8 0, .int .i64 0, .int .i64 0, .int .i64 0, .int .i64 0, .int .i64 0, .int .i64 0, .int .i64 0] 38) = W1 at *
  generalize w.heap.size = g2 at *
  go_wp2_with fail
  refine HK.out.mono ?_
  rintro e w2 ⟨rfl, r2, k2⟩
  have H2 := Lib.hid (H1.out.read r2 k2)
  have hz2 := (k2.block g2 (heap_lt HZ.out) (by have := HLT.out; simp; omega)).trans HZ.out
  have HZ2 := Lib.hid hz2
  clear HK H1 HZ r2 k2 hz2 c0 f0 gl
  have KI := isKind_any kd w2
  rw [hk] at KI
  have HKI := Lib.hid KI
  clear KI hk
  go_wp2_with fail
  refine HKI.out.mono ?_
  rintro e w3 ⟨rfl, k3⟩
  have H3 := Lib.hid (H2.out.ext k3)
  have HZ3 := Lib.hid (Ext.blk k3 HZ2.out)
  clear HKI H2 HZ2 k3
  have HA4 := Lib.hid (heap_alloc_last w3 (.cells #[.int .u8 kd, .int .i64 0, .int .i64 0, .int .i64 0, .int .i64 0, .int .i64 0, .int .i64 0, .int .i64 0] 38))
  have hx4 := extAl w3 (.cells #[.int .u8 kd, .int .i64 0, .int .i64 0, .int .i64 0, .int .i64 0, .int .i64 0, .int .i64 0, .int .i64 0] 38)
  have H4 := Lib.hid (H3.out.ext hx4)
  have HZ4 := Lib.hid (Ext.blk hx4 HZ3.out)
  have hzl := heap_lt HZ3.out
  have HL3 : Hid (g2 < w3.heap.size) := Lib.hid hzl
  clear hx4 H3 HZ3 hzl
  go_upto_region 6 with fail
  generalize w3.alloc (.cells #[.int .u8 kd, .int .i64 0, .int .i64 0, .int .i64 0, .int .i64 0, .int .i64 0, .int .i64 0, .int .i64 0] 38) = W4 at *
  generalize w3.heap.size = g4 at *
  go_wp2_with fail
  refine (numbersOf_any g4 0 W4).mono ?_
  rintro e w5 ⟨gs, rfl, hgs, hg5, k5⟩
  have HR0 := Lib.hid (H4.out.ext k5)
  have HA0 := Lib.hid (Ext.blk k5 HA4.out)
  have HZ0 := Lib.hid (Ext.blk k5 HZ4.out)
  have HG0 : Hid (w5.heap[gs]? = some (.cells (ptrs g4 0) 185 (0, 0))) := Lib.hid hg5
  have HNE : Hid (gr < g2 ∧ gf < g2 ∧ ga < g2 ∧ b2 < g2 ∧ b3 < g2 ∧ W0.heap.size ≤ g2 ∧ g2 < g4 ∧ g4 < gs) := Lib.hid (by have h1 := HLT.out; have h2 := heap_lt HA4.out; have h3 := HL3.out; omega)
  clear H4 HA4 HZ4 hg5 k5 hgs HL3 HLT
  go_wp2_with fail
  go_loopw [24] (fun iv wr => ∃ k : Nat, k ≤ 7 ∧ iv = .int .i64 k ∧ Hid (RdS W0 wr gr gf ga b2 b3 Ta Tp (ats s1 k) bad row) ∧ Hid (wr.heap[g4]? = some (.cells (atC (atk s1 kd k)).toArray 38 (0, 0))) ∧ Hid (wr.heap[gs]? = some (.cells (ptrs g4 0) 185 (0, 0))) ∧ Hid (wr.heap[g2]? = some (.cells #[.int .u8 0, .int .i64 0, .int .i64 0, .int .i64 0, .int .i64 0, .int .i64 0, .int .i64 0, .int .i64 0] 38 (0, 0)))) (fun iv _ => 7 - (intOf iv).toNat)
  case atStart => exact ⟨0, by omega, rfl, HR0, HA0, HG0, HZ0⟩
  case round =>
    obtain ⟨k, hk7, rfl, HR, HA, HGS, HZ⟩ := hrel
    clear HR0 HA0 HG0 HZ0
    by_cases hk : k < 7
    · have h7 : k = 0 ∨ k = 1 ∨ k = 2 ∨ k = 3 ∨ k = 4 ∨ k = 5 ∨ k = 6 := by omega
      clear hk hk7
      rcases h7 with rfl | rfl | rfl | rfl | rfl | rfl | rfl
      ·
        as_aux_lemma =>
          have hc : wr.cell? ⟨gs, 0, none⟩ = some (.pointer (some ⟨g4, 1, none⟩)) := by rw [cell_of_row _ _ _ _ _ _ HGS.out]; rfl
          have gsl := heap_lt HGS.out
          obtain ⟨c0, -, f0, -, gl⟩ := blk2 HR.out.hf
          have KI := int_any gr (ats s1 0) wr HR.out.rd
          obtain ⟨N, hN⟩ : ∃ N, wrap64 (rdL (ats s1 0)).1 = N := ⟨_, rfl⟩
          rw [hN] at KI
          have HKI := Lib.hid KI
          have HNN : Hid (atn s1 0 = N) := Lib.hid hN
          clear KI hN
          go_wp2_with fail
          refine HKI.out.mono ?_
          rintro e w6 ⟨rfl, r6, k6⟩
          have HR6 := Lib.hid (HR.out.read r6 k6)
          have HGS6 := Lib.hid ((k6.block gs (heap_lt HGS.out) (by have := HNE.out; simp; omega)).trans HGS.out)
          have HA6 := Lib.hid ((k6.block g4 (heap_lt HA.out) (by have := HNE.out; simp; omega)).trans HA.out)
          have HZ6 := Lib.hid ((k6.block g2 (heap_lt HZ.out) (by have := HNE.out; simp; omega)).trans HZ.out)
          have g4l := heap_lt HA6.out
          have f4 : w6.frozen? ⟨g4, 1, none⟩ = false := by have := HA6.out; simp [World.frozen?, this]
          have c4 : w6.cell? ⟨g4, 1, none⟩ = some (.int .i64 0) := by rw [cell_of_row _ _ _ _ _ _ HA6.out]; rfl
          have HS := Lib.hid (setCell_eq_setRow w6 g4 1 _ 38 (0, 0) (.int .i64 N) HA6.out)
          have HROW : Hid ((atC (atk s1 kd 0)).toArray.setIfInBounds 1 (.int .i64 N) = (atC (atk s1 kd 1)).toArray) := Lib.hid (by rw [← HNN.out]; rfl)
          have HF := Lib.hid (HR6.out.aside HA6.out (by have := HNE.out; omega) (by have := HNE.out; omega) (r' := (atC (atk s1 kd 1)).toArray) (by rw [← HROW.out]; exact at_nb _ _ _ _ _ _ _ _ 1 _ (by omega)))
          have HA7 := Lib.hid (setRow_heap w6 g4 _ (atC (atk s1 kd 1)).toArray _ _ HA6.out)
          have HGS7 := Lib.hid ((setRow_other w6 g4 gs (atC (atk s1 kd 1)).toArray (by have := HNE.out; omega)).trans HGS6.out)
          have HZ7 := Lib.hid ((setRow_other w6 g4 g2 (atC (atk s1 kd 1)).toArray (by have := HNE.out; omega)).trans HZ6.out)
          clear HR HGS HA HZ HR6 HGS6 HA6 HZ6 r6 k6 HKI hc
          go_wp2_with fail
          go_roundw
          case rel => rw [HS.out, HROW.out]; exact ⟨1, by omega, by go_num, HF, HA7, HGS7, HZ7⟩
          case measure => simp only [intOf]; omega
      ·
        as_aux_lemma =>
          have hc : wr.cell? ⟨gs, 1, none⟩ = some (.pointer (some ⟨g4, 2, none⟩)) := by rw [cell_of_row _ _ _ _ _ _ HGS.out]; rfl
          have gsl := heap_lt HGS.out
          obtain ⟨c0, -, f0, -, gl⟩ := blk2 HR.out.hf
          have KI := int_any gr (ats s1 1) wr HR.out.rd
          obtain ⟨N, hN⟩ : ∃ N, wrap64 (rdL (ats s1 1)).1 = N := ⟨_, rfl⟩
          rw [hN] at KI
          have HKI := Lib.hid KI
          have HNN : Hid (atn s1 1 = N) := Lib.hid hN
          clear KI hN
          go_wp2_with fail
          refine HKI.out.mono ?_
          rintro e w6 ⟨rfl, r6, k6⟩
          have HR6 := Lib.hid (HR.out.read r6 k6)
          have HGS6 := Lib.hid ((k6.block gs (heap_lt HGS.out) (by have := HNE.out; simp; omega)).trans HGS.out)
          have HA6 := Lib.hid ((k6.block g4 (heap_lt HA.out) (by have := HNE.out; simp; omega)).trans HA.out)
          have HZ6 := Lib.hid ((k6.block g2 (heap_lt HZ.out) (by have := HNE.out; simp; omega)).trans HZ.out)
          have g4l := heap_lt HA6.out
          have f4 : w6.frozen? ⟨g4, 2, none⟩ = false := by have := HA6.out; simp [World.frozen?, this]
          have c4 : w6.cell? ⟨g4, 2, none⟩ = some (.int .i64 0) := by rw [cell_of_row _ _ _ _ _ _ HA6.out]; rfl
          have HS := Lib.hid (setCell_eq_setRow w6 g4 2 _ 38 (0, 0) (.int .i64 N) HA6.out)
          have HROW : Hid ((atC (atk s1 kd 1)).toArray.setIfInBounds 2 (.int .i64 N) = (atC (atk s1 kd 2)).toArray) := Lib.hid (by rw [← HNN.out]; rfl)
          have HF := Lib.hid (HR6.out.aside HA6.out (by have := HNE.out; omega) (by have := HNE.out; omega) (r' := (atC (atk s1 kd 2)).toArray) (by rw [← HROW.out]; exact at_nb _ _ _ _ _ _ _ _ 2 _ (by omega)))
          have HA7 := Lib.hid (setRow_heap w6 g4 _ (atC (atk s1 kd 2)).toArray _ _ HA6.out)
          have HGS7 := Lib.hid ((setRow_other w6 g4 gs (atC (atk s1 kd 2)).toArray (by have := HNE.out; omega)).trans HGS6.out)
          have HZ7 := Lib.hid ((setRow_other w6 g4 g2 (atC (atk s1 kd 2)).toArray (by have := HNE.out; omega)).trans HZ6.out)
          clear HR HGS HA HZ HR6 HGS6 HA6 HZ6 r6 k6 HKI hc
          go_wp2_with fail
          go_roundw
          case rel => rw [HS.out, HROW.out]; exact ⟨2, by omega, by go_num, HF, HA7, HGS7, HZ7⟩
          case measure => simp only [intOf]; omega
      ·
        as_aux_lemma =>
          have hc : wr.cell? ⟨gs, 2, none⟩ = some (.pointer (some ⟨g4, 3, none⟩)) := by rw [cell_of_row _ _ _ _ _ _ HGS.out]; rfl
          have gsl := heap_lt HGS.out
          obtain ⟨c0, -, f0, -, gl⟩ := blk2 HR.out.hf
          have KI := int_any gr (ats s1 2) wr HR.out.rd
          obtain ⟨N, hN⟩ : ∃ N, wrap64 (rdL (ats s1 2)).1 = N := ⟨_, rfl⟩
          rw [hN] at KI
          have HKI := Lib.hid KI
          have HNN : Hid (atn s1 2 = N) := Lib.hid hN
          clear KI hN
          go_wp2_with fail
          refine HKI.out.mono ?_
          rintro e w6 ⟨rfl, r6, k6⟩
          have HR6 := Lib.hid (HR.out.read r6 k6)
          have HGS6 := Lib.hid ((k6.block gs (heap_lt HGS.out) (by have := HNE.out; simp; omega)).trans HGS.out)
          have HA6 := Lib.hid ((k6.block g4 (heap_lt HA.out) (by have := HNE.out; simp; omega)).trans HA.out)
          have HZ6 := Lib.hid ((k6.block g2 (heap_lt HZ.out) (by have := HNE.out; simp; omega)).trans HZ.out)
          have g4l := heap_lt HA6.out
          have f4 : w6.frozen? ⟨g4, 3, none⟩ = false := by have := HA6.out; simp [World.frozen?, this]
          have c4 : w6.cell? ⟨g4, 3, none⟩ = some (.int .i64 0) := by rw [cell_of_row _ _ _ _ _ _ HA6.out]; rfl
          have HS := Lib.hid (setCell_eq_setRow w6 g4 3 _ 38 (0, 0) (.int .i64 N) HA6.out)
          have HROW : Hid ((atC (atk s1 kd 2)).toArray.setIfInBounds 3 (.int .i64 N) = (atC (atk s1 kd 3)).toArray) := Lib.hid (by rw [← HNN.out]; rfl)
          have HF := Lib.hid (HR6.out.aside HA6.out (by have := HNE.out; omega) (by have := HNE.out; omega) (r' := (atC (atk s1 kd 3)).toArray) (by rw [← HROW.out]; exact at_nb _ _ _ _ _ _ _ _ 3 _ (by omega)))
          have HA7 := Lib.hid (setRow_heap w6 g4 _ (atC (atk s1 kd 3)).toArray _ _ HA6.out)
          have HGS7 := Lib.hid ((setRow_other w6 g4 gs (atC (atk s1 kd 3)).toArray (by have := HNE.out; omega)).trans HGS6.out)
          have HZ7 := Lib.hid ((setRow_other w6 g4 g2 (atC (atk s1 kd 3)).toArray (by have := HNE.out; omega)).trans HZ6.out)
          clear HR HGS HA HZ HR6 HGS6 HA6 HZ6 r6 k6 HKI hc
          go_wp2_with fail
          go_roundw
          case rel => rw [HS.out, HROW.out]; exact ⟨3, by omega, by go_num, HF, HA7, HGS7, HZ7⟩
          case measure => simp only [intOf]; omega
      ·
        as_aux_lemma =>
          have hc : wr.cell? ⟨gs, 3, none⟩ = some (.pointer (some ⟨g4, 4, none⟩)) := by rw [cell_of_row _ _ _ _ _ _ HGS.out]; rfl
          have gsl := heap_lt HGS.out
          obtain ⟨c0, -, f0, -, gl⟩ := blk2 HR.out.hf
          have KI := int_any gr (ats s1 3) wr HR.out.rd
          obtain ⟨N, hN⟩ : ∃ N, wrap64 (rdL (ats s1 3)).1 = N := ⟨_, rfl⟩
          rw [hN] at KI
          have HKI := Lib.hid KI
          have HNN : Hid (atn s1 3 = N) := Lib.hid hN
          clear KI hN
          go_wp2_with fail
          refine HKI.out.mono ?_
          rintro e w6 ⟨rfl, r6, k6⟩
          have HR6 := Lib.hid (HR.out.read r6 k6)
          have HGS6 := Lib.hid ((k6.block gs (heap_lt HGS.out) (by have := HNE.out; simp; omega)).trans HGS.out)
          have HA6 := Lib.hid ((k6.block g4 (heap_lt HA.out) (by have := HNE.out; simp; omega)).trans HA.out)
          have HZ6 := Lib.hid ((k6.block g2 (heap_lt HZ.out) (by have := HNE.out; simp; omega)).trans HZ.out)
          have g4l := heap_lt HA6.out
          have f4 : w6.frozen? ⟨g4, 4, none⟩ = false := by have := HA6.out; simp [World.frozen?, this]
          have c4 : w6.cell? ⟨g4, 4, none⟩ = some (.int .i64 0) := by rw [cell_of_row _ _ _ _ _ _ HA6.out]; rfl
          have HS := Lib.hid (setCell_eq_setRow w6 g4 4 _ 38 (0, 0) (.int .i64 N) HA6.out)
          have HROW : Hid ((atC (atk s1 kd 3)).toArray.setIfInBounds 4 (.int .i64 N) = (atC (atk s1 kd 4)).toArray) := Lib.hid (by rw [← HNN.out]; rfl)
          have HF := Lib.hid (HR6.out.aside HA6.out (by have := HNE.out; omega) (by have := HNE.out; omega) (r' := (atC (atk s1 kd 4)).toArray) (by rw [← HROW.out]; exact at_nb _ _ _ _ _ _ _ _ 4 _ (by omega)))
          have HA7 := Lib.hid (setRow_heap w6 g4 _ (atC (atk s1 kd 4)).toArray _ _ HA6.out)
          have HGS7 := Lib.hid ((setRow_other w6 g4 gs (atC (atk s1 kd 4)).toArray (by have := HNE.out; omega)).trans HGS6.out)
          have HZ7 := Lib.hid ((setRow_other w6 g4 g2 (atC (atk s1 kd 4)).toArray (by have := HNE.out; omega)).trans HZ6.out)
          clear HR HGS HA HZ HR6 HGS6 HA6 HZ6 r6 k6 HKI hc
          go_wp2_with fail
          go_roundw
          case rel => rw [HS.out, HROW.out]; exact ⟨4, by omega, by go_num, HF, HA7, HGS7, HZ7⟩
          case measure => simp only [intOf]; omega
      ·
        as_aux_lemma =>
          have hc : wr.cell? ⟨gs, 4, none⟩ = some (.pointer (some ⟨g4, 5, none⟩)) := by rw [cell_of_row _ _ _ _ _ _ HGS.out]; rfl
          have gsl := heap_lt HGS.out
          obtain ⟨c0, -, f0, -, gl⟩ := blk2 HR.out.hf
          have KI := int_any gr (ats s1 4) wr HR.out.rd
          obtain ⟨N, hN⟩ : ∃ N, wrap64 (rdL (ats s1 4)).1 = N := ⟨_, rfl⟩
          rw [hN] at KI
          have HKI := Lib.hid KI
          have HNN : Hid (atn s1 4 = N) := Lib.hid hN
          clear KI hN
          go_wp2_with fail
          refine HKI.out.mono ?_
          rintro e w6 ⟨rfl, r6, k6⟩
          have HR6 := Lib.hid (HR.out.read r6 k6)
          have HGS6 := Lib.hid ((k6.block gs (heap_lt HGS.out) (by have := HNE.out; simp; omega)).trans HGS.out)
          have HA6 := Lib.hid ((k6.block g4 (heap_lt HA.out) (by have := HNE.out; simp; omega)).trans HA.out)
          have HZ6 := Lib.hid ((k6.block g2 (heap_lt HZ.out) (by have := HNE.out; simp; omega)).trans HZ.out)
          have g4l := heap_lt HA6.out
          have f4 : w6.frozen? ⟨g4, 5, none⟩ = false := by have := HA6.out; simp [World.frozen?, this]
          have c4 : w6.cell? ⟨g4, 5, none⟩ = some (.int .i64 0) := by rw [cell_of_row _ _ _ _ _ _ HA6.out]; rfl
          have HS := Lib.hid (setCell_eq_setRow w6 g4 5 _ 38 (0, 0) (.int .i64 N) HA6.out)
          have HROW : Hid ((atC (atk s1 kd 4)).toArray.setIfInBounds 5 (.int .i64 N) = (atC (atk s1 kd 5)).toArray) := Lib.hid (by rw [← HNN.out]; rfl)
          have HF := Lib.hid (HR6.out.aside HA6.out (by have := HNE.out; omega) (by have := HNE.out; omega) (r' := (atC (atk s1 kd 5)).toArray) (by rw [← HROW.out]; exact at_nb _ _ _ _ _ _ _ _ 5 _ (by omega)))
          have HA7 := Lib.hid (setRow_heap w6 g4 _ (atC (atk s1 kd 5)).toArray _ _ HA6.out)
          have HGS7 := Lib.hid ((setRow_other w6 g4 gs (atC (atk s1 kd 5)).toArray (by have := HNE.out; omega)).trans HGS6.out)
          have HZ7 := Lib.hid ((setRow_other w6 g4 g2 (atC (atk s1 kd 5)).toArray (by have := HNE.out; omega)).trans HZ6.out)
          clear HR HGS HA HZ HR6 HGS6 HA6 HZ6 r6 k6 HKI hc
          go_wp2_with fail
          go_roundw
          case rel => rw [HS.out, HROW.out]; exact ⟨5, by omega, by go_num, HF, HA7, HGS7, HZ7⟩
          case measure => simp only [intOf]; omega
      ·
        as_aux_lemma =>
          have hc : wr.cell? ⟨gs, 5, none⟩ = some (.pointer (some ⟨g4, 6, none⟩)) := by rw [cell_of_row _ _ _ _ _ _ HGS.out]; rfl
          have gsl := heap_lt HGS.out
          obtain ⟨c0, -, f0, -, gl⟩ := blk2 HR.out.hf
          have KI := int_any gr (ats s1 5) wr HR.out.rd
          obtain ⟨N, hN⟩ : ∃ N, wrap64 (rdL (ats s1 5)).1 = N := ⟨_, rfl⟩
          rw [hN] at KI
          have HKI := Lib.hid KI
          have HNN : Hid (atn s1 5 = N) := Lib.hid hN
          clear KI hN
          go_wp2_with fail
          refine HKI.out.mono ?_
          rintro e w6 ⟨rfl, r6, k6⟩
          have HR6 := Lib.hid (HR.out.read r6 k6)
          have HGS6 := Lib.hid ((k6.block gs (heap_lt HGS.out) (by have := HNE.out; simp; omega)).trans HGS.out)
          have HA6 := Lib.hid ((k6.block g4 (heap_lt HA.out) (by have := HNE.out; simp; omega)).trans HA.out)
          have HZ6 := Lib.hid ((k6.block g2 (heap_lt HZ.out) (by have := HNE.out; simp; omega)).trans HZ.out)
          have g4l := heap_lt HA6.out
          have f4 : w6.frozen? ⟨g4, 6, none⟩ = false := by have := HA6.out; simp [World.frozen?, this]
          have c4 : w6.cell? ⟨g4, 6, none⟩ = some (.int .i64 0) := by rw [cell_of_row _ _ _ _ _ _ HA6.out]; rfl
          have HS := Lib.hid (setCell_eq_setRow w6 g4 6 _ 38 (0, 0) (.int .i64 N) HA6.out)
          have HROW : Hid ((atC (atk s1 kd 5)).toArray.setIfInBounds 6 (.int .i64 N) = (atC (atk s1 kd 6)).toArray) := Lib.hid (by rw [← HNN.out]; rfl)
          have HF := Lib.hid (HR6.out.aside HA6.out (by have := HNE.out; omega) (by have := HNE.out; omega) (r' := (atC (atk s1 kd 6)).toArray) (by rw [← HROW.out]; exact at_nb _ _ _ _ _ _ _ _ 6 _ (by omega)))
          have HA7 := Lib.hid (setRow_heap w6 g4 _ (atC (atk s1 kd 6)).toArray _ _ HA6.out)
          have HGS7 := Lib.hid ((setRow_other w6 g4 gs (atC (atk s1 kd 6)).toArray (by have := HNE.out; omega)).trans HGS6.out)
          have HZ7 := Lib.hid ((setRow_other w6 g4 g2 (atC (atk s1 kd 6)).toArray (by have := HNE.out; omega)).trans HZ6.out)
          clear HR HGS HA HZ HR6 HGS6 HA6 HZ6 r6 k6 HKI hc
          go_wp2_with fail
          go_roundw
          case rel => rw [HS.out, HROW.out]; exact ⟨6, by omega, by go_num, HF, HA7, HGS7, HZ7⟩
          case measure => simp only [intOf]; omega
      ·
        as_aux_lemma =>
          have hc : wr.cell? ⟨gs, 6, none⟩ = some (.pointer (some ⟨g4, 7, none⟩)) := by rw [cell_of_row _ _ _ _ _ _ HGS.out]; rfl
          have gsl := heap_lt HGS.out
          obtain ⟨c0, -, f0, -, gl⟩ := blk2 HR.out.hf
          have KI := int_any gr (ats s1 6) wr HR.out.rd
          obtain ⟨N, hN⟩ : ∃ N, wrap64 (rdL (ats s1 6)).1 = N := ⟨_, rfl⟩
          rw [hN] at KI
          have HKI := Lib.hid KI
          have HNN : Hid (atn s1 6 = N) := Lib.hid hN
          clear KI hN
          go_wp2_with fail
          refine HKI.out.mono ?_
          rintro e w6 ⟨rfl, r6, k6⟩
          have HR6 := Lib.hid (HR.out.read r6 k6)
          have HGS6 := Lib.hid ((k6.block gs (heap_lt HGS.out) (by have := HNE.out; simp; omega)).trans HGS.out)
          have HA6 := Lib.hid ((k6.block g4 (heap_lt HA.out) (by have := HNE.out; simp; omega)).trans HA.out)
          have HZ6 := Lib.hid ((k6.block g2 (heap_lt HZ.out) (by have := HNE.out; simp; omega)).trans HZ.out)
          have g4l := heap_lt HA6.out
          have f4 : w6.frozen? ⟨g4, 7, none⟩ = false := by have := HA6.out; simp [World.frozen?, this]
          have c4 : w6.cell? ⟨g4, 7, none⟩ = some (.int .i64 0) := by rw [cell_of_row _ _ _ _ _ _ HA6.out]; rfl
          have HS := Lib.hid (setCell_eq_setRow w6 g4 7 _ 38 (0, 0) (.int .i64 N) HA6.out)
          have HROW : Hid ((atC (atk s1 kd 6)).toArray.setIfInBounds 7 (.int .i64 N) = (atC (atk s1 kd 7)).toArray) := Lib.hid (by rw [← HNN.out]; rfl)
          have HF := Lib.hid (HR6.out.aside HA6.out (by have := HNE.out; omega) (by have := HNE.out; omega) (r' := (atC (atk s1 kd 7)).toArray) (by rw [← HROW.out]; exact at_nb _ _ _ _ _ _ _ _ 7 _ (by omega)))
          have HA7 := Lib.hid (setRow_heap w6 g4 _ (atC (atk s1 kd 7)).toArray _ _ HA6.out)
          have HGS7 := Lib.hid ((setRow_other w6 g4 gs (atC (atk s1 kd 7)).toArray (by have := HNE.out; omega)).trans HGS6.out)
          have HZ7 := Lib.hid ((setRow_other w6 g4 g2 (atC (atk s1 kd 7)).toArray (by have := HNE.out; omega)).trans HZ6.out)
          clear HR HGS HA HZ HR6 HGS6 HA6 HZ6 r6 k6 HKI hc
          go_wp2_with fail
          go_roundw
          case rel => rw [HS.out, HROW.out]; exact ⟨7, by omega, by go_num, HF, HA7, HGS7, HZ7⟩
          case measure => simp only [intOf]; omega
    · obtain rfl : k = 7 := by omega
      clear hk hk7
      have ga4 := HA.out
      have d0 : wr.cell? ⟨g4, 0, none⟩ = some (.int .u8 kd) := by rw [cell_of_row _ _ _ _ _ _ ga4]; rfl
      have d1 : wr.cell? ⟨g4, 1, none⟩ = some (.int .i64 (atk s1 kd 7).mode) := by rw [cell_of_row _ _ _ _ _ _ ga4]; rfl
      have d2 : wr.cell? ⟨g4, 2, none⟩ = some (.int .i64 (atk s1 kd 7).links) := by rw [cell_of_row _ _ _ _ _ _ ga4]; rfl
      have d3 : wr.cell? ⟨g4, 3, none⟩ = some (.int .i64 (atk s1 kd 7).size) := by rw [cell_of_row _ _ _ _ _ _ ga4]; rfl
      have d4 : wr.cell? ⟨g4, 4, none⟩ = some (.int .i64 (atk s1 kd 7).mtime) := by rw [cell_of_row _ _ _ _ _ _ ga4]; rfl
      have d5 : wr.cell? ⟨g4, 5, none⟩ = some (.int .i64 (atk s1 kd 7).ctime) := by rw [cell_of_row _ _ _ _ _ _ ga4]; rfl
      have d6 : wr.cell? ⟨g4, 6, none⟩ = some (.int .i64 (atk s1 kd 7).ino) := by rw [cell_of_row _ _ _ _ _ _ ga4]; rfl
      have d7 : wr.cell? ⟨g4, 7, none⟩ = some (.int .i64 (atk s1 kd 7).gen) := by rw [cell_of_row _ _ _ _ _ _ ga4]; rfl
      have g4l := heap_lt ga4
      have gzl := heap_lt HZ.out
      have fz : ∀ o, wr.frozen? ⟨g2, o, none⟩ = false := fun o => by have := HZ.out; simp [World.frozen?, this]
      have c0 : wr.cell? ⟨g2, 0, none⟩ = some (.int .u8 0) := by rw [cell_of_row _ _ _ _ _ _ HZ.out]; rfl
      have c1 : wr.cell? ⟨g2, 1, none⟩ = some (.int .i64 0) := by rw [cell_of_row _ _ _ _ _ _ HZ.out]; rfl
      have c2 : wr.cell? ⟨g2, 2, none⟩ = some (.int .i64 0) := by rw [cell_of_row _ _ _ _ _ _ HZ.out]; rfl
      have c3 : wr.cell? ⟨g2, 3, none⟩ = some (.int .i64 0) := by rw [cell_of_row _ _ _ _ _ _ HZ.out]; rfl
      have c4 : wr.cell? ⟨g2, 4, none⟩ = some (.int .i64 0) := by rw [cell_of_row _ _ _ _ _ _ HZ.out]; rfl
      have c5 : wr.cell? ⟨g2, 5, none⟩ = some (.int .i64 0) := by rw [cell_of_row _ _ _ _ _ _ HZ.out]; rfl
      have c6 : wr.cell? ⟨g2, 6, none⟩ = some (.int .i64 0) := by rw [cell_of_row _ _ _ _ _ _ HZ.out]; rfl
      have c7 : wr.cell? ⟨g2, 7, none⟩ = some (.int .i64 0) := by rw [cell_of_row _ _ _ _ _ _ HZ.out]; rfl
      have S8 := setC8 (o := 0) (x0 := .int .u8 kd) (x1 := .int .i64 (atk s1 kd 7).mode) (x2 := .int .i64 (atk s1 kd 7).links) (x3 := .int .i64 (atk s1 kd 7).size) (x4 := .int .i64 (atk s1 kd 7).mtime) (x5 := .int .i64 (atk s1 kd 7).ctime) (x6 := .int .i64 (atk s1 kd 7).ino) (x7 := .int .i64 (atk s1 kd 7).gen) HZ.out
      simp only [Nat.zero_add] at S8
      have HS8 := Lib.hid S8
      have hb := HR.out.asideB (r' := (atC (atk s1 kd 7)).toArray) HZ.out (by have := HNE.out; omega) (by have := HNE.out; omega) (fun j => by
        match j with
        | 0 => exact .inr (.inr (by obtain ⟨x, hx⟩ := kind_bv (n := kd) (by have := HKD.out; omega); exact ⟨x, by rw [← hx]; rfl⟩))
        | 1 => exact .inr (.inl ⟨_, rfl, nb_i64 _⟩)
        | 2 => exact .inr (.inl ⟨_, rfl, nb_i64 _⟩)
        | 3 => exact .inr (.inl ⟨_, rfl, nb_i64 _⟩)
        | 4 => exact .inr (.inl ⟨_, rfl, nb_i64 _⟩)
        | 5 => exact .inr (.inl ⟨_, rfl, nb_i64 _⟩)
        | 6 => exact .inr (.inl ⟨_, rfl, nb_i64 _⟩)
        | 7 => exact .inr (.inl ⟨_, rfl, nb_i64 _⟩)
        | j + 8 => exact .inl rfl)
      have HFB := Lib.hid hb
      have HG := Lib.hid (setRow_heap wr g2 _ (atC (atk s1 kd 7)).toArray _ _ HZ.out)
      have HEE : Hid (AttrP W0 gr gf ga b2 b3 Ta Tp st bad row (.returned (.agg (atC (atk s1 kd 7)).toArray)) (wr.setRow g2 (atC (atk s1 kd 7)).toArray)) := Lib.hid (by
        unfold AttrP
        rw [HE.out]
        obtain ⟨s', h1, h2⟩ := HFB.out
        exact ⟨rfl, s', h1, by rw [Bool.or_false]; exact h2⟩)
      clear S8 hb ga4 HFB HE HGS HR HA
      go_wp2_with fail
      rw [HS8.out]
      (try simp only [Exit.inBlock, Exit.then])
      refine bodyPost_ret (v := .agg (atC (atk s1 kd 7)).toArray) (results_cell_row Try.results137 _ _ _ _ _ _ _ rfl HG.out Try.underlying38 rfl (by kernel_rfl)) rfl HEE.out
theorem fAttr_any (w : World) (h : RdS W0 w gr gf ga b2 b3 Ta Tp st bad row) :
    Calls Try.prog 137 #[.pointer (some ⟨gf, 0, none⟩)] w (AttrP W0 gr gf ga b2 b3 Ta Tp st bad row) := by
  by_cases hk : kindB (rdW st).1 = true
  · exact fAttr_yes w h hk
  · exact fAttr_no w h (by simpa using hk)
end
end Go.Proofs.Yteahlnoonmfjhaa
