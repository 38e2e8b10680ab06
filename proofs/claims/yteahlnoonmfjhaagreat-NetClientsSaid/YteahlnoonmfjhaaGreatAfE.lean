/- Arguments, by the document: handle, Read (printed by gen_afe.py). -/
import Derived.Test.YteahlnoonmfjhaaGreatAgJ
import Derived.Test.YteahlnoonmfjhaaGreatAfC
import Derived.Test.YteahlnoonmfjhaaGreatMx
set_option linter.unusedVariables false
set_option maxRecDepth 100000
namespace Go.Proofs.YteahlnoonmfjhaaGreat
open Go.RowKit

theorem rHandleR_any (gr : Nat) (st : St) (w : World) (h : Rd 177 w gr st) (hl : st.l.length ≤ 100000) :
    Calls Tryz.prog 75 #[.pointer (some ⟨gr, 0, none⟩)] w fun e w' => e = .returned (.tuple #[hvT ((dec (rdX st 24).1).getD (0, 0, 0)), .bool (dec (rdX st 24).1).isSome]) ∧ Rd 177 w' gr (rdX st 24).2 ∧ But gr w w' := by
  have hx1 := extAl w (.cells #[.int .i64 0, .int .i64 0, .int .i64 0] 25)
  have hz1 := heap_alloc_last w (.cells #[.int .i64 0, .int .i64 0, .int .i64 0] 25)
  have hlt := h.lt
  have KF := rfixed_any gr st 24 _ (h.ext hx1) (by omega)
  have hxl := rdX_fst st 24
  obtain ⟨X, hX⟩ : ∃ X, rdX st 24 = X := ⟨_, rfl⟩
  rw [hX] at KF hxl ⊢
  clear hX
  have HK := Lib.hid KF
  have HZ := Lib.hid hz1
  have HX1 := Lib.hid hx1
  have HLT : Hid (gr < w.heap.size) := Lib.hid hlt
  obtain ⟨g2, hg2⟩ : ∃ g2, w.heap.size = g2 := ⟨_, rfl⟩
  have HG2 := Lib.hid hg2
  rw [hg2] at HZ
  clear KF hz1 hx1 h hlt
  go_enter Tryz.func75, Tryz.ntmps75
  go_upto_region 1 with fail
  clear hg2
  generalize w.alloc (.cells #[.int .i64 0, .int .i64 0, .int .i64 0] 25) = W1 at *
  go_wp2_with fail
  refine HK.out.mono ?_
  rintro e w2 ⟨rfl, r2, k2⟩
  have hz2 := (k2.block g2 (heap_lt HZ.out) (by have := HLT.out; have := HG2.out; simp; omega)).trans HZ.out
  have HZ2 := Lib.hid hz2
  have HR2 := Lib.hid r2
  have HB2 : Hid (But gr w w2) := Lib.hid ((But.of HX1.out).trans k2)
  clear HK HZ r2 k2 hz2 HX1
  have KD := rdecode_any X.1 (by omega) w2
  rw [decV_eq] at KD
  cases hd : dec X.1 with
  | none =>
    rw [hd] at KD
    have HKD := Lib.hid KD
    have HDD := Lib.hid hd
    clear KD hd
    go_wp2_with fail
    refine HKD.out.mono ?_
    rintro e w3 ⟨rfl, k3⟩
    have hz3 := Ext.blk k3 HZ2.out
    have hr3 := HR2.out.ext k3
    have hb3 := HB2.out.trans (But.of k3)
    have hx4 := extAl w3 (.cells #[.int .i64 (((0, 0, 0) : Int × Int × Int)).1, .int .i64 (((0, 0, 0) : Int × Int × Int)).2.1, .int .i64 (((0, 0, 0) : Int × Int × Int)).2.2] 25)
    have hz4 := heap_alloc_last w3 (.cells #[.int .i64 (((0, 0, 0) : Int × Int × Int)).1, .int .i64 (((0, 0, 0) : Int × Int × Int)).2.1, .int .i64 (((0, 0, 0) : Int × Int × Int)).2.2] 25)
    have HZ4 := Lib.hid (Ext.blk hx4 hz3)
    have HG4 := Lib.hid hz4
    have HR4 := Lib.hid (hr3.ext hx4)
    have HB4 := Lib.hid (hb3.trans (But.of hx4))
    clear hz3 hr3 hb3 hx4 hz4 k3 HZ2 HR2 HB2 HKD
    unfold hvT
    go_upto_region 2 with fail
    generalize w3.alloc (.cells #[.int .i64 (((0, 0, 0) : Int × Int × Int)).1, .int .i64 (((0, 0, 0) : Int × Int × Int)).2.1, .int .i64 (((0, 0, 0) : Int × Int × Int)).2.2] 25) = W4 at *
    generalize w3.heap.size = g3 at *
    obtain ⟨d0, d1, d2, d3, d4, d5, dl⟩ := blk3 HG4.out
    obtain ⟨k0, k1, k2, e0, e1, e2, kl⟩ := blk3 HZ4.out
    have s3 := set3 (.int .i64 (((0, 0, 0) : Int × Int × Int)).1) (.int .i64 (((0, 0, 0) : Int × Int × Int)).2.1) (.int .i64 (((0, 0, 0) : Int × Int × Int)).2.2) HZ4.out
    have hnb : ∀ j : Nat, (#[.int .i64 (((0, 0, 0) : Int × Int × Int)).1, .int .i64 (((0, 0, 0) : Int × Int × Int)).2.1, .int .i64 (((0, 0, 0) : Int × Int × Int)).2.2] : Array Value)[j]? = (#[.int .i64 0, .int .i64 0, .int .i64 0] : Array Value)[j]? ∨ ∃ u, (#[.int .i64 0, .int .i64 0, .int .i64 0] : Array Value)[j]? = some u ∧ NoB' u := fun j => by
      match j with
      | 0 => exact .inr ⟨_, rfl, nb_i64 _⟩
      | 1 => exact .inr ⟨_, rfl, nb_i64 _⟩
      | 2 => exact .inr ⟨_, rfl, nb_i64 _⟩
      | j + 3 => exact .inl (by simp)
    have HRF := Lib.hid (HR4.out.setNB (row' := #[.int .i64 (((0, 0, 0) : Int × Int × Int)).1, .int .i64 (((0, 0, 0) : Int × Int × Int)).2.1, .int .i64 (((0, 0, 0) : Int × Int × Int)).2.2]) (by have := HLT.out; have := HG2.out; omega) HZ4.out hnb)
    have HBF : Hid (But gr w (W4.setRow g2 #[.int .i64 (((0, 0, 0) : Int × Int × Int)).1, .int .i64 (((0, 0, 0) : Int × Int × Int)).2.1, .int .i64 (((0, 0, 0) : Int × Int × Int)).2.2])) := Lib.hid ⟨HB4.out.os, HB4.out.tape, HB4.out.output, by have := HB4.out.size; simpa [World.setRow] using this, fun i hi hn => (setRow_other W4 g2 i _ (by have := HG2.out; omega)).trans (HB4.out.block i hi hn)⟩
    have HG := Lib.hid (setRow_heap W4 g2 _ #[.int .i64 (((0, 0, 0) : Int × Int × Int)).1, .int .i64 (((0, 0, 0) : Int × Int × Int)).2.1, .int .i64 (((0, 0, 0) : Int × Int × Int)).2.2] _ _ HZ4.out)
    have S3 := Lib.hid s3
    clear s3 HG4 HZ4 HR4 HB4 hnb
    go_wp2_with fail
    rw [S3.out]
    (try simp only [Exit.inBlock, Exit.then])
    exact bodyPost_ret (results_ct Tryz.results75 _ _ _ _ _ _ _ rfl HG.out Tryz.underlying25 rfl (by kernel_rfl)) rfl ⟨by rw [HDD.out]; rfl, HRF.out, HBF.out⟩
  | some x =>
    rw [hd] at KD
    have HKD := Lib.hid KD
    have HDD := Lib.hid hd
    clear KD hd
    go_wp2_with fail
    refine HKD.out.mono ?_
    rintro e w3 ⟨rfl, k3⟩
    have hz3 := Ext.blk k3 HZ2.out
    have hr3 := HR2.out.ext k3
    have hb3 := HB2.out.trans (But.of k3)
    have hx4 := extAl w3 (.cells #[.int .i64 (x).1, .int .i64 (x).2.1, .int .i64 (x).2.2] 25)
    have hz4 := heap_alloc_last w3 (.cells #[.int .i64 (x).1, .int .i64 (x).2.1, .int .i64 (x).2.2] 25)
    have HZ4 := Lib.hid (Ext.blk hx4 hz3)
    have HG4 := Lib.hid hz4
    have HR4 := Lib.hid (hr3.ext hx4)
    have HB4 := Lib.hid (hb3.trans (But.of hx4))
    clear hz3 hr3 hb3 hx4 hz4 k3 HZ2 HR2 HB2 HKD
    unfold hvT
    go_upto_region 2 with fail
    generalize w3.alloc (.cells #[.int .i64 (x).1, .int .i64 (x).2.1, .int .i64 (x).2.2] 25) = W4 at *
    generalize w3.heap.size = g3 at *
    obtain ⟨d0, d1, d2, d3, d4, d5, dl⟩ := blk3 HG4.out
    obtain ⟨k0, k1, k2, e0, e1, e2, kl⟩ := blk3 HZ4.out
    have s3 := set3 (.int .i64 (x).1) (.int .i64 (x).2.1) (.int .i64 (x).2.2) HZ4.out
    have hnb : ∀ j : Nat, (#[.int .i64 (x).1, .int .i64 (x).2.1, .int .i64 (x).2.2] : Array Value)[j]? = (#[.int .i64 0, .int .i64 0, .int .i64 0] : Array Value)[j]? ∨ ∃ u, (#[.int .i64 0, .int .i64 0, .int .i64 0] : Array Value)[j]? = some u ∧ NoB' u := fun j => by
      match j with
      | 0 => exact .inr ⟨_, rfl, nb_i64 _⟩
      | 1 => exact .inr ⟨_, rfl, nb_i64 _⟩
      | 2 => exact .inr ⟨_, rfl, nb_i64 _⟩
      | j + 3 => exact .inl (by simp)
    have HRF := Lib.hid (HR4.out.setNB (row' := #[.int .i64 (x).1, .int .i64 (x).2.1, .int .i64 (x).2.2]) (by have := HLT.out; have := HG2.out; omega) HZ4.out hnb)
    have HBF : Hid (But gr w (W4.setRow g2 #[.int .i64 (x).1, .int .i64 (x).2.1, .int .i64 (x).2.2])) := Lib.hid ⟨HB4.out.os, HB4.out.tape, HB4.out.output, by have := HB4.out.size; simpa [World.setRow] using this, fun i hi hn => (setRow_other W4 g2 i _ (by have := HG2.out; omega)).trans (HB4.out.block i hi hn)⟩
    have HG := Lib.hid (setRow_heap W4 g2 _ #[.int .i64 (x).1, .int .i64 (x).2.1, .int .i64 (x).2.2] _ _ HZ4.out)
    have S3 := Lib.hid s3
    clear s3 HG4 HZ4 HR4 HB4 hnb
    go_wp2_with fail
    rw [S3.out]
    (try simp only [Exit.inBlock, Exit.then])
    exact bodyPost_ret (results_ct Tryz.results75 _ _ _ _ _ _ _ rfl HG.out Tryz.underlying25 rfl (by kernel_rfl)) rfl ⟨by rw [HDD.out]; rfl, HRF.out, HBF.out⟩
/-- The document's reader of arguments. -/
structure RRd (w wr : World) (gr ga g4 : Nat) (st : St) (row : Array Value) : Prop where
  rd : Rd 177 wr gr st
  ha : wr.heap[ga]? = some (.cells row 28 (0, 0))
  h4 : wr.heap[g4]? = some (.cells (agC ag0).toArray 28 (0, 0))
  ne : gr ≠ ga ∧ gr ≠ g4 ∧ ga ≠ g4
  bel : Below w.heap.size w wr
  lb : w.heap.size ≤ gr ∧ w.heap.size ≤ ga ∧ w.heap.size ≤ g4
section
variable {w wr w' : World} {gr ga g4 : Nat} {st st' : St} {row : Array Value}
theorem RRd.read (h : RRd w wr gr ga g4 st row) (hr : Rd 177 w' gr st') (k : But gr wr w') : RRd w w' gr ga g4 st' row :=
  { rd := hr, ha := (k.block ga (heap_lt h.ha) (by have := h.ne; simp; omega)).trans h.ha, h4 := (k.block g4 (heap_lt h.h4) (by have := h.ne; simp; omega)).trans h.h4, ne := h.ne, bel := h.bel.trans (k.below h.lb.1 h.bel.size), lb := h.lb }
theorem RRd.ext (h : RRd w wr gr ga g4 st row) (k : Ext wr w') : RRd w w' gr ga g4 st row := h.read (h.rd.ext k) (But.of k)
theorem RRd.fill (h : RRd w wr gr ga g4 st row) (row' : Array Value) (hr : ∀ j : Nat, row'[j]? = row[j]? ∨ ∃ u, row[j]? = some u ∧ NoB' u) : RRd w (wr.setRow ga row') gr ga g4 st row' :=
  { rd := h.rd.setNB h.ne.1 h.ha hr, ha := setRow_heap _ _ _ _ _ _ h.ha, h4 := (setRow_other _ _ _ _ h.ne.2.2.symm).trans h.h4, ne := h.ne, bel := below_setRow h.bel h.lb.2.1 _, lb := h.lb }
end
/-- The document's way: all letters, whether all handles were. -/
def rAll : List UInt8 → St → Bool → AgT → St × Bool × AgT
  | [], s, ok, a => (s, ok, a)
  | c :: l, s, ok, a => rAll l (gtA (trA c) s false a).1 (ok && !(gtA (trA c) s false a).2.1) (gtA (trA c) s false a).2.2
def endR (x : St × Bool × AgT) : AgT × Int := if (x.2.1 && doneB x.1) = true then (x.2.2, 0) else (ag0, 4)
def rR (p : Int) (s : List UInt8) : AgT × Int := if p < 0 ∨ 19 ≤ p then (ag0, 62) else endR (rAll (rAskL p) (some s) true ag0)
theorem gtA_none {c : UInt8} (b : Bool) (a : AgT) (hc : c ∈ lettersA) : (gtA c none b a).1 = none := by
  simp only [lettersA, List.mem_cons, List.not_mem_nil, or_false] at hc
  rcases hc with rfl | rfl | rfl | rfl | rfl | rfl | rfl | rfl | rfl | rfl | rfl | rfl <;> rfl
theorem rAll_none : ∀ (l : List UInt8) (ok : Bool) (a : AgT), (∀ c ∈ l, trA c ∈ lettersA) → (rAll l none ok a).1 = none
  | [], _, _, _ => rfl
  | c :: l, ok, a, hm => by
    unfold rAll
    rw [gtA_none false a (hm c List.mem_cons_self)]
    exact rAll_none l _ _ fun d hd => hm d (List.mem_cons_of_mem _ hd)
theorem rAll_false : ∀ (l : List UInt8) (s : St) (a : AgT), (rAll l s false a).2.1 = false
  | [], _, _ => rfl
  | c :: l, s, a => by
    unfold rAll
    rw [Bool.false_and]
    exact rAll_false l _ _
theorem all_eq : ∀ (L : List UInt8) (s : St) (a : AgT), (∀ c ∈ L, trA c ∈ lettersA) → endA (gtAll (L.map trA) s a) = endR (rAll L s true a)
  | [], s, a, _ => by
    show (if doneB s = true then (a, (0 : Int)) else (ag0, 4)) = if (true && doneB s) = true then (a, 0) else (ag0, 4)
    rw [Bool.true_and]
  | c :: L, s, a, hm => by
    have hml : ∀ d ∈ L, trA d ∈ lettersA := fun d hd => hm d (List.mem_cons_of_mem _ hd)
    rw [List.map_cons]
    unfold gtAll rAll
    by_cases h1 : (gtA (trA c) s false a).2.1 = false
    · by_cases h2 : (gtA (trA c) s false a).1.isSome = true
      · rw [if_pos ⟨h1, h2⟩, h1]
        exact all_eq L _ _ hml
      · rw [if_neg (fun h => h2 h.2)]
        have h3 : (gtA (trA c) s false a).1 = none := by simpa using h2
        rw [h3]
        show (ag0, (4 : Int)) = endR _
        unfold endR
        rw [rAll_none L _ _ hml]
        simp [doneB]
    · rw [if_neg (fun h => h1 h.1)]
      have h3 : (gtA (trA c) s false a).2.1 = true := by simpa using h1
      rw [h3]
      show (ag0, (4 : Int)) = endR _
      unfold endR
      have := rAll_false L (gtA (trA c) s false a).1 (gtA (trA c) s false a).2.2
      simp only [Bool.true_and, Bool.not_true]
      rw [this]
      simp
theorem tr_mem {c : UInt8} (hc : c ∈ lettersR) : trA c ∈ lettersA := by
  simp only [lettersR, List.mem_cons, List.not_mem_nil, or_false] at hc
  rcases hc with rfl | rfl | rfl | rfl | rfl | rfl | rfl | rfl | rfl | rfl | rfl | rfl <;> decide
/-- The arguments of words are the document's. -/
theorem aR_rR (p : Int) (s : List UInt8) : aR p s = rR p s := by
  unfold aR
  cases h : askedL p with
  | none =>
    show _ = rR p s
    unfold rR
    rw [if_pos (ask_none h)]
  | some l =>
    obtain ⟨h1, h2, h3, h4⟩ := nd_ask h
    show endA (gtAll l (some s) ag0) = _
    unfold rR
    rw [if_neg h4, h2]
    exact all_eq _ _ _ fun c hc => tr_mem (h3 c hc)
theorem rAskL_mem' {p : Nat} (hp : p < 19) : ∀ c ∈ rAskL (p : Int), c ∈ lettersR := by
  have h : p = 0 ∨ p = 1 ∨ p = 2 ∨ p = 3 ∨ p = 4 ∨ p = 5 ∨ p = 6 ∨ p = 7 ∨ p = 8 ∨ p = 9 ∨ p = 10 ∨ p = 11 ∨ p = 12 ∨ p = 13 ∨ p = 14 ∨ p = 15 ∨ p = 16 ∨ p = 17 ∨ p = 18 := by omega
  rcases h with rfl | rfl | rfl | rfl | rfl | rfl | rfl | rfl | rfl | rfl | rfl | rfl | rfl | rfl | rfl | rfl | rfl | rfl | rfl <;> decide

end Go.Proofs.YteahlnoonmfjhaaGreat
