/- Arguments, by the document: handle, Read (printed by gen_afe.py). -/
import Derived.Test.YteahlnoonmfjhaaAgJ
import Derived.Test.YteahlnoonmfjhaaAfC
import Derived.Test.YteahlnoonmfjhaaMx
set_option linter.unusedVariables false
set_option maxRecDepth 100000
namespace Go.Proofs.Yteahlnoonmfjhaa
open Go.RowKit

theorem rHandleR_any (gr : Nat) (st : St) (w : World) (h : Rd 196 w gr st) (hl : st.l.length ≤ 100000) :
    Calls Try.prog 77 #[.pointer (some ⟨gr, 0, none⟩)] w fun e w' => e = .returned (.tuple #[hvT ((dec (rdX st 24).1).getD (0, 0, 0)), .bool (dec (rdX st 24).1).isSome]) ∧ Rd 196 w' gr (rdX st 24).2 ∧ But gr w w' := by
  have hx1 := extAl w (.cells #[.int .i64 0, .int .i64 0, .int .i64 0] 32)
  have hz1 := heap_alloc_last w (.cells #[.int .i64 0, .int .i64 0, .int .i64 0] 32)
  have hlt := h.lt
  have KF := rfixed_any gr st 24 _ (h.ext hx1) (by omega)
  have hxl := rdX_fst st 24
  obtain ⟨X, hX⟩ : ∃ X, rdX st 24 = X := ⟨_, rfl⟩
  rw [hX] at KF hxl ⊢
  clear hX
  have HK := Lib.hid KF
  have HZ := Lib.hid hz1
  have HX1 := Lib.hid hx1
  have HLT : Hid (gr < w.heap.size) := Lib.hid hlt
  obtain ⟨g2, hg2⟩ : ∃ g2, w.heap.size = g2 := ⟨_, rfl⟩
  have HG2 := Lib.hid hg2
  rw [hg2] at HZ
  clear KF hz1 hx1 h hlt
  go_enter Try.func77, Try.ntmps77
  go_upto_region 1 with fail
  clear hg2
  generalize w.alloc (.cells #[.int .i64 0, .int .i64 0, .int .i64 0] 32) = W1 at *
  go_wp2_with fail
  refine HK.out.mono ?_
  rintro e w2 ⟨rfl, r2, k2⟩
  have hz2 := (k2.block g2 (heap_lt HZ.out) (by have := HLT.out; have := HG2.out; simp; omega)).trans HZ.out
  have HZ2 := Lib.hid hz2
  have HR2 := Lib.hid r2
  have HB2 : Hid (But gr w w2) := Lib.hid ((But.of HX1.out).trans k2)
  clear HK HZ r2 k2 hz2 HX1
  have KD := rdecode_any X.1 (by omega) w2
  rw [decV_eq] at KD
  cases hd : dec X.1 with
  | none =>
    rw [hd] at KD
    have HKD := Lib.hid KD
    have HDD := Lib.hid hd
    clear KD hd
    go_wp2_with fail
    refine HKD.out.mono ?_
    rintro e w3 ⟨rfl, k3⟩
    have hz3 := Ext.blk k3 HZ2.out
    have hr3 := HR2.out.ext k3
    have hb3 := HB2.out.trans (But.of k3)
    have hx4 := extAl w3 (.cells #[.int .i64 (((0, 0, 0) : Int × Int × Int)).1, .int .i64 (((0, 0, 0) : Int × Int × Int)).2.1, .int .i64 (((0, 0, 0) : Int × Int × Int)).2.2] 32)
    have hz4 := heap_alloc_last w3 (.cells #[.int .i64 (((0, 0, 0) : Int × Int × Int)).1, .int .i64 (((0, 0, 0) : Int × Int × Int)).2.1, .int .i64 (((0, 0, 0) : Int × Int × Int)).2.2] 32)
    have HZ4 := Lib.hid (Ext.blk hx4 hz3)
    have HG4 := Lib.hid hz4
    have HR4 := Lib.hid (hr3.ext hx4)
    have HB4 := Lib.hid (hb3.trans (But.of hx4))
    clear hz3 hr3 hb3 hx4 hz4 k3 HZ2 HR2 HB2 HKD
    unfold hvT
    go_upto_region 2 with fail
    generalize w3.alloc (.cells #[.int .i64 (((0, 0, 0) : Int × Int × Int)).1, .int .i64 (((0, 0, 0) : Int × Int × Int)).2.1, .int .i64 (((0, 0, 0) : Int × Int × Int)).2.2] 32) = W4 at *
    generalize w3.heap.size = g3 at *
    obtain ⟨d0, d1, d2, d3, d4, d5, dl⟩ := blk3 HG4.out
    obtain ⟨k0, k1, k2, e0, e1, e2, kl⟩ := blk3 HZ4.out
    have s3 := set3 (.int .i64 (((0, 0, 0) : Int × Int × Int)).1) (.int .i64 (((0, 0, 0) : Int × Int × Int)).2.1) (.int .i64 (((0, 0, 0) : Int × Int × Int)).2.2) HZ4.out
    have hnb : ∀ j : Nat, (#[.int .i64 (((0, 0, 0) : Int × Int × Int)).1, .int .i64 (((0, 0, 0) : Int × Int × Int)).2.1, .int .i64 (((0, 0, 0) : Int × Int × Int)).2.2] : Array Value)[j]? = (#[.int .i64 0, .int .i64 0, .int .i64 0] : Array Value)[j]? ∨ ∃ u, (#[.int .i64 0, .int .i64 0, .int .i64 0] : Array Value)[j]? = some u ∧ NoB' u := fun j => by
      match j with
      | 0 => exact .inr ⟨_, rfl, nb_i64 _⟩
      | 1 => exact .inr ⟨_, rfl, nb_i64 _⟩
      | 2 => exact .inr ⟨_, rfl, nb_i64 _⟩
      | j + 3 => exact .inl (by simp)
    have HRF := Lib.hid (HR4.out.setNB (row' := #[.int .i64 (((0, 0, 0) : Int × Int × Int)).1, .int .i64 (((0, 0, 0) : Int × Int × Int)).2.1, .int .i64 (((0, 0, 0) : Int × Int × Int)).2.2]) (by have := HLT.out; have := HG2.out; omega) HZ4.out hnb)
    have HBF : Hid (But gr w (W4.setRow g2 #[.int .i64 (((0, 0, 0) : Int × Int × Int)).1, .int .i64 (((0, 0, 0) : Int × Int × Int)).2.1, .int .i64 (((0, 0, 0) : Int × Int × Int)).2.2])) := Lib.hid ⟨HB4.out.os, HB4.out.tape, HB4.out.output, by have := HB4.out.size; simpa [World.setRow] using this, fun i hi hn => (setRow_other W4 g2 i _ (by have := HG2.out; omega)).trans (HB4.out.block i hi hn)⟩
    have HG := Lib.hid (setRow_heap W4 g2 _ #[.int .i64 (((0, 0, 0) : Int × Int × Int)).1, .int .i64 (((0, 0, 0) : Int × Int × Int)).2.1, .int .i64 (((0, 0, 0) : Int × Int × Int)).2.2] _ _ HZ4.out)
    have S3 := Lib.hid s3
    clear s3 HG4 HZ4 HR4 HB4 hnb
    go_wp2_with fail
    rw [S3.out]
    (try simp only [Exit.inBlock, Exit.then])
    exact bodyPost_ret (results_ct Try.results77 _ _ _ _ _ _ _ rfl HG.out Try.underlying32 rfl (by kernel_rfl)) rfl ⟨by rw [HDD.out]; rfl, HRF.out, HBF.out⟩
  | some x =>
    rw [hd] at KD
    have HKD := Lib.hid KD
    have HDD := Lib.hid hd
    clear KD hd
    go_wp2_with fail
    refine HKD.out.mono ?_
    rintro e w3 ⟨rfl, k3⟩
    have hz3 := Ext.blk k3 HZ2.out
    have hr3 := HR2.out.ext k3
    have hb3 := HB2.out.trans (But.of k3)
    have hx4 := extAl w3 (.cells #[.int .i64 (x).1, .int .i64 (x).2.1, .int .i64 (x).2.2] 32)
    have hz4 := heap_alloc_last w3 (.cells #[.int .i64 (x).1, .int .i64 (x).2.1, .int .i64 (x).2.2] 32)
    have HZ4 := Lib.hid (Ext.blk hx4 hz3)
    have HG4 := Lib.hid hz4
    have HR4 := Lib.hid (hr3.ext hx4)
    have HB4 := Lib.hid (hb3.trans (But.of hx4))
    clear hz3 hr3 hb3 hx4 hz4 k3 HZ2 HR2 HB2 HKD
    unfold hvT
    go_upto_region 2 with fail
    generalize w3.alloc (.cells #[.int .i64 (x).1, .int .i64 (x).2.1, .int .i64 (x).2.2] 32) = W4 at *
    generalize w3.heap.size = g3 at *
    obtain ⟨d0, d1, d2, d3, d4, d5, dl⟩ := blk3 HG4.out
    obtain ⟨k0, k1, k2, e0, e1, e2, kl⟩ := blk3 HZ4.out
    have s3 := set3 (.int .i64 (x).1) (.int .i64 (x).2.1) (.int .i64 (x).2.2) HZ4.out
    have hnb : ∀ j : Nat, (#[.int .i64 (x).1, .int .i64 (x).2.1, .int .i64 (x).2.2] : Array Value)[j]? = (#[.int .i64 0, .int .i64 0, .int .i64 0] : Array Value)[j]? ∨ ∃ u, (#[.int .i64 0, .int .i64 0, .int .i64 0] : Array Value)[j]? = some u ∧ NoB' u := fun j => by
      match j with
      | 0 => exact .inr ⟨_, rfl, nb_i64 _⟩
      | 1 => exact .inr ⟨_, rfl, nb_i64 _⟩
      | 2 => exact .inr ⟨_, rfl, nb_i64 _⟩
      | j + 3 => exact .inl (by simp)
    have HRF := Lib.hid (HR4.out.setNB (row' := #[.int .i64 (x).1, .int .i64 (x).2.1, .int .i64 (x).2.2]) (by have := HLT.out; have := HG2.out; omega) HZ4.out hnb)
    have HBF : Hid (But gr w (W4.setRow g2 #[.int .i64 (x).1, .int .i64 (x).2.1, .int .i64 (x).2.2])) := Lib.hid ⟨HB4.out.os, HB4.out.tape, HB4.out.output, by have := HB4.out.size; simpa [World.setRow] using this, fun i hi hn => (setRow_other W4 g2 i _ (by have := HG2.out; omega)).trans (HB4.out.block i hi hn)⟩
    have HG := Lib.hid (setRow_heap W4 g2 _ #[.int .i64 (x).1, .int .i64 (x).2.1, .int .i64 (x).2.2] _ _ HZ4.out)
    have S3 := Lib.hid s3
    clear s3 HG4 HZ4 HR4 HB4 hnb
    go_wp2_with fail
    rw [S3.out]
    (try simp only [Exit.inBlock, Exit.then])
    exact bodyPost_ret (results_ct Try.results77 _ _ _ _ _ _ _ rfl HG.out Try.underlying32 rfl (by kernel_rfl)) rfl ⟨by rw [HDD.out]; rfl, HRF.out, HBF.out⟩
/-- The document's reader of arguments. -/
structure RRd (w wr : World) (gr ga g4 : Nat) (st : St) (row : Array Value) : Prop where
  rd : Rd 196 wr gr st
  ha : wr.heap[ga]? = some (.cells row 35 (0, 0))
  h4 : wr.heap[g4]? = some (.cells (agC ag0).toArray 35 (0, 0))
  ne : gr ≠ ga ∧ gr ≠ g4 ∧ ga ≠ g4
  bel : Below w.heap.size w wr
  lb : w.heap.size ≤ gr ∧ w.heap.size ≤ ga ∧ w.heap.size ≤ g4
section
variable {w wr w' : World} {gr ga g4 : Nat} {st st' : St} {row : Array Value}
theorem RRd.read (h : RRd w wr gr ga g4 st row) (hr : Rd 196 w' gr st') (k : But gr wr w') : RRd w w' gr ga g4 st' row :=
  { rd := hr, ha := (k.block ga (heap_lt h.ha) (by have := h.ne; simp; omega)).trans h.ha, h4 := (k.block g4 (heap_lt h.h4) (by have := h.ne; simp; omega)).trans h.h4, ne := h.ne, bel := h.bel.trans (k.below h.lb.1 h.bel.size), lb := h.lb }
theorem RRd.ext (h : RRd w wr gr ga g4 st row) (k : Ext wr w') : RRd w w' gr ga g4 st row := h.read (h.rd.ext k) (But.of k)
theorem RRd.fill (h : RRd w wr gr ga g4 st row) (row' : Array Value) (hr : ∀ j : Nat, row'[j]? = row[j]? ∨ ∃ u, row[j]? = some u ∧ NoB' u) : RRd w (wr.setRow ga row') gr ga g4 st row' :=
  { rd := h.rd.setNB h.ne.1 h.ha hr, ha := setRow_heap _ _ _ _ _ _ h.ha, h4 := (setRow_other _ _ _ _ h.ne.2.2.symm).trans h.h4, ne := h.ne, bel := below_setRow h.bel h.lb.2.1 _, lb := h.lb }
end
/-- The document's way: all letters, whether all handles were. -/
def rAll : List UInt8 → St → Bool → AgT → St × Bool × AgT
  | [], s, ok, a => (s, ok, a)
  | c :: l, s, ok, a => rAll l (gtA (trA c) s false a).1 (ok && !(gtA (trA c) s false a).2.1) (gtA (trA c) s false a).2.2
def endR (x : St × Bool × AgT) : AgT × Int := if (x.2.1 && doneB x.1) = true then (x.2.2, 0) else (ag0, 4)
def rR (p : Int) (s : List UInt8) : AgT × Int := if p < 0 ∨ 19 ≤ p then (ag0, 62) else endR (rAll (rAskL p) (some s) true ag0)
theorem gtA_none {c : UInt8} (b : Bool) (a : AgT) (hc : c ∈ lettersA) : (gtA c none b a).1 = none := by
  simp only [lettersA, List.mem_cons, List.not_mem_nil, or_false] at hc
  rcases hc with rfl | rfl | rfl | rfl | rfl | rfl | rfl | rfl | rfl | rfl | rfl | rfl <;> rfl
theorem rAll_none : ∀ (l : List UInt8) (ok : Bool) (a : AgT), (∀ c ∈ l, trA c ∈ lettersA) → (rAll l none ok a).1 = none
  | [], _, _, _ => rfl
  | c :: l, ok, a, hm => by
    unfold rAll
    rw [gtA_none false a (hm c List.mem_cons_self)]
    exact rAll_none l _ _ fun d hd => hm d (List.mem_cons_of_mem _ hd)
theorem rAll_false : ∀ (l : List UInt8) (s : St) (a : AgT), (rAll l s false a).2.1 = false
  | [], _, _ => rfl
  | c :: l, s, a => by
    unfold rAll
    rw [Bool.false_and]
    exact rAll_false l _ _
theorem all_eq : ∀ (L : List UInt8) (s : St) (a : AgT), (∀ c ∈ L, trA c ∈ lettersA) → endA (gtAll (L.map trA) s a) = endR (rAll L s true a)
  | [], s, a, _ => by
    show (if doneB s = true then (a, (0 : Int)) else (ag0, 4)) = if (true && doneB s) = true then (a, 0) else (ag0, 4)
    rw [Bool.true_and]
  | c :: L, s, a, hm => by
    have hml : ∀ d ∈ L, trA d ∈ lettersA := fun d hd => hm d (List.mem_cons_of_mem _ hd)
    rw [List.map_cons]
    unfold gtAll rAll
    by_cases h1 : (gtA (trA c) s false a).2.1 = false
    · by_cases h2 : (gtA (trA c) s false a).1.isSome = true
      · rw [if_pos ⟨h1, h2⟩, h1]
        exact all_eq L _ _ hml
      · rw [if_neg (fun h => h2 h.2)]
        have h3 : (gtA (trA c) s false a).1 = none := by simpa using h2
        rw [h3]
        show (ag0, (4 : Int)) = endR _
        unfold endR
        rw [rAll_none L _ _ hml]
        simp [doneB]
    · rw [if_neg (fun h => h1 h.1)]
      have h3 : (gtA (trA c) s false a).2.1 = true := by simpa using h1
      rw [h3]
      show (ag0, (4 : Int)) = endR _
      unfold endR
      have := rAll_false L (gtA (trA c) s false a).1 (gtA (trA c) s false a).2.2
      simp only [Bool.true_and, Bool.not_true]
      rw [this]
      simp
theorem tr_mem {c : UInt8} (hc : c ∈ lettersR) : trA c ∈ lettersA := by
  simp only [lettersR, List.mem_cons, List.not_mem_nil, or_false] at hc
  rcases hc with rfl | rfl | rfl | rfl | rfl | rfl | rfl | rfl | rfl | rfl | rfl | rfl <;> decide
/-- The arguments of words are the document's. -/
theorem aR_rR (p : Int) (s : List UInt8) : aR p s = rR p s := by
  unfold aR
  cases h : askedL p with
  | none =>
    show _ = rR p s
    unfold rR
    rw [if_pos (ask_none h)]
  | some l =>
    obtain ⟨h1, h2, h3, h4⟩ := nd_ask h
    show endA (gtAll l (some s) ag0) = _
    unfold rR
    rw [if_neg h4, h2]
    exact all_eq _ _ _ fun c hc => tr_mem (h3 c hc)
theorem rAskL_mem' {p : Nat} (hp : p < 19) : ∀ c ∈ rAskL (p : Int), c ∈ lettersR := by
  have h : p = 0 ∨ p = 1 ∨ p = 2 ∨ p = 3 ∨ p = 4 ∨ p = 5 ∨ p = 6 ∨ p = 7 ∨ p = 8 ∨ p = 9 ∨ p = 10 ∨ p = 11 ∨ p = 12 ∨ p = 13 ∨ p = 14 ∨ p = 15 ∨ p = 16 ∨ p = 17 ∨ p = 18 := by omega
  rcases h with rfl | rfl | rfl | rfl | rfl | rfl | rfl | rfl | rfl | rfl | rfl | rfl | rfl | rfl | rfl | rfl | rfl | rfl | rfl <;> decide

set_option maxHeartbeats 16000000 in
theorem rRead_any (p : Int) (s : List UInt8) (w : World) (hp : I64 p) (hs : s.length ≤ 20000) :
    Calls Try.prog 29 #[.int .i64 p, .string (str s)] w fun e w' => e = .returned (.tuple #[.agg (agC (rR p s).1).toArray, .int .i64 (rR p s).2]) ∧ Below w.heap.size w w' := by
  obtain ⟨R, hR⟩ : ∃ R, rR p s = R := ⟨_, rfl⟩
  rw [hR]
  have h4 : (w.alloc (.cells (agC ag0).toArray 35)).heap[w.heap.size]? = some (.cells (agC ag0).toArray 35 (0, 0)) := heap_alloc_last w _
  have hx4 := extAl w (.cells (agC ag0).toArray 35)
  have hw4 : w.alloc (.cells (agC ag0).toArray 35) = w.alloc (.cells #[.int .i64 0, .int .i64 0, .int .i64 0, .int .i64 0, .int .i64 0, .int .i64 0, .string ⟨#[]⟩, .string ⟨#[]⟩, .string ⟨#[]⟩, .int .i64 0, .int .i64 0, .int .i64 0, .int .i64 0, .int .i64 0, .int .i64 0, .int .u64 0] 35) := rfl
  have H4 := Lib.hid h4
  have HX4 := Lib.hid hx4
  have HW4 := Lib.hid hw4
  obtain ⟨g4, hg4⟩ : ∃ g4, w.heap.size = g4 := ⟨_, rfl⟩
  have HG4 := Lib.hid hg4
  rw [hg4] at H4
  clear h4 hx4 hw4
  by_cases hb : p < 0 ∨ 19 ≤ p
  · have hR0 : R = (ag0, 62) := by rw [← hR]; unfold rR; exact if_pos hb
    subst hR0
    have HS := Lib.hid (storeAgZ H4.out)
    have HF := Lib.hid (setRow_heap _ g4 _ (agC ag0).toArray _ _ H4.out)
    have HB : Hid (Below w.heap.size w ((w.alloc (.cells (agC ag0).toArray 35)).setRow g4 (agC ag0).toArray)) := Lib.hid (below_setRow HX4.out (by rw [HG4.out]; exact Nat.le_refl _) _)
    clear hR H4 HX4
    rcases hb with hb | hb
    · go_enter Try.func29, Try.ntmps29
      go_upto_region 2 with fail
      rw [← HW4.out]
      go_wp2_with (refine wpList_st rfl 35 (.tmp 4) (.tmp 18) rfl HS.out ?_; simp only [Act.put])
      (try simp only [Exit.inBlock, Exit.then])
      exact bodyPost_ret (results_ct Try.results29 _ _ _ _ _ _ _ rfl HF.out Try.underlying35 rfl (by kernel_rfl)) rfl ⟨rfl, by first | exact HB.out | (have t := HB.out; rw [HG4.out] at t; exact t)⟩
    · have hb0 : ¬ p < 0 := by omega
      go_enter Try.func29, Try.ntmps29
      go_upto_region 2 with fail
      rw [← HW4.out]
      go_wp2_with (refine wpList_st rfl 35 (.tmp 4) (.tmp 18) rfl HS.out ?_; simp only [Act.put])
      (try simp only [Exit.inBlock, Exit.then])
      exact bodyPost_ret (results_ct Try.results29 _ _ _ _ _ _ _ rfl HF.out Try.underlying35 rfl (by kernel_rfl)) rfl ⟨rfl, by first | exact HB.out | (have t := HB.out; rw [HG4.out] at t; exact t)⟩
  · obtain ⟨q, rfl⟩ : ∃ q : Nat, p = q := ⟨p.toNat, by omega⟩
    have hq : q < 19 := by omega
    have hq' : (q : Int) < 19 := by omega
    have KA := Lib.hid (fun w : World => rAskL_any q hq w)
    have hLm := rAskL_mem' hq
    have hLl := rAskL_len (q : Int)
    have hR1 : endR (rAll (rAskL (q : Int)) (some s) true ag0) = R := by rw [← hR]; unfold rR; exact (if_neg hb).symm
    clear hR hb hp
    generalize rAskL (q : Int) = L at *
    have HLM := Lib.hid hLm
    have hsz := str_size L
    have HR := Lib.hid hR1
    clear hLm hR1
    go_enter Try.func29, Try.ntmps29
    go_upto_region 3 with fail
    rw [← HW4.out]
    clear hg4 HW4
    generalize w.alloc (.cells (agC ag0).toArray 35) = W1 at *
    obtain ⟨cv, W2, hcv, hrs2, hx2⟩ := conv_str W1 s
    have KN := Lib.hid (rnewReader_any cv s W2 hrs2 (by omega))
    obtain ⟨A2, c2, rfl⟩ := hrs2.form
    have HX2 := Lib.hid hx2
    clear hrs2 hx2
    go_wp2_with fail
    refine KN.out.mono ?_
    rintro e W3 ⟨gr, rfl, r3, hgr, k3⟩
    have hs1 := heap_lt H4.out
    have hgr1 : W1.heap.size ≤ gr := Nat.le_trans (Below.size HX2.out) hgr
    have hgr3 := r3.lt
    have hx3 := Ext.trans HX2.out k3
    have hx5 := extAl W3 (.cells (agC ag0).toArray 35)
    have ha5 : (W3.alloc (.cells (agC ag0).toArray 35)).heap[W3.heap.size]? = some (.cells (agC ag0).toArray 35 (0, 0)) := heap_alloc_last W3 _
    have hw5 : W3.alloc (.cells (agC ag0).toArray 35) = W3.alloc (.cells #[.int .i64 0, .int .i64 0, .int .i64 0, .int .i64 0, .int .i64 0, .int .i64 0, .string ⟨#[]⟩, .string ⟨#[]⟩, .string ⟨#[]⟩, .int .i64 0, .int .i64 0, .int .i64 0, .int .i64 0, .int .i64 0, .int .i64 0, .int .u64 0] 35) := rfl
    have HST : Hid (RRd w (W3.alloc (.cells (agC ag0).toArray 35)) gr W3.heap.size g4 (some s) (agC ag0).toArray) := Lib.hid
      { rd := r3.ext hx5, ha := ha5, h4 := Ext.blk (Ext.trans hx3 hx5) H4.out, ne := (by omega), bel := Ext.trans HX4.out (Ext.trans hx3 hx5), lb := (by have := HG4.out; omega) }
    have HW5 := Lib.hid hw5
    have HSA : Hid ((Instr.storeAt 35 (.pointer (some ⟨W3.heap.size, 0, none⟩)) (.agg #[.int .i64 0, .int .i64 0, .int .i64 0, .int .i64 0, .int .i64 0, .int .i64 0, .string ⟨#[]⟩, .string ⟨#[]⟩, .string ⟨#[]⟩, .int .i64 0, .int .i64 0, .int .i64 0, .int .i64 0, .int .i64 0, .int .i64 0, .int .u64 0])).run Try.prog (W3.alloc (.cells (agC ag0).toArray 35)) = .ok () (W3.alloc (.cells (agC ag0).toArray 35))) := Lib.hid (by rw [storeAgZ ha5, World.setRow_alloc_new])
    clear hcv KN r3 hgr k3 hs1 hgr1 hgr3 hx3 hx5 ha5 hw5 HX2 H4 HX4 HG4
    rw [HW5.out] at HSA
    go_wp2_with (refine wpList_st rfl 35 (.tmp 7) (.tmp 22) rfl HSA.out ?_; simp only [Act.put])
    rw [← HW5.out]
    clear HW5 HSA
    generalize W3.alloc (.cells (agC ag0).toArray 35) = W5 at *
    generalize W3.heap.size = ga at *
    refine (KA.out _).mono ?_
    rintro e w6 ⟨rfl, h6⟩
    have HS6 := Lib.hid (HST.out.ext h6)
    clear HST h6 KA
    go_upto_region 9 with fail
    go_loopw [9, 10, 11] (fun okv isv iv wr => ∃ (k : Nat) (st : St) (ok is_ : Bool) (a' : AgT), k ≤ L.length ∧ iv = .int .i64 k ∧ okv = .bool ok ∧ isv = .bool is_ ∧ Hid (RRd w wr gr ga g4 st (agC a').toArray) ∧ Hid (endR (rAll (L.drop k) st ok a') = R) ∧ Hid (st.l.length ≤ 20000)) (fun _ _ iv _ => L.length - (intOf iv).toNat)
    case atStart => exact ⟨0, some s, true, true, ag0, Nat.zero_le _, rfl, rfl, rfl, HS6, HR, Lib.hid hs⟩
    case round =>
      obtain ⟨k, st, ok, is_, a', hk, rfl, rfl, rfl, HRS, HF, HO⟩ := hrel
      clear HS6 HR
      obtain ⟨wo, rfl⟩ : ∃ wo : World, wo = wr := ⟨_, rfl⟩
      by_cases hkl : k < L.length
      · obtain ⟨x, hx⟩ : ∃ x, L[k]? = some x := ⟨_, List.getElem?_eq_getElem hkl⟩
        have hxm := HLM.out x (List.mem_of_getElem? hx)
        have hks : k < (str L).size := by omega
        have hget : ((((str L)[k]).toNat : Nat) : Int) = (x.toNat : Nat) := by rw [str_get, (List.getElem?_eq_some_iff.1 hx).2]
        have hdr : L.drop k = x :: L.drop (k + 1) := by
          rw [List.drop_eq_getElem_cons hkl]
          congr 1
          exact (List.getElem?_eq_some_iff.1 hx).2
        have HF2 : Hid (endR (rAll (L.drop (k + 1)) (gtA (trA x) st false a').1 (ok && !(gtA (trA x) st false a').2.1) (gtA (trA x) st false a').2.2) = R) := Lib.hid (by rw [← HF.out, hdr]; rfl)
        have HL2 : Hid ((gtA (trA x) st false a').1.l.length ≤ 20000) := Lib.hid (Nat.le_trans (gtA_len _ _ _ _) HO.out)
        have hstl := HO.out
        have hga := HRS.out.ha
        have fa : ∀ o, wo.frozen? ⟨ga, o, none⟩ = false := fun o => by simp [World.frozen?, hga]
        clear hx hdr HF HO hga fa
        simp only [lettersR, List.mem_cons, List.not_mem_nil, or_false] at hxm
        rcases hxm with rfl | rfl | rfl | rfl | rfl | rfl | rfl | rfl | rfl | rfl | rfl | rfl
        · as_aux_lemma =>
            have hget : ((((str L)[k]).toNat : Nat) : Int) = 72 := hget
            obtain ⟨D, hD⟩ : ∃ D, dec (rdX st 24).1 = D := ⟨_, rfl⟩
            have HG : Hid (gtA (trA 72) st false a' = ((rdX st 24).2, D.isNone, { a' with h := D.getD (0, 0, 0) })) := Lib.hid (by rw [← hD]; rfl)
            have KE := rHandleR_any gr st wo HRS.out.rd (by omega)
            rw [hD] at KE
            have HKE := Lib.hid KE
            clear KE hD
            obtain ⟨x, hx⟩ : ∃ x, D.getD (0, 0, 0) = x := ⟨_, rfl⟩
            obtain ⟨n, hn⟩ : ∃ n, D.isNone = n := ⟨_, rfl⟩
            have hsm : D.isSome = !n := by rw [← hn]; cases D <;> rfl
            rw [hx, hn] at HG
            rw [hx, hsm] at HKE
            rw [HG.out] at HF2 HL2
            clear hx hn hsm HG
            unfold hvT at HKE
            go_wp2_with fail
            refine HKE.out.mono ?_
            rintro e w4 ⟨rfl, r4, k4⟩
            have H4 := Lib.hid (HRS.out.read r4 k4)
            have hga := H4.out.ha
            have fa : ∀ o, w4.frozen? ⟨ga, o, none⟩ = false := fun o => by simp [World.frozen?, hga]
            obtain ⟨c0, c1, c2⟩ := row3 (o := 0) hga (x := .int .i64 a'.h.1) (y := .int .i64 a'.h.2.1) (z := .int .i64 a'.h.2.2) rfl rfl rfl
            have lga := heap_lt hga
            have ST := Lib.hid (set3r (o := 0) (x := .int .i64 x.1) (y := .int .i64 x.2.1) (z := .int .i64 x.2.2) hga)
            have HFI := Lib.hid (H4.out.fill (agC { a' with h := x }).toArray (fun j => by
              by_cases e0 : j = 0
              · subst e0; exact .inr ⟨.int .i64 a'.h.1, rfl, nb_i64 _⟩
              · by_cases e1 : j = 0 + 1
                · subst e1; exact .inr ⟨.int .i64 a'.h.2.1, rfl, nb_i64 _⟩
                · by_cases e2 : j = 0 + 2
                  · subst e2; exact .inr ⟨.int .i64 a'.h.2.2, rfl, nb_i64 _⟩
                  · left
                    have : (agC { a' with h := x }).toArray = (((agC a').toArray.setIfInBounds 0 (.int .i64 x.1)).setIfInBounds (0 + 1) (.int .i64 x.2.1)).setIfInBounds (0 + 2) (.int .i64 x.2.2) := rfl
                    rw [this, Array.getElem?_setIfInBounds_ne (fun h => e2 h.symm), Array.getElem?_setIfInBounds_ne (fun h => e1 h.symm), Array.getElem?_setIfInBounds_ne (fun h => e0 h.symm)]))
            have ST2 := ST.out
            (try simp only [Nat.zero_add] at ST2)
            (try simp only [Nat.reduceAdd] at ST2)
            have HST2 := Lib.hid ST2
            clear hga ST ST2 HKE r4 k4 HRS
            cases ok <;> cases n <;> as_aux_lemma =>
              go_wp2_with fail
              rw [HST2.out]
              go_roundw
              case rel => exact ⟨k + 1, _, _, _, { a' with h := x }, by omega, by go_num, rfl, rfl, HFI, HF2, HL2⟩
              case measure => simp only [intOf]; omega
        · as_aux_lemma =>
            have hget : ((((str L)[k]).toNat : Nat) : Int) = 84 := hget
            obtain ⟨D, hD⟩ : ∃ D, dec (rdX st 24).1 = D := ⟨_, rfl⟩
            have HG : Hid (gtA (trA 84) st false a' = ((rdX st 24).2, D.isNone, { a' with t := D.getD (0, 0, 0) })) := Lib.hid (by rw [← hD]; rfl)
            have KE := rHandleR_any gr st wo HRS.out.rd (by omega)
            rw [hD] at KE
            have HKE := Lib.hid KE
            clear KE hD
            obtain ⟨x, hx⟩ : ∃ x, D.getD (0, 0, 0) = x := ⟨_, rfl⟩
            obtain ⟨n, hn⟩ : ∃ n, D.isNone = n := ⟨_, rfl⟩
            have hsm : D.isSome = !n := by rw [← hn]; cases D <;> rfl
            rw [hx, hn] at HG
            rw [hx, hsm] at HKE
            rw [HG.out] at HF2 HL2
            clear hx hn hsm HG
            unfold hvT at HKE
            go_wp2_with fail
            refine HKE.out.mono ?_
            rintro e w4 ⟨rfl, r4, k4⟩
            have H4 := Lib.hid (HRS.out.read r4 k4)
            have hga := H4.out.ha
            have fa : ∀ o, w4.frozen? ⟨ga, o, none⟩ = false := fun o => by simp [World.frozen?, hga]
            obtain ⟨c0, c1, c2⟩ := row3 (o := 3) hga (x := .int .i64 a'.t.1) (y := .int .i64 a'.t.2.1) (z := .int .i64 a'.t.2.2) rfl rfl rfl
            have lga := heap_lt hga
            have ST := Lib.hid (set3r (o := 3) (x := .int .i64 x.1) (y := .int .i64 x.2.1) (z := .int .i64 x.2.2) hga)
            have HFI := Lib.hid (H4.out.fill (agC { a' with t := x }).toArray (fun j => by
              by_cases e0 : j = 3
              · subst e0; exact .inr ⟨.int .i64 a'.t.1, rfl, nb_i64 _⟩
              · by_cases e1 : j = 3 + 1
                · subst e1; exact .inr ⟨.int .i64 a'.t.2.1, rfl, nb_i64 _⟩
                · by_cases e2 : j = 3 + 2
                  · subst e2; exact .inr ⟨.int .i64 a'.t.2.2, rfl, nb_i64 _⟩
                  · left
                    have : (agC { a' with t := x }).toArray = (((agC a').toArray.setIfInBounds 3 (.int .i64 x.1)).setIfInBounds (3 + 1) (.int .i64 x.2.1)).setIfInBounds (3 + 2) (.int .i64 x.2.2) := rfl
                    rw [this, Array.getElem?_setIfInBounds_ne (fun h => e2 h.symm), Array.getElem?_setIfInBounds_ne (fun h => e1 h.symm), Array.getElem?_setIfInBounds_ne (fun h => e0 h.symm)]))
            have ST2 := ST.out
            (try simp only [Nat.zero_add] at ST2)
            (try simp only [Nat.reduceAdd] at ST2)
            have HST2 := Lib.hid ST2
            clear hga ST ST2 HKE r4 k4 HRS
            cases ok <;> cases n <;> as_aux_lemma =>
              go_wp2_with fail
              rw [HST2.out]
              go_roundw
              case rel => exact ⟨k + 1, _, _, _, { a' with t := x }, by omega, by go_num, rfl, rfl, HFI, HF2, HL2⟩
              case measure => simp only [intOf]; omega
        · as_aux_lemma =>
            have hget : ((((str L)[k]).toNat : Nat) : Int) = 110 := hget
            have KE := rtext_any gr st 255 wo HRS.out.rd (by omega)
            have HG : Hid (gtA (trA 110) st false a' = ((rdT st 255).2, false, { a' with name := (rdT st 255).1 })) := Lib.hid rfl
            obtain ⟨N, hN⟩ : ∃ N, str (rdT st 255).1 = N := ⟨_, rfl⟩
            obtain ⟨s', hs'⟩ : ∃ s' : St, (rdT st 255).2 = s' := ⟨_, rfl⟩
            obtain ⟨a2, ha2⟩ : ∃ a2 : AgT, { a' with name := (rdT st 255).1 } = a2 := ⟨_, rfl⟩
            have HROW : Hid ((agC a').toArray.setIfInBounds 6 (.string N) = (agC a2).toArray) := Lib.hid (by rw [← hN, ← ha2]; rfl)
            rw [hs', ha2] at HG
            rw [hN, hs'] at KE
            rw [HG.out] at HF2 HL2
            have HKE := Lib.hid KE
            clear KE hN hs' ha2 HG
            go_wp2_with fail
            refine HKE.out.mono ?_
            rintro e w4 ⟨rfl, r4, k4⟩
            have H4 := Lib.hid (HRS.out.read r4 k4)
            have hga := H4.out.ha
            have fa : w4.frozen? ⟨ga, 6, none⟩ = false := by simp [World.frozen?, hga]
            obtain ⟨u, hu, hun⟩ : ∃ u, (agC a').toArray[6]? = some u ∧ NoB' u := ⟨_, rfl, nb_str _⟩
            have ca : w4.cell? ⟨ga, 6, none⟩ = some u := by rw [cell_of_row _ _ _ _ _ _ hga]; exact hu
            have lga := heap_lt hga
            have ST := Lib.hid (setCell_eq_setRow w4 ga 6 _ 35 (0, 0) (.string N) hga)
            have hfi := H4.out.fill ((agC a').toArray.setIfInBounds 6 (.string N)) (set_nb hu hun)
            rw [HROW.out] at hfi
            have HFI := Lib.hid hfi
            have hok : (ok && !false) = ok := by cases ok <;> rfl
            have HF3 := HF2.out
            (try simp only at HF3)
            rw [hok] at HF3
            have HF4 := Lib.hid HF3
            clear hga hu HKE r4 k4 HRS hfi HF3 HF2 hok
            go_wp2_with fail
            rw [ST.out, HROW.out]
            go_roundw
            case rel => exact ⟨k + 1, s', ok, is_, a2, by omega, by go_num, rfl, rfl, HFI, HF4, HL2⟩
            case measure => simp only [intOf]; omega
        · as_aux_lemma =>
            have hget : ((((str L)[k]).toNat : Nat) : Int) = 111 := hget
            have KE := rtext_any gr st 255 wo HRS.out.rd (by omega)
            have HG : Hid (gtA (trA 111) st false a' = ((rdT st 255).2, false, { a' with other := (rdT st 255).1 })) := Lib.hid rfl
            obtain ⟨N, hN⟩ : ∃ N, str (rdT st 255).1 = N := ⟨_, rfl⟩
            obtain ⟨s', hs'⟩ : ∃ s' : St, (rdT st 255).2 = s' := ⟨_, rfl⟩
            obtain ⟨a2, ha2⟩ : ∃ a2 : AgT, { a' with other := (rdT st 255).1 } = a2 := ⟨_, rfl⟩
            have HROW : Hid ((agC a').toArray.setIfInBounds 7 (.string N) = (agC a2).toArray) := Lib.hid (by rw [← hN, ← ha2]; rfl)
            rw [hs', ha2] at HG
            rw [hN, hs'] at KE
            rw [HG.out] at HF2 HL2
            have HKE := Lib.hid KE
            clear KE hN hs' ha2 HG
            go_wp2_with fail
            refine HKE.out.mono ?_
            rintro e w4 ⟨rfl, r4, k4⟩
            have H4 := Lib.hid (HRS.out.read r4 k4)
            have hga := H4.out.ha
            have fa : w4.frozen? ⟨ga, 7, none⟩ = false := by simp [World.frozen?, hga]
            obtain ⟨u, hu, hun⟩ : ∃ u, (agC a').toArray[7]? = some u ∧ NoB' u := ⟨_, rfl, nb_str _⟩
            have ca : w4.cell? ⟨ga, 7, none⟩ = some u := by rw [cell_of_row _ _ _ _ _ _ hga]; exact hu
            have lga := heap_lt hga
            have ST := Lib.hid (setCell_eq_setRow w4 ga 7 _ 35 (0, 0) (.string N) hga)
            have hfi := H4.out.fill ((agC a').toArray.setIfInBounds 7 (.string N)) (set_nb hu hun)
            rw [HROW.out] at hfi
            have HFI := Lib.hid hfi
            have hok : (ok && !false) = ok := by cases ok <;> rfl
            have HF3 := HF2.out
            (try simp only at HF3)
            rw [hok] at HF3
            have HF4 := Lib.hid HF3
            clear hga hu HKE r4 k4 HRS hfi HF3 HF2 hok
            go_wp2_with fail
            rw [ST.out, HROW.out]
            go_roundw
            case rel => exact ⟨k + 1, s', ok, is_, a2, by omega, by go_num, rfl, rfl, HFI, HF4, HL2⟩
            case measure => simp only [intOf]; omega
        · as_aux_lemma =>
            have hget : ((((str L)[k]).toNat : Nat) : Int) = 116 := hget
            have KE := rtext_any gr st 2048 wo HRS.out.rd (by omega)
            have HG : Hid (gtA (trA 116) st false a' = ((rdT st 2048).2, false, { a' with text := (rdT st 2048).1 })) := Lib.hid rfl
            obtain ⟨N, hN⟩ : ∃ N, str (rdT st 2048).1 = N := ⟨_, rfl⟩
            obtain ⟨s', hs'⟩ : ∃ s' : St, (rdT st 2048).2 = s' := ⟨_, rfl⟩
            obtain ⟨a2, ha2⟩ : ∃ a2 : AgT, { a' with text := (rdT st 2048).1 } = a2 := ⟨_, rfl⟩
            have HROW : Hid ((agC a').toArray.setIfInBounds 8 (.string N) = (agC a2).toArray) := Lib.hid (by rw [← hN, ← ha2]; rfl)
            rw [hs', ha2] at HG
            rw [hN, hs'] at KE
            rw [HG.out] at HF2 HL2
            have HKE := Lib.hid KE
            clear KE hN hs' ha2 HG
            go_wp2_with fail
            refine HKE.out.mono ?_
            rintro e w4 ⟨rfl, r4, k4⟩
            have H4 := Lib.hid (HRS.out.read r4 k4)
            have hga := H4.out.ha
            have fa : w4.frozen? ⟨ga, 8, none⟩ = false := by simp [World.frozen?, hga]
            obtain ⟨u, hu, hun⟩ : ∃ u, (agC a').toArray[8]? = some u ∧ NoB' u := ⟨_, rfl, nb_str _⟩
            have ca : w4.cell? ⟨ga, 8, none⟩ = some u := by rw [cell_of_row _ _ _ _ _ _ hga]; exact hu
            have lga := heap_lt hga
            have ST := Lib.hid (setCell_eq_setRow w4 ga 8 _ 35 (0, 0) (.string N) hga)
            have hfi := H4.out.fill ((agC a').toArray.setIfInBounds 8 (.string N)) (set_nb hu hun)
            rw [HROW.out] at hfi
            have HFI := Lib.hid hfi
            have hok : (ok && !false) = ok := by cases ok <;> rfl
            have HF3 := HF2.out
            (try simp only at HF3)
            rw [hok] at HF3
            have HF4 := Lib.hid HF3
            clear hga hu HKE r4 k4 HRS hfi HF3 HF2 hok
            go_wp2_with fail
            rw [ST.out, HROW.out]
            go_roundw
            case rel => exact ⟨k + 1, s', ok, is_, a2, by omega, by go_num, rfl, rfl, HFI, HF4, HL2⟩
            case measure => simp only [intOf]; omega
        · as_aux_lemma =>
            have hget : ((((str L)[k]).toNat : Nat) : Int) = 97 := hget
            have KE := rint_any gr st wo HRS.out.rd
            have HG : Hid (gtA (trA 97) st false a' = ((rdL st).2, false, { a' with at_ := wrap64 (rdL st).1 })) := Lib.hid rfl
            obtain ⟨N, hN⟩ : ∃ N, wrap64 (rdL st).1 = N := ⟨_, rfl⟩
            obtain ⟨s', hs'⟩ : ∃ s' : St, (rdL st).2 = s' := ⟨_, rfl⟩
            obtain ⟨a2, ha2⟩ : ∃ a2 : AgT, { a' with at_ := wrap64 (rdL st).1 } = a2 := ⟨_, rfl⟩
            have HROW : Hid ((agC a').toArray.setIfInBounds 9 (.int .i64 N) = (agC a2).toArray) := Lib.hid (by rw [← hN, ← ha2]; rfl)
            rw [hs', ha2] at HG
            rw [hN, hs'] at KE
            rw [HG.out] at HF2 HL2
            have HKE := Lib.hid KE
            clear KE hN hs' ha2 HG
            go_wp2_with fail
            refine HKE.out.mono ?_
            rintro e w4 ⟨rfl, r4, k4⟩
            have H4 := Lib.hid (HRS.out.read r4 k4)
            have hga := H4.out.ha
            have fa : w4.frozen? ⟨ga, 9, none⟩ = false := by simp [World.frozen?, hga]
            obtain ⟨u, hu, hun⟩ : ∃ u, (agC a').toArray[9]? = some u ∧ NoB' u := ⟨_, rfl, nb_i64 _⟩
            have ca : w4.cell? ⟨ga, 9, none⟩ = some u := by rw [cell_of_row _ _ _ _ _ _ hga]; exact hu
            have lga := heap_lt hga
            have ST := Lib.hid (setCell_eq_setRow w4 ga 9 _ 35 (0, 0) (.int .i64 N) hga)
            have hfi := H4.out.fill ((agC a').toArray.setIfInBounds 9 (.int .i64 N)) (set_nb hu hun)
            rw [HROW.out] at hfi
            have HFI := Lib.hid hfi
            have hok : (ok && !false) = ok := by cases ok <;> rfl
            have HF3 := HF2.out
            (try simp only at HF3)
            rw [hok] at HF3
            have HF4 := Lib.hid HF3
            clear hga hu HKE r4 k4 HRS hfi HF3 HF2 hok
            go_wp2_with fail
            rw [ST.out, HROW.out]
            go_roundw
            case rel => exact ⟨k + 1, s', ok, is_, a2, by omega, by go_num, rfl, rfl, HFI, HF4, HL2⟩
            case measure => simp only [intOf]; omega
        · as_aux_lemma =>
            have hget : ((((str L)[k]).toNat : Nat) : Int) = 78 := hget
            have KE := rint_any gr st wo HRS.out.rd
            have HG : Hid (gtA (trA 78) st false a' = ((rdL st).2, false, { a' with n := wrap64 (rdL st).1 })) := Lib.hid rfl
            obtain ⟨N, hN⟩ : ∃ N, wrap64 (rdL st).1 = N := ⟨_, rfl⟩
            obtain ⟨s', hs'⟩ : ∃ s' : St, (rdL st).2 = s' := ⟨_, rfl⟩
            obtain ⟨a2, ha2⟩ : ∃ a2 : AgT, { a' with n := wrap64 (rdL st).1 } = a2 := ⟨_, rfl⟩
            have HROW : Hid ((agC a').toArray.setIfInBounds 10 (.int .i64 N) = (agC a2).toArray) := Lib.hid (by rw [← hN, ← ha2]; rfl)
            rw [hs', ha2] at HG
            rw [hN, hs'] at KE
            rw [HG.out] at HF2 HL2
            have HKE := Lib.hid KE
            clear KE hN hs' ha2 HG
            go_wp2_with fail
            refine HKE.out.mono ?_
            rintro e w4 ⟨rfl, r4, k4⟩
            have H4 := Lib.hid (HRS.out.read r4 k4)
            have hga := H4.out.ha
            have fa : w4.frozen? ⟨ga, 10, none⟩ = false := by simp [World.frozen?, hga]
            obtain ⟨u, hu, hun⟩ : ∃ u, (agC a').toArray[10]? = some u ∧ NoB' u := ⟨_, rfl, nb_i64 _⟩
            have ca : w4.cell? ⟨ga, 10, none⟩ = some u := by rw [cell_of_row _ _ _ _ _ _ hga]; exact hu
            have lga := heap_lt hga
            have ST := Lib.hid (setCell_eq_setRow w4 ga 10 _ 35 (0, 0) (.int .i64 N) hga)
            have hfi := H4.out.fill ((agC a').toArray.setIfInBounds 10 (.int .i64 N)) (set_nb hu hun)
            rw [HROW.out] at hfi
            have HFI := Lib.hid hfi
            have hok : (ok && !false) = ok := by cases ok <;> rfl
            have HF3 := HF2.out
            (try simp only at HF3)
            rw [hok] at HF3
            have HF4 := Lib.hid HF3
            clear hga hu HKE r4 k4 HRS hfi HF3 HF2 hok
            go_wp2_with fail
            rw [ST.out, HROW.out]
            go_roundw
            case rel => exact ⟨k + 1, s', ok, is_, a2, by omega, by go_num, rfl, rfl, HFI, HF4, HL2⟩
            case measure => simp only [intOf]; omega
        · as_aux_lemma =>
            have hget : ((((str L)[k]).toNat : Nat) : Int) = 109 := hget
            have KE := rint_any gr st wo HRS.out.rd
            have HG : Hid (gtA (trA 109) st false a' = ((rdL st).2, false, { a' with mode := wrap64 (rdL st).1 })) := Lib.hid rfl
            obtain ⟨N, hN⟩ : ∃ N, wrap64 (rdL st).1 = N := ⟨_, rfl⟩
            obtain ⟨s', hs'⟩ : ∃ s' : St, (rdL st).2 = s' := ⟨_, rfl⟩
            obtain ⟨a2, ha2⟩ : ∃ a2 : AgT, { a' with mode := wrap64 (rdL st).1 } = a2 := ⟨_, rfl⟩
            have HROW : Hid ((agC a').toArray.setIfInBounds 11 (.int .i64 N) = (agC a2).toArray) := Lib.hid (by rw [← hN, ← ha2]; rfl)
            rw [hs', ha2] at HG
            rw [hN, hs'] at KE
            rw [HG.out] at HF2 HL2
            have HKE := Lib.hid KE
            clear KE hN hs' ha2 HG
            go_wp2_with fail
            refine HKE.out.mono ?_
            rintro e w4 ⟨rfl, r4, k4⟩
            have H4 := Lib.hid (HRS.out.read r4 k4)
            have hga := H4.out.ha
            have fa : w4.frozen? ⟨ga, 11, none⟩ = false := by simp [World.frozen?, hga]
            obtain ⟨u, hu, hun⟩ : ∃ u, (agC a').toArray[11]? = some u ∧ NoB' u := ⟨_, rfl, nb_i64 _⟩
            have ca : w4.cell? ⟨ga, 11, none⟩ = some u := by rw [cell_of_row _ _ _ _ _ _ hga]; exact hu
            have lga := heap_lt hga
            have ST := Lib.hid (setCell_eq_setRow w4 ga 11 _ 35 (0, 0) (.int .i64 N) hga)
            have hfi := H4.out.fill ((agC a').toArray.setIfInBounds 11 (.int .i64 N)) (set_nb hu hun)
            rw [HROW.out] at hfi
            have HFI := Lib.hid hfi
            have hok : (ok && !false) = ok := by cases ok <;> rfl
            have HF3 := HF2.out
            (try simp only at HF3)
            rw [hok] at HF3
            have HF4 := Lib.hid HF3
            clear hga hu HKE r4 k4 HRS hfi HF3 HF2 hok
            go_wp2_with fail
            rw [ST.out, HROW.out]
            go_roundw
            case rel => exact ⟨k + 1, s', ok, is_, a2, by omega, by go_num, rfl, rfl, HFI, HF4, HL2⟩
            case measure => simp only [intOf]; omega
        · as_aux_lemma =>
            have hget : ((((str L)[k]).toNat : Nat) : Int) = 115 := hget
            have KE := rint_any gr st wo HRS.out.rd
            have HG : Hid (gtA (trA 115) st false a' = ((rdL st).2, false, { a' with size := wrap64 (rdL st).1 })) := Lib.hid rfl
            obtain ⟨N, hN⟩ : ∃ N, wrap64 (rdL st).1 = N := ⟨_, rfl⟩
            obtain ⟨s', hs'⟩ : ∃ s' : St, (rdL st).2 = s' := ⟨_, rfl⟩
            obtain ⟨a2, ha2⟩ : ∃ a2 : AgT, { a' with size := wrap64 (rdL st).1 } = a2 := ⟨_, rfl⟩
            have HROW : Hid ((agC a').toArray.setIfInBounds 12 (.int .i64 N) = (agC a2).toArray) := Lib.hid (by rw [← hN, ← ha2]; rfl)
            rw [hs', ha2] at HG
            rw [hN, hs'] at KE
            rw [HG.out] at HF2 HL2
            have HKE := Lib.hid KE
            clear KE hN hs' ha2 HG
            go_wp2_with fail
            refine HKE.out.mono ?_
            rintro e w4 ⟨rfl, r4, k4⟩
            have H4 := Lib.hid (HRS.out.read r4 k4)
            have hga := H4.out.ha
            have fa : w4.frozen? ⟨ga, 12, none⟩ = false := by simp [World.frozen?, hga]
            obtain ⟨u, hu, hun⟩ : ∃ u, (agC a').toArray[12]? = some u ∧ NoB' u := ⟨_, rfl, nb_i64 _⟩
            have ca : w4.cell? ⟨ga, 12, none⟩ = some u := by rw [cell_of_row _ _ _ _ _ _ hga]; exact hu
            have lga := heap_lt hga
            have ST := Lib.hid (setCell_eq_setRow w4 ga 12 _ 35 (0, 0) (.int .i64 N) hga)
            have hfi := H4.out.fill ((agC a').toArray.setIfInBounds 12 (.int .i64 N)) (set_nb hu hun)
            rw [HROW.out] at hfi
            have HFI := Lib.hid hfi
            have hok : (ok && !false) = ok := by cases ok <;> rfl
            have HF3 := HF2.out
            (try simp only at HF3)
            rw [hok] at HF3
            have HF4 := Lib.hid HF3
            clear hga hu HKE r4 k4 HRS hfi HF3 HF2 hok
            go_wp2_with fail
            rw [ST.out, HROW.out]
            go_roundw
            case rel => exact ⟨k + 1, s', ok, is_, a2, by omega, by go_num, rfl, rfl, HFI, HF4, HL2⟩
            case measure => simp only [intOf]; omega
        · as_aux_lemma =>
            have hget : ((((str L)[k]).toNat : Nat) : Int) = 83 := hget
            have KE := rint_any gr st wo HRS.out.rd
            have HG : Hid (gtA (trA 83) st false a' = ((rdL st).2, false, { a' with stable := wrap64 (rdL st).1 })) := Lib.hid rfl
            obtain ⟨N, hN⟩ : ∃ N, wrap64 (rdL st).1 = N := ⟨_, rfl⟩
            obtain ⟨s', hs'⟩ : ∃ s' : St, (rdL st).2 = s' := ⟨_, rfl⟩
            obtain ⟨a2, ha2⟩ : ∃ a2 : AgT, { a' with stable := wrap64 (rdL st).1 } = a2 := ⟨_, rfl⟩
            have HROW : Hid ((agC a').toArray.setIfInBounds 13 (.int .i64 N) = (agC a2).toArray) := Lib.hid (by rw [← hN, ← ha2]; rfl)
            rw [hs', ha2] at HG
            rw [hN, hs'] at KE
            rw [HG.out] at HF2 HL2
            have HKE := Lib.hid KE
            clear KE hN hs' ha2 HG
            go_wp2_with fail
            refine HKE.out.mono ?_
            rintro e w4 ⟨rfl, r4, k4⟩
            have H4 := Lib.hid (HRS.out.read r4 k4)
            have hga := H4.out.ha
            have fa : w4.frozen? ⟨ga, 13, none⟩ = false := by simp [World.frozen?, hga]
            obtain ⟨u, hu, hun⟩ : ∃ u, (agC a').toArray[13]? = some u ∧ NoB' u := ⟨_, rfl, nb_i64 _⟩
            have ca : w4.cell? ⟨ga, 13, none⟩ = some u := by rw [cell_of_row _ _ _ _ _ _ hga]; exact hu
            have lga := heap_lt hga
            have ST := Lib.hid (setCell_eq_setRow w4 ga 13 _ 35 (0, 0) (.int .i64 N) hga)
            have hfi := H4.out.fill ((agC a').toArray.setIfInBounds 13 (.int .i64 N)) (set_nb hu hun)
            rw [HROW.out] at hfi
            have HFI := Lib.hid hfi
            have hok : (ok && !false) = ok := by cases ok <;> rfl
            have HF3 := HF2.out
            (try simp only at HF3)
            rw [hok] at HF3
            have HF4 := Lib.hid HF3
            clear hga hu HKE r4 k4 HRS hfi HF3 HF2 hok
            go_wp2_with fail
            rw [ST.out, HROW.out]
            go_roundw
            case rel => exact ⟨k + 1, s', ok, is_, a2, by omega, by go_num, rfl, rfl, HFI, HF4, HL2⟩
            case measure => simp only [intOf]; omega
        · as_aux_lemma =>
            have hget : ((((str L)[k]).toNat : Nat) : Int) = 103 := hget
            have KE := rint_any gr st wo HRS.out.rd
            have HG : Hid (gtA (trA 103) st false a' = ((rdL st).2, false, { a' with guard := wrap64 (rdL st).1 })) := Lib.hid rfl
            obtain ⟨N, hN⟩ : ∃ N, wrap64 (rdL st).1 = N := ⟨_, rfl⟩
            obtain ⟨s', hs'⟩ : ∃ s' : St, (rdL st).2 = s' := ⟨_, rfl⟩
            obtain ⟨a2, ha2⟩ : ∃ a2 : AgT, { a' with guard := wrap64 (rdL st).1 } = a2 := ⟨_, rfl⟩
            have HROW : Hid ((agC a').toArray.setIfInBounds 14 (.int .i64 N) = (agC a2).toArray) := Lib.hid (by rw [← hN, ← ha2]; rfl)
            rw [hs', ha2] at HG
            rw [hN, hs'] at KE
            rw [HG.out] at HF2 HL2
            have HKE := Lib.hid KE
            clear KE hN hs' ha2 HG
            go_wp2_with fail
            refine HKE.out.mono ?_
            rintro e w4 ⟨rfl, r4, k4⟩
            have H4 := Lib.hid (HRS.out.read r4 k4)
            have hga := H4.out.ha
            have fa : w4.frozen? ⟨ga, 14, none⟩ = false := by simp [World.frozen?, hga]
            obtain ⟨u, hu, hun⟩ : ∃ u, (agC a').toArray[14]? = some u ∧ NoB' u := ⟨_, rfl, nb_i64 _⟩
            have ca : w4.cell? ⟨ga, 14, none⟩ = some u := by rw [cell_of_row _ _ _ _ _ _ hga]; exact hu
            have lga := heap_lt hga
            have ST := Lib.hid (setCell_eq_setRow w4 ga 14 _ 35 (0, 0) (.int .i64 N) hga)
            have hfi := H4.out.fill ((agC a').toArray.setIfInBounds 14 (.int .i64 N)) (set_nb hu hun)
            rw [HROW.out] at hfi
            have HFI := Lib.hid hfi
            have hok : (ok && !false) = ok := by cases ok <;> rfl
            have HF3 := HF2.out
            (try simp only at HF3)
            rw [hok] at HF3
            have HF4 := Lib.hid HF3
            clear hga hu HKE r4 k4 HRS hfi HF3 HF2 hok
            go_wp2_with fail
            rw [ST.out, HROW.out]
            go_roundw
            case rel => exact ⟨k + 1, s', ok, is_, a2, by omega, by go_num, rfl, rfl, HFI, HF4, HL2⟩
            case measure => simp only [intOf]; omega
        · as_aux_lemma =>
            have hget : ((((str L)[k]).toNat : Nat) : Int) = 118 := hget
            have KE := rlong_any gr st wo HRS.out.rd
            have HG : Hid (gtA (trA 118) st false a' = ((rdL st).2, false, { a' with verf := (rdL st).1 })) := Lib.hid rfl
            obtain ⟨N, hN⟩ : ∃ N, (rdL st).1 = N := ⟨_, rfl⟩
            obtain ⟨s', hs'⟩ : ∃ s' : St, (rdL st).2 = s' := ⟨_, rfl⟩
            obtain ⟨a2, ha2⟩ : ∃ a2 : AgT, { a' with verf := (rdL st).1 } = a2 := ⟨_, rfl⟩
            have HROW : Hid ((agC a').toArray.setIfInBounds 15 (.int .u64 N) = (agC a2).toArray) := Lib.hid (by rw [← hN, ← ha2]; rfl)
            rw [hs', ha2] at HG
            rw [hN, hs'] at KE
            rw [HG.out] at HF2 HL2
            have HKE := Lib.hid KE
            clear KE hN hs' ha2 HG
            go_wp2_with fail
            refine HKE.out.mono ?_
            rintro e w4 ⟨rfl, r4, k4⟩
            have H4 := Lib.hid (HRS.out.read r4 k4)
            have hga := H4.out.ha
            have fa : w4.frozen? ⟨ga, 15, none⟩ = false := by simp [World.frozen?, hga]
            obtain ⟨u, hu, hun⟩ : ∃ u, (agC a').toArray[15]? = some u ∧ NoB' u := ⟨_, rfl, nb_u64 _⟩
            have ca : w4.cell? ⟨ga, 15, none⟩ = some u := by rw [cell_of_row _ _ _ _ _ _ hga]; exact hu
            have lga := heap_lt hga
            have ST := Lib.hid (setCell_eq_setRow w4 ga 15 _ 35 (0, 0) (.int .u64 N) hga)
            have hfi := H4.out.fill ((agC a').toArray.setIfInBounds 15 (.int .u64 N)) (set_nb hu hun)
            rw [HROW.out] at hfi
            have HFI := Lib.hid hfi
            have hok : (ok && !false) = ok := by cases ok <;> rfl
            have HF3 := HF2.out
            (try simp only at HF3)
            rw [hok] at HF3
            have HF4 := Lib.hid HF3
            clear hga hu HKE r4 k4 HRS hfi HF3 HF2 hok
            go_wp2_with fail
            rw [ST.out, HROW.out]
            go_roundw
            case rel => exact ⟨k + 1, s', ok, is_, a2, by omega, by go_num, rfl, rfl, HFI, HF4, HL2⟩
            case measure => simp only [intOf]; omega
      · obtain rfl : k = L.length := by omega
        have hF := HF.out
        rw [List.drop_length] at hF
        replace hF : (if (ok && doneB st) = true then (a', (0 : Int)) else (ag0, 4)) = R := hF
        have KD := Lib.hid (rdone_any gr st wo HRS.out.rd)
        by_cases hd : (ok && doneB st) = true
        · rw [if_pos hd] at hF
          have hok : ok = true := (Bool.and_eq_true _ _ ▸ hd).1
          have hdn : doneB st = true := (Bool.and_eq_true _ _ ▸ hd).2
          subst hok
          rw [hdn] at KD
          have HL := Lib.hid (ldAg HRS.out.ha)
          have HS := Lib.hid (storeAg (a := a') HRS.out.h4)
          have HFI := Lib.hid (setRow_heap wo g4 _ (agC a').toArray _ _ HRS.out.h4)
          have HB := Lib.hid (below_setRow HRS.out.bel HRS.out.lb.2.2 (agC a').toArray)
          subst hF
          clear HF HRS hd hdn
          go_wp2_with fail
          refine KD.out.mono ?_
          rintro e w5 ⟨rfl, rfl⟩
          go_wp2_with (first | (refine wpList_ld rfl 35 (.tmp 7) rfl HL.out ?_; simp only [Act.put]) | (refine wpList_st rfl 35 (.tmp 4) (.tmp 116) rfl HS.out ?_; simp only [Act.put]))
          (try simp only [Exit.inBlock, Exit.then])
          exact bodyPost_ret (results_ct Try.results29 _ _ _ _ _ _ _ rfl HFI.out Try.underlying35 rfl (by kernel_rfl)) rfl ⟨rfl, by first | exact HB.out | (have t := HB.out; rw [HG4.out] at t; exact t)⟩
        · rw [if_neg hd] at hF
          have HS := Lib.hid (storeAgZ HRS.out.h4)
          have HFI := Lib.hid (setRow_heap wo g4 _ (agC ag0).toArray _ _ HRS.out.h4)
          have HB := Lib.hid (below_setRow HRS.out.bel HRS.out.lb.2.2 (agC ag0).toArray)
          subst hF
          cases ok with
          | false =>
            clear HF HRS hd KD
            go_wp2_with (refine wpList_st rfl 35 (.tmp 4) (.tmp 115) rfl HS.out ?_; simp only [Act.put])
            (try simp only [Exit.inBlock, Exit.then])
            exact bodyPost_ret (results_ct Try.results29 _ _ _ _ _ _ _ rfl HFI.out Try.underlying35 rfl (by kernel_rfl)) rfl ⟨rfl, by first | exact HB.out | (have t := HB.out; rw [HG4.out] at t; exact t)⟩
          | true =>
            have hdn : doneB st = false := by simpa using hd
            rw [hdn] at KD
            clear HF HRS hd hdn
            go_wp2_with fail
            refine KD.out.mono ?_
            rintro e w5 ⟨rfl, rfl⟩
            go_wp2_with (refine wpList_st rfl 35 (.tmp 4) (.tmp 115) rfl HS.out ?_; simp only [Act.put])
            (try simp only [Exit.inBlock, Exit.then])
            exact bodyPost_ret (results_ct Try.results29 _ _ _ _ _ _ _ rfl HFI.out Try.underlying35 rfl (by kernel_rfl)) rfl ⟨rfl, by first | exact HB.out | (have t := HB.out; rw [HG4.out] at t; exact t)⟩
end Go.Proofs.Yteahlnoonmfjhaa
