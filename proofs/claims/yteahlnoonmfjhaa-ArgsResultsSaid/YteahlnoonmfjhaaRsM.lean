/- Results, by the document: the words of an Attr, and an Attr of words. -/
import Derived.Test.YteahlnoonmfjhaaRsH
import Derived.Test.YteahlnoonmfjhaaAfE
set_option linter.unusedVariables false
set_option maxRecDepth 100000
namespace Go.Proofs.Yteahlnoonmfjhaa
open Go.RowKit

theorem atV_lit0 (a : AtT) : (atC a).toArray = #[.int .u8 a.kind, .int .i64 a.mode, .int .i64 a.links, .int .i64 a.size, .int .i64 a.mtime, .int .i64 a.ctime, .int .i64 a.ino, .int .i64 a.gen] := rfl
theorem AtT.Ok.nums {a : AtT} (h : a.Ok) : ∀ n ∈ numsL a, I64 n := by
  intro n hn
  simp only [numsL, List.mem_cons, List.not_mem_nil, or_false] at hn
  rcases hn with rfl | rfl | rfl | rfl | rfl | rfl | rfl
  · exact h.mode
  · exact h.links
  · exact h.size
  · exact h.mtime
  · exact h.ctime
  · exact h.ino
  · exact h.gen
set_option maxHeartbeats 2000000 in
theorem rAttrW_any (v : Value) (l : List UInt8) (a : AtT) (w : World) (hv : RS w v l) (ha : a.Ok) (h : l.length ≤ 400000) :
    Calls Try.prog 88 #[v, .agg (atC a).toArray] w fun e w' => ∃ v', e = .returned v' ∧ OwnZ w' w.heap.size 5 v' (l ++ attrB a) ∧ Below w.heap.size w w' := by
  obtain ⟨A, c, rfl⟩ := hv.form
  have hb1 := heap_alloc_last w (.cells (atC a).toArray 38)
  have hx1 := extAl w (.cells (atC a).toArray 38)
  have HV := Lib.hid (hv.ext hx1)
  have HB1 := Lib.hid hb1
  have HX1 := Lib.hid hx1
  have HNM := Lib.hid ha.nums
  have hk := ha.kind
  obtain ⟨kd, hkd⟩ : ∃ kd, a.kind = kd := ⟨_, rfl⟩
  rw [hkd] at hk
  have HKD := Lib.hid hkd
  have hm : kd % 4294967296 = kd := by omega
  have HH := Lib.hid h
  clear hb1 hx1 hv ha hkd h
  go_enter Try.func88, Try.ntmps88
  go_upto_region 1 with fail
  generalize Value.agg (atC a).toArray = PV
  generalize w.alloc (.cells (atC a).toArray 38) = W1 at *
  obtain ⟨g1, hg1⟩ : ∃ g1, w.heap.size = g1 := ⟨_, rfl⟩
  have HG1 := Lib.hid hg1
  rw [hg1] at HB1 ⊢
  clear hg1
  have c0 : W1.cell? ⟨g1, 0, none⟩ = some (.int .u8 kd) := by rw [cell_of_row _ _ _ _ _ _ HB1.out, ← HKD.out]; rfl
  have gl := heap_lt HB1.out
  have KW := Lib.hid (rWord_any (.slice A l.length c) l kd W1 HV.out (by omega) (by omega) (by have := HH.out; omega))
  go_wp2_with fail
  refine KW.out.mono ?_
  rintro e w2 ⟨v2, rfl, o2, k2⟩
  obtain ⟨b0, hb0⟩ : ∃ b0, l ++ beN kd 4 = b0 := ⟨_, rfl⟩
  have HBL : Hid (b0.length ≤ 400004) := Lib.hid (by rw [← hb0]; have := HH.out; simp [beN_length]; omega)
  have HB0 := Lib.hid hb0
  rw [hb0] at o2
  clear hb0
  have HB2 := Lib.hid (Ext.blk k2 HB1.out)
  have HX2 := Lib.hid (Ext.trans (a := w) HX1.out k2)
  have HO2 : Hid (OwnZ w2 g1 5 v2 b0) := Lib.hid (o2.mono (by omega))
  obtain ⟨A2, c2, rfl⟩ := o2.rs.form
  clear KW HB1 HX1 HV k2 o2 c0 gl
  have d1 : w2.cell? ⟨g1, 1, none⟩ = some (.int .i64 a.mode) := by rw [cell_of_row _ _ _ _ _ _ HB2.out]; rfl
  have d2 : w2.cell? ⟨g1, 2, none⟩ = some (.int .i64 a.links) := by rw [cell_of_row _ _ _ _ _ _ HB2.out]; rfl
  have d3 : w2.cell? ⟨g1, 3, none⟩ = some (.int .i64 a.size) := by rw [cell_of_row _ _ _ _ _ _ HB2.out]; rfl
  have d4 : w2.cell? ⟨g1, 4, none⟩ = some (.int .i64 a.mtime) := by rw [cell_of_row _ _ _ _ _ _ HB2.out]; rfl
  have d5 : w2.cell? ⟨g1, 5, none⟩ = some (.int .i64 a.ctime) := by rw [cell_of_row _ _ _ _ _ _ HB2.out]; rfl
  have d6 : w2.cell? ⟨g1, 6, none⟩ = some (.int .i64 a.ino) := by rw [cell_of_row _ _ _ _ _ _ HB2.out]; rfl
  have d7 : w2.cell? ⟨g1, 7, none⟩ = some (.int .i64 a.gen) := by rw [cell_of_row _ _ _ _ _ _ HB2.out]; rfl
  have gl := heap_lt HB2.out
  have hx3 := extAl w2 (.cells (ics (numsL a)).toArray 3)
  have hg3 := heap_alloc_last w2 (.cells (ics (numsL a)).toArray 3)
  have hw3 : w2.alloc (.cells (ics (numsL a)).toArray 3) = w2.alloc (.cells #[.int .i64 a.mode, .int .i64 a.links, .int .i64 a.size, .int .i64 a.mtime, .int .i64 a.ctime, .int .i64 a.ino, .int .i64 a.gen] 3) := rfl
  have HW3 := Lib.hid hw3
  have HG3 := Lib.hid hg3
  have HX3 := Lib.hid (Ext.trans HX2.out hx3)
  have HO3 := Lib.hid (HO2.out.ext hx3)
  clear hx3 hg3 hw3 HX2 HO2 HB2
  go_upto_region 4 with fail
  rw [← HW3.out]
  clear HW3 d1 d2 d3 d4 d5 d6 d7 gl
  generalize w2.alloc (.cells (ics (numsL a)).toArray 3) = w3 at *
  obtain ⟨gs, hgs⟩ : ∃ gs, w2.heap.size = gs := ⟨_, rfl⟩
  rw [hgs] at HG3 ⊢
  clear hgs
  go_loopw [0, 6] (fun bv iv wr => ∃ (k : Nat) (bs : List UInt8), k ≤ 7 ∧ iv = .int .i64 k ∧ Hid (OwnZ wr g1 5 bv bs) ∧ Hid (wr.heap[gs]? = some (.cells (ics (numsL a)).toArray 3 (0, 0))) ∧ Hid (Below g1 w wr) ∧ Hid (bs = b0 ++ ((numsL a).take k).flatMap intL) ∧ Hid (bs.length ≤ 400004 + k * 8)) (fun _ iv _ => 7 - (intOf iv).toNat)
  case atStart => exact ⟨0, b0, by omega, rfl, HO3, HG3, by rw [← HG1.out]; exact HX3, Lib.hid (by simp), HBL⟩
  case round =>
    obtain ⟨k, bs, hk7, rfl, HO, HG, HX, HBS, HL⟩ := hrel
    clear HO3 HG3 HX3
    obtain ⟨Ab, cb, rfl⟩ := HO.out.rs.form
    by_cases hk : k < 7
    · obtain ⟨N, hN⟩ : ∃ N, (numsL a)[k]? = some N := ⟨_, List.getElem?_eq_getElem (by simp [numsL]; omega)⟩
      have hI := HNM.out N (List.mem_of_getElem? hN)
      have cN : wr.cell? ⟨gs, k, none⟩ = some (.int .i64 N) := by
        rw [cell_of_row _ _ _ _ _ _ HG.out, List.getElem?_toArray]
        simp [ics, hN]
      have gl := heap_lt HG.out
      have KI := Lib.hid (rInt_any (.slice Ab bs.length cb) bs N wr HO.out.rs hI.1 hI.2 (by have := HL.out; omega))
      have HTK : Hid (((numsL a).take (k + 1)).flatMap intL = ((numsL a).take k).flatMap intL ++ intL N) := Lib.hid (by rw [List.take_add_one, hN]; simp)
      clear hN hI
      go_wp2_with fail
      refine KI.out.mono ?_
      rintro e w5 ⟨v5, rfl, o5, k5⟩
      have HO5 : Hid (OwnZ w5 g1 5 v5 (bs ++ intL N)) := Lib.hid (o5.mono (Below.size HX.out |> fun h => by have := HG1.out; omega))
      have HG5 := Lib.hid (Ext.blk k5 HG.out)
      have HX5 := Lib.hid (HX.out.trans (k5.mono (by have h := Below.size HX.out; have := HG1.out; omega)))
      have HBS5 : Hid (bs ++ intL N = b0 ++ ((numsL a).take (k + 1)).flatMap intL) := Lib.hid (by rw [HTK.out, HBS.out, List.append_assoc])
      have HL5 : Hid ((bs ++ intL N).length ≤ 400004 + (k + 1) * 8) := Lib.hid (by have := HL.out; rw [List.length_append, intL_length]; omega)
      clear KI HO HG HX HBS HL o5 k5 cN gl
      go_wp2_with fail
      go_roundw
      case rel => exact ⟨k + 1, _, by omega, by go_num, HO5, HG5, HX5, HBS5, HL5⟩
      case measure => simp only [intOf]; omega
    · obtain rfl : k = 7 := by omega
      have HF : Hid (bs = l ++ attrB a) := Lib.hid (by rw [HBS.out, ← HB0.out, ← HKD.out]; simp [attrB, numsL])
      clear HBS HG
      go_wp2_with fail
      go_ret
      exact ⟨_, rfl, by rw [← HF.out, HG1.out]; exact HO.out, by rw [HG1.out]; exact HX.out⟩
theorem But.row {gr g : Nat} {w w' : World} (h : But gr w w') (hg : w.heap.size ≤ g) (row : Array Value) : But gr w (w'.setRow g row) := ⟨h.os, h.tape, h.output, by have := h.size; simpa [World.setRow] using this, fun i hi hn => (setRow_other w' g i row (by omega)).trans (h.block i hi hn)⟩
def rdAtD (s : St) : St × AtT := (ats (rdW s).2 7, atk (rdW s).2 (min (rdW s).1 99) 7)
set_option maxHeartbeats 4000000 in
theorem rAttrR_any (gr : Nat) (st : St) (w : World) (h : Rd 196 w gr st) :
    Calls Try.prog 91 #[.pointer (some ⟨gr, 0, none⟩)] w fun e w' => e = .returned (.agg (atC (rdAtD st).2).toArray) ∧ (∃ s', SameH (rdAtD st).1 s' ∧ Rd 196 w' gr s') ∧ But gr w w' := by
  have hz := extAl w (.cells #[.int .u8 0, .int .i64 0, .int .i64 0, .int .i64 0, .int .i64 0, .int .i64 0, .int .i64 0, .int .i64 0] 38)
  have hz2 := heap_alloc_last w (.cells #[.int .u8 0, .int .i64 0, .int .i64 0, .int .i64 0, .int .i64 0, .int .i64 0, .int .i64 0, .int .i64 0] 38)
  have h1 := h.ext hz
  have hlt : gr < w.heap.size := h.lt
  have HLT := Lib.hid hlt
  obtain ⟨kw, hkw⟩ : ∃ kw, (rdW st).1 = kw := ⟨_, rfl⟩
  obtain ⟨s1, hs1⟩ : ∃ s1, (rdW st).2 = s1 := ⟨_, rfl⟩
  have HE : Hid (rdAtD st = (ats s1 7, atk s1 (min kw 99) 7)) := Lib.hid (by unfold rdAtD; rw [hkw, hs1])
  have KW := rword_any gr st _ h1
  rw [hkw, hs1] at KW
  have hbd := rdW_bd st
  rw [hkw] at hbd
  have HK := Lib.hid KW
  have HZ := Lib.hid hz2
  have HB : Hid (But gr w (w.alloc (.cells #[.int .u8 0, .int .i64 0, .int .i64 0, .int .i64 0, .int .i64 0, .int .i64 0, .int .i64 0, .int .i64 0] 38))) := Lib.hid (But.of hz)
  clear KW h1 hz2 hz h hlt hkw hs1
  obtain ⟨kd, hkd⟩ : ∃ kd, min kw 99 = kd := ⟨_, rfl⟩
  have hk9 : 0 ≤ kd ∧ kd ≤ 99 := by omega
  have hm8 : kd % 256 = kd := by omega
  have HKD : Hid (0 ≤ kd ∧ kd ≤ 255) := Lib.hid (by omega)
  rw [hkd] at HE
  have HMN : Hid (min kw 99 = kd) := Lib.hid hkd
  go_enter Try.func91, Try.ntmps91
  go_upto_region 1 with fail
  generalize w.alloc (.cells #[.int .u8 0, .int .i64 0, .int .i64 0, .int .i64 0, .int .i64 0, .int .i64 0, .int .i64 0, .int .i64 0] 38) = W1 at *
  obtain ⟨g2, hg2⟩ : ∃ g2, w.heap.size = g2 := ⟨_, rfl⟩
  have HG2 := Lib.hid hg2
  rw [hg2] at HZ ⊢
  clear hg2
  go_wp2_with fail
  refine HK.out.mono ?_
  rintro e w2 ⟨rfl, r2, k2⟩
  have HZ2 := Lib.hid ((k2.block g2 (heap_lt HZ.out) (by have := HLT.out; have := HG2.out; simp; omega)).trans HZ.out)
  have HB2 := Lib.hid (HB.out.trans k2)
  have HR2 := Lib.hid r2
  clear HK HZ HB r2 k2
  have hx4 := extAl w2 (.cells (atC (atk s1 kd 0)).toArray 38)
  have hw4 : w2.alloc (.cells (atC (atk s1 kd 0)).toArray 38) = w2.alloc (.cells #[.int .u8 kd, .int .i64 0, .int .i64 0, .int .i64 0, .int .i64 0, .int .i64 0, .int .i64 0, .int .i64 0] 38) := rfl
  have HW4 := Lib.hid hw4
  have HA4 := Lib.hid (heap_alloc_last w2 (.cells (atC (atk s1 kd 0)).toArray 38))
  have HR := Lib.hid (HR2.out.ext hx4)
  have HZ := Lib.hid (Ext.blk hx4 HZ2.out)
  have HB := Lib.hid (HB2.out.trans (But.of hx4))
  have HNE : Hid (gr < g2 ∧ g2 < w2.heap.size ∧ w.heap.size ≤ g2) := Lib.hid (by have h1 := HLT.out; have h2 := heap_lt HZ2.out; have h3 := HG2.out; omega)
  clear hx4 hw4 HR2 HZ2 HB2 HLT
  go_upto_region 2 with fail
  have hmn : (if (99 : Int) < kw then 99 else kw) = kd := by rw [← hkd]; split <;> omega
  rw [hmn]
  clear hmn hkd hk9 hbd
  go_upto_region 3 with fail
  rw [← HW4.out]
  clear HW4
  generalize w2.alloc (.cells (atC (atk s1 kd 0)).toArray 38) = w30 at *
  obtain ⟨g4, hg4⟩ : ∃ g4, w2.heap.size = g4 := ⟨_, rfl⟩
  rw [hg4] at HA4 HNE ⊢
  have HA := HA4
  clear hg4 HA4 hm8
  have KI := rint_any gr (ats s1 0) w30 HR.out
  obtain ⟨N, hN⟩ : ∃ N, wrap64 (rdL (ats s1 0)).1 = N := ⟨_, rfl⟩
  rw [hN] at KI
  have HKI := Lib.hid KI
  have HNN : Hid (atn s1 0 = N) := Lib.hid hN
  clear KI hN
  go_wp2_with fail
  refine HKI.out.mono ?_
  rintro e w6 ⟨rfl, r6, k6⟩
  have HA6 := Lib.hid ((k6.block g4 (heap_lt HA.out) (by have := HNE.out; simp; omega)).trans HA.out)
  have HZ6 := Lib.hid ((k6.block g2 (heap_lt HZ.out) (by have := HNE.out; simp; omega)).trans HZ.out)
  have g4l := heap_lt HA6.out
  have f4 : w6.frozen? ⟨g4, 1, none⟩ = false := by have := HA6.out; simp [World.frozen?, this]
  have c4 : w6.cell? ⟨g4, 1, none⟩ = some (.int .i64 0) := by rw [cell_of_row _ _ _ _ _ _ HA6.out]; rfl
  have HS := Lib.hid (setCell_eq_setRow w6 g4 1 _ 38 (0, 0) (.int .i64 N) HA6.out)
  have HROW : Hid ((atC (atk s1 kd 0)).toArray.setIfInBounds 1 (.int .i64 N) = (atC (atk s1 kd 1)).toArray) := Lib.hid (by rw [← HNN.out]; rfl)
  have HR7 := Lib.hid (r6.setNB (row' := (atC (atk s1 kd 1)).toArray) (by have := HNE.out; omega) HA6.out (by rw [← HROW.out]; exact at_nb _ _ _ _ _ _ _ _ 1 _ (by omega)))
  have HB7 := Lib.hid ((HB.out.trans k6).row (g := g4) (by have := HNE.out; omega) (atC (atk s1 kd 1)).toArray)
  have HA7 := Lib.hid (setRow_heap w6 g4 _ (atC (atk s1 kd 1)).toArray _ _ HA6.out)
  have HZ7 := Lib.hid ((setRow_other w6 g4 g2 (atC (atk s1 kd 1)).toArray (by have := HNE.out; omega)).trans HZ6.out)
  clear HR HA HZ HB HA6 HZ6 r6 k6 HKI
  go_upto_region 4 with fail
  rw [HS.out, HROW.out]
  clear HS HROW f4 c4 g4l HNN
  generalize w6.setRow g4 (atC (atk s1 kd 1)).toArray = w31 at *
  have HR := HR7
  have HB := HB7
  have HA := HA7
  have HZ := HZ7
  clear HR7 HB7 HA7 HZ7
  have KI := rint_any gr (ats s1 1) w31 HR.out
  obtain ⟨N, hN⟩ : ∃ N, wrap64 (rdL (ats s1 1)).1 = N := ⟨_, rfl⟩
  rw [hN] at KI
  have HKI := Lib.hid KI
  have HNN : Hid (atn s1 1 = N) := Lib.hid hN
  clear KI hN
  go_wp2_with fail
  refine HKI.out.mono ?_
  rintro e w6 ⟨rfl, r6, k6⟩
  have HA6 := Lib.hid ((k6.block g4 (heap_lt HA.out) (by have := HNE.out; simp; omega)).trans HA.out)
  have HZ6 := Lib.hid ((k6.block g2 (heap_lt HZ.out) (by have := HNE.out; simp; omega)).trans HZ.out)
  have g4l := heap_lt HA6.out
  have f4 : w6.frozen? ⟨g4, 2, none⟩ = false := by have := HA6.out; simp [World.frozen?, this]
  have c4 : w6.cell? ⟨g4, 2, none⟩ = some (.int .i64 0) := by rw [cell_of_row _ _ _ _ _ _ HA6.out]; rfl
  have HS := Lib.hid (setCell_eq_setRow w6 g4 2 _ 38 (0, 0) (.int .i64 N) HA6.out)
  have HROW : Hid ((atC (atk s1 kd 1)).toArray.setIfInBounds 2 (.int .i64 N) = (atC (atk s1 kd 2)).toArray) := Lib.hid (by rw [← HNN.out]; rfl)
  have HR7 := Lib.hid (r6.setNB (row' := (atC (atk s1 kd 2)).toArray) (by have := HNE.out; omega) HA6.out (by rw [← HROW.out]; exact at_nb _ _ _ _ _ _ _ _ 2 _ (by omega)))
  have HB7 := Lib.hid ((HB.out.trans k6).row (g := g4) (by have := HNE.out; omega) (atC (atk s1 kd 2)).toArray)
  have HA7 := Lib.hid (setRow_heap w6 g4 _ (atC (atk s1 kd 2)).toArray _ _ HA6.out)
  have HZ7 := Lib.hid ((setRow_other w6 g4 g2 (atC (atk s1 kd 2)).toArray (by have := HNE.out; omega)).trans HZ6.out)
  clear HR HA HZ HB HA6 HZ6 r6 k6 HKI
  go_upto_region 5 with fail
  rw [HS.out, HROW.out]
  clear HS HROW f4 c4 g4l HNN
  generalize w6.setRow g4 (atC (atk s1 kd 2)).toArray = w32 at *
  have HR := HR7
  have HB := HB7
  have HA := HA7
  have HZ := HZ7
  clear HR7 HB7 HA7 HZ7
  have KI := rint_any gr (ats s1 2) w32 HR.out
  obtain ⟨N, hN⟩ : ∃ N, wrap64 (rdL (ats s1 2)).1 = N := ⟨_, rfl⟩
  rw [hN] at KI
  have HKI := Lib.hid KI
  have HNN : Hid (atn s1 2 = N) := Lib.hid hN
  clear KI hN
  go_wp2_with fail
  refine HKI.out.mono ?_
  rintro e w6 ⟨rfl, r6, k6⟩
  have HA6 := Lib.hid ((k6.block g4 (heap_lt HA.out) (by have := HNE.out; simp; omega)).trans HA.out)
  have HZ6 := Lib.hid ((k6.block g2 (heap_lt HZ.out) (by have := HNE.out; simp; omega)).trans HZ.out)
  have g4l := heap_lt HA6.out
  have f4 : w6.frozen? ⟨g4, 3, none⟩ = false := by have := HA6.out; simp [World.frozen?, this]
  have c4 : w6.cell? ⟨g4, 3, none⟩ = some (.int .i64 0) := by rw [cell_of_row _ _ _ _ _ _ HA6.out]; rfl
  have HS := Lib.hid (setCell_eq_setRow w6 g4 3 _ 38 (0, 0) (.int .i64 N) HA6.out)
  have HROW : Hid ((atC (atk s1 kd 2)).toArray.setIfInBounds 3 (.int .i64 N) = (atC (atk s1 kd 3)).toArray) := Lib.hid (by rw [← HNN.out]; rfl)
  have HR7 := Lib.hid (r6.setNB (row' := (atC (atk s1 kd 3)).toArray) (by have := HNE.out; omega) HA6.out (by rw [← HROW.out]; exact at_nb _ _ _ _ _ _ _ _ 3 _ (by omega)))
  have HB7 := Lib.hid ((HB.out.trans k6).row (g := g4) (by have := HNE.out; omega) (atC (atk s1 kd 3)).toArray)
  have HA7 := Lib.hid (setRow_heap w6 g4 _ (atC (atk s1 kd 3)).toArray _ _ HA6.out)
  have HZ7 := Lib.hid ((setRow_other w6 g4 g2 (atC (atk s1 kd 3)).toArray (by have := HNE.out; omega)).trans HZ6.out)
  clear HR HA HZ HB HA6 HZ6 r6 k6 HKI
  go_upto_region 6 with fail
  rw [HS.out, HROW.out]
  clear HS HROW f4 c4 g4l HNN
  generalize w6.setRow g4 (atC (atk s1 kd 3)).toArray = w33 at *
  have HR := HR7
  have HB := HB7
  have HA := HA7
  have HZ := HZ7
  clear HR7 HB7 HA7 HZ7
  have KI := rint_any gr (ats s1 3) w33 HR.out
  obtain ⟨N, hN⟩ : ∃ N, wrap64 (rdL (ats s1 3)).1 = N := ⟨_, rfl⟩
  rw [hN] at KI
  have HKI := Lib.hid KI
  have HNN : Hid (atn s1 3 = N) := Lib.hid hN
  clear KI hN
  go_wp2_with fail
  refine HKI.out.mono ?_
  rintro e w6 ⟨rfl, r6, k6⟩
  have HA6 := Lib.hid ((k6.block g4 (heap_lt HA.out) (by have := HNE.out; simp; omega)).trans HA.out)
  have HZ6 := Lib.hid ((k6.block g2 (heap_lt HZ.out) (by have := HNE.out; simp; omega)).trans HZ.out)
  have g4l := heap_lt HA6.out
  have f4 : w6.frozen? ⟨g4, 4, none⟩ = false := by have := HA6.out; simp [World.frozen?, this]
  have c4 : w6.cell? ⟨g4, 4, none⟩ = some (.int .i64 0) := by rw [cell_of_row _ _ _ _ _ _ HA6.out]; rfl
  have HS := Lib.hid (setCell_eq_setRow w6 g4 4 _ 38 (0, 0) (.int .i64 N) HA6.out)
  have HROW : Hid ((atC (atk s1 kd 3)).toArray.setIfInBounds 4 (.int .i64 N) = (atC (atk s1 kd 4)).toArray) := Lib.hid (by rw [← HNN.out]; rfl)
  have HR7 := Lib.hid (r6.setNB (row' := (atC (atk s1 kd 4)).toArray) (by have := HNE.out; omega) HA6.out (by rw [← HROW.out]; exact at_nb _ _ _ _ _ _ _ _ 4 _ (by omega)))
  have HB7 := Lib.hid ((HB.out.trans k6).row (g := g4) (by have := HNE.out; omega) (atC (atk s1 kd 4)).toArray)
  have HA7 := Lib.hid (setRow_heap w6 g4 _ (atC (atk s1 kd 4)).toArray _ _ HA6.out)
  have HZ7 := Lib.hid ((setRow_other w6 g4 g2 (atC (atk s1 kd 4)).toArray (by have := HNE.out; omega)).trans HZ6.out)
  clear HR HA HZ HB HA6 HZ6 r6 k6 HKI
  go_upto_region 7 with fail
  rw [HS.out, HROW.out]
  clear HS HROW f4 c4 g4l HNN
  generalize w6.setRow g4 (atC (atk s1 kd 4)).toArray = w34 at *
  have HR := HR7
  have HB := HB7
  have HA := HA7
  have HZ := HZ7
  clear HR7 HB7 HA7 HZ7
  have KI := rint_any gr (ats s1 4) w34 HR.out
  obtain ⟨N, hN⟩ : ∃ N, wrap64 (rdL (ats s1 4)).1 = N := ⟨_, rfl⟩
  rw [hN] at KI
  have HKI := Lib.hid KI
  have HNN : Hid (atn s1 4 = N) := Lib.hid hN
  clear KI hN
  go_wp2_with fail
  refine HKI.out.mono ?_
  rintro e w6 ⟨rfl, r6, k6⟩
  have HA6 := Lib.hid ((k6.block g4 (heap_lt HA.out) (by have := HNE.out; simp; omega)).trans HA.out)
  have HZ6 := Lib.hid ((k6.block g2 (heap_lt HZ.out) (by have := HNE.out; simp; omega)).trans HZ.out)
  have g4l := heap_lt HA6.out
  have f4 : w6.frozen? ⟨g4, 5, none⟩ = false := by have := HA6.out; simp [World.frozen?, this]
  have c4 : w6.cell? ⟨g4, 5, none⟩ = some (.int .i64 0) := by rw [cell_of_row _ _ _ _ _ _ HA6.out]; rfl
  have HS := Lib.hid (setCell_eq_setRow w6 g4 5 _ 38 (0, 0) (.int .i64 N) HA6.out)
  have HROW : Hid ((atC (atk s1 kd 4)).toArray.setIfInBounds 5 (.int .i64 N) = (atC (atk s1 kd 5)).toArray) := Lib.hid (by rw [← HNN.out]; rfl)
  have HR7 := Lib.hid (r6.setNB (row' := (atC (atk s1 kd 5)).toArray) (by have := HNE.out; omega) HA6.out (by rw [← HROW.out]; exact at_nb _ _ _ _ _ _ _ _ 5 _ (by omega)))
  have HB7 := Lib.hid ((HB.out.trans k6).row (g := g4) (by have := HNE.out; omega) (atC (atk s1 kd 5)).toArray)
  have HA7 := Lib.hid (setRow_heap w6 g4 _ (atC (atk s1 kd 5)).toArray _ _ HA6.out)
  have HZ7 := Lib.hid ((setRow_other w6 g4 g2 (atC (atk s1 kd 5)).toArray (by have := HNE.out; omega)).trans HZ6.out)
  clear HR HA HZ HB HA6 HZ6 r6 k6 HKI
  go_upto_region 8 with fail
  rw [HS.out, HROW.out]
  clear HS HROW f4 c4 g4l HNN
  generalize w6.setRow g4 (atC (atk s1 kd 5)).toArray = w35 at *
  have HR := HR7
  have HB := HB7
  have HA := HA7
  have HZ := HZ7
  clear HR7 HB7 HA7 HZ7
  have KI := rint_any gr (ats s1 5) w35 HR.out
  obtain ⟨N, hN⟩ : ∃ N, wrap64 (rdL (ats s1 5)).1 = N := ⟨_, rfl⟩
  rw [hN] at KI
  have HKI := Lib.hid KI
  have HNN : Hid (atn s1 5 = N) := Lib.hid hN
  clear KI hN
  go_wp2_with fail
  refine HKI.out.mono ?_
  rintro e w6 ⟨rfl, r6, k6⟩
  have HA6 := Lib.hid ((k6.block g4 (heap_lt HA.out) (by have := HNE.out; simp; omega)).trans HA.out)
  have HZ6 := Lib.hid ((k6.block g2 (heap_lt HZ.out) (by have := HNE.out; simp; omega)).trans HZ.out)
  have g4l := heap_lt HA6.out
  have f4 : w6.frozen? ⟨g4, 6, none⟩ = false := by have := HA6.out; simp [World.frozen?, this]
  have c4 : w6.cell? ⟨g4, 6, none⟩ = some (.int .i64 0) := by rw [cell_of_row _ _ _ _ _ _ HA6.out]; rfl
  have HS := Lib.hid (setCell_eq_setRow w6 g4 6 _ 38 (0, 0) (.int .i64 N) HA6.out)
  have HROW : Hid ((atC (atk s1 kd 5)).toArray.setIfInBounds 6 (.int .i64 N) = (atC (atk s1 kd 6)).toArray) := Lib.hid (by rw [← HNN.out]; rfl)
  have HR7 := Lib.hid (r6.setNB (row' := (atC (atk s1 kd 6)).toArray) (by have := HNE.out; omega) HA6.out (by rw [← HROW.out]; exact at_nb _ _ _ _ _ _ _ _ 6 _ (by omega)))
  have HB7 := Lib.hid ((HB.out.trans k6).row (g := g4) (by have := HNE.out; omega) (atC (atk s1 kd 6)).toArray)
  have HA7 := Lib.hid (setRow_heap w6 g4 _ (atC (atk s1 kd 6)).toArray _ _ HA6.out)
  have HZ7 := Lib.hid ((setRow_other w6 g4 g2 (atC (atk s1 kd 6)).toArray (by have := HNE.out; omega)).trans HZ6.out)
  clear HR HA HZ HB HA6 HZ6 r6 k6 HKI
  go_upto_region 9 with fail
  rw [HS.out, HROW.out]
  clear HS HROW f4 c4 g4l HNN
  generalize w6.setRow g4 (atC (atk s1 kd 6)).toArray = w36 at *
  have HR := HR7
  have HB := HB7
  have HA := HA7
  have HZ := HZ7
  clear HR7 HB7 HA7 HZ7
  have KI := rint_any gr (ats s1 6) w36 HR.out
  obtain ⟨N, hN⟩ : ∃ N, wrap64 (rdL (ats s1 6)).1 = N := ⟨_, rfl⟩
  rw [hN] at KI
  have HKI := Lib.hid KI
  have HNN : Hid (atn s1 6 = N) := Lib.hid hN
  clear KI hN
  go_wp2_with fail
  refine HKI.out.mono ?_
  rintro e w6 ⟨rfl, r6, k6⟩
  have HA6 := Lib.hid ((k6.block g4 (heap_lt HA.out) (by have := HNE.out; simp; omega)).trans HA.out)
  have HZ6 := Lib.hid ((k6.block g2 (heap_lt HZ.out) (by have := HNE.out; simp; omega)).trans HZ.out)
  have g4l := heap_lt HA6.out
  have f4 : w6.frozen? ⟨g4, 7, none⟩ = false := by have := HA6.out; simp [World.frozen?, this]
  have c4 : w6.cell? ⟨g4, 7, none⟩ = some (.int .i64 0) := by rw [cell_of_row _ _ _ _ _ _ HA6.out]; rfl
  have HS := Lib.hid (setCell_eq_setRow w6 g4 7 _ 38 (0, 0) (.int .i64 N) HA6.out)
  have HROW : Hid ((atC (atk s1 kd 6)).toArray.setIfInBounds 7 (.int .i64 N) = (atC (atk s1 kd 7)).toArray) := Lib.hid (by rw [← HNN.out]; rfl)
  have HR7 := Lib.hid (r6.setNB (row' := (atC (atk s1 kd 7)).toArray) (by have := HNE.out; omega) HA6.out (by rw [← HROW.out]; exact at_nb _ _ _ _ _ _ _ _ 7 _ (by omega)))
  have HB7 := Lib.hid ((HB.out.trans k6).row (g := g4) (by have := HNE.out; omega) (atC (atk s1 kd 7)).toArray)
  have HA7 := Lib.hid (setRow_heap w6 g4 _ (atC (atk s1 kd 7)).toArray _ _ HA6.out)
  have HZ7 := Lib.hid ((setRow_other w6 g4 g2 (atC (atk s1 kd 7)).toArray (by have := HNE.out; omega)).trans HZ6.out)
  clear HR HA HZ HB HA6 HZ6 r6 k6 HKI
  go_upto_region 10 with fail
  rw [HS.out, HROW.out]
  clear HS HROW f4 c4 g4l HNN
  generalize w6.setRow g4 (atC (atk s1 kd 7)).toArray = wr at *
  have HR := HR7
  have HB := HB7
  have HA := HA7
  have HZ := HZ7
  clear HR7 HB7 HA7 HZ7
  have ga4 := HA.out
  have d0 : wr.cell? ⟨g4, 0, none⟩ = some (.int .u8 kd) := by rw [cell_of_row _ _ _ _ _ _ ga4]; rfl
  have d1 : wr.cell? ⟨g4, 1, none⟩ = some (.int .i64 (atk s1 kd 7).mode) := by rw [cell_of_row _ _ _ _ _ _ ga4]; rfl
  have d2 : wr.cell? ⟨g4, 2, none⟩ = some (.int .i64 (atk s1 kd 7).links) := by rw [cell_of_row _ _ _ _ _ _ ga4]; rfl
  have d3 : wr.cell? ⟨g4, 3, none⟩ = some (.int .i64 (atk s1 kd 7).size) := by rw [cell_of_row _ _ _ _ _ _ ga4]; rfl
  have d4 : wr.cell? ⟨g4, 4, none⟩ = some (.int .i64 (atk s1 kd 7).mtime) := by rw [cell_of_row _ _ _ _ _ _ ga4]; rfl
  have d5 : wr.cell? ⟨g4, 5, none⟩ = some (.int .i64 (atk s1 kd 7).ctime) := by rw [cell_of_row _ _ _ _ _ _ ga4]; rfl
  have d6 : wr.cell? ⟨g4, 6, none⟩ = some (.int .i64 (atk s1 kd 7).ino) := by rw [cell_of_row _ _ _ _ _ _ ga4]; rfl
  have d7 : wr.cell? ⟨g4, 7, none⟩ = some (.int .i64 (atk s1 kd 7).gen) := by rw [cell_of_row _ _ _ _ _ _ ga4]; rfl
  have g4l := heap_lt ga4
  have gzl := heap_lt HZ.out
  have fz : ∀ o, wr.frozen? ⟨g2, o, none⟩ = false := fun o => by have := HZ.out; simp [World.frozen?, this]
  have c0 : wr.cell? ⟨g2, 0, none⟩ = some (.int .u8 0) := by rw [cell_of_row _ _ _ _ _ _ HZ.out]; rfl
  have c1 : wr.cell? ⟨g2, 1, none⟩ = some (.int .i64 0) := by rw [cell_of_row _ _ _ _ _ _ HZ.out]; rfl
  have c2 : wr.cell? ⟨g2, 2, none⟩ = some (.int .i64 0) := by rw [cell_of_row _ _ _ _ _ _ HZ.out]; rfl
  have c3 : wr.cell? ⟨g2, 3, none⟩ = some (.int .i64 0) := by rw [cell_of_row _ _ _ _ _ _ HZ.out]; rfl
  have c4 : wr.cell? ⟨g2, 4, none⟩ = some (.int .i64 0) := by rw [cell_of_row _ _ _ _ _ _ HZ.out]; rfl
  have c5 : wr.cell? ⟨g2, 5, none⟩ = some (.int .i64 0) := by rw [cell_of_row _ _ _ _ _ _ HZ.out]; rfl
  have c6 : wr.cell? ⟨g2, 6, none⟩ = some (.int .i64 0) := by rw [cell_of_row _ _ _ _ _ _ HZ.out]; rfl
  have c7 : wr.cell? ⟨g2, 7, none⟩ = some (.int .i64 0) := by rw [cell_of_row _ _ _ _ _ _ HZ.out]; rfl
  have S8 := setC8 (o := 0) (x0 := .int .u8 kd) (x1 := .int .i64 (atk s1 kd 7).mode) (x2 := .int .i64 (atk s1 kd 7).links) (x3 := .int .i64 (atk s1 kd 7).size) (x4 := .int .i64 (atk s1 kd 7).mtime) (x5 := .int .i64 (atk s1 kd 7).ctime) (x6 := .int .i64 (atk s1 kd 7).ino) (x7 := .int .i64 (atk s1 kd 7).gen) HZ.out
  simp only [Nat.zero_add] at S8
  have HS8 := Lib.hid S8
  have hb := HR.out.setB (row' := (atC (atk s1 kd 7)).toArray) (by have := HNE.out; omega) HZ.out (fun j => by
    match j with
    | 0 => exact .inr (.inr (by obtain ⟨x, hx⟩ := kind_bv (n := kd) HKD.out; exact ⟨x, by rw [← hx]; rfl⟩))
    | 1 => exact .inr (.inl ⟨_, rfl, nb_i64 _⟩)
    | 2 => exact .inr (.inl ⟨_, rfl, nb_i64 _⟩)
    | 3 => exact .inr (.inl ⟨_, rfl, nb_i64 _⟩)
    | 4 => exact .inr (.inl ⟨_, rfl, nb_i64 _⟩)
    | 5 => exact .inr (.inl ⟨_, rfl, nb_i64 _⟩)
    | 6 => exact .inr (.inl ⟨_, rfl, nb_i64 _⟩)
    | 7 => exact .inr (.inl ⟨_, rfl, nb_i64 _⟩)
    | j + 8 => exact .inl rfl)
  have HFB := Lib.hid hb
  have HG := Lib.hid (setRow_heap wr g2 _ (atC (atk s1 kd 7)).toArray _ _ HZ.out)
  have HBF := Lib.hid (HB.out.row (g := g2) HNE.out.2.2 (atC (atk s1 kd 7)).toArray)
  clear S8 hb ga4 HR HA HB
  go_wp2_with fail
  rw [HS8.out]
  (try simp only [Exit.inBlock, Exit.then])
  refine bodyPost_ret (v := .agg (atC (atk s1 kd 7)).toArray) (results_cell_row Try.results91 _ _ _ _ _ _ _ rfl HG.out Try.underlying38 rfl (by kernel_rfl)) rfl ?_
  rw [HE.out]
  exact ⟨rfl, HFB.out, HBF.out⟩
end Go.Proofs.Yteahlnoonmfjhaa
