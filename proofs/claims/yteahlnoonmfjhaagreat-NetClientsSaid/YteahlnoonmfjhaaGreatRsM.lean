/- Results, by the document: the words of an Attr, and an Attr of words. -/
import Derived.Test.YteahlnoonmfjhaaGreatRsH
import Derived.Test.YteahlnoonmfjhaaGreatAfE
set_option linter.unusedVariables false
set_option maxRecDepth 100000
namespace Go.Proofs.YteahlnoonmfjhaaGreat
open Go.RowKit

theorem atV_lit0 (a : AtT) : (atC a).toArray = #[.int .u8 a.kind, .int .i64 a.mode, .int .i64 a.links, .int .i64 a.size, .int .i64 a.mtime, .int .i64 a.ctime, .int .i64 a.ino, .int .i64 a.gen] := rfl
theorem AtT.Ok.nums {a : AtT} (h : a.Ok) : ∀ n ∈ numsL a, I64 n := by
  intro n hn
  simp only [numsL, List.mem_cons, List.not_mem_nil, or_false] at hn
  rcases hn with rfl | rfl | rfl | rfl | rfl | rfl | rfl
  · exact h.mode
  · exact h.links
  · exact h.size
  · exact h.mtime
  · exact h.ctime
  · exact h.ino
  · exact h.gen
theorem But.row {gr g : Nat} {w w' : World} (h : But gr w w') (hg : w.heap.size ≤ g) (row : Array Value) : But gr w (w'.setRow g row) := ⟨h.os, h.tape, h.output, by have := h.size; simpa [World.setRow] using this, fun i hi hn => (setRow_other w' g i row (by omega)).trans (h.block i hi hn)⟩
def rdAtD (s : St) : St × AtT := (ats (rdW s).2 7, atk (rdW s).2 (min (rdW s).1 99) 7)
set_option maxHeartbeats 4000000 in
theorem rAttrR_any (gr : Nat) (st : St) (w : World) (h : Rd 177 w gr st) :
    Calls Tryz.prog 76 #[.pointer (some ⟨gr, 0, none⟩)] w fun e w' => e = .returned (.agg (atC (rdAtD st).2).toArray) ∧ (∃ s', SameH (rdAtD st).1 s' ∧ Rd 177 w' gr s') ∧ But gr w w' := by
  have hz := extAl w (.cells #[.int .u8 0, .int .i64 0, .int .i64 0, .int .i64 0, .int .i64 0, .int .i64 0, .int .i64 0, .int .i64 0] 57)
  have hz2 := heap_alloc_last w (.cells #[.int .u8 0, .int .i64 0, .int .i64 0, .int .i64 0, .int .i64 0, .int .i64 0, .int .i64 0, .int .i64 0] 57)
  have h1 := h.ext hz
  have hlt : gr < w.heap.size := h.lt
  have HLT := Lib.hid hlt
  obtain ⟨kw, hkw⟩ : ∃ kw, (rdW st).1 = kw := ⟨_, rfl⟩
  obtain ⟨s1, hs1⟩ : ∃ s1, (rdW st).2 = s1 := ⟨_, rfl⟩
  have HE : Hid (rdAtD st = (ats s1 7, atk s1 (min kw 99) 7)) := Lib.hid (by unfold rdAtD; rw [hkw, hs1])
  have KW := rword_any gr st _ h1
  rw [hkw, hs1] at KW
  have hbd := rdW_bd st
  rw [hkw] at hbd
  have HK := Lib.hid KW
  have HZ := Lib.hid hz2
  have HB : Hid (But gr w (w.alloc (.cells #[.int .u8 0, .int .i64 0, .int .i64 0, .int .i64 0, .int .i64 0, .int .i64 0, .int .i64 0, .int .i64 0] 57))) := Lib.hid (But.of hz)
  clear KW h1 hz2 hz h hlt hkw hs1
  obtain ⟨kd, hkd⟩ : ∃ kd, min kw 99 = kd := ⟨_, rfl⟩
  have hk9 : 0 ≤ kd ∧ kd ≤ 99 := by omega
  have hm8 : kd % 256 = kd := by omega
  have HKD : Hid (0 ≤ kd ∧ kd ≤ 255) := Lib.hid (by omega)
  rw [hkd] at HE
  have HMN : Hid (min kw 99 = kd) := Lib.hid hkd
  go_enter Tryz.func76, Tryz.ntmps76
  go_upto_region 1 with fail
  generalize w.alloc (.cells #[.int .u8 0, .int .i64 0, .int .i64 0, .int .i64 0, .int .i64 0, .int .i64 0, .int .i64 0, .int .i64 0] 57) = W1 at *
  obtain ⟨g2, hg2⟩ : ∃ g2, w.heap.size = g2 := ⟨_, rfl⟩
  have HG2 := Lib.hid hg2
  rw [hg2] at HZ ⊢
  clear hg2
  go_wp2_with fail
  refine HK.out.mono ?_
  rintro e w2 ⟨rfl, r2, k2⟩
  have HZ2 := Lib.hid ((k2.block g2 (heap_lt HZ.out) (by have := HLT.out; have := HG2.out; simp; omega)).trans HZ.out)
  have HB2 := Lib.hid (HB.out.trans k2)
  have HR2 := Lib.hid r2
  clear HK HZ HB r2 k2
  have hx4 := extAl w2 (.cells (atC (atk s1 kd 0)).toArray 57)
  have hw4 : w2.alloc (.cells (atC (atk s1 kd 0)).toArray 57) = w2.alloc (.cells #[.int .u8 kd, .int .i64 0, .int .i64 0, .int .i64 0, .int .i64 0, .int .i64 0, .int .i64 0, .int .i64 0] 57) := rfl
  have HW4 := Lib.hid hw4
  have HA4 := Lib.hid (heap_alloc_last w2 (.cells (atC (atk s1 kd 0)).toArray 57))
  have HR := Lib.hid (HR2.out.ext hx4)
  have HZ := Lib.hid (Ext.blk hx4 HZ2.out)
  have HB := Lib.hid (HB2.out.trans (But.of hx4))
  have HNE : Hid (gr < g2 ∧ g2 < w2.heap.size ∧ w.heap.size ≤ g2) := Lib.hid (by have h1 := HLT.out; have h2 := heap_lt HZ2.out; have h3 := HG2.out; omega)
  clear hx4 hw4 HR2 HZ2 HB2 HLT
  go_upto_region 2 with fail
  have hmn : (if (99 : Int) < kw then 99 else kw) = kd := by rw [← hkd]; split <;> omega
  rw [hmn]
  clear hmn hkd hk9 hbd
  go_upto_region 3 with fail
  rw [← HW4.out]
  clear HW4
  generalize w2.alloc (.cells (atC (atk s1 kd 0)).toArray 57) = w30 at *
  obtain ⟨g4, hg4⟩ : ∃ g4, w2.heap.size = g4 := ⟨_, rfl⟩
  rw [hg4] at HA4 HNE ⊢
  have HA := HA4
  clear hg4 HA4 hm8
  have KI := rint_any gr (ats s1 0) w30 HR.out
  obtain ⟨N, hN⟩ : ∃ N, wrap64 (rdL (ats s1 0)).1 = N := ⟨_, rfl⟩
  rw [hN] at KI
  have HKI := Lib.hid KI
  have HNN : Hid (atn s1 0 = N) := Lib.hid hN
  clear KI hN
  go_wp2_with fail
  refine HKI.out.mono ?_
  rintro e w6 ⟨rfl, r6, k6⟩
  have HA6 := Lib.hid ((k6.block g4 (heap_lt HA.out) (by have := HNE.out; simp; omega)).trans HA.out)
  have HZ6 := Lib.hid ((k6.block g2 (heap_lt HZ.out) (by have := HNE.out; simp; omega)).trans HZ.out)
  have g4l := heap_lt HA6.out
  have f4 : w6.frozen? ⟨g4, 1, none⟩ = false := by have := HA6.out; simp [World.frozen?, this]
  have c4 : w6.cell? ⟨g4, 1, none⟩ = some (.int .i64 0) := by rw [cell_of_row _ _ _ _ _ _ HA6.out]; rfl
  have HS := Lib.hid (setCell_eq_setRow w6 g4 1 _ 57 (0, 0) (.int .i64 N) HA6.out)
  have HROW : Hid ((atC (atk s1 kd 0)).toArray.setIfInBounds 1 (.int .i64 N) = (atC (atk s1 kd 1)).toArray) := Lib.hid (by rw [← HNN.out]; rfl)
  have HR7 := Lib.hid (r6.setNB (row' := (atC (atk s1 kd 1)).toArray) (by have := HNE.out; omega) HA6.out (by rw [← HROW.out]; exact at_nb _ _ _ _ _ _ _ _ 1 _ (by omega)))
  have HB7 := Lib.hid ((HB.out.trans k6).row (g := g4) (by have := HNE.out; omega) (atC (atk s1 kd 1)).toArray)
  have HA7 := Lib.hid (setRow_heap w6 g4 _ (atC (atk s1 kd 1)).toArray _ _ HA6.out)
  have HZ7 := Lib.hid ((setRow_other w6 g4 g2 (atC (atk s1 kd 1)).toArray (by have := HNE.out; omega)).trans HZ6.out)
  clear HR HA HZ HB HA6 HZ6 r6 k6 HKI
  go_upto_region 4 with fail
  rw [HS.out, HROW.out]
  clear HS HROW f4 c4 g4l HNN
  generalize w6.setRow g4 (atC (atk s1 kd 1)).toArray = w31 at *
  have HR := HR7
  have HB := HB7
  have HA := HA7
  have HZ := HZ7
  clear HR7 HB7 HA7 HZ7
  have KI := rint_any gr (ats s1 1) w31 HR.out
  obtain ⟨N, hN⟩ : ∃ N, wrap64 (rdL (ats s1 1)).1 = N := ⟨_, rfl⟩
  rw [hN] at KI
  have HKI := Lib.hid KI
  have HNN : Hid (atn s1 1 = N) := Lib.hid hN
  clear KI hN
  go_wp2_with fail
  refine HKI.out.mono ?_
  rintro e w6 ⟨rfl, r6, k6⟩
  have HA6 := Lib.hid ((k6.block g4 (heap_lt HA.out) (by have := HNE.out; simp; omega)).trans HA.out)
  have HZ6 := Lib.hid ((k6.block g2 (heap_lt HZ.out) (by have := HNE.out; simp; omega)).trans HZ.out)
  have g4l := heap_lt HA6.out
  have f4 : w6.frozen? ⟨g4, 2, none⟩ = false := by have := HA6.out; simp [World.frozen?, this]
  have c4 : w6.cell? ⟨g4, 2, none⟩ = some (.int .i64 0) := by rw [cell_of_row _ _ _ _ _ _ HA6.out]; rfl
  have HS := Lib.hid (setCell_eq_setRow w6 g4 2 _ 57 (0, 0) (.int .i64 N) HA6.out)
  have HROW : Hid ((atC (atk s1 kd 1)).toArray.setIfInBounds 2 (.int .i64 N) = (atC (atk s1 kd 2)).toArray) := Lib.hid (by rw [← HNN.out]; rfl)
  have HR7 := Lib.hid (r6.setNB (row' := (atC (atk s1 kd 2)).toArray) (by have := HNE.out; omega) HA6.out (by rw [← HROW.out]; exact at_nb _ _ _ _ _ _ _ _ 2 _ (by omega)))
  have HB7 := Lib.hid ((HB.out.trans k6).row (g := g4) (by have := HNE.out; omega) (atC (atk s1 kd 2)).toArray)
  have HA7 := Lib.hid (setRow_heap w6 g4 _ (atC (atk s1 kd 2)).toArray _ _ HA6.out)
  have HZ7 := Lib.hid ((setRow_other w6 g4 g2 (atC (atk s1 kd 2)).toArray (by have := HNE.out; omega)).trans HZ6.out)
  clear HR HA HZ HB HA6 HZ6 r6 k6 HKI
  go_upto_region 5 with fail
  rw [HS.out, HROW.out]
  clear HS HROW f4 c4 g4l HNN
  generalize w6.setRow g4 (atC (atk s1 kd 2)).toArray = w32 at *
  have HR := HR7
  have HB := HB7
  have HA := HA7
  have HZ := HZ7
  clear HR7 HB7 HA7 HZ7
  have KI := rint_any gr (ats s1 2) w32 HR.out
  obtain ⟨N, hN⟩ : ∃ N, wrap64 (rdL (ats s1 2)).1 = N := ⟨_, rfl⟩
  rw [hN] at KI
  have HKI := Lib.hid KI
  have HNN : Hid (atn s1 2 = N) := Lib.hid hN
  clear KI hN
  go_wp2_with fail
  refine HKI.out.mono ?_
  rintro e w6 ⟨rfl, r6, k6⟩
  have HA6 := Lib.hid ((k6.block g4 (heap_lt HA.out) (by have := HNE.out; simp; omega)).trans HA.out)
  have HZ6 := Lib.hid ((k6.block g2 (heap_lt HZ.out) (by have := HNE.out; simp; omega)).trans HZ.out)
  have g4l := heap_lt HA6.out
  have f4 : w6.frozen? ⟨g4, 3, none⟩ = false := by have := HA6.out; simp [World.frozen?, this]
  have c4 : w6.cell? ⟨g4, 3, none⟩ = some (.int .i64 0) := by rw [cell_of_row _ _ _ _ _ _ HA6.out]; rfl
  have HS := Lib.hid (setCell_eq_setRow w6 g4 3 _ 57 (0, 0) (.int .i64 N) HA6.out)
  have HROW : Hid ((atC (atk s1 kd 2)).toArray.setIfInBounds 3 (.int .i64 N) = (atC (atk s1 kd 3)).toArray) := Lib.hid (by rw [← HNN.out]; rfl)
  have HR7 := Lib.hid (r6.setNB (row' := (atC (atk s1 kd 3)).toArray) (by have := HNE.out; omega) HA6.out (by rw [← HROW.out]; exact at_nb _ _ _ _ _ _ _ _ 3 _ (by omega)))
  have HB7 := Lib.hid ((HB.out.trans k6).row (g := g4) (by have := HNE.out; omega) (atC (atk s1 kd 3)).toArray)
  have HA7 := Lib.hid (setRow_heap w6 g4 _ (atC (atk s1 kd 3)).toArray _ _ HA6.out)
  have HZ7 := Lib.hid ((setRow_other w6 g4 g2 (atC (atk s1 kd 3)).toArray (by have := HNE.out; omega)).trans HZ6.out)
  clear HR HA HZ HB HA6 HZ6 r6 k6 HKI
  go_upto_region 6 with fail
  rw [HS.out, HROW.out]
  clear HS HROW f4 c4 g4l HNN
  generalize w6.setRow g4 (atC (atk s1 kd 3)).toArray = w33 at *
  have HR := HR7
  have HB := HB7
  have HA := HA7
  have HZ := HZ7
  clear HR7 HB7 HA7 HZ7
  have KI := rint_any gr (ats s1 3) w33 HR.out
  obtain ⟨N, hN⟩ : ∃ N, wrap64 (rdL (ats s1 3)).1 = N := ⟨_, rfl⟩
  rw [hN] at KI
  have HKI := Lib.hid KI
  have HNN : Hid (atn s1 3 = N) := Lib.hid hN
  clear KI hN
  go_wp2_with fail
  refine HKI.out.mono ?_
  rintro e w6 ⟨rfl, r6, k6⟩
  have HA6 := Lib.hid ((k6.block g4 (heap_lt HA.out) (by have := HNE.out; simp; omega)).trans HA.out)
  have HZ6 := Lib.hid ((k6.block g2 (heap_lt HZ.out) (by have := HNE.out; simp; omega)).trans HZ.out)
  have g4l := heap_lt HA6.out
  have f4 : w6.frozen? ⟨g4, 4, none⟩ = false := by have := HA6.out; simp [World.frozen?, this]
  have c4 : w6.cell? ⟨g4, 4, none⟩ = some (.int .i64 0) := by rw [cell_of_row _ _ _ _ _ _ HA6.out]; rfl
  have HS := Lib.hid (setCell_eq_setRow w6 g4 4 _ 57 (0, 0) (.int .i64 N) HA6.out)
  have HROW : Hid ((atC (atk s1 kd 3)).toArray.setIfInBounds 4 (.int .i64 N) = (atC (atk s1 kd 4)).toArray) := Lib.hid (by rw [← HNN.out]; rfl)
  have HR7 := Lib.hid (r6.setNB (row' := (atC (atk s1 kd 4)).toArray) (by have := HNE.out; omega) HA6.out (by rw [← HROW.out]; exact at_nb _ _ _ _ _ _ _ _ 4 _ (by omega)))
  have HB7 := Lib.hid ((HB.out.trans k6).row (g := g4) (by have := HNE.out; omega) (atC (atk s1 kd 4)).toArray)
  have HA7 := Lib.hid (setRow_heap w6 g4 _ (atC (atk s1 kd 4)).toArray _ _ HA6.out)
  have HZ7 := Lib.hid ((setRow_other w6 g4 g2 (atC (atk s1 kd 4)).toArray (by have := HNE.out; omega)).trans HZ6.out)
  clear HR HA HZ HB HA6 HZ6 r6 k6 HKI
  go_upto_region 7 with fail
  rw [HS.out, HROW.out]
  clear HS HROW f4 c4 g4l HNN
  generalize w6.setRow g4 (atC (atk s1 kd 4)).toArray = w34 at *
  have HR := HR7
  have HB := HB7
  have HA := HA7
  have HZ := HZ7
  clear HR7 HB7 HA7 HZ7
  have KI := rint_any gr (ats s1 4) w34 HR.out
  obtain ⟨N, hN⟩ : ∃ N, wrap64 (rdL (ats s1 4)).1 = N := ⟨_, rfl⟩
  rw [hN] at KI
  have HKI := Lib.hid KI
  have HNN : Hid (atn s1 4 = N) := Lib.hid hN
  clear KI hN
  go_wp2_with fail
  refine HKI.out.mono ?_
  rintro e w6 ⟨rfl, r6, k6⟩
  have HA6 := Lib.hid ((k6.block g4 (heap_lt HA.out) (by have := HNE.out; simp; omega)).trans HA.out)
  have HZ6 := Lib.hid ((k6.block g2 (heap_lt HZ.out) (by have := HNE.out; simp; omega)).trans HZ.out)
  have g4l := heap_lt HA6.out
  have f4 : w6.frozen? ⟨g4, 5, none⟩ = false := by have := HA6.out; simp [World.frozen?, this]
  have c4 : w6.cell? ⟨g4, 5, none⟩ = some (.int .i64 0) := by rw [cell_of_row _ _ _ _ _ _ HA6.out]; rfl
  have HS := Lib.hid (setCell_eq_setRow w6 g4 5 _ 57 (0, 0) (.int .i64 N) HA6.out)
  have HROW : Hid ((atC (atk s1 kd 4)).toArray.setIfInBounds 5 (.int .i64 N) = (atC (atk s1 kd 5)).toArray) := Lib.hid (by rw [← HNN.out]; rfl)
  have HR7 := Lib.hid (r6.setNB (row' := (atC (atk s1 kd 5)).toArray) (by have := HNE.out; omega) HA6.out (by rw [← HROW.out]; exact at_nb _ _ _ _ _ _ _ _ 5 _ (by omega)))
  have HB7 := Lib.hid ((HB.out.trans k6).row (g := g4) (by have := HNE.out; omega) (atC (atk s1 kd 5)).toArray)
  have HA7 := Lib.hid (setRow_heap w6 g4 _ (atC (atk s1 kd 5)).toArray _ _ HA6.out)
  have HZ7 := Lib.hid ((setRow_other w6 g4 g2 (atC (atk s1 kd 5)).toArray (by have := HNE.out; omega)).trans HZ6.out)
  clear HR HA HZ HB HA6 HZ6 r6 k6 HKI
  go_upto_region 8 with fail
  rw [HS.out, HROW.out]
  clear HS HROW f4 c4 g4l HNN
  generalize w6.setRow g4 (atC (atk s1 kd 5)).toArray = w35 at *
  have HR := HR7
  have HB := HB7
  have HA := HA7
  have HZ := HZ7
  clear HR7 HB7 HA7 HZ7
  have KI := rint_any gr (ats s1 5) w35 HR.out
  obtain ⟨N, hN⟩ : ∃ N, wrap64 (rdL (ats s1 5)).1 = N := ⟨_, rfl⟩
  rw [hN] at KI
  have HKI := Lib.hid KI
  have HNN : Hid (atn s1 5 = N) := Lib.hid hN
  clear KI hN
  go_wp2_with fail
  refine HKI.out.mono ?_
  rintro e w6 ⟨rfl, r6, k6⟩
  have HA6 := Lib.hid ((k6.block g4 (heap_lt HA.out) (by have := HNE.out; simp; omega)).trans HA.out)
  have HZ6 := Lib.hid ((k6.block g2 (heap_lt HZ.out) (by have := HNE.out; simp; omega)).trans HZ.out)
  have g4l := heap_lt HA6.out
  have f4 : w6.frozen? ⟨g4, 6, none⟩ = false := by have := HA6.out; simp [World.frozen?, this]
  have c4 : w6.cell? ⟨g4, 6, none⟩ = some (.int .i64 0) := by rw [cell_of_row _ _ _ _ _ _ HA6.out]; rfl
  have HS := Lib.hid (setCell_eq_setRow w6 g4 6 _ 57 (0, 0) (.int .i64 N) HA6.out)
  have HROW : Hid ((atC (atk s1 kd 5)).toArray.setIfInBounds 6 (.int .i64 N) = (atC (atk s1 kd 6)).toArray) := Lib.hid (by rw [← HNN.out]; rfl)
  have HR7 := Lib.hid (r6.setNB (row' := (atC (atk s1 kd 6)).toArray) (by have := HNE.out; omega) HA6.out (by rw [← HROW.out]; exact at_nb _ _ _ _ _ _ _ _ 6 _ (by omega)))
  have HB7 := Lib.hid ((HB.out.trans k6).row (g := g4) (by have := HNE.out; omega) (atC (atk s1 kd 6)).toArray)
  have HA7 := Lib.hid (setRow_heap w6 g4 _ (atC (atk s1 kd 6)).toArray _ _ HA6.out)
  have HZ7 := Lib.hid ((setRow_other w6 g4 g2 (atC (atk s1 kd 6)).toArray (by have := HNE.out; omega)).trans HZ6.out)
  clear HR HA HZ HB HA6 HZ6 r6 k6 HKI
  go_upto_region 9 with fail
  rw [HS.out, HROW.out]
  clear HS HROW f4 c4 g4l HNN
  generalize w6.setRow g4 (atC (atk s1 kd 6)).toArray = w36 at *
  have HR := HR7
  have HB := HB7
  have HA := HA7
  have HZ := HZ7
  clear HR7 HB7 HA7 HZ7
  have KI := rint_any gr (ats s1 6) w36 HR.out
  obtain ⟨N, hN⟩ : ∃ N, wrap64 (rdL (ats s1 6)).1 = N := ⟨_, rfl⟩
  rw [hN] at KI
  have HKI := Lib.hid KI
  have HNN : Hid (atn s1 6 = N) := Lib.hid hN
  clear KI hN
  go_wp2_with fail
  refine HKI.out.mono ?_
  rintro e w6 ⟨rfl, r6, k6⟩
  have HA6 := Lib.hid ((k6.block g4 (heap_lt HA.out) (by have := HNE.out; simp; omega)).trans HA.out)
  have HZ6 := Lib.hid ((k6.block g2 (heap_lt HZ.out) (by have := HNE.out; simp; omega)).trans HZ.out)
  have g4l := heap_lt HA6.out
  have f4 : w6.frozen? ⟨g4, 7, none⟩ = false := by have := HA6.out; simp [World.frozen?, this]
  have c4 : w6.cell? ⟨g4, 7, none⟩ = some (.int .i64 0) := by rw [cell_of_row _ _ _ _ _ _ HA6.out]; rfl
  have HS := Lib.hid (setCell_eq_setRow w6 g4 7 _ 57 (0, 0) (.int .i64 N) HA6.out)
  have HROW : Hid ((atC (atk s1 kd 6)).toArray.setIfInBounds 7 (.int .i64 N) = (atC (atk s1 kd 7)).toArray) := Lib.hid (by rw [← HNN.out]; rfl)
  have HR7 := Lib.hid (r6.setNB (row' := (atC (atk s1 kd 7)).toArray) (by have := HNE.out; omega) HA6.out (by rw [← HROW.out]; exact at_nb _ _ _ _ _ _ _ _ 7 _ (by omega)))
  have HB7 := Lib.hid ((HB.out.trans k6).row (g := g4) (by have := HNE.out; omega) (atC (atk s1 kd 7)).toArray)
  have HA7 := Lib.hid (setRow_heap w6 g4 _ (atC (atk s1 kd 7)).toArray _ _ HA6.out)
  have HZ7 := Lib.hid ((setRow_other w6 g4 g2 (atC (atk s1 kd 7)).toArray (by have := HNE.out; omega)).trans HZ6.out)
  clear HR HA HZ HB HA6 HZ6 r6 k6 HKI
  go_upto_region 10 with fail
  rw [HS.out, HROW.out]
  clear HS HROW f4 c4 g4l HNN
  generalize w6.setRow g4 (atC (atk s1 kd 7)).toArray = wr at *
  have HR := HR7
  have HB := HB7
  have HA := HA7
  have HZ := HZ7
  clear HR7 HB7 HA7 HZ7
  have ga4 := HA.out
  have d0 : wr.cell? ⟨g4, 0, none⟩ = some (.int .u8 kd) := by rw [cell_of_row _ _ _ _ _ _ ga4]; rfl
  have d1 : wr.cell? ⟨g4, 1, none⟩ = some (.int .i64 (atk s1 kd 7).mode) := by rw [cell_of_row _ _ _ _ _ _ ga4]; rfl
  have d2 : wr.cell? ⟨g4, 2, none⟩ = some (.int .i64 (atk s1 kd 7).links) := by rw [cell_of_row _ _ _ _ _ _ ga4]; rfl
  have d3 : wr.cell? ⟨g4, 3, none⟩ = some (.int .i64 (atk s1 kd 7).size) := by rw [cell_of_row _ _ _ _ _ _ ga4]; rfl
  have d4 : wr.cell? ⟨g4, 4, none⟩ = some (.int .i64 (atk s1 kd 7).mtime) := by rw [cell_of_row _ _ _ _ _ _ ga4]; rfl
  have d5 : wr.cell? ⟨g4, 5, none⟩ = some (.int .i64 (atk s1 kd 7).ctime) := by rw [cell_of_row _ _ _ _ _ _ ga4]; rfl
  have d6 : wr.cell? ⟨g4, 6, none⟩ = some (.int .i64 (atk s1 kd 7).ino) := by rw [cell_of_row _ _ _ _ _ _ ga4]; rfl
  have d7 : wr.cell? ⟨g4, 7, none⟩ = some (.int .i64 (atk s1 kd 7).gen) := by rw [cell_of_row _ _ _ _ _ _ ga4]; rfl
  have g4l := heap_lt ga4
  have gzl := heap_lt HZ.out
  have fz : ∀ o, wr.frozen? ⟨g2, o, none⟩ = false := fun o => by have := HZ.out; simp [World.frozen?, this]
  have c0 : wr.cell? ⟨g2, 0, none⟩ = some (.int .u8 0) := by rw [cell_of_row _ _ _ _ _ _ HZ.out]; rfl
  have c1 : wr.cell? ⟨g2, 1, none⟩ = some (.int .i64 0) := by rw [cell_of_row _ _ _ _ _ _ HZ.out]; rfl
  have c2 : wr.cell? ⟨g2, 2, none⟩ = some (.int .i64 0) := by rw [cell_of_row _ _ _ _ _ _ HZ.out]; rfl
  have c3 : wr.cell? ⟨g2, 3, none⟩ = some (.int .i64 0) := by rw [cell_of_row _ _ _ _ _ _ HZ.out]; rfl
  have c4 : wr.cell? ⟨g2, 4, none⟩ = some (.int .i64 0) := by rw [cell_of_row _ _ _ _ _ _ HZ.out]; rfl
  have c5 : wr.cell? ⟨g2, 5, none⟩ = some (.int .i64 0) := by rw [cell_of_row _ _ _ _ _ _ HZ.out]; rfl
  have c6 : wr.cell? ⟨g2, 6, none⟩ = some (.int .i64 0) := by rw [cell_of_row _ _ _ _ _ _ HZ.out]; rfl
  have c7 : wr.cell? ⟨g2, 7, none⟩ = some (.int .i64 0) := by rw [cell_of_row _ _ _ _ _ _ HZ.out]; rfl
  have S8 := setC8 (o := 0) (x0 := .int .u8 kd) (x1 := .int .i64 (atk s1 kd 7).mode) (x2 := .int .i64 (atk s1 kd 7).links) (x3 := .int .i64 (atk s1 kd 7).size) (x4 := .int .i64 (atk s1 kd 7).mtime) (x5 := .int .i64 (atk s1 kd 7).ctime) (x6 := .int .i64 (atk s1 kd 7).ino) (x7 := .int .i64 (atk s1 kd 7).gen) HZ.out
  simp only [Nat.zero_add] at S8
  have HS8 := Lib.hid S8
  have hb := HR.out.setB (row' := (atC (atk s1 kd 7)).toArray) (by have := HNE.out; omega) HZ.out (fun j => by
    match j with
    | 0 => exact .inr (.inr (by obtain ⟨x, hx⟩ := kind_bv (n := kd) HKD.out; exact ⟨x, by rw [← hx]; rfl⟩))
    | 1 => exact .inr (.inl ⟨_, rfl, nb_i64 _⟩)
    | 2 => exact .inr (.inl ⟨_, rfl, nb_i64 _⟩)
    | 3 => exact .inr (.inl ⟨_, rfl, nb_i64 _⟩)
    | 4 => exact .inr (.inl ⟨_, rfl, nb_i64 _⟩)
    | 5 => exact .inr (.inl ⟨_, rfl, nb_i64 _⟩)
    | 6 => exact .inr (.inl ⟨_, rfl, nb_i64 _⟩)
    | 7 => exact .inr (.inl ⟨_, rfl, nb_i64 _⟩)
    | j + 8 => exact .inl rfl)
  have HFB := Lib.hid hb
  have HG := Lib.hid (setRow_heap wr g2 _ (atC (atk s1 kd 7)).toArray _ _ HZ.out)
  have HBF := Lib.hid (HB.out.row (g := g2) HNE.out.2.2 (atC (atk s1 kd 7)).toArray)
  clear S8 hb ga4 HR HA HB
  go_wp2_with fail
  rw [HS8.out]
  (try simp only [Exit.inBlock, Exit.then])
  refine bodyPost_ret (v := .agg (atC (atk s1 kd 7)).toArray) (results_cell_row Tryz.results76 _ _ _ _ _ _ _ rfl HG.out Tryz.underlying57 rfl (by kernel_rfl)) rfl ?_
  rw [HE.out]
  exact ⟨rfl, HFB.out, HBF.out⟩
end Go.Proofs.YteahlnoonmfjhaaGreat
