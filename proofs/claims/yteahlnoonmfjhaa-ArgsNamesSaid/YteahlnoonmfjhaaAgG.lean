/- Arguments: fields.handle, fields.well. -/
import Derived.Test.YteahlnoonmfjhaaAgF
import Derived.Test.YteahlnoonmfjhaaMx
import Derived.Laws.Rows
set_option linter.unusedVariables false
set_option maxRecDepth 100000
namespace Go.Proofs.Yteahlnoonmfjhaa
open Go.RowKit

def hvT (x : Int × Int × Int) : Value := .agg #[.int .i64 x.1, .int .i64 x.2.1, .int .i64 x.2.2]
theorem decV_eq (l : List UInt8) : decV l = match dec l with
    | some x => .tuple #[hvT x, .int .i64 0]
    | none => .tuple #[hvT (0, 0, 0), .int .i64 4] := by
  unfold decV
  cases dec l with
  | none => rfl
  | some x => rfl
theorem rdX_fst (s : St) (n : Int) : (rdX s n).1.length ≤ s.l.length := by
  cases s with
  | none => exact Nat.zero_le _
  | some l =>
    unfold rdX
    simp only
    split
    · simp only [St.l, Option.getD_some, List.length_take]; omega
    · simp
section
variable {W0 : World} {gr gf ga b2 b3 : Nat} {Ta Tp : TypeId} {st : St} {bad : Bool} {row : Array Value}
theorem fWell_any (w : World) (h : RdS W0 w gr gf ga b2 b3 Ta Tp st bad row) :
    Calls Try.prog 74 #[.pointer (some ⟨gf, 0, none⟩)] w fun e w' => e = .returned (.bool (!bad && st.isSome)) ∧ w' = w := by
  obtain ⟨c0, c1, f0, f1, gl⟩ := blk2 h.hf
  have K := Lib.hid (ok_any gr st w h.rd)
  clear h
  obtain ⟨ok, hok⟩ : ∃ ok, st.isSome = ok := ⟨_, rfl⟩
  rw [hok] at K ⊢
  clear hok
  cases bad with
  | true =>
    go_enter Try.func74, Try.ntmps74
    go_wp2_with fail
    go_ret
    exact ⟨rfl, rfl⟩
  | false =>
    go_enter Try.func74, Try.ntmps74
    go_wp2_with fail
    refine K.out.mono ?_
    rintro e w1 ⟨rfl, rfl⟩
    go_wp2_with fail
    go_ret
    exact ⟨rfl, rfl⟩
theorem fHandle_any (w : World) (h : RdS W0 w gr gf ga b2 b3 Ta Tp st bad row) (hl : st.l.length ≤ 100000) :
    Calls Try.prog 124 #[.pointer (some ⟨gf, 0, none⟩)] w fun e w' => e = .returned (hvT ((dec (rdX st 24).1).getD (0, 0, 0))) ∧ RdS W0 w' gr gf ga b2 b3 Ta Tp (rdX st 24).2 (bad || (dec (rdX st 24).1).isNone) row := by
  have hz := extAl w (.cells #[.int .i64 0, .int .i64 0, .int .i64 0] 32)
  have hz2 := heap_alloc_last w (.cells #[.int .i64 0, .int .i64 0, .int .i64 0] 32)
  have h1 := h.ext hz
  have hlt : gr < w.heap.size ∧ gf < w.heap.size ∧ ga < w.heap.size ∧ b2 < w.heap.size ∧ b3 < w.heap.size ∧ W0.heap.size ≤ w.heap.size := ⟨h.rd.lt, heap_lt h.hf, heap_lt h.ha, heap_lt h.h2, heap_lt h.h3, h.mu.size⟩
  have HLT := Lib.hid hlt
  have hxl := rdX_fst st 24
  obtain ⟨X, hX⟩ : ∃ X, rdX st 24 = X := ⟨_, rfl⟩
  have KF := fixed_any gr st 24 _ h1.rd (by omega)
  rw [hX] at KF hxl ⊢
  clear hX
  have HK := Lib.hid KF
  have H1 := Lib.hid h1
  have HZ := Lib.hid hz2
  clear KF h1 hz2 hz h hlt
  go_enter Try.func124, Try.ntmps124
  go_upto_region 1 with fail
  obtain ⟨c0, -, f0, -, gl⟩ := blk2 H1.out.hf
  generalize w.alloc (.cells #[.int .i64 0, .int .i64 0, .int .i64 0] 32) = W1 at *
  generalize w.heap.size = g2 at *
  go_wp2_with fail
  refine HK.out.mono ?_
  rintro e w2 ⟨rfl, r2, k2⟩
  have H2 := Lib.hid (H1.out.read r2 k2)
  have hz2 := (k2.block g2 (heap_lt HZ.out) (by have := HLT.out; simp; omega)).trans HZ.out
  have HZ2 := Lib.hid hz2
  clear HK H1 HZ r2 k2 hz2 c0 f0 gl
  have KD := decode_any X.1 (by omega) w2
  rw [decV_eq] at KD
  cases hd : dec X.1 with
  | none =>
    rw [hd] at KD
    have HKD := Lib.hid KD
    have HD := Lib.hid hd
    clear KD hd
    go_wp2_with fail
    refine HKD.out.mono ?_
    rintro e w3 ⟨rfl, k3⟩
    have H3 := H2.out.ext k3
    have hz3 := Ext.blk k3 HZ2.out
    have hs3 := Below.size k3
    have hx4 := extAl w3 (.cells #[.int .i64 (((0, 0, 0) : Int × Int × Int)).1, .int .i64 (((0, 0, 0) : Int × Int × Int)).2.1, .int .i64 (((0, 0, 0) : Int × Int × Int)).2.2] 32)
    have hz4 := heap_alloc_last w3 (.cells #[.int .i64 (((0, 0, 0) : Int × Int × Int)).1, .int .i64 (((0, 0, 0) : Int × Int × Int)).2.1, .int .i64 (((0, 0, 0) : Int × Int × Int)).2.2] 32)
    have H4 := Lib.hid (H3.ext hx4)
    have HZ4 := Lib.hid (Ext.blk hx4 hz3)
    have HG4 := Lib.hid hz4
    have hlt4 : gr < w3.heap.size ∧ gf < w3.heap.size ∧ ga < w3.heap.size ∧ b2 < w3.heap.size ∧ b3 < w3.heap.size ∧ g2 < w3.heap.size := ⟨H3.rd.lt, heap_lt H3.hf, heap_lt H3.ha, heap_lt H3.h2, heap_lt H3.h3, heap_lt hz3⟩
    have HL4 := Lib.hid hlt4
    clear H3 hz3 hx4 hz4 hlt4 k3 H2 HZ2 HKD
    unfold hvT
    go_upto_region 2 with fail
    generalize w3.alloc (.cells #[.int .i64 (((0, 0, 0) : Int × Int × Int)).1, .int .i64 (((0, 0, 0) : Int × Int × Int)).2.1, .int .i64 (((0, 0, 0) : Int × Int × Int)).2.2] 32) = W4 at *
    generalize w3.heap.size = g3 at *
    obtain ⟨c0, c1, f0, f1, gl⟩ := blk2 H4.out.hf
    have s1 := blk2_st1 (.bool true) H4.out.hf
    have H5 := Lib.hid (H4.out.spoil true)
    have HG5 := Lib.hid ((setRow_other W4 gf g3 #[.pointer (some ⟨gr, 0, none⟩), .bool true] (by have := HL4.out; omega)).trans HG4.out)
    have HZ5 := Lib.hid ((setRow_other W4 gf g2 #[.pointer (some ⟨gr, 0, none⟩), .bool true] (by have := HLT.out; omega)).trans HZ4.out)
    have S1 := Lib.hid s1
    clear s1 H4 HG4 HZ4
    go_upto_region 4 with fail
    rw [S1.out]
    clear c0 c1 f0 f1 gl S1
    generalize W4.setRow gf #[.pointer (some ⟨gr, 0, none⟩), .bool true] = V5 at *
    obtain ⟨d0, d1, d2, d3, d4, d5, dl⟩ := blk3 HG5.out
    obtain ⟨k0, k1, k2, e0, e1, e2, kl⟩ := blk3 HZ5.out
    have s3 := set3 (.int .i64 (((0, 0, 0) : Int × Int × Int)).1) (.int .i64 (((0, 0, 0) : Int × Int × Int)).2.1) (.int .i64 (((0, 0, 0) : Int × Int × Int)).2.2) HZ5.out
    have HF := Lib.hid (H5.out.aside (r' := #[.int .i64 (((0, 0, 0) : Int × Int × Int)).1, .int .i64 (((0, 0, 0) : Int × Int × Int)).2.1, .int .i64 (((0, 0, 0) : Int × Int × Int)).2.2]) HZ5.out (by have := HLT.out; omega) (by have := HLT.out; refine ⟨?_, ?_, ?_, ?_, ?_⟩ <;> omega) (fun j => by
      match j with
      | 0 => exact .inr ⟨_, rfl, nb_i64 _⟩
      | 1 => exact .inr ⟨_, rfl, nb_i64 _⟩
      | 2 => exact .inr ⟨_, rfl, nb_i64 _⟩
      | j + 3 => exact .inl (by simp)))
    have HG := Lib.hid (setRow_heap V5 g2 _ #[.int .i64 (((0, 0, 0) : Int × Int × Int)).1, .int .i64 (((0, 0, 0) : Int × Int × Int)).2.1, .int .i64 (((0, 0, 0) : Int × Int × Int)).2.2] _ _ HZ5.out)
    have S3 := Lib.hid s3
    clear s3 HG5 HZ5 H5
    go_wp2_with fail
    rw [S3.out]
    (try simp only [Exit.inBlock, Exit.then])
    refine bodyPost_ret (v := hvT (((0, 0, 0) : Int × Int × Int))) (results_cell_row Try.results124 _ _ _ _ _ _ _ rfl HG.out Try.underlying32 rfl (by kernel_rfl)) rfl ⟨by rw [HD.out]; rfl, by rw [HD.out]; first | (rw [Option.isNone_none, Bool.or_true]; exact HF.out) | (rw [Option.isNone_some, Bool.or_false]; exact HF.out)⟩
  | some x =>
    rw [hd] at KD
    have HKD := Lib.hid KD
    have HD := Lib.hid hd
    clear KD hd
    go_wp2_with fail
    refine HKD.out.mono ?_
    rintro e w3 ⟨rfl, k3⟩
    have H3 := H2.out.ext k3
    have hz3 := Ext.blk k3 HZ2.out
    have hs3 := Below.size k3
    have hx4 := extAl w3 (.cells #[.int .i64 (x).1, .int .i64 (x).2.1, .int .i64 (x).2.2] 32)
    have hz4 := heap_alloc_last w3 (.cells #[.int .i64 (x).1, .int .i64 (x).2.1, .int .i64 (x).2.2] 32)
    have H4 := Lib.hid (H3.ext hx4)
    have HZ4 := Lib.hid (Ext.blk hx4 hz3)
    have HG4 := Lib.hid hz4
    have hlt4 : gr < w3.heap.size ∧ gf < w3.heap.size ∧ ga < w3.heap.size ∧ b2 < w3.heap.size ∧ b3 < w3.heap.size ∧ g2 < w3.heap.size := ⟨H3.rd.lt, heap_lt H3.hf, heap_lt H3.ha, heap_lt H3.h2, heap_lt H3.h3, heap_lt hz3⟩
    have HL4 := Lib.hid hlt4
    clear H3 hz3 hx4 hz4 hlt4 k3 H2 HZ2 HKD
    unfold hvT
    go_upto_region 2 with fail
    generalize w3.alloc (.cells #[.int .i64 (x).1, .int .i64 (x).2.1, .int .i64 (x).2.2] 32) = W4 at *
    generalize w3.heap.size = g3 at *
    have H5 := H4
    have HG5 := HG4
    have HZ5 := HZ4
    clear H4 HG4 HZ4
    obtain ⟨V5, rfl⟩ : ∃ V : World, V = W4 := ⟨_, rfl⟩
    go_upto_region 4 with fail
    obtain ⟨d0, d1, d2, d3, d4, d5, dl⟩ := blk3 HG5.out
    obtain ⟨k0, k1, k2, e0, e1, e2, kl⟩ := blk3 HZ5.out
    have s3 := set3 (.int .i64 (x).1) (.int .i64 (x).2.1) (.int .i64 (x).2.2) HZ5.out
    have HF := Lib.hid (H5.out.aside (r' := #[.int .i64 (x).1, .int .i64 (x).2.1, .int .i64 (x).2.2]) HZ5.out (by have := HLT.out; omega) (by have := HLT.out; refine ⟨?_, ?_, ?_, ?_, ?_⟩ <;> omega) (fun j => by
      match j with
      | 0 => exact .inr ⟨_, rfl, nb_i64 _⟩
      | 1 => exact .inr ⟨_, rfl, nb_i64 _⟩
      | 2 => exact .inr ⟨_, rfl, nb_i64 _⟩
      | j + 3 => exact .inl (by simp)))
    have HG := Lib.hid (setRow_heap V5 g2 _ #[.int .i64 (x).1, .int .i64 (x).2.1, .int .i64 (x).2.2] _ _ HZ5.out)
    have S3 := Lib.hid s3
    clear s3 HG5 HZ5 H5
    go_wp2_with fail
    rw [S3.out]
    (try simp only [Exit.inBlock, Exit.then])
    refine bodyPost_ret (v := hvT (x)) (results_cell_row Try.results124 _ _ _ _ _ _ _ rfl HG.out Try.underlying32 rfl (by kernel_rfl)) rfl ⟨by rw [HD.out]; rfl, by rw [HD.out]; first | (rw [Option.isNone_none, Bool.or_true]; exact HF.out) | (rw [Option.isNone_some, Bool.or_false]; exact HF.out)⟩
end
end Go.Proofs.Yteahlnoonmfjhaa
