/- Walks of package block: Seal. -/
import Derived.Test.YtobcfocbglkicaaBlkA
set_option linter.unusedVariables false
set_option maxRecDepth 100000
namespace Go.Proofs.Ytobcfocbglkicaa
open Go.RowKit

section
variable {P : Program} {ops : Array Oper} {rest : List Oper} {o : Oper} {a : Act} {w : World} {Q : Exit → Act → World → Prop}
theorem wpList_al (hgd : o.guard = none) (ty : TypeId) (ho : o.op = .alloc ty) {O : Obj} (hr : ∀ w, (Instr.alloc ty true (.tuple #[])).run P w = .ok (.pointer (some ⟨w.heap.size, 0, none⟩)) (w.alloc O))
    (h : wpList P ops Q rest (a.put o.dst (.pointer (some ⟨w.heap.size, 0, none⟩))) (w.alloc O)) : wpList P ops Q (o :: rest) a w :=
  wpList_plain hgd fun K hK => by unfold Oper.wp execOp; simp only [ho, Sem.run_bind, hr, Result.andThen_ok, Sem.run_pure]; exact hK _ _ h
theorem wpList_bd (hgd : o.guard = none) (ty : TypeId) (ho : o.op = .build ty #[]) {v : Value} (hr : ∀ w, (Instr.build ty #[]).run P w = .ok v w)
    (h : wpList P ops Q rest (a.put o.dst v) w) : wpList P ops Q (o :: rest) a w :=
  wpList_plain hgd fun K hK => by unfold Oper.wp execOp; simp only [ho, Array.map_empty, Sem.run_bind, hr, Result.andThen_ok, Sem.run_pure]; exact hK _ _ h
theorem results_cell_tmp {fn : Func} {p q : Tmp} {ty : TypeId} (h : fn.results = #[.cell p ty, .tmp q]) (tmps : Array Value) (w : World) (g : Nat) (t : TypeId) (cs : Array Value) (fr : Nat × Nat) (d : TypeDesc)
    (hp : tmps.getD p undef = .pointer (some ⟨g, 0, none⟩)) (hg : w.heap[g]? = some (.cells cs t fr))
    (hu : P.underlying ty = some d) (hd : (match d with | .struct _ | .array _ _ => true | _ => false) = true) (hi : (P.info? ty).map (·.size) = some cs.size) :
    (results fn tmps).run P w = .ok (.tuple #[.agg cs, tmps.getD q undef]) w := by
  have hp' : tmps[p]?.getD undef = .pointer (some ⟨g, 0, none⟩) := by simpa using hp
  simp [results, h, hp', asAddr, run_loadVar_row w g t ty cs fr d hg hu hd hi]
end

theorem extAl (w : World) (o : Obj) : Ext w (w.alloc o) := (Below.refl _ w).alloc (Nat.le_refl _) o
theorem ext_in {w w' : World} {ψ : World → Prop} (h : ∃ e : ExtP w.heap.size w ψ, w' = e.val) : Ext w w' := by obtain ⟨e, rfl⟩ := h; exact e.ok
/-- A block of 00s. -/
def zB : List UInt8 := List.replicate 512 0
theorem zB_length : zB.length = 512 := List.length_replicate
theorem info_blk : (Try.prog.info? 25).map (·.size) = some 512 := by kernel_rfl
theorem alloc_blk (w : World) : (Instr.alloc 25 true (.tuple #[])).run Try.prog w = .ok (.pointer (some ⟨w.heap.size, 0, none⟩)) (w.alloc (.cells (bvs zB).toArray 25)) := by kernel_rfl
theorem build_blk (w : World) : (Instr.build 25 #[]).run Try.prog w = .ok (.agg (bvs zB).toArray) w := by kernel_rfl
theorem st_blk {w : World} {g : Nat} {t : TypeId} {l old : List UInt8} (hg : w.heap[g]? = some (.cells (bvs old).toArray t (0, 0))) (ho : old.length = 512) (hl : l.length = 512) :
    (Instr.storeAt 25 (.pointer (some ⟨g, 0, none⟩)) (.agg (bvs l).toArray)).run Try.prog w = .ok () (w.setRow g (bvs l).toArray) :=
  storeAt_row hg (by rw [info_blk, bvs_size, hl]) (by rw [bvs_size, bvs_size, ho, hl]) (oneCells _)
theorem ld_blk {w : World} {g : Nat} {t : TypeId} {fr : Nat × Nat} {l : List UInt8} (hg : w.heap[g]? = some (.cells (bvs l).toArray t fr)) (hl : l.length = 512) :
    (Instr.loadAt 25 (.pointer (some ⟨g, 0, none⟩))).run Try.prog w = .ok (.agg (bvs l).toArray) w :=
  loadAt_row hg Try.underlying25 (by rw [info_blk, bvs_size, hl])
def eqB (l m : List UInt8) : Bool := decide (l = m)
theorem eql_blk (l m : List UInt8) (hl : l.length = 512) (hm : m.length = 512) (w : World) : (binOp .eql 25 (.agg (bvs l).toArray) (.agg (bvs m).toArray)).run Try.prog w = .ok (.bool (eqB l m)) w := by
  have := run_eql_bytes (P := Try.prog) w 25 5 512 Try.underlying25 Try.underlying5 (fun _ => by kernel_rfl) l m hl hm
  have e : (l == m) = eqB l m := by unfold eqB; by_cases h : l = m <;> simp [h]
  rw [e] at this
  exact this
theorem neq_blk (l m : List UInt8) (hl : l.length = 512) (hm : m.length = 512) (w : World) : (binOp .neq 25 (.agg (bvs l).toArray) (.agg (bvs m).toArray)).run Try.prog w = .ok (.bool (!(eqB l m))) w := by
  have h := run_equalIn_bytes (P := Try.prog) w 9998 25 5 512 Try.underlying25 Try.underlying5 (fun _ => by kernel_rfl) l m hl hm
  have e : (l == m) = eqB l m := by unfold eqB; by_cases h : l = m <;> simp [h]
  rw [e] at h
  rw [run_neq_struct]
  have h' : (Op.equalIn 10000 25 (.agg (bvs l).toArray) (.agg (bvs m).toArray)).run Try.prog w = .ok (eqB l m) w := h
  rw [h']
  rfl

/-- Bytes and 00s, 512 in all. -/
def pad (l : List UInt8) : List UInt8 := l ++ List.replicate (512 - l.length) 0
def jt : List UInt8 := [106, 116, 116, 121]
/-- What stands ahead of a sealed block's body. -/
def hdr (k : UInt8) (n b : Int) : List UInt8 := jt ++ [k, 0] ++ beN n 2 ++ beN b 4
def sealL (k : UInt8) (b : Int) (s : List UInt8) : List UInt8 := pad (hdr k s.length b ++ s)
theorem hdr_length (k : UInt8) (n b : Int) : (hdr k n b).length = 12 := by simp [hdr, jt, beN_length]
theorem pad_length {l : List UInt8} (h : l.length ≤ 512) : (pad l).length = 512 := by simp [pad]; omega
theorem sealL_length {k : UInt8} {b : Int} {s : List UInt8} (h : s.length ≤ 500) : (sealL k b s).length = 512 := pad_length (by rw [List.length_append, hdr_length]; omega)
/-- What Seal answers. -/
def sealR (k : UInt8) (b : Int) (s : List UInt8) : List UInt8 × Int :=
  if 0 ≤ b ∧ b ≤ 2147483647 then if s.length ≤ 500 then (sealL k b s, 0) else (zB, 40) else (zB, 1)
theorem sealR_length {k : UInt8} {b : Int} {s : List UInt8} : (sealR k b s).1.length = 512 := by
  unfold sealR
  split
  · split
    · exact sealL_length ‹_›
    · exact zB_length
  · exact zB_length
/-- A block and an error, as a function answers. -/
def bkV (r : List UInt8 × Int) : Value := .tuple #[.agg (bvs r.1).toArray, .int .i64 r.2]

set_option maxHeartbeats 4000000 in
set_option maxRecDepth 100000 in
theorem seal_no (k : UInt8) (b : Int) (s : List UInt8) (w : World) (h : (sealR k b s).2 ≠ 0) (hl : s.length ≤ maxLen) :
    Calls Try.prog 49 #[.int .u8 k.toNat, .int .i64 b, .string (str s)] w fun e w' => e = .returned (bkV (sealR k b s)) ∧ Below w.heap.size w w' := by
  unfold maxLen at hl
  have hs := str_size s
  have hg := heap_alloc_last w (.cells (bvs zB).toArray 25)
  have hst := st_blk hg zB_length zB_length
  rw [World.setRow_alloc_new] at hst
  have Hst := Lib.hid hst
  have Hg := Lib.hid hg
  clear hst hg
  have fin : ∀ e, sealR k b s = (zB, e) → bkV (sealR k b s) = .tuple #[.agg (bvs zB).toArray, .int .i64 e] := fun e h => by rw [h]; rfl
  have FIN := Lib.hid fin
  clear fin
  by_cases h0 : 0 ≤ b
  · by_cases h1 : b ≤ 2147483647
    · have h2 : ¬ s.length ≤ 500 := fun h2 => h (by simp [sealR, h0, h1, h2])
      have e := Lib.hid (FIN.out 40 (by simp [sealR, h0, h1, h2]))
      clear h
      go_enter Try.func49, Try.ntmps49
      go_wp2_with (first | (refine wpList_al rfl 25 rfl alloc_blk ?_; simp only [Act.put]) | (refine wpList_bd rfl 25 rfl build_blk ?_; simp only [Act.put]) | (refine wpList_st rfl 25 (.tmp 6) (.tmp 19) rfl Hst.out ?_; simp only [Act.put]))
      exact bodyPost_ret (results_cell_tmp Try.results49 _ _ _ _ _ _ _ rfl Hg.out Try.underlying25 rfl (by rw [info_blk, bvs_size, zB_length])) rfl ⟨by rw [e.out]; rfl, by (repeat' (first | (with_reducible assumption) | (with_reducible exact Below.refl _ _) | (with_reducible refine below_sc ?_ ?_) | ((with_reducible show (_ : Nat) ≤ _); omega) | refine Below.setCell ?_ (by first | omega | (simp; done) | (simp; omega)) _ | refine Below.alloc ?_ (by first | omega | (simp; done) | (simp; omega)) _ | refine Below.drew ?_ | refine below_drewN ?_ _ | refine Below.trans ?_ (Below.mono (by assumption) (by first | omega | (simp; done) | (simp; omega)))))⟩
    · have e := Lib.hid (FIN.out 1 (by simp [sealR, h1]))
      clear h
      go_enter Try.func49, Try.ntmps49
      go_wp2_with (first | (refine wpList_al rfl 25 rfl alloc_blk ?_; simp only [Act.put]) | (refine wpList_bd rfl 25 rfl build_blk ?_; simp only [Act.put]) | (refine wpList_st rfl 25 (.tmp 6) (.tmp 15) rfl Hst.out ?_; simp only [Act.put]))
      exact bodyPost_ret (results_cell_tmp Try.results49 _ _ _ _ _ _ _ rfl Hg.out Try.underlying25 rfl (by rw [info_blk, bvs_size, zB_length])) rfl ⟨by rw [e.out]; rfl, by (repeat' (first | (with_reducible assumption) | (with_reducible exact Below.refl _ _) | (with_reducible refine below_sc ?_ ?_) | ((with_reducible show (_ : Nat) ≤ _); omega) | refine Below.setCell ?_ (by first | omega | (simp; done) | (simp; omega)) _ | refine Below.alloc ?_ (by first | omega | (simp; done) | (simp; omega)) _ | refine Below.drew ?_ | refine below_drewN ?_ _ | refine Below.trans ?_ (Below.mono (by assumption) (by first | omega | (simp; done) | (simp; omega)))))⟩
  · have e := Lib.hid (FIN.out 1 (by simp [sealR, h0]))
    clear h
    go_enter Try.func49, Try.ntmps49
    go_wp2_with (first | (refine wpList_al rfl 25 rfl alloc_blk ?_; simp only [Act.put]) | (refine wpList_bd rfl 25 rfl build_blk ?_; simp only [Act.put]) | (refine wpList_st rfl 25 (.tmp 6) (.tmp 15) rfl Hst.out ?_; simp only [Act.put]))
    exact bodyPost_ret (results_cell_tmp Try.results49 _ _ _ _ _ _ _ rfl Hg.out Try.underlying25 rfl (by rw [info_blk, bvs_size, zB_length])) rfl ⟨by rw [e.out]; rfl, by (repeat' (first | (with_reducible assumption) | (with_reducible exact Below.refl _ _) | (with_reducible refine below_sc ?_ ?_) | ((with_reducible show (_ : Nat) ≤ _); omega) | refine Below.setCell ?_ (by first | omega | (simp; done) | (simp; omega)) _ | refine Below.alloc ?_ (by first | omega | (simp; done) | (simp; omega)) _ | refine Below.drew ?_ | refine below_drewN ?_ _ | refine Below.trans ?_ (Below.mono (by assumption) (by first | omega | (simp; done) | (simp; omega)))))⟩
end Go.Proofs.Ytobcfocbglkicaa
