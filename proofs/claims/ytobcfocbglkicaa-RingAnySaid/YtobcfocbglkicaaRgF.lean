/- The ring at known states: many, Open, block.Seal, nobody's disk. -/
import Derived.Test.YtobcfocbglkicaaRgW
import Derived.Test.YtobcfocbglkicaaMa
set_option linter.unusedVariables false
set_option maxRecDepth 100000
namespace Go.Proofs.Ytobcfocbglkicaa
open Go.RowKit

def zr (n : Nat) : List UInt8 := List.replicate n 0
theorem zr_length (n : Nat) : (zr n).length = n := List.length_replicate
theorem many_any (n : Nat) (hn : n ≤ 1000000) (w : World) : Calls Try.prog 48 #[.int .i64 n] w fun e w' => e = .returned (.string (str (zr n))) ∧ Below w.heap.size w w' := by
  have mk := fun w => mkR w n n (by omega) (Nat.le_refl _)
  have cv : (convert 38 9 (.slice (some ⟨w.heap.size, 0, none⟩) n n)).run Try.prog (w.alloc (.cells (bvs (List.replicate n 0)).toArray 5)) = .ok (.string (str (zr n))) (w.alloc (.cells (bvs (List.replicate n 0)).toArray 5)) := by
    have rs := rs_block (l := zr n) (off := 0) (c := n) (heap_alloc_last w (.cells (bvs (zr n)).toArray 5 (0, 0))) (by simp) (by simp [zr])
    rw [zr_length] at rs
    exact rs.conv Try.underlying38 Try.underlying5 Try.underlying9
  go_enter Try.func48, Try.ntmps48
  go_wp2
  go_ret
  exact ⟨rfl, by (repeat' (first | (with_reducible assumption) | (with_reducible exact Below.refl _ _) | (with_reducible refine below_sc ?_ ?_) | ((with_reducible show (_ : Nat) ≤ _); omega) | refine Below.setCell ?_ (by first | omega | (simp; done) | (simp; omega)) _ | refine Below.alloc ?_ (by first | omega | (simp; done) | (simp; omega)) _ | refine Below.drew ?_ | refine below_drewN ?_ _ | refine Below.trans ?_ (Below.mono (by assumption) (by first | omega | (simp; done) | (simp; omega)))))⟩
theorem many_k (n : Nat) (c : Int) (hc : c = n) (hn : n ≤ 1000000) (w : World) : Calls Try.prog 48 #[.int .i64 c] w fun e w' => e = .returned (.string (str (zr n))) ∧ Below w.heap.size w w' := by
  subst hc
  exact many_any n hn w
theorem rgOpen_k (B : List UInt8) (hB : B.length = 512) (t : Int) (l : List UInt8) (e : Int) (he : rkO B = (⟨t, l⟩, e)) (w : World) :
    Calls Try.prog 17 #[.agg (bvs B).toArray] w fun r w' => r = .returned (.tuple #[.agg #[.int .i64 t, .string (str l)], .int .i64 e]) ∧ Below w.heap.size w w' := by
  have := rgOpen_any B hB w
  rw [he] at this
  exact this
theorem bSeal_k (k : UInt8) (kn : Int) (hk : kn = k.toNat) (b : Int) (s : List UInt8) (x : ByteArray) (hx : x = str s) (B : List UInt8) (e : Int) (hs : s.length ≤ maxLen) (he : sealR k b s = (B, e)) (w : World) :
    Calls Try.prog 49 #[.int .u8 kn, .int .i64 b, .string x] w fun r w' => r = .returned (.tuple #[.agg (bvs B).toArray, .int .i64 e]) ∧ Below w.heap.size w w' := by
  subst hk hx
  have := seal_any k b s w hs
  rw [he] at this
  exact this
set_option maxHeartbeats 2000000 in
theorem newest_nil (w : World) : Calls Try.prog 52 #[.pointer none] w fun e w' => e = .returned (.tuple #[.agg #[.int .i64 0, .string (str [])], .int .i64 2]) ∧ Below w.heap.size w w' := by
  have hg := heap_alloc_last w (.cells (rtC ⟨0, []⟩) 29 (0, 0))
  have ST := Lib.hid (st_rt (r := ⟨0, []⟩) hg)
  have Hg := Lib.hid (setRow_heap _ _ _ (rtC ⟨0, []⟩) _ _ hg)
  have X := Lib.hid (below_setRow (extAl w (.cells (rtC ⟨0, []⟩) 29 (0, 0))) (Nat.le_refl _) (rtC ⟨0, []⟩))
  clear hg
  go_enter Try.func52, Try.ntmps52
  go_wp2_with (first | (refine wpList_al rfl 29 rfl alloc_rt ?_; simp only [Act.put]) | (refine wpList_bd rfl 29 rfl build_rt ?_; simp only [Act.put]) | (refine wpList_st rfl 29 _ _ rfl ST.out ?_; simp only [Act.put]))
  exact bodyPost_ret (results_cell_tmp Try.results52 _ _ _ _ _ _ _ rfl Hg.out Try.underlying29 rfl (by rw [info_rt]; rfl)) rfl ⟨rfl, X.out⟩
theorem put_nil (t : Int) (l : List UInt8) (w : World) : Calls Try.prog 50 #[.pointer none, .agg #[.int .i64 t, .string (str l)]] w fun e w' => e = .returned (.int .i64 2) ∧ Below w.heap.size w w' := by
  go_enter Try.func50, Try.ntmps50
  go_wp2
  go_ret
  exact ⟨rfl, by (repeat' (first | (with_reducible assumption) | (with_reducible exact Below.refl _ _) | (with_reducible refine below_sc ?_ ?_) | ((with_reducible show (_ : Nat) ≤ _); omega) | refine Below.setCell ?_ (by first | omega | (simp; done) | (simp; omega)) _ | refine Below.alloc ?_ (by first | omega | (simp; done) | (simp; omega)) _ | refine Below.drew ?_ | refine below_drewN ?_ _ | refine Below.trans ?_ (Below.mono (by assumption) (by first | omega | (simp; done) | (simp; omega)))))⟩
theorem wpList_ldr {P : Program} {ops : Array Oper} {rest : List Oper} {o : Oper} {a : Act} {w : World} {Q : Exit → Act → World → Prop} (hgd : o.guard = none) (ty : TypeId) (x : Operand) (ho : o.op = .load ty x) {v : Value} (hr : (Instr.loadAt ty (a.eval x)).run P w = .ok v w)
    (h : wpList P ops Q rest (a.put o.dst v) w) : wpList P ops Q (o :: rest) a w := wpList_ld hgd ty x ho hr h
end Go.Proofs.Ytobcfocbglkicaa
