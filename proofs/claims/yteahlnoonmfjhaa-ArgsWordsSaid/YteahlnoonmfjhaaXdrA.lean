/- Walks of package xdr, that write: words, padding, memory, Word, Long, Int, Flag, Text, Fixed. -/
import Derived.Test.YteahlnoonmfjhaaRows
import Derived.Test.YteahlnoonmfjhaaBytes
set_option linter.unusedVariables false
set_option maxRecDepth 100000
namespace Go.Proofs.Yteahlnoonmfjhaa
open Go.RowKit

theorem wordOf_any (n : Int) (h0 : 0 ≤ n) (h1 : n ≤ 4294967295) (w : World) :
    Calls Try.prog 99 #[.int .u32 n] w fun e w' => e = .returned (.agg (bvs (beN n 4)).toArray) ∧ Below w.heap.size w w' := by
  have hv : (bvs (beN n 4)).toArray = #[.int .u8 (n / 16777216), .int .u8 (n / 65536 % 256), .int .u8 (n / 256 % 256), .int .u8 (n % 256)] := by
    have e : n / 16777216 % 256 = n / 16777216 := by omega
    simp only [beN, bvs, List.map_cons, List.map_nil, bv_byteOf]
    simp [e]
  rw [hv]
  go_enter Try.func99, Try.ntmps99
  go_wp2
  exact bodyPost_ret (v := .agg #[.int .u8 (n / 16777216), .int .u8 (n / 65536 % 256), .int .u8 (n / 256 % 256), .int .u8 (n % 256)]) (by simp only [results, Try.results99]; go_simp) rfl ⟨rfl, by (repeat' (first | (with_reducible assumption) | (with_reducible exact Below.refl _ _) | (with_reducible refine below_sc ?_ ?_) | ((with_reducible show (_ : Nat) ≤ _); omega) | refine Below.setCell ?_ (by first | omega | (simp; done) | (simp; omega)) _ | refine Below.alloc ?_ (by first | omega | (simp; done) | (simp; omega)) _ | refine Below.drew ?_ | refine below_drewN ?_ _ | refine Below.trans ?_ (Below.mono (by assumption) (by first | omega | (simp; done) | (simp; omega)))))⟩

/-- How many 00s make whole words of n bytes. -/
def padN (n : Nat) : Nat := (4 - n % 4) % 4
theorem padding_any (n : Nat) (w : World) (h : n ≤ 1000000) :
    Calls Try.prog 143 #[.int .i64 n] w fun e w' => e = .returned (.int .i64 (padN n : Nat)) ∧ Below w.heap.size w w' := by
  have e : (padN n : Int) = (4 - (n : Int) % 4) % 4 := by unfold padN; omega
  rw [e]
  go_enter Try.func143, Try.ntmps143
  go_wp2
  go_ret
  exact ⟨rfl, by (repeat' (first | (with_reducible assumption) | (with_reducible exact Below.refl _ _) | (with_reducible refine below_sc ?_ ?_) | ((with_reducible show (_ : Nat) ≤ _); omega) | refine Below.setCell ?_ (by first | omega | (simp; done) | (simp; omega)) _ | refine Below.alloc ?_ (by first | omega | (simp; done) | (simp; omega)) _ | refine Below.drew ?_ | refine below_drewN ?_ _ | refine Below.trans ?_ (Below.mono (by assumption) (by first | omega | (simp; done) | (simp; omega)))))⟩

/-- The bytes' type, as append asks for it. -/
structure ByteT (i : TypeInfo) (z : Value) : Prop where
  hi : Try.prog.info? 5 = some i
  size : i.size = 1
  bytes : i.bytes = 1
  zero : i.zero = some z
  cells : z.cells = #[bv 0]
theorem byteT : ∃ i z, ByteT i z := by
  have h : (Try.prog.info? 5).map (fun i => (i.zero, i.size, i.bytes)) = some (some (.int .u8 0), 1, 1) := by kernel_rfl
  obtain ⟨i, hi, hz0, hz1, hz2⟩ := info_parts h
  exact ⟨i, _, ⟨hi, hz1, hz2, hz0, rfl⟩⟩
theorem appR {w : World} {B : Nat} {v x : Value} {l l2 : List UInt8} {c : Nat} {tx ty : TypeId} (ho : Own w B 5 v l c) (hs : Src Try.prog 1 tx x l2.length (bvs l2) w) (hc : l.length + l2.length ≤ c) :
    ∃ v' w', (Builtin.append_ #[47, tx] ty #[v, x]).run Try.prog w = .ok v' w' ∧ Own w' B 5 v' (l ++ l2) c ∧ Below B w w' ∧ w'.heap.size = w.heap.size := by
  obtain ⟨i, z, b⟩ := byteT
  exact app_room Try.underlying47 b.hi b.size ho hs hc
theorem appZ {w : World} {B : Nat} {v x : Value} {l l2 : List UInt8} {tx ty : TypeId} (ho : OwnZ w B 5 v l) (hs : Src Try.prog 1 tx x l2.length (bvs l2) w) (hB : B ≤ w.heap.size) (hc : l.length + l2.length ≤ 100000000) :
    ∃ v' w', (Builtin.append_ #[47, tx] ty #[v, x]).run Try.prog w = .ok v' w' ∧ OwnZ w' B 5 v' (l ++ l2) ∧ Below B w w' := by
  obtain ⟨i, z, b⟩ := byteT
  exact app_any Try.underlying47 b.hi b.size b.bytes b.zero b.cells ho hs hB (by omega)
theorem mkR (w : World) (n c : Nat) (hc : c ≤ 100000000) (hn : n ≤ c) : (Instr.makeSlice 47 (.int .i64 n) (.int .i64 c)).run Try.prog w = .ok (.slice (some ⟨w.heap.size, 0, none⟩) n c) (w.alloc (.cells (bvs (List.replicate c 0)).toArray 5)) := by
  obtain ⟨i, z, b⟩ := byteT
  have hz := b.cells
  have := run_make (P := Try.prog) w 47 5 i z Try.underlying47 b.hi b.zero .i64 .i64 (n : Int) (c : Int) (by omega) (by omega) (by rw [b.bytes]; omega) (by omega)
  rw [this, b.size, hz]
  simp only [Int.toNat_natCast, Nat.mul_one, made_bytes]
theorem mkR0 (w : World) (c : Nat) (hc : c ≤ 100000000) : (Instr.makeSlice 47 (.int .i64 0) (.int .i64 c)).run Try.prog w = .ok (.slice (some ⟨w.heap.size, 0, none⟩) 0 c) (w.alloc (.cells (bvs (List.replicate c 0)).toArray 5)) := mkR w 0 c hc (Nat.zero_le _)
theorem srcS {w : World} {v : Value} {l : List UInt8} (h : RS w v l) : Src Try.prog 1 47 v l.length (bvs l) w := h.src Try.underlying47
theorem srcT {w : World} (l : List UInt8) : Src Try.prog 1 9 (.string (str l)) l.length (bvs l) w := str_src Try.underlying9

theorem behind_any (v : Value) (l : List UInt8) (m : Nat) (w : World) (hv : RS w v l) (h : l.length + m ≤ 1000000) :
    Calls Try.prog 100 #[v, .int .i64 m] w fun e w' => ∃ v', e = .returned v' ∧ Own w' w.heap.size 5 v' l (l.length + m) ∧ Below w.heap.size w w' := by
  obtain ⟨A, c, rfl⟩ := hv.form
  have hm := mkR0 w (l.length + m) (by omega)
  have e : ((l.length + m : Nat) : Int) = (l.length : Int) + m := by omega
  rw [e] at hm
  obtain ⟨v', w', hr, ho, hb, hz⟩ := appR (ty := 47) (own_made (w := w) (B := w.heap.size) (c := l.length + m) (T := 5) (Nat.le_refl _)) (srcS (hv.ext (Below.refl _ _ |>.alloc (Nat.le_refl _) _))) (by simp)
  go_enter Try.func100, Try.ntmps100
  go_wp2_with (at_builtin; refine wpList_app rfl _ _ _ _ rfl hr ?_)
  go_ret
  exact ⟨_, rfl, ho, ((Below.refl _ _).alloc (Nat.le_refl _) _).trans hb⟩
end Go.Proofs.Yteahlnoonmfjhaa
