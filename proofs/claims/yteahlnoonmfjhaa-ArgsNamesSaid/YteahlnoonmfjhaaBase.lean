/- Generic helpers of this claim: worlds that extend a world, regions that draw their order over such worlds, bytes as lists. No statement of its own. -/
import Derived.WalkKit
import Derived.WalkLawsBesides
import Derived.Lib.Hide
import Derived.Deep.Quiet
import Derived.BigQuiet
import Derived.Laws.StructEq
import Derived.Deep.WholeRow
import Derived.Laws.CopyOwn
set_option linter.unusedVariables false
namespace Go.Proofs.Yteahlnoonmfjhaa
open Go.RowKit

/-- The worlds that are as w0 below block number B. -/
structure ExtOf (B : Nat) (w0 : World) where
  val : World
  ok : Below B w0 val
instance {B : Nat} {w0 : World} : Nonempty (ExtOf B w0) := ⟨⟨w0, Below.refl _ _⟩⟩

theorem ExtOf.cell {B : Nat} {w0 : World} (e : ExtOf B w0) {p : Addr} {v : Value} (h : w0.cell? p = some v) (hp : p.block < B) : e.val.cell? p = some v := (e.ok.cell hp).trans h

theorem wp_region_ext {P : Program} {id : Nat} {Q : Exit → Act → World → Prop} {a : Act} {w : World} {l : List Oper} (B : Nat) (hm : P.follows .mixedOrders = true) (hB : Region.lexB .any l.toArray = true)
    (h : wpQuiet P l.toArray (fun w' => ∃ e : ExtOf B w, w' = e.val) (fun a' => ∀ w', (∃ e : ExtOf B w, w' = e.val) → Q .normal a' w') l a) : (Code.region id l.toArray true).wp P Q a w :=
  wp_region_quiet (C := fun w' => ∃ e : ExtOf B w, w' = e.val) hm hB ⟨⟨_, (Below.refl B w).drew⟩, rfl⟩ (by simpa using h)

/-- A contract that only makes new memory, met in a world of the class. -/
theorem ext_of {P : Program} {f : FuncId} {args : Array Value} {w : World} {B : Nat} {e : ExtOf B w} {v : Value} (hB : B ≤ w.heap.size)
    (h : Calls P f args e.val fun r w' => r = .returned v ∧ Below e.val.heap.size e.val w') : Calls P f args e.val fun r w'' => r = .returned v ∧ ∃ e' : ExtOf B w, w'' = e'.val :=
  h.mono fun _ w' ⟨he, hm⟩ => ⟨he, ⟨w', e.ok.trans (hm.mono (Nat.le_trans hB e.ok.size))⟩, rfl⟩

theorem bcell {W w1 : World} (hb : Below W.heap.size W w1) : (∀ b o, b < W.heap.size → w1.cell? ⟨b, o, none⟩ = W.cell? ⟨b, o, none⟩) ∧ (∀ b o, b < W.heap.size → w1.frozen? ⟨b, o, none⟩ = W.frozen? ⟨b, o, none⟩) :=
  ⟨fun b o h => hb.cell (p := ⟨b, o, none⟩) h, fun b o h => hb.frozen (p := ⟨b, o, none⟩) h⟩

theorem cellB {B : Nat} {w w' : World} (h : Below B w w') : ∀ k o, k < B → w'.cell? ⟨k, o, none⟩ = w.cell? ⟨k, o, none⟩ := fun k o hk => h.cell (p := ⟨k, o, none⟩) hk
theorem frozenB {B : Nat} {w w' : World} (h : Below B w w') : ∀ k o, k < B → w'.frozen? ⟨k, o, none⟩ = w.frozen? ⟨k, o, none⟩ := fun k o hk => h.frozen (p := ⟨k, o, none⟩) hk
theorem ExtOf.cellB {B : Nat} {w0 : World} : ∀ (e : ExtOf B w0) k o, k < B → e.val.cell? ⟨k, o, none⟩ = w0.cell? ⟨k, o, none⟩ := fun e k o hk => e.ok.cell (p := ⟨k, o, none⟩) hk
theorem below_drewN {B : Nat} {a w : World} (h : Below B a w) (n : Nat) : Below B a (w.drewN n) := ⟨h.os, h.tape, h.output, h.size, h.block⟩

/-- A block of three cells that is known whole: its cells, none frozen. -/
theorem blk3 {w : World} {g : Nat} {T : TypeId} {a b c : Value} (h : w.heap[g]? = some (.cells #[a, b, c] T (0, 0))) :
    w.cell? ⟨g, 0, none⟩ = some a ∧ w.cell? ⟨g, 1, none⟩ = some b ∧ w.cell? ⟨g, 2, none⟩ = some c ∧ w.frozen? ⟨g, 0, none⟩ = false ∧ w.frozen? ⟨g, 1, none⟩ = false ∧ w.frozen? ⟨g, 2, none⟩ = false ∧ g < w.heap.size :=
  ⟨by simp [World.cell?, h], by simp [World.cell?, h], by simp [World.cell?, h], by simp [World.frozen?, h], by simp [World.frozen?, h], by simp [World.frozen?, h], (Array.getElem?_eq_some_iff.1 h).1⟩
/-- Its three cells written one behind the other. -/
theorem set3 {w : World} {g : Nat} {T : TypeId} {a b c : Value} (x y z : Value) (h : w.heap[g]? = some (.cells #[a, b, c] T (0, 0))) :
    ((w.setCell ⟨g, 0, none⟩ x).setCell ⟨g, 1, none⟩ y).setCell ⟨g, 2, none⟩ z = w.setRow g #[x, y, z] := by
  rw [setCell_eq_setRow w g 0 _ T (0, 0) _ h]
  have h1 := setRow_heap w g _ (#[a, b, c].setIfInBounds 0 x) T (0, 0) h
  rw [setCell_eq_setRow _ g 1 _ T (0, 0) _ h1, setRow_setRow]
  have h2 := setRow_heap w g _ ((#[a, b, c].setIfInBounds 0 x).setIfInBounds 1 y) T (0, 0) h
  rw [setCell_eq_setRow _ g 2 _ T (0, 0) _ h2, setRow_setRow]
  rfl

/-! Loads and stores of whole values, by what the instruction's run is known to be. -/
section
variable {P : Program} {ops : Array Oper} {rest : List Oper} {o : Oper} {a : Act} {w w' : World} {K : Act → World → Prop} {Q : Exit → Act → World → Prop}
theorem wpList_ld (hgd : o.guard = none) (ty : TypeId) (x : Operand) (ho : o.op = .load ty x) {v : Value} (hr : (Instr.loadAt ty (a.eval x)).run P w = .ok v w)
    (h : wpList P ops Q rest (a.put o.dst v) w) : wpList P ops Q (o :: rest) a w :=
  wpList_plain hgd fun K hK => by unfold Oper.wp execOp; simp only [ho, Sem.run_bind, hr, Result.andThen_ok, Sem.run_pure]; exact hK _ _ h
theorem wpList_st (hgd : o.guard = none) (ty : TypeId) (x y : Operand) (ho : o.op = .store ty x y) (hr : (Instr.storeAt ty (a.eval x) (a.eval y)).run P w = .ok () w')
    (h : wpList P ops Q rest (a.put o.dst undef) w') : wpList P ops Q (o :: rest) a w :=
  wpList_plain hgd fun K hK => by unfold Oper.wp execOp; simp only [ho, Sem.run_bind, hr, Result.andThen_ok, Sem.run_pure]; exact hK _ _ h
theorem quiet_ld {C : World → Prop} {K : Act → Prop} (ty : TypeId) (x : Operand) (ho : o.op = .load ty x) {v : Value} (hr : ∀ w, C w → (Instr.loadAt ty (a.eval x)).run P w = .ok v w)
    (hk : K (a.put o.dst v)) : o.quiet P a C K :=
  ⟨v, fun w hw => by unfold Oper.quietAt execOp; simp only [ho, Sem.run_bind, hr w hw, Result.andThen_ok, Sem.run_pure]; exact ⟨rfl, rfl⟩, hk⟩
end
theorem loadAt_row {P : Program} {w : World} {g : Nat} {t ty e : TypeId} {n : Nat} {cs : Array Value} {fr : Nat × Nat} (hg : w.heap[g]? = some (.cells cs t fr)) (hu : P.underlying ty = some (.array n e)) (hi : (P.info? ty).map (·.size) = some cs.size) :
    (Instr.loadAt ty (.pointer (some ⟨g, 0, none⟩))).run P w = .ok (.agg cs) w := by
  simp only [Instr.loadAt, Instr.sureAddr, Sem.run_bind, Sem.run_pure, Result.andThen]
  exact run_loadVar_row _ _ _ _ _ fr _ hg hu rfl hi
theorem storeAt_row {P : Program} {w : World} {g : Nat} {t ty : TypeId} {cs old : Array Value} (hg : w.heap[g]? = some (.cells old t (0, 0))) (hi : (P.info? ty).map (·.size) = some cs.size) (ho : old.size = cs.size) (h1 : cs.all (·.oneCell') = true) :
    (Instr.storeAt ty (.pointer (some ⟨g, 0, none⟩)) (.agg cs)).run P w = .ok () (w.setRow g cs) := by
  simp only [Instr.storeAt, Instr.sureAddr, Sem.run_bind, Sem.run_pure, Result.andThen]
  exact run_storeVar_row _ _ _ _ _ _ hg hi ho h1

/-- The string of a list of bytes. -/
def str (l : List UInt8) : ByteArray := ⟨l.toArray⟩
theorem str_data (l : List UInt8) : (str l).data.toList = l := rfl
theorem str_toList (s : ByteArray) : str s.data.toList = s := rfl
theorem str_size (l : List UInt8) : (str l).size = l.length := by simp [str, ByteArray.size]
theorem strL (l : List UInt8) : (str l).toList = l := by rw [ByteArray.toList_eq]; rfl
theorem str_extract (l : List UInt8) (a b : Nat) : (str l).extract a b = str ((l.drop a).take (b - a)) := by
  apply ByteArray.ext
  simp [str, ByteArray.data_extract, List.extract_eq_take_drop]
theorem str_inj {a b : List UInt8} (h : str a = str b) : a = b := by
  have := congrArg (fun s : ByteArray => s.data.toList) h
  simpa [str_data] using this
theorem str_append (a b : List UInt8) : str a ++ str b = str (a ++ b) := by
  simp only [str, ByteArray.mk_append_mk]

theorem str_get {l : List UInt8} {i : Nat} (h : i < (str l).size) : (str l)[i] = l[i]'(by rw [str_size] at h; exact h) := rfl

/-- A byte as a value. -/
def bv (b : UInt8) : Value := .int .u8 (b.toNat : Int)
def bvs (l : List UInt8) : List Value := l.map bv
def byteOf (n : Int) : UInt8 := UInt8.ofNat (n % 256).toNat
theorem byteOf_toNat (n : Int) : ((byteOf n).toNat : Int) = n % 256 := by
  unfold byteOf
  rw [UInt8.toNat_ofNat']
  omega
theorem bv_byteOf (n : Int) : bv (byteOf n) = .int .u8 (n % 256) := by unfold bv; rw [byteOf_toNat]
theorem bvs_length (l : List UInt8) : (bvs l).length = l.length := by simp [bvs]

theorem conv_bytes {P : Program} {w : World} {src e dst : TypeId} (hs : P.underlying src = some (.slice e)) (he : P.underlying e = some (.int .u8)) (hd : P.underlying dst = some .string)
    (b off len cap : Nat) (l : List UInt8) (hlen : l.length = len) (hcell : ∀ i, i < len → w.cell? ⟨b, off + i, none⟩ = (bvs l)[i]?) :
    (convert src dst (.slice (some ⟨b, off, none⟩) len cap)).run P w = .ok (.string (str l)) w := by
  rw [run_convert_bytes_arg w src e hs he b off len cap (l.map fun b => (b.toNat : Int)) (by simpa using hlen) (fun i hi => by
    rw [hcell i hi]
    have : i < l.length := by omega
    simp [bvs, bv, this]) dst hd]
  congr 2
  unfold strOfNums str
  congr 2
  rw [List.map_map]
  conv => rhs; rw [← List.map_id l]
  refine List.map_congr_left fun b _ => ?_
  simp

theorem conv_row {P : Program} {w : World} {src e dst T : TypeId} {fr : Nat × Nat} (hs : P.underlying src = some (.slice e)) (he : P.underlying e = some (.int .u8)) (hd : P.underlying dst = some .string)
    {g len cap : Nat} {l : List UInt8} (hg : w.heap[g]? = some (.cells (bvs l).toArray T fr)) (hlen : l.length = len) :
    (convert src dst (.slice (some ⟨g, 0, none⟩) len cap)).run P w = .ok (.string (str l)) w :=
  conv_bytes hs he hd g 0 len cap l hlen fun i hi => by rw [cell_of_row _ _ _ _ _ _ hg]; simp

theorem or_byte (x b : Int) (hx : 0 ≤ x) (hx1 : x < 36028797018963968) (hb : 0 ≤ b) (hb1 : b < 256) : bits .or .i64 (x * 256) b = x * 256 + b := by
  obtain ⟨m, rfl⟩ := Int.eq_ofNat_of_zero_le hx
  obtain ⟨k, rfl⟩ := Int.eq_ofNat_of_zero_le hb
  have e1 : ((m : Int) * 256) = ((m * 256 : Nat) : Int) := by omega
  rw [e1]
  have h1 : (BitVec.ofInt 64 ((m * 256 : Nat) : Int)).toNat = m * 256 := by rw [BitVec.ofInt_natCast, BitVec.toNat_ofNat]; exact Nat.mod_eq_of_lt (by omega)
  have h2 : (BitVec.ofInt 64 ((k : Nat) : Int)).toNat = k := by rw [BitVec.ofInt_natCast, BitVec.toNat_ofNat]; exact Nat.mod_eq_of_lt (by omega)
  have e2 : m * 256 ||| k = m * 256 + k := by
    have := Nat.two_pow_add_eq_or_of_lt (i := 8) (b := k) (by omega) m
    rw [show m * 256 = 2 ^ 8 * m by omega]; omega
  show IntKind.i64.wrap ((BitVec.ofInt 64 ((m * 256 : Nat) : Int) ||| BitVec.ofInt 64 ((k : Nat) : Int)).toNat : Int) = _
  rw [BitVec.toNat_or, h1, h2, e2, IntKind.wrap_i64]
  omega

theorem conv_rowAt {P : Program} {w : World} {src e dst T : TypeId} {fr : Nat × Nat} (hs : P.underlying src = some (.slice e)) (he : P.underlying e = some (.int .u8)) (hd : P.underlying dst = some .string)
    {g off len cap : Nat} {l : List UInt8} (hg : w.heap[g]? = some (.cells (bvs l).toArray T fr)) (hlen : off + len ≤ l.length) :
    (convert src dst (.slice (some ⟨g, off, none⟩) len cap)).run P w = .ok (.string (str ((l.drop off).take len))) w :=
  conv_bytes hs he hd g off len cap _ (by simp; omega) fun i hi => by
    rw [cell_of_row _ _ _ _ _ _ hg]
    simp only [bvs, List.getElem?_toArray, List.getElem?_map, List.getElem?_take, List.getElem?_drop, if_pos hi]

theorem bytes_of {P : Program} (w : World) {src dst e : TypeId} (l : List UInt8) (hs : P.underlying src = some .string) (hd : P.underlying dst = some (.slice e)) (he : P.underlying e = some (.int .u8)) :
    (convert src dst (.string (str l))).run P w = .ok (.slice (some ⟨w.heap.size, 0, none⟩) l.length (grownCap w l.length 0 e))
      (w.drew.alloc (.cells (bvs (l ++ List.replicate (grownCap w l.length 0 e - l.length) 0)).toArray e (grownCap w l.length 0 e, grownCap w l.length 0 e + 1))) := by
  have hc := grownCap_ge w l.length 0 e
  have hr : ∀ C, l.length ≤ C → bytesRow (str l) C = (bvs (l ++ List.replicate (C - l.length) 0)).toArray := fun C hC => by
    unfold bytesRow
    rw [str_size]
    simp [bvs, bv, str]
  rw [run_bytes_of_string w src dst e (str l) hs hd he, str_size, hr _ hc]
  have hsz : (bvs (l ++ List.replicate (grownCap w l.length 0 e - l.length) 0)).toArray.size = grownCap w l.length 0 e := by simp [bvs]; omega
  rw [hsz]
theorem bytes_rest (l : List UInt8) (C : Nat) (h : l.length ≤ C) : (l ++ List.replicate (C - l.length) 0).length = C := by simp; omega

/-- The k low bytes of a number, the greatest first. -/
def beN (n : Int) : Nat → List UInt8
  | 0 => []
  | k + 1 => byteOf (n / 2 ^ (8 * k)) :: beN n k
theorem beN_length (n : Int) : ∀ k, (beN n k).length = k
  | 0 => rfl
  | k + 1 => by simp [beN, beN_length n k]

/-- A place of l, k bytes of n written from its end on. -/
def putC (l : List UInt8) (off len : Nat) (n : Int) (k : Nat) : List UInt8 := l.take (off + len - k) ++ beN n k ++ l.drop (off + len)
theorem putC_length {l : List UInt8} {off len : Nat} (n : Int) {k : Nat} (hl : off + len ≤ l.length) (hk : k ≤ len) : (putC l off len n k).length = l.length := by
  simp [putC, beN_length]; omega
theorem putC_zero {l : List UInt8} {off len : Nat} (n : Int) : putC l off len n 0 = l := by simp [putC, beN]
theorem putC_step {l : List UInt8} {off len : Nat} (n : Int) {k : Nat} (hl : off + len ≤ l.length) (hk : k < len) :
    (putC l off len n k).set (off + (len - 1 - k)) (byteOf (n / 2 ^ (8 * k))) = putC l off len n (k + 1) := by
  have e : off + len - k = (off + (len - 1 - k)) + 1 := by omega
  have e' : off + len - (k + 1) = off + (len - 1 - k) := by omega
  unfold putC
  rw [e, e']
  generalize hp : off + (len - 1 - k) = p at *
  have hpl : p < l.length := by omega
  rw [List.take_succ_eq_append_getElem hpl, List.append_assoc, List.append_assoc, List.append_assoc]
  have hlen : (l.take p).length = p := by simp; omega
  rw [List.set_append_right _ _ (by omega), hlen, Nat.sub_self]
  simp [beN]

theorem oneCells (l : List UInt8) : (bvs l).toArray.all (·.oneCell') = true := by
  rw [Array.all_eq_true_iff_forall_mem]
  intro v hv
  simp [bvs] at hv
  obtain ⟨b, _, rfl⟩ := hv
  rfl
theorem bvs_size (l : List UInt8) : (bvs l).toArray.size = l.length := by simp [bvs]
theorem bvs_set (l : List UInt8) (i : Nat) (b : UInt8) : (bvs l).set i (bv b) = bvs (l.set i b) := by simp [bvs, List.map_set]
theorem bvs_get {l : List UInt8} {i : Nat} (h : i < l.length) : (bvs l)[i]? = some (bv l[i]) := by simp [bvs, h]

/-- A store into a row of bytes. -/
theorem setRow_store {w : World} {g i : Nat} {t : TypeId} {l : List UInt8} {old : Array Value} (hg : w.heap[g]? = some (.cells old t (0, 0))) (b : UInt8) :
    (w.setRow g (bvs l).toArray).setCell ⟨g, i, none⟩ (bv b) = w.setRow g (bvs (l.set i b)).toArray := by
  rw [setCell_eq_setRow _ g i _ t (0, 0) _ (setRow_heap w g old _ t (0, 0) hg), setRow_setRow, ← bvs_set]
  simp

end Go.Proofs.Yteahlnoonmfjhaa
