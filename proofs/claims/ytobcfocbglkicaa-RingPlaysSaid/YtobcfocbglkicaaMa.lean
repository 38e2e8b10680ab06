/- Texts of mine in one: XdrA, XdrB, XdrC, XdrD, RdA, RdB, RdC, RdD, RdE, RdF, RdG. No statement of its own. -/
import Derived.Test.YtobcfocbglkicaaRows
import Derived.Test.YtobcfocbglkicaaBytes
import Derived.Lib.SliceRun
set_option linter.unusedVariables false
set_option maxRecDepth 100000
namespace Go.Proofs.Ytobcfocbglkicaa
section
set_option linter.unusedVariables false
open Go.RowKit

theorem wordOf_any (n : Int) (h0 : 0 ≤ n) (h1 : n ≤ 4294967295) (w : World) :
    Calls Try.prog 79 #[.int .u32 n] w fun e w' => e = .returned (.agg (bvs (beN n 4)).toArray) ∧ Below w.heap.size w w' := by
  have hv : (bvs (beN n 4)).toArray = #[.int .u8 (n / 16777216), .int .u8 (n / 65536 % 256), .int .u8 (n / 256 % 256), .int .u8 (n % 256)] := by
    have e : n / 16777216 % 256 = n / 16777216 := by omega
    simp only [beN, bvs, List.map_cons, List.map_nil, bv_byteOf]
    simp [e]
  rw [hv]
  go_enter Try.func79, Try.ntmps79
  go_wp2
  exact bodyPost_ret (v := .agg #[.int .u8 (n / 16777216), .int .u8 (n / 65536 % 256), .int .u8 (n / 256 % 256), .int .u8 (n % 256)]) (by simp only [results, Try.results79]; go_simp) rfl ⟨rfl, by (repeat' (first | (with_reducible assumption) | (with_reducible exact Below.refl _ _) | (with_reducible refine below_sc ?_ ?_) | ((with_reducible show (_ : Nat) ≤ _); omega) | refine Below.setCell ?_ (by first | omega | (simp; done) | (simp; omega)) _ | refine Below.alloc ?_ (by first | omega | (simp; done) | (simp; omega)) _ | refine Below.drew ?_ | refine below_drewN ?_ _ | refine Below.trans ?_ (Below.mono (by assumption) (by first | omega | (simp; done) | (simp; omega)))))⟩

/-- How many 00s make whole words of n bytes. -/
def padN (n : Nat) : Nat := (4 - n % 4) % 4
/-- The bytes' type, as append asks for it. -/
structure ByteT (i : TypeInfo) (z : Value) : Prop where
  hi : Try.prog.info? 5 = some i
  size : i.size = 1
  bytes : i.bytes = 1
  zero : i.zero = some z
  cells : z.cells = #[bv 0]
theorem byteT : ∃ i z, ByteT i z := by
  have h : (Try.prog.info? 5).map (fun i => (i.zero, i.size, i.bytes)) = some (some (.int .u8 0), 1, 1) := by kernel_rfl
  obtain ⟨i, hi, hz0, hz1, hz2⟩ := info_parts h
  exact ⟨i, _, ⟨hi, hz1, hz2, hz0, rfl⟩⟩
theorem appR {w : World} {B : Nat} {v x : Value} {l l2 : List UInt8} {c : Nat} {tx ty : TypeId} (ho : Own w B 5 v l c) (hs : Src Try.prog 1 tx x l2.length (bvs l2) w) (hc : l.length + l2.length ≤ c) :
    ∃ v' w', (Builtin.append_ #[38, tx] ty #[v, x]).run Try.prog w = .ok v' w' ∧ Own w' B 5 v' (l ++ l2) c ∧ Below B w w' ∧ w'.heap.size = w.heap.size := by
  obtain ⟨i, z, b⟩ := byteT
  exact app_room Try.underlying38 b.hi b.size ho hs hc
theorem appZ {w : World} {B : Nat} {v x : Value} {l l2 : List UInt8} {tx ty : TypeId} (ho : OwnZ w B 5 v l) (hs : Src Try.prog 1 tx x l2.length (bvs l2) w) (hB : B ≤ w.heap.size) (hc : l.length + l2.length ≤ 100000000) :
    ∃ v' w', (Builtin.append_ #[38, tx] ty #[v, x]).run Try.prog w = .ok v' w' ∧ OwnZ w' B 5 v' (l ++ l2) ∧ Below B w w' := by
  obtain ⟨i, z, b⟩ := byteT
  exact app_any Try.underlying38 b.hi b.size b.bytes b.zero b.cells ho hs hB (by omega)
theorem mkR (w : World) (n c : Nat) (hc : c ≤ 100000000) (hn : n ≤ c) : (Instr.makeSlice 38 (.int .i64 n) (.int .i64 c)).run Try.prog w = .ok (.slice (some ⟨w.heap.size, 0, none⟩) n c) (w.alloc (.cells (bvs (List.replicate c 0)).toArray 5)) := by
  obtain ⟨i, z, b⟩ := byteT
  have hz := b.cells
  have := run_make (P := Try.prog) w 38 5 i z Try.underlying38 b.hi b.zero .i64 .i64 (n : Int) (c : Int) (by omega) (by omega) (by rw [b.bytes]; omega) (by omega)
  rw [this, b.size, hz]
  simp only [Int.toNat_natCast, Nat.mul_one, made_bytes]
theorem mkR0 (w : World) (c : Nat) (hc : c ≤ 100000000) : (Instr.makeSlice 38 (.int .i64 0) (.int .i64 c)).run Try.prog w = .ok (.slice (some ⟨w.heap.size, 0, none⟩) 0 c) (w.alloc (.cells (bvs (List.replicate c 0)).toArray 5)) := mkR w 0 c hc (Nat.zero_le _)
theorem srcS {w : World} {v : Value} {l : List UInt8} (h : RS w v l) : Src Try.prog 1 38 v l.length (bvs l) w := h.src Try.underlying38
theorem srcT {w : World} (l : List UInt8) : Src Try.prog 1 9 (.string (str l)) l.length (bvs l) w := str_src Try.underlying9

theorem behind_any (v : Value) (l : List UInt8) (m : Nat) (w : World) (hv : RS w v l) (h : l.length + m ≤ 1000000) :
    Calls Try.prog 80 #[v, .int .i64 m] w fun e w' => ∃ v', e = .returned v' ∧ Own w' w.heap.size 5 v' l (l.length + m) ∧ Below w.heap.size w w' := by
  obtain ⟨A, c, rfl⟩ := hv.form
  have hm := mkR0 w (l.length + m) (by omega)
  have e : ((l.length + m : Nat) : Int) = (l.length : Int) + m := by omega
  rw [e] at hm
  obtain ⟨v', w', hr, ho, hb, hz⟩ := appR (ty := 38) (own_made (w := w) (B := w.heap.size) (c := l.length + m) (T := 5) (Nat.le_refl _)) (srcS (hv.ext (Below.refl _ _ |>.alloc (Nat.le_refl _) _))) (by simp)
  go_enter Try.func80, Try.ntmps80
  go_wp2_with (at_builtin; refine wpList_app rfl _ _ _ _ rfl hr ?_)
  go_ret
  exact ⟨_, rfl, ho, ((Below.refl _ _).alloc (Nat.le_refl _) _).trans hb⟩
end

section
set_option linter.unusedVariables false
open Go.RowKit

/-- A truth value's number. -/
def b2i (b : Bool) : Int := if b then 1 else 0
/-- The bytes of a number of 64 bits. -/
def beL (n : Int) : List UInt8 := beN (n / 4294967296) 4 ++ beN (n % 4294967296) 4
theorem beL_length (n : Int) : (beL n).length = 8 := by simp [beL, beN_length]

set_option maxRecDepth 100000 in
theorem Long_any (v : Value) (l : List UInt8) (n : Int) (w : World) (hv : RS w v l) (h0 : 0 ≤ n) (h1 : n ≤ 18446744073709551615) (h : l.length ≤ 900000) :
    Calls Try.prog 56 #[v, .int .u64 n] w fun e w' => ∃ v', e = .returned v' ∧ Own w' w.heap.size 5 v' (l ++ beL n) (l.length + 8) ∧ Below w.heap.size w w' := by
  obtain ⟨A, c, rfl⟩ := hv.form
  go_enter Try.func56, Try.ntmps56
  go_wp2_with fail
  refine (wordOf_any (n / 4294967296) (by omega) (by omega) _).mono ?_
  rintro e w1 ⟨rfl, hb1⟩; have hz1 := hb1.size; (try simp only [World.size_alloc] at hz1)
  go_wp2_with fail
  refine (wordOf_any (n % 4294967296) (by omega) (by omega) _).mono ?_
  rintro e w2 ⟨rfl, hb2⟩; have hz2 := hb2.size; (try simp only [World.size_alloc] at hz2)
  have hx0 : Ext w w2 := Ext.trans hb1 hb2
  have hlen : ∀ n, (bvs (beN n 4)).length = 4 := by simp [bvs_length, beN_length]
  obtain ⟨w3, hst3, hx3, hg3, hk3, hs3⟩ := st_at (P := Try.prog) (w0 := w2) (w := (w2.alloc (.cells #[.int .u8 0, .int .u8 0, .int .u8 0, .int .u8 0] 121)).alloc (.cells #[.int .u8 0, .int .u8 0, .int .u8 0, .int .u8 0] 121)) (l := beN (n / 4294967296) 4)
    (((Below.refl _ _).alloc (Nat.le_refl _) _).alloc (by simp) _) (Nat.le_refl _) ((Go.heap_alloc_old _ _ (r := w2.heap.size) (by simp)).trans (heap_alloc_last _ _)) (by simp [beN_length])
  obtain ⟨w4, hst4, hx4, hg4, hk4, hs4⟩ := st_at (P := Try.prog) (g := w2.heap.size + 1) (l := beN (n % 4294967296) 4) hx3 (Nat.le_succ _) (hk3 _ _ (by omega) (by simpa using heap_alloc_last (w2.alloc (.cells #[.int .u8 0, .int .u8 0, .int .u8 0, .int .u8 0] 121)) (.cells #[.int .u8 0, .int .u8 0, .int .u8 0, .int .u8 0] 121))) (by simp [beN_length])
  have hg3' := hk4 _ _ (by omega) hg3
  have hs5 : w2.heap.size + 2 ≤ w4.heap.size := by simp at hs3; omega
  clear hk3 hk4 hg3
  go_wp2_with fail
  refine wp_region_pieces 3  [(true, [0, 2]), (false, [1])] (by kernel_rfl) (by kernel_rfl) ?_; simp only [pick, List.map_cons, List.map_nil, List.flatMap_cons, List.flatMap_nil, Option.toList_some, List.singleton_append, List.drop_succ_cons, List.drop_zero, List.getElem?_cons_zero, List.getElem?_cons_succ]
  refine ⟨by kernel_rfl, ?_⟩; apply Exists.intro; refine ⟨fun ψ hψ hne => (by (repeat (go_big_quiet_step (( fail )))); exact wpQuiet_nil rfl), ?_⟩
  intro wa ha K hK
  have hxa : Ext w wa := hx0.trans (hx4.trans ha)
  go_wp2_with fail
  refine (behind_any (.slice A l.length c) l 8 wa (hv.ext hxa) (by omega)).mono ?_
  rintro e wb ⟨vb, rfl, hob, hbb⟩
  go_wp2_with fail
  refine hK _ _ hbb ?_
  intro wc hc
  have hxc : Ext w4 wc := (ha.trans hbb).trans hc
  have hgc := hxc.block _ (by omega) |>.trans hg3'
  obtain ⟨v5, w5, hr5, ho5, hb5, hz5⟩ := appR (ty := 38) (hob.ext hc) (srcS (rs_block (l := beN (n / 4294967296) 4) (off := 0) (c := 4) hgc (by simp) (by simp [beN_length]))) (by simp [beN_length])
  have hgd := (Below.mono (B' := w4.heap.size) hb5 (by exact ha.size)).block _ (by omega) |>.trans (hxc.block _ (by omega) |>.trans hg4)
  obtain ⟨v6, w6, hr6, ho6, hb6, hz6⟩ := appR (ty := 38) ho5 (srcS (rs_block (l := beN (n % 4294967296) 4) (off := 0) (c := 4) hgd (by simp) (by simp [beN_length]))) (by simp [beN_length])
  simp only [beN_length] at hr5 hr6
  go_wp2_with (first | (at_builtin; refine wpList_app rfl _ _ _ _ rfl hr5 ?_) | (at_builtin; refine wpList_app rfl _ _ _ _ rfl hr6 ?_))
  go_ret
  rw [List.append_assoc] at ho6
  exact ⟨_, rfl, ho6.mono hxa.size, Below.trans (Below.trans ((hxa.trans hbb).trans hc : Ext w wc) (hb5.mono hxa.size)) (hb6.mono hxa.size)⟩

end

section
set_option linter.unusedVariables false
open Go.RowKit

def zs (n : Nat) : List UInt8 := List.replicate n 0
theorem zs_length (n : Nat) : (zs n).length = n := by simp [zs]

/-- One byte in a new block. -/
theorem rs_one {w : World} {T : TypeId} (b : UInt8) : RS (w.alloc (.cells #[bv b] T)) (.slice (some ⟨w.heap.size, 0, none⟩) 1 1) [b] :=
  rs_block (l := [b]) (m := [b]) (off := 0) (c := 1) (heap_alloc_last w _) rfl (Nat.le_refl _)

/-- A text, and the 00s behind it. -/
def fixL (s : List UInt8) : List UInt8 := s ++ zs (padN s.length)
theorem padN_le (n : Nat) : padN n ≤ 3 := by unfold padN; omega
theorem fixL_length (s : List UInt8) : (fixL s).length = s.length + padN s.length := by simp [fixL, zs]

end

section
set_option linter.unusedVariables false
open Go.RowKit

/-- A new empty row. -/
theorem own_none {w : World} {T : TypeId} : Own (w.alloc (.cells #[] T)) w.heap.size T (.slice (some ⟨w.heap.size, 0, none⟩) 0 0) [] 0 :=
  ⟨w.heap.size, [], rfl, Nat.le_refl _, heap_alloc_last w _, rfl⟩
theorem ext_alloc (w : World) (o : Obj) : Ext w (w.alloc o) := (Below.refl _ w).alloc (Nat.le_refl _) o

/-- n, divided by 256, i times. -/
def q256 (n : Int) : Nat → Int
  | 0 => n
  | i + 1 => q256 n i / 256
theorem q256_eq (n : Int) : ∀ i, q256 n i = n / 2 ^ (8 * i)
  | 0 => by simp [q256]
  | i + 1 => by
    rw [q256, q256_eq n i, Int.ediv_ediv_of_nonneg (by exact_mod_cast Nat.zero_le _)]
    congr 1
    rw [show 8 * (i + 1) = 8 * i + 8 by omega, Int.pow_add]
    rfl
theorem q256_bd (n : Int) (h0 : 0 ≤ n) (h1 : n ≤ 4294967295) : ∀ i, 0 ≤ q256 n i ∧ q256 n i ≤ 4294967295
  | 0 => ⟨h0, h1⟩
  | i + 1 => by have := q256_bd n h0 h1 i; simp only [q256]; omega

theorem rs_oneI {w : World} {T : TypeId} (x : Int) : RS (w.alloc (.cells #[.int .u8 (x % 256)] T)) (.slice (some ⟨w.heap.size, 0, none⟩) 1 1) [byteOf x] := by
  rw [← bv_byteOf]
  exact rs_one _
theorem beN4_take (n : Int) : ∀ m, m < 4 → (beN n 4).take (m + 1) = (beN n 4).take m ++ [byteOf (q256 n (3 - m))]
  | 0, _ => by rw [q256_eq]; rfl
  | 1, _ => by rw [q256_eq]; rfl
  | 2, _ => by rw [q256_eq]; rfl
  | 3, _ => by rw [q256_eq]; rfl
  | m + 4, h => by omega

end

section
set_option linter.unusedVariables false
open Go.RowKit

/-- All of w is in w', but block g may have changed. -/
def But (g : Nat) (w w' : World) : Prop := w.grownBy w' (some g)
theorem But.refl (g : Nat) (w : World) : But g w w := ⟨rfl, rfl, rfl, Nat.le_refl _, fun _ _ _ => rfl⟩
theorem But.trans {g : Nat} {a b c : World} (h : But g a b) (k : But g b c) : But g a c :=
  ⟨k.os.trans h.os, k.tape.trans h.tape, k.output.trans h.output, Nat.le_trans h.size k.size, fun i hi hne => (k.block i (Nat.lt_of_lt_of_le hi h.size) hne).trans (h.block i hi hne)⟩
theorem But.of {g : Nat} {w w' : World} (h : Ext w w') : But g w w' := ⟨h.os, h.tape, h.output, h.size, fun i hi _ => h.block i hi⟩
theorem But.below {g B : Nat} {w w' : World} (h : But g w w') (hB : B ≤ g) (hBw : B ≤ w.heap.size) : Below B w w' :=
  ⟨h.os, h.tape, h.output, h.size, fun i hi => h.block i (by omega) (by simp; omega)⟩
theorem But.cell {g : Nat} {w w' : World} (h : But g w w') {k o : Nat} (hk : k < w.heap.size) (hne : k ≠ g) : w'.cell? ⟨k, o, none⟩ = w.cell? ⟨k, o, none⟩ :=
  World.cell?_of_block (h.block k hk (by simpa using hne))

/-- The rest of a reader, that is not bad: its bytes; none: bad. -/
abbrev St := Option (List UInt8)
def St.l (s : St) : List UInt8 := s.getD []

/-- A reader in block g. -/
def Rd (T : TypeId) (w : World) (g : Nat) (s : St) : Prop :=
  ∃ A c, w.heap[g]? = some (.cells #[.slice A s.l.length c, .bool s.isNone] T (0, 0)) ∧ RS w (.slice A s.l.length c) s.l

theorem RS.but {w w' : World} {g : Nat} {v a : Value} {b : Bool} {l : List UInt8} {T : TypeId} {A : Option Addr} {n c : Nat} (h : RS w v l) (k : But g w w') (hg : w.heap[g]? = some (.cells #[.slice A n c, .bool b] T (0, 0))) : RS w' v l := by
  rcases h with h | ⟨b', off, c', rfl, hb, hc, hj⟩
  · exact .inl h
  · refine .inr ⟨b', off, c', rfl, Nat.lt_of_lt_of_le hb k.size, hc, fun j hjl => ?_⟩
    have hne : b' ≠ g := by
      rintro rfl
      have h1 := hj j hjl
      rw [cell_of_row _ _ _ _ _ _ hg, bvs_get hjl] at h1
      match hoj : off + j, h1 with
      | 0, h1 => simp [bv] at h1
      | 1, h1 => simp [bv] at h1
      | m + 2, h1 => simp at h1
    exact (k.cell hb hne).trans (hj j hjl)
theorem Rd.lt {T : TypeId} {w : World} {g : Nat} {s : St} (h : Rd T w g s) : g < w.heap.size := by
  obtain ⟨A, c, hg, _⟩ := h
  exact (Array.getElem?_eq_some_iff.1 hg).1
theorem Rd.ext {T : TypeId} {w w' : World} {g : Nat} {s : St} (h : Rd T w g s) (k : Ext w w') : Rd T w' g s := by
  have hl := h.lt
  obtain ⟨A, c, hg, hr⟩ := h
  exact ⟨A, c, (k.block g hl).trans hg, hr.ext k⟩
/-- A reader stays what it is when another block changes, if that is a reader's too. -/
theorem Rd.but {T T' : TypeId} {w w' : World} {g g' : Nat} {s s' : St} (h : Rd T w g s) (h' : Rd T' w g' s') (hne : g ≠ g') (k : But g' w w') : Rd T w' g s := by
  have hl := h.lt
  obtain ⟨A, c, hg, hr⟩ := h
  obtain ⟨A', c', hg', _⟩ := h'
  exact ⟨A, c, (k.block g hl (by simpa using hne)).trans hg, hr.but (a := .bool true) k hg'⟩
/-- Its two cells written anew. -/
theorem Rd.set {T : TypeId} {w : World} {g : Nat} {s s' : St} {v : Value} {b : Bool} (h : Rd T w g s) (hv : RS w v s'.l) (hb : b = s'.isNone) : Rd T (w.setRow g #[v, .bool b]) g s' ∧ But g w (w.setRow g #[v, .bool b]) := by
  obtain ⟨A, c, hg, _⟩ := h
  have hbut : But g w (w.setRow g #[v, .bool b]) := ⟨rfl, rfl, rfl, by simp [World.setRow], fun i _ hne => setRow_other w g i _ (by simpa using hne)⟩
  obtain ⟨A', c', rfl⟩ := hv.form
  subst hb
  exact ⟨⟨A', c', setRow_heap _ _ _ _ _ _ hg, hv.but (a := .bool true) hbut hg⟩, hbut⟩

/-- A block of two cells. -/
theorem blk2 {w : World} {g : Nat} {T : TypeId} {a b : Value} (h : w.heap[g]? = some (.cells #[a, b] T (0, 0))) :
    w.cell? ⟨g, 0, none⟩ = some a ∧ w.cell? ⟨g, 1, none⟩ = some b ∧ w.frozen? ⟨g, 0, none⟩ = false ∧ w.frozen? ⟨g, 1, none⟩ = false ∧ g < w.heap.size :=
  ⟨by simp [World.cell?, h], by simp [World.cell?, h], by simp [World.frozen?, h], by simp [World.frozen?, h], (Array.getElem?_eq_some_iff.1 h).1⟩
theorem blk2_st0 {w : World} {g : Nat} {T : TypeId} {a b : Value} (x : Value) (h : w.heap[g]? = some (.cells #[a, b] T (0, 0))) : w.setCell ⟨g, 0, none⟩ x = w.setRow g #[x, b] := by
  rw [setCell_eq_setRow w g 0 _ T (0, 0) _ h]; rfl
theorem blk2_st1 {w : World} {g : Nat} {T : TypeId} {a b : Value} (y : Value) (h : w.heap[g]? = some (.cells #[a, b] T (0, 0))) : w.setCell ⟨g, 1, none⟩ y = w.setRow g #[a, y] := by
  rw [setCell_eq_setRow w g 1 _ T (0, 0) _ h]; rfl
theorem blk2_st10 {w : World} {g : Nat} {T : TypeId} {a b : Value} (x y : Value) (h : w.heap[g]? = some (.cells #[a, b] T (0, 0))) : (w.setCell ⟨g, 1, none⟩ y).setCell ⟨g, 0, none⟩ x = w.setRow g #[x, y] := by
  rw [blk2_st1 y h, blk2_st0 x (setRow_heap _ _ _ _ _ _ h), setRow_setRow]
end

section
set_option linter.unusedVariables false
open Go.RowKit

theorem eq_nil (a : Option Addr) (n c : Nat) (w : World) : (binOp .eql 38 (.slice a n c) (.slice none 0 0)).run Try.prog w = .ok (.bool a.isNone) w := Lib.run_eql_slice_nil w _ _ a n c 0 0 Try.underlying38
theorem clone_any (v : Value) (l : List UInt8) (w : World) (hv : RS w v l) (h : l.length ≤ 900000) :
    Calls Try.prog 85 #[v] w fun e w' => ∃ v', e = .returned v' ∧ OwnZ w' w.heap.size 5 v' l ∧ Below w.heap.size w w' := by
  have e1 := eq_nil
  rcases hv with ⟨rfl, rfl⟩ | hv'
  · go_enter Try.func85, Try.ntmps85
    go_wp2
    go_ret
    exact ⟨_, rfl, OwnZ.nil, by (repeat' (first | (with_reducible assumption) | (with_reducible exact Below.refl _ _) | (with_reducible refine below_sc ?_ ?_) | ((with_reducible show (_ : Nat) ≤ _); omega) | refine Below.setCell ?_ (by first | omega | (simp; done) | (simp; omega)) _ | refine Below.alloc ?_ (by first | omega | (simp; done) | (simp; omega)) _ | refine Below.drew ?_ | refine below_drewN ?_ _ | refine Below.trans ?_ (Below.mono (by assumption) (by first | omega | (simp; done) | (simp; omega)))))⟩
  · have hv : RS w v l := .inr hv'
    obtain ⟨b, off, c, rfl, -⟩ := hv'
    obtain ⟨v0, w0, hr0, ho0, hb0⟩ := appZ (ty := 38) (own_none (w := w) (T := 5)).z (srcS (hv.ext (ext_alloc w _))) (by simp) (by simp; omega)
    go_enter Try.func85, Try.ntmps85
    go_wp2_with (at_builtin; refine wpList_app rfl _ _ _ _ rfl hr0 ?_)
    go_ret
    exact ⟨_, rfl, ho0, Below.trans (ext_alloc w _) hb0⟩

theorem newReader_any (v : Value) (l : List UInt8) (w : World) (hv : RS w v l) (h : l.length ≤ 900000) :
    Calls Try.prog 62 #[v] w fun e w' => ∃ g, e = .returned (.pointer (some ⟨g, 0, none⟩)) ∧ Rd 129 w' g (some l) ∧ w.heap.size ≤ g ∧ Below w.heap.size w w' := by
  go_enter Try.func62, Try.ntmps62
  go_wp2_with fail
  refine (clone_any v l w hv h).mono ?_
  rintro e w1 ⟨v1, rfl, o1, b1⟩
  obtain ⟨A, c, rfl⟩ := o1.rs.form
  go_wp2_with fail
  go_ret
  exact ⟨_, rfl, ⟨A, c, heap_alloc_last _ _, o1.rs.ext (ext_alloc _ _)⟩, b1.size, Below.trans b1 ((ext_alloc w1 _ : Ext _ _).mono b1.size)⟩

theorem spoil_any (g : Nat) (s : St) (w : World) (h : Rd 129 w g s) :
    Calls Try.prog 93 #[.pointer (some ⟨g, 0, none⟩)] w fun e w' => e = .returned (.tuple #[]) ∧ Rd 129 w' g none ∧ But g w w' := by
  obtain ⟨h1, h2⟩ := h.set (s' := none) (b := true) RS.nil rfl
  obtain ⟨A, c, hg, hr⟩ := h
  obtain ⟨c0, c1, f0, f1, hz⟩ := blk2 hg
  rw [← blk2_st10 _ _ hg] at h1 h2
  clear hg
  go_enter Try.func93, Try.ntmps93
  go_wp2
  go_end0
  exact ⟨rfl, h1, h2⟩

end

section
set_option linter.unusedVariables false
open Go.RowKit

theorem take_no (g : Nat) (s : St) (n : Int) (w : World) (h : Rd 129 w g s) (hn : s = none ∨ n < 0 ∨ s.l.length < n) :
    Calls Try.prog 92 #[.pointer (some ⟨g, 0, none⟩), .int .i64 n] w fun e w' => e = .returned (.tuple #[.slice none 0 0, .bool false]) ∧ Rd 129 w' g none ∧ But g w w' := by
  have h0 := h
  obtain ⟨A, c, hg, hr⟩ := h
  obtain ⟨c0, c1, f0, f1, hz⟩ := blk2 hg
  clear hg
  cases s with
  | none =>
    simp only [Option.isNone_none] at c1
    go_enter Try.func92, Try.ntmps92
    go_wp2
    go_ret2
    exact ⟨rfl, h0, But.refl _ _⟩
  | some l =>
    simp only [Option.isNone_some] at c1
    have hl : St.l (some l) = l := rfl
    rw [hl] at c0 hr
    by_cases h1 : n < 0
    · go_enter Try.func92, Try.ntmps92
      go_wp2_with (go_at_call 93; refine (spoil_any _ _ _ h0).mono ?_; rintro e w1 ⟨rfl, r1, b1⟩)
      go_ret2
      exact ⟨rfl, r1, b1⟩
    · have h2 : (l.length : Int) < n := by
        rcases hn with hn | hn | hn
        · cases hn
        · exact absurd hn h1
        · exact hn
      go_enter Try.func92, Try.ntmps92
      go_wp2_with (go_at_call 93; refine (spoil_any _ _ _ h0).mono ?_; rintro e w1 ⟨rfl, r1, b1⟩)
      go_ret2
      exact ⟨rfl, r1, b1⟩

theorem take_ok (g : Nat) (l : List UInt8) (n : Nat) (w : World) (h : Rd 129 w g (some l)) (hn : n ≤ l.length) :
    Calls Try.prog 92 #[.pointer (some ⟨g, 0, none⟩), .int .i64 n] w fun e w' => ∃ A, e = .returned (.tuple #[.slice A n n, .bool true]) ∧ RS w' (.slice A n n) (l.take n) ∧ Rd 129 w' g (some (l.drop n)) ∧ But g w w' := by
  have h0 := h
  obtain ⟨A, c, hg, hr⟩ := h
  obtain ⟨c0, c1, f0, f1, hz⟩ := blk2 hg
  simp only [Option.isNone_some] at c1 hg
  have hl : St.l (some l) = l := rfl
  rw [hl] at c0 hr
  rcases hr with ⟨h1, h2⟩ | ⟨b, off, c', h1, hb, hc, hj⟩
  · subst h2
    obtain ⟨rfl, rfl⟩ : A = none ∧ c = 0 := by simpa using h1
    obtain rfl : n = 0 := by simpa using hn
    have hs := h0.set (s' := some []) (v := .slice none 0 0) (b := false) RS.nil rfl
    rw [← blk2_st0 _ hg] at hs
    have HS := Lib.hid hs
    clear hg hs
    go_enter Try.func92, Try.ntmps92
    go_wp2
    go_ret2
    exact ⟨_, rfl, RS.nil, HS.out.1, HS.out.2⟩
  · obtain ⟨rfl, -, rfl⟩ : A = some ⟨b, off, none⟩ ∧ True ∧ c = c' := by simpa using h1
    have hcut : RS w (.slice (some ⟨b, off, none⟩) n n) (l.take n) := by
      have hlt : (l.take n).length = n := by simp; omega
      refine .inr ⟨b, off, n, by rw [hlt], hb, by omega, fun j hjl => ?_⟩
      rw [hj j (by omega)]
      simp only [bvs, List.getElem?_map, List.getElem?_take, if_pos (show j < n by omega)]
    have hdl : (l.drop n).length = l.length - n := by simp
    by_cases hcn : c = n
    · have hd : l.drop n = [] := List.drop_eq_nil_of_le (by omega)
      have hs := h0.set (s' := some (l.drop n)) (v := .slice (some ⟨b, off, none⟩) (l.length - n) 0) (b := false) (.inr ⟨b, off, 0, by rw [show St.l (some (l.drop n)) = l.drop n from rfl, hdl], hb, by rw [show St.l (some (l.drop n)) = l.drop n from rfl, hdl]; omega, fun j hjl => by
        rw [show St.l (some (l.drop n)) = l.drop n from rfl, hd] at hjl; simp at hjl⟩) rfl
      have hr2 := hcut.but (a := .bool true) hs.2 hg
      rw [← blk2_st0 _ hg] at hs hr2
      have HS := Lib.hid hs
      have HR := Lib.hid hr2
      clear hg hs hr2
      go_enter Try.func92, Try.ntmps92
      go_wp2
      go_ret2
      exact ⟨_, rfl, HR.out, HS.out.1, HS.out.2⟩
    · have hs := h0.set (s' := some (l.drop n)) (v := .slice (some ⟨b, off + n, none⟩) (l.length - n) (c - n)) (b := false) (.inr ⟨b, off + n, c - n, by rw [show St.l (some (l.drop n)) = l.drop n from rfl, hdl], hb, by rw [show St.l (some (l.drop n)) = l.drop n from rfl, hdl]; omega, fun j hjl => by
        rw [show St.l (some (l.drop n)) = l.drop n from rfl] at hjl ⊢
        rw [hdl] at hjl
        rw [Nat.add_assoc, hj (n + j) (by omega)]
        simp [bvs]⟩) rfl
      have hr2 := hcut.but (a := .bool true) hs.2 hg
      rw [← blk2_st0 _ hg] at hs hr2
      have HS := Lib.hid hs
      have HR := Lib.hid hr2
      clear hg hs hr2
      go_enter Try.func92, Try.ntmps92
      go_wp2
      go_ret2
      exact ⟨_, rfl, HR.out, HS.out.1, HS.out.2⟩
end

section
set_option linter.unusedVariables false
open Go.RowKit

/-- The number of some bytes, the greatest first. -/
def beV (l : List UInt8) : Int := l.foldl (fun n b => n * 256 + (b.toNat : Int)) 0
theorem beV_snoc (l : List UInt8) (b : UInt8) : beV (l ++ [b]) = beV l * 256 + b.toNat := by simp [beV]
theorem beV_bd (l : List UInt8) : 0 ≤ beV l ∧ beV l < 256 ^ l.length := by
  have : ∀ (l : List UInt8) (n : Int), 0 ≤ n → 0 ≤ l.foldl (fun n b => n * 256 + (b.toNat : Int)) n ∧ l.foldl (fun n b => n * 256 + (b.toNat : Int)) n < (n + 1) * 256 ^ l.length := by
    intro l
    induction l with
    | nil => intro n h; simp; omega
    | cons b l ih =>
      intro n h
      have hb := b.toNat_lt
      obtain ⟨h1, h2⟩ := ih (n * 256 + b.toNat) (by omega)
      refine ⟨h1, Int.lt_of_lt_of_le h2 ?_⟩
      rw [List.length_cons, Int.pow_succ, Int.mul_comm (256 ^ l.length) 256, ← Int.mul_assoc]
      exact Int.mul_le_mul_of_nonneg_right (by omega) (Int.pow_nonneg (by omega))
  have h := this l 0 (by omega)
  simpa [beV] using h
theorem beV_lt {l : List UInt8} {k : Nat} (hl : l.length = k) : 0 ≤ beV l ∧ beV l < 256 ^ k := hl ▸ beV_bd l

theorem or_u32 (x b : Int) (hx : 0 ≤ x) (hx1 : x < 16777216) (hb : 0 ≤ b) (hb1 : b < 256) : bits .or .u32 (x * 256) b = x * 256 + b := by
  obtain ⟨m, rfl⟩ := Int.eq_ofNat_of_zero_le hx
  obtain ⟨k, rfl⟩ := Int.eq_ofNat_of_zero_le hb
  have e1 : ((m : Int) * 256) = ((m * 256 : Nat) : Int) := by omega
  rw [e1]
  have h1 : (BitVec.ofInt 32 ((m * 256 : Nat) : Int)).toNat = m * 256 := by rw [BitVec.ofInt_natCast, BitVec.toNat_ofNat]; exact Nat.mod_eq_of_lt (by omega)
  have h2 : (BitVec.ofInt 32 ((k : Nat) : Int)).toNat = k := by rw [BitVec.ofInt_natCast, BitVec.toNat_ofNat]; exact Nat.mod_eq_of_lt (by omega)
  have e2 : m * 256 ||| k = m * 256 + k := by
    have := Nat.two_pow_add_eq_or_of_lt (i := 8) (b := k) (by omega) m
    rw [show m * 256 = 2 ^ 8 * m by omega]; omega
  show IntKind.u32.wrap ((BitVec.ofInt 32 ((m * 256 : Nat) : Int) ||| BitVec.ofInt 32 ((k : Nat) : Int)).toNat : Int) = _
  rw [BitVec.toNat_or, h1, h2, e2]
  simp [IntKind.wrap, IntKind.bits, IntKind.signed]
  omega
end

section
set_option linter.unusedVariables false
open Go.RowKit

def rdW : St → Int × St
  | none => (0, none)
  | some l => if 4 ≤ l.length then (beV (l.take 4), some (l.drop 4)) else (0, none)

theorem RS.some_of {w : World} {A : Option Addr} {n c : Nat} {l : List UInt8} (h : RS w (.slice A n c) l) (hl : l ≠ []) : ∃ b off, A = some ⟨b, off, none⟩ ∧ n = l.length ∧ b < w.heap.size ∧ n ≤ c ∧ ∀ j, j < l.length → w.cell? ⟨b, off + j, none⟩ = (bvs l)[j]? := by
  rcases h with ⟨_, h⟩ | ⟨b, off, c', h, hb, hc, hj⟩
  · exact absurd h hl
  · simp only [Value.slice.injEq] at h
    obtain ⟨rfl, rfl, rfl⟩ := h
    exact ⟨b, off, rfl, rfl, hb, hc, hj⟩

theorem four {l : List UInt8} (h : l.length = 4) : ∃ p q r t, l = [p, q, r, t] := by
  match l, h with
  | [p, q, r, t], _ => exact ⟨p, q, r, t, rfl⟩

theorem word_any (g : Nat) (s : St) (w : World) (h : Rd 129 w g s) :
    Calls Try.prog 86 #[.pointer (some ⟨g, 0, none⟩)] w fun e w' => e = .returned (.int .u32 (rdW s).1) ∧ Rd 129 w' g (rdW s).2 ∧ But g w w' := by
  by_cases hs : s = none ∨ s.l.length < 4
  · have hr : rdW s = (0, none) := by
      cases s with
      | none => rfl
      | some l =>
        have h4 : ¬ 4 ≤ l.length := by rcases hs with hs | hs; cases hs; simpa [St.l] using hs
        simp [rdW, h4]
    rw [hr]
    go_enter Try.func86, Try.ntmps86
    go_wp2_with (go_at_call 92; refine (take_no g s 4 _ h (by rcases hs with hs | hs; exact .inl hs; exact .inr (.inr (by exact_mod_cast hs)))).mono ?_; rintro e w1 ⟨rfl, r1, b1⟩)
    go_ret
    exact ⟨rfl, r1, b1⟩
  · obtain ⟨l, rfl⟩ : ∃ l, s = some l := by cases s with | none => exact absurd (.inl rfl) hs | some l => exact ⟨l, rfl⟩
    have h4 : 4 ≤ l.length := Nat.le_of_not_lt fun h => hs (.inr h)
    obtain ⟨p, q, r, t, hl⟩ := four (l := l.take 4) (by simp; omega)
    have hr : rdW (some l) = (beV [p, q, r, t], some (l.drop 4)) := by simp [rdW, h4, hl]
    rw [hr]
    go_enter Try.func86, Try.ntmps86
    go_wp2_with fail
    refine (take_ok g l 4 _ h h4).mono ?_
    rintro e w1 ⟨A, rfl, hc, r1, b1⟩
    rw [hl] at hc
    obtain ⟨b, off, rfl, -, hb, -, hj⟩ := hc.some_of (by simp)
    have ha := fun w => run_arrayAt (P := Try.prog) (w := w) 121 5 4 (some ⟨b, off, none⟩) 4 4 Try.underlying121 (Nat.le_refl _)
    have d0 : w1.cell? ⟨b, off, none⟩ = some (.int .u8 p.toNat) := hj 0 (by simp)
    have d1 : w1.cell? ⟨b, off + 1, none⟩ = some (.int .u8 q.toNat) := hj 1 (by simp)
    have d2 : w1.cell? ⟨b, off + 2, none⟩ = some (.int .u8 r.toNat) := hj 2 (by simp)
    have d3 : w1.cell? ⟨b, off + 3, none⟩ = some (.int .u8 t.toNat) := hj 3 (by simp)
    clear hj
    have pb := p.toNat_lt
    have qb := q.toNat_lt
    have rb := r.toNat_lt
    have tb := t.toNat_lt
    have i0 : ∀ w, (Instr.index 121 (.agg #[.int .u8 (p.toNat : Int), .int .u8 (q.toNat : Int), .int .u8 (r.toNat : Int), .int .u8 (t.toNat : Int)]) (.int .i64 0)).run Try.prog w = .ok (.int .u8 (p.toNat : Int)) w := fun _ => by kernel_rfl
    have i1 : ∀ w, (Instr.index 121 (.agg #[.int .u8 (p.toNat : Int), .int .u8 (q.toNat : Int), .int .u8 (r.toNat : Int), .int .u8 (t.toNat : Int)]) (.int .i64 1)).run Try.prog w = .ok (.int .u8 (q.toNat : Int)) w := fun _ => by kernel_rfl
    have i2 : ∀ w, (Instr.index 121 (.agg #[.int .u8 (p.toNat : Int), .int .u8 (q.toNat : Int), .int .u8 (r.toNat : Int), .int .u8 (t.toNat : Int)]) (.int .i64 2)).run Try.prog w = .ok (.int .u8 (r.toNat : Int)) w := fun _ => by kernel_rfl
    have i3 : ∀ w, (Instr.index 121 (.agg #[.int .u8 (p.toNat : Int), .int .u8 (q.toNat : Int), .int .u8 (r.toNat : Int), .int .u8 (t.toNat : Int)]) (.int .i64 3)).run Try.prog w = .ok (.int .u8 (t.toNat : Int)) w := fun _ => by kernel_rfl
    have o1 := or_u32 0 p.toNat (by omega) (by omega) (by omega) (by omega)
    have o2 := or_u32 p.toNat q.toNat (by omega) (by omega) (by omega) (by omega)
    have o3 := or_u32 (p.toNat * 256 + q.toNat) r.toNat (by omega) (by omega) (by omega) (by omega)
    have o4 := or_u32 ((p.toNat * 256 + q.toNat) * 256 + r.toNat) t.toNat (by omega) (by omega) (by omega) (by omega)
    simp only [Int.zero_mul, Int.zero_add] at o1
    go_wp2_with fail
    refine wp_loop_rounds 5 ?_
    iterate 5
      rw [rounds_succ]
      go_wp2_with fail
    go_ret
    exact ⟨by simp [beV], r1.ext (ext_alloc _ _), b1.trans (But.of (ext_alloc _ _))⟩
end

section
set_option linter.unusedVariables false
open Go.RowKit

theorem rdW_bd (s : St) : 0 ≤ (rdW s).1 ∧ (rdW s).1 ≤ 4294967295 := by
  cases s with
  | none => simp [rdW]
  | some l =>
    by_cases h : 4 ≤ l.length
    · have := beV_lt (l := l.take 4) (k := 4) (by simp; omega)
      simp only [rdW, if_pos h]
      omega
    · simp [rdW, h]

theorem ok_any (g : Nat) (s : St) (w : World) (h : Rd 129 w g s) :
    Calls Try.prog 87 #[.pointer (some ⟨g, 0, none⟩)] w fun e w' => e = .returned (.bool s.isSome) ∧ w' = w := by
  obtain ⟨A, c, hg, hr⟩ := h
  obtain ⟨c0, c1, f0, f1, hz⟩ := blk2 hg
  clear hg
  cases s with
  | none =>
    simp only [Option.isNone_none] at c1
    go_enter Try.func87, Try.ntmps87
    go_wp2
    go_ret
    exact ⟨rfl, rfl⟩
  | some l =>
    simp only [Option.isNone_some] at c1
    go_enter Try.func87, Try.ntmps87
    go_wp2
    go_ret
    exact ⟨rfl, rfl⟩

/-- Was all read? -/
def doneB (s : St) : Bool := s == some []
end

section
set_option linter.unusedVariables false
open Go.RowKit

theorem or_u64 (x b : Int) (hx : 0 ≤ x) (hx1 : x ≤ 4294967295) (hb : 0 ≤ b) (hb1 : b ≤ 4294967295) : bits .or .u64 (x * 4294967296) b = x * 4294967296 + b := by
  obtain ⟨m, rfl⟩ := Int.eq_ofNat_of_zero_le hx
  obtain ⟨k, rfl⟩ := Int.eq_ofNat_of_zero_le hb
  have e1 : ((m : Int) * 4294967296) = ((m * 4294967296 : Nat) : Int) := by omega
  rw [e1]
  have h1 : (BitVec.ofInt 64 ((m * 4294967296 : Nat) : Int)).toNat = m * 4294967296 := by rw [BitVec.ofInt_natCast, BitVec.toNat_ofNat]; exact Nat.mod_eq_of_lt (by omega)
  have h2 : (BitVec.ofInt 64 ((k : Nat) : Int)).toNat = k := by rw [BitVec.ofInt_natCast, BitVec.toNat_ofNat]; exact Nat.mod_eq_of_lt (by omega)
  have e2 : m * 4294967296 ||| k = m * 4294967296 + k := by
    have := Nat.two_pow_add_eq_or_of_lt (i := 32) (b := k) (by omega) m
    rw [show m * 4294967296 = 2 ^ 32 * m by omega]; omega
  show IntKind.u64.wrap ((BitVec.ofInt 64 ((m * 4294967296 : Nat) : Int) ||| BitVec.ofInt 64 ((k : Nat) : Int)).toNat : Int) = _
  rw [BitVec.toNat_or, h1, h2, e2]
  simp [IntKind.wrap, IntKind.bits, IntKind.signed]
  omega

def rdL (s : St) : Int × St := if (rdW (rdW s).2).2 = none then (0, none) else ((rdW s).1 * 4294967296 + (rdW (rdW s).2).1, (rdW (rdW s).2).2)
theorem rdL_bd (s : St) : 0 ≤ (rdL s).1 ∧ (rdL s).1 ≤ 18446744073709551615 := by
  have h1 := rdW_bd s
  have h2 := rdW_bd (rdW s).2
  unfold rdL
  split
  · simp
  · simp only; omega

theorem long_any (g : Nat) (s : St) (w : World) (h : Rd 129 w g s) :
    Calls Try.prog 63 #[.pointer (some ⟨g, 0, none⟩)] w fun e w' => e = .returned (.int .u64 (rdL s).1) ∧ Rd 129 w' g (rdL s).2 ∧ But g w w' := by
  have b1 := rdW_bd s
  have b2 := rdW_bd (rdW s).2
  have ho := or_u64 _ _ b1.1 b1.2 b2.1 b2.2
  cases hq : (rdW (rdW s).2).2 with
  | none =>
    have hr : rdL s = (0, none) := by simp [rdL, hq]
    rw [hr]
    go_enter Try.func63, Try.ntmps63
    go_wp2_with fail
    refine (word_any g s _ h).mono ?_
    rintro e w1 ⟨rfl, r1, k1⟩
    go_wp2_with fail
    refine (word_any g _ _ r1).mono ?_
    rintro e w2 ⟨rfl, r2, k2⟩
    rw [hq] at r2
    go_wp2_with (go_at_call 87; refine (ok_any _ _ _ r2).mono ?_; rintro e w' ⟨rfl, rfl⟩)
    go_ret
    exact ⟨rfl, r2, k1.trans k2⟩
  | some l =>
    have hr : rdL s = ((rdW s).1 * 4294967296 + (rdW (rdW s).2).1, some l) := by simp [rdL, hq]
    rw [hr]
    go_enter Try.func63, Try.ntmps63
    go_wp2_with fail
    refine (word_any g s _ h).mono ?_
    rintro e w1 ⟨rfl, r1, k1⟩
    go_wp2_with fail
    refine (word_any g _ _ r1).mono ?_
    rintro e w2 ⟨rfl, r2, k2⟩
    rw [hq] at r2
    go_wp2_with (go_at_call 87; refine (ok_any _ _ _ r2).mono ?_; rintro e w' ⟨rfl, rfl⟩)
    go_ret
    exact ⟨rfl, r2, k1.trans k2⟩

end
end Go.Proofs.Ytobcfocbglkicaa
