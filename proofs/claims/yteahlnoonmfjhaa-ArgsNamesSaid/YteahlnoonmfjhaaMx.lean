/- Texts of mine in one: XdrA, XdrB, XdrC, XdrD, RdA, RdB, RdC, RdD, RdE, RdF, RdG, RdH, RdI, RdJ, RdK, RdL, RdM. No statement of its own. -/
import Derived.Test.YteahlnoonmfjhaaRows
import Derived.Test.YteahlnoonmfjhaaBytes
import Derived.Lib.SliceRun
set_option linter.unusedVariables false
set_option maxRecDepth 100000
namespace Go.Proofs.Yteahlnoonmfjhaa
section
set_option linter.unusedVariables false
open Go.RowKit

theorem wordOf_any (n : Int) (h0 : 0 ≤ n) (h1 : n ≤ 4294967295) (w : World) :
    Calls Try.prog 99 #[.int .u32 n] w fun e w' => e = .returned (.agg (bvs (beN n 4)).toArray) ∧ Below w.heap.size w w' := by
  have hv : (bvs (beN n 4)).toArray = #[.int .u8 (n / 16777216), .int .u8 (n / 65536 % 256), .int .u8 (n / 256 % 256), .int .u8 (n % 256)] := by
    have e : n / 16777216 % 256 = n / 16777216 := by omega
    simp only [beN, bvs, List.map_cons, List.map_nil, bv_byteOf]
    simp [e]
  rw [hv]
  go_enter Try.func99, Try.ntmps99
  go_wp2
  exact bodyPost_ret (v := .agg #[.int .u8 (n / 16777216), .int .u8 (n / 65536 % 256), .int .u8 (n / 256 % 256), .int .u8 (n % 256)]) (by simp only [results, Try.results99]; go_simp) rfl ⟨rfl, by (repeat' (first | (with_reducible assumption) | (with_reducible exact Below.refl _ _) | (with_reducible refine below_sc ?_ ?_) | ((with_reducible show (_ : Nat) ≤ _); omega) | refine Below.setCell ?_ (by first | omega | (simp; done) | (simp; omega)) _ | refine Below.alloc ?_ (by first | omega | (simp; done) | (simp; omega)) _ | refine Below.drew ?_ | refine below_drewN ?_ _ | refine Below.trans ?_ (Below.mono (by assumption) (by first | omega | (simp; done) | (simp; omega)))))⟩

/-- How many 00s make whole words of n bytes. -/
def padN (n : Nat) : Nat := (4 - n % 4) % 4
theorem padding_any (n : Nat) (w : World) (h : n ≤ 1000000) :
    Calls Try.prog 143 #[.int .i64 n] w fun e w' => e = .returned (.int .i64 (padN n : Nat)) ∧ Below w.heap.size w w' := by
  have e : (padN n : Int) = (4 - (n : Int) % 4) % 4 := by unfold padN; omega
  rw [e]
  go_enter Try.func143, Try.ntmps143
  go_wp2
  go_ret
  exact ⟨rfl, by (repeat' (first | (with_reducible assumption) | (with_reducible exact Below.refl _ _) | (with_reducible refine below_sc ?_ ?_) | ((with_reducible show (_ : Nat) ≤ _); omega) | refine Below.setCell ?_ (by first | omega | (simp; done) | (simp; omega)) _ | refine Below.alloc ?_ (by first | omega | (simp; done) | (simp; omega)) _ | refine Below.drew ?_ | refine below_drewN ?_ _ | refine Below.trans ?_ (Below.mono (by assumption) (by first | omega | (simp; done) | (simp; omega)))))⟩

/-- The bytes' type, as append asks for it. -/
structure ByteT (i : TypeInfo) (z : Value) : Prop where
  hi : Try.prog.info? 5 = some i
  size : i.size = 1
  bytes : i.bytes = 1
  zero : i.zero = some z
  cells : z.cells = #[bv 0]
theorem byteT : ∃ i z, ByteT i z := by
  have h : (Try.prog.info? 5).map (fun i => (i.zero, i.size, i.bytes)) = some (some (.int .u8 0), 1, 1) := by kernel_rfl
  obtain ⟨i, hi, hz0, hz1, hz2⟩ := info_parts h
  exact ⟨i, _, ⟨hi, hz1, hz2, hz0, rfl⟩⟩
theorem appR {w : World} {B : Nat} {v x : Value} {l l2 : List UInt8} {c : Nat} {tx ty : TypeId} (ho : Own w B 5 v l c) (hs : Src Try.prog 1 tx x l2.length (bvs l2) w) (hc : l.length + l2.length ≤ c) :
    ∃ v' w', (Builtin.append_ #[47, tx] ty #[v, x]).run Try.prog w = .ok v' w' ∧ Own w' B 5 v' (l ++ l2) c ∧ Below B w w' ∧ w'.heap.size = w.heap.size := by
  obtain ⟨i, z, b⟩ := byteT
  exact app_room Try.underlying47 b.hi b.size ho hs hc
theorem appZ {w : World} {B : Nat} {v x : Value} {l l2 : List UInt8} {tx ty : TypeId} (ho : OwnZ w B 5 v l) (hs : Src Try.prog 1 tx x l2.length (bvs l2) w) (hB : B ≤ w.heap.size) (hc : l.length + l2.length ≤ 100000000) :
    ∃ v' w', (Builtin.append_ #[47, tx] ty #[v, x]).run Try.prog w = .ok v' w' ∧ OwnZ w' B 5 v' (l ++ l2) ∧ Below B w w' := by
  obtain ⟨i, z, b⟩ := byteT
  exact app_any Try.underlying47 b.hi b.size b.bytes b.zero b.cells ho hs hB (by omega)
theorem mkR (w : World) (n c : Nat) (hc : c ≤ 100000000) (hn : n ≤ c) : (Instr.makeSlice 47 (.int .i64 n) (.int .i64 c)).run Try.prog w = .ok (.slice (some ⟨w.heap.size, 0, none⟩) n c) (w.alloc (.cells (bvs (List.replicate c 0)).toArray 5)) := by
  obtain ⟨i, z, b⟩ := byteT
  have hz := b.cells
  have := run_make (P := Try.prog) w 47 5 i z Try.underlying47 b.hi b.zero .i64 .i64 (n : Int) (c : Int) (by omega) (by omega) (by rw [b.bytes]; omega) (by omega)
  rw [this, b.size, hz]
  simp only [Int.toNat_natCast, Nat.mul_one, made_bytes]
theorem mkR0 (w : World) (c : Nat) (hc : c ≤ 100000000) : (Instr.makeSlice 47 (.int .i64 0) (.int .i64 c)).run Try.prog w = .ok (.slice (some ⟨w.heap.size, 0, none⟩) 0 c) (w.alloc (.cells (bvs (List.replicate c 0)).toArray 5)) := mkR w 0 c hc (Nat.zero_le _)
theorem srcS {w : World} {v : Value} {l : List UInt8} (h : RS w v l) : Src Try.prog 1 47 v l.length (bvs l) w := h.src Try.underlying47
theorem srcT {w : World} (l : List UInt8) : Src Try.prog 1 9 (.string (str l)) l.length (bvs l) w := str_src Try.underlying9

theorem behind_any (v : Value) (l : List UInt8) (m : Nat) (w : World) (hv : RS w v l) (h : l.length + m ≤ 1000000) :
    Calls Try.prog 100 #[v, .int .i64 m] w fun e w' => ∃ v', e = .returned v' ∧ Own w' w.heap.size 5 v' l (l.length + m) ∧ Below w.heap.size w w' := by
  obtain ⟨A, c, rfl⟩ := hv.form
  have hm := mkR0 w (l.length + m) (by omega)
  have e : ((l.length + m : Nat) : Int) = (l.length : Int) + m := by omega
  rw [e] at hm
  obtain ⟨v', w', hr, ho, hb, hz⟩ := appR (ty := 47) (own_made (w := w) (B := w.heap.size) (c := l.length + m) (T := 5) (Nat.le_refl _)) (srcS (hv.ext (Below.refl _ _ |>.alloc (Nat.le_refl _) _))) (by simp)
  go_enter Try.func100, Try.ntmps100
  go_wp2_with (at_builtin; refine wpList_app rfl _ _ _ _ rfl hr ?_)
  go_ret
  exact ⟨_, rfl, ho, ((Below.refl _ _).alloc (Nat.le_refl _) _).trans hb⟩
end

section
set_option linter.unusedVariables false
open Go.RowKit

theorem Word_any (v : Value) (l : List UInt8) (n : Int) (w : World) (hv : RS w v l) (h0 : 0 ≤ n) (h1 : n ≤ 4294967295) (h : l.length ≤ 900000) :
    Calls Try.prog 44 #[v, .int .u32 n] w fun e w' => ∃ v', e = .returned v' ∧ Own w' w.heap.size 5 v' (l ++ beN n 4) (l.length + 4) ∧ Below w.heap.size w w' := by
  obtain ⟨A, c, rfl⟩ := hv.form
  go_enter Try.func44, Try.ntmps44
  go_wp2_with fail
  refine (wordOf_any n h0 h1 _).mono ?_
  rintro e w1 ⟨rfl, hb1⟩; have hz1 := hb1.size; (try simp only [World.size_alloc] at hz1)
  obtain ⟨w2, hst, hx2, hg2, hs2⟩ := st_new (P := Try.prog) w1 (beN n 4) #[.int .u8 0, .int .u8 0, .int .u8 0, .int .u8 0] 163 (by simp [beN_length])
  have hlen : (bvs (beN n 4)).length = 4 := by simp [bvs_length, beN_length]
  go_wp2_with fail
  refine wp_region_pieces 3  [(true, [0, 2]), (false, [1])] (by kernel_rfl) (by kernel_rfl) ?_; simp only [pick, List.map_cons, List.map_nil, List.flatMap_cons, List.flatMap_nil, Option.toList_some, List.singleton_append, List.drop_succ_cons, List.drop_zero, List.getElem?_cons_zero, List.getElem?_cons_succ]
  refine ⟨by kernel_rfl, ?_⟩; apply Exists.intro; refine ⟨fun ψ hψ hne => (by (repeat (go_big_quiet_step (( fail )))); exact wpQuiet_nil rfl), ?_⟩
  intro wa ha K hK
  have hxa : Ext w wa := (Ext.trans (Ext.trans hb1 hx2) ha)
  go_wp2_with fail
  refine (behind_any (.slice A l.length c) l 4 wa (hv.ext hxa) (by omega)).mono ?_
  rintro e wb ⟨vb, rfl, hob, hbb⟩
  go_wp2_with fail
  refine hK _ _ hbb ?_
  intro wc hc
  have hgc := ((ha.trans hbb).trans hc).block _ hs2 |>.trans hg2
  have hsrc := srcS (rs_block (l := beN n 4) (off := 0) (c := 4) hgc (by simp) (by simp [beN_length]))
  obtain ⟨v', w', hr, ho, hb, hz⟩ := appR (ty := 47) (hob.ext hc) hsrc (by simp [beN_length])
  simp only [beN_length] at hr
  go_wp2_with (at_builtin; refine wpList_app rfl _ _ _ _ rfl hr ?_)
  go_ret
  exact ⟨_, rfl, ho.mono hxa.size, Below.trans ((hxa.trans hbb).trans hc : Ext w wc) (hb.mono hxa.size)⟩

/-- A truth value's number. -/
def b2i (b : Bool) : Int := if b then 1 else 0
/-- The bytes of a number of 64 bits. -/
def beL (n : Int) : List UInt8 := beN (n / 4294967296) 4 ++ beN (n % 4294967296) 4
theorem beL_length (n : Int) : (beL n).length = 8 := by simp [beL, beN_length]

set_option maxRecDepth 100000 in
theorem Long_any (v : Value) (l : List UInt8) (n : Int) (w : World) (hv : RS w v l) (h0 : 0 ≤ n) (h1 : n ≤ 18446744073709551615) (h : l.length ≤ 900000) :
    Calls Try.prog 142 #[v, .int .u64 n] w fun e w' => ∃ v', e = .returned v' ∧ Own w' w.heap.size 5 v' (l ++ beL n) (l.length + 8) ∧ Below w.heap.size w w' := by
  obtain ⟨A, c, rfl⟩ := hv.form
  go_enter Try.func142, Try.ntmps142
  go_wp2_with fail
  refine (wordOf_any (n / 4294967296) (by omega) (by omega) _).mono ?_
  rintro e w1 ⟨rfl, hb1⟩; have hz1 := hb1.size; (try simp only [World.size_alloc] at hz1)
  go_wp2_with fail
  refine (wordOf_any (n % 4294967296) (by omega) (by omega) _).mono ?_
  rintro e w2 ⟨rfl, hb2⟩; have hz2 := hb2.size; (try simp only [World.size_alloc] at hz2)
  have hx0 : Ext w w2 := Ext.trans hb1 hb2
  have hlen : ∀ n, (bvs (beN n 4)).length = 4 := by simp [bvs_length, beN_length]
  obtain ⟨w3, hst3, hx3, hg3, hk3, hs3⟩ := st_at (P := Try.prog) (w0 := w2) (w := (w2.alloc (.cells #[.int .u8 0, .int .u8 0, .int .u8 0, .int .u8 0] 163)).alloc (.cells #[.int .u8 0, .int .u8 0, .int .u8 0, .int .u8 0] 163)) (l := beN (n / 4294967296) 4)
    (((Below.refl _ _).alloc (Nat.le_refl _) _).alloc (by simp) _) (Nat.le_refl _) ((Go.heap_alloc_old _ _ (r := w2.heap.size) (by simp)).trans (heap_alloc_last _ _)) (by simp [beN_length])
  obtain ⟨w4, hst4, hx4, hg4, hk4, hs4⟩ := st_at (P := Try.prog) (g := w2.heap.size + 1) (l := beN (n % 4294967296) 4) hx3 (Nat.le_succ _) (hk3 _ _ (by omega) (by simpa using heap_alloc_last (w2.alloc (.cells #[.int .u8 0, .int .u8 0, .int .u8 0, .int .u8 0] 163)) (.cells #[.int .u8 0, .int .u8 0, .int .u8 0, .int .u8 0] 163))) (by simp [beN_length])
  have hg3' := hk4 _ _ (by omega) hg3
  have hs5 : w2.heap.size + 2 ≤ w4.heap.size := by simp at hs3; omega
  clear hk3 hk4 hg3
  go_wp2_with fail
  refine wp_region_pieces 3  [(true, [0, 2]), (false, [1])] (by kernel_rfl) (by kernel_rfl) ?_; simp only [pick, List.map_cons, List.map_nil, List.flatMap_cons, List.flatMap_nil, Option.toList_some, List.singleton_append, List.drop_succ_cons, List.drop_zero, List.getElem?_cons_zero, List.getElem?_cons_succ]
  refine ⟨by kernel_rfl, ?_⟩; apply Exists.intro; refine ⟨fun ψ hψ hne => (by (repeat (go_big_quiet_step (( fail )))); exact wpQuiet_nil rfl), ?_⟩
  intro wa ha K hK
  have hxa : Ext w wa := hx0.trans (hx4.trans ha)
  go_wp2_with fail
  refine (behind_any (.slice A l.length c) l 8 wa (hv.ext hxa) (by omega)).mono ?_
  rintro e wb ⟨vb, rfl, hob, hbb⟩
  go_wp2_with fail
  refine hK _ _ hbb ?_
  intro wc hc
  have hxc : Ext w4 wc := (ha.trans hbb).trans hc
  have hgc := hxc.block _ (by omega) |>.trans hg3'
  obtain ⟨v5, w5, hr5, ho5, hb5, hz5⟩ := appR (ty := 47) (hob.ext hc) (srcS (rs_block (l := beN (n / 4294967296) 4) (off := 0) (c := 4) hgc (by simp) (by simp [beN_length]))) (by simp [beN_length])
  have hgd := (Below.mono (B' := w4.heap.size) hb5 (by exact ha.size)).block _ (by omega) |>.trans (hxc.block _ (by omega) |>.trans hg4)
  obtain ⟨v6, w6, hr6, ho6, hb6, hz6⟩ := appR (ty := 47) ho5 (srcS (rs_block (l := beN (n % 4294967296) 4) (off := 0) (c := 4) hgd (by simp) (by simp [beN_length]))) (by simp [beN_length])
  simp only [beN_length] at hr5 hr6
  go_wp2_with (first | (at_builtin; refine wpList_app rfl _ _ _ _ rfl hr5 ?_) | (at_builtin; refine wpList_app rfl _ _ _ _ rfl hr6 ?_))
  go_ret
  rw [List.append_assoc] at ho6
  exact ⟨_, rfl, ho6.mono hxa.size, Below.trans (Below.trans ((hxa.trans hbb).trans hc : Ext w wc) (hb5.mono hxa.size)) (hb6.mono hxa.size)⟩

theorem Int_any (v : Value) (l : List UInt8) (n : Int) (w : World) (hv : RS w v l) (h0 : -9223372036854775808 ≤ n) (h1 : n ≤ 9223372036854775807) (h : l.length ≤ 900000) :
    Calls Try.prog 97 #[v, .int .i64 n] w fun e w' => ∃ v', e = .returned v' ∧ Own w' w.heap.size 5 v' (l ++ beL (n % 18446744073709551616)) (l.length + 8) ∧ Below w.heap.size w w' := by
  obtain ⟨A, c, rfl⟩ := hv.form
  go_enter Try.func97, Try.ntmps97
  go_wp2_with fail
  refine (Long_any _ l (n % 18446744073709551616) _ hv (by omega) (by omega) h).mono ?_
  rintro e w1 ⟨v', rfl, ho, hb⟩
  go_wp2_with fail
  go_ret
  exact ⟨_, rfl, ho, hb⟩

theorem Flag_any (v : Value) (l : List UInt8) (b : Bool) (w : World) (hv : RS w v l) (h : l.length ≤ 900000) :
    Calls Try.prog 132 #[v, .bool b] w fun e w' => ∃ v', e = .returned v' ∧ Own w' w.heap.size 5 v' (l ++ beN (b2i b) 4) (l.length + 4) ∧ Below w.heap.size w w' := by
  obtain ⟨A, c, rfl⟩ := hv.form
  cases b
  · go_enter Try.func132, Try.ntmps132
    go_wp2_with fail
    refine (Word_any _ l 0 _ hv (by omega) (by omega) h).mono ?_
    rintro e w1 ⟨v', rfl, ho, hb⟩
    go_wp2_with fail
    go_ret
    exact ⟨_, rfl, ho, hb⟩
  · go_enter Try.func132, Try.ntmps132
    go_wp2_with fail
    refine (Word_any _ l 1 _ hv (by omega) (by omega) h).mono ?_
    rintro e w1 ⟨v', rfl, ho, hb⟩
    go_wp2_with fail
    go_ret
    exact ⟨_, rfl, ho, hb⟩
end

section
set_option linter.unusedVariables false
open Go.RowKit

def zs (n : Nat) : List UInt8 := List.replicate n 0
theorem zs_length (n : Nat) : (zs n).length = n := by simp [zs]

/-- One byte in a new block. -/
theorem rs_one {w : World} {T : TypeId} (b : UInt8) : RS (w.alloc (.cells #[bv b] T)) (.slice (some ⟨w.heap.size, 0, none⟩) 1 1) [b] :=
  rs_block (l := [b]) (m := [b]) (off := 0) (c := 1) (heap_alloc_last w _) rfl (Nat.le_refl _)

theorem pad_m (v : Value) (l : List UInt8) (c n B m : Nat) (hmn : padN n = m) (w : World) (hv : Own w B 5 v l c) (hn : n ≤ 1000000) (hc : l.length + m ≤ c) (hB : B ≤ w.heap.size) :
    Calls Try.prog 144 #[v, .int .i64 n] w fun e w' => ∃ v', e = .returned v' ∧ Own w' B 5 v' (l ++ zs m) c ∧ Below B w w' := by
  have H := Lib.hid hv
  have hp := padding_any n w hn
  rw [hmn] at hp
  have hm : m ≤ 3 := by rw [← hmn]; unfold padN; omega
  clear hv hmn
  go_enter Try.func144, Try.ntmps144
  go_wp2_with fail
  refine hp.mono ?_
  rintro e w1 ⟨rfl, hb1⟩
  have H1 := Lib.hid (H.out.ext (Ext.of hb1))
  clear H
  go_wp2_with fail
  go_loopw [0, 7] (fun x i wr => ∃ k : Nat, k ≤ m ∧ i = .int .i64 k ∧ Hid (Own wr B 5 x (l ++ zs k) c) ∧ Below B w wr) (fun _ i _ => m - (intOf i).toNat)
  case atStart => exact ⟨0, Nat.zero_le _, rfl, by unfold Hid; simpa [zs] using H1.out, hb1.mono hB⟩
  case round =>
    obtain ⟨k, hk, rfl, HO, hbr⟩ := hrel
    have hBr : B ≤ wr.heap.size := Nat.le_trans hB hbr.size
    by_cases hlt : k < m
    · obtain ⟨v', w', hr, ho, hb, hz⟩ := appR (ty := 47) (HO.out.ext (Ext.of ((Below.refl _ wr).alloc (Nat.le_refl _) (.cells #[bv 0] 5)))) (srcS (rs_one (w := wr) (T := 5) 0)) (by simp [zs]; omega)
      go_wp2_with (at_builtin; refine wpList_app rfl _ _ _ _ rfl hr ?_)
      go_roundw
      case rel => exact ⟨k + 1, by omega, by go_num, by unfold Hid; rw [zs, List.replicate_succ', ← List.append_assoc]; exact ho, hbr.trans (((Below.refl _ _).alloc hBr _).trans hb)⟩
      case measure => simp [intOf]; omega
    · obtain rfl : k = m := by omega
      go_wp2_with fail
      go_ret
      exact ⟨_, rfl, HO.out, hbr⟩
theorem pad_any (v : Value) (l : List UInt8) (c n B : Nat) (w : World) (hv : Own w B 5 v l c) (hn : n ≤ 1000000) (hc : l.length + padN n ≤ c) (hB : B ≤ w.heap.size) :
    Calls Try.prog 144 #[v, .int .i64 n] w fun e w' => ∃ v', e = .returned v' ∧ Own w' B 5 v' (l ++ zs (padN n)) c ∧ Below B w w' := pad_m v l c n B _ rfl w hv hn hc hB

/-- A text, and the 00s behind it. -/
def fixL (s : List UInt8) : List UInt8 := s ++ zs (padN s.length)
theorem padN_le (n : Nat) : padN n ≤ 3 := by unfold padN; omega
theorem fixL_length (s : List UInt8) : (fixL s).length = s.length + padN s.length := by simp [fixL, zs]

theorem Fixed_any (v : Value) (l s : List UInt8) (w : World) (hv : RS w v l) (h : l.length ≤ 400000) (hs : s.length ≤ 400000) :
    Calls Try.prog 147 #[v, .string (str s)] w fun e w' => ∃ v', e = .returned v' ∧ Own w' w.heap.size 5 v' (l ++ fixL s) (l.length + (fixL s).length) ∧ Below w.heap.size w w' := by
  obtain ⟨A, c, rfl⟩ := hv.form
  have hsz := str_size s
  have hp := padN_le s.length
  go_enter Try.func147, Try.ntmps147
  go_wp2_with fail
  refine (padding_any s.length _ (by omega)).mono ?_
  rintro e w1 ⟨rfl, hb1⟩; have hz1 := hb1.size; (try simp only [World.size_alloc] at hz1)
  go_wp2_with fail
  refine (behind_any (.slice A l.length c) l (s.length + padN s.length) w1 (hv.ext (Ext.of hb1)) (by omega)).mono ?_
  rintro e w2 ⟨v2, rfl, ho2, hb2⟩
  obtain ⟨v3, w3, hr, ho, hb, hz⟩ := appR (ty := 47) ho2 (srcT s) (by omega)
  go_wp2_with (at_builtin; refine wpList_app rfl _ _ _ _ rfl hr ?_)
  refine (pad_any v3 _ _ s.length w1.heap.size w3 ho (by omega) (by simp; omega) (Nat.le_trans hb2.size hb.size)).mono ?_
  rintro e w4 ⟨v4, rfl, ho4, hb4⟩
  go_wp2_with fail
  go_ret
  rw [List.append_assoc] at ho4
  rw [fixL_length]
  exact ⟨_, rfl, ho4.mono hz1, Below.trans hb1 ((Below.trans (Below.trans hb2 hb) hb4).mono hz1)⟩

theorem Text_any (v : Value) (l s : List UInt8) (w : World) (hv : RS w v l) (h : l.length ≤ 400000) (hs : s.length ≤ 400000) :
    Calls Try.prog 98 #[v, .string (str s)] w fun e w' => ∃ v', e = .returned v' ∧ Own w' w.heap.size 5 v' (l ++ (beN s.length 4 ++ fixL s)) (l.length + (4 + (fixL s).length)) ∧ Below w.heap.size w w' := by
  obtain ⟨A, c, rfl⟩ := hv.form
  have hsz := str_size s
  have hp := padN_le s.length
  go_enter Try.func98, Try.ntmps98
  go_wp2_with fail
  refine (wordOf_any s.length (by omega) (by omega) _).mono ?_
  rintro e w1 ⟨rfl, hb1⟩; have hz1 := hb1.size; (try simp only [World.size_alloc] at hz1)
  obtain ⟨w2, hst, hx2, hg2, hs2⟩ := st_new (P := Try.prog) w1 (beN s.length 4) #[.int .u8 0, .int .u8 0, .int .u8 0, .int .u8 0] 163 (by simp [beN_length])
  have hlen : (bvs (beN s.length 4)).length = 4 := by simp [bvs_length, beN_length]
  go_wp2_with fail
  refine wp_region_pieces 10  [(true, [0, 1, 2, 3, 4, 5, 6, 7, 9]), (false, [8])] (by kernel_rfl) (by kernel_rfl) ?_; simp only [pick, List.map_cons, List.map_nil, List.flatMap_cons, List.flatMap_nil, Option.toList_some, List.singleton_append, List.drop_succ_cons, List.drop_zero, List.getElem?_cons_zero, List.getElem?_cons_succ]
  refine ⟨by kernel_rfl, ?_⟩; apply Exists.intro; refine ⟨fun ψ hψ hne => (by (repeat (go_big_quiet_step (( go_at_call 143; exact extP_of hψ (Nat.le_refl _) (padding_any s.length _ (by omega)) )))); exact wpQuiet_nil rfl), ?_⟩
  intro wa ha K hK
  have hxa : Ext w wa := (Ext.trans (Ext.trans hb1 hx2) ha)
  have hbeh := behind_any (.slice A l.length c) l (4 + s.length + padN s.length) wa (hv.ext hxa) (by omega)
  simp only [Int.natCast_add, show ((4 : Nat) : Int) = 4 from rfl] at hbeh
  go_wp2_with fail
  refine hbeh.mono ?_
  rintro e wb ⟨vb, rfl, hob, hbb⟩
  go_wp2_with fail
  refine hK _ _ hbb ?_
  intro wc hc
  have hgc := ((ha.trans hbb).trans hc).block _ hs2 |>.trans hg2
  obtain ⟨v5, w5, hr5, ho5, hb5, hz5⟩ := appR (ty := 47) (hob.ext hc) (srcS (rs_block (l := beN s.length 4) (off := 0) (c := 4) hgc (by simp) (by simp [beN_length]))) (by simp [beN_length]; omega)
  obtain ⟨v6, w6, hr6, ho6, hb6, hz6⟩ := appR (ty := 47) ho5 (srcT s) (by simp [beN_length]; omega)
  have hwa : wa.heap.size ≤ w6.heap.size := Nat.le_trans hbb.size (Nat.le_trans hc.size (Nat.le_trans hb5.size hb6.size))
  simp only [beN_length] at hr5
  go_wp2_with (first | (at_builtin; refine wpList_app rfl _ _ _ _ rfl hr5 ?_) | (at_builtin; refine wpList_app rfl _ _ _ _ rfl hr6 ?_))
  refine (pad_any v6 _ _ s.length wa.heap.size w6 ho6 (by omega) (by simp [beN_length]; omega) hwa).mono ?_
  rintro e w7 ⟨v7, rfl, ho7, hb7⟩
  go_wp2_with fail
  go_ret
  simp only [List.append_assoc] at ho7
  rw [fixL_length, ← Nat.add_assoc 4]
  exact ⟨_, rfl, ho7.mono hxa.size, Below.trans ((hxa.trans hbb).trans hc : Ext w wc) ((Below.trans (Below.trans hb5 hb6) hb7).mono hxa.size)⟩
end

section
set_option linter.unusedVariables false
open Go.RowKit

/-- A new empty row. -/
theorem own_none {w : World} {T : TypeId} : Own (w.alloc (.cells #[] T)) w.heap.size T (.slice (some ⟨w.heap.size, 0, none⟩) 0 0) [] 0 :=
  ⟨w.heap.size, [], rfl, Nat.le_refl _, heap_alloc_last w _, rfl⟩
theorem ext_alloc (w : World) (o : Obj) : Ext w (w.alloc o) := (Below.refl _ w).alloc (Nat.le_refl _) o

/-- n, divided by 256, i times. -/
def q256 (n : Int) : Nat → Int
  | 0 => n
  | i + 1 => q256 n i / 256
theorem q256_eq (n : Int) : ∀ i, q256 n i = n / 2 ^ (8 * i)
  | 0 => by simp [q256]
  | i + 1 => by
    rw [q256, q256_eq n i, Int.ediv_ediv_of_nonneg (by exact_mod_cast Nat.zero_le _)]
    congr 1
    rw [show 8 * (i + 1) = 8 * i + 8 by omega, Int.pow_add]
    rfl
theorem q256_bd (n : Int) (h0 : 0 ≤ n) (h1 : n ≤ 4294967295) : ∀ i, 0 ≤ q256 n i ∧ q256 n i ≤ 4294967295
  | 0 => ⟨h0, h1⟩
  | i + 1 => by have := q256_bd n h0 h1 i; simp only [q256]; omega

theorem rs_oneI {w : World} {T : TypeId} (x : Int) : RS (w.alloc (.cells #[.int .u8 (x % 256)] T)) (.slice (some ⟨w.heap.size, 0, none⟩) 1 1) [byteOf x] := by
  rw [← bv_byteOf]
  exact rs_one _
theorem beN4_take (n : Int) : ∀ m, m < 4 → (beN n 4).take (m + 1) = (beN n 4).take m ++ [byteOf (q256 n (3 - m))]
  | 0, _ => by rw [q256_eq]; rfl
  | 1, _ => by rw [q256_eq]; rfl
  | 2, _ => by rw [q256_eq]; rfl
  | 3, _ => by rw [q256_eq]; rfl
  | m + 4, h => by omega

theorem rWord_any (v : Value) (l : List UInt8) (n : Int) (w : World) (hv : RS w v l) (h0 : 0 ≤ n) (h1 : n ≤ 4294967295) (h : l.length ≤ 900000) :
    Calls Try.prog 86 #[v, .int .u32 n] w fun e w' => ∃ v', e = .returned v' ∧ OwnZ w' w.heap.size 5 v' (l ++ beN n 4) ∧ Below w.heap.size w w' := by
  obtain ⟨A, c, rfl⟩ := hv.form
  obtain ⟨v0, w0, hr0, ho0, hb0⟩ := appZ (ty := 47) (own_none (w := w) (T := 5)).z (srcS (hv.ext (ext_alloc w _))) (by simp) (by simp; omega)
  go_enter Try.func86, Try.ntmps86
  go_wp2_with (at_builtin; refine wpList_app rfl _ _ _ _ rfl hr0 ?_)
  have hB0 : Ext w w0 := Below.trans (ext_alloc w _) hb0
  have H0 := Lib.hid ho0
  clear ho0 hr0
  go_loopw [5, 6] (fun x i wr => ∃ m : Nat, m ≤ 4 ∧ i = .int .i64 (3 - (m : Int)) ∧ Hid (OwnZ wr w.heap.size 5 x (l ++ (beN n 4).take m)) ∧ Hid (Ext w wr)) (fun _ i _ => (intOf i + 1).toNat)
  case atStart => exact ⟨0, by omega, rfl, by simpa [Hid] using H0.out, hB0⟩
  case round =>
    obtain ⟨m, hm, rfl, HO, HB⟩ := hrel
    by_cases hlt : m < 4
    · obtain ⟨wo, rfl⟩ : ∃ wo : World, wo = wr := ⟨_, rfl⟩
      go_wp2_with fail
      go_loop [7, 8] (fun x j => ∃ k : Nat, k ≤ 3 - m ∧ j = .int .i64 k ∧ x = .int .u32 (q256 n k)) (fun _ j => 3 - m - (intOf j).toNat)
      case atStart => exact ⟨0, by omega, rfl, rfl⟩
      case round =>
        obtain ⟨k, hk, rfl, rfl⟩ := hrel
        have hq := q256_bd n h0 h1 k
        by_cases hk3 : k < 3 - m
        · go_wp2_with fail
          go_round
          case rel => exact ⟨k + 1, by omega, by go_num, rfl⟩
          case measure => simp [intOf]; omega
        · obtain rfl : k = 3 - m := by omega
          obtain ⟨v5, w5, hr5, ho5, hb5⟩ := appZ (ty := 47) (HO.out.ext (ext_alloc wo _)) (srcS (rs_oneI (w := wo) (T := 5) (q256 n (3 - m)))) (by have := HB.out.size; simp; omega) (by simp [beN_length]; omega)
          rw [List.append_assoc, ← beN4_take n m hlt] at ho5
          have hx5 : Ext w w5 := Below.trans (HB.out.trans (ext_alloc wo _)) hb5
          have H5 := Lib.hid ho5
          have HX := Lib.hid hx5
          clear ho5 hx5
          go_wp2_with (at_builtin; refine wpList_app rfl _ _ _ _ rfl hr5 ?_)
          go_roundw
          case rel => exact ⟨m + 1, by omega, by go_num, H5, HX⟩
          case measure => simp [intOf]; omega
    · obtain rfl : m = 4 := by omega
      go_wp2_with fail
      go_ret
      exact ⟨_, rfl, HO.out, HB.out⟩

theorem rLong_any (v : Value) (l : List UInt8) (n : Int) (w : World) (hv : RS w v l) (h0 : 0 ≤ n) (h1 : n ≤ 18446744073709551615) (h : l.length ≤ 800000) :
    Calls Try.prog 69 #[v, .int .u64 n] w fun e w' => ∃ v', e = .returned v' ∧ OwnZ w' w.heap.size 5 v' (l ++ beL n) ∧ Below w.heap.size w w' := by
  obtain ⟨A, c, rfl⟩ := hv.form
  go_enter Try.func69, Try.ntmps69
  go_wp2_with fail
  refine (rWord_any _ l (n / 4294967296) _ hv (by omega) (by omega) (by omega)).mono ?_
  rintro e w1 ⟨v1, rfl, ho1, hb1⟩
  go_wp2_with fail
  refine (rWord_any _ _ (n % 4294967296) _ ho1.rs (by omega) (by omega) (by simp [beN_length]; omega)).mono ?_
  rintro e w2 ⟨v2, rfl, ho2, hb2⟩
  go_wp2_with fail
  go_ret
  rw [List.append_assoc] at ho2
  exact ⟨_, rfl, ho2.mono hb1.size, Below.trans hb1 (hb2.mono hb1.size)⟩

theorem rInt_any (v : Value) (l : List UInt8) (n : Int) (w : World) (hv : RS w v l) (h0 : -9223372036854775808 ≤ n) (h1 : n ≤ 9223372036854775807) (h : l.length ≤ 800000) :
    Calls Try.prog 70 #[v, .int .i64 n] w fun e w' => ∃ v', e = .returned v' ∧ OwnZ w' w.heap.size 5 v' (l ++ beL (n % 18446744073709551616)) ∧ Below w.heap.size w w' := by
  obtain ⟨A, c, rfl⟩ := hv.form
  go_enter Try.func70, Try.ntmps70
  go_wp2_with fail
  refine (rLong_any _ l (n % 18446744073709551616) _ hv (by omega) (by omega) h).mono ?_
  rintro e w1 ⟨v', rfl, ho, hb⟩
  go_wp2_with fail
  go_ret
  exact ⟨_, rfl, ho, hb⟩

theorem rFlag_any (v : Value) (l : List UInt8) (b : Bool) (w : World) (hv : RS w v l) (h : l.length ≤ 800000) :
    Calls Try.prog 89 #[v, .bool b] w fun e w' => ∃ v', e = .returned v' ∧ OwnZ w' w.heap.size 5 v' (l ++ beN (b2i b) 4) ∧ Below w.heap.size w w' := by
  obtain ⟨A, c, rfl⟩ := hv.form
  cases b
  · go_enter Try.func89, Try.ntmps89
    go_wp2_with fail
    refine (rWord_any _ l 0 _ hv (by omega) (by omega) (by omega)).mono ?_
    rintro e w1 ⟨v', rfl, ho, hb⟩
    go_wp2_with fail
    go_ret
    exact ⟨_, rfl, ho, hb⟩
  · go_enter Try.func89, Try.ntmps89
    go_wp2_with fail
    refine (rWord_any _ l 1 _ hv (by omega) (by omega) (by omega)).mono ?_
    rintro e w1 ⟨v', rfl, ho, hb⟩
    go_wp2_with fail
    go_ret
    exact ⟨_, rfl, ho, hb⟩

theorem rFixed_p (v : Value) (l s : List UInt8) (p : Nat) (hpn : padN s.length = p) (w : World) (hv : RS w v l) (h : l.length ≤ 500000) (hs : s.length ≤ 400000) :
    Calls Try.prog 121 #[v, .string (str s)] w fun e w' => ∃ v', e = .returned v' ∧ OwnZ w' w.heap.size 5 v' (l ++ (s ++ zs p)) ∧ Below w.heap.size w w' := by
  obtain ⟨A, c, rfl⟩ := hv.form
  have hsz := str_size s
  have hp : p ≤ 3 := by rw [← hpn]; exact padN_le s.length
  have hpm : (s.length + p) % 4 = 0 := by rw [← hpn]; unfold padN; omega
  have hpl : ∀ m, m < p → (s.length + m) % 4 ≠ 0 := by rw [← hpn]; unfold padN; omega
  clear hpn
  obtain ⟨v0, w0, hr0, ho0, hb0⟩ := appZ (ty := 47) (own_none (w := w) (T := 5)).z (srcS (hv.ext (ext_alloc w _))) (by simp) (by simp; omega)
  obtain ⟨v1, w1, hr1, ho1, hb1⟩ := appZ (ty := 47) ho0 (srcT s) (by have := hb0.size; simp at this; omega) (by simp; omega)
  have hB1 : Ext w w1 := Below.trans (Below.trans (ext_alloc w _) hb0) hb1
  go_enter Try.func121, Try.ntmps121
  go_wp2_with (first | (at_builtin; refine wpList_app rfl _ _ _ _ rfl hr0 ?_) | (at_builtin; refine wpList_app rfl _ _ _ _ rfl hr1 ?_))
  have H0 := Lib.hid ho1
  clear ho0 ho1 hr0 hr1
  go_loopw [5, 6] (fun x i wr => ∃ m : Nat, m ≤ p ∧ i = .int .i64 ((s.length : Int) + m) ∧ Hid (OwnZ wr w.heap.size 5 x (l ++ (s ++ zs m))) ∧ Hid (Ext w wr)) (fun _ i _ => s.length + p - (intOf i).toNat)
  case atStart => exact ⟨0, by omega, by simp, by simpa [Hid, zs] using H0.out, hB1⟩
  case round =>
    obtain ⟨m, hm, rfl, HO, HB⟩ := hrel
    by_cases hlt : m < p
    · have hne := hpl m hlt
      have hne' : ¬ (((s.length : Int) + m) % 4 = 0) := by omega
      obtain ⟨v5, w5, hr5, ho5, hb5⟩ := appZ (ty := 47) (HO.out.ext (ext_alloc wr (.cells #[bv 0] 5))) (srcS (rs_one (w := wr) (T := 5) 0)) (by have := HB.out.size; simp; omega) (by simp [zs]; omega)
      have e5 : l ++ (s ++ zs m) ++ [0] = l ++ (s ++ zs (m + 1)) := by simp [zs, List.replicate_succ']
      rw [e5] at ho5
      have hx5 : Ext w w5 := Below.trans (HB.out.trans (ext_alloc wr _)) hb5
      have H5 := Lib.hid ho5
      have HX := Lib.hid hx5
      clear ho5 hx5 e5
      go_wp2_with (at_builtin; refine wpList_app rfl _ _ _ _ rfl hr5 ?_)
      go_roundw
      case rel => exact ⟨m + 1, by omega, by go_num, H5, HX⟩
      case measure => simp [intOf]; omega
    · obtain rfl : m = p := by omega
      have he' : (((s.length : Int) + m) % 4 = 0) := by omega
      go_wp2_with fail
      go_ret
      exact ⟨_, rfl, HO.out, HB.out⟩

theorem rFixed_any (v : Value) (l s : List UInt8) (w : World) (hv : RS w v l) (h : l.length ≤ 500000) (hs : s.length ≤ 400000) :
    Calls Try.prog 121 #[v, .string (str s)] w fun e w' => ∃ v', e = .returned v' ∧ OwnZ w' w.heap.size 5 v' (l ++ fixL s) ∧ Below w.heap.size w w' := rFixed_p v l s _ rfl w hv h hs

theorem rText_any (v : Value) (l s : List UInt8) (w : World) (hv : RS w v l) (h : l.length ≤ 400000) (hs : s.length ≤ 400000) :
    Calls Try.prog 68 #[v, .string (str s)] w fun e w' => ∃ v', e = .returned v' ∧ OwnZ w' w.heap.size 5 v' (l ++ (beN s.length 4 ++ fixL s)) ∧ Below w.heap.size w w' := by
  obtain ⟨A, c, rfl⟩ := hv.form
  have hsz := str_size s
  go_enter Try.func68, Try.ntmps68
  go_wp2_with fail
  refine (rWord_any _ l s.length _ hv (by omega) (by omega) (by omega)).mono ?_
  rintro e w1 ⟨v1, rfl, ho1, hb1⟩
  go_wp2_with fail
  refine (rFixed_any _ _ s _ ho1.rs (by simp [beN_length]; omega) hs).mono ?_
  rintro e w2 ⟨v2, rfl, ho2, hb2⟩
  go_wp2_with fail
  go_ret
  rw [List.append_assoc] at ho2
  exact ⟨_, rfl, ho2.mono hb1.size, Below.trans hb1 (hb2.mono hb1.size)⟩
end

section
set_option linter.unusedVariables false
open Go.RowKit

/-- All of w is in w', but block g may have changed. -/
def But (g : Nat) (w w' : World) : Prop := w.grownBy w' (some g)
theorem But.refl (g : Nat) (w : World) : But g w w := ⟨rfl, rfl, rfl, Nat.le_refl _, fun _ _ _ => rfl⟩
theorem But.trans {g : Nat} {a b c : World} (h : But g a b) (k : But g b c) : But g a c :=
  ⟨k.os.trans h.os, k.tape.trans h.tape, k.output.trans h.output, Nat.le_trans h.size k.size, fun i hi hne => (k.block i (Nat.lt_of_lt_of_le hi h.size) hne).trans (h.block i hi hne)⟩
theorem But.of {g : Nat} {w w' : World} (h : Ext w w') : But g w w' := ⟨h.os, h.tape, h.output, h.size, fun i hi _ => h.block i hi⟩
theorem But.below {g B : Nat} {w w' : World} (h : But g w w') (hB : B ≤ g) (hBw : B ≤ w.heap.size) : Below B w w' :=
  ⟨h.os, h.tape, h.output, h.size, fun i hi => h.block i (by omega) (by simp; omega)⟩
theorem But.cell {g : Nat} {w w' : World} (h : But g w w') {k o : Nat} (hk : k < w.heap.size) (hne : k ≠ g) : w'.cell? ⟨k, o, none⟩ = w.cell? ⟨k, o, none⟩ :=
  World.cell?_of_block (h.block k hk (by simpa using hne))

/-- The rest of a reader, that is not bad: its bytes; none: bad. -/
abbrev St := Option (List UInt8)
def St.l (s : St) : List UInt8 := s.getD []

/-- A reader in block g. -/
def Rd (T : TypeId) (w : World) (g : Nat) (s : St) : Prop :=
  ∃ A c, w.heap[g]? = some (.cells #[.slice A s.l.length c, .bool s.isNone] T (0, 0)) ∧ RS w (.slice A s.l.length c) s.l

theorem RS.but {w w' : World} {g : Nat} {v a : Value} {b : Bool} {l : List UInt8} {T : TypeId} {A : Option Addr} {n c : Nat} (h : RS w v l) (k : But g w w') (hg : w.heap[g]? = some (.cells #[.slice A n c, .bool b] T (0, 0))) : RS w' v l := by
  rcases h with h | ⟨b', off, c', rfl, hb, hc, hj⟩
  · exact .inl h
  · refine .inr ⟨b', off, c', rfl, Nat.lt_of_lt_of_le hb k.size, hc, fun j hjl => ?_⟩
    have hne : b' ≠ g := by
      rintro rfl
      have h1 := hj j hjl
      rw [cell_of_row _ _ _ _ _ _ hg, bvs_get hjl] at h1
      match hoj : off + j, h1 with
      | 0, h1 => simp [bv] at h1
      | 1, h1 => simp [bv] at h1
      | m + 2, h1 => simp at h1
    exact (k.cell hb hne).trans (hj j hjl)
theorem Rd.lt {T : TypeId} {w : World} {g : Nat} {s : St} (h : Rd T w g s) : g < w.heap.size := by
  obtain ⟨A, c, hg, _⟩ := h
  exact (Array.getElem?_eq_some_iff.1 hg).1
theorem Rd.ext {T : TypeId} {w w' : World} {g : Nat} {s : St} (h : Rd T w g s) (k : Ext w w') : Rd T w' g s := by
  have hl := h.lt
  obtain ⟨A, c, hg, hr⟩ := h
  exact ⟨A, c, (k.block g hl).trans hg, hr.ext k⟩
/-- A reader stays what it is when another block changes, if that is a reader's too. -/
theorem Rd.but {T T' : TypeId} {w w' : World} {g g' : Nat} {s s' : St} (h : Rd T w g s) (h' : Rd T' w g' s') (hne : g ≠ g') (k : But g' w w') : Rd T w' g s := by
  have hl := h.lt
  obtain ⟨A, c, hg, hr⟩ := h
  obtain ⟨A', c', hg', _⟩ := h'
  exact ⟨A, c, (k.block g hl (by simpa using hne)).trans hg, hr.but (a := .bool true) k hg'⟩
/-- Its two cells written anew. -/
theorem Rd.set {T : TypeId} {w : World} {g : Nat} {s s' : St} {v : Value} {b : Bool} (h : Rd T w g s) (hv : RS w v s'.l) (hb : b = s'.isNone) : Rd T (w.setRow g #[v, .bool b]) g s' ∧ But g w (w.setRow g #[v, .bool b]) := by
  obtain ⟨A, c, hg, _⟩ := h
  have hbut : But g w (w.setRow g #[v, .bool b]) := ⟨rfl, rfl, rfl, by simp [World.setRow], fun i _ hne => setRow_other w g i _ (by simpa using hne)⟩
  obtain ⟨A', c', rfl⟩ := hv.form
  subst hb
  exact ⟨⟨A', c', setRow_heap _ _ _ _ _ _ hg, hv.but (a := .bool true) hbut hg⟩, hbut⟩

/-- A block of two cells. -/
theorem blk2 {w : World} {g : Nat} {T : TypeId} {a b : Value} (h : w.heap[g]? = some (.cells #[a, b] T (0, 0))) :
    w.cell? ⟨g, 0, none⟩ = some a ∧ w.cell? ⟨g, 1, none⟩ = some b ∧ w.frozen? ⟨g, 0, none⟩ = false ∧ w.frozen? ⟨g, 1, none⟩ = false ∧ g < w.heap.size :=
  ⟨by simp [World.cell?, h], by simp [World.cell?, h], by simp [World.frozen?, h], by simp [World.frozen?, h], (Array.getElem?_eq_some_iff.1 h).1⟩
theorem blk2_st0 {w : World} {g : Nat} {T : TypeId} {a b : Value} (x : Value) (h : w.heap[g]? = some (.cells #[a, b] T (0, 0))) : w.setCell ⟨g, 0, none⟩ x = w.setRow g #[x, b] := by
  rw [setCell_eq_setRow w g 0 _ T (0, 0) _ h]; rfl
theorem blk2_st1 {w : World} {g : Nat} {T : TypeId} {a b : Value} (y : Value) (h : w.heap[g]? = some (.cells #[a, b] T (0, 0))) : w.setCell ⟨g, 1, none⟩ y = w.setRow g #[a, y] := by
  rw [setCell_eq_setRow w g 1 _ T (0, 0) _ h]; rfl
theorem blk2_st10 {w : World} {g : Nat} {T : TypeId} {a b : Value} (x y : Value) (h : w.heap[g]? = some (.cells #[a, b] T (0, 0))) : (w.setCell ⟨g, 1, none⟩ y).setCell ⟨g, 0, none⟩ x = w.setRow g #[x, y] := by
  rw [blk2_st1 y h, blk2_st0 x (setRow_heap _ _ _ _ _ _ h), setRow_setRow]
end

section
set_option linter.unusedVariables false
open Go.RowKit

theorem eq_nil (a : Option Addr) (n c : Nat) (w : World) : (binOp .eql 47 (.slice a n c) (.slice none 0 0)).run Try.prog w = .ok (.bool a.isNone) w := Lib.run_eql_slice_nil w _ _ a n c 0 0 Try.underlying47
theorem clone_any (v : Value) (l : List UInt8) (w : World) (hv : RS w v l) (h : l.length ≤ 900000) :
    Calls Try.prog 122 #[v] w fun e w' => ∃ v', e = .returned v' ∧ OwnZ w' w.heap.size 5 v' l ∧ Below w.heap.size w w' := by
  have e1 := eq_nil
  rcases hv with ⟨rfl, rfl⟩ | hv'
  · go_enter Try.func122, Try.ntmps122
    go_wp2
    go_ret
    exact ⟨_, rfl, OwnZ.nil, by (repeat' (first | (with_reducible assumption) | (with_reducible exact Below.refl _ _) | (with_reducible refine below_sc ?_ ?_) | ((with_reducible show (_ : Nat) ≤ _); omega) | refine Below.setCell ?_ (by first | omega | (simp; done) | (simp; omega)) _ | refine Below.alloc ?_ (by first | omega | (simp; done) | (simp; omega)) _ | refine Below.drew ?_ | refine below_drewN ?_ _ | refine Below.trans ?_ (Below.mono (by assumption) (by first | omega | (simp; done) | (simp; omega)))))⟩
  · have hv : RS w v l := .inr hv'
    obtain ⟨b, off, c, rfl, -⟩ := hv'
    obtain ⟨v0, w0, hr0, ho0, hb0⟩ := appZ (ty := 47) (own_none (w := w) (T := 5)).z (srcS (hv.ext (ext_alloc w _))) (by simp) (by simp; omega)
    go_enter Try.func122, Try.ntmps122
    go_wp2_with (at_builtin; refine wpList_app rfl _ _ _ _ rfl hr0 ?_)
    go_ret
    exact ⟨_, rfl, ho0, Below.trans (ext_alloc w _) hb0⟩

theorem newReader_any (v : Value) (l : List UInt8) (w : World) (hv : RS w v l) (h : l.length ≤ 900000) :
    Calls Try.prog 72 #[v] w fun e w' => ∃ g, e = .returned (.pointer (some ⟨g, 0, none⟩)) ∧ Rd 192 w' g (some l) ∧ w.heap.size ≤ g ∧ Below w.heap.size w w' := by
  go_enter Try.func72, Try.ntmps72
  go_wp2_with fail
  refine (clone_any v l w hv h).mono ?_
  rintro e w1 ⟨v1, rfl, o1, b1⟩
  obtain ⟨A, c, rfl⟩ := o1.rs.form
  go_wp2_with fail
  go_ret
  exact ⟨_, rfl, ⟨A, c, heap_alloc_last _ _, o1.rs.ext (ext_alloc _ _)⟩, b1.size, Below.trans b1 ((ext_alloc w1 _ : Ext _ _).mono b1.size)⟩

theorem spoil_any (g : Nat) (s : St) (w : World) (h : Rd 192 w g s) :
    Calls Try.prog 155 #[.pointer (some ⟨g, 0, none⟩)] w fun e w' => e = .returned (.tuple #[]) ∧ Rd 192 w' g none ∧ But g w w' := by
  obtain ⟨h1, h2⟩ := h.set (s' := none) (b := true) RS.nil rfl
  obtain ⟨A, c, hg, hr⟩ := h
  obtain ⟨c0, c1, f0, f1, hz⟩ := blk2 hg
  rw [← blk2_st10 _ _ hg] at h1 h2
  clear hg
  go_enter Try.func155, Try.ntmps155
  go_wp2
  go_end0
  exact ⟨rfl, h1, h2⟩

theorem fail_any (g : Nat) (s : St) (w : World) (h : Rd 196 w g s) :
    Calls Try.prog 134 #[.pointer (some ⟨g, 0, none⟩)] w fun e w' => e = .returned (.tuple #[]) ∧ Rd 196 w' g none ∧ But g w w' := by
  obtain ⟨h1, h2⟩ := h.set (s' := none) (b := true) RS.nil rfl
  obtain ⟨A, c, hg, hr⟩ := h
  obtain ⟨c0, c1, f0, f1, hz⟩ := blk2 hg
  rw [← blk2_st10 _ _ hg] at h1 h2
  clear hg
  go_enter Try.func134, Try.ntmps134
  go_wp2
  go_end0
  exact ⟨rfl, h1, h2⟩
end

section
set_option linter.unusedVariables false
open Go.RowKit

theorem take_no (g : Nat) (s : St) (n : Int) (w : World) (h : Rd 192 w g s) (hn : s = none ∨ n < 0 ∨ s.l.length < n) :
    Calls Try.prog 135 #[.pointer (some ⟨g, 0, none⟩), .int .i64 n] w fun e w' => e = .returned (.tuple #[.slice none 0 0, .bool false]) ∧ Rd 192 w' g none ∧ But g w w' := by
  have h0 := h
  obtain ⟨A, c, hg, hr⟩ := h
  obtain ⟨c0, c1, f0, f1, hz⟩ := blk2 hg
  clear hg
  cases s with
  | none =>
    simp only [Option.isNone_none] at c1
    go_enter Try.func135, Try.ntmps135
    go_wp2
    go_ret2
    exact ⟨rfl, h0, But.refl _ _⟩
  | some l =>
    simp only [Option.isNone_some] at c1
    have hl : St.l (some l) = l := rfl
    rw [hl] at c0 hr
    by_cases h1 : n < 0
    · go_enter Try.func135, Try.ntmps135
      go_wp2_with (go_at_call 155; refine (spoil_any _ _ _ h0).mono ?_; rintro e w1 ⟨rfl, r1, b1⟩)
      go_ret2
      exact ⟨rfl, r1, b1⟩
    · have h2 : (l.length : Int) < n := by
        rcases hn with hn | hn | hn
        · cases hn
        · exact absurd hn h1
        · exact hn
      go_enter Try.func135, Try.ntmps135
      go_wp2_with (go_at_call 155; refine (spoil_any _ _ _ h0).mono ?_; rintro e w1 ⟨rfl, r1, b1⟩)
      go_ret2
      exact ⟨rfl, r1, b1⟩

theorem take_ok (g : Nat) (l : List UInt8) (n : Nat) (w : World) (h : Rd 192 w g (some l)) (hn : n ≤ l.length) :
    Calls Try.prog 135 #[.pointer (some ⟨g, 0, none⟩), .int .i64 n] w fun e w' => ∃ A, e = .returned (.tuple #[.slice A n n, .bool true]) ∧ RS w' (.slice A n n) (l.take n) ∧ Rd 192 w' g (some (l.drop n)) ∧ But g w w' := by
  have h0 := h
  obtain ⟨A, c, hg, hr⟩ := h
  obtain ⟨c0, c1, f0, f1, hz⟩ := blk2 hg
  simp only [Option.isNone_some] at c1 hg
  have hl : St.l (some l) = l := rfl
  rw [hl] at c0 hr
  rcases hr with ⟨h1, h2⟩ | ⟨b, off, c', h1, hb, hc, hj⟩
  · subst h2
    obtain ⟨rfl, rfl⟩ : A = none ∧ c = 0 := by simpa using h1
    obtain rfl : n = 0 := by simpa using hn
    have hs := h0.set (s' := some []) (v := .slice none 0 0) (b := false) RS.nil rfl
    rw [← blk2_st0 _ hg] at hs
    have HS := Lib.hid hs
    clear hg hs
    go_enter Try.func135, Try.ntmps135
    go_wp2
    go_ret2
    exact ⟨_, rfl, RS.nil, HS.out.1, HS.out.2⟩
  · obtain ⟨rfl, -, rfl⟩ : A = some ⟨b, off, none⟩ ∧ True ∧ c = c' := by simpa using h1
    have hcut : RS w (.slice (some ⟨b, off, none⟩) n n) (l.take n) := by
      have hlt : (l.take n).length = n := by simp; omega
      refine .inr ⟨b, off, n, by rw [hlt], hb, by omega, fun j hjl => ?_⟩
      rw [hj j (by omega)]
      simp only [bvs, List.getElem?_map, List.getElem?_take, if_pos (show j < n by omega)]
    have hdl : (l.drop n).length = l.length - n := by simp
    by_cases hcn : c = n
    · have hd : l.drop n = [] := List.drop_eq_nil_of_le (by omega)
      have hs := h0.set (s' := some (l.drop n)) (v := .slice (some ⟨b, off, none⟩) (l.length - n) 0) (b := false) (.inr ⟨b, off, 0, by rw [show St.l (some (l.drop n)) = l.drop n from rfl, hdl], hb, by rw [show St.l (some (l.drop n)) = l.drop n from rfl, hdl]; omega, fun j hjl => by
        rw [show St.l (some (l.drop n)) = l.drop n from rfl, hd] at hjl; simp at hjl⟩) rfl
      have hr2 := hcut.but (a := .bool true) hs.2 hg
      rw [← blk2_st0 _ hg] at hs hr2
      have HS := Lib.hid hs
      have HR := Lib.hid hr2
      clear hg hs hr2
      go_enter Try.func135, Try.ntmps135
      go_wp2
      go_ret2
      exact ⟨_, rfl, HR.out, HS.out.1, HS.out.2⟩
    · have hs := h0.set (s' := some (l.drop n)) (v := .slice (some ⟨b, off + n, none⟩) (l.length - n) (c - n)) (b := false) (.inr ⟨b, off + n, c - n, by rw [show St.l (some (l.drop n)) = l.drop n from rfl, hdl], hb, by rw [show St.l (some (l.drop n)) = l.drop n from rfl, hdl]; omega, fun j hjl => by
        rw [show St.l (some (l.drop n)) = l.drop n from rfl] at hjl ⊢
        rw [hdl] at hjl
        rw [Nat.add_assoc, hj (n + j) (by omega)]
        simp [bvs]⟩) rfl
      have hr2 := hcut.but (a := .bool true) hs.2 hg
      rw [← blk2_st0 _ hg] at hs hr2
      have HS := Lib.hid hs
      have HR := Lib.hid hr2
      clear hg hs hr2
      go_enter Try.func135, Try.ntmps135
      go_wp2
      go_ret2
      exact ⟨_, rfl, HR.out, HS.out.1, HS.out.2⟩
end

section
set_option linter.unusedVariables false
open Go.RowKit

theorem rnewReader_any (v : Value) (l : List UInt8) (w : World) (hv : RS w v l) (h : l.length ≤ 900000) :
    Calls Try.prog 76 #[v] w fun e w' => ∃ g, e = .returned (.pointer (some ⟨g, 0, none⟩)) ∧ Rd 196 w' g (some l) ∧ w.heap.size ≤ g ∧ Below w.heap.size w w' := by
  obtain ⟨A, c, rfl⟩ := hv.form
  obtain ⟨v0, w0, hr0, ho0, hb0⟩ := appZ (ty := 47) (own_none (w := w) (T := 5)).z (srcS (hv.ext (ext_alloc w _))) (by simp) (by simp; omega)
  have hx0 : Ext w w0 := Below.trans (ext_alloc w _) hb0
  rw [List.nil_append] at ho0
  obtain ⟨A0, c0, rfl⟩ := ho0.rs.form
  go_enter Try.func76, Try.ntmps76
  go_wp2_with (at_builtin; refine wpList_app rfl _ _ _ _ rfl hr0 ?_)
  go_ret
  exact ⟨_, rfl, ⟨A0, c0, heap_alloc_last _ _, ho0.rs.ext (ext_alloc _ _)⟩, hx0.size, Below.trans hx0 ((ext_alloc w0 _ : Ext _ _).mono hx0.size)⟩

/-- The number of some bytes, the greatest first. -/
def beV (l : List UInt8) : Int := l.foldl (fun n b => n * 256 + (b.toNat : Int)) 0
theorem beV_snoc (l : List UInt8) (b : UInt8) : beV (l ++ [b]) = beV l * 256 + b.toNat := by simp [beV]
theorem beV_bd (l : List UInt8) : 0 ≤ beV l ∧ beV l < 256 ^ l.length := by
  have : ∀ (l : List UInt8) (n : Int), 0 ≤ n → 0 ≤ l.foldl (fun n b => n * 256 + (b.toNat : Int)) n ∧ l.foldl (fun n b => n * 256 + (b.toNat : Int)) n < (n + 1) * 256 ^ l.length := by
    intro l
    induction l with
    | nil => intro n h; simp; omega
    | cons b l ih =>
      intro n h
      have hb := b.toNat_lt
      obtain ⟨h1, h2⟩ := ih (n * 256 + b.toNat) (by omega)
      refine ⟨h1, Int.lt_of_lt_of_le h2 ?_⟩
      rw [List.length_cons, Int.pow_succ, Int.mul_comm (256 ^ l.length) 256, ← Int.mul_assoc]
      exact Int.mul_le_mul_of_nonneg_right (by omega) (Int.pow_nonneg (by omega))
  have h := this l 0 (by omega)
  simpa [beV] using h
theorem beV_lt {l : List UInt8} {k : Nat} (hl : l.length = k) : 0 ≤ beV l ∧ beV l < 256 ^ k := hl ▸ beV_bd l

theorem or_u32 (x b : Int) (hx : 0 ≤ x) (hx1 : x < 16777216) (hb : 0 ≤ b) (hb1 : b < 256) : bits .or .u32 (x * 256) b = x * 256 + b := by
  obtain ⟨m, rfl⟩ := Int.eq_ofNat_of_zero_le hx
  obtain ⟨k, rfl⟩ := Int.eq_ofNat_of_zero_le hb
  have e1 : ((m : Int) * 256) = ((m * 256 : Nat) : Int) := by omega
  rw [e1]
  have h1 : (BitVec.ofInt 32 ((m * 256 : Nat) : Int)).toNat = m * 256 := by rw [BitVec.ofInt_natCast, BitVec.toNat_ofNat]; exact Nat.mod_eq_of_lt (by omega)
  have h2 : (BitVec.ofInt 32 ((k : Nat) : Int)).toNat = k := by rw [BitVec.ofInt_natCast, BitVec.toNat_ofNat]; exact Nat.mod_eq_of_lt (by omega)
  have e2 : m * 256 ||| k = m * 256 + k := by
    have := Nat.two_pow_add_eq_or_of_lt (i := 8) (b := k) (by omega) m
    rw [show m * 256 = 2 ^ 8 * m by omega]; omega
  show IntKind.u32.wrap ((BitVec.ofInt 32 ((m * 256 : Nat) : Int) ||| BitVec.ofInt 32 ((k : Nat) : Int)).toNat : Int) = _
  rw [BitVec.toNat_or, h1, h2, e2]
  simp [IntKind.wrap, IntKind.bits, IntKind.signed]
  omega
end

section
set_option linter.unusedVariables false
open Go.RowKit

def rdW : St → Int × St
  | none => (0, none)
  | some l => if 4 ≤ l.length then (beV (l.take 4), some (l.drop 4)) else (0, none)

theorem RS.some_of {w : World} {A : Option Addr} {n c : Nat} {l : List UInt8} (h : RS w (.slice A n c) l) (hl : l ≠ []) : ∃ b off, A = some ⟨b, off, none⟩ ∧ n = l.length ∧ b < w.heap.size ∧ n ≤ c ∧ ∀ j, j < l.length → w.cell? ⟨b, off + j, none⟩ = (bvs l)[j]? := by
  rcases h with ⟨_, h⟩ | ⟨b, off, c', h, hb, hc, hj⟩
  · exact absurd h hl
  · simp only [Value.slice.injEq] at h
    obtain ⟨rfl, rfl, rfl⟩ := h
    exact ⟨b, off, rfl, rfl, hb, hc, hj⟩

theorem four {l : List UInt8} (h : l.length = 4) : ∃ p q r t, l = [p, q, r, t] := by
  match l, h with
  | [p, q, r, t], _ => exact ⟨p, q, r, t, rfl⟩

theorem word_any (g : Nat) (s : St) (w : World) (h : Rd 192 w g s) :
    Calls Try.prog 94 #[.pointer (some ⟨g, 0, none⟩)] w fun e w' => e = .returned (.int .u32 (rdW s).1) ∧ Rd 192 w' g (rdW s).2 ∧ But g w w' := by
  by_cases hs : s = none ∨ s.l.length < 4
  · have hr : rdW s = (0, none) := by
      cases s with
      | none => rfl
      | some l =>
        have h4 : ¬ 4 ≤ l.length := by rcases hs with hs | hs; cases hs; simpa [St.l] using hs
        simp [rdW, h4]
    rw [hr]
    go_enter Try.func94, Try.ntmps94
    go_wp2_with (go_at_call 135; refine (take_no g s 4 _ h (by rcases hs with hs | hs; exact .inl hs; exact .inr (.inr (by exact_mod_cast hs)))).mono ?_; rintro e w1 ⟨rfl, r1, b1⟩)
    go_ret
    exact ⟨rfl, r1, b1⟩
  · obtain ⟨l, rfl⟩ : ∃ l, s = some l := by cases s with | none => exact absurd (.inl rfl) hs | some l => exact ⟨l, rfl⟩
    have h4 : 4 ≤ l.length := Nat.le_of_not_lt fun h => hs (.inr h)
    obtain ⟨p, q, r, t, hl⟩ := four (l := l.take 4) (by simp; omega)
    have hr : rdW (some l) = (beV [p, q, r, t], some (l.drop 4)) := by simp [rdW, h4, hl]
    rw [hr]
    go_enter Try.func94, Try.ntmps94
    go_wp2_with fail
    refine (take_ok g l 4 _ h h4).mono ?_
    rintro e w1 ⟨A, rfl, hc, r1, b1⟩
    rw [hl] at hc
    obtain ⟨b, off, rfl, -, hb, -, hj⟩ := hc.some_of (by simp)
    have ha := fun w => run_arrayAt (P := Try.prog) (w := w) 163 5 4 (some ⟨b, off, none⟩) 4 4 Try.underlying163 (Nat.le_refl _)
    have d0 : w1.cell? ⟨b, off, none⟩ = some (.int .u8 p.toNat) := hj 0 (by simp)
    have d1 : w1.cell? ⟨b, off + 1, none⟩ = some (.int .u8 q.toNat) := hj 1 (by simp)
    have d2 : w1.cell? ⟨b, off + 2, none⟩ = some (.int .u8 r.toNat) := hj 2 (by simp)
    have d3 : w1.cell? ⟨b, off + 3, none⟩ = some (.int .u8 t.toNat) := hj 3 (by simp)
    clear hj
    have pb := p.toNat_lt
    have qb := q.toNat_lt
    have rb := r.toNat_lt
    have tb := t.toNat_lt
    have i0 : ∀ w, (Instr.index 163 (.agg #[.int .u8 (p.toNat : Int), .int .u8 (q.toNat : Int), .int .u8 (r.toNat : Int), .int .u8 (t.toNat : Int)]) (.int .i64 0)).run Try.prog w = .ok (.int .u8 (p.toNat : Int)) w := fun _ => by kernel_rfl
    have i1 : ∀ w, (Instr.index 163 (.agg #[.int .u8 (p.toNat : Int), .int .u8 (q.toNat : Int), .int .u8 (r.toNat : Int), .int .u8 (t.toNat : Int)]) (.int .i64 1)).run Try.prog w = .ok (.int .u8 (q.toNat : Int)) w := fun _ => by kernel_rfl
    have i2 : ∀ w, (Instr.index 163 (.agg #[.int .u8 (p.toNat : Int), .int .u8 (q.toNat : Int), .int .u8 (r.toNat : Int), .int .u8 (t.toNat : Int)]) (.int .i64 2)).run Try.prog w = .ok (.int .u8 (r.toNat : Int)) w := fun _ => by kernel_rfl
    have i3 : ∀ w, (Instr.index 163 (.agg #[.int .u8 (p.toNat : Int), .int .u8 (q.toNat : Int), .int .u8 (r.toNat : Int), .int .u8 (t.toNat : Int)]) (.int .i64 3)).run Try.prog w = .ok (.int .u8 (t.toNat : Int)) w := fun _ => by kernel_rfl
    have o1 := or_u32 0 p.toNat (by omega) (by omega) (by omega) (by omega)
    have o2 := or_u32 p.toNat q.toNat (by omega) (by omega) (by omega) (by omega)
    have o3 := or_u32 (p.toNat * 256 + q.toNat) r.toNat (by omega) (by omega) (by omega) (by omega)
    have o4 := or_u32 ((p.toNat * 256 + q.toNat) * 256 + r.toNat) t.toNat (by omega) (by omega) (by omega) (by omega)
    simp only [Int.zero_mul, Int.zero_add] at o1
    go_wp2_with fail
    refine wp_loop_rounds 5 ?_
    iterate 5
      rw [rounds_succ]
      go_wp2_with fail
    go_ret
    exact ⟨by simp [beV], r1.ext (ext_alloc _ _), b1.trans (But.of (ext_alloc _ _))⟩
end

section
set_option linter.unusedVariables false
open Go.RowKit

theorem rdW_bd (s : St) : 0 ≤ (rdW s).1 ∧ (rdW s).1 ≤ 4294967295 := by
  cases s with
  | none => simp [rdW]
  | some l =>
    by_cases h : 4 ≤ l.length
    · have := beV_lt (l := l.take 4) (k := 4) (by simp; omega)
      simp only [rdW, if_pos h]
      omega
    · simp [rdW, h]

theorem ok_any (g : Nat) (s : St) (w : World) (h : Rd 192 w g s) :
    Calls Try.prog 128 #[.pointer (some ⟨g, 0, none⟩)] w fun e w' => e = .returned (.bool s.isSome) ∧ w' = w := by
  obtain ⟨A, c, hg, hr⟩ := h
  obtain ⟨c0, c1, f0, f1, hz⟩ := blk2 hg
  clear hg
  cases s with
  | none =>
    simp only [Option.isNone_none] at c1
    go_enter Try.func128, Try.ntmps128
    go_wp2
    go_ret
    exact ⟨rfl, rfl⟩
  | some l =>
    simp only [Option.isNone_some] at c1
    go_enter Try.func128, Try.ntmps128
    go_wp2
    go_ret
    exact ⟨rfl, rfl⟩

/-- Was all read? -/
def doneB (s : St) : Bool := s == some []
theorem done_any (g : Nat) (s : St) (w : World) (h : Rd 192 w g s) :
    Calls Try.prog 75 #[.pointer (some ⟨g, 0, none⟩)] w fun e w' => e = .returned (.bool (doneB s)) ∧ w' = w := by
  have h0 := h
  obtain ⟨A, c, hg, hr⟩ := h
  obtain ⟨c0, c1, f0, f1, hz⟩ := blk2 hg
  clear hg
  cases s with
  | none =>
    simp only [Option.isNone_none] at c1
    go_enter Try.func75, Try.ntmps75
    go_wp2_with (go_at_call 128; refine (ok_any _ _ _ h0).mono ?_; rintro e w' ⟨rfl, rfl⟩)
    go_ret
    exact ⟨rfl, rfl⟩
  | some l =>
    simp only [Option.isNone_some] at c1
    cases l with
    | nil =>
      go_enter Try.func75, Try.ntmps75
      go_wp2_with (go_at_call 128; refine (ok_any _ _ _ h0).mono ?_; rintro e w' ⟨rfl, rfl⟩)
      go_ret
      exact ⟨rfl, rfl⟩
    | cons a l =>
      have hn : ∀ n : Nat, ((n : Int) + 1 == 0) = false := fun n => by rw [beq_eq_false_iff_ne]; omega
      have hl : St.l (some (a :: l)) = a :: l := rfl
      rw [hl] at c0
      go_enter Try.func75, Try.ntmps75
      go_wp2_with (go_at_call 128; refine (ok_any _ _ _ h0).mono ?_; rintro e w' ⟨rfl, rfl⟩)
      go_ret
      exact ⟨rfl, rfl⟩
end

section
set_option linter.unusedVariables false
open Go.RowKit

theorem or_u64 (x b : Int) (hx : 0 ≤ x) (hx1 : x ≤ 4294967295) (hb : 0 ≤ b) (hb1 : b ≤ 4294967295) : bits .or .u64 (x * 4294967296) b = x * 4294967296 + b := by
  obtain ⟨m, rfl⟩ := Int.eq_ofNat_of_zero_le hx
  obtain ⟨k, rfl⟩ := Int.eq_ofNat_of_zero_le hb
  have e1 : ((m : Int) * 4294967296) = ((m * 4294967296 : Nat) : Int) := by omega
  rw [e1]
  have h1 : (BitVec.ofInt 64 ((m * 4294967296 : Nat) : Int)).toNat = m * 4294967296 := by rw [BitVec.ofInt_natCast, BitVec.toNat_ofNat]; exact Nat.mod_eq_of_lt (by omega)
  have h2 : (BitVec.ofInt 64 ((k : Nat) : Int)).toNat = k := by rw [BitVec.ofInt_natCast, BitVec.toNat_ofNat]; exact Nat.mod_eq_of_lt (by omega)
  have e2 : m * 4294967296 ||| k = m * 4294967296 + k := by
    have := Nat.two_pow_add_eq_or_of_lt (i := 32) (b := k) (by omega) m
    rw [show m * 4294967296 = 2 ^ 32 * m by omega]; omega
  show IntKind.u64.wrap ((BitVec.ofInt 64 ((m * 4294967296 : Nat) : Int) ||| BitVec.ofInt 64 ((k : Nat) : Int)).toNat : Int) = _
  rw [BitVec.toNat_or, h1, h2, e2]
  simp [IntKind.wrap, IntKind.bits, IntKind.signed]
  omega

def rdL (s : St) : Int × St := if (rdW (rdW s).2).2 = none then (0, none) else ((rdW s).1 * 4294967296 + (rdW (rdW s).2).1, (rdW (rdW s).2).2)
theorem rdL_bd (s : St) : 0 ≤ (rdL s).1 ∧ (rdL s).1 ≤ 18446744073709551615 := by
  have h1 := rdW_bd s
  have h2 := rdW_bd (rdW s).2
  unfold rdL
  split
  · simp
  · simp only; omega

theorem long_any (g : Nat) (s : St) (w : World) (h : Rd 192 w g s) :
    Calls Try.prog 127 #[.pointer (some ⟨g, 0, none⟩)] w fun e w' => e = .returned (.int .u64 (rdL s).1) ∧ Rd 192 w' g (rdL s).2 ∧ But g w w' := by
  have b1 := rdW_bd s
  have b2 := rdW_bd (rdW s).2
  have ho := or_u64 _ _ b1.1 b1.2 b2.1 b2.2
  cases hq : (rdW (rdW s).2).2 with
  | none =>
    have hr : rdL s = (0, none) := by simp [rdL, hq]
    rw [hr]
    go_enter Try.func127, Try.ntmps127
    go_wp2_with fail
    refine (word_any g s _ h).mono ?_
    rintro e w1 ⟨rfl, r1, k1⟩
    go_wp2_with fail
    refine (word_any g _ _ r1).mono ?_
    rintro e w2 ⟨rfl, r2, k2⟩
    rw [hq] at r2
    go_wp2_with (go_at_call 128; refine (ok_any _ _ _ r2).mono ?_; rintro e w' ⟨rfl, rfl⟩)
    go_ret
    exact ⟨rfl, r2, k1.trans k2⟩
  | some l =>
    have hr : rdL s = ((rdW s).1 * 4294967296 + (rdW (rdW s).2).1, some l) := by simp [rdL, hq]
    rw [hr]
    go_enter Try.func127, Try.ntmps127
    go_wp2_with fail
    refine (word_any g s _ h).mono ?_
    rintro e w1 ⟨rfl, r1, k1⟩
    go_wp2_with fail
    refine (word_any g _ _ r1).mono ?_
    rintro e w2 ⟨rfl, r2, k2⟩
    rw [hq] at r2
    go_wp2_with (go_at_call 128; refine (ok_any _ _ _ r2).mono ?_; rintro e w' ⟨rfl, rfl⟩)
    go_ret
    exact ⟨rfl, r2, k1.trans k2⟩

theorem int_any (g : Nat) (s : St) (w : World) (h : Rd 192 w g s) :
    Calls Try.prog 126 #[.pointer (some ⟨g, 0, none⟩)] w fun e w' => e = .returned (.int .i64 (wrap64 (rdL s).1)) ∧ Rd 192 w' g (rdL s).2 ∧ But g w w' := by
  have b1 := rdL_bd s
  go_enter Try.func126, Try.ntmps126
  go_wp2_with fail
  refine (long_any g s _ h).mono ?_
  rintro e w1 ⟨rfl, r1, k1⟩
  go_wp2_with fail
  go_ret
  exact ⟨rfl, r1, k1⟩
end

section
set_option linter.unusedVariables false
open Go.RowKit

def rdF (s : St) : Bool × St := if 1 < (rdW s).1 then (false, none) else ((rdW s).1 == 1, (rdW s).2)
theorem flag_any (g : Nat) (s : St) (w : World) (h : Rd 192 w g s) :
    Calls Try.prog 138 #[.pointer (some ⟨g, 0, none⟩)] w fun e w' => e = .returned (.bool (rdF s).1) ∧ Rd 192 w' g (rdF s).2 ∧ But g w w' := by
  by_cases h1 : 1 < (rdW s).1
  · have hr : rdF s = (false, none) := by simp [rdF, h1]
    rw [hr]
    go_enter Try.func138, Try.ntmps138
    go_wp2_with fail
    refine (word_any g s _ h).mono ?_
    rintro e w1 ⟨rfl, r1, k1⟩
    go_wp2_with (go_at_call 155; refine (spoil_any _ _ _ r1).mono ?_; rintro e w2 ⟨rfl, r2, k2⟩)
    go_ret
    exact ⟨rfl, r2, k1.trans k2⟩
  · have hr : rdF s = ((rdW s).1 == 1, (rdW s).2) := by simp [rdF, h1]
    rw [hr]
    go_enter Try.func138, Try.ntmps138
    go_wp2_with fail
    refine (word_any g s _ h).mono ?_
    rintro e w1 ⟨rfl, r1, k1⟩
    go_wp2_with fail
    go_ret
    exact ⟨rfl, r1, k1⟩

def rdC (s : St) (most : Int) : Int × St := if most < (rdW s).1 then (0, none) else rdW s
theorem rdC_bd (s : St) (m : Int) : 0 ≤ (rdC s m).1 ∧ (rdC s m).1 ≤ 4294967295 := by
  have := rdW_bd s
  unfold rdC
  split
  · simp
  · exact this
theorem count_any (g : Nat) (s : St) (m : Int) (w : World) (h : Rd 192 w g s) :
    Calls Try.prog 151 #[.pointer (some ⟨g, 0, none⟩), .int .i64 m] w fun e w' => e = .returned (.int .i64 (rdC s m).1) ∧ Rd 192 w' g (rdC s m).2 ∧ But g w w' := by
  have hb := rdW_bd s
  by_cases h1 : m < (rdW s).1
  · have hr : rdC s m = (0, none) := by simp [rdC, h1]
    rw [hr]
    go_enter Try.func151, Try.ntmps151
    go_wp2_with fail
    refine (word_any g s _ h).mono ?_
    rintro e w1 ⟨rfl, r1, k1⟩
    go_wp2_with (go_at_call 155; refine (spoil_any _ _ _ r1).mono ?_; rintro e w2 ⟨rfl, r2, k2⟩)
    go_ret
    exact ⟨rfl, r2, k1.trans k2⟩
  · have hr : rdC s m = rdW s := by simp [rdC, h1]
    rw [hr]
    go_enter Try.func151, Try.ntmps151
    go_wp2_with fail
    refine (word_any g s _ h).mono ?_
    rintro e w1 ⟨rfl, r1, k1⟩
    go_wp2_with fail
    go_ret
    exact ⟨rfl, r1, k1⟩
end

section
set_option linter.unusedVariables false
open Go.RowKit

/-- Are there n bytes, and 00s behind them to whole words? -/
def fixB (l : List UInt8) (n : Int) : Bool := decide (0 ≤ n) && decide (n.toNat + padN n.toNat ≤ l.length) && ((l.drop n.toNat).take (padN n.toNat)).all (· == 0)
def rdX (s : St) (n : Int) : List UInt8 × St :=
  match s with
  | none => ([], none)
  | some l => if fixB l n then (l.take n.toNat, some (l.drop (n.toNat + padN n.toNat))) else ([], none)

theorem zero_loop (z : List UInt8) (k : Nat) (hk : k < z.length) (h : ∀ j (h : j < z.length), j < k → z[j] = 0) (hz : z[k] = 0) : ∀ j (h : j < z.length), j < k + 1 → z[j] = 0 := by
  intro j hj hlt
  by_cases h1 : j < k
  · exact h j hj h1
  · obtain rfl : j = k := by omega
    exact hz

theorem RS.butR {T : TypeId} {w w' : World} {g : Nat} {v : Value} {l : List UInt8} {s : St} (h : RS w v l) (k : But g w w') (r : Rd T w g s) : RS w' v l := by
  obtain ⟨A, c, hg, _⟩ := r
  exact h.but (a := .bool true) k hg

theorem fixed_any (g : Nat) (s : St) (n : Int) (w : World) (h : Rd 192 w g s) (hl : s.l.length ≤ 900000) :
    Calls Try.prog 150 #[.pointer (some ⟨g, 0, none⟩), .int .i64 n] w fun e w' => e = .returned (.string (str (rdX s n).1)) ∧ Rd 192 w' g (rdX s n).2 ∧ But g w w' := by
  by_cases h1 : s = none ∨ n < 0 ∨ s.l.length < n
  · have hr : rdX s n = ([], none) := by
      cases s with
      | none => rfl
      | some l =>
        have : fixB l n = false := by
          rcases h1 with h1 | h1 | h1
          · cases h1
          · simp [fixB]; omega
          · simp [St.l] at h1; simp [fixB]; omega
        simp [rdX, this]
    rw [hr]
    go_enter Try.func150, Try.ntmps150
    go_wp2_with fail
    refine (take_no g s n _ h h1).mono ?_
    rintro e w1 ⟨rfl, r1, k1⟩
    go_wp2_with fail
    go_ret
    exact ⟨rfl, r1, k1⟩
  · obtain ⟨l, rfl⟩ : ∃ l, s = some l := by cases s with | none => exact absurd (.inl rfl) h1 | some l => exact ⟨l, rfl⟩
    have hll : St.l (some l) = l := rfl
    rw [hll] at h1 hl
    obtain ⟨m, rfl⟩ : ∃ m : Nat, n = m := ⟨n.toNat, by have := fun h => h1 (.inr (.inl h)); omega⟩
    have hm : m ≤ l.length := by have := fun h => h1 (.inr (.inr h)); omega
    have hp := padding_any m
    by_cases h2 : m + padN m ≤ l.length
    case neg =>
      have hr : rdX (some l) m = ([], none) := by
        have : fixB l m = false := by simp [fixB]; omega
        simp [rdX, this]
      rw [hr]
      go_enter Try.func150, Try.ntmps150
      go_wp2_with fail
      refine (take_ok g l m _ h hm).mono ?_
      rintro e w1 ⟨A, rfl, hc, r1, k1⟩
      go_wp2_with fail
      refine (hp _ (by omega)).mono ?_
      rintro e w2 ⟨rfl, k2⟩
      go_wp2_with fail
      refine (take_no g _ _ _ (r1.ext k2) (.inr (.inr (by simp [St.l]; omega)))).mono ?_
      rintro e w3 ⟨rfl, r3, k3⟩
      go_wp2_with fail
      go_ret
      exact ⟨rfl, r3, (k1.trans (But.of k2)).trans k3⟩
    case pos =>
      have hpl := padN_le m
      obtain ⟨p, hpe⟩ : ∃ p, p = padN m := ⟨_, rfl⟩
      obtain ⟨z, hz⟩ : ∃ z, z = (l.drop m).take p := ⟨_, rfl⟩
      have hzl : z.length = p := by rw [hz]; simp; omega
      obtain ⟨R, hR⟩ : ∃ R, R = rdX (some l) m := ⟨_, rfl⟩
      have hR1 : (∀ j (h : j < z.length), z[j] = 0) → R = (l.take m, some (l.drop (m + p))) := by
        intro h0
        have hf : fixB l m = true := by
          have hall : z.all (· == 0) = true := by
            rw [List.all_eq_true]
            intro x hx
            obtain ⟨j, hj, rfl⟩ := List.getElem_of_mem hx
            simp [h0 j hj]
          simp only [fixB, Int.toNat_natCast, ← hpe, ← hz, hall, Bool.and_true, Bool.and_eq_true, decide_eq_true_eq]
          omega
        rw [hR, rdX, if_pos hf, Int.toNat_natCast, ← hpe]
      have hR2 : ∀ j (h : j < z.length), z[j] ≠ 0 → R = ([], none) := by
        intro j hj h0
        have hf : ¬ fixB l m = true := by
          intro hf
          simp only [fixB, Int.toNat_natCast, ← hpe, ← hz, Bool.and_eq_true, List.all_eq_true] at hf
          exact h0 (by simpa using hf.2 z[j] (List.getElem_mem hj))
        rw [hR, rdX, if_neg hf]
      rw [← hR]
      have hp' := hp
      rw [← hpe] at hp'
      rw [← hpe] at hpl h2
      have H1 := Lib.hid hR1
      have H2 := Lib.hid hR2
      have HZ0 := Lib.hid hz
      clear hR hR1 hR2 hp hpe hz
      go_enter Try.func150, Try.ntmps150
      go_wp2_with fail
      refine (take_ok g l m _ h hm).mono ?_
      rintro e w1 ⟨A, rfl, hc, r1, k1⟩
      go_wp2_with fail
      refine (hp' _ (by omega)).mono ?_
      rintro e w2 ⟨rfl, k2⟩
      go_wp2_with fail
      refine (take_ok g _ p _ (r1.ext k2) (by simp; omega)).mono ?_
      rintro e w3 ⟨A', rfl, hc', r3, k3⟩
      have hcc := (hc.ext (Ext.of k2)).butR k3 (r1.ext k2)
      have hcv := hcc.conv (P := Try.prog) Try.underlying47 Try.underlying5 Try.underlying9
      rw [← HZ0.out] at hc'
      rw [List.drop_drop] at r3
      have K := (k1.trans (But.of k2)).trans k3
      go_wp2_with fail
      go_loop [29] (fun i => ∃ k : Nat, k ≤ p ∧ i = .int .i64 k ∧ Hid (∀ j (h : j < z.length), j < k → z[j] = 0)) (fun i => p - (intOf i).toNat)
      case atStart => exact ⟨0, Nat.zero_le _, rfl, fun j _ h => by omega⟩
      case round =>
        obtain ⟨k, hk, rfl, HZ⟩ := hrel
        by_cases hlt : k < p
        · obtain ⟨b, off, rfl, -, hb, -, hj⟩ := hc'.some_of (by intro h0; rw [h0] at hzl; simp at hzl; omega)
          have hkz : k < z.length := by omega
          have hcell : w3.cell? ⟨b, off + k, none⟩ = some (.int .u8 (z[k].toNat : Int)) := by rw [hj k hkz, bvs_get hkz]; rfl
          have hb1 := z[k].toNat_lt
          clear hj
          by_cases h0 : z[k] = 0
          · have h0' : (z[k].toNat : Int) = 0 := by rw [h0]; rfl
            rw [h0'] at hcell
            go_wp2_with fail
            go_round
            case rel => exact ⟨k + 1, by omega, by go_num, zero_loop z k hkz HZ.out h0⟩
            case measure => simp [intOf]; omega
          · have h0' : ¬ (z[k].toNat : Int) = 0 := fun hh => h0 (UInt8.toNat_inj.1 (by simpa using hh))
            have h0b : ((z[k].toNat : Int) != 0) = true := bne_iff_ne.2 h0'
            go_wp2_with (go_at_call 155; refine (spoil_any _ _ _ r3).mono ?_; rintro e w4 ⟨rfl, r4, k4⟩)
            go_ret
            rw [H2.out k hkz h0]
            exact ⟨rfl, r4, K.trans k4⟩
        · obtain rfl : k = p := by omega
          go_wp2_with fail
          go_ret
          rw [H1.out fun j hj => HZ.out j hj (by omega)]
          exact ⟨rfl, r3, K⟩
end

section
set_option linter.unusedVariables false
open Go.RowKit

theorem rdW_len (s : St) : (rdW s).2.l.length ≤ s.l.length := by
  cases s with
  | none => simp [rdW, St.l]
  | some l => simp only [rdW]; split <;> simp [St.l]
theorem rdC_len (s : St) (m : Int) : (rdC s m).2.l.length ≤ s.l.length := by
  unfold rdC
  split
  · simp [St.l]
  · exact rdW_len s
theorem rdL_len (s : St) : (rdL s).2.l.length ≤ s.l.length := by
  unfold rdL
  split
  · simp [St.l]
  · exact Nat.le_trans (rdW_len _) (rdW_len s)
theorem rdF_len (s : St) : (rdF s).2.l.length ≤ s.l.length := by
  unfold rdF
  split
  · simp [St.l]
  · exact rdW_len s
theorem rdX_len (s : St) (n : Int) : (rdX s n).2.l.length ≤ s.l.length := by
  cases s with
  | none => simp [rdX, St.l]
  | some l => simp only [rdX]; split <;> simp [St.l]

def rdT (s : St) (m : Int) : List UInt8 × St := rdX (rdC s (max m 0)).2 (rdC s (max m 0)).1
theorem rdT_len (s : St) (m : Int) : (rdT s m).2.l.length ≤ s.l.length := Nat.le_trans (rdX_len _ _) (rdC_len _ _)

theorem text_any (g : Nat) (s : St) (m : Int) (w : World) (h : Rd 192 w g s) (hl : s.l.length ≤ 900000) :
    Calls Try.prog 125 #[.pointer (some ⟨g, 0, none⟩), .int .i64 m] w fun e w' => e = .returned (.string (str (rdT s m).1)) ∧ Rd 192 w' g (rdT s m).2 ∧ But g w w' := by
  by_cases hm : m < 0
  · have hlen := rdC_len s 0
    have hb := rdC_bd s 0
    have hr : rdT s m = rdX (rdC s 0).2 (rdC s 0).1 := by unfold rdT; rw [show max m 0 = 0 by omega]
    rw [hr]
    go_enter Try.func125, Try.ntmps125
    go_wp2_with fail
    refine (count_any g s 0 _ h).mono ?_
    rintro e w1 ⟨rfl, r1, k1⟩
    go_wp2_with fail
    refine (fixed_any g _ _ _ r1 (by omega)).mono ?_
    rintro e w2 ⟨rfl, r2, k2⟩
    go_wp2_with fail
    go_ret
    exact ⟨rfl, r2, k1.trans k2⟩
  · have hlen := rdC_len s m
    have hb := rdC_bd s m
    have hr : rdT s m = rdX (rdC s m).2 (rdC s m).1 := by unfold rdT; rw [show max m 0 = m by omega]
    rw [hr]
    go_enter Try.func125, Try.ntmps125
    go_wp2_with fail
    refine (count_any g s m _ h).mono ?_
    rintro e w1 ⟨rfl, r1, k1⟩
    go_wp2_with fail
    refine (fixed_any g _ _ _ r1 (by omega)).mono ?_
    rintro e w2 ⟨rfl, r2, k2⟩
    go_wp2_with fail
    go_ret
    exact ⟨rfl, r2, k1.trans k2⟩

/-- The first n bytes cut off a reader's rest. -/
theorem Rd.cut {T : TypeId} {w : World} {g b off c n : Nat} {l : List UInt8} (h : Rd T w g (some l)) (hg : w.heap[g]? = some (.cells #[.slice (some ⟨b, off, none⟩) l.length c, .bool false] T (0, 0)))
    (hb : b < w.heap.size) (hcl : l.length ≤ c) (hn : n ≤ l.length) (hj : ∀ j, j < l.length → w.cell? ⟨b, off + j, none⟩ = (bvs l)[j]?) :
    (c = n → Rd T (w.setCell ⟨g, 0, none⟩ (.slice (some ⟨b, off, none⟩) (l.length - n) 0)) g (some (l.drop n)) ∧ But g w (w.setCell ⟨g, 0, none⟩ (.slice (some ⟨b, off, none⟩) (l.length - n) 0))) ∧
    (c ≠ n → Rd T (w.setCell ⟨g, 0, none⟩ (.slice (some ⟨b, off + n, none⟩) (l.length - n) (c - n))) g (some (l.drop n)) ∧ But g w (w.setCell ⟨g, 0, none⟩ (.slice (some ⟨b, off + n, none⟩) (l.length - n) (c - n)))) := by
  have hdl : (l.drop n).length = l.length - n := by simp
  have hs : St.l (some (l.drop n)) = l.drop n := rfl
  constructor
  · intro hcn
    have hd : l.drop n = [] := List.drop_eq_nil_of_le (by omega)
    rw [blk2_st0 _ hg]
    exact h.set (s' := some (l.drop n)) (v := .slice (some ⟨b, off, none⟩) (l.length - n) 0) (b := false) (.inr ⟨b, off, 0, by rw [hs, hdl], hb, by rw [hs, hdl]; omega, fun j hjl => by
        rw [hs, hd] at hjl; simp at hjl⟩) rfl
  · intro hcn
    rw [blk2_st0 _ hg]
    exact h.set (s' := some (l.drop n)) (v := .slice (some ⟨b, off + n, none⟩) (l.length - n) (c - n)) (b := false) (.inr ⟨b, off + n, c - n, by rw [hs, hdl], hb, by rw [hs, hdl]; omega, fun j hjl => by
        rw [hs] at hjl ⊢
        rw [hdl] at hjl
        rw [Nat.add_assoc, hj (n + j) (by omega)]
        simp [bvs]⟩) rfl
end

section
set_option linter.unusedVariables false
open Go.RowKit

theorem rword_any (g : Nat) (s : St) (w : World) (h : Rd 196 w g s) :
    Calls Try.prog 90 #[.pointer (some ⟨g, 0, none⟩)] w fun e w' => e = .returned (.int .u32 (rdW s).1) ∧ Rd 196 w' g (rdW s).2 ∧ But g w w' := by
  have h0 := h
  obtain ⟨A, c, hg, hr⟩ := h
  obtain ⟨c0, c1, f0, f1, hz⟩ := blk2 hg
  by_cases hs : s.l.length < 4
  · have hr : rdW s = (0, none) := by
      cases s with
      | none => rfl
      | some l =>
        have h4 : ¬ 4 ≤ l.length := by simpa [St.l] using hs
        simp [rdW, h4]
    rw [hr]
    clear hg
    go_enter Try.func90, Try.ntmps90
    go_wp2_with (go_at_call 134; refine (fail_any _ _ _ h0).mono ?_; rintro e w1 ⟨rfl, r1, b1⟩)
    go_ret
    exact ⟨rfl, r1, b1⟩
  · obtain ⟨l, rfl⟩ : ∃ l, s = some l := by cases s with | none => simp [St.l] at hs | some l => exact ⟨l, rfl⟩
    have hl : St.l (some l) = l := rfl
    rw [hl] at c0 hr hs hg
    simp only [Option.isNone_some] at c1 hg
    obtain ⟨p, q, r, t, hl4⟩ := four (l := l.take 4) (by simp; omega)
    have hrd : rdW (some l) = (beV [p, q, r, t], some (l.drop 4)) := by simp [rdW, show 4 ≤ l.length by omega, hl4]
    rw [hrd]
    obtain ⟨b, off, rfl, -, hb, hcc, hj⟩ := hr.some_of (by intro h; rw [h] at hs; simp at hs)
    have hjj : ∀ j (h : j < 4), w.cell? ⟨b, off + j, none⟩ = (bvs [p, q, r, t])[j]? := fun j h => by
      rw [hj j (by omega), ← hl4]
      simp only [bvs, List.getElem?_map, List.getElem?_take, if_pos h]
    have d0 : w.cell? ⟨b, off, none⟩ = some (.int .u8 p.toNat) := hjj 0 (by simp)
    have d1 : w.cell? ⟨b, off + 1, none⟩ = some (.int .u8 q.toNat) := hjj 1 (by simp)
    have d2 : w.cell? ⟨b, off + 2, none⟩ = some (.int .u8 r.toNat) := hjj 2 (by simp)
    have d3 : w.cell? ⟨b, off + 3, none⟩ = some (.int .u8 t.toNat) := hjj 3 (by simp)
    obtain ⟨C1, C2⟩ := h0.cut hg hb hcc (n := 4) (by omega) hj
    have H1 := Lib.hid C1
    have H2 := Lib.hid C2
    clear hj hjj C1 C2 hg hl4
    have pb := p.toNat_lt
    have qb := q.toNat_lt
    have rb := r.toNat_lt
    have tb := t.toNat_lt
    by_cases hcn : c = 4
    · have S := Lib.hid (H1.out hcn)
      clear H1 H2
      go_enter Try.func90, Try.ntmps90
      go_wp2_with fail
      refine wp_loop_rounds 5 ?_
      iterate 5
        rw [rounds_succ]
        go_wp2_with fail
      go_ret
      exact ⟨by simp [beV], S.out.1, S.out.2⟩
    · have S := Lib.hid (H2.out hcn)
      clear H1 H2
      go_enter Try.func90, Try.ntmps90
      go_wp2_with fail
      refine wp_loop_rounds 5 ?_
      iterate 5
        rw [rounds_succ]
        go_wp2_with fail
      go_ret
      exact ⟨by simp [beV], S.out.1, S.out.2⟩
end

section
set_option linter.unusedVariables false
open Go.RowKit

theorem rlong_any (g : Nat) (s : St) (w : World) (h : Rd 196 w g s) :
    Calls Try.prog 79 #[.pointer (some ⟨g, 0, none⟩)] w fun e w' => e = .returned (.int .u64 (rdL s).1) ∧ Rd 196 w' g (rdL s).2 ∧ But g w w' := by
  have b1 := rdW_bd s
  have b2 := rdW_bd (rdW s).2
  cases hq : (rdW (rdW s).2).2 with
  | none =>
    have hr : rdL s = (0, none) := by simp [rdL, hq]
    rw [hr]
    go_enter Try.func79, Try.ntmps79
    go_wp2_with fail
    refine (rword_any g s _ h).mono ?_
    rintro e w1 ⟨rfl, r1, k1⟩
    go_wp2_with fail
    refine (rword_any g _ _ r1).mono ?_
    rintro e w2 ⟨rfl, r2, k2⟩
    rw [hq] at r2
    obtain ⟨A, c, hg, hrr⟩ := id r2
    obtain ⟨c0, c1, f0, f1, hz⟩ := blk2 hg
    simp only [Option.isNone_none] at c1
    clear hg
    go_wp2_with fail
    go_ret
    exact ⟨rfl, r2, k1.trans k2⟩
  | some l =>
    have hr : rdL s = ((rdW s).1 * 4294967296 + (rdW (rdW s).2).1, some l) := by simp [rdL, hq]
    rw [hr]
    go_enter Try.func79, Try.ntmps79
    go_wp2_with fail
    refine (rword_any g s _ h).mono ?_
    rintro e w1 ⟨rfl, r1, k1⟩
    go_wp2_with fail
    refine (rword_any g _ _ r1).mono ?_
    rintro e w2 ⟨rfl, r2, k2⟩
    rw [hq] at r2
    obtain ⟨A, c, hg, hrr⟩ := id r2
    obtain ⟨c0, c1, f0, f1, hz⟩ := blk2 hg
    simp only [Option.isNone_some] at c1
    clear hg
    go_wp2_with fail
    go_ret
    exact ⟨rfl, r2, k1.trans k2⟩

theorem rint_any (g : Nat) (s : St) (w : World) (h : Rd 196 w g s) :
    Calls Try.prog 80 #[.pointer (some ⟨g, 0, none⟩)] w fun e w' => e = .returned (.int .i64 (wrap64 (rdL s).1)) ∧ Rd 196 w' g (rdL s).2 ∧ But g w w' := by
  have b1 := rdL_bd s
  go_enter Try.func80, Try.ntmps80
  go_wp2_with fail
  refine (rlong_any g s _ h).mono ?_
  rintro e w1 ⟨rfl, r1, k1⟩
  go_wp2_with fail
  go_ret
  exact ⟨rfl, r1, k1⟩

theorem rflag_any (g : Nat) (s : St) (w : World) (h : Rd 196 w g s) :
    Calls Try.prog 92 #[.pointer (some ⟨g, 0, none⟩)] w fun e w' => e = .returned (.bool (rdF s).1) ∧ Rd 196 w' g (rdF s).2 ∧ But g w w' := by
  by_cases h1 : 1 < (rdW s).1
  · have hr : rdF s = (false, none) := by simp [rdF, h1]
    have h2 : ((rdW s).1 == 1) = false := by rw [beq_eq_false_iff_ne]; omega
    rw [hr]
    go_enter Try.func92, Try.ntmps92
    go_wp2_with fail
    refine (rword_any g s _ h).mono ?_
    rintro e w1 ⟨rfl, r1, k1⟩
    go_wp2_with (go_at_call 134; refine (fail_any _ _ _ r1).mono ?_; rintro e w2 ⟨rfl, r2, k2⟩)
    go_ret
    exact ⟨rfl, r2, k1.trans k2⟩
  · have hr : rdF s = ((rdW s).1 == 1, (rdW s).2) := by simp [rdF, h1]
    rw [hr]
    go_enter Try.func92, Try.ntmps92
    go_wp2_with fail
    refine (rword_any g s _ h).mono ?_
    rintro e w1 ⟨rfl, r1, k1⟩
    go_wp2_with fail
    go_ret
    exact ⟨rfl, r1, k1⟩

theorem rdC_none {s : St} {m : Int} (h : (rdC s m).2 = none) : rdC s m = (0, none) := by
  unfold rdC at *
  split
  · rfl
  · rename_i h1
    rw [if_neg h1] at h
    cases s with
    | none => rfl
    | some l =>
      simp only [rdW] at h ⊢
      split
      · rename_i h2; rw [if_pos h2] at h; simp at h
      · rfl

theorem rcount_any (g : Nat) (s : St) (m : Int) (w : World) (h : Rd 196 w g s) :
    Calls Try.prog 93 #[.pointer (some ⟨g, 0, none⟩), .int .i64 m] w fun e w' => e = .returned (.int .i64 (rdC s m).1) ∧ Rd 196 w' g (rdC s m).2 ∧ But g w w' := by
  have hb := rdW_bd s
  by_cases h1 : m < (rdW s).1
  · have hr : rdC s m = (0, none) := by simp [rdC, h1]
    rw [hr]
    go_enter Try.func93, Try.ntmps93
    go_wp2_with fail
    refine (rword_any g s _ h).mono ?_
    rintro e w1 ⟨rfl, r1, k1⟩
    go_wp2_with fail
    refine (fail_any _ _ _ r1).mono ?_
    rintro e w2 ⟨rfl, r2, k2⟩
    obtain ⟨A, c, hg, hrr⟩ := id r2
    obtain ⟨c0, c1, f0, f1, hz⟩ := blk2 hg
    simp only [Option.isNone_none] at c1
    clear hg
    go_wp2_with fail
    go_ret
    exact ⟨rfl, r2, k1.trans k2⟩
  · have hr : rdC s m = rdW s := by simp [rdC, h1]
    cases hq : (rdW s).2 with
    | none =>
      have hr2 := rdC_none (s := s) (m := m) (by rw [hr]; exact hq)
      rw [hr2]
      go_enter Try.func93, Try.ntmps93
      go_wp2_with fail
      refine (rword_any g s _ h).mono ?_
      rintro e w1 ⟨rfl, r1, k1⟩
      rw [hq] at r1
      obtain ⟨A, c, hg, hrr⟩ := id r1
      obtain ⟨c0, c1, f0, f1, hz⟩ := blk2 hg
      simp only [Option.isNone_none] at c1
      clear hg
      go_wp2_with fail
      go_ret
      exact ⟨rfl, r1, k1⟩
    | some l =>
      rw [hr, hq]
      go_enter Try.func93, Try.ntmps93
      go_wp2_with fail
      refine (rword_any g s _ h).mono ?_
      rintro e w1 ⟨rfl, r1, k1⟩
      rw [hq] at r1
      obtain ⟨A, c, hg, hrr⟩ := id r1
      obtain ⟨c0, c1, f0, f1, hz⟩ := blk2 hg
      simp only [Option.isNone_some] at c1
      clear hg hq
      go_wp2_with fail
      go_ret
      exact ⟨rfl, r1, k1⟩

theorem rdone_any (g : Nat) (s : St) (w : World) (h : Rd 196 w g s) :
    Calls Try.prog 81 #[.pointer (some ⟨g, 0, none⟩)] w fun e w' => e = .returned (.bool (doneB s)) ∧ w' = w := by
  obtain ⟨A, c, hg, hr⟩ := h
  obtain ⟨c0, c1, f0, f1, hz⟩ := blk2 hg
  clear hg
  cases s with
  | none =>
    simp only [Option.isNone_none] at c1
    go_enter Try.func81, Try.ntmps81
    go_wp2
    go_ret
    exact ⟨rfl, rfl⟩
  | some l =>
    simp only [Option.isNone_some] at c1
    cases l with
    | nil =>
      go_enter Try.func81, Try.ntmps81
      go_wp2
      go_ret
      exact ⟨rfl, rfl⟩
    | cons a l =>
      have hn : ∀ n : Nat, ((n : Int) + 1 == 0) = false := fun n => by rw [beq_eq_false_iff_ne]; omega
      have hl : St.l (some (a :: l)) = a :: l := rfl
      rw [hl] at c0
      go_enter Try.func81, Try.ntmps81
      go_wp2
      go_ret
      exact ⟨rfl, rfl⟩
end

section
set_option linter.unusedVariables false
open Go.RowKit

set_option maxRecDepth 100000 in
set_option maxHeartbeats 1000000 in
theorem rfixed_any (g : Nat) (s : St) (n : Int) (w : World) (h : Rd 196 w g s) (hl : s.l.length ≤ 900000) :
    Calls Try.prog 130 #[.pointer (some ⟨g, 0, none⟩), .int .i64 n] w fun e w' => e = .returned (.string (str (rdX s n).1)) ∧ Rd 196 w' g (rdX s n).2 ∧ But g w w' := by
  have h0 := h
  obtain ⟨A, c, hg, hr⟩ := h
  obtain ⟨c0, c1, f0, f1, hz⟩ := blk2 hg
  cases s with
  | none =>
    simp only [Option.isNone_none] at c1
    clear hg
    have hr : rdX none n = ([], none) := rfl
    rw [hr]
    go_enter Try.func130, Try.ntmps130
    go_wp2_with (go_at_call 134; refine (fail_any _ _ _ h0).mono ?_; rintro e w1 ⟨rfl, r1, b1⟩)
    go_ret
    exact ⟨rfl, r1, b1⟩
  | some l =>
  have hll : St.l (some l) = l := rfl
  rw [hll] at c0 hr hg hl
  simp only [Option.isNone_some] at c1 hg
  by_cases h1 : n < 0 ∨ l.length < n
  · have hrx : rdX (some l) n = ([], none) := by
      have : fixB l n = false := by rcases h1 with h1 | h1 <;> simp [fixB] <;> omega
      simp [rdX, this]
    rw [hrx]
    clear hg
    rcases h1 with h1 | h1
    · go_enter Try.func130, Try.ntmps130
      go_wp2_with (go_at_call 134; refine (fail_any _ _ _ h0).mono ?_; rintro e w1 ⟨rfl, r1, b1⟩)
      go_ret
      exact ⟨rfl, r1, b1⟩
    · have h2 : ¬ n < 0 := by omega
      go_enter Try.func130, Try.ntmps130
      go_wp2_with (go_at_call 134; refine (fail_any _ _ _ h0).mono ?_; rintro e w1 ⟨rfl, r1, b1⟩)
      go_ret
      exact ⟨rfl, r1, b1⟩
  obtain ⟨m, rfl⟩ : ∃ m : Nat, n = m := ⟨n.toNat, by omega⟩
  have hm : m ≤ l.length := by omega
  clear h1
  obtain ⟨p, hpe⟩ : ∃ p, p = padN m := ⟨_, rfl⟩
  have hpl := padN_le m
  obtain ⟨z, hz0⟩ : ∃ z, z = (l.drop m).take p := ⟨_, rfl⟩
  obtain ⟨R, hR⟩ : ∃ R, R = rdX (some l) m := ⟨_, rfl⟩
  have hR0 : l.length < m + p → R = ([], none) := by
    intro hh
    have : fixB l m = false := by simp [fixB]; omega
    rw [hR]; simp [rdX, this]
  have hR1 : m + p ≤ l.length → (∀ j (h : j < z.length), z[j] = 0) → R = (l.take m, some (l.drop (m + p))) := by
    intro hh h0
    have hf : fixB l m = true := by
      have hall : z.all (· == 0) = true := by
        rw [List.all_eq_true]
        intro x hx
        obtain ⟨j, hj, rfl⟩ := List.getElem_of_mem hx
        simp [h0 j hj]
      simp only [fixB, Int.toNat_natCast, ← hpe, ← hz0, hall, Bool.and_true, Bool.and_eq_true, decide_eq_true_eq]
      omega
    rw [hR, rdX, if_pos hf, Int.toNat_natCast, ← hpe]
  have hR2 : ∀ j (h : j < z.length), z[j] ≠ 0 → R = ([], none) := by
    intro j hj h0
    have hf : ¬ fixB l m = true := by
      intro hf
      simp only [fixB, Int.toNat_natCast, ← hpe, ← hz0, Bool.and_eq_true, List.all_eq_true] at hf
      exact h0 (by simpa using hf.2 z[j] (List.getElem_mem hj))
    rw [hR, rdX, if_neg hf]
  rw [← hR]
  have hmod : ∀ k : Nat, m ≤ k → k < m + p → ¬ (k : Int) % 4 = 0 := by
    intro k h1 h2
    rw [hpe] at h2
    unfold padN at h2
    omega
  have hmod2 : ((m + p : Nat) : Int) % 4 = 0 := by rw [hpe]; unfold padN; omega
  rw [← hpe] at hpl
  have hzc : ∀ k (h : k < z.length), m + k < l.length ∧ l[m + k]? = some z[k] := by
    intro k hk
    subst hz0
    have : m + k < l.length := by simp at hk; omega
    refine ⟨this, ?_⟩
    simp [this]
  have hzl : m + p ≤ l.length → z.length = p := by intro hh; rw [hz0]; simp; omega
  have H0 := Lib.hid hR0
  have H1 := Lib.hid hR1
  have H2 := Lib.hid hR2
  have HM := Lib.hid hmod
  have HM2 := Lib.hid hmod2
  have HZ := Lib.hid hzc
  have HZL := Lib.hid hzl
  have HP := Lib.hid hpe
  have HG := Lib.hid hg
  clear hR hR0 hR1 hR2 hmod hmod2 hzc hzl hpe hg hz0
  go_enter Try.func130, Try.ntmps130
  go_wp2_with fail
  go_loop [5] (fun i => ∃ k : Nat, m ≤ k ∧ k ≤ m + p ∧ i = .int .i64 k) (fun i => m + p - (intOf i).toNat)
  case atStart => exact ⟨m, Nat.le_refl _, by omega, rfl⟩
  case round =>
    obtain ⟨k, hk1, hk2, rfl⟩ := hrel
    by_cases hlt : k < m + p
    · have hx := HM.out k hk1 hlt
      have hxb : ((k : Int) % 4 != 0) = true := bne_iff_ne.2 hx
      go_wp2_with fail
      go_round
      case rel => exact ⟨k + 1, by omega, by omega, by go_num⟩
      case measure => simp [intOf]; omega
    · obtain rfl : k = m + p := by omega
      have hx := HM2.out
      by_cases hle : m + p ≤ l.length
      case neg =>
        go_wp2_with (go_at_call 134; refine (fail_any _ _ _ h0).mono ?_; rintro e w1 ⟨rfl, r1, b1⟩)
        go_ret
        rw [H0.out (by omega)]
        exact ⟨rfl, r1, b1⟩
      have hzl := HZL.out hle
      have hg := HG.out
      rcases hr with ⟨e1, e2⟩ | ⟨b, off, c', e1, hb, hcc, hj⟩
      · subst e2
        obtain ⟨rfl, rfl⟩ : A = none ∧ c = 0 := by simpa using e1
        obtain rfl : m = 0 := by simpa using hm
        obtain rfl : p = 0 := by simpa using hle
        have hs := h0.set (s' := some []) (v := .slice none 0 0) (b := false) RS.nil rfl
        rw [← blk2_st0 _ hg] at hs
        have HS := Lib.hid hs
        have hcv := (RS.nil (w := w)).conv (P := Try.prog) Try.underlying47 Try.underlying5 Try.underlying9
        clear hs hg
        go_wp2_with fail
        refine wp_loop_rounds 1 ?_
        rw [rounds_succ]
        go_wp2_with fail
        go_ret
        rw [H1.out (by simp) (fun j hj => by rw [hzl] at hj; omega)]
        exact ⟨rfl, HS.out.1, HS.out.2⟩
      · obtain ⟨rfl, -, rfl⟩ : A = some ⟨b, off, none⟩ ∧ True ∧ c = c' := by simpa using e1
        have hcv := (conv_bytes (P := Try.prog) (w := w) Try.underlying47 Try.underlying5 Try.underlying9 b off m c (l.take m) (by simp; omega) (fun i hi => by rw [hj i (by omega)]; simp only [bvs, List.getElem?_map, List.getElem?_take, if_pos hi]))
        obtain ⟨C1, C2⟩ := h0.cut hg hb hcc (n := m + p) hle hj
        have K1 := Lib.hid C1
        have K2 := Lib.hid C2
        have HJ := Lib.hid hj
        clear C1 C2 hj hg
        go_wp2_with fail
        go_loop [6] (fun i => ∃ k : Nat, m ≤ k ∧ k ≤ m + p ∧ i = .int .i64 k ∧ Hid (∀ j (h : j < z.length), m + j < k → z[j] = 0)) (fun i => m + p - (intOf i).toNat)
        case atStart => exact ⟨m, Nat.le_refl _, by omega, rfl, fun j _ h => by omega⟩
        case round =>
          obtain ⟨k, hk1, hk2, rfl, HZ0⟩ := hrel
          by_cases hlt : k < m + p
          · obtain ⟨j, rfl⟩ : ∃ j, k = m + j := ⟨k - m, by omega⟩
            have hjz : j < z.length := by omega
            obtain ⟨hkl, hkz⟩ := HZ.out j hjz
            have hcell : w.cell? ⟨b, off + (m + j), none⟩ = some (.int .u8 (z[j].toNat : Int)) := by rw [HJ.out _ hkl]; simp only [bvs, List.getElem?_map, hkz]; rfl
            have hb1 := z[j].toNat_lt
            clear hkz
            by_cases h0' : z[j] = 0
            · have h0' : (z[j].toNat : Int) = 0 := by rw [h0']; rfl
              rw [h0'] at hcell
              go_wp2_with fail
              go_round
              case rel => exact ⟨m + j + 1, by omega, by omega, by go_num, fun i hi hlt => by
                by_cases hij : i = j
                · subst hij; apply UInt8.toNat_inj.1; simpa using h0'
                · exact HZ0.out i hi (by omega)⟩
              case measure => simp [intOf]; omega
            · have h0n : ¬ (z[j].toNat : Int) = 0 := fun hh => h0' (UInt8.toNat_inj.1 (by simpa using hh))
              have h0b : ((z[j].toNat : Int) != 0) = true := bne_iff_ne.2 h0n
              go_wp2_with (go_at_call 134; refine (fail_any _ _ _ h0).mono ?_; rintro e w4 ⟨rfl, r4, k4⟩)
              go_ret
              rw [H2.out j hjz h0']
              exact ⟨rfl, r4, k4⟩
          · obtain rfl : k = m + p := by omega
            by_cases hcn : c = m + p
            · subst hcn
              have S0 := K1.out rfl
              rw [show l.length - (m + p) = 0 by omega] at S0
              have S := Lib.hid S0
              clear K1 K2 S0
              go_wp2_with fail
              go_ret
              rw [H1.out hle (fun j hj => HZ0.out j hj (by omega))]
              exact ⟨rfl, S.out.1, S.out.2⟩
            · have S := Lib.hid (K2.out hcn)
              clear K1 K2
              go_wp2_with fail
              go_ret
              rw [H1.out hle (fun j hj => HZ0.out j hj (by omega))]
              exact ⟨rfl, S.out.1, S.out.2⟩

theorem rtext_any (g : Nat) (s : St) (m : Int) (w : World) (h : Rd 196 w g s) (hl : s.l.length ≤ 900000) :
    Calls Try.prog 78 #[.pointer (some ⟨g, 0, none⟩), .int .i64 m] w fun e w' => e = .returned (.string (str (rdT s m).1)) ∧ Rd 196 w' g (rdT s m).2 ∧ But g w w' := by
  have key : ∀ m' : Int, max m 0 = m' → (m ≤ 0 ∧ m' = 0 ∨ 0 < m ∧ m' = m) → 
    Calls Try.prog 78 #[.pointer (some ⟨g, 0, none⟩), .int .i64 m] w fun e w' => e = .returned (.string (str (rdT s m).1)) ∧ Rd 196 w' g (rdT s m).2 ∧ But g w w' := by
    intro m' hm' hc
    have hlen := rdC_len s m'
    have hb := rdC_bd s m'
    have hr : rdT s m = rdX (rdC s m').2 (rdC s m').1 := by unfold rdT; rw [hm']
    rw [hr]
    cases hq : (rdC s m').2 with
    | none =>
      have hr2 := rdC_none hq
      have hrx : ∀ n, rdX none n = ([], none) := fun _ => rfl
      rw [hrx]
      rcases hc with ⟨h1, rfl⟩ | ⟨h1, rfl⟩
      all_goals
        clear hm'
        go_enter Try.func78, Try.ntmps78
        go_wp2_with fail
        refine (rcount_any g s _ _ h).mono ?_
        rintro e w1 ⟨rfl, r1, k1⟩
        rw [hq] at r1
        obtain ⟨A, c, hg, hrr⟩ := id r1
        obtain ⟨c0, c1, f0, f1, hz⟩ := blk2 hg
        simp only [Option.isNone_none] at c1
        clear hg
        go_wp2_with fail
        go_ret
        exact ⟨rfl, r1, k1⟩
    | some l =>
      rw [hq] at hlen
      rcases hc with ⟨h1, rfl⟩ | ⟨h1, rfl⟩
      all_goals
        clear hm'
        go_enter Try.func78, Try.ntmps78
        go_wp2_with fail
        refine (rcount_any g s _ _ h).mono ?_
        rintro e w1 ⟨rfl, r1, k1⟩
        rw [hq] at r1
        obtain ⟨A, c, hg, hrr⟩ := id r1
        obtain ⟨c0, c1, f0, f1, hz⟩ := blk2 hg
        simp only [Option.isNone_some] at c1
        clear hg
        go_wp2_with fail
        refine (rfixed_any g _ _ _ r1 (by omega)).mono ?_
        rintro e w2 ⟨rfl, r2, k2⟩
        go_wp2_with fail
        go_ret
        exact ⟨rfl, r2, k1.trans k2⟩
  by_cases hm : m ≤ 0
  · exact key 0 (by omega) (.inl ⟨hm, rfl⟩)
  · exact key m (by omega) (.inr ⟨by omega, rfl⟩)
end
end Go.Proofs.Yteahlnoonmfjhaa
