/- Proved: BlockLays returns true whatever kind, birth and body it is called with, and each argument reads behind the call as before. No condition. -/
import Derived.Test.YthoeklcgdbbbgaaBlkI
import Derived.Test.YthoeklcgdbbbgaaLiftB
set_option linter.unusedVariables false
namespace Go.Proofs.Ythoeklcgdbbbgaa.blockLays
open Go.RowKit Go.ChangeShapes Go.WideShapes Go.ChangeAt Go.Deep Go.Proofs.Ythoeklcgdbbbgaa
attribute [local go_sem ↓] neq_blk eql_blk

theorem or64 (x y : Nat) (h : x ||| y = x + y) (hx : x + y < 4294967296) : bits .or .i64 (x : Int) (y : Int) = ((x + y : Nat) : Int) := by
  have h1 : (BitVec.ofInt 64 (x : Int)).toNat = x := by rw [BitVec.ofInt_natCast, BitVec.toNat_ofNat]; exact Nat.mod_eq_of_lt (by omega)
  have h2 : (BitVec.ofInt 64 (y : Int)).toNat = y := by rw [BitVec.ofInt_natCast, BitVec.toNat_ofNat]; exact Nat.mod_eq_of_lt (by omega)
  show IntKind.i64.wrap ((BitVec.ofInt 64 (x : Int) ||| BitVec.ofInt 64 (y : Int)).toNat : Int) = _
  rw [BitVec.toNat_or, h1, h2, h, IntKind.wrap_i64]
  omega
set_option maxRecDepth 100000 in
theorem or_four (p q r t : Nat) (hp : p < 256) (hq : q < 256) (hr : r < 256) (ht : t < 256) :
    bits .or .i64 ((p : Int) * 16777216) ((q : Int) * 65536) = p * 16777216 + q * 65536 ∧
    bits .or .i64 ((p : Int) * 16777216 + (q : Int) * 65536) ((r : Int) * 256) = p * 16777216 + q * 65536 + r * 256 ∧
    bits .or .i64 ((p : Int) * 16777216 + (q : Int) * 65536 + r * 256) (t : Int) = p * 16777216 + q * 65536 + r * 256 + t := by
  have e1 : (p : Int) * 16777216 = ((p * 16777216 : Nat) : Int) := by omega
  have e2 : (q : Int) * 65536 = ((q * 65536 : Nat) : Int) := by omega
  have e3 : (r : Int) * 256 = ((r * 256 : Nat) : Int) := by omega
  have e4 : ((p * 16777216 : Nat) : Int) + ((q * 65536 : Nat) : Int) = ((p * 16777216 + q * 65536 : Nat) : Int) := by omega
  have e5 : ((p * 16777216 + q * 65536 : Nat) : Int) + ((r * 256 : Nat) : Int) = ((p * 16777216 + q * 65536 + r * 256 : Nat) : Int) := (Int.natCast_add _ _).symm
  have e6 : ((p * 16777216 + q * 65536 : Nat) : Int) = (p : Int) * 16777216 + (q : Int) * 65536 := by omega
  have e7 : ((p * 16777216 + q * 65536 + r * 256 : Nat) : Int) = (p : Int) * 16777216 + (q : Int) * 65536 + r * 256 := by rw [Int.natCast_add, e6, ← e3]
  have e8 : ((p * 16777216 + q * 65536 + r * 256 + t : Nat) : Int) = (p : Int) * 16777216 + (q : Int) * 65536 + r * 256 + t := by rw [Int.natCast_add, e7]
  have a1 : p * 16777216 ||| q * 65536 = p * 16777216 + q * 65536 := by
    have := Nat.two_pow_add_eq_or_of_lt (i := 24) (b := q * 65536) (by omega) p
    rw [show p * 16777216 = 2 ^ 24 * p by omega]; omega
  have a2 : (p * 16777216 + q * 65536) ||| r * 256 = p * 16777216 + q * 65536 + r * 256 := by
    have := Nat.two_pow_add_eq_or_of_lt (i := 16) (b := r * 256) (by omega) (p * 256 + q)
    rw [show p * 16777216 + q * 65536 = 2 ^ 16 * (p * 256 + q) by omega]; omega
  have a3 : (p * 16777216 + q * 65536 + r * 256) ||| t = p * 16777216 + q * 65536 + r * 256 + t := by
    have := Nat.two_pow_add_eq_or_of_lt (i := 8) (b := t) (by omega) (p * 65536 + q * 256 + r)
    rw [show p * 16777216 + q * 65536 + r * 256 = 2 ^ 8 * (p * 65536 + q * 256 + r) by omega]; omega
  have b1 := or64 _ _ a1 (by omega)
  have b2 := or64 _ _ a2 (by omega)
  have b3 := or64 _ _ a3 (by omega)
  rw [← e1, ← e2, e6] at b1
  rw [e6, ← e3, e7] at b2
  rw [e7, e8] at b3
  exact ⟨b1, b2, b3⟩

theorem seal_cells (k : UInt8) (b : Int) (s : List UInt8) : (sealL k b s)[4]? = some k ∧ (sealL k b s)[5]? = some 0 ∧ (sealL k b s)[6]? = some (byteOf ((s.length : Int) / 256)) ∧ (sealL k b s)[7]? = some (byteOf s.length) ∧
    (sealL k b s)[8]? = some (byteOf (b / 16777216)) ∧ (sealL k b s)[9]? = some (byteOf (b / 65536)) ∧ (sealL k b s)[10]? = some (byteOf (b / 256)) ∧ (sealL k b s)[11]? = some (byteOf b) ∧ (sealL k b s).take 4 = jt := by
  rw [seal_form]; exact ⟨rfl, rfl, rfl, rfl, rfl, rfl, rfl, rfl, rfl⟩
theorem seal_zero {k : UInt8} {b : Int} {s : List UInt8} {m : Nat} (h : 12 + s.length ≤ m) (h5 : m < 512) : (sealL k b s)[m]? = some 0 := by
  rw [seal_form]
  obtain ⟨j, rfl⟩ : ∃ j, m = j + 12 := ⟨m - 12, by omega⟩
  show (s ++ List.replicate (500 - s.length) 0)[j]? = some 0
  rw [List.getElem?_append_right (by omega), List.getElem?_replicate, if_pos (by omega)]
theorem cell_byte {w : World} {g : Nat} {T : TypeId} {fr : Nat × Nat} {l : List UInt8} {i : Nat} {c : UInt8} (hg : w.heap[g]? = some (.cells (bvs l).toArray T fr)) (h : l[i]? = some c) : w.cell? ⟨g, i, none⟩ = some (.int .u8 (c.toNat : Int)) := by
  rw [cell_of_row _ _ _ _ _ _ hg]; simp [bvs, h, bv]

set_option maxHeartbeats 16000000 in
set_option maxRecDepth 100000 in
theorem walk0 (k : UInt8) (b : Int) (s : List UInt8) (w : World) (hl : s.length ≤ maxLen) :
    Calls Try.prog 5 #[.int .u8 k.toNat, .int .i64 b, .string (str s)] w fun e w' => e = .returned (.bool true) ∧ Below w.heap.size w w' := by
  have hl0 := hl
  unfold maxLen at hl
  have hs := str_size s
  have hk := k.toNat_lt
  by_cases hlong : 1000 < s.length
  · go_enter Try.func5, Try.ntmps5
    go_wp2_with (go_at_call 10; refine (awake_any _).mono ?_; rintro e w0 ⟨rfl, hb0⟩; have hz0 := hb0.size; (try simp only [World.size_alloc] at hz0))
    go_ret
    exact ⟨rfl, by (repeat' (first | (with_reducible assumption) | (with_reducible exact Below.refl _ _) | (with_reducible refine below_sc ?_ ?_) | ((with_reducible show (_ : Nat) ≤ _); omega) | refine Below.setCell ?_ (by first | omega | (simp; done) | (simp; omega)) _ | refine Below.alloc ?_ (by first | omega | (simp; done) | (simp; omega)) _ | refine Below.drew ?_ | refine below_drewN ?_ _ | refine Below.trans ?_ (Below.mono (by assumption) (by first | omega | (simp; done) | (simp; omega)))))⟩
  obtain ⟨R, hR⟩ : ∃ R, R = sealR k b s := ⟨_, rfl⟩
  have ks := fun w => seal_any k b s w hl0
  have f0 : R.2 ≠ 0 → R.1 = zB := fun h => by rw [hR] at h ⊢; exact sealR_no h
  have f1 : R.2 = 0 → 0 ≤ b ∧ b ≤ 2147483647 ∧ s.length ≤ 500 ∧ R.1 = sealL k b s := fun h => by rw [hR] at h ⊢; exact sealR_ok h
  have lR : R.1.length = 512 := by rw [hR]; exact sealR_length
  rw [← hR] at ks
  clear hR hl0
  obtain ⟨S, E⟩ := R
  simp only at f0 f1 lR
  have ks' : ∀ w, Calls Try.prog 11 #[.int .u8 k.toNat, .int .i64 b, .string (str s)] w fun e w' => e = .returned (.tuple #[.agg (bvs S).toArray, .int .i64 E]) ∧ Below w.heap.size w w' := ks
  have KS := Lib.hid ks'
  have F0 := Lib.hid f0
  have F1 := Lib.hid f1
  clear ks ks' f0 f1
  go_enter Try.func5, Try.ntmps5
  go_wp2_with (go_at_call 10; refine (awake_any _).mono ?_; rintro e w0 ⟨rfl, hb0⟩; have hz0 := hb0.size; (try simp only [World.size_alloc] at hz0))
  refine (KS.out _).mono ?_
  rintro e w1 ⟨rfl, hb1⟩; have hz1 := hb1.size; (try simp only [World.size_alloc] at hz1)
  have b1 := heap_alloc_last w1 (.cells (bvs S).toArray 23)
  have st := st_blk (l := S) (heap_alloc_last w1 (.cells (bvs zB).toArray 23)) zB_length lR
  rw [World.setRow_alloc_new] at st
  have St := Lib.hid st
  have ld := Lib.hid (ld_blk b1 lR)
  have X1 : Below w.heap.size w (w1.alloc (.cells (bvs S).toArray 23)) := by (repeat' (first | (with_reducible assumption) | (with_reducible exact Below.refl _ _) | (with_reducible refine below_sc ?_ ?_) | ((with_reducible show (_ : Nat) ≤ _); omega) | refine Below.setCell ?_ (by first | omega | (simp; done) | (simp; omega)) _ | refine Below.alloc ?_ (by first | omega | (simp; done) | (simp; omega)) _ | refine Below.drew ?_ | refine below_drewN ?_ _ | refine Below.trans ?_ (Below.mono (by assumption) (by first | omega | (simp; done) | (simp; omega)))))
  have hz0' : w.heap.size ≤ w1.heap.size := by omega
  clear st hb1 hb0
  by_cases hE : E = 0
  case neg =>
    have z1 : (E != 0) = true := bne_iff_ne.2 hE
    have z2 : (E == 0) = false := beq_eq_false_iff_ne.2 hE
    obtain rfl := F0.out hE
    have lz := zB_length
    have q : eqB zB zB = true := by simp [eqB]
    clear b1
    go_wp2_with (first | (refine wpList_al rfl 23 rfl alloc_blk ?_; simp only [Act.put]) | (refine wpList_st rfl 23 (.tmp 7) (.tmp 25) rfl St.out ?_; simp only [Act.put]) | (refine wpList_ld rfl 23 (.tmp 7) rfl ld.out ?_; simp only [Act.put]) | (refine wpList_bd rfl 23 rfl build_blk ?_; simp only [Act.put]))
    go_ret
    exact ⟨rfl, X1⟩
  subst hE
  obtain ⟨v0, v1, v2, rfl⟩ := F1.out rfl
  clear F0 F1
  obtain ⟨c4, c5, c6, c7, c8, c9, c10, c11, tk⟩ := seal_cells k b s
  have hse := seal_s (k := k) (b := b) (s := s)
  have hto : toR 1 (sealL k b s) = (⟨1, b, fnv (sealL k b s)⟩, 0) := by unfold toR; rw [open_seal v0 v1 v2, if_pos rfl, if_pos (by omega)]
  have kt := fun w => to_any 1 (sealL k b s) lR w
  rw [hto] at kt
  clear hto
  obtain ⟨F, hF⟩ : ∃ F, fnv (sealL k b s) = F := ⟨_, rfl⟩
  have kS := Lib.hid (fun w => sum_any (sealL k b s) lR w)
  rw [hF] at kt kS
  have kt' : ∀ w, Calls Try.prog 17 #[.int .i64 1, .agg (bvs (sealL k b s)).toArray] w fun e w' => e = .returned (.tuple #[.agg #[.int .i64 1, .int .i64 b, .int .u64 F], .int .i64 0]) ∧ Below w.heap.size w w' := kt
  have KT := Lib.hid kt'
  have hzero := fun m h h5 => seal_zero (k := k) (b := b) (s := s) (m := m) h h5
  have HZ := Lib.hid hzero
  clear kt kt' hF hzero
  generalize sealL k b s = S at *
  obtain ⟨p, hp⟩ : ∃ p, p = byteOf (b / 16777216) := ⟨_, rfl⟩
  obtain ⟨q, hq⟩ : ∃ q, q = byteOf (b / 65536) := ⟨_, rfl⟩
  obtain ⟨r, hr⟩ : ∃ r, r = byteOf (b / 256) := ⟨_, rfl⟩
  obtain ⟨t, ht⟩ : ∃ t, t = byteOf b := ⟨_, rfl⟩
  have hpv : (p.toNat : Int) * 16777216 + (q.toNat : Int) * 65536 + (r.toNat : Int) * 256 + (t.toNat : Int) = b := by
    have := nB_be4 v0 (n := b) (by omega)
    rw [← hp, ← hq, ← hr, ← ht] at this
    simp only [nB, List.foldl_cons, List.foldl_nil] at this
    omega
  obtain ⟨x1, hx1⟩ : ∃ x, x = byteOf ((s.length : Int) / 256) := ⟨_, rfl⟩
  obtain ⟨x0, hx0⟩ : ∃ x, x = byteOf (s.length : Int) := ⟨_, rfl⟩
  have hxv : (x1.toNat : Int) * 256 + (x0.toNat : Int) = s.length := by
    have := nB_be2 (n := (s.length : Int)) (by omega) (by omega)
    rw [← hx1, ← hx0] at this
    simp only [nB, List.foldl_cons, List.foldl_nil] at this
    omega
  rw [← hx1] at c6
  rw [← hx0] at c7
  rw [← hp] at c8
  rw [← hq] at c9
  rw [← hr] at c10
  rw [← ht] at c11
  obtain ⟨o1, o2, o3⟩ := or_four p.toNat q.toNat r.toNat t.toNat p.toNat_lt q.toNat_lt r.toNat_lt t.toNat_lt
  rw [hpv] at o3
  have lp := p.toNat_lt
  have lq := q.toNat_lt
  have lr := r.toNat_lt
  have lt := t.toNat_lt
  have lx1 := x1.toNat_lt
  have lx0 := x0.toNat_lt
  have d4 := cell_byte b1 c4
  have d5 := cell_byte b1 c5
  have d6 := cell_byte b1 c6
  have d7 := cell_byte b1 c7
  have d8 := cell_byte b1 c8
  have d9 := cell_byte b1 c9
  have d10 := cell_byte b1 c10
  have d11 := cell_byte b1 c11
  have cv4 : (convert 43 9 (.slice (some ⟨w1.heap.size, 0, none⟩) 4 512)).run Try.prog (w1.alloc (.cells (bvs S).toArray 23)) = .ok (.string ⟨#[106, 116, 116, 121]⟩) (w1.alloc (.cells (bvs S).toArray 23)) := by
    have h := conv_rowAt (P := Try.prog) (off := 0) (len := 4) (cap := 512) Try.underlying43 Try.underlying5 Try.underlying9 b1 (by omega)
    rw [List.drop_zero, tk] at h
    exact h
  have cvn : (convert 43 9 (.slice (some ⟨w1.heap.size, 12, none⟩) s.length 500)).run Try.prog (w1.alloc (.cells (bvs S).toArray 23)) = .ok (.string (str s)) (w1.alloc (.cells (bvs S).toArray 23)) := by
    have h := conv_rowAt (P := Try.prog) (off := 12) (len := s.length) (cap := 500) Try.underlying43 Try.underlying5 Try.underlying9 b1 (by omega)
    rw [hse] at h
    exact h
  have B1 := Lib.hid b1
  have hb1 : (12 : Int) ≤ 12 + (s.length : Int) := by omega
  have hb2 : 12 + (s.length : Int) ≤ 512 := by omega
  clear b1 c4 c5 c6 c7 c8 c9 c10 c11 tk hse hp hq hr ht hx1 hx0 hpv KS
  go_wp2_with (first | (refine wpList_al rfl 23 rfl alloc_blk ?_; simp only [Act.put]) | (refine wpList_st rfl 23 (.tmp 7) (.tmp 25) rfl St.out ?_; simp only [Act.put]))
  clear d4 d5 d6 d7 d8 d9 d10 d11 cv4 cvn o1 o2 o3 lp lq lr lt lx1 lx0 hxv St
  have hzz : w1.heap.size < (w1.alloc (.cells (bvs S).toArray 23)).heap.size := by simp
  have hst := Lib.hid (st_blk (l := S) B1.out lR lR)
  generalize w1.alloc (.cells (bvs S).toArray 23) = W at *
  go_loop [10] (fun i => ∃ m : Nat, 12 + s.length ≤ m ∧ m ≤ 512 ∧ i = .int .i64 m) (fun i => 512 - (intOf i).toNat)
  case atStart => exact ⟨12 + s.length, Nat.le_refl _, by omega, by go_num⟩
  case round =>
    obtain ⟨m, hm, hm5, rfl⟩ := hrel
    by_cases hlt : m < 512
    · have hlt' : (m : Int) < 512 := by omega
      have dm := cell_byte B1.out (HZ.out m hm hlt)
      go_wp2_with fail
      go_round
      case rel => exact ⟨m + 1, by omega, by omega, by go_num⟩
      case measure => simp [intOf]; omega
    · obtain rfl : m = 512 := by omega
      go_wp2_with (first | (refine wpList_ld rfl 23 (.tmp 7) rfl ld.out ?_; simp only [Act.put]))
      refine (KT.out _).mono ?_
      rintro e w2 ⟨rfl, hb2⟩; have hz2 := hb2.size; (try simp only [World.size_alloc] at hz2)
      have x2 := Ext.trans hb2 (ext_alloc w2 (.cells #[.int .i64 1, .int .i64 b, .int .u64 F] 26))
      have b2 := (Below.block x2 w1.heap.size hzz).trans B1.out
      have X2 : Below w.heap.size w (w2.alloc (.cells #[.int .i64 1, .int .i64 b, .int .u64 F] 26)) := X1.trans (Below.mono x2 X1.size)
      have b7 := heap_alloc_last w2 (.cells #[.int .i64 1, .int .i64 b, .int .u64 F] 26)
      obtain ⟨c0, c1, c2, -, -, -, lt7⟩ := blk3 b7
      have lt4 := (Array.getElem?_eq_some_iff.1 b2).1
      clear hb2 x2 b7 ld B1 X1 KT HZ hzz
      go_wp2_with fail
      generalize w2.alloc (.cells #[.int .i64 1, .int .i64 b, .int .u64 F] 26) = V at *
      have hld : ∀ w', (∃ e : ExtOf V.heap.size V, w' = e.val) → (Instr.loadAt 23 (.pointer (some ⟨w1.heap.size, 0, none⟩))).run Try.prog w' = .ok (.agg (bvs S).toArray) w' := by
        rintro _ ⟨e, rfl⟩
        exact ld_blk ((e.ok.block _ lt4).trans b2) lR
      have ex := fun (e : ExtOf V.heap.size V) k o (h : k < V.heap.size) => ExtOf.cellB e k o h
      have Hld := Lib.hid hld
      clear hld b2
      refine wp_region_ext V.heap.size (by kernel_rfl) (by kernel_rfl) ?_
      repeat (first | (go_big_quiet_want; refine quiet_ld 23 (.tmp 7) rfl Hld.out ?_; go_simp; go_big_quiet_on) | go_big_quiet_step ((go_at_call 15; exact ext_of (Nat.le_refl _) (kS.out _))))
      refine wpQuiet_nil ?_
      rintro w5 ⟨⟨_, hb5⟩, rfl⟩
      go_wp2_with fail
      go_ret
      exact ⟨rfl, X2.trans (hb5.mono X2.size)⟩

theorem walk (k : Int) (wk : (Lit.int .u8 k).wf = true) (b : Int) (wb : (Lit.int .i64 b).wf = true) (s : List UInt8) (hl : s.length ≤ maxLen) (w : World) :
    Calls Try.prog 5 #[.int .u8 k, .int .i64 b, .string (str s)] w fun e w' => e = .returned (.bool true) ∧ Below w.heap.size w w' := by
  obtain ⟨cb, rfl⟩ : ∃ cb : UInt8, k = (cb.toNat : Int) := ⟨byteOf k, by
    rw [byteOf_toNat]
    have : 0 ≤ k ∧ k ≤ 255 := by simp [Lit.wf, IntKind.min, IntKind.max, IntKind.signed, IntKind.bits] at wk; omega
    omega⟩
  exact walk0 cb b s w hl

theorem own : ownKnob Try.prog.godebug = none := by kernel_rfl
theorem laidOut : laidOutB Try.prog = true := by kernel_rfl

set_option maxRecDepth 100000 in
theorem lifted (os : Os) (started : os.Started) (H : Type) (enc : TypeId × Value → H) :
    ReturnsInHanded {} Try.checked os 5 .any (Rows.blockLaysSpec.pre6 enc Try.prog Try.f5 Rows.blockLaysRow.domain false) (Rows.blockLaysSpec.post enc Try.prog Try.f5 false true false false) := by
  refine returnsInHanded_of_change (C := Try.checked) own started (by kernel_rfl) Try.func5
    (ChangeSpec.witness6 (enc := enc) (C := Try.checked) false ⟨#[], #[.int .u8 0, .int .i64 0, .string ⟨#[]⟩], []⟩ 8 (by kernel_rfl) (by kernel_rfl) (by kernel_rfl) (by kernel_rfl)) ?_
  intro W base args ds gs before hval0 hW hcnd _
  have hval : ∀ (j : Nat) t v, Try.f5.params[j]? = some t → args[j]? = some v → Value.okWide Try.prog W .any base t v := hval0
  have hW' := hW
  obtain ⟨p, q, hA0, hV, rfl, hfz, hnd⟩ := hW
  have hA : DataW.TrodAll enc Try.prog W 0 (fun _ => true) true Try.f5.params.toList args.toList ds p := hA0
  rw [Try.params5] at hA hval
  obtain ⟨v0, vs0, d0, ds0, p0, q0, hargs, rfl, rfl, h0, r0⟩ := trodAll_cons hA
  obtain ⟨v1, vs1, d1, ds1, p1, q1, rfl, rfl, rfl, h1, r1⟩ := trodAll_cons r0
  obtain ⟨v2, vs2, d2, ds2, p2, q2, rfl, rfl, rfl, h2, r2⟩ := trodAll_cons r1
  obtain ⟨rfl, rfl, rfl⟩ := trodAll_nil r2
  obtain rfl : args = #[v0, v1, v2] := by cases args; simp_all
  obtain ⟨rfl, rfl⟩ := trodVars_none hV
  have k0 := h0
  have lt0 : ∀ x ∈ p0, x.block < W.heap.size := by obtain ⟨m, hm⟩ := k0; exact DataW.trod_lt m _ _ _ hm
  have k1 := h1
  have lt1 : ∀ x ∈ p1, x.block < W.heap.size := by obtain ⟨m, hm⟩ := k1; exact DataW.trod_lt m _ _ _ hm
  have k2 := h2
  have lt2 : ∀ x ∈ p2, x.block < W.heap.size := by obtain ⟨m, hm⟩ := k2; exact DataW.trod_lt m _ _ _ hm
  obtain ⟨a0, rfl, -, -, wa0⟩ := open_int Try.underlying5 (hval 0 _ v0 rfl rfl) h0
  obtain ⟨a1, rfl, -, -, wa1⟩ := open_int Try.underlying3 (hval 1 _ v1 rfl rfl) h1
  obtain ⟨l2, rfl, wl2⟩ := open_str Try.underlying9 (hval 2 _ v2 rfl rfl) h2
  refine (walk a0 wa0 a1 wa1 l2 wl2 W).mono fun e W' ⟨he, bel⟩ => ?_
  subst he
  exact ⟨_, rfl, _, _, _, [], _, [], hW', trodAll_mk1 (shut_bool Try.underlying4 _), (trodAll_cons_mk (Below.trod laidOut (by kernel_rfl) (of_decide_eq_true (by kernel_rfl)) k0 bel lt0) (trodAll_cons_mk (Below.trod laidOut (by kernel_rfl) (of_decide_eq_true (by kernel_rfl)) k1 bel lt1) (trodAll_cons_mk (Below.trod laidOut (by kernel_rfl) (of_decide_eq_true (by kernel_rfl)) k2 bel lt2) trodAll_mk0))), rfl, bel.frame _, fun h => by cases h⟩

theorem proved : Rows.BlockLaysSaid :=
  OpenClaim.holds_of_wide 5 Try.f5 rfl rfl rfl rfl rfl rfl rfl ⟨rfl, rfl, rfl, rfl, rfl⟩ rfl rfl rfl rfl rfl (by kernel_rfl) Try.func5 (by kernel_rfl)
    (of_decide_eq_true (by kernel_rfl)) (by unfold Func.isWrapper; first | (rw [if_pos (by decide +kernel)]; kernel_rfl) | (rw [if_neg (by decide +kernel)]; exact ⟨rfl, rfl⟩))
    (fun os started H enc _ => lifted os started H enc)
end Go.Proofs.Ythoeklcgdbbbgaa.blockLays
