/- Proved: BlockSeals returns true whatever kind, birth, body, block, place and pointer it is called with, and each argument reads behind the call as before. No condition. -/
import Derived.Test.YthoeklcgdbbbgaaBlkN
import Derived.Test.YthoeklcgdbbbgaaBlkO
import Derived.Test.YthoeklcgdbbbgaaBkLift
import Derived.Deep.DeepCutAuto
import Derived.Great.CaseRows
set_option linter.unusedVariables false
namespace Go.Proofs.Ythoeklcgdbbbgaa.blockSeals
open Go.RowKit Go.ChangeShapes Go.WideShapes Go.ChangeAt Go.Deep Go.Proofs.Ythoeklcgdbbbgaa
attribute [local go_sem ↓] neq_blk eql_blk eql_ptr neq_ptr

theorem loadAt_blk {w : World} {g off : Nat} {l : List UInt8} (h5 : l.length = 512) (hc : ∀ j (h : j < l.length), w.cell? ⟨g, off + j, none⟩ = some (bv l[j])) :
    (Instr.loadAt 23 (.pointer (some ⟨g, off, none⟩))).run Try.prog w = .ok (.agg (bvs l).toArray) w := by
  have hl : (loadCells ⟨g, off, none⟩ (bvs l).length).run Try.prog w = .ok (bvs l).toArray w :=
    run_loadCells_list (P := Try.prog) w ⟨g, off, none⟩ (bvs l) (fun j v hv => by
      rw [Addr.add_lit]
      have hj : j < l.length := by have := (List.getElem?_eq_some_iff.1 hv).1; simpa [bvs] using this
      rw [hc j hj, ← hv]
      simp [bvs, hj])
  have e5 : (bvs l).length = 512 := by rw [bvs_length, h5]
  rw [e5] at hl
  have h0 := info_blk
  obtain ⟨i, hi⟩ : ∃ i, Try.prog.info? 23 = some i := by
    cases h : Try.prog.info? 23 with
    | none => rw [h] at h0; simp at h0
    | some i => exact ⟨i, rfl⟩
  have hs : i.size = 512 := by rw [hi] at h0; simpa using h0
  simp only [Instr.loadAt, Instr.sureAddr, Sem.run_bind, Sem.run_pure, Result.andThen]
  simp [loadVar, isAgg, run_underlying Try.underlying23, sizeOf, typeInfo, hi, hs, hl]
theorem flat2 (l m : List UInt8) : ([Value.agg (bvs l).toArray, .agg (bvs m).toArray].flatMap fun v => v.cells.toList) = bvs (l ++ m) := by simp [Value.cells, bvs]
/-- A row of two blocks: block n of them. -/
def two (l m : List UInt8) (n : Nat) : List UInt8 := if n = 0 then l else m
theorem two_length {l m : List UInt8} (hl : l.length = 512) (hm : m.length = 512) (n : Nat) : (two l m n).length = 512 := by unfold two; split <;> assumption
theorem ld_two {w : World} {g : Nat} {T : TypeId} {fr : Nat × Nat} {l m : List UInt8} (hl : l.length = 512) (hm : m.length = 512) (hg : w.heap[g]? = some (.cells (bvs (l ++ m)).toArray T fr)) {n : Nat} (hn : n < 2) :
    (Instr.loadAt 23 (.pointer (some ⟨g, n * 512, none⟩))).run Try.prog w = .ok (.agg (bvs (two l m n)).toArray) w := by
  refine loadAt_blk (two_length hl hm n) fun j h => ?_
  have h' : j < 512 := by rw [two_length hl hm n] at h; exact h
  rw [cell_of_row _ _ _ _ _ _ hg]
  have : n = 0 ∨ n = 1 := by omega
  rcases this with rfl | rfl
  · have e : (l ++ m)[0 * 512 + j]'(by simp; omega) = (two l m 0)[j]'(by rw [two_length hl hm]; exact h') := by
      simp only [two, if_pos, Nat.zero_mul, Nat.zero_add]
      rw [List.getElem_append_left (by omega)]
    rw [← e]
    simpa using bvs_get (l := l ++ m) (i := 0 * 512 + j) (by simp; omega)
  · have e : (l ++ m)[1 * 512 + j]'(by simp; omega) = (two l m 1)[j]'(by rw [two_length hl hm]; exact h') := by
      simp only [two]
      rw [List.getElem_append_right (by omega)]
      simp [hl]
    rw [← e]
    simpa using bvs_get (l := l ++ m) (i := 1 * 512 + j) (by simp; omega)
theorem wp_bs {o : Oper} {a : Act} {w : World} {K : Act → World → Prop} {Q : Exit → Act → World → Prop} {l m : List UInt8} {x y : Operand} (ho : o.op = .buildSlice 31 2 #[(0, x), (1, y)])
    (hx : a.eval x = .agg (bvs l).toArray) (hy : a.eval y = .agg (bvs m).toArray) (hl : l.length = 512) (hm : m.length = 512)
    (h : K (a.put o.dst (.slice (some ⟨w.heap.size, 0, none⟩) 2 2)) (w.alloc (.cells (bvs (l ++ m)).toArray 23))) : o.wp Try.prog a w K Q := by
  have h0 := info_blk
  have hz : ((Try.prog.info? 23).bind (·.zero)).isSome = true := by kernel_rfl
  cases hie : Try.prog.info? 23 with
  | none => rw [hie] at h0; simp at h0
  | some ie =>
    rw [hie] at h0 hz
    simp only [Option.map_some, Option.some.injEq, Option.bind_some] at h0 hz
    obtain ⟨z, hzz⟩ := Option.isSome_iff_exists.1 hz
    refine Go.wp_buildSlice 31 23 2 _ ho (bvs (l ++ m)).toArray ie z Try.underlying31 hie hzz (by rw [h0]; omega) (by rw [h0]; omega) ?_ h
    have e1 : ((#[(0, x), (1, y)] : Array (Nat × Operand)).map fun (i, x) => (i, a.eval x)).toList = (([Value.agg (bvs l).toArray, .agg (bvs m).toArray] : List Value).zipIdx 0).map fun x => (x.2, x.1) := by
      simp [hx, hy]
    rw [e1, h0, Go.Great.fill_whole (by omega) _ _ (by simp [Value.cells, bvs_length, hl, hm]) (by simp), flat2]
set_option maxHeartbeats 16000000 in
set_option maxRecDepth 100000 in
theorem walk0 (k : UInt8) (y : Int) (l : List UInt8) (B : List UInt8) (at_ : Int) (pa pb ps : Int) (w : World) (hl : l.length ≤ maxLen) (hB : B.length = 512) :
    Calls Try.prog 3 #[.int .u8 k.toNat, .int .i64 y, .string (str l), .agg (bvs B).toArray, .int .i64 at_, .agg #[.int .i64 pa, .int .i64 pb, .int .u64 ps]] w fun e w' => e = .returned (.bool true) ∧ Below w.heap.size w w' := by
  have hl0 := hl
  unfold maxLen at hl
  have z1 := str_size l
  have hk := k.toNat_lt
  by_cases g1 : 2000 < l.length
  · go_enter Try.func3, Try.ntmps3
    go_wp2_with (go_at_call 10; refine (awake_any _).mono ?_; rintro e w0 ⟨rfl, hb0⟩; have hz0 := hb0.size; (try simp only [World.size_alloc] at hz0))
    go_ret
    exact ⟨rfl, by (repeat' (first | (with_reducible assumption) | (with_reducible exact Below.refl _ _) | (with_reducible refine below_sc ?_ ?_) | ((with_reducible show (_ : Nat) ≤ _); omega) | refine Below.setCell ?_ (by first | omega | (simp; done) | (simp; omega)) _ | refine Below.alloc ?_ (by first | omega | (simp; done) | (simp; omega)) _ | refine Below.drew ?_ | refine below_drewN ?_ _ | refine Below.trans ?_ (Below.mono (by assumption) (by first | omega | (simp; done) | (simp; omega)))))⟩
  obtain ⟨R1, hR1⟩ : ∃ R, R = sealR k y l := ⟨_, rfl⟩
  have l1 : R1.1.length = 512 := by rw [hR1]; exact sealR_length
  have k1 := fun w => seal_any k y l w hl0
  have k2 := fun w => rseal_any k y l w hl0
  rw [← hR1] at k1 k2
  clear hR1 hl0
  obtain ⟨S1, E1⟩ := R1
  simp only at l1
  have hb : ∀ r : List UInt8 × Int, beV r = .tuple #[.agg (bvs r.1).toArray, .int .i64 r.2] := fun _ => rfl
  simp only [hb] at k1 k2
  have K1 := Lib.hid k1
  have K2 := Lib.hid k2
  clear k1 k2 hb
  have q : eqB S1 S1 = true := by simp [eqB]
  have hX0 : Below w.heap.size w ((w.alloc (.cells (bvs B).toArray 23)).alloc (.cells #[.int .i64 pa, .int .i64 pb, .int .u64 ps] 26)) := by (repeat' (first | (with_reducible assumption) | (with_reducible exact Below.refl _ _) | (with_reducible refine below_sc ?_ ?_) | ((with_reducible show (_ : Nat) ≤ _); omega) | refine Below.setCell ?_ (by first | omega | (simp; done) | (simp; omega)) _ | refine Below.alloc ?_ (by first | omega | (simp; done) | (simp; omega)) _ | refine Below.drew ?_ | refine below_drewN ?_ _ | refine Below.trans ?_ (Below.mono (by assumption) (by first | omega | (simp; done) | (simp; omega)))))
  have b9 := Lib.hid (heap_alloc2_old w (.cells (bvs B).toArray 23) (.cells #[.int .i64 pa, .int .i64 pb, .int .u64 ps] 26))
  have b11 := Lib.hid (heap_alloc2_new w (.cells (bvs B).toArray 23) (.cells #[.int .i64 pa, .int .i64 pb, .int .u64 ps] 26))
  go_enter Try.func3, Try.ntmps3
  go_wp2_with fail
  generalize (w.alloc (.cells (bvs B).toArray 23)).alloc (.cells #[.int .i64 pa, .int .i64 pb, .int .u64 ps] 26) = W at *
  refine (K1.out _).mono ?_
  rintro e w1 ⟨rfl, hb1⟩; have hz1 := hb1.size; (try simp only [World.size_alloc] at hz1)
  have st := st_blk (l := S1) (heap_alloc_last w1 (.cells (bvs zB).toArray 23)) zB_length l1
  rw [World.setRow_alloc_new] at st
  have St := Lib.hid st
  have b13 := Lib.hid (heap_alloc_last w1 (.cells (bvs S1).toArray 23))
  have X1 : Ext W (w1.alloc (.cells (bvs S1).toArray 23)) := Ext.trans hb1 (ext_alloc w1 _)
  clear st hb1 hz1 K1
  go_wp2_with (first | (refine wpList_al rfl 23 rfl alloc_blk ?_; simp only [Act.put]) | (refine wpList_st rfl 23 (.tmp 13) (.tmp 46) rfl St.out ?_; simp only [Act.put]))
  generalize w1.alloc (.cells (bvs S1).toArray 23) = V at *
  clear St
  refine (K2.out _).mono ?_
  rintro e w2 ⟨rfl, hb2⟩; have hz2 := hb2.size; (try simp only [World.size_alloc] at hz2)
  have b13' := (hb2.block w1.heap.size (Array.getElem?_eq_some_iff.1 b13.out).1).trans b13.out
  have lt13 := (Array.getElem?_eq_some_iff.1 b13').1
  have st := st_blk (l := S1) (heap_alloc_last w2 (.cells (bvs zB).toArray 23)) zB_length l1
  rw [World.setRow_alloc_new] at st
  have St := Lib.hid st
  have X2 : Ext W (w2.alloc (.cells (bvs S1).toArray 23)) := Ext.trans (Ext.trans X1 hb2) (ext_alloc w2 _)
  have ld13 := Lib.hid (ld_blk ((Below.heap_alloc w2 (.cells (bvs S1).toArray 23) w1.heap.size lt13).trans b13') l1)
  have ld15 := Lib.hid (ld_blk (heap_alloc_last w2 (.cells (bvs S1).toArray 23)) l1)
  have c9 := (Below.block X2 w.heap.size (Array.getElem?_eq_some_iff.1 b9.out).1).trans b9.out
  have C11 := Lib.hid ((Below.block X2 (w.heap.size + 1) (Array.getElem?_eq_some_iff.1 b11.out).1).trans b11.out)
  have ld9 := Lib.hid (ld_blk c9 hB)
  have XX : Below w.heap.size w (w2.alloc (.cells (bvs S1).toArray 23)) := hX0.trans (Below.mono X2 hX0.size)
  clear st hb2 hz2 K2 b13' lt13 b9 b11 X2 X1 b13 c9 hX0
  go_upto_region 7 with (first | (refine wpList_al rfl 23 rfl alloc_blk ?_; simp only [Act.put]) | (refine wpList_st rfl 23 (.tmp 15) (.tmp 53) rfl St.out ?_; simp only [Act.put]) | (refine wpList_ld rfl 23 (.tmp 13) rfl ld13.out ?_; simp only [Act.put]) | (refine wpList_ld rfl 23 (.tmp 15) rfl ld15.out ?_; simp only [Act.put]))
  clear St
  generalize w2.alloc (.cells (bvs S1).toArray 23) = V2 at *
  go_wp2_with (first | (refine wpList_ld rfl 23 (.tmp 9) rfl ld9.out ?_; simp only [Act.put]) | (refine wpList_ld rfl 23 (.tmp 15) rfl ld15.out ?_; simp only [Act.put]))
  refine wp_bs rfl rfl rfl hB l1 ?_
  have B65 := Lib.hid (heap_alloc_last V2 (.cells (bvs (B ++ S1)).toArray 23))
  have C11' := Lib.hid ((Below.heap_alloc V2 (.cells (bvs (B ++ S1)).toArray 23) (w.heap.size + 1) (Array.getElem?_eq_some_iff.1 C11.out).1).trans C11.out)
  have X3 : Below w.heap.size w (V2.alloc (.cells (bvs (B ++ S1)).toArray 23)) := XX.alloc XX.size _
  clear C11 XX ld13 ld15 ld9
  go_wp2_with fail
  generalize V2.alloc (.cells (bvs (B ++ S1)).toArray 23) = V3 at *
  generalize V2.heap.size = g65 at *
  go_loopw [67] (fun c wr => ∃ n : Nat, n ≤ 2 ∧ c = .int .i64 n ∧ Hid (wr.heap[g65]? = some (.cells (bvs (B ++ S1)).toArray 23 (0, 0))) ∧ Hid (wr.heap[w.heap.size + 1]? = some (.cells #[.int .i64 pa, .int .i64 pb, .int .u64 ps] 26 (0, 0))) ∧ Hid (Below w.heap.size w wr)) (fun c _ => 2 - (intOf c).toNat)
  case atStart => exact ⟨0, Nat.zero_le _, rfl, B65, C11', Lib.hid X3⟩
  case round =>
    obtain ⟨n, hn, rfl, hg65, hg11, hX⟩ := hrel
    clear B65 C11' X3
    by_cases hlt : n < 2
    · have ldx := Lib.hid (ld_two hB l1 hg65.out hlt)
      have lX := two_length hB l1 n
      generalize two B S1 n = X at *
      have st := st_blk (l := X) (heap_alloc_last wr (.cells (bvs zB).toArray 23)) zB_length lX
      rw [World.setRow_alloc_new] at st
      have St := Lib.hid st
      have lt65 := (Array.getElem?_eq_some_iff.1 hg65.out).1
      have lt11 := (Array.getElem?_eq_some_iff.1 hg11.out).1
      have b18 := Lib.hid (heap_alloc_last wr (.cells (bvs X).toArray 23))
      have b65 := Lib.hid ((Below.heap_alloc wr (.cells (bvs X).toArray 23) g65 lt65).trans hg65.out)
      have b11 := Lib.hid ((Below.heap_alloc wr (.cells (bvs X).toArray 23) (w.heap.size + 1) lt11).trans hg11.out)
      have X4 : Below w.heap.size w (wr.alloc (.cells (bvs X).toArray 23)) := hX.out.alloc hX.out.size _
      clear st hg65 hg11 hX lt65 lt11
      go_upto_region 10 with (first | (refine wpList_ld rfl 23 (.tmp 69) rfl ldx.out ?_; simp only [Act.put]) | (refine wpList_al rfl 23 rfl alloc_blk ?_; simp only [Act.put]) | (refine wpList_st rfl 23 (.tmp 18) (.tmp 70) rfl St.out ?_; simp only [Act.put]))
      generalize wr.alloc (.cells (bvs X).toArray 23) = V4 at *
      generalize wr.heap.size = g18 at *
      clear St ldx
      simp only [List.setIfInBounds_toArray, List.set_cons_zero, List.set_cons_succ]
      obtain ⟨R, hR⟩ : ∃ R, R = openR X := ⟨_, rfl⟩
      obtain ⟨T, hT⟩ : ∃ T, T = toR at_ X := ⟨_, rfl⟩
      obtain ⟨F, hF⟩ : ∃ F, F = fnv X := ⟨_, rfl⟩
      have kO := fun w => open_any X lX w
      have rO := fun w => ropen_any X lX w
      have kT := fun w => to_any at_ X lX w
      have rT := fun w => rto_any at_ X lX w
      have kS := fun w => sum_any X lX w
      have rS := fun w => rsum_any X lX w
      have kC := fun a b s w => check_any a b s X lX w
      have rC := fun a b s w => rcheck_any a b s X lX w
      rw [← hR] at kO rO
      rw [← hT] at kT rT
      rw [← hF] at kS rS
      clear hR hT hF
      obtain ⟨k', y', s', e'⟩ := R
      obtain ⟨⟨ta, tb, ts⟩, te⟩ := T
      have ho : ∀ r : OpT, r.v = .tuple #[.int .u8 r.k.toNat, .int .i64 r.b, .string (str r.s), .int .i64 r.e] := fun _ => rfl
      have hp : ∀ (a b c e : Int), toV (⟨a, b, c⟩, e) = .tuple #[.agg #[.int .i64 a, .int .i64 b, .int .u64 c], .int .i64 e] := fun _ _ _ _ => rfl
      simp only [ho, hp] at kO rO kT rT
      have KO := Lib.hid kO
      have RO := Lib.hid rO
      have KT := Lib.hid kT
      have RT := Lib.hid rT
      have KS := Lib.hid kS
      have RS' := Lib.hid rS
      have KC := Lib.hid kC
      have RC := Lib.hid rC
      clear kO rO kT rT kS rS kC rC ho hp
      have qP : eqP ta tb ts ta tb ts = true := by simp [eqP]
      have E65_4 := b65
      have E11_4 := b11
      have E18_4 := b18
      clear b65 b11 b18
      have ld4 := Lib.hid (ld_blk E18_4.out lX)
      go_wp2_with (refine wpList_ld rfl 23 (.tmp 18) rfl ld4.out ?_; simp only [Act.put])
      refine (KO.out _).mono ?_
      rintro e w5 ⟨rfl, hb5⟩; have hz5 := hb5.size; (try simp only [World.size_alloc] at hz5)
      have E65_5 := Lib.hid ((Below.block hb5 g65 (Array.getElem?_eq_some_iff.1 E65_4.out).1).trans E65_4.out)
      have E11_5 := Lib.hid ((Below.block hb5 (w.heap.size + 1) (Array.getElem?_eq_some_iff.1 E11_4.out).1).trans E11_4.out)
      have E18_5 := Lib.hid ((Below.block hb5 g18 (Array.getElem?_eq_some_iff.1 E18_4.out).1).trans E18_4.out)
      have X5 : Below w.heap.size w w5 := X4.trans (Below.mono hb5 X4.size)
      clear E65_4 E11_4 E18_4 X4
      have ld5 := Lib.hid (ld_blk E18_5.out lX)
      clear ld4 KO
      go_wp2_with (refine wpList_ld rfl 23 (.tmp 18) rfl ld5.out ?_; simp only [Act.put])
      refine (RO.out _).mono ?_
      rintro e w6 ⟨rfl, hb6⟩; have hz6 := hb6.size; (try simp only [World.size_alloc] at hz6)
      have E65_6 := Lib.hid ((Below.block hb6 g65 (Array.getElem?_eq_some_iff.1 E65_5.out).1).trans E65_5.out)
      have E11_6 := Lib.hid ((Below.block hb6 (w.heap.size + 1) (Array.getElem?_eq_some_iff.1 E11_5.out).1).trans E11_5.out)
      have E18_6 := Lib.hid ((Below.block hb6 g18 (Array.getElem?_eq_some_iff.1 E18_5.out).1).trans E18_5.out)
      have X6 : Below w.heap.size w w6 := X5.trans (Below.mono hb6 X5.size)
      clear E65_5 E11_5 E18_5 X5
      have Hld := Lib.hid (show ∀ w', (∃ e : ExtOf w6.heap.size w6, w' = e.val) → (Instr.loadAt 23 (.pointer (some ⟨g18, 0, none⟩))).run Try.prog w' = .ok (.agg (bvs X).toArray) w' by
        rintro _ ⟨e, rfl⟩
        exact ld_blk ((e.ok.block _ (Array.getElem?_eq_some_iff.1 E18_6.out).1).trans E18_6.out) lX)
      clear ld5 RO hz5 hz6
      go_wp2_with fail
      refine wp_region_ext w6.heap.size (by kernel_rfl) (by kernel_rfl) ?_
      try simp only [List.append_eq, List.cons_append, List.nil_append]
      repeat (first | (go_big_quiet_want; refine quiet_ld 23 (.tmp 18) rfl Hld.out ?_; go_simp; go_big_quiet_on) | go_big_quiet_step (first | (go_at_call 15; exact ext_of (Nat.le_refl _) (KS.out _)) | (go_at_call 16; exact ext_of (Nat.le_refl _) (RS'.out _))))
      refine wpQuiet_nil ?_
      rintro w7 ⟨⟨_, hb7⟩, rfl⟩
      have E65_7 := Lib.hid ((Below.block hb7 g65 (Array.getElem?_eq_some_iff.1 E65_6.out).1).trans E65_6.out)
      have E11_7 := Lib.hid ((Below.block hb7 (w.heap.size + 1) (Array.getElem?_eq_some_iff.1 E11_6.out).1).trans E11_6.out)
      have E18_7 := Lib.hid ((Below.block hb7 g18 (Array.getElem?_eq_some_iff.1 E18_6.out).1).trans E18_6.out)
      have X7 : Below w.heap.size w w7 := X6.trans (Below.mono hb7 X6.size)
      clear E65_6 E11_6 E18_6 X6
      have ld7 := Lib.hid (ld_blk E18_7.out lX)
      clear Hld KS
      go_wp2_with (refine wpList_ld rfl 23 (.tmp 18) rfl ld7.out ?_; simp only [Act.put])
      refine (KT.out _).mono ?_
      rintro e w8 ⟨rfl, hb8⟩; have hz8 := hb8.size; (try simp only [World.size_alloc] at hz8)
      have E65_8 := Lib.hid ((Below.block hb8 g65 (Array.getElem?_eq_some_iff.1 E65_7.out).1).trans E65_7.out)
      have E11_8 := Lib.hid ((Below.block hb8 (w.heap.size + 1) (Array.getElem?_eq_some_iff.1 E11_7.out).1).trans E11_7.out)
      have E18_8 := Lib.hid ((Below.block hb8 g18 (Array.getElem?_eq_some_iff.1 E18_7.out).1).trans E18_7.out)
      have X8 : Below w.heap.size w w8 := X7.trans (Below.mono hb8 X7.size)
      clear E65_7 E11_7 E18_7 X7
      have E65_9 := Lib.hid ((Below.heap_alloc w8 (.cells #[.int .i64 ta, .int .i64 tb, .int .u64 ts] 26) g65 (Array.getElem?_eq_some_iff.1 E65_8.out).1).trans E65_8.out)
      have E11_9 := Lib.hid ((Below.heap_alloc w8 (.cells #[.int .i64 ta, .int .i64 tb, .int .u64 ts] 26) (w.heap.size + 1) (Array.getElem?_eq_some_iff.1 E11_8.out).1).trans E11_8.out)
      have E18_9 := Lib.hid ((Below.heap_alloc w8 (.cells #[.int .i64 ta, .int .i64 tb, .int .u64 ts] 26) g18 (Array.getElem?_eq_some_iff.1 E18_8.out).1).trans E18_8.out)
      have X9 : Below w.heap.size w (w8.alloc (.cells #[.int .i64 ta, .int .i64 tb, .int .u64 ts] 26)) := X8.alloc X8.size _
      have N9 := Lib.hid (heap_alloc_last w8 (.cells #[.int .i64 ta, .int .i64 tb, .int .u64 ts] 26))
      clear E65_8 E11_8 E18_8 X8
      have ld9 := Lib.hid (ld_blk E18_9.out lX)
      clear ld7 KT hz8
      go_upto_region 15 with fail
      generalize w8.alloc (.cells #[.int .i64 ta, .int .i64 tb, .int .u64 ts] 26) = w9 at *
      generalize w8.heap.size = g27 at *
      go_wp2_with (refine wpList_ld rfl 23 (.tmp 18) rfl ld9.out ?_; simp only [Act.put])
      refine (RT.out _).mono ?_
      rintro e wA ⟨rfl, hbA⟩
      have E65_A := Lib.hid ((Below.block hbA g65 (Array.getElem?_eq_some_iff.1 E65_9.out).1).trans E65_9.out)
      have E11_A := Lib.hid ((Below.block hbA (w.heap.size + 1) (Array.getElem?_eq_some_iff.1 E11_9.out).1).trans E11_9.out)
      have E18_A := Lib.hid ((Below.block hbA g18 (Array.getElem?_eq_some_iff.1 E18_9.out).1).trans E18_9.out)
      have XA : Below w.heap.size w wA := X9.trans (Below.mono hbA X9.size)
      clear E65_9 E11_9 E18_9 X9
      have N27 := Lib.hid ((hbA.block g27 (Array.getElem?_eq_some_iff.1 N9.out).1).trans N9.out)
      have n27 := Lib.hid ((Below.heap_alloc wA (.cells #[.int .i64 ta, .int .i64 tb, .int .u64 ts] 26) g27 (Array.getElem?_eq_some_iff.1 N27.out).1).trans N27.out)
      have E65_B := Lib.hid ((Below.heap_alloc wA (.cells #[.int .i64 ta, .int .i64 tb, .int .u64 ts] 26) g65 (Array.getElem?_eq_some_iff.1 E65_A.out).1).trans E65_A.out)
      have E11_B := Lib.hid ((Below.heap_alloc wA (.cells #[.int .i64 ta, .int .i64 tb, .int .u64 ts] 26) (w.heap.size + 1) (Array.getElem?_eq_some_iff.1 E11_A.out).1).trans E11_A.out)
      have E18_B := Lib.hid ((Below.heap_alloc wA (.cells #[.int .i64 ta, .int .i64 tb, .int .u64 ts] 26) g18 (Array.getElem?_eq_some_iff.1 E18_A.out).1).trans E18_A.out)
      have XB : Below w.heap.size w (wA.alloc (.cells #[.int .i64 ta, .int .i64 tb, .int .u64 ts] 26)) := XA.alloc XA.size _
      have NB := Lib.hid (heap_alloc_last wA (.cells #[.int .i64 ta, .int .i64 tb, .int .u64 ts] 26))
      clear E65_A E11_A E18_A XA
      clear ld9 RT N9 N27
      go_upto_region 16 with fail
      generalize wA.alloc (.cells #[.int .i64 ta, .int .i64 tb, .int .u64 ts] 26) = wB at *
      generalize wA.heap.size = g28 at *
      obtain ⟨c0, c1, c2, -, -, -, -⟩ := blk3 n27.out
      obtain ⟨d0, d1, d2, -, -, -, ltd⟩ := blk3 NB.out
      obtain ⟨p0, p1, p2, -, -, -, ltp⟩ := blk3 E11_B.out
      go_wp2_with fail
      have HldP := Lib.hid (show ∀ w', Ext wB w' → (Instr.loadAt 23 (.pointer (some ⟨g18, 0, none⟩))).run Try.prog w' = .ok (.agg (bvs X).toArray) w' by
        intro w' h
        exact ld_blk ((Below.block h _ (Array.getElem?_eq_some_iff.1 E18_B.out).1).trans E18_B.out) lX)
      have hPc : ∀ (ψ : World → Prop) (e : ExtP wB.heap.size wB ψ) k o, k < wB.heap.size → e.val.cell? ⟨k, o, none⟩ = wB.cell? ⟨k, o, none⟩ := fun ψ e k o hk => e.ok.cell (p := ⟨k, o, none⟩) hk
      refine wp_region_pieces 10  [(true, [0, 1, 2, 3, 4, 5, 6, 9]), (false, [7]), (true, [8])] (by kernel_rfl) (by kernel_rfl) ?_; simp only [pick, List.map_cons, List.map_nil, List.flatMap_cons, List.flatMap_nil, Option.toList_some, List.singleton_append, List.drop_succ_cons, List.drop_zero, List.getElem?_cons_zero, List.getElem?_cons_succ]
      refine ⟨by kernel_rfl, ?_⟩; apply Exists.intro; refine ⟨fun ψ hψ hne => (by (repeat (first | ( go_big_quiet_want; refine quiet_ld 23 (.tmp 18) rfl (fun w' hw' => HldP.out w' (ext_in hw')) ?_; go_simp; go_big_quiet_on ) | go_big_quiet_step ((  go_at_call 16; exact extP_of hψ (Nat.le_refl _) (RS'.out _) )))); exact wpQuiet_nil rfl), ?_⟩
      intro wa ha K hK
      go_wp2_with fail
      have GA := Lib.hid (heap_alloc_last wa (.cells #[.int .i64 pa, .int .i64 pb, .int .u64 ps, .int .i64 ta, .int .i64 tb, .int .u64 ts, .int .i64 5, .int .i64 pb, .int .u64 F] 26))
      have hA' : Ext wB (wa.alloc (.cells #[.int .i64 pa, .int .i64 pb, .int .u64 ps, .int .i64 ta, .int .i64 tb, .int .u64 ts, .int .i64 5, .int .i64 pb, .int .u64 F] 26)) := Ext.trans ha (ext_alloc wa _)
      refine hK _ _ (ext_alloc wa _) ?_
      clear hK K ha
      generalize wa.alloc (.cells #[.int .i64 pa, .int .i64 pb, .int .u64 ps, .int .i64 ta, .int .i64 tb, .int .u64 ts, .int .i64 5, .int .i64 pb, .int .u64 F] 26) = wa' at *
      generalize wa.heap.size = gp at *
      clear hPc HldP c0 c1 c2 d0 d1 d2 ltd p0 p1 p2 ltp RS' n27 NB
      refine ⟨by kernel_rfl, ?_⟩; apply Exists.intro; refine ⟨fun ψ hψ hne => (by (repeat (go_big_quiet_step (( fail )))); exact wpQuiet_nil rfl), ?_⟩
      intro wC hb
      have hbC : Ext wB wC := Ext.trans hA' hb
      have GC := Lib.hid ((Below.block hb gp (Array.getElem?_eq_some_iff.1 GA.out).1).trans GA.out)
      have E65_C := Lib.hid ((Below.block hbC g65 (Array.getElem?_eq_some_iff.1 E65_B.out).1).trans E65_B.out)
      have E11_C := Lib.hid ((Below.block hbC (w.heap.size + 1) (Array.getElem?_eq_some_iff.1 E11_B.out).1).trans E11_B.out)
      have E18_C := Lib.hid ((Below.block hbC g18 (Array.getElem?_eq_some_iff.1 E18_B.out).1).trans E18_B.out)
      have XC : Below w.heap.size w wC := XB.trans (Below.mono hbC XB.size)
      clear E65_B E11_B E18_B XB
      clear hb hbC hA' GA
      go_wp2_with fail
      go_loopw [139] (fun c wr => ∃ m : Nat, m ≤ 3 ∧ c = .int .i64 m ∧ Hid (wr.heap[gp]? = some (.cells #[.int .i64 pa, .int .i64 pb, .int .u64 ps, .int .i64 ta, .int .i64 tb, .int .u64 ts, .int .i64 5, .int .i64 pb, .int .u64 F] 26 (0, 0))) ∧ Hid (wr.heap[g18]? = some (.cells (bvs X).toArray 23 (0, 0))) ∧ Hid (wr.heap[g65]? = some (.cells (bvs (B ++ S1)).toArray 23 (0, 0))) ∧ Hid (wr.heap[w.heap.size + 1]? = some (.cells #[.int .i64 pa, .int .i64 pb, .int .u64 ps] 26 (0, 0))) ∧ Hid (Below w.heap.size w wr)) (fun c _ => 3 - (intOf c).toNat)
      case atStart => exact ⟨0, Nat.zero_le _, rfl, GC, E18_C, E65_C, E11_C, Lib.hid XC⟩
      case round =>
        obtain ⟨m, hm, rfl, GD, E18_D, E65_D, E11_D, qX⟩ := hrel
        obtain ⟨wD, rfl⟩ : ∃ wD : World, wD = wr := ⟨_, rfl⟩
        have XD : Below w.heap.size w wD := qX.out
        clear E65_C E11_C E18_C XC GC qX
        by_cases hlt2 : m < 3
        · obtain ⟨a, b, s, h0, h1, h2⟩ : ∃ a b s, wD.cell? ⟨gp, m * 3, none⟩ = some (.int .i64 a) ∧ wD.cell? ⟨gp, m * 3 + 1, none⟩ = some (.int .i64 b) ∧ wD.cell? ⟨gp, m * 3 + 2, none⟩ = some (.int .u64 s) := by
            have hm3 : m = 0 ∨ m = 1 ∨ m = 2 := by omega
            rcases hm3 with rfl | rfl | rfl
            · exact ⟨pa, pb, ps, by rw [cell_of_row _ _ _ _ _ _ GD.out]; rfl, by rw [cell_of_row _ _ _ _ _ _ GD.out]; rfl, by rw [cell_of_row _ _ _ _ _ _ GD.out]; rfl⟩
            · exact ⟨ta, tb, ts, by rw [cell_of_row _ _ _ _ _ _ GD.out]; rfl, by rw [cell_of_row _ _ _ _ _ _ GD.out]; rfl, by rw [cell_of_row _ _ _ _ _ _ GD.out]; rfl⟩
            · exact ⟨5, pb, F, by rw [cell_of_row _ _ _ _ _ _ GD.out]; rfl, by rw [cell_of_row _ _ _ _ _ _ GD.out]; rfl, by rw [cell_of_row _ _ _ _ _ _ GD.out]; rfl⟩
          have kc := KC.out a b s
          have rc := RC.out a b s
          obtain ⟨Q, hQ⟩ : ∃ Q, Q = ckR ⟨a, b, s⟩ X := ⟨_, rfl⟩
          rw [← hQ] at kc rc
          clear hQ
          obtain ⟨ck, cs, ce⟩ := Q
          have hc : ∀ r : CkT, r.v = .tuple #[.int .u8 r.k.toNat, .string (str r.s), .int .i64 r.e] := fun _ => rfl
          simp only [hc] at kc rc
          have kc' := Lib.hid kc
          have rc' := Lib.hid rc
          clear kc rc hc
          have GE := Lib.hid ((Below.heap_alloc wD (.cells #[.int .i64 a, .int .i64 b, .int .u64 s] 26) gp (Array.getElem?_eq_some_iff.1 GD.out).1).trans GD.out)
          have E65_E := Lib.hid ((Below.heap_alloc wD (.cells #[.int .i64 a, .int .i64 b, .int .u64 s] 26) g65 (Array.getElem?_eq_some_iff.1 E65_D.out).1).trans E65_D.out)
          have E11_E := Lib.hid ((Below.heap_alloc wD (.cells #[.int .i64 a, .int .i64 b, .int .u64 s] 26) (w.heap.size + 1) (Array.getElem?_eq_some_iff.1 E11_D.out).1).trans E11_D.out)
          have E18_E := Lib.hid ((Below.heap_alloc wD (.cells #[.int .i64 a, .int .i64 b, .int .u64 s] 26) g18 (Array.getElem?_eq_some_iff.1 E18_D.out).1).trans E18_D.out)
          have XE : Below w.heap.size w (wD.alloc (.cells #[.int .i64 a, .int .i64 b, .int .u64 s] 26)) := XD.alloc XD.size _
          have NE := Lib.hid (heap_alloc_last wD (.cells #[.int .i64 a, .int .i64 b, .int .u64 s] 26))
          clear E65_D E11_D E18_D XD
          have ldE := Lib.hid (ld_blk E18_E.out lX)
          clear GD
          go_upto_region 21 with fail
          generalize wD.alloc (.cells #[.int .i64 a, .int .i64 b, .int .u64 s] 26) = wE at *
          generalize wD.heap.size = g30 at *
          clear h0 h1 h2
          obtain ⟨c0, c1, c2, -, -, -, -⟩ := blk3 NE.out
          go_wp2_with (refine wpList_ld rfl 23 (.tmp 18) rfl ldE.out ?_; simp only [Act.put])
          refine (kc'.out _).mono ?_
          rintro e wF ⟨rfl, hbF⟩
          have GF := Lib.hid ((Below.block hbF gp (Array.getElem?_eq_some_iff.1 GE.out).1).trans GE.out)
          have NF := (Below.block hbF g30 (Array.getElem?_eq_some_iff.1 NE.out).1).trans NE.out
          have E65_F := Lib.hid ((Below.block hbF g65 (Array.getElem?_eq_some_iff.1 E65_E.out).1).trans E65_E.out)
          have E11_F := Lib.hid ((Below.block hbF (w.heap.size + 1) (Array.getElem?_eq_some_iff.1 E11_E.out).1).trans E11_E.out)
          have E18_F := Lib.hid ((Below.block hbF g18 (Array.getElem?_eq_some_iff.1 E18_E.out).1).trans E18_E.out)
          have XF : Below w.heap.size w wF := XE.trans (Below.mono hbF XE.size)
          clear E65_E E11_E E18_E XE
          clear c0 c1 c2 NE GE ldE kc'
          obtain ⟨c0, c1, c2, -, -, -, -⟩ := blk3 NF
          clear NF
          have ldF := Lib.hid (ld_blk E18_F.out lX)
          go_wp2_with (refine wpList_ld rfl 23 (.tmp 18) rfl ldF.out ?_; simp only [Act.put])
          refine (rc'.out _).mono ?_
          rintro e wG ⟨rfl, hbG⟩
          have GG := Lib.hid ((Below.block hbG gp (Array.getElem?_eq_some_iff.1 GF.out).1).trans GF.out)
          have E65_G := Lib.hid ((Below.block hbG g65 (Array.getElem?_eq_some_iff.1 E65_F.out).1).trans E65_F.out)
          have E11_G := Lib.hid ((Below.block hbG (w.heap.size + 1) (Array.getElem?_eq_some_iff.1 E11_F.out).1).trans E11_F.out)
          have E18_G := Lib.hid ((Below.block hbG g18 (Array.getElem?_eq_some_iff.1 E18_F.out).1).trans E18_F.out)
          have XG : Below w.heap.size w wG := XF.trans (Below.mono hbG XF.size)
          clear E65_F E11_F E18_F XF
          clear c0 c1 c2 GF ldF rc'
          go_wp2_with fail
          go_roundw
          case rel => exact ⟨m + 1, by omega, by go_num, GG, E18_G, E65_G, E11_G, Lib.hid XG⟩
          case measure => simp [intOf]; omega
        · obtain rfl : m = 3 := by omega
          go_wp2_with fail
          go_roundw
          case rel => exact ⟨n + 1, by omega, by go_num, E65_D, E11_D, Lib.hid XD⟩
          case measure => simp [intOf]; omega
    · obtain rfl : n = 2 := by omega
      go_wp2_with (go_at_call 10; refine (awake_any _).mono ?_; rintro e w9 ⟨rfl, hb9⟩; have hz9 := hb9.size; (try simp only [World.size_alloc] at hz9))
      go_ret
      exact ⟨rfl, hX.out.trans (hb9.mono hX.out.size)⟩

theorem walk (k : Int) (wk : (Lit.int .u8 k).wf = true) (y : Int) (wy : (Lit.int .i64 y).wf = true) (l : List UInt8) (hl : l.length ≤ maxLen) (b : BkT) (wb : b.Ok) (at_ : Int) (wa : (Lit.int .i64 at_).wf = true) (p : PtT) (wp : p.Ok) (w : World) :
    Calls Try.prog 3 #[.int .u8 k, .int .i64 y, .string (str l), b.v, .int .i64 at_, p.v] w fun e w' => e = .returned (.bool true) ∧ Below w.heap.size w w' := by
  have u8 : ∀ k : Int, (Lit.int .u8 k).wf = true → ∃ cb : UInt8, k = (cb.toNat : Int) := fun k wk => ⟨byteOf k, by
    rw [byteOf_toNat]
    have : 0 ≤ k ∧ k ≤ 255 := by simp [Lit.wf, IntKind.min, IntKind.max, IntKind.signed, IntKind.bits] at wk; omega
    omega⟩
  obtain ⟨c, rfl⟩ := u8 k wk
  exact walk0 c y l b.l at_ p.a p.b p.s w hl wb.l

theorem own : ownKnob Try.prog.godebug = none := by kernel_rfl
theorem laidOut : laidOutB Try.prog = true := by kernel_rfl

set_option maxRecDepth 100000 in
theorem lifted (os : Os) (started : os.Started) (H : Type) (enc : TypeId × Value → H) :
    ReturnsInHanded {} Try.checked os 3 .any (Rows.blockSealsSpec.pre6 enc Try.prog Try.f3 Rows.blockSealsRow.domain false) (Rows.blockSealsSpec.post enc Try.prog Try.f3 false true false false) := by
  refine returnsInHanded_of_change (C := Try.checked) own started (by kernel_rfl) Try.func3
    (ChangeSpec.witness6 (enc := enc) (C := Try.checked) false ⟨#[], #[.int .u8 0, .int .i64 0, .string ⟨#[]⟩, .agg (Array.replicate 512 (.int .u8 0)), .int .i64 0, .agg #[.int .i64 0, .int .i64 0, .int .u64 0]], []⟩ 8 (by kernel_rfl) (by kernel_rfl) (by kernel_rfl) (by kernel_rfl)) ?_
  intro W base args ds gs before hval0 hW hcnd _
  have hval : ∀ (j : Nat) t v, Try.f3.params[j]? = some t → args[j]? = some v → Value.okWide Try.prog W .any base t v := hval0
  have hW' := hW
  obtain ⟨p, q, hA0, hV, rfl, hfz, hnd⟩ := hW
  have hA : DataW.TrodAll enc Try.prog W 0 (fun _ => true) true Try.f3.params.toList args.toList ds p := hA0
  rw [Try.params3] at hA hval
  obtain ⟨v0, vs0, d0, ds0, p0, q0, hargs, rfl, rfl, h0, r0⟩ := trodAll_cons hA
  obtain ⟨v1, vs1, d1, ds1, p1, q1, rfl, rfl, rfl, h1, r1⟩ := trodAll_cons r0
  obtain ⟨v2, vs2, d2, ds2, p2, q2, rfl, rfl, rfl, h2, r2⟩ := trodAll_cons r1
  obtain ⟨v3, vs3, d3, ds3, p3, q3, rfl, rfl, rfl, h3, r3⟩ := trodAll_cons r2
  obtain ⟨v4, vs4, d4, ds4, p4, q4, rfl, rfl, rfl, h4, r4⟩ := trodAll_cons r3
  obtain ⟨v5, vs5, d5, ds5, p5, q5, rfl, rfl, rfl, h5, r5⟩ := trodAll_cons r4
  obtain ⟨rfl, rfl, rfl⟩ := trodAll_nil r5
  obtain rfl : args = #[v0, v1, v2, v3, v4, v5] := by cases args; simp_all
  obtain ⟨rfl, rfl⟩ := trodVars_none hV
  have k0 := h0
  have lt0 : ∀ x ∈ p0, x.block < W.heap.size := by obtain ⟨m, hm⟩ := k0; exact DataW.trod_lt m _ _ _ hm
  have k1 := h1
  have lt1 : ∀ x ∈ p1, x.block < W.heap.size := by obtain ⟨m, hm⟩ := k1; exact DataW.trod_lt m _ _ _ hm
  have k2 := h2
  have lt2 : ∀ x ∈ p2, x.block < W.heap.size := by obtain ⟨m, hm⟩ := k2; exact DataW.trod_lt m _ _ _ hm
  have k3 := h3
  have lt3 : ∀ x ∈ p3, x.block < W.heap.size := by obtain ⟨m, hm⟩ := k3; exact DataW.trod_lt m _ _ _ hm
  have k4 := h4
  have lt4 : ∀ x ∈ p4, x.block < W.heap.size := by obtain ⟨m, hm⟩ := k4; exact DataW.trod_lt m _ _ _ hm
  have k5 := h5
  have lt5 : ∀ x ∈ p5, x.block < W.heap.size := by obtain ⟨m, hm⟩ := k5; exact DataW.trod_lt m _ _ _ hm
  obtain ⟨a0, rfl, -, -, wa0⟩ := open_int Try.underlying5 (hval 0 _ v0 rfl rfl) h0
  obtain ⟨a1, rfl, -, -, wa1⟩ := open_int Try.underlying3 (hval 1 _ v1 rfl rfl) h1
  obtain ⟨l2, rfl, wl2⟩ := open_str Try.underlying9 (hval 2 _ v2 rfl rfl) h2
  obtain ⟨x3, rfl, w3⟩ := open_blk (hval 3 _ v3 rfl rfl) h3
  obtain ⟨a4, rfl, -, -, wa4⟩ := open_int Try.underlying3 (hval 4 _ v4 rfl rfl) h4
  obtain ⟨x5, rfl, w5⟩ := open_ptr (hval 5 _ v5 rfl rfl) h5
  refine (walk a0 wa0 a1 wa1 l2 wl2 x3 w3 a4 wa4 x5 w5 W).mono fun e W' ⟨he, bel⟩ => ?_
  subst he
  exact ⟨_, rfl, _, _, _, [], _, [], hW', trodAll_mk1 (shut_bool Try.underlying4 _), (trodAll_cons_mk (Below.trod laidOut (by kernel_rfl) (of_decide_eq_true (by kernel_rfl)) k0 bel lt0) (trodAll_cons_mk (Below.trod laidOut (by kernel_rfl) (of_decide_eq_true (by kernel_rfl)) k1 bel lt1) (trodAll_cons_mk (Below.trod laidOut (by kernel_rfl) (of_decide_eq_true (by kernel_rfl)) k2 bel lt2) (trodAll_cons_mk (Below.trod laidOut (by kernel_rfl) (of_decide_eq_true (by kernel_rfl)) k3 bel lt3) (trodAll_cons_mk (Below.trod laidOut (by kernel_rfl) (of_decide_eq_true (by kernel_rfl)) k4 bel lt4) (trodAll_cons_mk (Below.trod laidOut (by kernel_rfl) (of_decide_eq_true (by kernel_rfl)) k5 bel lt5) trodAll_mk0)))))), rfl, bel.frame _, fun h => by cases h⟩

theorem proved : Rows.BlockSealsSaid :=
  OpenClaim.holds_of_wide 3 Try.f3 rfl rfl rfl rfl rfl rfl rfl ⟨rfl, rfl, rfl, rfl, rfl⟩ rfl rfl rfl rfl rfl (by kernel_rfl) Try.func3 (by kernel_rfl)
    (of_decide_eq_true (by kernel_rfl)) (by unfold Func.isWrapper; first | (rw [if_pos (by decide +kernel)]; kernel_rfl) | (rw [if_neg (by decide +kernel)]; exact ⟨rfl, rfl⟩))
    (fun os started H enc _ => lifted os started H enc)
end Go.Proofs.Ythoeklcgdbbbgaa.blockSeals
