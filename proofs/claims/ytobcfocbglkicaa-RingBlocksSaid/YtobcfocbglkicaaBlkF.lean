/- Walks of the document's block: Open. -/
import Derived.Test.YtobcfocbglkicaaBlkE
import Derived.Test.YtobcfocbglkicaaCalmB
set_option linter.unusedVariables false
set_option maxRecDepth 100000
namespace Go.Proofs.Ytobcfocbglkicaa
open Go.RowKit
attribute [local go_sem ↓] neq_blk eql_blk

/-- A guarded load that is wanted. -/
theorem wpList_ldw {P : Program} {ops : Array Oper} {rest : List Oper} {o : Oper} {a : Act} {w : World} {Q : Exit → Act → World → Prop} (ty : TypeId) (x : Operand) (ho : o.op = .load ty x) (hg : Region.wanted o (yielded ops a.tmps) = true) {v : Value} (hr : (Instr.loadAt ty (a.eval x)).run P w = .ok v w)
    (h : wpList P ops Q rest (a.put o.dst v) w) : wpList P ops Q (o :: rest) a w := by
  unfold wpList
  rw [if_pos hg]
  refine .inl ?_
  unfold Oper.wp execOp
  simp only [ho, Sem.run_bind, hr, Result.andThen_ok, Sem.run_pure]
  exact h
def num4 (a b c d : UInt8) : Int := (a.toNat : Int) * 16777216 + b.toNat * 65536 + c.toNat * 256 + d.toNat
theorem number_any (s : ByteArray) (w : World) (h0 : 4 ≤ s.size) (h1 : s.size ≤ 9223372036854775807) : Calls Try.prog 89 #[.string s] w fun e w' => e = .returned (.int .i64 (num4 (s[0]'(by omega)) (s[1]'(by omega)) (s[2]'(by omega)) (s[3]'(by omega)))) ∧ Below w.heap.size w w' := by
  have i0 : 0 < s.size := by omega
  have i1 : 1 < s.size := by omega
  have i2 : 2 < s.size := by omega
  have i3 : 3 < s.size := by omega
  have j0 : (0 : Int) < (s.size : Int) := by omega
  have j1 : (1 : Int) < (s.size : Int) := by omega
  have j2 : (2 : Int) < (s.size : Int) := by omega
  have j3 : (3 : Int) < (s.size : Int) := by omega
  have b0 := s[0].toNat_lt
  have b1 := s[1].toNat_lt
  have b2 := s[2].toNat_lt
  have b3 := s[3].toNat_lt
  go_enter Try.func89, Try.ntmps89
  go_wp2
  go_quiet (fail)
  go_wp2
  go_ret
  exact ⟨rfl, by (repeat' (first | (with_reducible assumption) | (with_reducible exact Below.refl _ _) | (with_reducible refine below_sc ?_ ?_) | ((with_reducible show (_ : Nat) ≤ _); omega) | refine Below.setCell ?_ (by first | omega | (simp; done) | (simp; omega)) _ | refine Below.alloc ?_ (by first | omega | (simp; done) | (simp; omega)) _ | refine Below.drew ?_ | refine below_drewN ?_ _ | refine Below.trans ?_ (Below.mono (by assumption) (by first | omega | (simp; done) | (simp; omega)))))⟩
theorem num4_nB : ∀ (m : List UInt8) (hm : m.length = 4), num4 ((str m)[0]'(by rw [str_size]; omega)) ((str m)[1]'(by rw [str_size]; omega)) ((str m)[2]'(by rw [str_size]; omega)) ((str m)[3]'(by rw [str_size]; omega)) = nB m
  | [a, b, c, d], _ => by
    simp [nB, num4, str_get]
    omega
theorem number_l (m : List UInt8) (hm : m.length = 4) (w : World) : Calls Try.prog 89 #[.string (str m)] w fun e w' => e = .returned (.int .i64 (nB m)) ∧ Below w.heap.size w w' := by
  have h := number_any (str m) w (by rw [str_size]; omega) (by rw [str_size]; omega)
  rwa [num4_nB m hm] at h

theorem nAt_two {l : List UInt8} {o : Nat} (h : o + 2 ≤ l.length) : nAt l o 2 = (l[o]'(by omega)).toNat * 256 + (l[o + 1]'(by omega)).toNat := by
  unfold nAt
  have e : (l.drop o).take 2 = [l[o]'(by omega), l[o + 1]'(by omega)] := by
    rw [List.drop_eq_getElem_cons (show o < l.length by omega), List.drop_eq_getElem_cons (show o + 1 < l.length by omega)]
    rfl
  rw [e]
  simp [nB]

set_option maxHeartbeats 8000000 in
set_option maxRecDepth 100000 in
theorem ropen_any (l : List UInt8) (hl : l.length = 512) (w : World) :
    Calls Try.prog 64 #[.agg (bvs l).toArray] w fun e w' => e = .returned (openR l).v ∧ Below w.heap.size w w' := by
  have n2 := nAt_bd2 l 6
  have n4 := nAt_bd4 l 8
  have h2 := nAt_two (l := l) (o := 6) (by omega)
  have H2 := Lib.hid h2
  clear h2
  have fin : ∀ r, openR l = r → (openR l).v = .tuple #[.int .u8 r.k.toNat, .int .i64 r.b, .string (str r.s), .int .i64 r.e] := fun r h => by rw [h]; rfl
  have FIN := Lib.hid fin
  clear fin
  have hB : Below w.heap.size w (w.alloc (.cells (bvs l).toArray 25)) := by (repeat' (first | (with_reducible assumption) | (with_reducible exact Below.refl _ _) | (with_reducible refine below_sc ?_ ?_) | ((with_reducible show (_ : Nat) ≤ _); omega) | refine Below.setCell ?_ (by first | omega | (simp; done) | (simp; omega)) _ | refine Below.alloc ?_ (by first | omega | (simp; done) | (simp; omega)) _ | refine Below.drew ?_ | refine below_drewN ?_ _ | refine Below.trans ?_ (Below.mono (by assumption) (by first | omega | (simp; done) | (simp; omega)))))
  have h1 := Lib.hid (heap_alloc_last w (.cells (bvs l).toArray 25))
  have ld := Lib.hid (ld_blk h1.out hl)
  have hz : (w.alloc (.cells (bvs l).toArray 25)).heap.size = w.heap.size + 1 := by simp
  have hs := str_size l
  have i6 : 6 < (str l).size := by omega
  have i7 : 7 < (str l).size := by omega
  have i4 : 4 < (str l).size := by omega
  have j6 : (6 : Int) < ((str l).size : Int) := by omega
  have j7 : (7 : Int) < ((str l).size : Int) := by omega
  have j4 : (4 : Int) < ((str l).size : Int) := by omega
  have g6 : (str l)[6] = l[6]'(by omega) := rfl
  have g7 : (str l)[7] = l[7]'(by omega) := rfl
  have b6 := (l[6]'(by omega)).toNat_lt
  have b7 := (l[7]'(by omega)).toNat_lt
  go_enter Try.func64, Try.ntmps64
  go_wp2_with (first | (refine wpList_ld rfl 25 (.tmp 1) rfl ld.out ?_; simp only [Act.put]) | (go_at_call 88; refine (rbytes_any l hl _).mono ?_; rintro e w1 ⟨rfl, hb1⟩; have hz1 := hb1.size; (try simp only [World.size_alloc] at hz1)))
  go_quiet (fail)
  have H7 := H2.out
  simp only [Nat.reduceAdd] at H7
  rw [← H7]
  have X1 : Below w.heap.size w (w1.drewN nq) := below_drewN (hB.trans (hb1.mono (by simp))) _
  have b1 : (w1.drewN nq).heap[w.heap.size]? = some (.cells (bvs l).toArray 25 (0, 0)) := (hb1.block w.heap.size (by simp)).trans h1.out
  generalize w1.drewN nq = V at *
  clear H2 H7 hb1 h1 ld hB hz hz1 i6 i7 j6 j7 g6 g7 b6 b7
  have B1 := Lib.hid b1
  clear b1
  by_cases h5 : nAt l 6 2 ≤ 500
  case neg =>
    have e := Lib.hid (FIN.out ⟨0, 0, [], 4⟩ (by unfold openR; rw [if_neg h5]))
    go_wp2_with fail
    exact bodyPost_ret (v := .tuple #[.int .u8 0, .int .i64 0, .string ⟨#[]⟩, .int .i64 4]) (by simp only [results, Try.results64]; go_simp) rfl ⟨by rw [e.out]; rfl, X1⟩
  have h4 : ∃ c, l.getD 4 0 = c ∧ l[4]? = some c := ⟨l[4]'(by omega), by simp [List.getD, List.getElem?_eq_getElem (show 4 < l.length by omega)], List.getElem?_eq_getElem _⟩
  obtain ⟨c, hc0, hc1⟩ := h4
  obtain ⟨n, hn⟩ : ∃ n : Nat, nAt l 6 2 = n := ⟨(nAt l 6 2).toNat, by omega⟩
  have hn5 : n ≤ 500 := by omega
  have hb1 : (12 : Int) ≤ 12 + (n : Int) := by omega
  have hb2 : 12 + (n : Int) ≤ 512 := by omega
  obtain ⟨s, hs'⟩ : ∃ s, s = (l.drop 12).take n := ⟨_, rfl⟩
  have ls : s.length = n := by rw [hs']; simp; omega
  obtain ⟨B, hB⟩ : ∃ B, B = nAt l 8 4 := ⟨_, rfl⟩
  obtain ⟨R, hR⟩ : ∃ R, R = sealR c B s := ⟨_, rfl⟩
  have lR : R.1.length = 512 := by rw [hR]; exact sealR_length
  have fin1 : R = (l, 0) → openR l = ⟨c, B, s, 0⟩ := fun h => by
    unfold openR; rw [if_pos h5, hn, Int.toNat_natCast, hc0, ← hs', ← hB, ← hR, if_pos h]
  have fin2 : R ≠ (l, 0) → openR l = ⟨0, 0, [], 4⟩ := fun h => by
    unfold openR; rw [if_pos h5, hn, Int.toNat_natCast, hc0, ← hs', ← hB, ← hR, if_neg h]
  have F1 := Lib.hid fin1
  have F2 := Lib.hid fin2
  have ks := fun w => rseal_any c B s w (by unfold maxLen; omega)
  rw [← hR] at ks
  have kn : ∀ w, Calls Try.prog 89 #[.string (str ((l.drop 8).take 4))] w fun e w' => e = .returned (.int .i64 B) ∧ Below w.heap.size w w' := fun w => by rw [hB]; exact number_l _ (by simp; omega) w
  have KS := Lib.hid ks
  have KN := Lib.hid kn
  have hx1 : (str l).extract 8 12 = str ((l.drop 8).take 4) := str_extract _ _ _
  have hx2 : (str l).extract 12 (12 + n) = str s := by rw [str_extract, hs', show 12 + n - 12 = n by omega]
  have hbB : 0 ≤ B ∧ B < 4294967296 := by rw [hB]; exact n4
  have g4 : (str l)[4] = c := by
    have : (str l)[4] = l[4]'(by omega) := rfl
    rw [this]; rw [List.getElem?_eq_getElem (by omega)] at hc1; exact Option.some.inj hc1
  have hc8 := c.toNat_lt
  rw [hn]
  have e12 : (12 + (n : Int)).toNat = 12 + n := by omega
  clear fin1 fin2 ks kn hR hs' hB hn hc0 hc1 h5 n2 n4
  obtain ⟨S, E⟩ := R
  simp only at lR
  have ks : ∀ w, Calls Try.prog 58 #[.int .u8 c.toNat, .int .i64 B, .string (str s)] w fun e w' => e = .returned (.tuple #[.agg (bvs S).toArray, .int .i64 E]) ∧ Below w.heap.size w w' := KS.out
  have KS := Lib.hid ks
  clear ks
  go_wp2_with (go_at_call 89; refine (KN.out _).mono ?_; rintro e w2 ⟨rfl, hb2⟩; have hz2 := hb2.size; (try simp only [World.size_alloc] at hz2))
  have X2 : Below w.heap.size w w2 := X1.trans (hb2.mono X1.size)
  have B2 := Lib.hid ((hb2.block w.heap.size (Array.getElem?_eq_some_iff.1 B1.out).1).trans B1.out)
  clear hb2 B1 X1 hz2
  refine C.wp_region_piecesC (fun _ => True) (fun k => w2.heap.size ≤ k) 13 11 [(true, [0, 1, 2, 3, 4, 5, 6]), (false, [7]), (true, [8, 9, 10])] [(false, [12])] (O := .cells (bvs zB).toArray 25) (by kernel_rfl) (fun _ _ => trivial) (by kernel_rfl) rfl rfl (fun _ _ => by unfold execOp; simp only [Sem.run_bind, alloc_blk, Result.andThen_ok, Sem.run_pure]) ?_; simp only [pick, List.map_cons, List.map_nil, List.flatMap_cons, List.flatMap_nil, Option.toList_some, List.singleton_append, List.drop_succ_cons, List.drop_zero, List.getElem?_cons_zero, List.getElem?_cons_succ]
  refine ⟨by kernel_rfl, ?_⟩; apply Exists.intro; refine ⟨fun ψ hψ hne => (by (repeat (go_big_quiet_step (( fail )))); exact wpQuiet_nil rfl), ?_⟩
  intro wa ha K hK
  go_wp2_with fail
  refine (KS.out wa).mono ?_
  rintro e wb ⟨rfl, hab⟩
  go_wp2_with fail
  refine hK _ _ (Mut.of_ext hab) ?_
  clear hK K
  refine ⟨by kernel_rfl, ?_⟩; apply Exists.intro; refine ⟨fun ψ hψ hne => (by (repeat (go_big_quiet_step (( fail )))); exact wpQuiet_nil rfl), ?_⟩
  intro wc hc g hg hO
  intro wd hd K hK
  have ex : Ext w2 wd := Ext.trans ha (Ext.trans hab (Ext.trans hc hd))
  have hO' := (Below.block hd g (Array.getElem?_eq_some_iff.1 hO).1).trans hO
  have hst := st_blk (l := S) hO' zB_length lR
  have hgd := setRow_heap wd g _ (bvs S).toArray _ _ hO'
  refine wpList_st rfl 25 (.tmp 9) (.tmp 35) rfl hst ?_
  go_wp2_with fail
  refine hK _ _ ⟨rfl, rfl, rfl, by simp [World.setRow], fun i _ hn => setRow_other wd g i _ (by rintro rfl; exact hn hg)⟩ ?_
  clear hK K
  intro wj hj
  have ltb := (Array.getElem?_eq_some_iff.1 B2.out).1
  have b9 := (Below.block hj g (Array.getElem?_eq_some_iff.1 hgd).1).trans hgd
  have b1 := (setRow_other wd g w.heap.size (bvs S).toArray (by omega)).trans ((Below.block ex w.heap.size ltb).trans B2.out)
  have b1' := (Below.block hj w.heap.size (Array.getElem?_eq_some_iff.1 b1).1).trans b1
  have hX : Below w.heap.size w wj := by
    have e1 : Below w.heap.size w wd := X2.trans (Below.mono ex X2.size)
    have e2 := below_setRow e1 (g := g) (by omega) (bvs S).toArray
    exact e2.trans (Below.mono hj e2.size)
  have ld9 := Lib.hid (ld_blk b9 lR)
  have ld1 := Lib.hid (ld_blk b1' hl)
  clear b9 b1 b1' hj hgd hst hO' ex hd hO hg hc hab ha B2 X2
  by_cases hE : E = 0
  · subst hE
    by_cases hS : S = l
    · subst hS
      have q : eqB S S = true := by simp [eqB]
      have e := Lib.hid (FIN.out _ (F1.out rfl))
      go_wp2_with (first | (refine wpList_ldw 25 (.tmp 9) rfl (by rfl) ld9.out ?_; simp only [Act.put]) | (refine wpList_ldw 25 (.tmp 1) rfl (by rfl) ld1.out ?_; simp only [Act.put]))
      go_quiet (fail)
      go_wp2_with fail
      exact bodyPost_ret (v := .tuple #[.int .u8 c.toNat, .int .i64 B, .string (str s), .int .i64 0]) (by simp only [results, Try.results64]; go_simp) rfl ⟨by rw [e.out], by (repeat' (first | (with_reducible assumption) | (with_reducible exact Below.refl _ _) | (with_reducible refine below_sc ?_ ?_) | ((with_reducible show (_ : Nat) ≤ _); omega) | refine Below.setCell ?_ (by first | omega | (simp; done) | (simp; omega)) _ | refine Below.alloc ?_ (by first | omega | (simp; done) | (simp; omega)) _ | refine Below.drew ?_ | refine below_drewN ?_ _ | refine Below.trans ?_ (Below.mono (by assumption) (by first | omega | (simp; done) | (simp; omega)))))⟩
    · have q : eqB S l = false := by simp [eqB, hS]
      have e := Lib.hid (FIN.out _ (F2.out (fun h => hS (congrArg Prod.fst h))))
      go_wp2_with (first | (refine wpList_ldw 25 (.tmp 9) rfl (by rfl) ld9.out ?_; simp only [Act.put]) | (refine wpList_ldw 25 (.tmp 1) rfl (by rfl) ld1.out ?_; simp only [Act.put]))
      exact bodyPost_ret (v := .tuple #[.int .u8 0, .int .i64 0, .string ⟨#[]⟩, .int .i64 4]) (by simp only [results, Try.results64]; go_simp) rfl ⟨by rw [e.out]; rfl, hX⟩
  · have z1 : (E != 0) = true := bne_iff_ne.2 hE
    have z2 : (E == 0) = false := beq_eq_false_iff_ne.2 hE
    have e := Lib.hid (FIN.out _ (F2.out (fun h => hE (congrArg Prod.snd h))))
    go_wp2_with fail
    exact bodyPost_ret (v := .tuple #[.int .u8 0, .int .i64 0, .string ⟨#[]⟩, .int .i64 4]) (by simp only [results, Try.results64]; go_simp) rfl ⟨by rw [e.out]; rfl, hX⟩
end Go.Proofs.Ytobcfocbglkicaa
