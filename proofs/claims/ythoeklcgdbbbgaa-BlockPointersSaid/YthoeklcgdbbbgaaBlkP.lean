/- Walks of the document's block: Decode. -/
import Derived.Test.YthoeklcgdbbbgaaBlkL
import Derived.Test.YthoeklcgdbbbgaaBlkF
import Derived.Test.YthoeklcgdbbbgaaBlkO
set_option linter.unusedVariables false
namespace Go.Proofs.Ythoeklcgdbbbgaa
open Go.RowKit
attribute [local go_sem ↓] eql_ptr neq_ptr

theorem scB_same {w : World} {g i : Nat} {T : TypeId} {cs : Array Value} (v : Value) (h : w.heap[g]? = some (.cells cs T (0, 0))) : (w.setCell ⟨g, i, none⟩ v).heap[g]? = some (.cells (cs.setIfInBounds i v) T (0, 0)) := by
  rw [setCell_eq_setRow _ g i _ _ _ _ h]; exact setRow_heap _ _ _ _ _ _ h
theorem scB_other {w : World} {g g' i : Nat} {T : TypeId} {cs : Array Value} {o : Option Obj} (v : Value) (h : w.heap[g]? = some (.cells cs T (0, 0))) (hne : g' ≠ g) (ho : w.heap[g']? = o) : (w.setCell ⟨g, i, none⟩ v).heap[g']? = o := by
  rw [setCell_eq_setRow _ g i _ _ _ _ h, setRow_other w g g' _ hne]; exact ho
theorem rdecode_short (l : List UInt8) (hl : l.length ≠ 16) (h63 : l.length ≤ 9223372036854775807) (w : World) :
    Calls Try.prog 24 #[.string (str l)] w fun e w' => e = .returned (toV (pDec l)) ∧ Below w.heap.size w w' := by
  have hd : toV (pDec l) = .tuple #[.agg #[.int .i64 0, .int .i64 0, .int .u64 0], .int .i64 4] := by unfold pDec; rw [if_neg (fun h => hl h.1)]; rfl
  rw [hd]
  have hs : (str l).size = l.length := str_size l
  have hn : (((str l).size : Int) != 16) = true := by rw [hs, bne_iff_ne]; omega
  have hn2 : (((l.length : Nat) : Int) != 16) = true := by rw [bne_iff_ne]; omega
  go_enter Try.func24, Try.ntmps24
  go_wp2
  exact bodyPost_ret (v := .tuple #[.agg #[.int .i64 0, .int .i64 0, .int .u64 0], .int .i64 4]) (by simp only [results, Try.results24]; go_simp) rfl ⟨rfl, by (repeat' (first | (with_reducible assumption) | (with_reducible exact Below.refl _ _) | (with_reducible refine below_sc ?_ ?_) | ((with_reducible show (_ : Nat) ≤ _); omega) | refine Below.setCell ?_ (by first | omega | (simp; done) | (simp; omega)) _ | refine Below.alloc ?_ (by first | omega | (simp; done) | (simp; omega)) _ | refine Below.drew ?_ | refine below_drewN ?_ _ | refine Below.trans ?_ (Below.mono (by assumption) (by first | omega | (simp; done) | (simp; omega)))))⟩

set_option maxHeartbeats 8000000 in
set_option maxRecDepth 100000 in
theorem rdecode_long (l : List UInt8) (hl : l.length = 16) (w : World) :
    Calls Try.prog 24 #[.string (str l)] w fun e w' => e = .returned (toV (pDec l)) ∧ Below w.heap.size w w' := by
  have hs : (str l).size = 16 := by rw [str_size, hl]
  have fin : ∀ r, pDec l = r → toV (pDec l) = .tuple #[.agg #[.int .i64 r.1.a, .int .i64 r.1.b, .int .u64 r.1.s], .int .i64 r.2] := fun r h => by rw [h]; rfl
  have FIN := Lib.hid fin
  clear fin
  have n4 := nAt_bd4 l 0
  have n5 := nAt_bd4 l 4
  have hx1 : (str l).extract 0 4 = str (l.take 4) := str_extract _ _ _
  have hx2 : (str l).extract 4 8 = str ((l.drop 4).take 4) := str_extract _ _ _
  have f1' : mayP (nAt l 0 4) (nAt l 4 4) (nAt l 8 8) = true → pDec l = (⟨nAt l 0 4, nAt l 4 4, nAt l 8 8⟩, 0) := fun h => by unfold pDec; rw [if_pos ⟨hl, h⟩]
  have f2' : mayP (nAt l 0 4) (nAt l 4 4) (nAt l 8 8) = false → pDec l = (⟨0, 0, 0⟩, 4) := fun h => by unfold pDec; rw [if_neg (by rw [h]; simp)]
  have kn0 : ∀ w, Calls Try.prog 29 #[.string (str (l.take 4))] w fun e w' => e = .returned (.int .i64 (nAt l 0 4)) ∧ Below w.heap.size w w' := fun w => number_l _ (by simp; omega) w
  have kn4 : ∀ w, Calls Try.prog 29 #[.string (str ((l.drop 4).take 4))] w fun e w' => e = .returned (.int .i64 (nAt l 4 4)) ∧ Below w.heap.size w w' := fun w => number_l _ (by simp; omega) w
  have e8 : nAt l 8 8 = nB ((l.drop 8).take 8) := rfl
  generalize nAt l 0 4 = A at *
  generalize nAt l 4 4 = B at *
  rw [e8] at f1' f2'
  clear e8
  have F1 := Lib.hid f1'
  have F2 := Lib.hid f2'
  have N0 := Lib.hid kn0
  have N4 := Lib.hid kn4
  have b2 := Lib.hid (heap_alloc_last w (.cells #[.int .i64 0, .int .i64 0, .int .u64 0] 26))
  have X0 : Below w.heap.size w (w.alloc (.cells #[.int .i64 0, .int .i64 0, .int .u64 0] 26)) := ext_alloc w _
  have hW : w.heap.size < (w.alloc (.cells #[.int .i64 0, .int .i64 0, .int .u64 0] 26)).heap.size := by simp
  clear f1' f2' kn0 kn4
  go_enter Try.func24, Try.ntmps24
  go_wp2
  generalize w.alloc (.cells #[.int .i64 0, .int .i64 0, .int .u64 0] 26) = W at *
  refine wp_region_alloc W.heap.size 7 (T := 26) (z := #[.int .i64 0, .int .i64 0, .int .u64 0]) (by kernel_rfl) (by kernel_rfl) (Nat.le_refl _) rfl rfl rfl (fun _ _ => by go_simp) (by kernel_rfl) ?_
  apply Exists.intro
  refine ⟨fun ψ hψ hne => ?_, ?_⟩
  · simp only [List.take_succ_cons, List.take_zero]
    have k0 : ∀ e : ExtP W.heap.size W ψ, _ := fun e => extP_of hψ (Nat.le_refl _) (N0.out e.val)
    have k1 : ∀ e : ExtP W.heap.size W ψ, _ := fun e => extP_of hψ (Nat.le_refl _) (N4.out e.val)
    have K0 := Lib.hid k0
    have K1 := Lib.hid k1
    clear k0 k1
    repeat (go_big_quiet_step ((fail)))
    go_big_quiet_step ((go_at_call 29; exact K0.out _))
    repeat (go_big_quiet_step ((fail)))
    go_big_quiet_step ((go_at_call 29; exact K1.out _))
    repeat (go_big_quiet_step ((fail)))
    exact wpQuiet_nil rfl
  intro g w2 hb2 hg hh
  simp only [List.drop_succ_cons, List.drop_zero]
  have hz := hb2.size
  have r2 := (hb2.block w.heap.size (by omega)).trans b2.out
  have X3 : Below w.heap.size w w2 := X0.trans (hb2.mono X0.size)
  obtain ⟨c0, c1, c2, f0, f1, f2, hgz⟩ := blk3 hh
  have hgn : g ≠ w.heap.size := by omega
  have hgn' : w.heap.size ≠ g := by omega
  have Hh := Lib.hid hh
  have Hr := Lib.hid r2
  clear hh r2 hb2 b2 X0 N0 N4 hx1 hx2
  go_wp2_with fail
  rw [set3 _ _ _ Hh.out]
  have hh3 := Lib.hid (setRow_heap w2 g _ #[.int .i64 A, .int .i64 B, .int .u64 0] _ _ Hh.out)
  have hr3 := Lib.hid ((setRow_other w2 g w.heap.size #[.int .i64 A, .int .i64 B, .int .u64 0] (by omega)).trans Hr.out)
  have hB3 := below_setRow X3 (g := g) (by omega) #[.int .i64 A, .int .i64 B, .int .u64 0]
  clear c0 c1 c2 f0 f1 f2 hgz Hh Hr X3
  generalize w2.setRow g #[.int .i64 A, .int .i64 B, .int .u64 0] = w3 at *
  go_loopw [5] (fun c wr => ∃ n : Nat, 8 ≤ n ∧ n ≤ 16 ∧ c = .int .i64 n ∧ Hid (wr.heap[g]? = some (.cells #[.int .i64 A, .int .i64 B, .int .u64 (nB ((l.drop 8).take (n - 8)))] 26 (0, 0))) ∧ Hid (wr.heap[w.heap.size]? = some (.cells #[.int .i64 0, .int .i64 0, .int .u64 0] 26 (0, 0))) ∧ Hid (Below w.heap.size w wr)) (fun c _ => 16 - (intOf c).toNat)
  case atStart => exact ⟨8, by omega, by omega, rfl, hh3, hr3, Lib.hid hB3⟩
  case round =>
    obtain ⟨n, hn8, hn, rfl, hg3, hr, hX⟩ := hrel
    by_cases hlt : n < 16
    · have hb := nB_bd ((l.drop 8).take (n - 8))
      have hp : (256 : Int) ^ ((l.drop 8).take (n - 8)).length ≤ 72057594037927936 := by
        rw [List.length_take, List.length_drop, Nat.min_eq_left (by omega)]
        have : n = 8 ∨ n = 9 ∨ n = 10 ∨ n = 11 ∨ n = 12 ∨ n = 13 ∨ n = 14 ∨ n = 15 := by omega
        rcases this with rfl | rfl | rfl | rfl | rfl | rfl | rfl | rfl <;> decide
      have hb0 := hb.1
      have hb1 : nB ((l.drop 8).take (n - 8)) < 72057594037927936 := by omega
      clear hb hp
      have hbt := (l[n]'(by omega)).toNat_lt
      have hsn : nB ((l.drop 8).take (n - 8 + 1)) = nB ((l.drop 8).take (n - 8)) * 256 + (l[n]'(by omega)).toNat := by
        rw [List.take_succ_eq_append_getElem (by simp; omega), nB_snoc]
        simp only [List.getElem_drop, show 8 + (n - 8) = n by omega]
      have Hs := Lib.hid hsn
      have hks : n < (str l).size := by omega
      have hget : (str l)[n] = l[n]'(by omega) := rfl
      clear hsn
      generalize nB ((l.drop 8).take (n - 8)) = N at *
      obtain ⟨c0, c1, c2, f0, f1, f2, hgz⟩ := blk3 hg3.out
      have ex := fun (e : ExtOf wr.heap.size wr) k o (h : k < wr.heap.size) => ExtOf.cellB e k o h
      go_wp2_with fail
      refine wp_region_ext_tail wr.heap.size 9 (by kernel_rfl) (by kernel_rfl) ?_
      simp only [List.take_succ_cons, List.take_zero, List.drop_succ_cons, List.drop_zero]
      repeat (go_big_quiet_step ((fail)))
      refine wpQuiet_nil ?_
      rintro wq ⟨⟨_, hV⟩, rfl⟩
      have v1 := (hV.block g hgz).trans hg3.out
      have v2 := (hV.block w.heap.size (Array.getElem?_eq_some_iff.1 hr.out).1).trans hr.out
      have xv := hX.out.trans (hV.mono hX.out.size)
      clear ex hV hr hX hg3 c0 c1 c2 f0 f1 f2 hgz
      obtain ⟨c0, c1, c2, f0, f1, f2, hgz⟩ := blk3 v1
      have V1 := Lib.hid v1
      have V2 := Lib.hid v2
      clear v1 v2
      go_wp2_with fail
      go_roundw
      case rel =>
        refine ⟨n + 1, by omega, by omega, by go_num, ?_, ?_, ?_⟩
        · unfold Hid
          rw [scB_same _ V1.out, show n + 1 - 8 = n - 8 + 1 by omega, Hs.out]
          rfl
        · exact Lib.hid (scB_other _ V1.out hgn' V2.out)
        · exact Lib.hid (below_sc xv (by omega))
      case measure => simp [intOf]; omega
    · obtain rfl : n = 16 := by omega
      obtain ⟨S, hS⟩ : ∃ S, S = nB ((l.drop 8).take 8) := ⟨_, rfl⟩
      simp only [Nat.reduceSub] at hg3
      rw [← hS] at hg3 F1 F2
      have hb := nB_bd ((l.drop 8).take 8)
      have hp : ((l.drop 8).take 8).length = 8 := by simp; omega
      rw [hp, ← hS] at hb
      have hb1 : 0 ≤ S ∧ S ≤ 18446744073709551615 := by omega
      clear hb hp hS
      obtain ⟨c0, c1, c2, f0, f1, f2, hgz⟩ := blk3 hg3.out
      go_wp2_with fail
      refine (rmay_any A B S _).mono ?_
      rintro e w4 ⟨rfl, hb4⟩
      have hh4 := (hb4.block g hgz).trans hg3.out
      have hr4 := (hb4.block w.heap.size (Array.getElem?_eq_some_iff.1 hr.out).1).trans hr.out
      have hB4 : Below w.heap.size w w4 := hX.out.trans (hb4.mono hX.out.size)
      clear hg3 hr hX hb4 c0 c1 c2 f0 f1 f2 hgz hh3 hr3 hB3
      obtain ⟨c0, c1, c2, f0, f1, f2, hgz⟩ := blk3 hh4
      obtain ⟨r0, r1, r2, e0, e1, e2, hrz⟩ := blk3 hr4
      clear hh4 hr4
      cases hm : mayP A B S with
      | true =>
        have e := Lib.hid (FIN.out _ (F1.out hm))
        clear hm
        go_wp2_with fail
        exact bodyPost_ret (v := .tuple #[.agg #[.int .i64 A, .int .i64 B, .int .u64 S], .int .i64 0]) (by simp only [results, Try.results24]; go_simp) rfl ⟨by rw [e.out], by (repeat' (first | (with_reducible assumption) | (with_reducible refine below_sc ?_ ?_) | (with_reducible refine Below.alloc ?_ ?_ _) | omega))⟩
      | false =>
        have e := Lib.hid (FIN.out _ (F2.out hm))
        clear hm
        go_wp2_with fail
        exact bodyPost_ret (v := .tuple #[.agg #[.int .i64 0, .int .i64 0, .int .u64 0], .int .i64 4]) (by simp only [results, Try.results24]; go_simp) rfl ⟨by rw [e.out], by (repeat' (first | (with_reducible assumption) | (with_reducible refine below_sc ?_ ?_) | (with_reducible refine Below.alloc ?_ ?_ _) | omega))⟩

theorem rdecode_any (l : List UInt8) (h63 : l.length ≤ 9223372036854775807) (w : World) :
    Calls Try.prog 24 #[.string (str l)] w fun e w' => e = .returned (toV (pDec l)) ∧ Below w.heap.size w w' := by
  by_cases hl : l.length = 16
  · exact rdecode_long l hl w
  · exact rdecode_short l hl h63 w
end Go.Proofs.Ythoeklcgdbbbgaa
