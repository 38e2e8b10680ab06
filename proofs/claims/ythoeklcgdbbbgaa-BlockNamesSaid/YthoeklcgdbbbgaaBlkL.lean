/- Walks of package block: Decode (under way). -/
import Derived.Test.YthoeklcgdbbbgaaBlkK
set_option linter.unusedVariables false
namespace Go.Proofs.Ythoeklcgdbbbgaa
open Go.RowKit
attribute [local go_sem ↓] eql_ptr neq_ptr

/-- The pointer of bytes. -/
def pDec (l : List UInt8) : PtT × Int :=
  if l.length = 16 ∧ mayP (nAt l 0 4) (nAt l 4 4) (nAt l 8 8) = true then (⟨nAt l 0 4, nAt l 4 4, nAt l 8 8⟩, 0) else (⟨0, 0, 0⟩, 4)
theorem decode_short (l : List UInt8) (hl : l.length ≠ 16) (h63 : l.length ≤ 9223372036854775807) (w : World) :
    Calls Try.prog 23 #[.string (str l)] w fun e w' => e = .returned (toV (pDec l)) ∧ Below w.heap.size w w' := by
  have hd : toV (pDec l) = .tuple #[.agg #[.int .i64 0, .int .i64 0, .int .u64 0], .int .i64 4] := by unfold pDec; rw [if_neg (fun h => hl h.1)]; rfl
  rw [hd]
  have hs : (str l).size = l.length := str_size l
  have hn : (((str l).size : Int) != 16) = true := by rw [hs, bne_iff_ne]; omega
  have hn2 : (((l.length : Nat) : Int) != 16) = true := by rw [bne_iff_ne]; omega
  go_enter Try.func23, Try.ntmps23
  go_wp2
  exact bodyPost_ret (v := .tuple #[.agg #[.int .i64 0, .int .i64 0, .int .u64 0], .int .i64 4]) (by simp only [results, Try.results23]; go_simp) rfl ⟨rfl, by (repeat' (first | (with_reducible assumption) | (with_reducible exact Below.refl _ _) | (with_reducible refine below_sc ?_ ?_) | ((with_reducible show (_ : Nat) ≤ _); omega) | refine Below.setCell ?_ (by first | omega | (simp; done) | (simp; omega)) _ | refine Below.alloc ?_ (by first | omega | (simp; done) | (simp; omega)) _ | refine Below.drew ?_ | refine below_drewN ?_ _ | refine Below.trans ?_ (Below.mono (by assumption) (by first | omega | (simp; done) | (simp; omega)))))⟩

theorem loadAt_part {w : World} {g off : Nat} {l : List UInt8} (h16 : l.length = 16) (hc : ∀ j (h : j < l.length), w.cell? ⟨g, off + j, none⟩ = some (bv l[j])) :
    (Instr.loadAt 58 (.pointer (some ⟨g, off, none⟩))).run Try.prog w = .ok (.agg (bvs l).toArray) w := by
  have hl : (loadCells ⟨g, off, none⟩ (bvs l).length).run Try.prog w = .ok (bvs l).toArray w :=
    run_loadCells_list (P := Try.prog) w ⟨g, off, none⟩ (bvs l) (fun j v hv => by
      rw [Addr.add_lit]
      have hj : j < l.length := by have := (List.getElem?_eq_some_iff.1 hv).1; simpa [bvs] using this
      rw [hc j hj, ← hv]
      simp [bvs, hj])
  have e16 : (bvs l).length = 16 := by rw [bvs_length, h16]
  rw [e16] at hl
  have h0 : (Try.prog.info? 58).map (·.size) = some 16 := by kernel_rfl
  obtain ⟨i, hi⟩ : ∃ i, Try.prog.info? 58 = some i := by
    cases h : Try.prog.info? 58 with
    | none => rw [h] at h0; simp at h0
    | some i => exact ⟨i, rfl⟩
  have hs : i.size = 16 := by rw [hi] at h0; simpa using h0
  simp only [Instr.loadAt, Instr.sureAddr, Sem.run_bind, Sem.run_pure, Result.andThen]
  simp [loadVar, isAgg, run_underlying Try.underlying58, sizeOf, typeInfo, hi, hs, hl]

theorem conv_str (w : World) (l : List UInt8) : ∃ v' w', (convert 9 43 (.string (str l))).run Try.prog w = .ok v' w' ∧ RS w' v' l ∧ Ext w w' := by
  refine ⟨_, _, bytes_of w l Try.underlying9 Try.underlying43 Try.underlying5, ?_, (Below.refl _ w).drew.alloc (Nat.le_refl _) _⟩
  exact rs_block (m := l ++ List.replicate (grownCap w l.length 0 5 - l.length) 0) (off := 0) (heap_alloc_last w.drew _) (by simp) (grownCap_ge w l.length 0 5)
theorem info16 : (Try.prog.info? 58).map (·.size) = some 16 := by kernel_rfl
theorem st16 {w : World} {g : Nat} {t : TypeId} {l old : List UInt8} (hg : w.heap[g]? = some (.cells (bvs old).toArray t (0, 0))) (ho : old.length = 16) (hl : l.length = 16) :
    (Instr.storeAt 58 (.pointer (some ⟨g, 0, none⟩)) (.agg (bvs l).toArray)).run Try.prog w = .ok () (w.setRow g (bvs l).toArray) :=
  storeAt_row hg (by rw [info16, bvs_size, hl]) (by rw [bvs_size, bvs_size, ho, hl]) (oneCells _)
theorem get_ext {w : World} {g : Nat} {T : TypeId} {fr : Nat × Nat} {l : List UInt8} (off len cap : Nat) (hg : w.heap[g]? = some (.cells (bvs l).toArray T fr)) (hl : off + len ≤ l.length) (h8 : len ≤ 8) (hc : len ≤ cap) :
    Calls Try.prog 27 #[.slice (some ⟨g, off, none⟩) len cap] w fun e w' => e = .returned (.int .u64 (nAt l off len)) ∧ Below w.heap.size w w' :=
  (get_at off len cap hg hl h8 hc).mono fun _ _ ⟨h1, h2⟩ => ⟨h1, by rw [h2]; exact Below.refl _ _⟩

set_option maxHeartbeats 4000000 in
set_option maxRecDepth 100000 in
theorem decode_long (l : List UInt8) (hl : l.length = 16) (w : World) :
    Calls Try.prog 23 #[.string (str l)] w fun e w' => e = .returned (toV (pDec l)) ∧ Below w.heap.size w w' := by
  have hs : (str l).size = 16 := by rw [str_size, hl]
  have fin : ∀ r, pDec l = r → toV (pDec l) = .tuple #[.agg #[.int .i64 r.1.a, .int .i64 r.1.b, .int .u64 r.1.s], .int .i64 r.2] := fun r h => by rw [h]; rfl
  have FIN := Lib.hid fin
  clear fin
  obtain ⟨v1, y1, hcv, hrs, hx1⟩ := conv_str (w.alloc (.cells #[.int .i64 0, .int .i64 0, .int .u64 0] 26)) l
  have b2 := (Below.block hx1 w.heap.size (by simp)).trans (heap_alloc_last w _)
  have X1 : Below w.heap.size w y1 := Below.trans (ext_alloc w _) (hx1.mono (by simp))
  obtain ⟨b, off, c, rfl, hbl, hcc, hj⟩ : ∃ b off c, v1 = .slice (some ⟨b, off, none⟩) l.length c ∧ b < y1.heap.size ∧ l.length ≤ c ∧ ∀ j, j < l.length → y1.cell? ⟨b, off + j, none⟩ = (bvs l)[j]? := by
    rcases hrs with ⟨_, h⟩ | h
    · subst h; simp at hl
    · exact h
  have ld := Lib.hid (loadAt_part (w := y1) (g := b) (off := off) hl (fun j h => by rw [hj j h]; simp [bvs, h]))
  have st := st16 (l := l) (heap_alloc_last y1 (.cells (bvs z16).toArray 58)) rfl hl
  rw [World.setRow_alloc_new] at st
  have St := Lib.hid st
  have b4 := heap_alloc_last y1 (.cells (bvs l).toArray 58)
  have lt2 := (Array.getElem?_eq_some_iff.1 b2).1
  have b2' := (Below.heap_alloc y1 (.cells (bvs l).toArray 58) w.heap.size lt2).trans b2
  have X2 : Below w.heap.size w (y1.alloc (.cells (bvs l).toArray 58)) := X1.alloc X1.size _
  have lt4 : y1.heap.size < (y1.alloc (.cells (bvs l).toArray 58)).heap.size := by simp
  have lt2' : w.heap.size < (y1.alloc (.cells (bvs l).toArray 58)).heap.size := Nat.lt_trans lt2 lt4
  have n4 := nAt_bd4 l 0
  have n5 := nAt_bd4 l 4
  rw [hl] at hcv hcc
  clear st hrs hx1 hj X1 b2 lt2
  have har : ∀ w, (Instr.arrayAt 58 (.slice (some ⟨b, off, none⟩) 16 c)).run Try.prog w = .ok (.pointer (some ⟨b, off, none⟩)) w := fun w => by simp [Instr.arrayAt, run_underlying Try.underlying58]
  go_enter Try.func23, Try.ntmps23
  go_wp2_with (first | (refine wpList_ld rfl 58 (.tmp 12) rfl ld.out ?_; simp only [Act.put]) | (refine wpList_al rfl 58 rfl alloc16 ?_; simp only [Act.put]) | (refine wpList_st rfl 58 (.tmp 4) (.tmp 13) rfl St.out ?_; simp only [Act.put]))
  clear hcv har ld St
  generalize y1.alloc (.cells (bvs l).toArray 58) = W at *
  simp only [List.setIfInBounds_toArray, List.set_cons_zero, List.set_cons_succ]
  refine wp_region_alloc W.heap.size 9 (T := 26) (z := #[.int .i64 0, .int .i64 0, .int .u64 0]) (by kernel_rfl) (by kernel_rfl) (by simp) rfl rfl rfl (fun _ _ => by go_simp) (by kernel_rfl) ?_
  apply Exists.intro
  refine ⟨fun ψ hψ hne => ?_, ?_⟩
  · simp only [List.take_succ_cons, List.take_zero]
    have kb : ∀ e : ExtP W.heap.size W ψ, e.val.heap[y1.heap.size]? = some (.cells (bvs l).toArray 58 (0, 0)) := fun e => (e.ok.block _ lt4).trans b4
    have k0 : ∀ e : ExtP W.heap.size W ψ, _ := fun e => extP_of hψ (Nat.le_refl _) (get_ext 0 4 16 (kb e) (by omega) (by omega) (by omega))
    have k1 : ∀ e : ExtP W.heap.size W ψ, _ := fun e => extP_of hψ (Nat.le_refl _) (get_ext 4 4 12 (kb e) (by omega) (by omega) (by omega))
    have k2 : ∀ e : ExtP W.heap.size W ψ, _ := fun e => extP_of hψ (Nat.le_refl _) (get_ext 8 8 8 (kb e) (by omega) (by omega) (by omega))
    have K0 := Lib.hid k0
    have K1 := Lib.hid k1
    have K2 := Lib.hid k2
    clear kb k0 k1 k2
    go_big_quiet_step ((fail))
    go_big_quiet_step ((go_at_call 27; exact K0.out _))
    go_big_quiet_step ((fail))
    go_big_quiet_step ((fail))
    go_big_quiet_step ((go_at_call 27; exact K1.out _))
    go_big_quiet_step ((fail))
    go_big_quiet_step ((fail))
    go_big_quiet_step ((go_at_call 27; exact K2.out _))
    go_big_quiet_step ((fail))
    exact wpQuiet_nil rfl
  · intro g w2 hb2 hg hh
    simp only [List.drop_succ_cons, List.drop_zero]
    have hz := hb2.size
    have b2 := (hb2.block w.heap.size lt2').trans b2'
    have X3 : Below w.heap.size w w2 := X2.trans (hb2.mono X2.size)
    obtain ⟨c0, c1, c2, f0, f1, f2, hgz⟩ := blk3 hh
    obtain ⟨r0, r1, r2, e0, e1, e2, hrz⟩ := blk3 b2
    have hgn : g ≠ w.heap.size := by omega
    have hgn' : w.heap.size ≠ g := by omega
    have Hh := Lib.hid hh
    have Hr := Lib.hid b2
    have f1' : mayP (nAt l 0 4) (nAt l 4 4) (nAt l 8 8) = true → pDec l = (⟨nAt l 0 4, nAt l 4 4, nAt l 8 8⟩, 0) := fun h => by unfold pDec; rw [if_pos ⟨hl, h⟩]
    have f2' : mayP (nAt l 0 4) (nAt l 4 4) (nAt l 8 8) = false → pDec l = (⟨0, 0, 0⟩, 4) := fun h => by unfold pDec; rw [if_neg (by rw [h]; simp)]
    have F1 := Lib.hid f1'
    have F2 := Lib.hid f2'
    clear hh b2 hb2 b2' X2 b4 f1' f2'
    generalize nAt l 0 4 = A at *
    generalize nAt l 4 4 = B at *
    generalize nAt l 8 8 = S at *
    go_wp2_with fail
    rw [set3 _ _ _ Hh.out]
    have hh3 := setRow_heap w2 g _ #[.int .i64 A, .int .i64 B, .int .u64 S] _ _ Hh.out
    have hr3 := (setRow_other w2 g w.heap.size #[.int .i64 A, .int .i64 B, .int .u64 S] (by omega)).trans Hr.out
    have hB3 := below_setRow X3 (g := g) (by omega) #[.int .i64 A, .int .i64 B, .int .u64 S]
    clear c0 c1 c2 f0 f1 f2 hgz r0 r1 r2 e0 e1 e2 hrz Hh Hr X3
    generalize w2.setRow g #[.int .i64 A, .int .i64 B, .int .u64 S] = w3 at *
    refine (may_any A B S _).mono ?_
    rintro e w4 ⟨rfl, hb4⟩
    have hh4 := (hb4.block g (Array.getElem?_eq_some_iff.1 hh3).1).trans hh3
    have hr4 := (hb4.block w.heap.size (Array.getElem?_eq_some_iff.1 hr3).1).trans hr3
    have hB4 : Below w.heap.size w w4 := hB3.trans (hb4.mono hB3.size)
    clear hh3 hr3 hB3 hb4
    obtain ⟨c0, c1, c2, f0, f1, f2, hgz⟩ := blk3 hh4
    obtain ⟨r0, r1, r2, e0, e1, e2, hrz⟩ := blk3 hr4
    clear hh4 hr4
    cases hm : mayP A B S with
    | true =>
      have e := Lib.hid (FIN.out _ (F1.out hm))
      clear hm
      go_wp2_with fail
      exact bodyPost_ret (v := .tuple #[.agg #[.int .i64 A, .int .i64 B, .int .u64 S], .int .i64 0]) (by simp only [results, Try.results23]; go_simp) rfl ⟨by rw [e.out], by (repeat' (first | (with_reducible assumption) | (with_reducible refine below_sc ?_ ?_) | (with_reducible refine Below.alloc ?_ ?_ _) | omega))⟩
    | false =>
      have e := Lib.hid (FIN.out _ (F2.out hm))
      clear hm
      go_wp2_with fail
      exact bodyPost_ret (v := .tuple #[.agg #[.int .i64 0, .int .i64 0, .int .u64 0], .int .i64 4]) (by simp only [results, Try.results23]; go_simp) rfl ⟨by rw [e.out], by (repeat' (first | (with_reducible assumption) | (with_reducible refine below_sc ?_ ?_) | (with_reducible refine Below.alloc ?_ ?_ _) | omega))⟩

theorem decode_any (l : List UInt8) (h63 : l.length ≤ 9223372036854775807) (w : World) :
    Calls Try.prog 23 #[.string (str l)] w fun e w' => e = .returned (toV (pDec l)) ∧ Below w.heap.size w w' := by
  by_cases hl : l.length = 16
  · exact decode_long l hl w
  · exact decode_short l hl h63 w
end Go.Proofs.Ythoeklcgdbbbgaa
