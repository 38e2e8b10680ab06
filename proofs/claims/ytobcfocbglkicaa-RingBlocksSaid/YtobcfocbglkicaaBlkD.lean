/- Walks of the document's block: Seal. -/
import Derived.Test.YtobcfocbglkicaaBlkC
set_option linter.unusedVariables false
set_option maxRecDepth 100000
namespace Go.Proofs.Ytobcfocbglkicaa
open Go.RowKit

theorem convB {w : World} {v : Value} {l : List UInt8} (h : RS w v l) : ∀ w', Ext w w' → (convert 38 9 v).run Try.prog w' = .ok (.string (str l)) w' := fun w' k => (h.ext k).conv Try.underlying38 Try.underlying5 Try.underlying9
def be4 (n : Int) : List UInt8 := [byteOf (n / 16777216), byteOf (n / 65536), byteOf (n / 256), byteOf n]
theorem be4_beN (n : Int) : be4 n = beN n 4 := by simp [be4, beN]
theorem rword_any' (n : Int) (w : World) (_h0 : 0 ≤ n) (_h1 : n ≤ 9223372036854775807) : Calls Try.prog 82 #[.int .i64 n] w fun e w' => e = .returned (.string (str (be4 n))) ∧ Below w.heap.size w w' := by
  go_enter Try.func82, Try.ntmps82
  go_wp2
  rw [conv_bytes Try.underlying38 Try.underlying5 Try.underlying9 _ _ _ _ (be4 n) (show (be4 n).length = 4 from rfl) (fun i hi => by
    match i, hi with
    | 0, _ => go_simp; rw [← bv_byteOf]; rfl
    | 1, _ => go_simp; rw [← bv_byteOf]; rfl
    | 2, _ => go_simp; rw [← bv_byteOf]; rfl
    | 3, _ => go_simp; rw [← bv_byteOf]; rfl)]
  go_wp2
  go_ret
  exact ⟨rfl, by (repeat' (first | (with_reducible assumption) | (with_reducible exact Below.refl _ _) | (with_reducible refine below_sc ?_ ?_) | ((with_reducible show (_ : Nat) ≤ _); omega) | refine Below.setCell ?_ (by first | omega | (simp; done) | (simp; omega)) _ | refine Below.alloc ?_ (by first | omega | (simp; done) | (simp; omega)) _ | refine Below.drew ?_ | refine below_drewN ?_ _ | refine Below.trans ?_ (Below.mono (by assumption) (by first | omega | (simp; done) | (simp; omega)))))⟩
theorem rword_any (n : Int) (w : World) (h0 : 0 ≤ n) (h1 : n ≤ 9223372036854775807) : Calls Try.prog 82 #[.int .i64 n] w fun e w' => e = .returned (.string (str (beN n 4))) ∧ Below w.heap.size w w' := by
  rw [← be4_beN]; exact rword_any' n w h0 h1

set_option maxHeartbeats 4000000 in
set_option maxRecDepth 100000 in
theorem rseal_no (k : UInt8) (b : Int) (s : List UInt8) (w : World) (h : (sealR k b s).2 ≠ 0) (hl : s.length ≤ maxLen) :
    Calls Try.prog 58 #[.int .u8 k.toNat, .int .i64 b, .string (str s)] w fun e w' => e = .returned (bkV (sealR k b s)) ∧ Below w.heap.size w w' := by
  unfold maxLen at hl
  have hs := str_size s
  have hg := heap_alloc_last w (.cells (bvs zB).toArray 25)
  have hst := st_blk hg zB_length zB_length
  rw [World.setRow_alloc_new] at hst
  have Hst := Lib.hid hst
  have Hg := Lib.hid hg
  clear hst hg
  have fin : ∀ e, sealR k b s = (zB, e) → bkV (sealR k b s) = .tuple #[.agg (bvs zB).toArray, .int .i64 e] := fun e h => by rw [h]; rfl
  have FIN := Lib.hid fin
  clear fin
  by_cases h0 : 0 ≤ b
  · by_cases h1 : b ≤ 2147483647
    · have h2 : ¬ s.length ≤ 500 := fun h2 => h (by simp [sealR, h0, h1, h2])
      have e := Lib.hid (FIN.out 40 (by simp [sealR, h0, h1, h2]))
      clear h
      go_enter Try.func58, Try.ntmps58
      go_wp2_with (first | (refine wpList_al rfl 25 rfl alloc_blk ?_; simp only [Act.put]) | (refine wpList_bd rfl 25 rfl build_blk ?_; simp only [Act.put]) | (refine wpList_st rfl 25 (.tmp 6) (.tmp 21) rfl Hst.out ?_; simp only [Act.put]))
      exact bodyPost_ret (results_cell_tmp Try.results58 _ _ _ _ _ _ _ rfl Hg.out Try.underlying25 rfl (by rw [info_blk, bvs_size, zB_length])) rfl ⟨by rw [e.out]; rfl, by (repeat' (first | (with_reducible assumption) | (with_reducible exact Below.refl _ _) | (with_reducible refine below_sc ?_ ?_) | ((with_reducible show (_ : Nat) ≤ _); omega) | refine Below.setCell ?_ (by first | omega | (simp; done) | (simp; omega)) _ | refine Below.alloc ?_ (by first | omega | (simp; done) | (simp; omega)) _ | refine Below.drew ?_ | refine below_drewN ?_ _ | refine Below.trans ?_ (Below.mono (by assumption) (by first | omega | (simp; done) | (simp; omega)))))⟩
    · have e := Lib.hid (FIN.out 1 (by simp [sealR, h1]))
      clear h
      go_enter Try.func58, Try.ntmps58
      go_wp2_with (first | (refine wpList_al rfl 25 rfl alloc_blk ?_; simp only [Act.put]) | (refine wpList_bd rfl 25 rfl build_blk ?_; simp only [Act.put]) | (refine wpList_st rfl 25 (.tmp 6) (.tmp 17) rfl Hst.out ?_; simp only [Act.put]))
      exact bodyPost_ret (results_cell_tmp Try.results58 _ _ _ _ _ _ _ rfl Hg.out Try.underlying25 rfl (by rw [info_blk, bvs_size, zB_length])) rfl ⟨by rw [e.out]; rfl, by (repeat' (first | (with_reducible assumption) | (with_reducible exact Below.refl _ _) | (with_reducible refine below_sc ?_ ?_) | ((with_reducible show (_ : Nat) ≤ _); omega) | refine Below.setCell ?_ (by first | omega | (simp; done) | (simp; omega)) _ | refine Below.alloc ?_ (by first | omega | (simp; done) | (simp; omega)) _ | refine Below.drew ?_ | refine below_drewN ?_ _ | refine Below.trans ?_ (Below.mono (by assumption) (by first | omega | (simp; done) | (simp; omega)))))⟩
  · have e := Lib.hid (FIN.out 1 (by simp [sealR, h0]))
    clear h
    go_enter Try.func58, Try.ntmps58
    go_wp2_with (first | (refine wpList_al rfl 25 rfl alloc_blk ?_; simp only [Act.put]) | (refine wpList_bd rfl 25 rfl build_blk ?_; simp only [Act.put]) | (refine wpList_st rfl 25 (.tmp 6) (.tmp 17) rfl Hst.out ?_; simp only [Act.put]))
    exact bodyPost_ret (results_cell_tmp Try.results58 _ _ _ _ _ _ _ rfl Hg.out Try.underlying25 rfl (by rw [info_blk, bvs_size, zB_length])) rfl ⟨by rw [e.out]; rfl, by (repeat' (first | (with_reducible assumption) | (with_reducible exact Below.refl _ _) | (with_reducible refine below_sc ?_ ?_) | ((with_reducible show (_ : Nat) ≤ _); omega) | refine Below.setCell ?_ (by first | omega | (simp; done) | (simp; omega)) _ | refine Below.alloc ?_ (by first | omega | (simp; done) | (simp; omega)) _ | refine Below.drew ?_ | refine below_drewN ?_ _ | refine Below.trans ?_ (Below.mono (by assumption) (by first | omega | (simp; done) | (simp; omega)))))⟩

theorem quiet_add {P : Program} {o : Oper} {a : Act} {C : World → Prop} {K : Act → Prop} (t ty : TypeId) (x y : Operand) (ho : o.op = .binOp .add t x y ty) {v : Value} (hr : ∀ w, C w → (binOp .add t (a.eval x) (a.eval y)).run P w = .ok v w)
    (hk : K (a.put o.dst v)) : o.quiet P a C K :=
  ⟨v, fun w hw => by unfold Oper.quietAt execOp; simp [ho, eqGuard, hr w hw]; exact ⟨rfl, rfl⟩, hk⟩
theorem add_str (w : World) (a b : List UInt8) (h : a.length + b.length ≤ 1000000) : (binOp .add 9 (.string (str a)) (.string (str b))).run Try.prog w = .ok (.string (str (a ++ b))) w := by
  have sa := str_append a b
  have s1 := str_size a
  have s2 := str_size b
  go_simp
  omega
/-- The bytes of l, the first k of them laid over 00s. -/
def over (l : List UInt8) (k : Nat) : List UInt8 := l.take k ++ List.replicate (512 - k) 0
theorem over_length {l : List UInt8} {k : Nat} (h : k ≤ l.length) (h5 : k ≤ 512) : (over l k).length = 512 := by simp [over]; omega
theorem over_set {l : List UInt8} {k : Nat} (h : k < l.length) (h5 : k < 512) : (over l k).set k l[k] = over l (k + 1) := by
  unfold over
  have hl : (l.take k).length = k := by simp; omega
  rw [List.set_append_right _ _ (by omega), hl, Nat.sub_self, List.take_succ_eq_append_getElem h, List.append_assoc, show 512 - k = (512 - (k + 1)) + 1 by omega, List.replicate_succ]
  rfl

theorem over_store {w : World} {g : Nat} {t : TypeId} {old : Array Value} (hg : w.heap[g]? = some (.cells old t (0, 0))) {l : List UInt8} {k : Nat} (h : k < l.length) (h5 : k < 512) :
    (w.setRow g (bvs (over l k)).toArray).setCell ⟨g, k, none⟩ (.int .u8 (l[k].toNat : Int)) = w.setRow g (bvs (over l (k + 1))).toArray := by
  rw [← over_set h h5]; exact setRow_store hg l[k]

set_option maxHeartbeats 4000000 in
set_option maxRecDepth 100000 in
theorem rseal_yes (k : UInt8) (b : Int) (s : List UInt8) (w : World) (h0 : 0 ≤ b) (h1 : b ≤ 2147483647) (h2 : s.length ≤ 500) :
    Calls Try.prog 58 #[.int .u8 k.toNat, .int .i64 b, .string (str s)] w fun e w' => e = .returned (.tuple #[.agg (bvs (sealL k b s)).toArray, .int .i64 0]) ∧ Below w.heap.size w w' := by
  have hs := str_size s
  have hk := k.toNat_lt
  have lR := sealL_length (k := k) (b := b) h2
  have sa := fun a b => str_append a b
  have ss := fun l => str_size l
  have l4 : (beN b 4).length = 4 := beN_length _ _
  go_enter Try.func58, Try.ntmps58
  go_wp2_with (first | (refine wpList_al rfl 25 rfl alloc_blk ?_; simp only [Act.put]))
  have b6 := Lib.hid (heap_alloc_last w (.cells (bvs zB).toArray 25))
  have hB : Below w.heap.size w (w.alloc (.cells (bvs zB).toArray 25)) := by (repeat' (first | (with_reducible assumption) | (with_reducible exact Below.refl _ _) | (with_reducible refine below_sc ?_ ?_) | ((with_reducible show (_ : Nat) ≤ _); omega) | refine Below.setCell ?_ (by first | omega | (simp; done) | (simp; omega)) _ | refine Below.alloc ?_ (by first | omega | (simp; done) | (simp; omega)) _ | refine Below.drew ?_ | refine below_drewN ?_ _ | refine Below.trans ?_ (Below.mono (by assumption) (by first | omega | (simp; done) | (simp; omega)))))
  have hz : w.heap.size < (w.alloc (.cells (bvs zB).toArray 25)).heap.size := by simp
  generalize w.alloc (.cells (bvs zB).toArray 25) = W at *
  refine wp_region_pieces 16  [(true, [0, 1, 2, 3, 4, 5, 6, 7, 11, 12, 14]), (false, [8]), (true, [9, 10, 13, 15])] (by kernel_rfl) (by kernel_rfl) ?_; simp only [pick, List.map_cons, List.map_nil, List.flatMap_cons, List.flatMap_nil, Option.toList_some, List.singleton_append, List.drop_succ_cons, List.drop_zero, List.getElem?_cons_zero, List.getElem?_cons_succ]
  refine ⟨by kernel_rfl, ?_⟩; apply Exists.intro; refine ⟨fun ψ hψ hne => (by (repeat (go_big_quiet_step (( go_at_call 82; exact extP_of hψ (Nat.le_refl _) (rword_any _ _ (by omega) (by omega)) )))); exact wpQuiet_nil rfl), ?_⟩
  intro wa ha K hK
  go_wp2_with fail
  have hM : ∃ M, M = [k, 0] ++ beN (s.length : Int) 2 := ⟨_, rfl⟩
  obtain ⟨M, hM⟩ := hM
  have lM : M.length = 4 := by rw [hM]; rfl
  have hm : (#[.int .u8 (k.toNat : Int), .int .u8 0, .int .u8 ((s.length : Int) / 256), .int .u8 ((s.length : Int) % 256)] : Array Value) = (bvs M).toArray := by
    rw [hM]
    have e1 := bv_byteOf ((s.length : Int) / 2 ^ 8)
    have e0 := bv_byteOf ((s.length : Int) / 2 ^ 0)
    simp only [bvs, beN, List.map_cons, List.map_nil, List.cons_append, List.nil_append]
    rw [show (8 * 1 : Nat) = 8 from rfl, show (8 * 0 : Nat) = 0 from rfl, e1, e0]
    have a1 : (s.length : Int) / 2 ^ 8 % 256 = (s.length : Int) / 256 := by omega
    have a0 : (s.length : Int) / 2 ^ 0 % 256 = (s.length : Int) % 256 := by omega
    rw [a1, a0]
    rfl
  rw [hm]
  refine hK _ _ (extAl wa _) ?_
  clear hK K
  have hrs : RS (wa.alloc (.cells (bvs M).toArray 5)) (.slice (some ⟨wa.heap.size, 0, none⟩) 4 4) M := by
    have := rs_block (w := wa.alloc (.cells (bvs M).toArray 5)) (c := 4) (m := M) (off := 0) (l := M) (heap_alloc_last wa _) (by simp) (by omega)
    rwa [lM] at this
  have D1 := Lib.hid (convB hrs)
  have hT : ∃ T, T = hdr k s.length b ++ s := ⟨_, rfl⟩
  obtain ⟨T, hT⟩ := hT
  have eT : jt ++ M ++ beN b 4 ++ s = T := by rw [hT, hM]; simp [hdr]
  have lT : T.length = 12 + s.length := by rw [hT, List.length_append, hdr_length]
  have hR : over T T.length = sealL k b s := by rw [over, List.take_length, hT]; rfl
  have HT := Lib.hid hT
  have HM := Lib.hid hM
  have ET := Lib.hid eT
  have HR := Lib.hid hR
  have lj : jt.length = 4 := rfl
  have ea : ∀ w, (binOp .add 9 (.string (str (jt ++ M ++ beN b 4))) (.string (str s))).run Try.prog w = .ok (.string (str T)) w := fun w => by rw [add_str w _ _ (by simp only [List.length_append]; omega), ET.out]
  have EA := Lib.hid ea
  clear ea
  clear hm hT hM eT hR hrs
  refine ⟨by kernel_rfl, ?_⟩; apply Exists.intro; refine ⟨fun ψ hψ hne => (by (repeat (first | ( first | (go_big_quiet_want; refine quiet_cv 38 9 _ rfl (fun w' hw' => D1.out w' (ext_in hw')) ?_; go_simp; go_big_quiet_on) | (go_big_quiet_want; refine quiet_add 9 _ (.const (.string ⟨#[106, 116, 116, 121]⟩)) _ rfl (fun w' _ => add_str w' jt M (by omega)) ?_; go_simp; go_big_quiet_on) | (go_big_quiet_want; refine quiet_add 9 _ (.tmp 32) (.tmp 34) rfl (fun w' _ => add_str w' (jt ++ M) (beN b 4) (by rw [List.length_append]; omega)) ?_; go_simp; go_big_quiet_on) | (go_big_quiet_want; refine quiet_add 9 _ (.tmp 35) (.tmp 36) rfl (fun w' _ => EA.out w') ?_; go_simp; go_big_quiet_on) ) | go_big_quiet_step ((  fail )))); exact wpQuiet_nil rfl), ?_⟩
  intro wb hb
  have X1 : Ext W wb := Ext.trans ha (Ext.trans (extAl wa _) hb)
  have b6' := Lib.hid ((Below.block X1 w.heap.size hz).trans b6.out)
  have X2 : Below w.heap.size w wb := hB.trans (X1.mono hB.size)
  have hz2 : w.heap.size < wb.heap.size := Nat.lt_of_lt_of_le hz X1.size
  clear sa ss EA ET HM ha hb X1 b6 hB hz D1
  have sT := str_size T
  have b9 := heap_alloc_last wb (.cells (bvs zB).toArray 25)
  have st0 := st_blk b9 zB_length zB_length
  rw [World.setRow_alloc_new] at st0
  have St0 := Lib.hid st0
  have X3 : Below w.heap.size w (wb.alloc (.cells (bvs zB).toArray 25)) := by (repeat' (first | (with_reducible assumption) | (with_reducible exact Below.refl _ _) | (with_reducible refine below_sc ?_ ?_) | ((with_reducible show (_ : Nat) ≤ _); omega) | refine Below.setCell ?_ (by first | omega | (simp; done) | (simp; omega)) _ | refine Below.alloc ?_ (by first | omega | (simp; done) | (simp; omega)) _ | refine Below.drew ?_ | refine below_drewN ?_ _ | refine Below.trans ?_ (Below.mono (by assumption) (by first | omega | (simp; done) | (simp; omega)))))
  have b6 := Lib.hid ((Below.heap_alloc wb (.cells (bvs zB).toArray 25) w.heap.size hz2).trans b6'.out)
  have B9 := Lib.hid b9
  clear st0 b6' X2 b9
  go_wp2_with (first | (refine wpList_bd rfl 25 rfl build_blk ?_; simp only [Act.put]) | (refine wpList_al rfl 25 rfl alloc_blk ?_; simp only [Act.put]) | (refine wpList_st rfl 25 (.tmp 9) (.tmp 38) rfl St0.out ?_; simp only [Act.put]))
  generalize wb.alloc (.cells (bvs zB).toArray 25) = V at *
  have hself := Lib.hid (setRow_self V wb.heap.size _ _ _ B9.out)
  clear St0
  go_loopw [10] (fun i wr => ∃ n : Nat, n ≤ T.length ∧ i = .int .i64 n ∧ Hid (wr = V.setRow wb.heap.size (bvs (over T n)).toArray)) (fun i _ => T.length - (intOf i).toNat)
  case atStart => exact ⟨0, Nat.zero_le _, rfl, by unfold Hid; exact hself.out.symm⟩
  case round =>
    obtain ⟨n, hn, rfl, hwr⟩ := hrel
    have hh := setRow_heap V wb.heap.size _ (bvs (over T n)).toArray _ _ B9.out
    rw [← hwr.out] at hh
    by_cases hlt : n < T.length
    · have ol := over_length hn (by omega)
      have hcell : wr.cell? ⟨wb.heap.size, n, none⟩ = some (bv ((over T n)[n]'(by omega))) := by rw [cell_of_row _ _ _ _ _ _ hh]; simpa using bvs_get (l := over T n) (i := n) (by omega)
      have hfro : wr.frozen? ⟨wb.heap.size, n, none⟩ = false := by simp [World.frozen?, hh]
      have hks : n < (str T).size := by omega
      have hget : (str T)[n] = T[n] := rfl
      clear hh
      go_wp2_with fail
      go_roundw
      case rel => exact ⟨n + 1, by omega, by go_num, by unfold Hid; rw [hwr.out]; exact over_store B9.out hlt (by omega)⟩
      case measure => simp [intOf]; omega
    · obtain rfl : n = T.length := by omega
      obtain ⟨wo, rfl⟩ : ∃ wo : World, wo = wr := ⟨_, rfl⟩
      rw [HR.out] at hh
      have ld := Lib.hid (ld_blk hh lR)
      have k6 : wo.heap[w.heap.size]? = some (.cells (bvs zB).toArray 25 (0, 0)) := by
        rw [hwr.out]; exact (setRow_other V wb.heap.size w.heap.size _ (by omega)).trans b6.out
      have st := Lib.hid (st_blk k6 zB_length lR)
      have k6' := Lib.hid (setRow_heap wo w.heap.size _ (bvs (sealL k b s)).toArray _ _ k6)
      have hBo : Below w.heap.size w wo := by rw [hwr.out]; exact below_setRow X3 (by omega) _
      have hB' := below_setRow hBo (g := w.heap.size) (Nat.le_refl _) (bvs (sealL k b s)).toArray
      clear k6 hh hwr
      go_wp2_with (first | (refine wpList_ld rfl 25 (.tmp 9) rfl ld.out ?_; simp only [Act.put]) | (refine wpList_st rfl 25 (.tmp 6) (.tmp 50) rfl st.out ?_; simp only [Act.put]))
      exact bodyPost_ret (results_cell_tmp Try.results58 _ _ _ _ _ _ _ rfl k6'.out Try.underlying25 rfl (by rw [info_blk, bvs_size, lR])) rfl ⟨rfl, hB'⟩

theorem rseal_any (k : UInt8) (b : Int) (s : List UInt8) (w : World) (hl : s.length ≤ maxLen) :
    Calls Try.prog 58 #[.int .u8 k.toNat, .int .i64 b, .string (str s)] w fun e w' => e = .returned (bkV (sealR k b s)) ∧ Below w.heap.size w w' := by
  by_cases h : (sealR k b s).2 = 0
  · unfold sealR at h ⊢
    split at h
    · rename_i h1
      split at h
      · rename_i h2
        rw [if_pos h1, if_pos h2]
        exact rseal_yes k b s w h1.1 h1.2 h2
      · simp at h
    · simp at h
  · exact rseal_no k b s w h hl
end Go.Proofs.Ytobcfocbglkicaa
