/- Arguments: Read. -/
import Derived.Test.YteahlnoonmfjhaaAgI
import Derived.Laws.ResultCell
set_option linter.unusedVariables false
set_option maxRecDepth 100000
namespace Go.Proofs.Yteahlnoonmfjhaa
open Go.RowKit

def gtAll : List UInt8 → St → AgT → Option (St × AgT)
  | [], s, a => some (s, a)
  | c :: l, s, a => if (gtA c s false a).2.1 = false ∧ (gtA c s false a).1.isSome = true then gtAll l (gtA c s false a).1 (gtA c s false a).2.2 else none
def endA (x : Option (St × AgT)) : AgT × Int := match x with
  | none => (ag0, 4)
  | some y => if doneB y.1 = true then (y.2, 0) else (ag0, 4)
/-- The arguments of words, and the error. -/
def aR (p : Int) (s : List UInt8) : AgT × Int := match askedL p with
  | none => (ag0, 62)
  | some l => endA (gtAll l (some s) ag0)
theorem results_ct {P : Program} {fn : Func} {p u : Tmp} {ty : TypeId} (h : fn.results = #[.cell p ty, .tmp u]) (tmps : Array Value) (w : World) (g : Nat) (t : TypeId) (cs : Array Value) (fr : Nat × Nat) (d : TypeDesc)
    (hp : tmps.getD p undef = .pointer (some ⟨g, 0, none⟩)) (hg : w.heap[g]? = some (.cells cs t fr)) (hu : P.underlying ty = some d) (hd : (match d with | .struct _ | .array _ _ => true | _ => false) = true) (hi : (P.info? ty).map (·.size) = some cs.size) :
    (results fn tmps).run P w = .ok (.tuple #[.agg cs, tmps.getD u undef]) w := by
  rw [results_cell_tmp h, hp]
  simp [asAddr, run_loadVar_row w g t ty cs fr d hg hu hd hi, Result.andThen]
theorem argGetter_any (w : World) (gf ga : Nat) : Calls Try.prog 73 #[.pointer (some ⟨gf, 0, none⟩), .pointer (some ⟨ga, 0, none⟩)] w fun e w' => e = .returned (.func (.func 123) #[] #[.pointer (some ⟨w.heap.size, 0, none⟩), .pointer (some ⟨w.heap.size + 1, 0, none⟩)]) ∧
    w' = (w.alloc (.cells #[.pointer (some ⟨gf, 0, none⟩)] 193)).alloc (.cells #[.pointer (some ⟨ga, 0, none⟩)] 136) := by
  go_enter Try.func73, Try.ntmps73
  go_wp2
  go_ret
  exact ⟨rfl, rfl⟩
theorem conv_str (w : World) (l : List UInt8) : ∃ v' w', (convert 9 47 (.string (str l))).run Try.prog w = .ok v' w' ∧ RS w' v' l ∧ Ext w w' := by
  refine ⟨_, _, bytes_of w l Try.underlying9 Try.underlying47 Try.underlying5, ?_, (Below.refl _ w).drew.alloc (Nat.le_refl _) _⟩
  exact rs_block (m := l ++ List.replicate (grownCap w l.length 0 5 - l.length) 0) (off := 0) (heap_alloc_last w.drew _) (by simp) (grownCap_ge w l.length 0 5)
theorem storeAg {w : World} {g : Nat} {a b : AgT} (h : w.heap[g]? = some (.cells (agC b).toArray 35 (0, 0))) : (Instr.storeAt 35 (.pointer (some ⟨g, 0, none⟩)) (.agg (agC a).toArray)).run Try.prog w = .ok () (w.setRow g (agC a).toArray) :=
  storeAt_row (P := Try.prog) h (by kernel_rfl) rfl (by simp [agC, Value.oneCell'])
theorem storeAgZ {w : World} {g : Nat} {b : AgT} (h : w.heap[g]? = some (.cells (agC b).toArray 35 (0, 0))) : (Instr.storeAt 35 (.pointer (some ⟨g, 0, none⟩)) (.agg #[.int .i64 0, .int .i64 0, .int .i64 0, .int .i64 0, .int .i64 0, .int .i64 0, .string ⟨#[]⟩, .string ⟨#[]⟩, .string ⟨#[]⟩, .int .i64 0, .int .i64 0, .int .i64 0, .int .i64 0, .int .i64 0, .int .i64 0, .int .u64 0])).run Try.prog w = .ok () (w.setRow g (agC ag0).toArray) := storeAg (a := ag0) h
theorem gtA_len (c : UInt8) (s : St) (b : Bool) (a : AgT) : (gtA c s b a).1.l.length ≤ s.l.length := by
  have h1 := rdX_len s 24
  have h2 := rdT_len s 255
  have h3 := rdT_len s 2048
  have h4 := rdL_len s
  unfold gtA
  by_cases e1 : c = 72
  · rw [if_pos e1]; exact h1
  rw [if_neg e1]
  by_cases e2 : c = 84
  · rw [if_pos e2]; exact h1
  rw [if_neg e2]
  by_cases e3 : c = 110
  · rw [if_pos e3]; exact h2
  rw [if_neg e3]
  by_cases e4 : c = 111
  · rw [if_pos e4]; exact h2
  rw [if_neg e4]
  by_cases e5 : c = 120
  · rw [if_pos e5]; exact h3
  rw [if_neg e5]
  by_cases e6 : c = 112
  · rw [if_pos e6]; exact h4
  rw [if_neg e6]
  by_cases e7 : c = 78
  · rw [if_pos e7]; exact h4
  rw [if_neg e7]
  by_cases e8 : c = 109
  · rw [if_pos e8]; exact h4
  rw [if_neg e8]
  by_cases e9 : c = 115
  · rw [if_pos e9]; exact h4
  rw [if_neg e9]
  by_cases e10 : c = 98
  · rw [if_pos e10]; exact h4
  rw [if_neg e10]
  by_cases e11 : c = 103
  · rw [if_pos e11]; exact h4
  rw [if_neg e11]
  by_cases e12 : c = 118
  · rw [if_pos e12]; exact h4
  rw [if_neg e12]
  exact Nat.le_refl _
set_option maxHeartbeats 8000000 in
theorem aRead_any (p : Int) (s : List UInt8) (w : World) (hp : I64 p) (hs : s.length ≤ 20000) :
    Calls Try.prog 28 #[.int .i64 p, .string (str s)] w fun e w' => e = .returned (.tuple #[.agg (agC (aR p s).1).toArray, .int .i64 (aR p s).2]) ∧ Below w.heap.size w w' := by
  have KA := Lib.hid (fun w : World => asked_any w)
  have hpw : (Lit.int .i64 p).wf = true := by
    obtain ⟨h1, h2⟩ := hp
    simp [Lit.wf, IntKind.min, IntKind.max, IntKind.signed, IntKind.bits]
    omega
  have HP := Lib.hid hpw
  obtain ⟨R, hR⟩ : ∃ R, aR p s = R := ⟨_, rfl⟩
  rw [hR]
  have HR := Lib.hid hR
  have h4 : (w.alloc (.cells (agC ag0).toArray 35)).heap[w.heap.size]? = some (.cells (agC ag0).toArray 35 (0, 0)) := heap_alloc_last w _
  have hx4 := extAl w (.cells (agC ag0).toArray 35)
  have hw4 : w.alloc (.cells (agC ag0).toArray 35) = w.alloc (.cells #[.int .i64 0, .int .i64 0, .int .i64 0, .int .i64 0, .int .i64 0, .int .i64 0, .string ⟨#[]⟩, .string ⟨#[]⟩, .string ⟨#[]⟩, .int .i64 0, .int .i64 0, .int .i64 0, .int .i64 0, .int .i64 0, .int .i64 0, .int .u64 0] 35) := rfl
  have H4 := Lib.hid h4
  have HX4 := Lib.hid hx4
  have HW4 := Lib.hid hw4
  clear hp hpw hR h4 hx4 hw4
  go_enter Try.func28, Try.ntmps28
  go_wp2_with fail
  rw [← HW4.out]
  clear HW4
  generalize w.alloc (.cells (agC ag0).toArray 35) = W1 at *
  obtain ⟨g4, hg4⟩ : ∃ g4, w.heap.size = g4 := ⟨_, rfl⟩
  have HG4 := Lib.hid hg4
  rw [hg4] at H4 ⊢
  clear hg4
  refine (KA.out W1).mono ?_
  rintro e w2 ⟨g, rfl, hm⟩
  obtain ⟨v, hl, hv, hfr⟩ := hm.look HP.out
  have hx2 : Ext w w2 := Ext.trans HX4.out (Below.mono hm.bel (Nat.le_refl _))
  have h42 := Ext.blk (w' := w2) hm.bel H4.out
  have HX2 := Lib.hid hx2
  have H42 := Lib.hid h42
  clear hx2 h42 hm hfr H4 HX4 KA
  cases hL : askedL p with
  | none =>
    rw [hL] at hl hv
    have hR0 : R = (ag0, 62) := by rw [← HR.out]; unfold aR; rw [hL]
    subst hR0
    have HS := Lib.hid (storeAgZ H42.out)
    have HF := Lib.hid (setRow_heap w2 g4 _ (agC ag0).toArray _ _ H42.out)
    have HB : Hid (Below w.heap.size w (w2.setRow g4 (agC ag0).toArray)) := Lib.hid (below_setRow HX2.out (by rw [HG4.out]; exact Nat.le_refl _) _)
    clear HR HX2 H42
    go_wp2_with (refine wpList_st rfl 35 (.tmp 4) (.tmp 21) rfl HS.out ?_; simp only [Act.put])
    (try simp only [Exit.inBlock, Exit.then])
    exact bodyPost_ret (results_ct Try.results28 _ _ _ _ _ _ _ rfl HF.out Try.underlying35 rfl (by kernel_rfl)) rfl ⟨rfl, HB.out⟩
  | some l =>
    rw [hL] at hl hv
    obtain ⟨hlm, hl4⟩ := askedL_mem hL
    have HLM := Lib.hid hlm
    simp only [Option.isSome, Option.getD] at hl hv
    obtain ⟨A, c, rfl⟩ := hv.form
    have HV := Lib.hid hv
    have HE : Hid (endA (gtAll l (some s) ag0) = R) := Lib.hid (by rw [← HR.out]; unfold aR; rw [hL])
    clear hlm hv HR hL HP
    -- the arguments' variable
    have h8 := heap_alloc_last w2 (.cells (agC ag0).toArray 35)
    have hx8 := extAl w2 (.cells (agC ag0).toArray 35)
    have hw8 : w2.alloc (.cells (agC ag0).toArray 35) = w2.alloc (.cells #[.int .i64 0, .int .i64 0, .int .i64 0, .int .i64 0, .int .i64 0, .int .i64 0, .string ⟨#[]⟩, .string ⟨#[]⟩, .string ⟨#[]⟩, .int .i64 0, .int .i64 0, .int .i64 0, .int .i64 0, .int .i64 0, .int .i64 0, .int .u64 0] 35) := rfl
    have HA8 := Lib.hid h8
    have H48 := Lib.hid (Ext.blk hx8 H42.out)
    have HV8 := Lib.hid (HV.out.ext hx8)
    have HX8 := Lib.hid (Ext.trans HX2.out hx8)
    have hsz : w.heap.size < w2.heap.size := by have := heap_lt H42.out; rw [HG4.out]; exact this
    have HSZ := Lib.hid hsz
    have hlb : ∀ b off n c1, Value.slice A l.length c = .slice (some ⟨b, off, none⟩) n c1 → b < w2.heap.size := fun b off n c1 e => by
      rcases HV.out with ⟨e2, _⟩ | ⟨b', off', c', e2, hb, _⟩
      · rw [e2] at e; cases e
      · rw [e2] at e; cases e; exact hb
    have HLB := Lib.hid hlb
    have HW8 := Lib.hid hw8
    clear h8 hx8 hw8 hlb hsz HV HX2 H42
    go_upto_region 5 with fail
    rw [← HW8.out]
    clear HW8 hl
    generalize w2.alloc (.cells (agC ag0).toArray 35) = W3 at *
    obtain ⟨ga, hga⟩ : ∃ ga, w2.heap.size = ga := ⟨_, rfl⟩
    rw [hga] at HA8 HLB HSZ ⊢
    have hga3 : ga < W3.heap.size := heap_lt HA8.out
    clear hga
    obtain ⟨cv, W4, hcv, hrs4, hx4⟩ := conv_str W3 s
    have KN := Lib.hid (newReader_any cv s W4 hrs4 (by omega))
    obtain ⟨A4, c4, rfl⟩ := hrs4.form
    have HX4 := Lib.hid hx4
    clear hrs4 hx4
    go_wp2_with fail
    refine KN.out.mono ?_
    rintro e W5 ⟨gr, rfl, r5, hgr, k5⟩
    have H45 := Ext.blk (Ext.trans HX4.out k5) H48.out
    have HA5 := Ext.blk (Ext.trans HX4.out k5) HA8.out
    have HV5 := HV8.out.ext (Ext.trans HX4.out k5)
    have HX5 := Ext.trans HX8.out (Ext.trans HX4.out k5)
    have hgr3 : W3.heap.size ≤ gr := Nat.le_trans (Below.size HX4.out) hgr
    have hgr5 := r5.lt
    have hx6 := extAl W5 (.cells #[.pointer (some ⟨gr, 0, none⟩), .bool false] 145)
    have hf6 := heap_alloc_last W5 (.cells #[.pointer (some ⟨gr, 0, none⟩), .bool false] 145)
    have H46 := Lib.hid (Ext.blk hx6 H45)
    have HA6 := Lib.hid (Ext.blk hx6 HA5)
    have HV6 := Lib.hid (HV5.ext hx6)
    have HX6 := Lib.hid (Ext.trans HX5 hx6)
    have HR6 := Lib.hid (r5.ext hx6)
    have HF6 := Lib.hid hf6
    have h45l := heap_lt H45
    have HN : Hid (g4 < ga ∧ ga < gr ∧ gr < W5.heap.size ∧ w.heap.size ≤ g4) := Lib.hid (by have := HSZ.out; have := HG4.out; omega)
    clear H45 HA5 HV5 HX5 hx6 hf6 r5 k5 hgr KN HV8 HA8 H48 HX8 HX4 hgr3 hgr5 h45l hga3 HSZ HG4
    go_upto_region 6 with fail
    generalize W5.alloc (.cells #[.pointer (some ⟨gr, 0, none⟩), .bool false] 145) = W6 at *
    obtain ⟨gf, hgf⟩ : ∃ gf, W5.heap.size = gf := ⟨_, rfl⟩
    rw [hgf] at HN HF6 ⊢
    clear hgf hcv
    have hfl := heap_lt HF6.out
    go_wp2_with fail
    refine (argGetter_any W6 gf ga).mono ?_
    rintro e W8 ⟨rfl, hW8⟩
    have hx7 := extAl W6 (.cells #[.pointer (some ⟨gf, 0, none⟩)] 193)
    have hx8 := extAl (W6.alloc (.cells #[.pointer (some ⟨gf, 0, none⟩)] 193)) (.cells #[.pointer (some ⟨ga, 0, none⟩)] 136)
    have hb2 := Ext.blk hx8 (heap_alloc_last W6 (.cells #[.pointer (some ⟨gf, 0, none⟩)] 193))
    have hb3 := heap_alloc_last (W6.alloc (.cells #[.pointer (some ⟨gf, 0, none⟩)] 193)) (.cells #[.pointer (some ⟨ga, 0, none⟩)] 136)
    have hx := Ext.trans hx7 hx8
    simp only [World.size_alloc] at hb3
    rw [← hW8] at hx hb2 hb3
    clear hx7 hx8 hW8
    have HW : Hid (RdS W8 W8 gr gf ga W6.heap.size (W6.heap.size + 1) 35 136 (some s) false (agC ag0).toArray) := Lib.hid
      { rd := HR6.out.ext hx, hf := Ext.blk hx HF6.out, ha := Ext.blk hx HA6.out, h2 := hb2, h3 := hb3, ne := (by have := HN.out; omega), mu := Mut.of_ext (Ext.refl _) }
    have H48 := Lib.hid (Ext.blk hx H46.out)
    have HV8 := Lib.hid (HV6.out.ext hx)
    have HX8 := Lib.hid (Ext.trans HX6.out hx)
    have HN8 : Hid (g4 ≠ gr ∧ g4 ≠ gf ∧ g4 ≠ ga ∧ w.heap.size ≤ gr ∧ w.heap.size ≤ gf ∧ w.heap.size ≤ ga ∧ w.heap.size ≤ g4 ∧ ga < gr ∧ gr < gf) := Lib.hid (by have := HN.out; omega)
    obtain ⟨b2, hbb2⟩ : ∃ b2, W6.heap.size = b2 := ⟨_, rfl⟩
    rw [hbb2] at HW ⊢
    obtain ⟨b3, hbb3⟩ : ∃ b3, b2 + 1 = b3 := ⟨_, rfl⟩
    rw [hbb3] at HW ⊢
    clear hx hb2 hb3 H46 HV6 HX6 HR6 HF6 HA6 HN hfl hbb2 hbb3
    go_upto_region 8 with fail
    go_loopw [12, 29] (fun cv iv wr => ∃ (k : Nat) (st : St) (a' : AgT), k ≤ l.length ∧ iv = .int .i64 k ∧ Hid (RdS W8 wr gr gf ga b2 b3 35 136 st false (agC a').toArray) ∧ Hid (endA (gtAll (l.drop k) st a') = R) ∧ Hid (st.l.length ≤ 20000)) (fun _ iv _ => l.length - (intOf iv).toNat)
    case atStart => exact ⟨0, some s, ag0, Nat.zero_le _, rfl, HW, HE, Lib.hid hs⟩
    case round =>
      obtain ⟨k, st, a', hk, rfl, HRS, HF, HO⟩ := hrel
      clear HW HE
      by_cases hkl : k < l.length
      · obtain ⟨x, hx⟩ : ∃ x, l[k]? = some x := ⟨_, List.getElem?_eq_getElem hkl⟩
        have hrs := HV8.out.mutF HRS.out.mu (fun b off n c e => by
          have h2 := HLB.out b off n c e
          have h3 := HN8.out
          omega)
        obtain ⟨b, off, rfl, hb, hc, cell⟩ := hrs.letter hx
        have hxm := HLM.out x (List.mem_of_getElem? hx)
        have hdr : l.drop k = x :: l.drop (k + 1) := by
          rw [List.drop_eq_getElem_cons hkl]
          congr 1
          exact (List.getElem?_eq_some_iff.1 hx).2
        have hF := HF.out
        rw [hdr] at hF
        have K := Lib.hid (getA_any x hxm wr HRS.out (by have := HO.out; omega))
        obtain ⟨xn, hxn⟩ : ∃ xn : Int, (x.toNat : Int) = xn := ⟨_, rfl⟩
        rw [hxn] at cell K
        have hlen := gtA_len x st false a'
        clear hrs hdr hx hxn
        go_upto_region 10 with fail
        clear cell hb hc
        go_wp2_with fail
        refine K.out.mono ?_
        rintro e w4 ⟨rfl, h4⟩
        clear K HRS
        obtain ⟨X, hX⟩ : ∃ X, gtA x st false a' = X := ⟨_, rfl⟩
        rw [hX] at h4 hlen
        have H4 := Lib.hid h4
        have KW := Lib.hid (fWell_any w4 h4)
        by_cases hg : X.2.1 = false ∧ X.1.isSome = true
        · have HF2 : Hid (endA (gtAll (l.drop (k + 1)) X.1 X.2.2) = R) := Lib.hid (by rw [← hF]; conv => rhs; unfold gtAll; rw [hX, if_pos hg])
          have hwl : (!X.2.1 && X.1.isSome) = true := by rw [hg.1, hg.2]; rfl
          rw [hwl] at KW
          have h5 := H4.out
          rw [hg.1] at h5
          have H5 := Lib.hid h5
          have HO2 := Lib.hid (Nat.le_trans hlen HO.out)
          clear hF HF h4 H4 h5 hX hg hwl hlen
          go_wp2_with fail
          refine KW.out.mono ?_
          rintro e w5 ⟨rfl, rfl⟩
          go_wp2_with fail
          go_roundw
          case rel => exact ⟨k + 1, X.1, X.2.2, by omega, by go_num, H5, HF2, HO2⟩
          case measure => simp only [intOf]; omega
        · have hR0 : R = (ag0, 4) := by rw [← hF]; unfold gtAll; rw [hX, if_neg hg]; rfl
          have hwl : (!X.2.1 && X.1.isSome) = false := by
            cases h1 : X.2.1 <;> cases h2 : X.1.isSome <;> simp_all
          rw [hwl] at KW
          have hg44 := (h4.mu.block g4 (heap_lt H48.out) (by have := HN8.out; show ¬ (g4 = gr ∨ g4 = gf ∨ g4 = ga); omega)).trans H48.out
          have HS := Lib.hid (storeAgZ hg44)
          have HFI := Lib.hid (setRow_heap w4 g4 _ (agC ag0).toArray _ _ hg44)
          have HB : Hid (Below w.heap.size w (w4.setRow g4 (agC ag0).toArray)) := Lib.hid (below_setRow (Below.trans HX8.out (h4.mu.below (B := w.heap.size) (fun i hi => by have := HN8.out; omega) (Below.size HX8.out))) (by have := HN8.out; omega) _)
          subst hR0
          clear hF HF h4 H4 hX hg hwl hlen hg44
          go_wp2_with fail
          refine KW.out.mono ?_
          rintro e w5 ⟨rfl, rfl⟩
          go_wp2_with (refine wpList_st rfl 35 (.tmp 4) (.tmp 38) rfl HS.out ?_; simp only [Act.put])
          (try simp only [Exit.inBlock, Exit.then])
          exact bodyPost_ret (results_ct Try.results28 _ _ _ _ _ _ _ rfl HFI.out Try.underlying35 rfl (by kernel_rfl)) rfl ⟨rfl, HB.out⟩
      · obtain rfl : k = l.length := by omega
        have hF := HF.out
        rw [List.drop_length] at hF
        have hF : (if doneB st = true then (a', (0 : Int)) else (ag0, 4)) = R := hF
        obtain ⟨c0, -, -, -, gl⟩ := blk2 HRS.out.hf
        have KD := Lib.hid (done_any gr st wr HRS.out.rd)
        have hg44 := (HRS.out.mu.block g4 (heap_lt H48.out) (by have := HN8.out; show ¬ (g4 = gr ∨ g4 = gf ∨ g4 = ga); omega)).trans H48.out
        have hB := Below.trans HX8.out (HRS.out.mu.below (B := w.heap.size) (fun i hi => by have := HN8.out; omega) (Below.size HX8.out))
        have hle : w.heap.size ≤ g4 := by have := HN8.out; omega
        by_cases hd : doneB st = true
        · rw [if_pos hd] at hF
          rw [hd] at KD
          have HL := Lib.hid (ldAg HRS.out.ha)
          have HS := Lib.hid (storeAg (a := a') hg44)
          have HFI := Lib.hid (setRow_heap wr g4 _ (agC a').toArray _ _ hg44)
          have HB := Lib.hid (below_setRow hB hle (agC a').toArray)
          subst hF
          clear HF HRS hd hg44 hB hle
          go_wp2_with fail
          refine KD.out.mono ?_
          rintro e w5 ⟨rfl, rfl⟩
          go_wp2_with (first | (refine wpList_ld rfl 35 (.tmp 8) rfl HL.out ?_; simp only [Act.put]) | (refine wpList_st rfl 35 (.tmp 4) (.tmp 45) rfl HS.out ?_; simp only [Act.put]))
          (try simp only [Exit.inBlock, Exit.then])
          exact bodyPost_ret (results_ct Try.results28 _ _ _ _ _ _ _ rfl HFI.out Try.underlying35 rfl (by kernel_rfl)) rfl ⟨rfl, HB.out⟩
        · rw [if_neg hd] at hF
          have hd0 : doneB st = false := by simpa using hd
          rw [hd0] at KD
          have HS := Lib.hid (storeAgZ hg44)
          have HFI := Lib.hid (setRow_heap wr g4 _ (agC ag0).toArray _ _ hg44)
          have HB := Lib.hid (below_setRow hB hle (agC ag0).toArray)
          subst hF
          clear HF HRS hd hd0 hg44 hB hle
          go_wp2_with fail
          refine KD.out.mono ?_
          rintro e w5 ⟨rfl, rfl⟩
          go_wp2_with (refine wpList_st rfl 35 (.tmp 4) (.tmp 44) rfl HS.out ?_; simp only [Act.put])
          (try simp only [Exit.inBlock, Exit.then])
          exact bodyPost_ret (results_ct Try.results28 _ _ _ _ _ _ _ rfl HFI.out Try.underlying35 rfl (by kernel_rfl)) rfl ⟨rfl, HB.out⟩
end Go.Proofs.Yteahlnoonmfjhaa
