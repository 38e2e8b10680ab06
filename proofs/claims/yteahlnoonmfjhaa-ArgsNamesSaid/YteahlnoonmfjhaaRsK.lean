/- Results: Hear. -/
import Derived.Test.YteahlnoonmfjhaaRsJ
import Derived.Test.YteahlnoonmfjhaaRsF
import Derived.Laws.ResultCell
set_option linter.unusedVariables false
set_option maxRecDepth 100000
namespace Go.Proofs.Yteahlnoonmfjhaa
open Go.RowKit

def gtRAll : List UInt8 → St → RsT → Option (St × RsT)
  | [], s, x => some (s, x)
  | c :: l, s, x => if (gtR c s false x).2.1 = false ∧ (gtR c s false x).1.isSome = true then gtRAll l (gtR c s false x).1 (gtR c s false x).2.2 else none
def endH (y : Option (St × RsT)) : RsT × Int := match y with
  | none => (rs0, 4)
  | some y => if doneB y.1 = true then (y.2, 0) else (rs0, 4)
/-- The result of words, and the error. -/
def aH (p : Int) (s : List UInt8) : RsT × Int := match toldL p with
  | none => (rs0, 62)
  | some l => if (rdW (some s)).2 = none ∨ 63 < (rdW (some s)).1 then (rs0, 4) else endH (gtRAll (if (rdW (some s)).1 = 0 then l else []) (rdW (some s)).2 { rs0 with e := (rdW (some s)).1 })
theorem told_last {p : Int} {l : List UInt8} (h : toldL p = some l) : ∀ k, l[k]? = some 65 → k + 1 = l.length := by
  have key : ∀ i : Nat, i < 19 → ∀ l, toldL (i : Int) = some l → l.length ≤ 3 ∧ (l[0]? = some 65 → 1 = l.length) ∧ (l[1]? = some 65 → 2 = l.length) ∧ (l[2]? = some 65 → 3 = l.length) := by
    intro i hi l hl
    have : i = 0 ∨ i = 1 ∨ i = 2 ∨ i = 3 ∨ i = 4 ∨ i = 5 ∨ i = 6 ∨ i = 7 ∨ i = 8 ∨ i = 9 ∨ i = 10 ∨ i = 11 ∨ i = 12 ∨ i = 13 ∨ i = 14 ∨ i = 15 ∨ i = 16 ∨ i = 17 ∨ i = 18 := by omega
    rcases this with rfl | rfl | rfl | rfl | rfl | rfl | rfl | rfl | rfl | rfl | rfl | rfl | rfl | rfl | rfl | rfl | rfl | rfl | rfl <;> (cases hl; decide)
  by_cases hp : 0 ≤ p ∧ p < 19
  · obtain ⟨i, rfl⟩ : ∃ i : Nat, p = i := ⟨p.toNat, by omega⟩
    obtain ⟨h0, h1, h2, h3⟩ := key i (by omega) l h
    intro k hk
    have hkl := (List.getElem?_eq_some_iff.1 hk).1
    match k, hk with
    | 0, hk => exact h1 hk
    | 1, hk => exact h2 hk
    | 2, hk => exact h3 hk
    | k + 3, _ => omega
  · exfalso
    have : toldL p = none := by
      unfold toldL
      repeat (rw [if_neg (by omega)])
    rw [this] at h
    cases h
theorem doneB_same {s s' : St} (h : SameH s s') : doneB s' = doneB s := by
  obtain ⟨h1, h2⟩ := h
  cases s with
  | none => cases s' with
    | none => rfl
    | some l => simp at h1
  | some l => cases s' with
    | none => simp at h1
    | some l' =>
      have h2 : l'.length = l.length := h2
      cases l with
      | nil => cases l' with
        | nil => rfl
        | cons a l' => simp at h2
      | cons a l => cases l' with
        | nil => simp at h2
        | cons b l' => rfl
theorem gtR_ents {c : UInt8} (hc : c ≠ 69) (s : St) (b : Bool) (x : RsT) : (gtR c s b x).2.2.ents = x.ents := by
  unfold gtR
  repeat' split
  all_goals first
    | rfl
    | (exfalso; apply hc; assumption)
theorem ats_len (s : St) : ∀ k, (ats s k).l.length ≤ s.l.length
  | 0 => Nat.le_refl _
  | k + 1 => Nat.le_trans (rdL_len _) (ats_len s k)
theorem gtR_len (c : UInt8) (s : St) (b : Bool) (x : RsT) : (gtR c s b x).1.l.length ≤ s.l.length := by
  have h1 := rdX_len s 24
  have h3 := rdT_len s 2048
  have h4 := rdL_len s
  have h5 := rdF_len s
  have h6 : (rdAt s).1.l.length ≤ s.l.length := by
    unfold rdAt
    split
    · exact Nat.le_trans (ats_len _ 7) (rdW_len s)
    · exact rdW_len s
  have h7 : (rdE s).2.l.length ≤ s.l.length := Nat.le_trans (rdEn_len _ _) (rdC_len _ _)
  unfold gtR
  repeat' split
  all_goals first
    | exact h1
    | exact h3
    | exact h4
    | exact h5
    | exact h6
    | exact h7
    | exact Nat.le_refl _
theorem fWell2 {gr gf : Nat} {st : St} {bad : Bool} (w : World) (hr : Rd 192 w gr st) (hf : w.heap[gf]? = some (.cells #[.pointer (some ⟨gr, 0, none⟩), .bool bad] 145 (0, 0))) :
    Calls Try.prog 74 #[.pointer (some ⟨gf, 0, none⟩)] w fun e w' => e = .returned (.bool (!bad && st.isSome)) ∧ w' = w := by
  obtain ⟨c0, c1, f0, f1, gl⟩ := blk2 hf
  have K := Lib.hid (ok_any gr st w hr)
  clear hr hf
  obtain ⟨ok, hok⟩ : ∃ ok, st.isSome = ok := ⟨_, rfl⟩
  rw [hok] at K ⊢
  clear hok
  cases bad with
  | true =>
    go_enter Try.func74, Try.ntmps74
    go_wp2_with fail
    go_ret
    exact ⟨rfl, rfl⟩
  | false =>
    go_enter Try.func74, Try.ntmps74
    go_wp2_with fail
    refine K.out.mono ?_
    rintro e w1 ⟨rfl, rfl⟩
    go_wp2_with fail
    go_ret
    exact ⟨rfl, rfl⟩
theorem resultGetter_any (w : World) (gf ga : Nat) : Calls Try.prog 95 #[.pointer (some ⟨gf, 0, none⟩), .pointer (some ⟨ga, 0, none⟩)] w fun e w' => e = .returned (.func (.func 136) #[] #[.pointer (some ⟨w.heap.size, 0, none⟩), .pointer (some ⟨w.heap.size + 1, 0, none⟩)]) ∧
    w' = (w.alloc (.cells #[.pointer (some ⟨gf, 0, none⟩)] 193)).alloc (.cells #[.pointer (some ⟨ga, 0, none⟩)] 155) := by
  go_enter Try.func95, Try.ntmps95
  go_wp2
  go_ret
  exact ⟨rfl, rfl⟩
theorem storeRs {w : World} {g : Nat} {x y : RsT} {v : Value} {A : Option Addr} {n c : Nat} (h : w.heap[g]? = some (.cells (rsC x v).toArray 41 (0, 0))) : (Instr.storeAt 41 (.pointer (some ⟨g, 0, none⟩)) (.agg (rsC y (.slice A n c)).toArray)).run Try.prog w = .ok () (w.setRow g (rsC y (.slice A n c)).toArray) :=
  storeAt_row (P := Try.prog) h (by kernel_rfl) rfl (by simp [rsC, Value.oneCell'])
theorem storeRsZ {w : World} {g : Nat} {x : RsT} {v : Value} (h : w.heap[g]? = some (.cells (rsC x v).toArray 41 (0, 0))) : (Instr.storeAt 41 (.pointer (some ⟨g, 0, none⟩)) (.agg #[.int .i64 0, .int .i64 0, .int .i64 0, .int .i64 0, .int .u8 0, .int .i64 0, .int .i64 0, .int .i64 0, .int .i64 0, .int .i64 0, .int .i64 0, .int .i64 0, .string ⟨#[]⟩, .int .i64 0, .int .i64 0, .int .u64 0, .bool false, .slice none 0 0, .int .u64 0])).run Try.prog w = .ok () (w.setRow g (rsC rs0 (.slice none 0 0)).toArray) := storeRs (y := rs0) h
theorem new_rs (w : World) (x : RsT) : (Instr.storeAt 41 (.pointer (some ⟨w.heap.size, 0, none⟩)) (.agg (rsC x (.slice none 0 0)).toArray)).run Try.prog (w.alloc (.cells (rsC rs0 (.slice none 0 0)).toArray 41)) = .ok () (w.alloc (.cells (rsC x (.slice none 0 0)).toArray 41)) := by
  have h : (w.alloc (.cells (rsC rs0 (.slice none 0 0)).toArray 41)).heap[w.heap.size]? = some (.cells (rsC rs0 (.slice none 0 0)).toArray 41 (0, 0)) := heap_alloc_last w _
  have := storeRs (y := x) (A := none) (n := 0) (c := 0) h
  rw [World.setRow_alloc_new] at this
  exact this
theorem new_rsE (w : World) (kw : Int) : (Instr.storeAt 41 (.pointer (some ⟨w.heap.size, 0, none⟩)) (.agg #[.int .i64 kw, .int .i64 0, .int .i64 0, .int .i64 0, .int .u8 0, .int .i64 0, .int .i64 0, .int .i64 0, .int .i64 0, .int .i64 0, .int .i64 0, .int .i64 0, .string ⟨#[]⟩, .int .i64 0, .int .i64 0, .int .u64 0, .bool false, .slice none 0 0, .int .u64 0])).run Try.prog (w.alloc (.cells #[.int .i64 0, .int .i64 0, .int .i64 0, .int .i64 0, .int .u8 0, .int .i64 0, .int .i64 0, .int .i64 0, .int .i64 0, .int .i64 0, .int .i64 0, .int .i64 0, .string ⟨#[]⟩, .int .i64 0, .int .i64 0, .int .u64 0, .bool false, .slice none 0 0, .int .u64 0] 41)) = .ok () (w.alloc (.cells (rsC { rs0 with e := kw } (.slice none 0 0)).toArray 41)) := new_rs w { rs0 with e := kw }
/-- What Hear comes to. -/
def HearP (w : World) (R : RsT × Int) (e : Ending) (w' : World) : Prop :=
  ∃ rv, e = .returned (.tuple #[.agg (rsC R.1 rv).toArray, .int .i64 R.2]) ∧ EnO w' w.heap.size rv R.1.ents ∧ Below w.heap.size w w'
set_option maxHeartbeats 8000000 in
theorem aHear_any (p : Int) (s : List UInt8) (w : World) (hp : I64 p) (hs : s.length ≤ 20000) :
    Calls Try.prog 35 #[.int .i64 p, .string (str s)] w (HearP w (aH p s)) := by
  have KA := Lib.hid (fun w : World => told_any w)
  have hpw : (Lit.int .i64 p).wf = true := by
    obtain ⟨h1, h2⟩ := hp
    simp [Lit.wf, IntKind.min, IntKind.max, IntKind.signed, IntKind.bits]
    omega
  have HP := Lib.hid hpw
  obtain ⟨R, hR⟩ : ∃ R, aH p s = R := ⟨_, rfl⟩
  rw [hR]
  have HR := Lib.hid hR
  have h4 : (w.alloc (.cells (rsC rs0 (.slice none 0 0)).toArray 41)).heap[w.heap.size]? = some (.cells (rsC rs0 (.slice none 0 0)).toArray 41 (0, 0)) := heap_alloc_last w _
  have hx4 := extAl w (.cells (rsC rs0 (.slice none 0 0)).toArray 41)
  have hw4 : w.alloc (.cells (rsC rs0 (.slice none 0 0)).toArray 41) = w.alloc (.cells #[.int .i64 0, .int .i64 0, .int .i64 0, .int .i64 0, .int .u8 0, .int .i64 0, .int .i64 0, .int .i64 0, .int .i64 0, .int .i64 0, .int .i64 0, .int .i64 0, .string ⟨#[]⟩, .int .i64 0, .int .i64 0, .int .u64 0, .bool false, .slice none 0 0, .int .u64 0] 41) := rfl
  have H4 := Lib.hid h4
  have HX4 := Lib.hid hx4
  have HW4 := Lib.hid hw4
  clear hp hpw hR h4 hx4 hw4
  go_enter Try.func35, Try.ntmps35
  go_wp2_with fail
  rw [← HW4.out]
  clear HW4
  generalize w.alloc (.cells (rsC rs0 (.slice none 0 0)).toArray 41) = W1 at *
  obtain ⟨g4, hg4⟩ : ∃ g4, w.heap.size = g4 := ⟨_, rfl⟩
  have HG4 := Lib.hid hg4
  rw [hg4] at H4 ⊢
  clear hg4
  refine (KA.out W1).mono ?_
  rintro e w2 ⟨g, rfl, hm⟩
  obtain ⟨v, hl, hv, hfr⟩ := hm.look HP.out
  have hx2 : Ext w w2 := Ext.trans HX4.out (Below.mono hm.bel (Nat.le_refl _))
  have h42 := Ext.blk (w' := w2) hm.bel H4.out
  have HX2 := Lib.hid hx2
  have H42 := Lib.hid h42
  clear hx2 h42 hm hfr H4 HX4 KA
  cases hL : toldL p with
  | none =>
    rw [hL] at hl hv
    have hR0 : R = (rs0, 62) := by rw [← HR.out]; unfold aH; rw [hL]
    subst hR0
    have HS := Lib.hid (storeRsZ (H42.out))
    have HFI := Lib.hid (setRow_heap w2 g4 _ (rsC rs0 (.slice none 0 0)).toArray _ _ (H42.out))
    have HB : Hid (Below w.heap.size w (w2.setRow g4 (rsC rs0 (.slice none 0 0)).toArray)) := Lib.hid (below_setRow (HX2.out) (by have := HG4.out; omega) _)
    clear HR HX2 H42
    go_wp2_with (refine wpList_st rfl 41 (.tmp 4) (.tmp 22) rfl HS.out ?_; simp only [Act.put])
    (try simp only [Exit.inBlock, Exit.then])
    exact bodyPost_ret (results_ct Try.results35 _ _ _ _ _ _ _ rfl HFI.out Try.underlying41 rfl (by kernel_rfl)) rfl ⟨.slice none 0 0, rfl, OwnR.nil, HB.out⟩
  | some l =>
    rw [hL] at hl hv
    obtain ⟨hlm, hl4⟩ := toldL_mem hL
    have HLM := Lib.hid hlm
    have HLA := Lib.hid (told_last hL)
    simp only [Option.isSome, Option.getD] at hl hv
    obtain ⟨A, c, rfl⟩ := hv.form
    have HV := Lib.hid hv
    have HE : Hid ((if (rdW (some s)).2 = none ∨ 63 < (rdW (some s)).1 then (rs0, 4) else endH (gtRAll (if (rdW (some s)).1 = 0 then l else []) (rdW (some s)).2 { rs0 with e := (rdW (some s)).1 })) = R) := Lib.hid (by rw [← HR.out]; unfold aH; rw [hL])
    have hbw := rdW_bd (some s)
    have hlw := rdW_len (some s)
    obtain ⟨kw, hkw⟩ : ∃ kw, (rdW (some s)).1 = kw := ⟨_, rfl⟩
    obtain ⟨s1, hs1⟩ : ∃ s1, (rdW (some s)).2 = s1 := ⟨_, rfl⟩
    rw [hkw, hs1] at HE
    rw [hkw] at hbw
    rw [hs1] at hlw
    have HLW : Hid (s1.l.length ≤ 20000) := Lib.hid (Nat.le_trans hlw hs)
    have hsz : g4 < w2.heap.size := heap_lt H42.out
    have HSZ := Lib.hid hsz
    have hlb : ∀ b off n c1, Value.slice A l.length c = .slice (some ⟨b, off, none⟩) n c1 → b < w2.heap.size := fun b off n c1 e => by
      rcases HV.out with ⟨e2, _⟩ | ⟨b', off', c', e2, hb, _⟩
      · rw [e2] at e; cases e
      · rw [e2] at e; cases e; exact hb
    obtain ⟨BL, hBL⟩ : ∃ BL, w2.heap.size = BL := ⟨_, rfl⟩
    rw [hBL] at hlb
    have HLB := Lib.hid hlb
    have HBL := Lib.hid hBL
    obtain ⟨cv, W4, hcv, hrs4, hx4⟩ := conv_str w2 s
    have KN := Lib.hid (newReader_any cv s W4 hrs4 (by omega))
    obtain ⟨A4, c4, rfl⟩ := hrs4.form
    have HX4 := Lib.hid hx4
    clear hlm hv HR hL HP hrs4 hx4 hlw hlb hBL hsz
    go_upto_region 4 with fail
    clear hl
    go_wp2_with fail
    refine KN.out.mono ?_
    rintro e W5 ⟨gr, rfl, r5, hgr, k5⟩
    have H45 := Ext.blk (Ext.trans HX4.out k5) H42.out
    have HV5 := HV.out.ext (Ext.trans HX4.out k5)
    have HX5 := Ext.trans HX2.out (Ext.trans HX4.out k5)
    have hgr2 : BL ≤ gr := by have h1 := Below.size HX4.out; have h2 := HBL.out; omega
    have hgr5 := r5.lt
    have hx6 := extAl W5 (.cells #[.pointer (some ⟨gr, 0, none⟩), .bool false] 145)
    have hf6 := heap_alloc_last W5 (.cells #[.pointer (some ⟨gr, 0, none⟩), .bool false] 145)
    have H46 := Lib.hid (Ext.blk hx6 H45)
    have HV6 := Lib.hid (HV5.ext hx6)
    have HX6 := Lib.hid (Ext.trans HX5 hx6)
    have HR6 := Lib.hid (r5.ext hx6)
    have HF6 := Lib.hid hf6
    have HN : Hid (g4 < BL ∧ BL ≤ gr ∧ gr < W5.heap.size ∧ w.heap.size ≤ g4) := Lib.hid (by have h1 := HSZ.out; have h2 := HG4.out; have h3 := HBL.out; omega)
    clear H45 HV5 HX5 hx6 hf6 r5 k5 hgr KN HV H42 HX2 HX4 hgr2 hgr5 HSZ hcv HBL
    go_upto_region 5 with fail
    generalize W5.alloc (.cells #[.pointer (some ⟨gr, 0, none⟩), .bool false] 145) = W6 at *
    obtain ⟨gf, hgf⟩ : ∃ gf, W5.heap.size = gf := ⟨_, rfl⟩
    rw [hgf] at HN HF6 ⊢
    clear hgf
    obtain ⟨q0, -, -, -, ql⟩ := blk2 HF6.out
    have KW := word_any gr (some s) W6 HR6.out
    rw [hkw, hs1] at KW
    have HKW := Lib.hid KW
    clear KW hkw hs1
    go_wp2_with fail
    refine HKW.out.mono ?_
    rintro e W7 ⟨rfl, r7, k7⟩
    have HR7 := Lib.hid r7
    have HF7 := Lib.hid ((k7.block gf ql (by have := HN.out; simp; omega)).trans HF6.out)
    have H47 := Lib.hid ((k7.block g4 (heap_lt H46.out) (by have := HN.out; simp; omega)).trans H46.out)
    have HV7 : Hid (RS W7 (.slice A l.length c) l) := Lib.hid (HV6.out.mutF (But.mut (S := fun i => i = gr) k7 rfl) (fun b off n c e hs => by have h1 := HLB.out b off n c e; have h2 := HN.out; omega))
    have HX7 : Hid (Below w.heap.size w W7) := Lib.hid (Below.trans HX6.out (k7.below (by have := HN.out; omega) (Below.size HX6.out)))
    have KL := fWell2 W7 r7 HF7.out
    clear r7 k7 q0 ql HR6 HF6 H46 HV6 HX6 HKW
    by_cases hn : s1 = none
    · as_aux_lemma =>
        have hR0 : R = (rs0, 4) := by rw [← HE.out]; exact if_pos (.inl hn)
        subst hR0
        subst hn
        have HS := Lib.hid (storeRsZ (H47.out))
        have HFI := Lib.hid (setRow_heap W7 g4 _ (rsC rs0 (.slice none 0 0)).toArray _ _ (H47.out))
        have HB : Hid (Below w.heap.size w (W7.setRow g4 (rsC rs0 (.slice none 0 0)).toArray)) := Lib.hid (below_setRow (HX7.out) (by have := HG4.out; omega) _)
        have HKL : Hid (Calls Try.prog 74 #[.pointer (some ⟨gf, 0, none⟩)] W7 fun e w' => e = .returned (.bool false) ∧ w' = W7) := Lib.hid KL
        clear KL HE
        go_wp2_with fail
        refine HKL.out.mono ?_
        rintro e w5 ⟨rfl, rfl⟩
        go_wp2_with (refine wpList_st rfl 41 (.tmp 4) (.tmp 36) rfl HS.out ?_; simp only [Act.put])
        (try simp only [Exit.inBlock, Exit.then])
        exact bodyPost_ret (results_ct Try.results35 _ _ _ _ _ _ _ rfl HFI.out Try.underlying41 rfl (by kernel_rfl)) rfl ⟨.slice none 0 0, rfl, OwnR.nil, HB.out⟩
    have hsome : s1.isSome = true := by
      cases s1 with
      | none => exact absurd rfl hn
      | some l => rfl
    rw [hsome] at KL
    have HKL : Hid (Calls Try.prog 74 #[.pointer (some ⟨gf, 0, none⟩)] W7 fun e w' => e = .returned (.bool true) ∧ w' = W7) := Lib.hid KL
    clear KL hsome
    by_cases h63 : 63 < kw
    · as_aux_lemma =>
        have hR0 : R = (rs0, 4) := by rw [← HE.out]; exact if_pos (.inr h63)
        subst hR0
        have HS := Lib.hid (storeRsZ (H47.out))
        have HFI := Lib.hid (setRow_heap W7 g4 _ (rsC rs0 (.slice none 0 0)).toArray _ _ (H47.out))
        have HB : Hid (Below w.heap.size w (W7.setRow g4 (rsC rs0 (.slice none 0 0)).toArray)) := Lib.hid (below_setRow (HX7.out) (by have := HG4.out; omega) _)
        clear HE hn
        go_wp2_with fail
        refine HKL.out.mono ?_
        rintro e w5 ⟨rfl, rfl⟩
        go_wp2_with (refine wpList_st rfl 41 (.tmp 4) (.tmp 36) rfl HS.out ?_; simp only [Act.put])
        (try simp only [Exit.inBlock, Exit.then])
        exact bodyPost_ret (results_ct Try.results35 _ _ _ _ _ _ _ rfl HFI.out Try.underlying41 rfl (by kernel_rfl)) rfl ⟨.slice none 0 0, rfl, OwnR.nil, HB.out⟩
    have hE := HE.out
    rw [if_neg (by rintro (h | h) <;> contradiction)] at hE
    have HE2 := Lib.hid hE
    clear hE HE hn
    go_wp2_with fail
    refine HKL.out.mono ?_
    rintro e w5 ⟨rfl, rfl⟩
    clear HKL
    have HW8 := Lib.hid (new_rsE w5 kw)
    have hx8 := extAl w5 (.cells (rsC { rs0 with e := kw } (.slice none 0 0)).toArray 41)
    have HA8 := Lib.hid (heap_alloc_last w5 (.cells (rsC { rs0 with e := kw } (.slice none 0 0)).toArray 41))
    have HR8 := Lib.hid (HR7.out.ext hx8)
    have HF8 := Lib.hid (Ext.blk hx8 HF7.out)
    have H48 := Lib.hid (Ext.blk hx8 H47.out)
    have HV8 := Lib.hid (HV7.out.ext hx8)
    have HX8 := Lib.hid (Below.trans HX7.out (Below.mono hx8 (Below.size HX7.out)))
    have HN2 : Hid (g4 < BL ∧ BL ≤ gr ∧ gr < gf ∧ w.heap.size ≤ g4 ∧ gf < w5.heap.size) := Lib.hid (by have h1 := HN.out; have h2 := heap_lt HF7.out; omega)
    clear hx8 HR7 HF7 H47 HV7 HX7 HN
    go_upto_region 8 with fail
    go_upto_region 9 with (refine wpList_st rfl 41 (.tmp 10) (.tmp 39) rfl HW8.out ?_; simp only [Act.put]; clear HW8)
    generalize w5.alloc (.cells (rsC { rs0 with e := kw } (.slice none 0 0)).toArray 41) = W7 at *
    obtain ⟨ga, hga⟩ : ∃ ga, w5.heap.size = ga := ⟨_, rfl⟩
    rw [hga] at HA8 HN2 ⊢
    clear hga
    have HR7 := HR8
    have HF7 := HF8
    have HA7 := HA8
    have H47 := H48
    have HV7 := HV8
    have HX7 := HX8
    have HN := HN2
    clear HR8 HF8 HA8 H48 HV8 HX8 HN2
    have ca : W7.cell? ⟨ga, 0, none⟩ = some (.int .i64 kw) := by rw [cell_of_row _ _ _ _ _ _ HA7.out]; rfl
    have gal := heap_lt HA7.out
    by_cases he0 : kw = 0
    · as_aux_lemma =>
        have hF := HE2.out
        rw [if_pos he0] at hF
        have HE3 := Lib.hid hF
        clear hF HE2
        go_upto_region 11 with fail
        have HE0 := Lib.hid he0
        clear he0
        go_wp2_with fail
        refine (resultGetter_any W7 gf ga).mono ?_
        rintro e W8 ⟨rfl, hW8⟩
        have hx7 := extAl W7 (.cells #[.pointer (some ⟨gf, 0, none⟩)] 193)
        have hx8 := extAl (W7.alloc (.cells #[.pointer (some ⟨gf, 0, none⟩)] 193)) (.cells #[.pointer (some ⟨ga, 0, none⟩)] 155)
        have hb2 := Ext.blk hx8 (heap_alloc_last W7 (.cells #[.pointer (some ⟨gf, 0, none⟩)] 193))
        have hb3 := heap_alloc_last (W7.alloc (.cells #[.pointer (some ⟨gf, 0, none⟩)] 193)) (.cells #[.pointer (some ⟨ga, 0, none⟩)] 155)
        have hx := Ext.trans hx7 hx8
        simp only [World.size_alloc] at hb3
        rw [← hW8] at hx hb2 hb3
        clear hx7 hx8 hW8
        have HW : Hid (RdR W8 W8 gr gf ga W7.heap.size (W7.heap.size + 1) s1 false { rs0 with e := kw } (.slice none 0 0)) := Lib.hid
          { rd := HR7.out.ext hx, hf := Ext.blk hx HF7.out, ha := Ext.blk hx HA7.out, h2 := hb2, h3 := hb3, ne := (by have h1 := HN.out; have h2 := heap_lt HA7.out; omega), mu := Mut.of_ext (Ext.refl _) }
        have H48 := Lib.hid (Ext.blk hx H47.out)
        have HV8 := Lib.hid (HV7.out.ext hx)
        have HX8 := Lib.hid (Ext.trans HX7.out hx)
        have HN8 : Hid (g4 ≠ gr ∧ g4 ≠ gf ∧ g4 ≠ ga ∧ w.heap.size ≤ gr ∧ w.heap.size ≤ gf ∧ w.heap.size ≤ ga ∧ w.heap.size ≤ g4 ∧ BL ≤ gr ∧ BL ≤ gf ∧ BL ≤ ga ∧ gr < W8.heap.size ∧ gf < W8.heap.size ∧ ga < W8.heap.size) := Lib.hid (by have h1 := HN.out; have h2 := heap_lt HW.out.ha; have h3 := heap_lt HW.out.hf; have h4 := HW.out.rd.lt; omega)
        obtain ⟨b2, hbb2⟩ : ∃ b2, W7.heap.size = b2 := ⟨_, rfl⟩
        rw [hbb2] at HW ⊢
        obtain ⟨b3, hbb3⟩ : ∃ b3, b2 + 1 = b3 := ⟨_, rfl⟩
        rw [hbb3] at HW ⊢
        clear hx hb2 hb3 H47 HV7 HX7 HR7 HF7 HA7 HN hbb2 hbb3
        go_upto_region 12 with fail
        clear ca gal
        go_wp2_with fail
        go_loopw [13, 46] (fun cv iv wr => ∃ (k : Nat) (st st' : St) (x' : RsT) (rv' : Value), k ≤ l.length ∧ iv = .int .i64 k ∧ Hid (RdR W8 wr gr gf ga b2 b3 st' false x' rv') ∧ Hid (endH (gtRAll (l.drop k) st x') = R) ∧ Hid (st.l.length ≤ 20000) ∧ Hid (SameH st st' ∧ (k < l.length → st' = st)) ∧ Hid (EnO wr W8.heap.size rv' x'.ents)) (fun _ iv _ => l.length - (intOf iv).toNat)
        case atStart => exact ⟨0, s1, s1, _, _, Nat.zero_le _, rfl, HW, HE3, HLW, Lib.hid ⟨SameH.refl _, fun _ => rfl⟩, Lib.hid OwnR.nil⟩
        case round =>
          obtain ⟨k, st, st', x', rv', hk, rfl, HRS, HF, HO, HSM, HEO⟩ := hrel
          clear HW HE3
          by_cases hkl : k < l.length
          · as_aux_lemma =>
              obtain ⟨y, hy⟩ : ∃ y, l[k]? = some y := ⟨_, List.getElem?_eq_getElem hkl⟩
              have hst := HSM.out.2 hkl
              subst hst
              have hrs := HV8.out.mutF HRS.out.mu (fun b off n c e => by
                have h2 := HLB.out b off n c e
                have h3 := HN8.out
                omega)
              obtain ⟨b, off, rfl, hb, hc, cell⟩ := hrs.letter hy
              have hym := HLM.out y (List.mem_of_getElem? hy)
              have HYL : Hid (y = 65 → k + 1 = l.length) := Lib.hid (fun e => HLA.out k (by rw [hy, e]))
              have hdr : l.drop k = y :: l.drop (k + 1) := by
                rw [List.drop_eq_getElem_cons hkl]
                congr 1
                exact (List.getElem?_eq_some_iff.1 hy).2
              have hF := HF.out
              rw [hdr] at hF
              have HYM := Lib.hid hym
              have hnb : NoB' rv' := by obtain ⟨A, c, e⟩ := HEO.out.form; rw [e]; exact nb_slice _ _ _
              have K := Lib.hid (getR_any y hym wr { HRS.out with mu := Mut.refl _ _ } (by have := HO.out; omega) hnb)
              obtain ⟨yn, hyn⟩ : ∃ yn : Int, (y.toNat : Int) = yn := ⟨_, rfl⟩
              rw [hyn] at cell K
              have hlen := gtR_len y st' false x'
              have hge : y ≠ 69 → (gtR y st' false x').2.2.ents = x'.ents := fun h => gtR_ents h _ _ _
              clear hrs hdr hy hyn hnb
              go_upto_region 15 with fail
              clear cell hb hc
              go_wp2_with fail
              refine K.out.mono ?_
              rintro e w4 ⟨rfl, s2, rv2, q1, q2, h4, q3, q4⟩
              clear K
              obtain ⟨X, hX⟩ : ∃ X, gtR y st' false x' = X := ⟨_, rfl⟩
              rw [hX] at h4 hlen q1 q2 q4 hge
              have HM := Lib.hid (HRS.out.mu.trans h4.mu)
              have KW := fWell_any w4 h4
              have H4 := Lib.hid h4
              have HE4 : Hid (EnO w4 W8.heap.size rv2 X.2.2.ents) := Lib.hid (by
                by_cases e69 : y = 69
                · exact (q4 e69).mono HRS.out.mu.size
                · rw [q3 e69, hge e69]
                  exact HEO.out.mutO h4.mu (fun b hb hs => by
                    have h1 := own_lt HEO.out hb
                    have h2 := HN8.out
                    omega))
              have HSM2 : Hid (SameH X.1 s2 ∧ (k + 1 < l.length → s2 = X.1)) := Lib.hid ⟨q2, fun h => q1 (fun e => by have := HYL.out e; omega)⟩
              rw [q2.1] at KW
              by_cases hg : X.2.1 = false ∧ X.1.isSome = true
              · as_aux_lemma =>
                  have HF2 : Hid (endH (gtRAll (l.drop (k + 1)) X.1 X.2.2) = R) := Lib.hid (by rw [← hF]; conv => rhs; unfold gtRAll; rw [hX, if_pos hg])
                  have hwl : (!X.2.1 && X.1.isSome) = true := by rw [hg.1, hg.2]; rfl
                  rw [hwl] at KW
                  have h5 : RdR W8 w4 gr gf ga b2 b3 s2 X.2.1 X.2.2 rv2 := { h4 with mu := HM.out }
                  rw [hg.1] at h5
                  have H5 := Lib.hid h5
                  have HO2 := Lib.hid (Nat.le_trans hlen HO.out)
                  have HKK := Lib.hid KW
                  clear hF HF h4 H4 h5 hX hg hwl hlen KW q1 q2 q3 q4 hge HM HEO HRS HSM HYL
                  go_wp2_with fail
                  refine HKK.out.mono ?_
                  rintro e w5 ⟨rfl, rfl⟩
                  go_wp2_with fail
                  go_roundw
                  case rel => exact ⟨k + 1, X.1, s2, X.2.2, rv2, by omega, by go_num, H5, HF2, HO2, HSM2, HE4⟩
                  case measure => simp only [intOf]; omega
              · as_aux_lemma =>
                  have hR0 : R = (rs0, 4) := by rw [← hF]; unfold gtRAll; rw [hX, if_neg hg]; rfl
                  have hwl : (!X.2.1 && X.1.isSome) = false := by
                    cases h1 : X.2.1 <;> cases h2 : X.1.isSome <;> simp_all
                  rw [hwl] at KW
                  have hg44 := (HM.out.block g4 (heap_lt H48.out) (by have := HN8.out; show ¬ (g4 = gr ∨ g4 = gf ∨ g4 = ga); omega)).trans H48.out
                  have hB := Below.trans HX8.out (HM.out.below (B := w.heap.size) (fun i hi => by have := HN8.out; omega) (Below.size HX8.out))
                  have HS := Lib.hid (storeRsZ (hg44))
                  have HFI := Lib.hid (setRow_heap w4 g4 _ (rsC rs0 (.slice none 0 0)).toArray _ _ (hg44))
                  have HB : Hid (Below w.heap.size w (w4.setRow g4 (rsC rs0 (.slice none 0 0)).toArray)) := Lib.hid (below_setRow (hB) (by have := HG4.out; omega) _)
                  have HKK := Lib.hid KW
                  subst hR0
                  clear hF HF h4 H4 hX hg hwl hlen hg44 KW q1 q2 q3 q4 hge HM HEO HRS HSM HYL HE4 HSM2 hB
                  go_wp2_with fail
                  refine HKK.out.mono ?_
                  rintro e w5 ⟨rfl, rfl⟩
                  go_wp2_with (refine wpList_st rfl 41 (.tmp 4) (.tmp 55) rfl HS.out ?_; simp only [Act.put])
                  (try simp only [Exit.inBlock, Exit.then])
                  exact bodyPost_ret (results_ct Try.results35 _ _ _ _ _ _ _ rfl HFI.out Try.underlying41 rfl (by kernel_rfl)) rfl ⟨.slice none 0 0, rfl, OwnR.nil, HB.out⟩
          · as_aux_lemma =>
              obtain rfl : k = l.length := by omega
              have hF := HF.out
              rw [List.drop_length] at hF
              have HF : Hid (endH (some (st, x')) = R) := Lib.hid hF
              clear hF
              obtain ⟨c0, -, -, -, gl⟩ := blk2 HRS.out.hf
              have KD := Lib.hid (done_any gr st' wr HRS.out.rd)
              have hg44 := (HRS.out.mu.block g4 (heap_lt H48.out) (by have := HN8.out; show ¬ (g4 = gr ∨ g4 = gf ∨ g4 = ga); omega)).trans H48.out
              have hB := Below.trans HX8.out (HRS.out.mu.below (B := w.heap.size) (fun i hi => by have := HN8.out; omega) (Below.size HX8.out))
              have hDS := doneB_same HSM.out.1
              by_cases hd : doneB st = true
              · as_aux_lemma =>
                  have hR0 : R = (x', 0) := by rw [← HF.out]; unfold endH; exact if_pos hd
                  rw [hDS, hd] at KD
                  obtain ⟨Ar, cr, rfl⟩ := HEO.out.form
                  have HL := Lib.hid (ldRs HRS.out.ha)
                  have HS := Lib.hid (storeRs (y := x') (A := Ar) (n := x'.ents.length) (c := cr) hg44)
                  have HFI := Lib.hid (setRow_heap wr g4 _ (rsC x' (.slice Ar x'.ents.length cr)).toArray _ _ hg44)
                  have HEF := Lib.hid ((HEO.out.mono (B' := w.heap.size) HX8.out.size).set (row' := (rsC x' (.slice Ar x'.ents.length cr)).toArray) hg44 (by decide))
                  have HB := Lib.hid (below_setRow hB (by have := HG4.out; omega) (rsC x' (.slice Ar x'.ents.length cr)).toArray : Below w.heap.size w (wr.setRow g4 _))
                  subst hR0
                  clear HF HRS hd hg44 hB hDS HEO HSM
                  go_wp2_with fail
                  refine KD.out.mono ?_
                  rintro e w5 ⟨rfl, rfl⟩
                  go_wp2_with (first | (refine wpList_ld rfl 41 (.tmp 10) rfl HL.out ?_; simp only [Act.put]) | (refine wpList_st rfl 41 (.tmp 4) (.tmp 62) rfl HS.out ?_; simp only [Act.put]))
                  (try simp only [Exit.inBlock, Exit.then])
                  exact bodyPost_ret (results_ct Try.results35 _ _ _ _ _ _ _ rfl HFI.out Try.underlying41 rfl (by kernel_rfl)) rfl ⟨_, rfl, HEF.out, HB.out⟩
              · as_aux_lemma =>
                  have hR0 : R = (rs0, 4) := by rw [← HF.out]; unfold endH; exact if_neg hd
                  have hd0 : doneB st = false := by simpa using hd
                  rw [hDS, hd0] at KD
                  have HS := Lib.hid (storeRsZ (hg44))
                  have HFI := Lib.hid (setRow_heap wr g4 _ (rsC rs0 (.slice none 0 0)).toArray _ _ (hg44))
                  have HB : Hid (Below w.heap.size w (wr.setRow g4 (rsC rs0 (.slice none 0 0)).toArray)) := Lib.hid (below_setRow (hB) (by have := HG4.out; omega) _)
                  subst hR0
                  clear HF HRS hd hd0 hg44 hB hDS HEO HSM
                  go_wp2_with fail
                  refine KD.out.mono ?_
                  rintro e w5 ⟨rfl, rfl⟩
                  go_wp2_with (refine wpList_st rfl 41 (.tmp 4) (.tmp 61) rfl HS.out ?_; simp only [Act.put])
                  (try simp only [Exit.inBlock, Exit.then])
                  exact bodyPost_ret (results_ct Try.results35 _ _ _ _ _ _ _ rfl HFI.out Try.underlying41 rfl (by kernel_rfl)) rfl ⟨.slice none 0 0, rfl, OwnR.nil, HB.out⟩
    · as_aux_lemma =>
        have hF := HE2.out
        rw [if_neg he0] at hF
        have HE3 := Lib.hid hF
        clear hF HE2
        go_upto_region 11 with fail
        have HE0 := Lib.hid he0
        clear he0
        go_wp2_with fail
        refine (resultGetter_any W7 gf ga).mono ?_
        rintro e W8 ⟨rfl, hW8⟩
        have hx7 := extAl W7 (.cells #[.pointer (some ⟨gf, 0, none⟩)] 193)
        have hx8 := extAl (W7.alloc (.cells #[.pointer (some ⟨gf, 0, none⟩)] 193)) (.cells #[.pointer (some ⟨ga, 0, none⟩)] 155)
        have hb2 := Ext.blk hx8 (heap_alloc_last W7 (.cells #[.pointer (some ⟨gf, 0, none⟩)] 193))
        have hb3 := heap_alloc_last (W7.alloc (.cells #[.pointer (some ⟨gf, 0, none⟩)] 193)) (.cells #[.pointer (some ⟨ga, 0, none⟩)] 155)
        have hx := Ext.trans hx7 hx8
        simp only [World.size_alloc] at hb3
        rw [← hW8] at hx hb2 hb3
        clear hx7 hx8 hW8
        have HW : Hid (RdR W8 W8 gr gf ga W7.heap.size (W7.heap.size + 1) s1 false { rs0 with e := kw } (.slice none 0 0)) := Lib.hid
          { rd := HR7.out.ext hx, hf := Ext.blk hx HF7.out, ha := Ext.blk hx HA7.out, h2 := hb2, h3 := hb3, ne := (by have h1 := HN.out; have h2 := heap_lt HA7.out; omega), mu := Mut.of_ext (Ext.refl _) }
        have H48 := Lib.hid (Ext.blk hx H47.out)
        have HV8 := Lib.hid (HV7.out.ext hx)
        have HX8 := Lib.hid (Ext.trans HX7.out hx)
        have HN8 : Hid (g4 ≠ gr ∧ g4 ≠ gf ∧ g4 ≠ ga ∧ w.heap.size ≤ gr ∧ w.heap.size ≤ gf ∧ w.heap.size ≤ ga ∧ w.heap.size ≤ g4 ∧ BL ≤ gr ∧ BL ≤ gf ∧ BL ≤ ga ∧ gr < W8.heap.size ∧ gf < W8.heap.size ∧ ga < W8.heap.size) := Lib.hid (by have h1 := HN.out; have h2 := heap_lt HW.out.ha; have h3 := heap_lt HW.out.hf; have h4 := HW.out.rd.lt; omega)
        obtain ⟨b2, hbb2⟩ : ∃ b2, W7.heap.size = b2 := ⟨_, rfl⟩
        rw [hbb2] at HW ⊢
        obtain ⟨b3, hbb3⟩ : ∃ b3, b2 + 1 = b3 := ⟨_, rfl⟩
        rw [hbb3] at HW ⊢
        clear hx hb2 hb3 H47 HV7 HX7 HR7 HF7 HA7 HN hbb2 hbb3
        go_upto_region 12 with fail
        clear ca gal
        go_wp2_with fail
        go_loopw [13, 46] (fun cv iv wr => iv = .int .i64 0 ∧ Hid (RdR W8 wr gr gf ga b2 b3 s1 false { rs0 with e := kw } (.slice none 0 0))) (fun _ iv _ => 0)
        case atStart => exact ⟨rfl, HW⟩
        case round =>
          obtain ⟨rfl, HRS⟩ := hrel
          clear HW
          obtain ⟨st, rfl⟩ : ∃ st, st = s1 := ⟨_, rfl⟩
          obtain ⟨st', hst'⟩ : ∃ st', st' = st := ⟨_, rfl⟩
          have HSM : Hid (SameH st st' ∧ True) := Lib.hid ⟨by rw [hst']; exact SameH.refl _, trivial⟩
          rw [← hst'] at HRS
          obtain ⟨rv', hrv'⟩ : ∃ r, (.slice none 0 0 : Value) = r := ⟨_, rfl⟩
          obtain ⟨x', hx'⟩ : ∃ x' : RsT, { rs0 with e := kw } = x' := ⟨_, rfl⟩
          have HEO : Hid (EnO wr W8.heap.size rv' x'.ents) := Lib.hid (by rw [← hx', ← hrv']; exact OwnR.nil)
          have HF : Hid (endH (some (st, x')) = R) := Lib.hid (by rw [← hx']; exact HE3.out)
          rw [hx', hrv'] at HRS
          clear hx' hrv' hst' HE3
          obtain ⟨c0, -, -, -, gl⟩ := blk2 HRS.out.hf
          have KD := Lib.hid (done_any gr st' wr HRS.out.rd)
          have hg44 := (HRS.out.mu.block g4 (heap_lt H48.out) (by have := HN8.out; show ¬ (g4 = gr ∨ g4 = gf ∨ g4 = ga); omega)).trans H48.out
          have hB := Below.trans HX8.out (HRS.out.mu.below (B := w.heap.size) (fun i hi => by have := HN8.out; omega) (Below.size HX8.out))
          have hDS := doneB_same HSM.out.1
          by_cases hd : doneB st = true
          · as_aux_lemma =>
              have hR0 : R = (x', 0) := by rw [← HF.out]; unfold endH; exact if_pos hd
              rw [hDS, hd] at KD
              obtain ⟨Ar, cr, rfl⟩ := HEO.out.form
              have HL := Lib.hid (ldRs HRS.out.ha)
              have HS := Lib.hid (storeRs (y := x') (A := Ar) (n := x'.ents.length) (c := cr) hg44)
              have HFI := Lib.hid (setRow_heap wr g4 _ (rsC x' (.slice Ar x'.ents.length cr)).toArray _ _ hg44)
              have HEF := Lib.hid ((HEO.out.mono (B' := w.heap.size) HX8.out.size).set (row' := (rsC x' (.slice Ar x'.ents.length cr)).toArray) hg44 (by decide))
              have HB := Lib.hid (below_setRow hB (by have := HG4.out; omega) (rsC x' (.slice Ar x'.ents.length cr)).toArray : Below w.heap.size w (wr.setRow g4 _))
              subst hR0
              clear HF HRS hd hg44 hB hDS HEO HSM
              go_wp2_with fail
              refine KD.out.mono ?_
              rintro e w5 ⟨rfl, rfl⟩
              go_wp2_with (first | (refine wpList_ld rfl 41 (.tmp 10) rfl HL.out ?_; simp only [Act.put]) | (refine wpList_st rfl 41 (.tmp 4) (.tmp 62) rfl HS.out ?_; simp only [Act.put]))
              (try simp only [Exit.inBlock, Exit.then])
              exact bodyPost_ret (results_ct Try.results35 _ _ _ _ _ _ _ rfl HFI.out Try.underlying41 rfl (by kernel_rfl)) rfl ⟨_, rfl, HEF.out, HB.out⟩
          · as_aux_lemma =>
              have hR0 : R = (rs0, 4) := by rw [← HF.out]; unfold endH; exact if_neg hd
              have hd0 : doneB st = false := by simpa using hd
              rw [hDS, hd0] at KD
              have HS := Lib.hid (storeRsZ (hg44))
              have HFI := Lib.hid (setRow_heap wr g4 _ (rsC rs0 (.slice none 0 0)).toArray _ _ (hg44))
              have HB : Hid (Below w.heap.size w (wr.setRow g4 (rsC rs0 (.slice none 0 0)).toArray)) := Lib.hid (below_setRow (hB) (by have := HG4.out; omega) _)
              subst hR0
              clear HF HRS hd hd0 hg44 hB hDS HEO HSM
              go_wp2_with fail
              refine KD.out.mono ?_
              rintro e w5 ⟨rfl, rfl⟩
              go_wp2_with (refine wpList_st rfl 41 (.tmp 4) (.tmp 61) rfl HS.out ?_; simp only [Act.put])
              (try simp only [Exit.inBlock, Exit.then])
              exact bodyPost_ret (results_ct Try.results35 _ _ _ _ _ _ _ rfl HFI.out Try.underlying41 rfl (by kernel_rfl)) rfl ⟨.slice none 0 0, rfl, OwnR.nil, HB.out⟩
end Go.Proofs.Yteahlnoonmfjhaa
