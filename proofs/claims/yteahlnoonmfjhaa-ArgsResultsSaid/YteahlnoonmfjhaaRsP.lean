/- Results, by the document: Tell. -/
import Derived.Test.YteahlnoonmfjhaaRsL
import Derived.Test.YteahlnoonmfjhaaRsM
import Derived.Test.YteahlnoonmfjhaaAfD
set_option linter.unusedVariables false
set_option maxRecDepth 100000
namespace Go.Proofs.Yteahlnoonmfjhaa
open Go.RowKit

def lettersRT : List UInt8 := [72, 65, 116, 78, 102, 117, 118, 101, 69]
/-- The document's words of a result's letter. -/
def rPutT (x : RsT) (c : UInt8) : List UInt8 :=
  if c = 72 then hbytes x.h.1 x.h.2.1 x.h.2.2 else if c = 65 then attrB x.at_ else if c = 116 then textL x.text else if c = 78 then intL x.n else if c = 102 then intL x.free
  else if c = 117 then beL x.used else if c = 118 then beL x.verf else if c = 101 then beN (b2i x.end_) 4 else entsB x.ents
def rT (p : Int) (x : RsT) : List UInt8 × Int := if p < 0 ∨ 19 ≤ p then ([], 62) else if rMayT p x then (beN x.e 4 ++ (tellL p x.e).flatMap (rPutT x), 0) else ([], 4)
theorem rTellL_mem {p : Nat} (hp : p < 19) : (∀ c ∈ rTellL (p : Int), c ∈ lettersRT) ∧ (rTellL (p : Int)).length ≤ 3 := by
  have h : p = 0 ∨ p = 1 ∨ p = 2 ∨ p = 3 ∨ p = 4 ∨ p = 5 ∨ p = 6 ∨ p = 7 ∨ p = 8 ∨ p = 9 ∨ p = 10 ∨ p = 11 ∨ p = 12 ∨ p = 13 ∨ p = 14 ∨ p = 15 ∨ p = 16 ∨ p = 17 ∨ p = 18 := by omega
  rcases h with rfl | rfl | rfl | rfl | rfl | rfl | rfl | rfl | rfl | rfl | rfl | rfl | rfl | rfl | rfl | rfl | rfl | rfl | rfl <;> decide
theorem rMayT_spec {p : Int} {x : RsT} (h : rMayT p x = true) : (0 ≤ x.e ∧ x.e ≤ 63) ∧ (72 ∈ tellL p x.e → hmayB x.h.1 x.h.2.1 x.h.2.2 = true) ∧ x.text.length ≤ 2048 ∧ x.ents.length ≤ 64 ∧ longE x.ents = false := by
  unfold rMayT at h
  by_cases h0 : x.e < 0 ∨ 63 < x.e
  · rw [if_pos h0] at h; cases h
  rw [if_neg h0] at h
  unfold rTmay at h
  simp only [Bool.and_eq_true, Bool.not_eq_true'] at h
  obtain ⟨⟨⟨h1, h2⟩, h3⟩, h4⟩ := h
  unfold tD4 at h4
  simp only [Bool.and_eq_true, decide_eq_true_eq] at h4
  refine ⟨by omega, fun hm => ?_, h4.1, h4.2, h3⟩
  unfold tD1 at h1
  simp only [Bool.or_eq_false_iff, Bool.and_eq_false_iff, Bool.not_eq_false'] at h1
  obtain ⟨⟨⟨h1, -⟩, -⟩, -⟩ := h1
  rcases h1 with h1 | h1
  · exact absurd hm (of_decide_eq_false h1)
  · exact h1
theorem longE_each {l : List EnT} (h : longE l = false) : ∀ y ∈ l, y.name.length ≤ 255 := by
  intro y hy
  by_cases hl : 255 < y.name.length
  · exact absurd (List.any_eq_true.2 ⟨y, hy, decide_eq_true hl⟩) (by rw [show l.any (fun y => decide (255 < y.name.length)) = longE l from rfl, h]; decide)
  · omega
theorem rPutT_length {x : RsT} {c : UInt8} (h1 : x.text.length ≤ 2048) (h2 : x.ents.length ≤ 64) (h3 : longE x.ents = false) : (rPutT x c).length ≤ 20000 := by
  have t1 := textL_length x.text
  have t2 := enB_all x.ents (longE_each h3)
  unfold rPutT
  repeat' split
  · rw [hbytes_length]; omega
  · simp [attrB, numsL, beN_length, intL_length]
  · omega
  · rw [intL_length]; omega
  · rw [intL_length]; omega
  · rw [beL_length]; omega
  · rw [beL_length]; omega
  · simp [beN_length]
  · simp only [entsB, List.length_append, beN_length]
    omega
/-- What the document's loop keeps. -/
structure RTst (w wr : World) (ga : Nat) (x : RsT) (rv v : Value) (bs : List UInt8) : Prop where
  own : OwnZ wr (ga + 1) 5 v bs
  ha : wr.heap[ga]? = some (.cells (rsC x rv).toArray 41 (0, 0))
  bel : Below w.heap.size w wr
  lg : w.heap.size ≤ ga
  ls : ga < wr.heap.size
theorem RTst.next {w wr w' : World} {ga : Nat} {x : RsT} {rv v v' : Value} {bs bs' : List UInt8} (h : RTst w wr ga x rv v bs) (k : Below (ga + 1) wr w') (ho : OwnZ w' (ga + 1) 5 v' bs') : RTst w w' ga x rv v' bs' :=
  ⟨ho, (k.block ga (Nat.lt_succ_self _)).trans h.ha, h.bel.trans (k.mono (by have := h.lg; omega)), h.lg, Nat.lt_of_lt_of_le h.ls k.size⟩
set_option maxHeartbeats 16000000 in
theorem rTell_any (p : Int) (x : RsT) (rv : Value) (w : World) (hp : I64 p) (hk : x.Okw) (he : I64 x.e) (hr : EnR w rv x.ents) :
    Calls Try.prog 33 #[.int .i64 p, .agg (rsC x rv).toArray] w fun e w' => e = .returned (.tuple #[.string (str (rT p x).1), .int .i64 (rT p x).2]) ∧ Below w.heap.size w w' := by
  obtain ⟨R, hR⟩ : ∃ R, rT p x = R := ⟨_, rfl⟩
  rw [hR]
  by_cases hb : p < 0 ∨ 19 ≤ p
  · have hR0 : R = ([], 62) := by rw [← hR]; unfold rT; exact if_pos hb
    have hx := extAl w (.cells (rsC x rv).toArray 41)
    subst hR0
    clear hR hk hr
    rcases hb with hb | hb
    · go_enter Try.func33, Try.ntmps33
      go_wp2_with fail
      go_ret2
      exact ⟨rfl, hx⟩
    · have hb0 : ¬ p < 0 := by omega
      go_enter Try.func33, Try.ntmps33
      go_wp2_with fail
      go_ret2
      exact ⟨rfl, hx⟩
  obtain ⟨q, rfl⟩ : ∃ q : Nat, p = q := ⟨p.toNat, by omega⟩
  have hq : q < 19 := by omega
  have hq' : (q : Int) < 19 := by omega
  have hx1 := extAl w (.cells (rsC x rv).toArray 41)
  have KM := Lib.hid (rMayResult_any q hq x rv _ hk he (RR.ext hr hx1))
  have KA := Lib.hid (fun w : World => rTellL_any q hq w)
  have hLm := (rTellL_mem hq).1
  have hLl := (rTellL_mem hq).2
  have hR1 : R = if rMayT (q : Int) x then (beN x.e 4 ++ (tellL (q : Int) x.e).flatMap (rPutT x), 0) else ([], 4) := by rw [← hR]; unfold rT; exact if_neg hb
  have HK := Lib.hid hk
  have HEN : Hid (∀ W : World, Below w.heap.size w W → EnR W rv x.ents) := Lib.hid fun W k => RR.below hr k
  have hw1 := heap_alloc_last w (.cells (rsC x rv).toArray 41)
  have HL1 := Lib.hid (ldRs hw1)
  have HW1 := Lib.hid hw1
  have HX1 := Lib.hid hx1
  clear hw1 hx1 hR hb hk hr
  cases hmay : rMayT (q : Int) x with
  | false =>
    rw [hmay] at KM hR1
    have hR0 : R = ([], 4) := hR1
    subst hR0
    clear hR1 hmay
    go_enter Try.func33, Try.ntmps33
    go_wp2_with (refine wpList_ld rfl 41 (.tmp 3) rfl HL1.out ?_; simp only [Act.put])
    refine KM.out.mono ?_
    rintro e w2 ⟨rfl, h2⟩
    have HB := Lib.hid (Below.trans HX1.out (h2.mono (Below.size HX1.out)))
    clear h2
    go_wp2_with fail
    go_ret2
    exact ⟨rfl, HB.out⟩
  | true =>
    have hms := rMayT_spec hmay
    rw [hmay] at KM hR1
    have hR0 : R = (beN x.e 4 ++ (tellL (q : Int) x.e).flatMap (rPutT x), 0) := hR1
    obtain ⟨R', hR'⟩ : ∃ R', beN x.e 4 ++ (tellL (q : Int) x.e).flatMap (rPutT x) = R' := ⟨_, rfl⟩
    rw [hR'] at hR0
    subst hR0
    obtain ⟨N, hN⟩ : ∃ N, x.e = N := ⟨_, rfl⟩
    have hbN := hms.1
    rw [hN] at hms hR' hbN
    have HN := Lib.hid hN
    have HMS := Lib.hid hms
    have HRR := Lib.hid hR'
    have hm : N % 4294967296 = N := by omega
    clear hR1 hmay hms hR' hN he
    go_enter Try.func33, Try.ntmps33
    go_wp2_with (refine wpList_ld rfl 41 (.tmp 3) rfl HL1.out ?_; simp only [Act.put])
    refine KM.out.mono ?_
    rintro e w2 ⟨rfl, h2⟩
    have hga2 := Ext.blk h2 HW1.out
    have hx2 := Ext.trans HX1.out h2
    have HG2 := Lib.hid hga2
    have HX2 := Lib.hid hx2
    clear h2 hga2 hx2 HW1 HX1 KM HL1
    obtain ⟨ga, hga⟩ : ∃ ga, w.heap.size = ga := ⟨_, rfl⟩
    have HGA := Lib.hid hga
    rw [hga] at HG2 ⊢
    clear hga
    generalize Value.agg (rsC x rv).toArray = PV
    have c0 : w2.cell? ⟨ga, 0, none⟩ = some (.int .i64 N) := by rw [cell_of_row _ _ _ _ _ _ HG2.out, ← HN.out]; rfl
    have gal := heap_lt HG2.out
    go_wp2_with fail
    refine (rWord_any (.slice none 0 0) [] N w2 RS.nil (by omega) (by omega) (Nat.zero_le _)).mono ?_
    rintro e w3 ⟨v3, rfl, o3, h3⟩
    obtain ⟨b4, hb4⟩ : ∃ b4, beN N 4 = b4 := ⟨_, rfl⟩
    have hb4l : Hid (b4.length = 4) := Lib.hid (by rw [← hb4]; exact beN_length _ _)
    have o3 : OwnZ w3 w2.heap.size 5 v3 (beN N 4) := o3
    rw [hb4] at o3 HRR
    obtain ⟨A3, c3, rfl⟩ := o3.rs.form
    have hg3 := Ext.blk h3 HG2.out
    have HST : Hid (RTst w w3 ga x rv (.slice A3 b4.length c3) b4) := Lib.hid ⟨o3.mono (by omega), hg3, Ext.trans HX2.out h3, by rw [HGA.out]; exact Nat.le_refl _, heap_lt hg3⟩
    clear h3 hg3 HG2 HX2 o3 c0 gal hb4
    go_wp2_with fail
    refine (KA.out _).mono ?_
    rintro e w5 ⟨rfl, h5⟩
    have HST5 := Lib.hid (HST.out.next (h5.mono (by have := HST.out.ls; omega)) (HST.out.own.ext h5))
    clear HST h5 KA
    have hsz := str_size (rTellL (q : Int))
    by_cases he0 : N = 0
    · subst he0
      have HRL : Hid (b4 ++ (rTellL (q : Int)).flatMap (rPutT x) = R') := Lib.hid HRR.out
      have HHM : Hid (72 ∈ rTellL (q : Int) → hmayB x.h.1 x.h.2.1 x.h.2.2 = true) := Lib.hid HMS.out.2.1
      have HLM := Lib.hid hLm
      clear hLm HRR hm hbN
      generalize rTellL (q : Int) = L at *
      go_upto_region 8 with fail
      go_loopw [6, 8, 9, 10, 11] (fun bv iv _ _ _ wr => ∃ (k : Nat) (bs : List UInt8), k ≤ L.length ∧ iv = .int .i64 k ∧ bs.length ≤ 4 + k * 20000 ∧ Hid (RTst w wr ga x rv bv bs) ∧ Hid (bs ++ (L.drop k).flatMap (rPutT x) = R')) (fun _ iv _ _ _ _ => L.length - (intOf iv).toNat)
      case atStart => exact ⟨0, b4, Nat.zero_le _, rfl, by have := hb4l.out; omega, HST5, HRL⟩
      case round =>
        obtain ⟨k, bs, hk, rfl, hbs, HW, HF⟩ := hrel
        clear HST5 HRL
        obtain ⟨Ab, cb, rfl⟩ := HW.out.own.rs.form
        have c0 : wr.cell? ⟨ga, 0, none⟩ = some (.int .i64 0) := by rw [cell_of_row _ _ _ _ _ _ HW.out.ha, ← HN.out]; rfl
        have gal := HW.out.ls
        by_cases hkl : k < L.length
        · obtain ⟨y, hy⟩ : ∃ y, L[k]? = some y := ⟨_, List.getElem?_eq_getElem hkl⟩
          have hym := HLM.out y (List.mem_of_getElem? hy)
          have hyL := List.mem_of_getElem? hy
          have hks : k < (str L).size := by omega
          have hget : ((((str L)[k]).toNat : Nat) : Int) = (y.toNat : Nat) := by rw [str_get, (List.getElem?_eq_some_iff.1 hy).2]
          obtain ⟨bs2, hbe⟩ : ∃ bs2, bs ++ rPutT x y = bs2 := ⟨_, rfl⟩
          have HR3 : Hid (bs2 ++ (L.drop (k + 1)).flatMap (rPutT x) = R') := Lib.hid (by rw [← HF.out, fm_step _ hy, ← hbe, List.append_assoc])
          have HB2 := Lib.hid hbe
          have hblen : bs.length ≤ 50000 := by have : k * 20000 ≤ 2 * 20000 := Nat.mul_le_mul_right _ (by omega); omega
          have hbl := rPutT_length (x := x) (c := y) HMS.out.2.2.1 HMS.out.2.2.2.1 HMS.out.2.2.2.2
          have hb2 : bs2.length ≤ 4 + (k + 1) * 20000 := by rw [← hbe, List.length_append]; omega
          clear hbe hy HF hbl
          simp only [lettersRT, List.mem_cons, List.not_mem_nil, or_false] at hym
          obtain ⟨wo, rfl⟩ : ∃ wo : World, wo = wr := ⟨_, rfl⟩
          have t1 := HK.out.text
          have HI := HK
          rcases hym with rfl | rfl | rfl | rfl | rfl | rfl | rfl | rfl | rfl
          · as_aux_lemma =>
            have hget : ((((str L)[k]).toNat : Nat) : Int) = 72 := hget
            have cc0 : wo.cell? ⟨ga, 1, none⟩ = some (.int .i64 x.h.1) := by rw [cell_of_row _ _ _ _ _ _ HW.out.ha]; rfl
            have cc1 : wo.cell? ⟨ga, 2, none⟩ = some (.int .i64 x.h.2.1) := by rw [cell_of_row _ _ _ _ _ _ HW.out.ha]; rfl
            have cc2 : wo.cell? ⟨ga, 3, none⟩ = some (.int .i64 x.h.2.2) := by rw [cell_of_row _ _ _ _ _ _ HW.out.ha]; rfl
            have KE := Lib.hid (rencode_yes x.h.1 x.h.2.1 x.h.2.2 (HHM.out hyL) wo)
            have hle := hbytes_length x.h.1 x.h.2.1 x.h.2.2
            have HB3 : Hid (bs ++ hbytes x.h.1 x.h.2.1 x.h.2.2 = bs2) := HB2
            generalize hbytes x.h.1 x.h.2.1 x.h.2.2 = X at *
            unfold hv at KE
            go_wp2_with fail
            refine KE.out.mono ?_
            rintro e w4 ⟨rfl, h4⟩
            have h4' : Below (ga + 1) wo w4 := h4.mono (by have := HW.out.ls; omega)
            have H4 := HW.out.next h4' (HW.out.own.ext h4)
            obtain ⟨v5, w5, hr5, ho5, hb5⟩ := appZ (ty := 47) H4.own (srcT X) H4.ls (by omega)
            rw [HB3.out] at ho5
            have H3 := H4.next hb5 ho5
            clear KE h4 h4' H4 cc0 cc1 cc2
            obtain ⟨A3, c3, rfl⟩ := H3.own.rs.form
            have HH3 := Lib.hid H3
            clear H3
            go_wp2_with (at_builtin; refine wpList_app rfl (.tmp 50) (.tmp 51) 47 9 rfl hr5 ?_; simp only [Act.put])
            go_roundw
            case rel => exact ⟨k + 1, bs2, by omega, by go_num, hb2, HH3, HR3⟩
            case measure => simp only [intOf]; omega
          · as_aux_lemma =>
            have hget : ((((str L)[k]).toNat : Nat) : Int) = 65 := hget
            have e4 : wo.cell? ⟨ga, 4, none⟩ = some (.int .u8 x.at_.kind) := by rw [cell_of_row _ _ _ _ _ _ HW.out.ha]; rfl
            have e5 : wo.cell? ⟨ga, 5, none⟩ = some (.int .i64 x.at_.mode) := by rw [cell_of_row _ _ _ _ _ _ HW.out.ha]; rfl
            have e6 : wo.cell? ⟨ga, 6, none⟩ = some (.int .i64 x.at_.links) := by rw [cell_of_row _ _ _ _ _ _ HW.out.ha]; rfl
            have e7 : wo.cell? ⟨ga, 7, none⟩ = some (.int .i64 x.at_.size) := by rw [cell_of_row _ _ _ _ _ _ HW.out.ha]; rfl
            have e8 : wo.cell? ⟨ga, 8, none⟩ = some (.int .i64 x.at_.mtime) := by rw [cell_of_row _ _ _ _ _ _ HW.out.ha]; rfl
            have e9 : wo.cell? ⟨ga, 9, none⟩ = some (.int .i64 x.at_.ctime) := by rw [cell_of_row _ _ _ _ _ _ HW.out.ha]; rfl
            have e10 : wo.cell? ⟨ga, 10, none⟩ = some (.int .i64 x.at_.ino) := by rw [cell_of_row _ _ _ _ _ _ HW.out.ha]; rfl
            have e11 : wo.cell? ⟨ga, 11, none⟩ = some (.int .i64 x.at_.gen) := by rw [cell_of_row _ _ _ _ _ _ HW.out.ha]; rfl
            have KE := Lib.hid (rAttrW_any (.slice Ab bs.length cb) bs x.at_ wo HW.out.own.rs HI.out.at_ (by omega))
            rw [atV_lit0] at KE
            go_wp2_with fail
            refine KE.out.mono ?_
            clear e4 e5 e6 e7 e8 e9 e10 e11
            rintro e w4 ⟨v4, rfl, o4, h4⟩
            have h4' : Below (ga + 1) wo w4 := h4.mono (by have := HW.out.ls; omega)
            have o5 : OwnZ w4 (ga + 1) 5 v4 bs2 := by rw [← HB2.out]; exact o4.mono (by have := HW.out.ls; omega)
            have H3 := HW.out.next h4' o5
            clear KE h4 h4' o4 o5
            obtain ⟨A3, c3, rfl⟩ := H3.own.rs.form
            have HH3 := Lib.hid H3
            clear H3
            go_wp2_with fail
            go_roundw
            case rel => exact ⟨k + 1, bs2, by omega, by go_num, hb2, HH3, HR3⟩
            case measure => simp only [intOf]; omega
          ·
            as_aux_lemma =>
              have hget : ((((str L)[k]).toNat : Nat) : Int) = 116 := hget
              have cc : wo.cell? ⟨ga, 12, none⟩ = some (.string (str x.text)) := by rw [cell_of_row _ _ _ _ _ _ HW.out.ha]; rfl
              have KE := Lib.hid (rText_any (.slice Ab bs.length cb) bs x.text wo HW.out.own.rs (by omega) (by omega))
              go_wp2_with fail
              refine KE.out.mono ?_
              clear cc
              rintro e w4 ⟨v4, rfl, o4, h4⟩
              have h4' : Below (ga + 1) wo w4 := h4.mono (by have := HW.out.ls; omega)
              have o5 : OwnZ w4 (ga + 1) 5 v4 bs2 := by rw [← HB2.out]; exact o4.mono (by have := HW.out.ls; omega)
              have H3 := HW.out.next h4' o5
              clear KE h4 h4' o4 o5
              obtain ⟨A3, c3, rfl⟩ := H3.own.rs.form
              have HH3 := Lib.hid H3
              clear H3
              go_wp2_with fail
              go_roundw
              case rel => exact ⟨k + 1, bs2, by omega, by go_num, hb2, HH3, HR3⟩
              case measure => simp only [intOf]; omega
          ·
            as_aux_lemma =>
              have hget : ((((str L)[k]).toNat : Nat) : Int) = 78 := hget
              have cc : wo.cell? ⟨ga, 13, none⟩ = some (.int .i64 x.n) := by rw [cell_of_row _ _ _ _ _ _ HW.out.ha]; rfl
              have KE := Lib.hid (rInt_any (.slice Ab bs.length cb) bs x.n wo HW.out.own.rs HI.out.n.1 HI.out.n.2 (by omega))
              go_wp2_with fail
              refine KE.out.mono ?_
              clear cc
              rintro e w4 ⟨v4, rfl, o4, h4⟩
              have h4' : Below (ga + 1) wo w4 := h4.mono (by have := HW.out.ls; omega)
              have o5 : OwnZ w4 (ga + 1) 5 v4 bs2 := by rw [← HB2.out]; exact o4.mono (by have := HW.out.ls; omega)
              have H3 := HW.out.next h4' o5
              clear KE h4 h4' o4 o5
              obtain ⟨A3, c3, rfl⟩ := H3.own.rs.form
              have HH3 := Lib.hid H3
              clear H3
              go_wp2_with fail
              go_roundw
              case rel => exact ⟨k + 1, bs2, by omega, by go_num, hb2, HH3, HR3⟩
              case measure => simp only [intOf]; omega
          ·
            as_aux_lemma =>
              have hget : ((((str L)[k]).toNat : Nat) : Int) = 102 := hget
              have cc : wo.cell? ⟨ga, 14, none⟩ = some (.int .i64 x.free) := by rw [cell_of_row _ _ _ _ _ _ HW.out.ha]; rfl
              have KE := Lib.hid (rInt_any (.slice Ab bs.length cb) bs x.free wo HW.out.own.rs HI.out.free.1 HI.out.free.2 (by omega))
              go_wp2_with fail
              refine KE.out.mono ?_
              clear cc
              rintro e w4 ⟨v4, rfl, o4, h4⟩
              have h4' : Below (ga + 1) wo w4 := h4.mono (by have := HW.out.ls; omega)
              have o5 : OwnZ w4 (ga + 1) 5 v4 bs2 := by rw [← HB2.out]; exact o4.mono (by have := HW.out.ls; omega)
              have H3 := HW.out.next h4' o5
              clear KE h4 h4' o4 o5
              obtain ⟨A3, c3, rfl⟩ := H3.own.rs.form
              have HH3 := Lib.hid H3
              clear H3
              go_wp2_with fail
              go_roundw
              case rel => exact ⟨k + 1, bs2, by omega, by go_num, hb2, HH3, HR3⟩
              case measure => simp only [intOf]; omega
          ·
            as_aux_lemma =>
              have hget : ((((str L)[k]).toNat : Nat) : Int) = 117 := hget
              have cc : wo.cell? ⟨ga, 15, none⟩ = some (.int .u64 x.used) := by rw [cell_of_row _ _ _ _ _ _ HW.out.ha]; rfl
              have KE := Lib.hid (rLong_any (.slice Ab bs.length cb) bs x.used wo HW.out.own.rs HI.out.used.1 HI.out.used.2 (by omega))
              go_wp2_with fail
              refine KE.out.mono ?_
              clear cc
              rintro e w4 ⟨v4, rfl, o4, h4⟩
              have h4' : Below (ga + 1) wo w4 := h4.mono (by have := HW.out.ls; omega)
              have o5 : OwnZ w4 (ga + 1) 5 v4 bs2 := by rw [← HB2.out]; exact o4.mono (by have := HW.out.ls; omega)
              have H3 := HW.out.next h4' o5
              clear KE h4 h4' o4 o5
              obtain ⟨A3, c3, rfl⟩ := H3.own.rs.form
              have HH3 := Lib.hid H3
              clear H3
              go_wp2_with fail
              go_roundw
              case rel => exact ⟨k + 1, bs2, by omega, by go_num, hb2, HH3, HR3⟩
              case measure => simp only [intOf]; omega
          ·
            as_aux_lemma =>
              have hget : ((((str L)[k]).toNat : Nat) : Int) = 118 := hget
              have cc : wo.cell? ⟨ga, 18, none⟩ = some (.int .u64 x.verf) := by rw [cell_of_row _ _ _ _ _ _ HW.out.ha]; rfl
              have KE := Lib.hid (rLong_any (.slice Ab bs.length cb) bs x.verf wo HW.out.own.rs HI.out.verf.1 HI.out.verf.2 (by omega))
              go_wp2_with fail
              refine KE.out.mono ?_
              clear cc
              rintro e w4 ⟨v4, rfl, o4, h4⟩
              have h4' : Below (ga + 1) wo w4 := h4.mono (by have := HW.out.ls; omega)
              have o5 : OwnZ w4 (ga + 1) 5 v4 bs2 := by rw [← HB2.out]; exact o4.mono (by have := HW.out.ls; omega)
              have H3 := HW.out.next h4' o5
              clear KE h4 h4' o4 o5
              obtain ⟨A3, c3, rfl⟩ := H3.own.rs.form
              have HH3 := Lib.hid H3
              clear H3
              go_wp2_with fail
              go_roundw
              case rel => exact ⟨k + 1, bs2, by omega, by go_num, hb2, HH3, HR3⟩
              case measure => simp only [intOf]; omega
          · as_aux_lemma =>
            have hget : ((((str L)[k]).toNat : Nat) : Int) = 101 := hget
            obtain ⟨E, hE⟩ : ∃ E, (.bool x.end_ : Value) = E := ⟨_, rfl⟩
            have cc : wo.cell? ⟨ga, 16, none⟩ = some E := by rw [cell_of_row _ _ _ _ _ _ HW.out.ha, ← hE]; rfl
            have KE := Lib.hid (rFlag_any (.slice Ab bs.length cb) bs x.end_ wo HW.out.own.rs (by omega))
            rw [hE] at KE
            clear hE
            go_wp2_with fail
            refine KE.out.mono ?_
            clear cc
            rintro e w4 ⟨v4, rfl, o4, h4⟩
            have h4' : Below (ga + 1) wo w4 := h4.mono (by have := HW.out.ls; omega)
            have o5 : OwnZ w4 (ga + 1) 5 v4 bs2 := by rw [← HB2.out]; exact o4.mono (by have := HW.out.ls; omega)
            have H3 := HW.out.next h4' o5
            clear KE h4 h4' o4 o5
            obtain ⟨A3, c3, rfl⟩ := H3.own.rs.form
            have HH3 := Lib.hid H3
            clear H3
            go_wp2_with fail
            go_roundw
            case rel => exact ⟨k + 1, bs2, by omega, by go_num, hb2, HH3, HR3⟩
            case measure => simp only [intOf]; omega
          · as_aux_lemma =>
            have hget : ((((str L)[k]).toNat : Nat) : Int) = 69 := hget
            have hen := HEN.out wo HW.out.bel
            obtain ⟨Ae, ce, rfl⟩ := RR.form hen
            obtain ⟨E, hE⟩ : ∃ E, x.ents = E := ⟨_, rfl⟩
            obtain ⟨n, hn⟩ : ∃ n, E.length = n := ⟨_, rfl⟩
            have hrv : (.slice Ae x.ents.length ce : Value) = .slice Ae n ce := by rw [hE, hn]
            have hn64 : n ≤ 64 := by rw [← hn, ← hE]; exact HMS.out.2.2.2.1
            have HBE : Hid (bs ++ (beN n 4 ++ E.flatMap enB) = bs2) := Lib.hid (by rw [← HB2.out, ← hn, ← hE]; rfl)
            have HEN2 : Hid (∀ W : World, Below w.heap.size w W → RR W 3 (.slice Ae E.length ce) E.length (E.flatMap enC)) := Lib.hid fun W k => by have := HEN.out W k; rw [hE] at this; exact this
            have HEE : Hid (∀ y ∈ E, y.Ok ∧ y.name.length ≤ 255) := Lib.hid fun y hy => ⟨(HK.out.each y (by rw [hE]; exact hy)).1, longE_each HMS.out.2.2.2.2 y (by rw [hE]; exact hy)⟩
            rw [hrv] at HW
            have cc : wo.cell? ⟨ga, 17, none⟩ = some (.slice Ae n ce) := by rw [cell_of_row _ _ _ _ _ _ HW.out.ha]; rfl
            have hm : (n : Int) % 4294967296 = n := by omega
            have KE := Lib.hid (rWord_any (.slice Ab bs.length cb) bs n wo HW.out.own.rs (by omega) (by omega) (by omega))
            have HNE := Lib.hid hn
            have HRVE := Lib.hid hrv
            clear hen hrv HEN HB2 hn hE
            have HHL : Hid (bs.length ≤ 50000) := Lib.hid hblen
            go_wp2_with fail
            refine KE.out.mono ?_
            rintro e w4 ⟨v4, rfl, o4, h4⟩
            have h4' : Below (ga + 1) wo w4 := h4.mono (by have := HW.out.ls; omega)
            obtain ⟨b5, hb5⟩ : ∃ b5, bs ++ beN n 4 = b5 := ⟨_, rfl⟩
            have o5 : OwnZ w4 (ga + 1) 5 v4 b5 := by rw [← hb5]; exact o4.mono (by have := HW.out.ls; omega)
            have HB5 := Lib.hid hb5
            have HL5 : Hid (b5.length ≤ 50004) := Lib.hid (by rw [← hb5, List.length_append, beN_length]; have := HHL.out; omega)
            obtain ⟨A4, c4, rfl⟩ := o5.rs.form
            have H4 := Lib.hid (HW.out.next h4' o5)
            clear KE h4 h4' o4 o5 hb5 cc hm c0 gal hbs hblen
            go_wp2_with fail
            go_loopw [6, 11] (fun bv jv wj => ∃ (j : Nat) (bj : List UInt8), j ≤ n ∧ jv = .int .i64 j ∧ Hid (RTst w wj ga x (.slice Ae n ce) bv bj) ∧ Hid (bj = b5 ++ (E.take j).flatMap enB) ∧ Hid (bj.length ≤ 50004 + j * 280)) (fun _ jv _ => n - (intOf jv).toNat)
            case atStart => exact ⟨0, b5, Nat.zero_le _, rfl, H4, Lib.hid (by simp), HL5⟩
            case round =>
              obtain ⟨j, bj, hj, rfl, HJ, HBJ, HLJ⟩ := hrel
              clear H4
              obtain ⟨Aj, cj, rfl⟩ := HJ.out.own.rs.form
              have c17 : wr.cell? ⟨ga, 17, none⟩ = some (.slice Ae n ce) := by rw [cell_of_row _ _ _ _ _ _ HJ.out.ha]; rfl
              have gal := HJ.out.ls
              by_cases hjl : j < n
              · obtain ⟨z, hz⟩ : ∃ z, E[j]? = some z := ⟨_, List.getElem?_eq_getElem (by have := HNE.out; omega)⟩
                have hen := HEN2.out wr HJ.out.bel
                obtain ⟨b, off, rfl, hb, hcl, -⟩ := RR.at hen (by have := HNE.out; omega)
                have y0 : wr.cell? ⟨b, off + j * 3, none⟩ = some (.string (str z.name)) := RR.cellAt (enc := enC) hen enC_len hz (i := 0) rfl
                have y1 : wr.cell? ⟨b, off + j * 3 + 1, none⟩ = some (.int .i64 z.ino) := RR.cellAt (enc := enC) hen enC_len hz (i := 1) rfl
                have y2 : wr.cell? ⟨b, off + j * 3 + 2, none⟩ = some (.int .i64 z.cookie) := RR.cellAt (enc := enC) hen enC_len hz (i := 2) rfl
                have HZ := Lib.hid (HEE.out z (List.mem_of_getElem? hz))
                have HTK : Hid ((E.take (j + 1)).flatMap enB = (E.take j).flatMap enB ++ enB z) := Lib.hid (by rw [List.take_add_one, hz]; simp)
                have hn1 : n ≤ ce := by have := HNE.out; omega
                have hjb : bj.length ≤ 70000 := by have h1 := HLJ.out; have h2 : j * 280 ≤ 64 * 280 := Nat.mul_le_mul_right _ (by omega); omega
                have HJB := Lib.hid hjb
                have HZN : Hid (z.name.length ≤ 255 ∧ (textL z.name).length ≤ 264) := Lib.hid ⟨HZ.out.2, enB_len z HZ.out.2⟩
                clear hen hz hcl hjb
                go_wp2_with fail
                have e0 := fun (ψ : World → Prop) (e : ExtP wr.heap.size wr ψ) => e.cell y0 hb
                have e1 := fun (ψ : World → Prop) (e : ExtP wr.heap.size wr ψ) => e.cell y1 hb
                have e2 := fun (ψ : World → Prop) (e : ExtP wr.heap.size wr ψ) => e.cell y2 hb
                have e6 := fun (ψ : World → Prop) (e : ExtP wr.heap.size wr ψ) => e.cell c17 gal
                clear y0 y1 y2 c17
                refine wp_region_pieces 23  [(true, [0, 1, 2, 3, 4, 5, 6, 8, 9, 10, 11, 12, 13, 15, 16, 17, 18, 19, 20]), (false, [7]), (false, [14]), (false, [21]), (true, [22])] (by kernel_rfl) (by kernel_rfl) ?_; simp only [pick, List.map_cons, List.map_nil, List.flatMap_cons, List.flatMap_nil, Option.toList_some, List.singleton_append, List.drop_succ_cons, List.drop_zero, List.getElem?_cons_zero, List.getElem?_cons_succ]
                refine ⟨by kernel_rfl, ?_⟩; apply Exists.intro; refine ⟨fun ψ hψ hne => (by (repeat (go_big_quiet_step (( fail )))); exact wpQuiet_nil rfl), ?_⟩
                intro W1 h1 K hK
                clear e0 e1 e2 e6
                go_wp2_with fail
                refine (rText_any (.slice Aj bj.length cj) bj z.name W1 (HJ.out.own.rs.ext h1) (by have := HJB.out; omega) (by have := HZN.out.1; omega)).mono ?_
                rintro e W2 ⟨v2, rfl, o2, h2⟩
                obtain ⟨bA, hbA⟩ : ∃ bA, bj ++ textL z.name = bA := ⟨_, rfl⟩
                have o2 : OwnZ W2 W1.heap.size 5 v2 (bj ++ textL z.name) := o2
                rw [hbA] at o2
                have HLA : Hid (bA.length ≤ 80000) := Lib.hid (by rw [← hbA, List.length_append]; have h1 := HJB.out; have h2 := HZN.out.2; omega)
                have HBA := Lib.hid hbA
                obtain ⟨A2, c2, rfl⟩ := o2.rs.form
                clear hbA
                go_wp2_with fail
                refine hK _ _ h2 ?_
                clear hK K
                intro W3 h3 K hK
                go_wp2_with fail
                refine (rInt_any (.slice A2 bA.length c2) bA z.ino W3 (o2.rs.ext h3) HZ.out.1.ino.1 HZ.out.1.ino.2 (by have := HLA.out; omega)).mono ?_
                rintro e W4 ⟨v4, rfl, o4, h4⟩
                obtain ⟨bB, hbB⟩ : ∃ bB, bA ++ intL z.ino = bB := ⟨_, rfl⟩
                have o4 : OwnZ W4 W3.heap.size 5 v4 (bA ++ intL z.ino) := o4
                rw [hbB] at o4
                have HLB : Hid (bB.length ≤ 80008) := Lib.hid (by rw [← hbB, List.length_append, intL_length]; have h1 := HLA.out; omega)
                have HBB := Lib.hid hbB
                obtain ⟨A4, c4, rfl⟩ := o4.rs.form
                clear hbB
                go_wp2_with fail
                refine hK _ _ h4 ?_
                clear hK K
                intro W5 h5 K hK
                go_wp2_with fail
                refine (rInt_any (.slice A4 bB.length c4) bB z.cookie W5 (o4.rs.ext h5) HZ.out.1.cookie.1 HZ.out.1.cookie.2 (by have := HLB.out; omega)).mono ?_
                rintro e W6 ⟨v6, rfl, o6, h6⟩
                obtain ⟨bC, hbC⟩ : ∃ bC, bB ++ intL z.cookie = bC := ⟨_, rfl⟩
                have o6 : OwnZ W6 W5.heap.size 5 v6 (bB ++ intL z.cookie) := o6
                rw [hbC] at o6
                have HBC := Lib.hid hbC
                obtain ⟨A6, c6, rfl⟩ := o6.rs.form
                clear hbC
                go_wp2_with fail
                refine hK _ _ h6 ?_
                clear hK K
                refine ⟨by kernel_rfl, ?_⟩; apply Exists.intro; refine ⟨fun ψ hψ hne => (by (repeat (go_big_quiet_step (( fail )))); exact wpQuiet_nil rfl), ?_⟩
                intro W7 h7
                have hxx : Ext wr W5 := Ext.trans h1 (Ext.trans h2 (Ext.trans h3 (Ext.trans h4 h5)))
                have hext : Ext wr W7 := Ext.trans hxx (Ext.trans h6 h7)
                have HJ7 := Lib.hid (HJ.out.next (hext.mono (by have := HJ.out.ls; omega)) ((o6.ext h7).mono (by have h1 := HJ.out.ls; have h2 := Below.size hxx; omega)))
                have HBJ7 : Hid (bC = b5 ++ (E.take (j + 1)).flatMap enB) := Lib.hid (by rw [HTK.out, ← HBC.out, ← HBB.out, ← HBA.out, HBJ.out]; simp [enB])
                have HLJ7 : Hid (bC.length ≤ 50004 + (j + 1) * 280) := Lib.hid (by rw [← HBC.out, ← HBB.out, ← HBA.out]; simp only [List.length_append, intL_length]; have h1 := HLJ.out; have h2 := HZN.out.2; omega)
                clear hxx hext o2 o4 o6 h1 h2 h3 h4 h5 h6 h7 HJ HBJ HLJ
                go_wp2_with fail
                go_roundw
                case rel => exact ⟨j + 1, bC, by omega, by go_num, HJ7, HBJ7, HLJ7⟩
                case measure => simp only [intOf]; omega
              · obtain rfl : j = n := by omega
                have hf : bj = bs2 := by rw [← HBE.out, HBJ.out, ← HB5.out, ← HNE.out, List.take_length]; simp
                subst hf
                clear HBJ HLJ HBE HB5
                go_wp2_with fail
                go_roundw
                case rel => exact ⟨k + 1, bj, by omega, by go_num, hb2, (by rw [HRVE.out]; exact HJ), HR3⟩
                case measure => simp only [intOf]; omega
        · obtain rfl : k = L.length := by omega
          have hF := HF.out
          rw [List.drop_length] at hF
          simp only [List.flatMap_nil, List.append_nil] at hF
          subst hF
          have cvt : (convert 47 9 (.slice Ab bs.length cb)).run Try.prog wr = .ok (.string (str bs)) wr := HW.out.own.rs.conv Try.underlying47 Try.underlying5 Try.underlying9
          have HB := Lib.hid HW.out.bel
          clear HW HF
          go_wp2_with fail
          go_ret2
          exact ⟨rfl, HB.out⟩
    · have HF : Hid (b4 = R') := Lib.hid (by rw [← HRR.out]; unfold tellL; rw [if_neg he0]; simp)
      clear HRR
      generalize rTellL (q : Int) = L at *
      go_upto_region 8 with fail
      go_loopw [6, 8, 9, 10, 11] (fun bv iv _ _ _ wr => iv = .int .i64 0 ∧ bv = .slice A3 b4.length c3 ∧ Hid (RTst w wr ga x rv bv b4)) (fun _ iv _ _ _ _ => 0)
      case atStart => exact ⟨rfl, rfl, HST5⟩
      case round =>
        obtain ⟨rfl, rfl, HW⟩ := hrel
        clear HST5
        have c0 : wr.cell? ⟨ga, 0, none⟩ = some (.int .i64 N) := by rw [cell_of_row _ _ _ _ _ _ HW.out.ha, ← HN.out]; rfl
        have gal := HW.out.ls
        have cvt : (convert 47 9 (.slice A3 b4.length c3)).run Try.prog wr = .ok (.string (str b4)) wr := HW.out.own.rs.conv Try.underlying47 Try.underlying5 Try.underlying9
        have HB := Lib.hid HW.out.bel
        have hf := HF.out
        subst hf
        clear HW HF
        by_cases hL0 : L.length = 0
        · have hL0' : ¬ (0 : Int) < (L.length : Int) := by omega
          clear hL0
          go_wp2_with fail
          go_ret2
          exact ⟨rfl, HB.out⟩
        · have hL0' : (0 : Int) < (L.length : Int) := by omega
          clear hL0
          go_wp2_with fail
          go_ret2
          exact ⟨rfl, HB.out⟩
end Go.Proofs.Yteahlnoonmfjhaa
