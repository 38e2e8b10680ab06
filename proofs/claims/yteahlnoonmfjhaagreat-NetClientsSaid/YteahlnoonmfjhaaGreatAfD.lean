/- Arguments, by the document: Write. -/
import Derived.Test.YteahlnoonmfjhaaGreatAfB
import Derived.Test.YteahlnoonmfjhaaGreatAfC
import Derived.Test.YteahlnoonmfjhaaGreatMx
set_option linter.unusedVariables false
set_option maxRecDepth 100000
namespace Go.Proofs.YteahlnoonmfjhaaGreat
open Go.RowKit

theorem ext_in {w w' : World} {ψ : World → Prop} (h : ∃ e : ExtP w.heap.size w ψ, w' = e.val) : Ext w w' := by obtain ⟨e, rfl⟩ := h; exact e.ok
theorem rMay_spec {L : List UInt8} {a : AgT} (h : rMay L a = true) : (72 ∈ L → hmayB a.h.1 a.h.2.1 a.h.2.2 = true) ∧ (84 ∈ L → hmayB a.t.1 a.t.2.1 a.t.2.2 = true) ∧ a.name.length ≤ 255 ∧ a.other.length ≤ 255 ∧ a.text.length ≤ 2048 := by
  unfold rMay at h
  simp only [Bool.and_eq_true, Bool.not_eq_true'] at h
  obtain ⟨⟨⟨h1, -⟩, -⟩, h4⟩ := h
  unfold mD4 at h4
  simp only [Bool.and_eq_true, decide_eq_true_eq] at h4
  unfold mD1 at h1
  simp only [Bool.or_eq_false_iff] at h1
  obtain ⟨⟨⟨g1, g2⟩, g3⟩, g4⟩ := h1
  refine ⟨fun hm => ?_, fun hm => ?_, h4.1.1, h4.1.2, h4.2⟩
  · have : hasL L 72 = true := decide_eq_true hm
    rw [this] at g1
    simpa using g1
  · have : hasL L 84 = true := decide_eq_true hm
    rw [this] at g3
    simpa using g3
theorem number_any (a : AgT) (c : UInt8) (hc : c ∈ lettersR) (w : World) : Calls Tryz.prog 68 #[.agg (agC a).toArray, .int .u8 c.toNat] w fun e w' => e = .returned (.int .i64 (numR a c)) ∧ Below w.heap.size w w' := by
  obtain ⟨c0, c1, c2, c3, c4, c5, c6, c7, c8, c9, c10, c11, c12, c13, c14, c15⟩ := ag_cells (heap_alloc_last w (.cells (agC a).toArray 28))
  have hx := extAl w (.cells (agC a).toArray 28)
  clear c0 c1 c2 c3 c4 c5 c6 c7 c8 c15
  simp only [lettersR, List.mem_cons, List.not_mem_nil, or_false] at hc
  rcases hc with rfl | rfl | rfl | rfl | rfl | rfl | rfl | rfl | rfl | rfl | rfl | rfl
  · have e1 : numR a 72 = a.guard := rfl
    have e2 : (((72 : UInt8).toNat : Nat) : Int) = 72 := rfl
    rw [e1, e2]
    go_enter Tryz.func68, Tryz.ntmps68
    go_wp2
    go_ret
    exact ⟨rfl, hx⟩
  · have e1 : numR a 84 = a.guard := rfl
    have e2 : (((84 : UInt8).toNat : Nat) : Int) = 84 := rfl
    rw [e1, e2]
    go_enter Tryz.func68, Tryz.ntmps68
    go_wp2
    go_ret
    exact ⟨rfl, hx⟩
  · have e1 : numR a 110 = a.guard := rfl
    have e2 : (((110 : UInt8).toNat : Nat) : Int) = 110 := rfl
    rw [e1, e2]
    go_enter Tryz.func68, Tryz.ntmps68
    go_wp2
    go_ret
    exact ⟨rfl, hx⟩
  · have e1 : numR a 111 = a.guard := rfl
    have e2 : (((111 : UInt8).toNat : Nat) : Int) = 111 := rfl
    rw [e1, e2]
    go_enter Tryz.func68, Tryz.ntmps68
    go_wp2
    go_ret
    exact ⟨rfl, hx⟩
  · have e1 : numR a 116 = a.guard := rfl
    have e2 : (((116 : UInt8).toNat : Nat) : Int) = 116 := rfl
    rw [e1, e2]
    go_enter Tryz.func68, Tryz.ntmps68
    go_wp2
    go_ret
    exact ⟨rfl, hx⟩
  · have e1 : numR a 97 = a.at_ := rfl
    have e2 : (((97 : UInt8).toNat : Nat) : Int) = 97 := rfl
    rw [e1, e2]
    go_enter Tryz.func68, Tryz.ntmps68
    go_wp2
    go_ret
    exact ⟨rfl, hx⟩
  · have e1 : numR a 78 = a.n := rfl
    have e2 : (((78 : UInt8).toNat : Nat) : Int) = 78 := rfl
    rw [e1, e2]
    go_enter Tryz.func68, Tryz.ntmps68
    go_wp2
    go_ret
    exact ⟨rfl, hx⟩
  · have e1 : numR a 109 = a.mode := rfl
    have e2 : (((109 : UInt8).toNat : Nat) : Int) = 109 := rfl
    rw [e1, e2]
    go_enter Tryz.func68, Tryz.ntmps68
    go_wp2
    go_ret
    exact ⟨rfl, hx⟩
  · have e1 : numR a 115 = a.size := rfl
    have e2 : (((115 : UInt8).toNat : Nat) : Int) = 115 := rfl
    rw [e1, e2]
    go_enter Tryz.func68, Tryz.ntmps68
    go_wp2
    go_ret
    exact ⟨rfl, hx⟩
  · have e1 : numR a 83 = a.stable := rfl
    have e2 : (((83 : UInt8).toNat : Nat) : Int) = 83 := rfl
    rw [e1, e2]
    go_enter Tryz.func68, Tryz.ntmps68
    go_wp2
    go_ret
    exact ⟨rfl, hx⟩
  · have e1 : numR a 103 = a.guard := rfl
    have e2 : (((103 : UInt8).toNat : Nat) : Int) = 103 := rfl
    rw [e1, e2]
    go_enter Tryz.func68, Tryz.ntmps68
    go_wp2
    go_ret
    exact ⟨rfl, hx⟩
  · have e1 : numR a 118 = a.guard := rfl
    have e2 : (((118 : UInt8).toNat : Nat) : Int) = 118 := rfl
    rw [e1, e2]
    go_enter Tryz.func68, Tryz.ntmps68
    go_wp2
    go_ret
    exact ⟨rfl, hx⟩
theorem rPut_length {a : AgT} {c : UInt8} (h1 : a.name.length ≤ 255) (h2 : a.other.length ≤ 255) (h3 : a.text.length ≤ 2048) : (rPut a c).length ≤ 3000 := by
  have t1 := textL_length a.name
  have t2 := textL_length a.other
  have t3 := textL_length a.text
  unfold rPut
  split
  · rw [hbytes_length]; omega
  · split
    · rw [hbytes_length]; omega
    · split
      · omega
      · split
        · omega
        · split
          · omega
          · split
            · rw [beL_length]; omega
            · rw [intL_length]; omega
theorem rAskL_mem {p : Nat} (hp : p < 19) : ∀ c ∈ rAskL (p : Int), c ∈ lettersR := by
  have h : p = 0 ∨ p = 1 ∨ p = 2 ∨ p = 3 ∨ p = 4 ∨ p = 5 ∨ p = 6 ∨ p = 7 ∨ p = 8 ∨ p = 9 ∨ p = 10 ∨ p = 11 ∨ p = 12 ∨ p = 13 ∨ p = 14 ∨ p = 15 ∨ p = 16 ∨ p = 17 ∨ p = 18 := by omega
  rcases h with rfl | rfl | rfl | rfl | rfl | rfl | rfl | rfl | rfl | rfl | rfl | rfl | rfl | rfl | rfl | rfl | rfl | rfl | rfl <;> decide
theorem fm_step {α β : Type} (f : α → List β) {L : List α} {k : Nat} {x : α} (h : L[k]? = some x) : (L.drop k).flatMap f = f x ++ (L.drop (k + 1)).flatMap f := by
  have hk := (List.getElem?_eq_some_iff.1 h).1
  rw [List.drop_eq_getElem_cons hk, List.flatMap_cons]
  congr 2
  exact (List.getElem?_eq_some_iff.1 h).2
/-- What the document's loop keeps. -/
structure RWst (w wr : World) (ga : Nat) (a : AgT) (v : Value) (bs : List UInt8) : Prop where
  own : OwnZ wr (ga + 1) 5 v bs
  ha : wr.heap[ga]? = some (.cells (agC a).toArray 28 (0, 0))
  bel : Below w.heap.size w wr
  lg : w.heap.size ≤ ga
  ls : ga < wr.heap.size
theorem RWst.next {w wr w' : World} {ga : Nat} {a : AgT} {v v' : Value} {bs bs' : List UInt8} (h : RWst w wr ga a v bs) (k : Below (ga + 1) wr w') (ho : OwnZ w' (ga + 1) 5 v' bs') : RWst w w' ga a v' bs' :=
  ⟨ho, (k.block ga (Nat.lt_succ_self _)).trans h.ha, h.bel.trans (k.mono (by have := h.lg; omega)), h.lg, Nat.lt_of_lt_of_le h.ls k.size⟩
set_option maxHeartbeats 16000000 in
theorem rWrite_any (p : Int) (a : AgT) (w : World) (hp : I64 p) (hk : a.Ok) :
    Calls Tryz.prog 41 #[.int .i64 p, .agg (agC a).toArray] w fun e w' => e = .returned (.tuple #[.string (str (rW p a).1), .int .i64 (rW p a).2]) ∧ Below w.heap.size w w' := by
  obtain ⟨R, hR⟩ : ∃ R, rW p a = R := ⟨_, rfl⟩
  rw [hR]
  by_cases hb : p < 0 ∨ 19 ≤ p
  · have hR0 : R = ([], 62) := by rw [← hR]; unfold rW; exact if_pos hb
    have hx := extAl w (.cells (agC a).toArray 28)
    subst hR0
    clear hR hk
    rcases hb with hb | hb
    · go_enter Tryz.func41, Tryz.ntmps41
      go_wp2_with fail
      go_ret2
      exact ⟨rfl, hx⟩
    · have hb0 : ¬ p < 0 := by omega
      go_enter Tryz.func41, Tryz.ntmps41
      go_wp2_with fail
      go_ret2
      exact ⟨rfl, hx⟩
  · obtain ⟨q, rfl⟩ : ∃ q : Nat, p = q := ⟨p.toNat, by omega⟩
    have hq : q < 19 := by omega
    have hq' : (q : Int) < 19 := by omega
    have KM := Lib.hid (fun w : World => rMayArgs_any q hq a w hk)
    have KA := Lib.hid (fun w : World => rAskL_any q hq w)
    have hLm := rAskL_mem hq
    have hLl := rAskL_len (q : Int)
    have hR1 : R = if rMay (rAskL (q : Int)) a then ((rAskL (q : Int)).flatMap (rPut a), 0) else ([], 4) := by rw [← hR]; unfold rW; exact if_neg hb
    have HK := Lib.hid hk
    clear hR hb hk
    generalize rAskL (q : Int) = L at *
    have HLM := Lib.hid hLm
    have hsz := str_size L
    have hw1 := heap_alloc_last w (.cells (agC a).toArray 28)
    have hx1 := extAl w (.cells (agC a).toArray 28)
    have HL1 := Lib.hid (ldAg hw1)
    have HW1 := Lib.hid hw1
    have HX1 := Lib.hid hx1
    clear hw1 hx1 hLm
    cases hmay : rMay L a with
    | false =>
      rw [hmay] at KM hR1
      have hR0 : R = ([], 4) := hR1
      subst hR0
      clear hR1 hmay
      go_enter Tryz.func41, Tryz.ntmps41
      go_wp2_with (refine wpList_ld rfl 28 (.tmp 3) rfl HL1.out ?_; simp only [Act.put])
      refine (KM.out _).mono ?_
      rintro e w2 ⟨rfl, h2⟩
      have HB := Lib.hid (Below.trans HX1.out (h2.mono (Below.size HX1.out)))
      clear h2
      go_wp2_with fail
      go_ret2
      exact ⟨rfl, HB.out⟩
    | true =>
      have hms := rMay_spec hmay
      rw [hmay] at KM hR1
      have hR0 : R = (L.flatMap (rPut a), 0) := hR1
      obtain ⟨R', hR'⟩ : ∃ R', L.flatMap (rPut a) = R' := ⟨_, rfl⟩
      rw [hR'] at hR0
      subst hR0
      have HMS := Lib.hid hms
      have HRR := Lib.hid hR'
      clear hR1 hmay hms hR'
      go_enter Tryz.func41, Tryz.ntmps41
      go_wp2_with (refine wpList_ld rfl 28 (.tmp 3) rfl HL1.out ?_; simp only [Act.put])
      refine (KM.out _).mono ?_
      rintro e w2 ⟨rfl, h2⟩
      have hga2 := Ext.blk h2 HW1.out
      have hx2 := Ext.trans HX1.out h2
      have HG2 := Lib.hid hga2
      have HX2 := Lib.hid hx2
      clear h2 hga2 hx2 HW1 HX1 KM HL1
      obtain ⟨ga, hga⟩ : ∃ ga, w.heap.size = ga := ⟨_, rfl⟩
      have HGA := Lib.hid hga
      rw [hga] at HG2 ⊢
      clear hga
      go_wp2_with fail
      refine (KA.out _).mono ?_
      rintro e w3 ⟨rfl, h3⟩
      have hg3 := Ext.blk h3 HG2.out
      have HST : Hid (RWst w w3 ga a (.slice none 0 0) []) := Lib.hid ⟨OwnZ.nil, hg3, Ext.trans HX2.out h3, by rw [HGA.out]; exact Nat.le_refl _, heap_lt hg3⟩
      clear h3 hg3 HG2 HX2 KA HGA
      go_upto_region 8 with fail
      go_loopw [6, 8, 9, 10, 11, 12] (fun bv iv _ _ _ _ wr => ∃ (k : Nat) (bs : List UInt8), k ≤ L.length ∧ iv = .int .i64 k ∧ bs.length ≤ k * 3000 ∧ Hid (RWst w wr ga a bv bs) ∧ Hid (bs ++ (L.drop k).flatMap (rPut a) = R')) (fun _ iv _ _ _ _ _ => L.length - (intOf iv).toNat)
      case atStart => exact ⟨0, [], Nat.zero_le _, rfl, Nat.zero_le _, HST, HRR⟩
      case round =>
        obtain ⟨k, bs, hk, rfl, hbs, HW, HF⟩ := hrel
        clear HST HRR
        obtain ⟨Ab, cb, rfl⟩ := HW.out.own.rs.form
        by_cases hkl : k < L.length
        · obtain ⟨x, hx⟩ : ∃ x, L[k]? = some x := ⟨_, List.getElem?_eq_getElem hkl⟩
          have hxm := HLM.out x (List.mem_of_getElem? hx)
          have hxL := List.mem_of_getElem? hx
          have hks : k < (str L).size := by omega
          have hget : ((((str L)[k]).toNat : Nat) : Int) = (x.toNat : Nat) := by rw [str_get, (List.getElem?_eq_some_iff.1 hx).2]
          obtain ⟨bs2, hb2⟩ : ∃ bs2, bs ++ rPut a x = bs2 := ⟨_, rfl⟩
          have HR3 : Hid (bs2 ++ (L.drop (k + 1)).flatMap (rPut a) = R') := Lib.hid (by rw [← HF.out, fm_step _ hx, ← hb2, List.append_assoc])
          have HB2 := Lib.hid hb2
          have hblen : bs.length ≤ 12000 := by have : k * 3000 ≤ 4 * 3000 := Nat.mul_le_mul_right _ (by omega); omega
          obtain ⟨c0, c1, c2, c3, c4, c5, c6, c7, c8, c9, c10, c11, c12, c13, c14, c15⟩ := ag_cells HW.out.ha
          have gal := HW.out.ls
          have k1 := HMS.out.2.2.1
          have k2 := HMS.out.2.2.2.1
          have k3 := HMS.out.2.2.2.2
          clear hx hb2 HF
          simp only [lettersR, List.mem_cons, List.not_mem_nil, or_false] at hxm
          obtain ⟨wo, rfl⟩ : ∃ wo : World, wo = wr := ⟨_, rfl⟩
          rcases hxm with rfl | rfl | rfl | rfl | rfl | rfl | rfl | rfl | rfl | rfl | rfl | rfl
          · as_aux_lemma =>
            have hget : ((((str L)[k]).toNat : Nat) : Int) = 72 := hget
            clear c3 c4 c5 c6 c7 c8 c9 c10 c11 c12 c13 c14 c15
            have hm := HMS.out.1 hxL
            have KE := Lib.hid (rencode_yes a.h.1 a.h.2.1 a.h.2.2 hm wo)
            have hle := hbytes_length a.h.1 a.h.2.1 a.h.2.2
            have HB3 : Hid (bs ++ hbytes a.h.1 a.h.2.1 a.h.2.2 = bs2) := HB2
            clear hm
            generalize hbytes a.h.1 a.h.2.1 a.h.2.2 = X at *
            unfold hv at KE
            go_wp2_with fail
            refine KE.out.mono ?_
            rintro e w4 ⟨rfl, h4⟩
            have h4' : Below (ga + 1) wo w4 := h4.mono (by have := HW.out.ls; omega)
            have H4 := HW.out.next h4' (HW.out.own.ext h4)
            obtain ⟨v5, w5, hr5, ho5, hb5⟩ := appZ (ty := 103) H4.own (srcT X) H4.ls (by omega)
            rw [HB3.out] at ho5
            have H3 := H4.next hb5 ho5
            clear KE h4 h4' H4 c0 c1 c2
            obtain ⟨A3, c3, rfl⟩ := H3.own.rs.form
            have HH3 := Lib.hid H3
            have hbl := rPut_length (a := a) (c := 72) HMS.out.2.2.1 HMS.out.2.2.2.1 HMS.out.2.2.2.2
            have hb2 : bs2.length ≤ (k + 1) * 3000 := by rw [← HB2.out, List.length_append]; omega
            clear H3 hbl
            go_wp2_with (at_builtin; refine wpList_app rfl (.tmp 49) (.tmp 50) 103 9 rfl hr5 ?_; simp only [Act.put])
            go_roundw
            case rel => exact ⟨k + 1, bs2, by omega, by go_num, hb2, HH3, HR3⟩
            case measure => simp only [intOf]; omega
          · as_aux_lemma =>
            have hget : ((((str L)[k]).toNat : Nat) : Int) = 84 := hget
            clear c0 c1 c2 c6 c7 c8 c9 c10 c11 c12 c13 c14 c15
            have hm := HMS.out.2.1 hxL
            have KE := Lib.hid (rencode_yes a.t.1 a.t.2.1 a.t.2.2 hm wo)
            have hle := hbytes_length a.t.1 a.t.2.1 a.t.2.2
            have HB3 : Hid (bs ++ hbytes a.t.1 a.t.2.1 a.t.2.2 = bs2) := HB2
            clear hm
            generalize hbytes a.t.1 a.t.2.1 a.t.2.2 = X at *
            unfold hv at KE
            go_wp2_with fail
            refine KE.out.mono ?_
            rintro e w4 ⟨rfl, h4⟩
            have h4' : Below (ga + 1) wo w4 := h4.mono (by have := HW.out.ls; omega)
            have H4 := HW.out.next h4' (HW.out.own.ext h4)
            obtain ⟨v5, w5, hr5, ho5, hb5⟩ := appZ (ty := 103) H4.own (srcT X) H4.ls (by omega)
            rw [HB3.out] at ho5
            have H3 := H4.next hb5 ho5
            clear KE h4 h4' H4 c3 c4 c5
            obtain ⟨A3, c3, rfl⟩ := H3.own.rs.form
            have HH3 := Lib.hid H3
            have hbl := rPut_length (a := a) (c := 84) HMS.out.2.2.1 HMS.out.2.2.2.1 HMS.out.2.2.2.2
            have hb2 : bs2.length ≤ (k + 1) * 3000 := by rw [← HB2.out, List.length_append]; omega
            clear H3 hbl
            go_wp2_with (at_builtin; refine wpList_app rfl (.tmp 60) (.tmp 61) 103 9 rfl hr5 ?_; simp only [Act.put])
            go_roundw
            case rel => exact ⟨k + 1, bs2, by omega, by go_num, hb2, HH3, HR3⟩
            case measure => simp only [intOf]; omega
          · as_aux_lemma =>
            have hget : ((((str L)[k]).toNat : Nat) : Int) = 110 := hget
            clear c0 c1 c2 c3 c4 c5 c7 c8 c9 c10 c11 c12 c13 c14 c15
            have KE := Lib.hid (rText_any (.slice Ab bs.length cb) bs a.name wo HW.out.own.rs (by omega) (by omega))
            go_wp2_with fail
            refine KE.out.mono ?_
            rintro e w4 ⟨v4, rfl, o4, h4⟩
            have h4' : Below (ga + 1) wo w4 := h4.mono (by have := HW.out.ls; omega)
            have o5 : OwnZ w4 (ga + 1) 5 v4 bs2 := by rw [← HB2.out]; exact o4.mono (by have := HW.out.ls; omega)
            have H3 := HW.out.next h4' o5
            clear KE h4 h4' o4 o5 c6
            obtain ⟨A3, c3, rfl⟩ := H3.own.rs.form
            have HH3 := Lib.hid H3
            have hbl := rPut_length (a := a) (c := 110) HMS.out.2.2.1 HMS.out.2.2.2.1 HMS.out.2.2.2.2
            have hb2 : bs2.length ≤ (k + 1) * 3000 := by rw [← HB2.out, List.length_append]; omega
            clear H3 hbl
            go_wp2_with fail
            go_roundw
            case rel => exact ⟨k + 1, bs2, by omega, by go_num, hb2, HH3, HR3⟩
            case measure => simp only [intOf]; omega
          · as_aux_lemma =>
            have hget : ((((str L)[k]).toNat : Nat) : Int) = 111 := hget
            clear c0 c1 c2 c3 c4 c5 c6 c8 c9 c10 c11 c12 c13 c14 c15
            have KE := Lib.hid (rText_any (.slice Ab bs.length cb) bs a.other wo HW.out.own.rs (by omega) (by omega))
            go_wp2_with fail
            refine KE.out.mono ?_
            rintro e w4 ⟨v4, rfl, o4, h4⟩
            have h4' : Below (ga + 1) wo w4 := h4.mono (by have := HW.out.ls; omega)
            have o5 : OwnZ w4 (ga + 1) 5 v4 bs2 := by rw [← HB2.out]; exact o4.mono (by have := HW.out.ls; omega)
            have H3 := HW.out.next h4' o5
            clear KE h4 h4' o4 o5 c7
            obtain ⟨A3, c3, rfl⟩ := H3.own.rs.form
            have HH3 := Lib.hid H3
            have hbl := rPut_length (a := a) (c := 111) HMS.out.2.2.1 HMS.out.2.2.2.1 HMS.out.2.2.2.2
            have hb2 : bs2.length ≤ (k + 1) * 3000 := by rw [← HB2.out, List.length_append]; omega
            clear H3 hbl
            go_wp2_with fail
            go_roundw
            case rel => exact ⟨k + 1, bs2, by omega, by go_num, hb2, HH3, HR3⟩
            case measure => simp only [intOf]; omega
          · as_aux_lemma =>
            have hget : ((((str L)[k]).toNat : Nat) : Int) = 116 := hget
            clear c0 c1 c2 c3 c4 c5 c6 c7 c9 c10 c11 c12 c13 c14 c15
            have KE := Lib.hid (rText_any (.slice Ab bs.length cb) bs a.text wo HW.out.own.rs (by omega) (by omega))
            go_wp2_with fail
            refine KE.out.mono ?_
            rintro e w4 ⟨v4, rfl, o4, h4⟩
            have h4' : Below (ga + 1) wo w4 := h4.mono (by have := HW.out.ls; omega)
            have o5 : OwnZ w4 (ga + 1) 5 v4 bs2 := by rw [← HB2.out]; exact o4.mono (by have := HW.out.ls; omega)
            have H3 := HW.out.next h4' o5
            clear KE h4 h4' o4 o5 c8
            obtain ⟨A3, c3, rfl⟩ := H3.own.rs.form
            have HH3 := Lib.hid H3
            have hbl := rPut_length (a := a) (c := 116) HMS.out.2.2.1 HMS.out.2.2.2.1 HMS.out.2.2.2.2
            have hb2 : bs2.length ≤ (k + 1) * 3000 := by rw [← HB2.out, List.length_append]; omega
            clear H3 hbl
            go_wp2_with fail
            go_roundw
            case rel => exact ⟨k + 1, bs2, by omega, by go_num, hb2, HH3, HR3⟩
            case measure => simp only [intOf]; omega
          · as_aux_lemma =>
            have hget : ((((str L)[k]).toNat : Nat) : Int) = 97 := hget
            clear c0 c1 c2 c3 c4 c5 c6 c7 c8 c9 c10 c11 c12 c13 c14 c15
            have HL : Hid (∀ w', Ext wo w' → (Instr.loadAt 28 (.pointer (some ⟨ga, 0, none⟩))).run Tryz.prog w' = .ok (.agg (agC a).toArray) w') := Lib.hid fun w' k => ldAg (Ext.blk k HW.out.ha)
            have KN : Hid (∀ w' : World, Calls Tryz.prog 68 #[.agg (agC a).toArray, .int .u8 97] w' fun e w'' => e = .returned (.int .i64 a.at_) ∧ Below w'.heap.size w' w'') := Lib.hid fun w' => number_any a 97 (by decide) w'
            go_upto_region 11 with fail
            refine wp_region_pieces 6  [(true, [0, 1, 2, 3, 4, 5])] (by kernel_rfl) (by kernel_rfl) ?_; simp only [pick, List.map_cons, List.map_nil, List.flatMap_cons, List.flatMap_nil, Option.toList_some, List.singleton_append, List.drop_succ_cons, List.drop_zero, List.getElem?_cons_zero, List.getElem?_cons_succ]
            refine ⟨by kernel_rfl, ?_⟩; apply Exists.intro; refine ⟨fun ψ hψ hne => (by (repeat (first | ( go_big_quiet_want; refine quiet_ld 28 (.tmp 3) rfl (fun w' hw' => HL.out w' (ext_in hw')) ?_; go_simp; go_big_quiet_on ) | go_big_quiet_step ((  go_at_call 68; exact extP_of hψ (Nat.le_refl _) (KN.out _) )))); exact wpQuiet_nil rfl), ?_⟩
            intro Wa ha
            have HWa := HW.out.next (ha.mono (by have := HW.out.ls; omega)) (HW.out.own.ext ha)
            go_wp2_with fail
            refine (rInt_any (.slice Ab bs.length cb) bs a.at_ Wa HWa.own.rs HK.out.at_.1 HK.out.at_.2 (by omega)).mono ?_
            rintro e w4 ⟨v4, rfl, o4, h4⟩
            have h4' : Below (ga + 1) Wa w4 := h4.mono (by have := HWa.ls; omega)
            have o5 : OwnZ w4 (ga + 1) 5 v4 bs2 := by rw [← HB2.out]; exact o4.mono (by have := HWa.ls; omega)
            have H3 := HWa.next h4' o5
            obtain ⟨A3, c3, rfl⟩ := o5.rs.form
            clear KN HL h4 h4' o4 o5 HWa ha
            have HH3 := Lib.hid H3
            have hbl := rPut_length (a := a) (c := 97) HMS.out.2.2.1 HMS.out.2.2.2.1 HMS.out.2.2.2.2
            have hb2 : bs2.length ≤ (k + 1) * 3000 := by rw [← HB2.out, List.length_append]; omega
            clear H3 hbl
            go_wp2_with fail
            go_roundw
            case rel => exact ⟨k + 1, bs2, by omega, by go_num, hb2, HH3, HR3⟩
            case measure => simp only [intOf]; omega
          · as_aux_lemma =>
            have hget : ((((str L)[k]).toNat : Nat) : Int) = 78 := hget
            clear c0 c1 c2 c3 c4 c5 c6 c7 c8 c9 c10 c11 c12 c13 c14 c15
            have HL : Hid (∀ w', Ext wo w' → (Instr.loadAt 28 (.pointer (some ⟨ga, 0, none⟩))).run Tryz.prog w' = .ok (.agg (agC a).toArray) w') := Lib.hid fun w' k => ldAg (Ext.blk k HW.out.ha)
            have KN : Hid (∀ w' : World, Calls Tryz.prog 68 #[.agg (agC a).toArray, .int .u8 78] w' fun e w'' => e = .returned (.int .i64 a.n) ∧ Below w'.heap.size w' w'') := Lib.hid fun w' => number_any a 78 (by decide) w'
            go_upto_region 11 with fail
            refine wp_region_pieces 6  [(true, [0, 1, 2, 3, 4, 5])] (by kernel_rfl) (by kernel_rfl) ?_; simp only [pick, List.map_cons, List.map_nil, List.flatMap_cons, List.flatMap_nil, Option.toList_some, List.singleton_append, List.drop_succ_cons, List.drop_zero, List.getElem?_cons_zero, List.getElem?_cons_succ]
            refine ⟨by kernel_rfl, ?_⟩; apply Exists.intro; refine ⟨fun ψ hψ hne => (by (repeat (first | ( go_big_quiet_want; refine quiet_ld 28 (.tmp 3) rfl (fun w' hw' => HL.out w' (ext_in hw')) ?_; go_simp; go_big_quiet_on ) | go_big_quiet_step ((  go_at_call 68; exact extP_of hψ (Nat.le_refl _) (KN.out _) )))); exact wpQuiet_nil rfl), ?_⟩
            intro Wa ha
            have HWa := HW.out.next (ha.mono (by have := HW.out.ls; omega)) (HW.out.own.ext ha)
            go_wp2_with fail
            refine (rInt_any (.slice Ab bs.length cb) bs a.n Wa HWa.own.rs HK.out.n.1 HK.out.n.2 (by omega)).mono ?_
            rintro e w4 ⟨v4, rfl, o4, h4⟩
            have h4' : Below (ga + 1) Wa w4 := h4.mono (by have := HWa.ls; omega)
            have o5 : OwnZ w4 (ga + 1) 5 v4 bs2 := by rw [← HB2.out]; exact o4.mono (by have := HWa.ls; omega)
            have H3 := HWa.next h4' o5
            obtain ⟨A3, c3, rfl⟩ := o5.rs.form
            clear KN HL h4 h4' o4 o5 HWa ha
            have HH3 := Lib.hid H3
            have hbl := rPut_length (a := a) (c := 78) HMS.out.2.2.1 HMS.out.2.2.2.1 HMS.out.2.2.2.2
            have hb2 : bs2.length ≤ (k + 1) * 3000 := by rw [← HB2.out, List.length_append]; omega
            clear H3 hbl
            go_wp2_with fail
            go_roundw
            case rel => exact ⟨k + 1, bs2, by omega, by go_num, hb2, HH3, HR3⟩
            case measure => simp only [intOf]; omega
          · as_aux_lemma =>
            have hget : ((((str L)[k]).toNat : Nat) : Int) = 109 := hget
            clear c0 c1 c2 c3 c4 c5 c6 c7 c8 c9 c10 c11 c12 c13 c14 c15
            have HL : Hid (∀ w', Ext wo w' → (Instr.loadAt 28 (.pointer (some ⟨ga, 0, none⟩))).run Tryz.prog w' = .ok (.agg (agC a).toArray) w') := Lib.hid fun w' k => ldAg (Ext.blk k HW.out.ha)
            have KN : Hid (∀ w' : World, Calls Tryz.prog 68 #[.agg (agC a).toArray, .int .u8 109] w' fun e w'' => e = .returned (.int .i64 a.mode) ∧ Below w'.heap.size w' w'') := Lib.hid fun w' => number_any a 109 (by decide) w'
            go_upto_region 11 with fail
            refine wp_region_pieces 6  [(true, [0, 1, 2, 3, 4, 5])] (by kernel_rfl) (by kernel_rfl) ?_; simp only [pick, List.map_cons, List.map_nil, List.flatMap_cons, List.flatMap_nil, Option.toList_some, List.singleton_append, List.drop_succ_cons, List.drop_zero, List.getElem?_cons_zero, List.getElem?_cons_succ]
            refine ⟨by kernel_rfl, ?_⟩; apply Exists.intro; refine ⟨fun ψ hψ hne => (by (repeat (first | ( go_big_quiet_want; refine quiet_ld 28 (.tmp 3) rfl (fun w' hw' => HL.out w' (ext_in hw')) ?_; go_simp; go_big_quiet_on ) | go_big_quiet_step ((  go_at_call 68; exact extP_of hψ (Nat.le_refl _) (KN.out _) )))); exact wpQuiet_nil rfl), ?_⟩
            intro Wa ha
            have HWa := HW.out.next (ha.mono (by have := HW.out.ls; omega)) (HW.out.own.ext ha)
            go_wp2_with fail
            refine (rInt_any (.slice Ab bs.length cb) bs a.mode Wa HWa.own.rs HK.out.mode.1 HK.out.mode.2 (by omega)).mono ?_
            rintro e w4 ⟨v4, rfl, o4, h4⟩
            have h4' : Below (ga + 1) Wa w4 := h4.mono (by have := HWa.ls; omega)
            have o5 : OwnZ w4 (ga + 1) 5 v4 bs2 := by rw [← HB2.out]; exact o4.mono (by have := HWa.ls; omega)
            have H3 := HWa.next h4' o5
            obtain ⟨A3, c3, rfl⟩ := o5.rs.form
            clear KN HL h4 h4' o4 o5 HWa ha
            have HH3 := Lib.hid H3
            have hbl := rPut_length (a := a) (c := 109) HMS.out.2.2.1 HMS.out.2.2.2.1 HMS.out.2.2.2.2
            have hb2 : bs2.length ≤ (k + 1) * 3000 := by rw [← HB2.out, List.length_append]; omega
            clear H3 hbl
            go_wp2_with fail
            go_roundw
            case rel => exact ⟨k + 1, bs2, by omega, by go_num, hb2, HH3, HR3⟩
            case measure => simp only [intOf]; omega
          · as_aux_lemma =>
            have hget : ((((str L)[k]).toNat : Nat) : Int) = 115 := hget
            clear c0 c1 c2 c3 c4 c5 c6 c7 c8 c9 c10 c11 c12 c13 c14 c15
            have HL : Hid (∀ w', Ext wo w' → (Instr.loadAt 28 (.pointer (some ⟨ga, 0, none⟩))).run Tryz.prog w' = .ok (.agg (agC a).toArray) w') := Lib.hid fun w' k => ldAg (Ext.blk k HW.out.ha)
            have KN : Hid (∀ w' : World, Calls Tryz.prog 68 #[.agg (agC a).toArray, .int .u8 115] w' fun e w'' => e = .returned (.int .i64 a.size) ∧ Below w'.heap.size w' w'') := Lib.hid fun w' => number_any a 115 (by decide) w'
            go_upto_region 11 with fail
            refine wp_region_pieces 6  [(true, [0, 1, 2, 3, 4, 5])] (by kernel_rfl) (by kernel_rfl) ?_; simp only [pick, List.map_cons, List.map_nil, List.flatMap_cons, List.flatMap_nil, Option.toList_some, List.singleton_append, List.drop_succ_cons, List.drop_zero, List.getElem?_cons_zero, List.getElem?_cons_succ]
            refine ⟨by kernel_rfl, ?_⟩; apply Exists.intro; refine ⟨fun ψ hψ hne => (by (repeat (first | ( go_big_quiet_want; refine quiet_ld 28 (.tmp 3) rfl (fun w' hw' => HL.out w' (ext_in hw')) ?_; go_simp; go_big_quiet_on ) | go_big_quiet_step ((  go_at_call 68; exact extP_of hψ (Nat.le_refl _) (KN.out _) )))); exact wpQuiet_nil rfl), ?_⟩
            intro Wa ha
            have HWa := HW.out.next (ha.mono (by have := HW.out.ls; omega)) (HW.out.own.ext ha)
            go_wp2_with fail
            refine (rInt_any (.slice Ab bs.length cb) bs a.size Wa HWa.own.rs HK.out.size.1 HK.out.size.2 (by omega)).mono ?_
            rintro e w4 ⟨v4, rfl, o4, h4⟩
            have h4' : Below (ga + 1) Wa w4 := h4.mono (by have := HWa.ls; omega)
            have o5 : OwnZ w4 (ga + 1) 5 v4 bs2 := by rw [← HB2.out]; exact o4.mono (by have := HWa.ls; omega)
            have H3 := HWa.next h4' o5
            obtain ⟨A3, c3, rfl⟩ := o5.rs.form
            clear KN HL h4 h4' o4 o5 HWa ha
            have HH3 := Lib.hid H3
            have hbl := rPut_length (a := a) (c := 115) HMS.out.2.2.1 HMS.out.2.2.2.1 HMS.out.2.2.2.2
            have hb2 : bs2.length ≤ (k + 1) * 3000 := by rw [← HB2.out, List.length_append]; omega
            clear H3 hbl
            go_wp2_with fail
            go_roundw
            case rel => exact ⟨k + 1, bs2, by omega, by go_num, hb2, HH3, HR3⟩
            case measure => simp only [intOf]; omega
          · as_aux_lemma =>
            have hget : ((((str L)[k]).toNat : Nat) : Int) = 83 := hget
            clear c0 c1 c2 c3 c4 c5 c6 c7 c8 c9 c10 c11 c12 c13 c14 c15
            have HL : Hid (∀ w', Ext wo w' → (Instr.loadAt 28 (.pointer (some ⟨ga, 0, none⟩))).run Tryz.prog w' = .ok (.agg (agC a).toArray) w') := Lib.hid fun w' k => ldAg (Ext.blk k HW.out.ha)
            have KN : Hid (∀ w' : World, Calls Tryz.prog 68 #[.agg (agC a).toArray, .int .u8 83] w' fun e w'' => e = .returned (.int .i64 a.stable) ∧ Below w'.heap.size w' w'') := Lib.hid fun w' => number_any a 83 (by decide) w'
            go_upto_region 11 with fail
            refine wp_region_pieces 6  [(true, [0, 1, 2, 3, 4, 5])] (by kernel_rfl) (by kernel_rfl) ?_; simp only [pick, List.map_cons, List.map_nil, List.flatMap_cons, List.flatMap_nil, Option.toList_some, List.singleton_append, List.drop_succ_cons, List.drop_zero, List.getElem?_cons_zero, List.getElem?_cons_succ]
            refine ⟨by kernel_rfl, ?_⟩; apply Exists.intro; refine ⟨fun ψ hψ hne => (by (repeat (first | ( go_big_quiet_want; refine quiet_ld 28 (.tmp 3) rfl (fun w' hw' => HL.out w' (ext_in hw')) ?_; go_simp; go_big_quiet_on ) | go_big_quiet_step ((  go_at_call 68; exact extP_of hψ (Nat.le_refl _) (KN.out _) )))); exact wpQuiet_nil rfl), ?_⟩
            intro Wa ha
            have HWa := HW.out.next (ha.mono (by have := HW.out.ls; omega)) (HW.out.own.ext ha)
            go_wp2_with fail
            refine (rInt_any (.slice Ab bs.length cb) bs a.stable Wa HWa.own.rs HK.out.stable.1 HK.out.stable.2 (by omega)).mono ?_
            rintro e w4 ⟨v4, rfl, o4, h4⟩
            have h4' : Below (ga + 1) Wa w4 := h4.mono (by have := HWa.ls; omega)
            have o5 : OwnZ w4 (ga + 1) 5 v4 bs2 := by rw [← HB2.out]; exact o4.mono (by have := HWa.ls; omega)
            have H3 := HWa.next h4' o5
            obtain ⟨A3, c3, rfl⟩ := o5.rs.form
            clear KN HL h4 h4' o4 o5 HWa ha
            have HH3 := Lib.hid H3
            have hbl := rPut_length (a := a) (c := 83) HMS.out.2.2.1 HMS.out.2.2.2.1 HMS.out.2.2.2.2
            have hb2 : bs2.length ≤ (k + 1) * 3000 := by rw [← HB2.out, List.length_append]; omega
            clear H3 hbl
            go_wp2_with fail
            go_roundw
            case rel => exact ⟨k + 1, bs2, by omega, by go_num, hb2, HH3, HR3⟩
            case measure => simp only [intOf]; omega
          · as_aux_lemma =>
            have hget : ((((str L)[k]).toNat : Nat) : Int) = 103 := hget
            clear c0 c1 c2 c3 c4 c5 c6 c7 c8 c9 c10 c11 c12 c13 c14 c15
            have HL : Hid (∀ w', Ext wo w' → (Instr.loadAt 28 (.pointer (some ⟨ga, 0, none⟩))).run Tryz.prog w' = .ok (.agg (agC a).toArray) w') := Lib.hid fun w' k => ldAg (Ext.blk k HW.out.ha)
            have KN : Hid (∀ w' : World, Calls Tryz.prog 68 #[.agg (agC a).toArray, .int .u8 103] w' fun e w'' => e = .returned (.int .i64 a.guard) ∧ Below w'.heap.size w' w'') := Lib.hid fun w' => number_any a 103 (by decide) w'
            go_upto_region 11 with fail
            refine wp_region_pieces 6  [(true, [0, 1, 2, 3, 4, 5])] (by kernel_rfl) (by kernel_rfl) ?_; simp only [pick, List.map_cons, List.map_nil, List.flatMap_cons, List.flatMap_nil, Option.toList_some, List.singleton_append, List.drop_succ_cons, List.drop_zero, List.getElem?_cons_zero, List.getElem?_cons_succ]
            refine ⟨by kernel_rfl, ?_⟩; apply Exists.intro; refine ⟨fun ψ hψ hne => (by (repeat (first | ( go_big_quiet_want; refine quiet_ld 28 (.tmp 3) rfl (fun w' hw' => HL.out w' (ext_in hw')) ?_; go_simp; go_big_quiet_on ) | go_big_quiet_step ((  go_at_call 68; exact extP_of hψ (Nat.le_refl _) (KN.out _) )))); exact wpQuiet_nil rfl), ?_⟩
            intro Wa ha
            have HWa := HW.out.next (ha.mono (by have := HW.out.ls; omega)) (HW.out.own.ext ha)
            go_wp2_with fail
            refine (rInt_any (.slice Ab bs.length cb) bs a.guard Wa HWa.own.rs HK.out.guard.1 HK.out.guard.2 (by omega)).mono ?_
            rintro e w4 ⟨v4, rfl, o4, h4⟩
            have h4' : Below (ga + 1) Wa w4 := h4.mono (by have := HWa.ls; omega)
            have o5 : OwnZ w4 (ga + 1) 5 v4 bs2 := by rw [← HB2.out]; exact o4.mono (by have := HWa.ls; omega)
            have H3 := HWa.next h4' o5
            obtain ⟨A3, c3, rfl⟩ := o5.rs.form
            clear KN HL h4 h4' o4 o5 HWa ha
            have HH3 := Lib.hid H3
            have hbl := rPut_length (a := a) (c := 103) HMS.out.2.2.1 HMS.out.2.2.2.1 HMS.out.2.2.2.2
            have hb2 : bs2.length ≤ (k + 1) * 3000 := by rw [← HB2.out, List.length_append]; omega
            clear H3 hbl
            go_wp2_with fail
            go_roundw
            case rel => exact ⟨k + 1, bs2, by omega, by go_num, hb2, HH3, HR3⟩
            case measure => simp only [intOf]; omega
          · as_aux_lemma =>
            have hget : ((((str L)[k]).toNat : Nat) : Int) = 118 := hget
            clear c0 c1 c2 c3 c4 c5 c6 c7 c8 c9 c10 c11 c12 c13 c14
            have KE := Lib.hid (rLong_any (.slice Ab bs.length cb) bs a.verf wo HW.out.own.rs HK.out.verf.1 HK.out.verf.2 (by omega))
            go_wp2_with fail
            refine KE.out.mono ?_
            rintro e w4 ⟨v4, rfl, o4, h4⟩
            have h4' : Below (ga + 1) wo w4 := h4.mono (by have := HW.out.ls; omega)
            have o5 : OwnZ w4 (ga + 1) 5 v4 bs2 := by rw [← HB2.out]; exact o4.mono (by have := HW.out.ls; omega)
            have H3 := HW.out.next h4' o5
            clear KE h4 h4' o4 o5 c15
            obtain ⟨A3, c3, rfl⟩ := H3.own.rs.form
            have HH3 := Lib.hid H3
            have hbl := rPut_length (a := a) (c := 118) HMS.out.2.2.1 HMS.out.2.2.2.1 HMS.out.2.2.2.2
            have hb2 : bs2.length ≤ (k + 1) * 3000 := by rw [← HB2.out, List.length_append]; omega
            clear H3 hbl
            go_wp2_with fail
            go_roundw
            case rel => exact ⟨k + 1, bs2, by omega, by go_num, hb2, HH3, HR3⟩
            case measure => simp only [intOf]; omega
        · obtain rfl : k = L.length := by omega
          have hF := HF.out
          rw [List.drop_length] at hF
          simp only [List.flatMap_nil, List.append_nil] at hF
          subst hF
          have cvt : (convert 103 9 (.slice Ab bs.length cb)).run Tryz.prog wr = .ok (.string (str bs)) wr := HW.out.own.rs.conv Tryz.underlying103 Tryz.underlying5 Tryz.underlying9
          have HB := Lib.hid HW.out.bel
          clear HW HF
          go_wp2_with fail
          go_ret2
          exact ⟨rfl, HB.out⟩
end Go.Proofs.YteahlnoonmfjhaaGreat
