/- Results, by the document: MayResult. -/
import Derived.Test.YteahlnoonmfjhaaGreatRsF
import Derived.Test.YteahlnoonmfjhaaGreatAfB
import Derived.Deep.DeepCutAuto
set_option linter.unusedVariables false
set_option maxRecDepth 100000
namespace Go.Proofs.YteahlnoonmfjhaaGreat
open Go.RowKit

def tD1 (L : List UInt8) (x : RsT) : Bool := (hasL L 72 && !hmayB x.h.1 x.h.2.1 x.h.2.2) || (!hasL L 72 && !z3 x.h) || (hasL L 65 && (decide (x.at_.kind < 1) || decide (3 < x.at_.kind))) || (!hasL L 65 && !decide (x.at_ = at0))
def tD2 (L : List UInt8) (x : RsT) : Bool := (!hasL L 116 && !zS x.text) || (!hasL L 78 && !zI x.n) || (!hasL L 102 && !zI x.free) || (!hasL L 117 && !zI x.used) || (!hasL L 101 && x.end_) || (!hasL L 69 && decide ((0 : Int) < (x.ents.length : Int))) || (!hasL L 118 && !zI x.verf)
def tD4 (x : RsT) : Bool := decide (x.text.length ≤ 2048) && decide (x.ents.length ≤ 64)
def rTmay (L : List UInt8) (x : RsT) : Bool := !tD1 L x && !tD2 L x && !longE x.ents && tD4 x
/-- The letters that a result of this error tells. -/
def tellL (p : Int) (e : Int) : List UInt8 := if e = 0 then rTellL p else []
def rMayT (p : Int) (x : RsT) : Bool := if x.e < 0 ∨ 63 < x.e then false else rTmay (tellL p x.e) x
theorem neq_at (a : AtT) (w : World) : (binOp .neq 57 (.agg #[.int .u8 a.kind, .int .i64 a.mode, .int .i64 a.links, .int .i64 a.size, .int .i64 a.mtime, .int .i64 a.ctime, .int .i64 a.ino, .int .i64 a.gen]) (.agg #[.int .u8 0, .int .i64 0, .int .i64 0, .int .i64 0, .int .i64 0, .int .i64 0, .int .i64 0, .int .i64 0])).run Tryz.prog w = .ok (.bool (!decide (a = at0))) w := by
  go_simp
  by_cases e0 : ¬ (a.kind = 0)
  · rw [if_neg e0]
    have : a ≠ at0 := fun h => e0 (by rw [h]; rfl)
    simp [this]
  replace e0 := Decidable.not_not.1 e0
  rw [if_pos e0]
  by_cases e1 : ¬ (a.mode = 0)
  · rw [if_neg e1]
    have : a ≠ at0 := fun h => e1 (by rw [h]; rfl)
    simp [this]
  replace e1 := Decidable.not_not.1 e1
  rw [if_pos e1]
  by_cases e2 : ¬ (a.links = 0)
  · rw [if_neg e2]
    have : a ≠ at0 := fun h => e2 (by rw [h]; rfl)
    simp [this]
  replace e2 := Decidable.not_not.1 e2
  rw [if_pos e2]
  by_cases e3 : ¬ (a.size = 0)
  · rw [if_neg e3]
    have : a ≠ at0 := fun h => e3 (by rw [h]; rfl)
    simp [this]
  replace e3 := Decidable.not_not.1 e3
  rw [if_pos e3]
  by_cases e4 : ¬ (a.mtime = 0)
  · rw [if_neg e4]
    have : a ≠ at0 := fun h => e4 (by rw [h]; rfl)
    simp [this]
  replace e4 := Decidable.not_not.1 e4
  rw [if_pos e4]
  by_cases e5 : ¬ (a.ctime = 0)
  · rw [if_neg e5]
    have : a ≠ at0 := fun h => e5 (by rw [h]; rfl)
    simp [this]
  replace e5 := Decidable.not_not.1 e5
  rw [if_pos e5]
  by_cases e6 : ¬ (a.ino = 0)
  · rw [if_neg e6]
    have : a ≠ at0 := fun h => e6 (by rw [h]; rfl)
    simp [this]
  replace e6 := Decidable.not_not.1 e6
  rw [if_pos e6]
  by_cases e7 : ¬ (a.gen = 0)
  · rw [if_neg e7]
    have : a ≠ at0 := fun h => e7 (by rw [h]; rfl)
    simp [this]
  replace e7 := Decidable.not_not.1 e7
  rw [if_pos e7]
  have : a = at0 := by
    obtain ⟨_, _, _, _, _, _, _, _⟩ := a
    simp only at e0 e1 e2 e3 e4 e5 e6 e7
    subst e0 e1 e2 e3 e4 e5 e6 e7
    rfl
  simp [this]
theorem rs_cells {w : World} {g : Nat} {T : TypeId} {fr : Nat × Nat} {x : RsT} {v : Value} (h : w.heap[g]? = some (.cells (rsC x v).toArray T fr)) :
    w.cell? ⟨g, 0, none⟩ = some (.int .i64 x.e) ∧ w.cell? ⟨g, 1, none⟩ = some (.int .i64 x.h.1) ∧ w.cell? ⟨g, 2, none⟩ = some (.int .i64 x.h.2.1) ∧ w.cell? ⟨g, 3, none⟩ = some (.int .i64 x.h.2.2) ∧
    w.cell? ⟨g, 4, none⟩ = some (.int .u8 x.at_.kind) ∧ w.cell? ⟨g, 5, none⟩ = some (.int .i64 x.at_.mode) ∧ w.cell? ⟨g, 6, none⟩ = some (.int .i64 x.at_.links) ∧ w.cell? ⟨g, 7, none⟩ = some (.int .i64 x.at_.size) ∧ w.cell? ⟨g, 8, none⟩ = some (.int .i64 x.at_.mtime) ∧ w.cell? ⟨g, 9, none⟩ = some (.int .i64 x.at_.ctime) ∧ w.cell? ⟨g, 10, none⟩ = some (.int .i64 x.at_.ino) ∧ w.cell? ⟨g, 11, none⟩ = some (.int .i64 x.at_.gen) ∧
    w.cell? ⟨g, 12, none⟩ = some (.string (str x.text)) ∧ w.cell? ⟨g, 13, none⟩ = some (.int .i64 x.n) ∧ w.cell? ⟨g, 14, none⟩ = some (.int .i64 x.free) ∧ w.cell? ⟨g, 15, none⟩ = some (.int .u64 x.used) ∧ w.cell? ⟨g, 16, none⟩ = some (.bool x.end_) ∧ w.cell? ⟨g, 17, none⟩ = some v ∧ w.cell? ⟨g, 18, none⟩ = some (.int .u64 x.verf) := by
  refine ⟨?_, ?_, ?_, ?_, ?_, ?_, ?_, ?_, ?_, ?_, ?_, ?_, ?_, ?_, ?_, ?_, ?_, ?_, ?_⟩ <;> (rw [cell_of_row _ _ _ _ _ _ h]; rfl)
structure RsAt (w3 : World) (ga gz : Nat) (x : RsT) (v : Value) : Prop where
  ha : w3.heap[ga]? = some (.cells (rsC x v).toArray 60 (0, 0))
  hz : w3.heap[gz]? = some (.cells #[.int .i64 0, .int .i64 0, .int .i64 0] 25 (0, 0))
attribute [local go_sem ↓] neq_hz neq_at
theorem tcombo1 (p : Nat) (hp : p < 19) (e : Int) : (hasL (tellL (p : Nat) e) 72, hasL (tellL (p : Nat) e) 65) ∈ [(false, false), (false, true), (true, true), (true, false)] := by
  unfold tellL
  by_cases he : e = 0
  · rw [if_pos he]
    have h : p = 0 ∨ p = 1 ∨ p = 2 ∨ p = 3 ∨ p = 4 ∨ p = 5 ∨ p = 6 ∨ p = 7 ∨ p = 8 ∨ p = 9 ∨ p = 10 ∨ p = 11 ∨ p = 12 ∨ p = 13 ∨ p = 14 ∨ p = 15 ∨ p = 16 ∨ p = 17 ∨ p = 18 := by omega
    rcases h with rfl | rfl | rfl | rfl | rfl | rfl | rfl | rfl | rfl | rfl | rfl | rfl | rfl | rfl | rfl | rfl | rfl | rfl | rfl <;> decide
  · rw [if_neg he]
    decide
theorem tcombo2 (p : Nat) (hp : p < 19) (e : Int) : (hasL (tellL (p : Nat) e) 116, hasL (tellL (p : Nat) e) 78, hasL (tellL (p : Nat) e) 102, hasL (tellL (p : Nat) e) 117, hasL (tellL (p : Nat) e) 101, hasL (tellL (p : Nat) e) 69, hasL (tellL (p : Nat) e) 118) ∈ [(false, false, false, false, false, false, false), (true, false, false, false, false, false, false), (true, false, false, false, true, false, false), (false, true, false, false, false, false, true), (false, false, false, false, true, true, true), (false, true, true, true, false, false, false), (false, false, false, false, false, false, true)] := by
  unfold tellL
  by_cases he : e = 0
  · rw [if_pos he]
    have h : p = 0 ∨ p = 1 ∨ p = 2 ∨ p = 3 ∨ p = 4 ∨ p = 5 ∨ p = 6 ∨ p = 7 ∨ p = 8 ∨ p = 9 ∨ p = 10 ∨ p = 11 ∨ p = 12 ∨ p = 13 ∨ p = 14 ∨ p = 15 ∨ p = 16 ∨ p = 17 ∨ p = 18 := by omega
    rcases h with rfl | rfl | rfl | rfl | rfl | rfl | rfl | rfl | rfl | rfl | rfl | rfl | rfl | rfl | rfl | rfl | rfl | rfl | rfl <;> decide
  · rw [if_neg he]
    decide
set_option maxHeartbeats 16000000 in
theorem rMayResult_any (p : Nat) (hp : p < 19) (x : RsT) (rv : Value) (w : World) (hk : x.Okw) (he : I64 x.e) (hr : EnR w rv x.ents) :
    Calls Tryz.prog 83 #[.int .i64 p, .agg (rsC x rv).toArray] w fun e w' => e = .returned (.bool (rMayT p x)) ∧ Below w.heap.size w w' := by
  have KA := Lib.hid (fun w : World => rTellL_any p hp w)
  have hLl := rTellL_len p
  obtain ⟨R, hR⟩ : ∃ R, rMayT p x = R := ⟨_, rfl⟩
  rw [hR]
  have HR := Lib.hid hR
  have HK := Lib.hid hk
  have q1 := tcombo1 p hp x.e
  have q2 := tcombo2 p hp x.e
  obtain ⟨N, hN⟩ : ∃ N, x.e = N := ⟨_, rfl⟩
  have HN := Lib.hid hN
  rw [hN] at q1 q2 he
  obtain ⟨A, c, rfl⟩ := RR.form hr
  obtain ⟨n, hn⟩ : ∃ n, x.ents.length = n := ⟨_, rfl⟩
  have HNN := Lib.hid hn
  have hnl : n ≤ 100000 := by rw [← hn]; exact hk.ents
  have hw1 := heap_alloc_last w (.cells (rsC x (.slice A n c)).toArray 60)
  have hx1 := extAl w (.cells (rsC x (.slice A n c)).toArray 60)
  rw [hn] at hr ⊢
  have HE := Lib.hid (hr.ext hx1)
  have HW1 := Lib.hid hw1
  have HX1 := Lib.hid hx1
  clear hw1 hx1 hR hk hN hn hr
  go_enter Tryz.func83, Tryz.ntmps83
  go_upto_region 1 with fail
  generalize w.alloc (.cells (rsC x (.slice A n c)).toArray 60) = W1 at *
  generalize Value.agg (rsC x (.slice A n c)).toArray = PV
  have c0 : W1.cell? ⟨w.heap.size, 0, none⟩ = some (.int .i64 N) := by rw [cell_of_row _ _ _ _ _ _ HW1.out, ← HN.out]; rfl
  have gal := heap_lt HW1.out
  by_cases h0 : N < 0
  · have hR0 : R = false := by rw [← HR.out]; unfold rMayT; rw [HN.out, if_pos (.inl h0)]
    subst hR0
    go_wp2_with fail
    go_ret
    exact ⟨rfl, HX1.out⟩
  by_cases h63 : 63 < N
  · have hR0 : R = false := by rw [← HR.out]; unfold rMayT; rw [HN.out, if_pos (.inr h63)]
    subst hR0
    go_wp2_with fail
    go_ret
    exact ⟨rfl, HX1.out⟩
  have HR2 : Hid (rTmay (tellL p N) x = R) := Lib.hid (by rw [← HR.out]; unfold rMayT; rw [HN.out, if_neg (by omega)])
  clear HR
  go_wp2_with fail
  refine (KA.out _).mono ?_
  rintro e w2 ⟨rfl, h2⟩
  have hga2 := Ext.blk h2 HW1.out
  have HG2 := Lib.hid hga2
  have HX2 := Lib.hid (Ext.trans HX1.out h2)
  have HE2 := Lib.hid (RR.ext HE.out h2)
  have c0 : w2.cell? ⟨w.heap.size, 0, none⟩ = some (.int .i64 N) := by rw [cell_of_row _ _ _ _ _ _ HG2.out, ← HN.out]; rfl
  have gal := heap_lt HG2.out
  clear hga2 h2 HW1 HX1 KA HE
  have hLt : (tellL p N).length ≤ 4 := by unfold tellL; split; exact hLl; exact Nat.zero_le _
  have HT : Hid (tellL p N = if N = 0 then rTellL p else []) := Lib.hid rfl
  generalize tellL p N = L at *
  obtain ⟨S, hS⟩ : ∃ S, str L = S := ⟨_, rfl⟩
  have HS0 : Hid (N = 0 → str (rTellL p) = S) := Lib.hid (fun h => by rw [← hS, HT.out, if_pos h])
  have HS1 : Hid (N ≠ 0 → (⟨#[]⟩ : ByteArray) = S) := Lib.hid (fun h => by rw [← hS, HT.out, if_neg h]; rfl)
  clear hLl HT
  go_upto_if 20 with fail
  go_cut [5] (fun sv wx => sv = .string S ∧ Hid (w2 = wx))
  case first =>
    by_cases hz : N = 0
    · have hb : (N != 0) = false := by rw [hz]; rfl
      have e := HS0.out hz
      have HEQ := Lib.hid e
      clear e HS0 HS1 hz
      go_wp2_with fail
      all_goals (go_meet; case rel => exact ⟨by rw [HEQ.out], Lib.hid rfl⟩)
    · have hb : (N != 0) = true := by simp [hz]
      have e := HS1.out hz
      have HEQ := Lib.hid e
      clear e HS0 HS1 hz
      go_wp2_with fail
      all_goals (go_meet; case rel => exact ⟨by rw [HEQ.out], Lib.hid rfl⟩)
  case rest =>
  obtain ⟨rfl, HWC⟩ := hcut
  have hwc := HWC.out
  subst hwc
  clear HWC c0 gal HS0 HS1
  go_upto_region 7 with fail
  have hz3 := heap_alloc_last w2 (.cells #[.int .i64 0, .int .i64 0, .int .i64 0] 25)
  have hx3 := extAl w2 (.cells #[.int .i64 0, .int .i64 0, .int .i64 0] 25)
  have HAT : Hid (RsAt (w2.alloc (.cells #[.int .i64 0, .int .i64 0, .int .i64 0] 25)) w.heap.size w2.heap.size x (.slice A n c)) := Lib.hid ⟨Ext.blk hx3 HG2.out, hz3⟩
  have HX3 := Lib.hid (Ext.trans HX2.out hx3)
  have HE3 := Lib.hid (RR.ext HE2.out hx3)
  clear hz3 hx3 HG2 HX2 HE2
  generalize w2.alloc (.cells #[.int .i64 0, .int .i64 0, .int .i64 0] 25) = w3 at *
  generalize w2.heap.size = gz at *
  have HE0 : Hid (∀ W : World, Ext w3 W → EnR W (.slice A n c) x.ents) := Lib.hid fun W k => RR.ext HE3.out k
  obtain ⟨ga, hga⟩ : ∃ ga, w.heap.size = ga := ⟨_, rfl⟩
  rw [hga] at HAT ⊢
  clear hga HE3
  obtain ⟨w0, hw0⟩ : ∃ w0, w0 = w3 := ⟨_, rfl⟩
  rw [← hw0] at HE0
  have HX0 : Hid (Ext w0 w3) := Lib.hid (by rw [hw0]; exact Ext.refl _)
  clear hw0
  obtain ⟨b72, hb72⟩ : ∃ b, hasL L 72 = b := ⟨_, rfl⟩
  obtain ⟨b65, hb65⟩ : ∃ b, hasL L 65 = b := ⟨_, rfl⟩
  have K72 : Hid (∀ wx : World, Calls Tryz.prog 101 #[.string S, .int .u8 72] wx fun e w' => e = .returned (.bool b72) ∧ w' = wx) := Lib.hid fun wx => by rw [← hS, ← hb72]; exact rhas_any L 72 wx (by omega)
  have K65 : Hid (∀ wx : World, Calls Tryz.prog 101 #[.string S, .int .u8 65] wx fun e w' => e = .returned (.bool b65) ∧ w' = wx) := Lib.hid fun wx => by rw [← hS, ← hb65]; exact rhas_any L 65 wx (by omega)
  obtain ⟨mh, hmh⟩ : ∃ m, hmayB x.h.1 x.h.2.1 x.h.2.2 = m := ⟨_, rfl⟩
  obtain ⟨zh, hzh⟩ : ∃ z, z3 x.h = z := ⟨_, rfl⟩
  have HD1 : Hid (tD1 L x = ((b72 && !mh) || (!b72 && !zh) || (b65 && (decide (x.at_.kind < 1) || decide (3 < x.at_.kind))) || (!b65 && !decide (x.at_ = at0)))) := Lib.hid (by unfold tD1; rw [hb72, hb65, hmh, hzh])
  have KMH : Hid (∀ wx : World, Calls Tryz.prog 102 #[.agg #[.int .i64 x.h.1, .int .i64 x.h.2.1, .int .i64 x.h.2.2]] wx fun e w' => e = .returned (.bool mh) ∧ w' = wx.alloc (.cells #[.int .i64 x.h.1, .int .i64 x.h.2.1, .int .i64 x.h.2.2] 25)) := Lib.hid fun wx => by rw [← hmh]; exact rmay_x _ _ _ wx
  have hzh' : z3 (x.h.1, x.h.2.1, x.h.2.2) = zh := hzh
  rw [hb72, hb65] at q1
  clear hb72 hb65 hmh hzh
  go_cut [67] (fun dv wx => ∃ d, dv = .bool d ∧ Hid (d = tD1 L x) ∧ Hid (Ext w3 wx))
  case first =>
    obtain ⟨-, c1, c2, c3, c4, c5, c6, c7, c8, c9, c10, c11, -⟩ := rs_cells HAT.out.ha
    obtain ⟨d0, d1, d2, -, -, -, gzl⟩ := blk3 HAT.out.hz
    have gal := heap_lt HAT.out.ha
    clear HR2 HX3 HAT HE0 HX0
    simp only [List.mem_cons, List.not_mem_nil, or_false, Prod.mk.injEq] at q1
    rcases q1 with ⟨rfl, rfl⟩ | ⟨rfl, rfl⟩ | ⟨rfl, rfl⟩ | ⟨rfl, rfl⟩
    ·
      as_aux_lemma =>
        go_wp2_with (first | (go_at_call 101; with_reducible refine (K72.out _).mono ?_; rintro e wx ⟨rfl, rfl⟩) | (go_at_call 101; with_reducible refine (K65.out _).mono ?_; rintro e wx ⟨rfl, rfl⟩) | (go_at_call 102; with_reducible refine (KMH.out _).mono ?_; rintro e wx ⟨rfl, rfl⟩))
        all_goals (go_meet; case rel => exact ⟨_, rfl, Lib.hid (by rw [HD1.out]; simp [*]), Lib.hid (by first | exact Ext.refl _ | exact extAl _ _ | exact Ext.trans (extAl _ _) (extAl _ _))⟩)
    ·
      as_aux_lemma =>
        go_wp2_with (first | (go_at_call 101; with_reducible refine (K72.out _).mono ?_; rintro e wx ⟨rfl, rfl⟩) | (go_at_call 101; with_reducible refine (K65.out _).mono ?_; rintro e wx ⟨rfl, rfl⟩) | (go_at_call 102; with_reducible refine (KMH.out _).mono ?_; rintro e wx ⟨rfl, rfl⟩))
        all_goals (go_meet; case rel => exact ⟨_, rfl, Lib.hid (by rw [HD1.out]; simp [*]), Lib.hid (by first | exact Ext.refl _ | exact extAl _ _ | exact Ext.trans (extAl _ _) (extAl _ _))⟩)
    ·
      as_aux_lemma =>
        go_wp2_with (first | (go_at_call 101; with_reducible refine (K72.out _).mono ?_; rintro e wx ⟨rfl, rfl⟩) | (go_at_call 101; with_reducible refine (K65.out _).mono ?_; rintro e wx ⟨rfl, rfl⟩) | (go_at_call 102; with_reducible refine (KMH.out _).mono ?_; rintro e wx ⟨rfl, rfl⟩))
        all_goals (go_meet; case rel => exact ⟨_, rfl, Lib.hid (by rw [HD1.out]; simp [*]), Lib.hid (by first | exact Ext.refl _ | exact extAl _ _ | exact Ext.trans (extAl _ _) (extAl _ _))⟩)
    ·
      as_aux_lemma =>
        go_wp2_with (first | (go_at_call 101; with_reducible refine (K72.out _).mono ?_; rintro e wx ⟨rfl, rfl⟩) | (go_at_call 101; with_reducible refine (K65.out _).mono ?_; rintro e wx ⟨rfl, rfl⟩) | (go_at_call 102; with_reducible refine (KMH.out _).mono ?_; rintro e wx ⟨rfl, rfl⟩))
        all_goals (go_meet; case rel => exact ⟨_, rfl, Lib.hid (by rw [HD1.out]; simp [*]), Lib.hid (by first | exact Ext.refl _ | exact extAl _ _ | exact Ext.trans (extAl _ _) (extAl _ _))⟩)
  case rest =>
  obtain ⟨d1, rfl, HE1, HXX⟩ := hcut
  have HX0' := Lib.hid (Ext.trans HX0.out HXX.out)
  clear HX0
  have HX4 := Lib.hid (Ext.trans HX3.out HXX.out)
  have HAT4 : Hid (RsAt wc ga gz x (.slice A n c)) := Lib.hid ⟨Ext.blk HXX.out HAT.out.ha, Ext.blk HXX.out HAT.out.hz⟩
  clear HX3 HAT HXX w3
  obtain ⟨w3, rfl⟩ : ∃ w3 : World, w3 = wc := ⟨_, rfl⟩
  have HX3 := HX4
  have HAT := HAT4
  clear HX4 HAT4
  have HX0 := HX0'
  clear HX0'
  cases d1 with
  | true =>
    have hR0 : R = false := by rw [← HR2.out]; unfold rTmay; rw [← HE1.out]; simp
    subst hR0
    go_wp2_with fail
    go_ret
    exact ⟨rfl, HX3.out⟩
  | false =>
  obtain ⟨b116, hb116⟩ : ∃ b, hasL L 116 = b := ⟨_, rfl⟩
  obtain ⟨b78, hb78⟩ : ∃ b, hasL L 78 = b := ⟨_, rfl⟩
  obtain ⟨b102, hb102⟩ : ∃ b, hasL L 102 = b := ⟨_, rfl⟩
  obtain ⟨b117, hb117⟩ : ∃ b, hasL L 117 = b := ⟨_, rfl⟩
  obtain ⟨b101, hb101⟩ : ∃ b, hasL L 101 = b := ⟨_, rfl⟩
  obtain ⟨b69, hb69⟩ : ∃ b, hasL L 69 = b := ⟨_, rfl⟩
  obtain ⟨b118, hb118⟩ : ∃ b, hasL L 118 = b := ⟨_, rfl⟩
  have K116 : Hid (∀ wx : World, Calls Tryz.prog 101 #[.string S, .int .u8 116] wx fun e w' => e = .returned (.bool b116) ∧ w' = wx) := Lib.hid fun wx => by rw [← hS, ← hb116]; exact rhas_any L 116 wx (by omega)
  have K78 : Hid (∀ wx : World, Calls Tryz.prog 101 #[.string S, .int .u8 78] wx fun e w' => e = .returned (.bool b78) ∧ w' = wx) := Lib.hid fun wx => by rw [← hS, ← hb78]; exact rhas_any L 78 wx (by omega)
  have K102 : Hid (∀ wx : World, Calls Tryz.prog 101 #[.string S, .int .u8 102] wx fun e w' => e = .returned (.bool b102) ∧ w' = wx) := Lib.hid fun wx => by rw [← hS, ← hb102]; exact rhas_any L 102 wx (by omega)
  have K117 : Hid (∀ wx : World, Calls Tryz.prog 101 #[.string S, .int .u8 117] wx fun e w' => e = .returned (.bool b117) ∧ w' = wx) := Lib.hid fun wx => by rw [← hS, ← hb117]; exact rhas_any L 117 wx (by omega)
  have K101 : Hid (∀ wx : World, Calls Tryz.prog 101 #[.string S, .int .u8 101] wx fun e w' => e = .returned (.bool b101) ∧ w' = wx) := Lib.hid fun wx => by rw [← hS, ← hb101]; exact rhas_any L 101 wx (by omega)
  have K69 : Hid (∀ wx : World, Calls Tryz.prog 101 #[.string S, .int .u8 69] wx fun e w' => e = .returned (.bool b69) ∧ w' = wx) := Lib.hid fun wx => by rw [← hS, ← hb69]; exact rhas_any L 69 wx (by omega)
  have K118 : Hid (∀ wx : World, Calls Tryz.prog 101 #[.string S, .int .u8 118] wx fun e w' => e = .returned (.bool b118) ∧ w' = wx) := Lib.hid fun wx => by rw [← hS, ← hb118]; exact rhas_any L 118 wx (by omega)
  obtain ⟨ee, hee⟩ : ∃ ee, x.end_ = ee := ⟨_, rfl⟩
  have HD2 : Hid (tD2 L x = ((!b116 && !decide ((str x.text).toList = [])) || (!b78 && !decide (x.n = 0)) || (!b102 && !decide (x.free = 0)) || (!b117 && !decide (x.used = 0)) || (!b101 && ee) || (!b69 && decide ((0 : Int) < (n : Int))) || (!b118 && !decide (x.verf = 0)))) := Lib.hid (by unfold tD2 zS zI; rw [hb116, hb78, hb102, hb117, hb101, hb69, hb118, strL, hee, HNN.out])
  have HEE := Lib.hid hee
  rw [hb116, hb78, hb102, hb117, hb101, hb69, hb118] at q2
  clear hb116 hb78 hb102 hb117 hb101 hb69 hb118 hee
  go_upto_region 9 with fail
  go_cut [135] (fun dv wx => ∃ d, dv = .bool d ∧ Hid (d = tD2 L x) ∧ Hid (Ext w3 wx))
  case first =>
    simp only [List.append_eq, List.cons_append, List.nil_append]
    obtain ⟨-, -, -, -, -, -, -, -, -, -, -, -, c12, c13, c14, c15, c16, c17, c18⟩ := rs_cells HAT.out.ha
    rw [HEE.out] at c16
    have gal := heap_lt HAT.out.ha
    clear HR2 HX3 HAT HE0 HX0 HEE
    simp only [List.mem_cons, List.not_mem_nil, or_false, Prod.mk.injEq] at q2
    cases ee with
    | false =>
      rcases q2 with ⟨rfl, rfl, rfl, rfl, rfl, rfl, rfl⟩ | ⟨rfl, rfl, rfl, rfl, rfl, rfl, rfl⟩ | ⟨rfl, rfl, rfl, rfl, rfl, rfl, rfl⟩ | ⟨rfl, rfl, rfl, rfl, rfl, rfl, rfl⟩ | ⟨rfl, rfl, rfl, rfl, rfl, rfl, rfl⟩ | ⟨rfl, rfl, rfl, rfl, rfl, rfl, rfl⟩ | ⟨rfl, rfl, rfl, rfl, rfl, rfl, rfl⟩
      ·
        as_aux_lemma =>
          go_wp2_with (first | (go_at_call 101; with_reducible refine (K116.out _).mono ?_; rintro e wx ⟨rfl, rfl⟩) | (go_at_call 101; with_reducible refine (K78.out _).mono ?_; rintro e wx ⟨rfl, rfl⟩) | (go_at_call 101; with_reducible refine (K102.out _).mono ?_; rintro e wx ⟨rfl, rfl⟩) | (go_at_call 101; with_reducible refine (K117.out _).mono ?_; rintro e wx ⟨rfl, rfl⟩) | (go_at_call 101; with_reducible refine (K101.out _).mono ?_; rintro e wx ⟨rfl, rfl⟩) | (go_at_call 101; with_reducible refine (K69.out _).mono ?_; rintro e wx ⟨rfl, rfl⟩) | (go_at_call 101; with_reducible refine (K118.out _).mono ?_; rintro e wx ⟨rfl, rfl⟩))
          all_goals (go_meet; case rel => exact ⟨_, rfl, Lib.hid (by rw [HD2.out]; first | (simp [*]; done) | ((repeat rw [bne_dec]); simp [*]; done) | (simp [*]; omega) | ((repeat rw [bne_dec]); simp [*]; omega)), Lib.hid (Ext.refl _)⟩)
      ·
        as_aux_lemma =>
          go_wp2_with (first | (go_at_call 101; with_reducible refine (K116.out _).mono ?_; rintro e wx ⟨rfl, rfl⟩) | (go_at_call 101; with_reducible refine (K78.out _).mono ?_; rintro e wx ⟨rfl, rfl⟩) | (go_at_call 101; with_reducible refine (K102.out _).mono ?_; rintro e wx ⟨rfl, rfl⟩) | (go_at_call 101; with_reducible refine (K117.out _).mono ?_; rintro e wx ⟨rfl, rfl⟩) | (go_at_call 101; with_reducible refine (K101.out _).mono ?_; rintro e wx ⟨rfl, rfl⟩) | (go_at_call 101; with_reducible refine (K69.out _).mono ?_; rintro e wx ⟨rfl, rfl⟩) | (go_at_call 101; with_reducible refine (K118.out _).mono ?_; rintro e wx ⟨rfl, rfl⟩))
          all_goals (go_meet; case rel => exact ⟨_, rfl, Lib.hid (by rw [HD2.out]; first | (simp [*]; done) | ((repeat rw [bne_dec]); simp [*]; done) | (simp [*]; omega) | ((repeat rw [bne_dec]); simp [*]; omega)), Lib.hid (Ext.refl _)⟩)
      ·
        as_aux_lemma =>
          go_wp2_with (first | (go_at_call 101; with_reducible refine (K116.out _).mono ?_; rintro e wx ⟨rfl, rfl⟩) | (go_at_call 101; with_reducible refine (K78.out _).mono ?_; rintro e wx ⟨rfl, rfl⟩) | (go_at_call 101; with_reducible refine (K102.out _).mono ?_; rintro e wx ⟨rfl, rfl⟩) | (go_at_call 101; with_reducible refine (K117.out _).mono ?_; rintro e wx ⟨rfl, rfl⟩) | (go_at_call 101; with_reducible refine (K101.out _).mono ?_; rintro e wx ⟨rfl, rfl⟩) | (go_at_call 101; with_reducible refine (K69.out _).mono ?_; rintro e wx ⟨rfl, rfl⟩) | (go_at_call 101; with_reducible refine (K118.out _).mono ?_; rintro e wx ⟨rfl, rfl⟩))
          all_goals (go_meet; case rel => exact ⟨_, rfl, Lib.hid (by rw [HD2.out]; first | (simp [*]; done) | ((repeat rw [bne_dec]); simp [*]; done) | (simp [*]; omega) | ((repeat rw [bne_dec]); simp [*]; omega)), Lib.hid (Ext.refl _)⟩)
      ·
        as_aux_lemma =>
          go_wp2_with (first | (go_at_call 101; with_reducible refine (K116.out _).mono ?_; rintro e wx ⟨rfl, rfl⟩) | (go_at_call 101; with_reducible refine (K78.out _).mono ?_; rintro e wx ⟨rfl, rfl⟩) | (go_at_call 101; with_reducible refine (K102.out _).mono ?_; rintro e wx ⟨rfl, rfl⟩) | (go_at_call 101; with_reducible refine (K117.out _).mono ?_; rintro e wx ⟨rfl, rfl⟩) | (go_at_call 101; with_reducible refine (K101.out _).mono ?_; rintro e wx ⟨rfl, rfl⟩) | (go_at_call 101; with_reducible refine (K69.out _).mono ?_; rintro e wx ⟨rfl, rfl⟩) | (go_at_call 101; with_reducible refine (K118.out _).mono ?_; rintro e wx ⟨rfl, rfl⟩))
          all_goals (go_meet; case rel => exact ⟨_, rfl, Lib.hid (by rw [HD2.out]; first | (simp [*]; done) | ((repeat rw [bne_dec]); simp [*]; done) | (simp [*]; omega) | ((repeat rw [bne_dec]); simp [*]; omega)), Lib.hid (Ext.refl _)⟩)
      ·
        as_aux_lemma =>
          go_wp2_with (first | (go_at_call 101; with_reducible refine (K116.out _).mono ?_; rintro e wx ⟨rfl, rfl⟩) | (go_at_call 101; with_reducible refine (K78.out _).mono ?_; rintro e wx ⟨rfl, rfl⟩) | (go_at_call 101; with_reducible refine (K102.out _).mono ?_; rintro e wx ⟨rfl, rfl⟩) | (go_at_call 101; with_reducible refine (K117.out _).mono ?_; rintro e wx ⟨rfl, rfl⟩) | (go_at_call 101; with_reducible refine (K101.out _).mono ?_; rintro e wx ⟨rfl, rfl⟩) | (go_at_call 101; with_reducible refine (K69.out _).mono ?_; rintro e wx ⟨rfl, rfl⟩) | (go_at_call 101; with_reducible refine (K118.out _).mono ?_; rintro e wx ⟨rfl, rfl⟩))
          all_goals (go_meet; case rel => exact ⟨_, rfl, Lib.hid (by rw [HD2.out]; first | (simp [*]; done) | ((repeat rw [bne_dec]); simp [*]; done) | (simp [*]; omega) | ((repeat rw [bne_dec]); simp [*]; omega)), Lib.hid (Ext.refl _)⟩)
      ·
        as_aux_lemma =>
          go_wp2_with (first | (go_at_call 101; with_reducible refine (K116.out _).mono ?_; rintro e wx ⟨rfl, rfl⟩) | (go_at_call 101; with_reducible refine (K78.out _).mono ?_; rintro e wx ⟨rfl, rfl⟩) | (go_at_call 101; with_reducible refine (K102.out _).mono ?_; rintro e wx ⟨rfl, rfl⟩) | (go_at_call 101; with_reducible refine (K117.out _).mono ?_; rintro e wx ⟨rfl, rfl⟩) | (go_at_call 101; with_reducible refine (K101.out _).mono ?_; rintro e wx ⟨rfl, rfl⟩) | (go_at_call 101; with_reducible refine (K69.out _).mono ?_; rintro e wx ⟨rfl, rfl⟩) | (go_at_call 101; with_reducible refine (K118.out _).mono ?_; rintro e wx ⟨rfl, rfl⟩))
          all_goals (go_meet; case rel => exact ⟨_, rfl, Lib.hid (by rw [HD2.out]; first | (simp [*]; done) | ((repeat rw [bne_dec]); simp [*]; done) | (simp [*]; omega) | ((repeat rw [bne_dec]); simp [*]; omega)), Lib.hid (Ext.refl _)⟩)
      ·
        as_aux_lemma =>
          go_wp2_with (first | (go_at_call 101; with_reducible refine (K116.out _).mono ?_; rintro e wx ⟨rfl, rfl⟩) | (go_at_call 101; with_reducible refine (K78.out _).mono ?_; rintro e wx ⟨rfl, rfl⟩) | (go_at_call 101; with_reducible refine (K102.out _).mono ?_; rintro e wx ⟨rfl, rfl⟩) | (go_at_call 101; with_reducible refine (K117.out _).mono ?_; rintro e wx ⟨rfl, rfl⟩) | (go_at_call 101; with_reducible refine (K101.out _).mono ?_; rintro e wx ⟨rfl, rfl⟩) | (go_at_call 101; with_reducible refine (K69.out _).mono ?_; rintro e wx ⟨rfl, rfl⟩) | (go_at_call 101; with_reducible refine (K118.out _).mono ?_; rintro e wx ⟨rfl, rfl⟩))
          all_goals (go_meet; case rel => exact ⟨_, rfl, Lib.hid (by rw [HD2.out]; first | (simp [*]; done) | ((repeat rw [bne_dec]); simp [*]; done) | (simp [*]; omega) | ((repeat rw [bne_dec]); simp [*]; omega)), Lib.hid (Ext.refl _)⟩)
    | true =>
      rcases q2 with ⟨rfl, rfl, rfl, rfl, rfl, rfl, rfl⟩ | ⟨rfl, rfl, rfl, rfl, rfl, rfl, rfl⟩ | ⟨rfl, rfl, rfl, rfl, rfl, rfl, rfl⟩ | ⟨rfl, rfl, rfl, rfl, rfl, rfl, rfl⟩ | ⟨rfl, rfl, rfl, rfl, rfl, rfl, rfl⟩ | ⟨rfl, rfl, rfl, rfl, rfl, rfl, rfl⟩ | ⟨rfl, rfl, rfl, rfl, rfl, rfl, rfl⟩
      ·
        as_aux_lemma =>
          go_wp2_with (first | (go_at_call 101; with_reducible refine (K116.out _).mono ?_; rintro e wx ⟨rfl, rfl⟩) | (go_at_call 101; with_reducible refine (K78.out _).mono ?_; rintro e wx ⟨rfl, rfl⟩) | (go_at_call 101; with_reducible refine (K102.out _).mono ?_; rintro e wx ⟨rfl, rfl⟩) | (go_at_call 101; with_reducible refine (K117.out _).mono ?_; rintro e wx ⟨rfl, rfl⟩) | (go_at_call 101; with_reducible refine (K101.out _).mono ?_; rintro e wx ⟨rfl, rfl⟩) | (go_at_call 101; with_reducible refine (K69.out _).mono ?_; rintro e wx ⟨rfl, rfl⟩) | (go_at_call 101; with_reducible refine (K118.out _).mono ?_; rintro e wx ⟨rfl, rfl⟩))
          all_goals (go_meet; case rel => exact ⟨_, rfl, Lib.hid (by rw [HD2.out]; first | (simp [*]; done) | ((repeat rw [bne_dec]); simp [*]; done) | (simp [*]; omega) | ((repeat rw [bne_dec]); simp [*]; omega)), Lib.hid (Ext.refl _)⟩)
      ·
        as_aux_lemma =>
          go_wp2_with (first | (go_at_call 101; with_reducible refine (K116.out _).mono ?_; rintro e wx ⟨rfl, rfl⟩) | (go_at_call 101; with_reducible refine (K78.out _).mono ?_; rintro e wx ⟨rfl, rfl⟩) | (go_at_call 101; with_reducible refine (K102.out _).mono ?_; rintro e wx ⟨rfl, rfl⟩) | (go_at_call 101; with_reducible refine (K117.out _).mono ?_; rintro e wx ⟨rfl, rfl⟩) | (go_at_call 101; with_reducible refine (K101.out _).mono ?_; rintro e wx ⟨rfl, rfl⟩) | (go_at_call 101; with_reducible refine (K69.out _).mono ?_; rintro e wx ⟨rfl, rfl⟩) | (go_at_call 101; with_reducible refine (K118.out _).mono ?_; rintro e wx ⟨rfl, rfl⟩))
          all_goals (go_meet; case rel => exact ⟨_, rfl, Lib.hid (by rw [HD2.out]; first | (simp [*]; done) | ((repeat rw [bne_dec]); simp [*]; done) | (simp [*]; omega) | ((repeat rw [bne_dec]); simp [*]; omega)), Lib.hid (Ext.refl _)⟩)
      ·
        as_aux_lemma =>
          go_wp2_with (first | (go_at_call 101; with_reducible refine (K116.out _).mono ?_; rintro e wx ⟨rfl, rfl⟩) | (go_at_call 101; with_reducible refine (K78.out _).mono ?_; rintro e wx ⟨rfl, rfl⟩) | (go_at_call 101; with_reducible refine (K102.out _).mono ?_; rintro e wx ⟨rfl, rfl⟩) | (go_at_call 101; with_reducible refine (K117.out _).mono ?_; rintro e wx ⟨rfl, rfl⟩) | (go_at_call 101; with_reducible refine (K101.out _).mono ?_; rintro e wx ⟨rfl, rfl⟩) | (go_at_call 101; with_reducible refine (K69.out _).mono ?_; rintro e wx ⟨rfl, rfl⟩) | (go_at_call 101; with_reducible refine (K118.out _).mono ?_; rintro e wx ⟨rfl, rfl⟩))
          all_goals (go_meet; case rel => exact ⟨_, rfl, Lib.hid (by rw [HD2.out]; first | (simp [*]; done) | ((repeat rw [bne_dec]); simp [*]; done) | (simp [*]; omega) | ((repeat rw [bne_dec]); simp [*]; omega)), Lib.hid (Ext.refl _)⟩)
      ·
        as_aux_lemma =>
          go_wp2_with (first | (go_at_call 101; with_reducible refine (K116.out _).mono ?_; rintro e wx ⟨rfl, rfl⟩) | (go_at_call 101; with_reducible refine (K78.out _).mono ?_; rintro e wx ⟨rfl, rfl⟩) | (go_at_call 101; with_reducible refine (K102.out _).mono ?_; rintro e wx ⟨rfl, rfl⟩) | (go_at_call 101; with_reducible refine (K117.out _).mono ?_; rintro e wx ⟨rfl, rfl⟩) | (go_at_call 101; with_reducible refine (K101.out _).mono ?_; rintro e wx ⟨rfl, rfl⟩) | (go_at_call 101; with_reducible refine (K69.out _).mono ?_; rintro e wx ⟨rfl, rfl⟩) | (go_at_call 101; with_reducible refine (K118.out _).mono ?_; rintro e wx ⟨rfl, rfl⟩))
          all_goals (go_meet; case rel => exact ⟨_, rfl, Lib.hid (by rw [HD2.out]; first | (simp [*]; done) | ((repeat rw [bne_dec]); simp [*]; done) | (simp [*]; omega) | ((repeat rw [bne_dec]); simp [*]; omega)), Lib.hid (Ext.refl _)⟩)
      ·
        as_aux_lemma =>
          go_wp2_with (first | (go_at_call 101; with_reducible refine (K116.out _).mono ?_; rintro e wx ⟨rfl, rfl⟩) | (go_at_call 101; with_reducible refine (K78.out _).mono ?_; rintro e wx ⟨rfl, rfl⟩) | (go_at_call 101; with_reducible refine (K102.out _).mono ?_; rintro e wx ⟨rfl, rfl⟩) | (go_at_call 101; with_reducible refine (K117.out _).mono ?_; rintro e wx ⟨rfl, rfl⟩) | (go_at_call 101; with_reducible refine (K101.out _).mono ?_; rintro e wx ⟨rfl, rfl⟩) | (go_at_call 101; with_reducible refine (K69.out _).mono ?_; rintro e wx ⟨rfl, rfl⟩) | (go_at_call 101; with_reducible refine (K118.out _).mono ?_; rintro e wx ⟨rfl, rfl⟩))
          all_goals (go_meet; case rel => exact ⟨_, rfl, Lib.hid (by rw [HD2.out]; first | (simp [*]; done) | ((repeat rw [bne_dec]); simp [*]; done) | (simp [*]; omega) | ((repeat rw [bne_dec]); simp [*]; omega)), Lib.hid (Ext.refl _)⟩)
      ·
        as_aux_lemma =>
          go_wp2_with (first | (go_at_call 101; with_reducible refine (K116.out _).mono ?_; rintro e wx ⟨rfl, rfl⟩) | (go_at_call 101; with_reducible refine (K78.out _).mono ?_; rintro e wx ⟨rfl, rfl⟩) | (go_at_call 101; with_reducible refine (K102.out _).mono ?_; rintro e wx ⟨rfl, rfl⟩) | (go_at_call 101; with_reducible refine (K117.out _).mono ?_; rintro e wx ⟨rfl, rfl⟩) | (go_at_call 101; with_reducible refine (K101.out _).mono ?_; rintro e wx ⟨rfl, rfl⟩) | (go_at_call 101; with_reducible refine (K69.out _).mono ?_; rintro e wx ⟨rfl, rfl⟩) | (go_at_call 101; with_reducible refine (K118.out _).mono ?_; rintro e wx ⟨rfl, rfl⟩))
          all_goals (go_meet; case rel => exact ⟨_, rfl, Lib.hid (by rw [HD2.out]; first | (simp [*]; done) | ((repeat rw [bne_dec]); simp [*]; done) | (simp [*]; omega) | ((repeat rw [bne_dec]); simp [*]; omega)), Lib.hid (Ext.refl _)⟩)
      ·
        as_aux_lemma =>
          go_wp2_with (first | (go_at_call 101; with_reducible refine (K116.out _).mono ?_; rintro e wx ⟨rfl, rfl⟩) | (go_at_call 101; with_reducible refine (K78.out _).mono ?_; rintro e wx ⟨rfl, rfl⟩) | (go_at_call 101; with_reducible refine (K102.out _).mono ?_; rintro e wx ⟨rfl, rfl⟩) | (go_at_call 101; with_reducible refine (K117.out _).mono ?_; rintro e wx ⟨rfl, rfl⟩) | (go_at_call 101; with_reducible refine (K101.out _).mono ?_; rintro e wx ⟨rfl, rfl⟩) | (go_at_call 101; with_reducible refine (K69.out _).mono ?_; rintro e wx ⟨rfl, rfl⟩) | (go_at_call 101; with_reducible refine (K118.out _).mono ?_; rintro e wx ⟨rfl, rfl⟩))
          all_goals (go_meet; case rel => exact ⟨_, rfl, Lib.hid (by rw [HD2.out]; first | (simp [*]; done) | ((repeat rw [bne_dec]); simp [*]; done) | (simp [*]; omega) | ((repeat rw [bne_dec]); simp [*]; omega)), Lib.hid (Ext.refl _)⟩)
  case rest =>
  obtain ⟨d2, rfl, HE2, HXX⟩ := hcut
  have HX0' := Lib.hid (Ext.trans HX0.out HXX.out)
  clear HX0
  have HX4 := Lib.hid (Ext.trans HX3.out HXX.out)
  have HAT4 : Hid (RsAt wc ga gz x (.slice A n c)) := Lib.hid ⟨Ext.blk HXX.out HAT.out.ha, Ext.blk HXX.out HAT.out.hz⟩
  clear HX3 HAT HXX w3
  obtain ⟨w3, rfl⟩ : ∃ w3 : World, w3 = wc := ⟨_, rfl⟩
  have HX3 := HX4
  have HAT := HAT4
  clear HX4 HAT4
  have HX0 := HX0'
  clear HX0'
  cases d2 with
  | true =>
    have hR0 : R = false := by rw [← HR2.out]; unfold rTmay; rw [← HE2.out]; simp
    subst hR0
    go_wp2_with fail
    go_ret
    exact ⟨rfl, HX3.out⟩
  | false =>
  have hR0 : R = (!longE x.ents && tD4 x) := by rw [← HR2.out]; unfold rTmay; rw [← HE1.out, ← HE2.out]; simp
  have HR0 := Lib.hid hR0
  clear hR0 HR2 HE1 HE2 HD1 HD2 KMH K72 K65 K116 K78 K102 K117 K101 K69 K118
  obtain ⟨E, hE⟩ : ∃ E, x.ents = E := ⟨_, rfl⟩
  have HKE : Hid (∀ y ∈ E, y.name.length ≤ 100000) := Lib.hid fun y hy => (HK.out.each y (by rw [hE]; exact hy)).2
  have HNX := HNN
  rw [hE] at HE0 HNN HR0
  go_upto_region 11 with fail
  clear hE
  have c17 := (rs_cells HAT.out.ha).2.2.2.2.2.2.2.2.2.2.2.2.2.2.2.2.2.1
  have gal := heap_lt HAT.out.ha
  clear c17 gal
  go_wp2_with fail
  go_loopw [7] (fun iv wr => ∃ k : Nat, k ≤ n ∧ iv = .int .i64 k ∧ Hid (longE (E.take k) = false) ∧ Hid (Ext w3 wr)) (fun iv _ => n - (intOf iv).toNat)
  case atStart => exact ⟨0, Nat.zero_le _, rfl, Lib.hid rfl, Lib.hid (Ext.refl _)⟩
  case round =>
    obtain ⟨k, hkn, rfl, HL, HW⟩ := hrel
    have hga := Ext.blk HW.out HAT.out.ha
    obtain ⟨-, -, -, -, -, -, -, -, -, -, -, -, c12, c13, c14, c15, c16, c17, c18⟩ := rs_cells hga
    clear c13 c14 c15 c16 c18
    have gal := heap_lt hga
    clear hga
    have HX5 := Lib.hid (Ext.trans HX3.out HW.out)
    by_cases hkl : k < n
    · obtain ⟨y, hy⟩ : ∃ y, E[k]? = some y := ⟨_, List.getElem?_eq_getElem (by have := HNN.out; omega)⟩
      have hen := HE0.out wr (Ext.trans HX0.out HW.out)
      unfold EnR at hen
      rw [HNN.out] at hen
      obtain ⟨b, off, rfl, hb, hcl, -⟩ := RR.at hen (by omega)
      have hen : EnR wr (.slice (some ⟨b, off, none⟩) n c) E := HE0.out wr (Ext.trans HX0.out HW.out)
      have hen : RR wr 3 (.slice (some ⟨b, off, none⟩) E.length c) E.length (E.flatMap enC) := by unfold EnR at hen; rw [HNN.out] at hen ⊢; exact hen
      have cy : wr.cell? ⟨b, off + k * 3, none⟩ = some (.string (str y.name)) := RR.cellAt (enc := enC) hen enC_len hy (i := 0) rfl
      have hlt := longE_take E k y hy
      have sy := str_size y.name
      have HLT := Lib.hid hlt
      obtain ⟨m, hm⟩ : ∃ m, y.name.length = m := ⟨_, rfl⟩
      have hml : m ≤ 100000 := by rw [← hm]; exact HKE.out y (List.mem_of_getElem? hy)
      have HY := Lib.hid hy
      have HM := Lib.hid hm
      rw [hm] at HLT sy
      clear hen hlt hm hy c12
      by_cases hlong : (255 : Int) < (m : Int)
      · have hR1 : R = false := by
          rw [HR0.out]
          have : longE E = true := List.any_eq_true.2 ⟨y, List.mem_of_getElem? HY.out, decide_eq_true (by rw [HM.out]; omega)⟩
          rw [this]; rfl
        subst hR1
        go_wp2_with fail
        go_ret
        exact ⟨rfl, HX5.out⟩
      · have HL2 : Hid (longE (E.take (k + 1)) = false) := Lib.hid (by rw [HLT.out, HL.out]; simp; omega)
        go_wp2_with fail
        go_roundw
        case rel => exact ⟨k + 1, by omega, by go_num, HL2, HW⟩
        case measure => simp only [intOf]; omega
    · obtain rfl : k = n := by omega
      have hlE : longE E = false := by have h := HL.out; rw [← HNN.out, List.take_length] at h; exact h
      have HR3 : Hid (R = tD4 x) := Lib.hid (by rw [HR0.out, hlE]; simp)
      have s1 := str_size x.text
      have k1 := HK.out.text
      clear hlE
      go_wp2_with fail
      all_goals (go_ret; refine ⟨hret ?_, HX5.out⟩; rw [HR3.out, Bool.eq_iff_iff]; unfold tD4; rw [HNX.out]; simp; (try omega))
end Go.Proofs.YteahlnoonmfjhaaGreat
