/- Arguments, by the document: MayArgs. -/
import Derived.Test.YteahlnoonmfjhaaGreatAfP
import Derived.Deep.DeepCutAuto
set_option linter.unusedVariables false
set_option maxRecDepth 100000
namespace Go.Proofs.YteahlnoonmfjhaaGreat
open Go.RowKit

theorem neq_hz (a b c : Int) (w : World) : (binOp .neq 25 (.agg #[.int .i64 a, .int .i64 b, .int .i64 c]) (.agg #[.int .i64 0, .int .i64 0, .int .i64 0])).run Tryz.prog w = .ok (.bool (!z3 (a, b, c))) w := by
  go_simp
  by_cases h1 : a = 0 <;> by_cases h2 : b = 0 <;> by_cases h3 : c = 0 <;> simp [z3, h1, h2, h3]
theorem bne_dec (n : Int) : (n != 0) = !decide (n = 0) := by by_cases h : n = 0 <;> simp [h]
theorem ag_cells {w : World} {g : Nat} {T : TypeId} {fr : Nat × Nat} {a : AgT} (h : w.heap[g]? = some (.cells (agC a).toArray T fr)) :
    w.cell? ⟨g, 0, none⟩ = some (.int .i64 a.h.1) ∧ w.cell? ⟨g, 1, none⟩ = some (.int .i64 a.h.2.1) ∧ w.cell? ⟨g, 2, none⟩ = some (.int .i64 a.h.2.2) ∧ w.cell? ⟨g, 3, none⟩ = some (.int .i64 a.t.1) ∧ w.cell? ⟨g, 4, none⟩ = some (.int .i64 a.t.2.1) ∧ w.cell? ⟨g, 5, none⟩ = some (.int .i64 a.t.2.2) ∧
    w.cell? ⟨g, 6, none⟩ = some (.string (str a.name)) ∧ w.cell? ⟨g, 7, none⟩ = some (.string (str a.other)) ∧ w.cell? ⟨g, 8, none⟩ = some (.string (str a.text)) ∧ w.cell? ⟨g, 9, none⟩ = some (.int .i64 a.at_) ∧ w.cell? ⟨g, 10, none⟩ = some (.int .i64 a.n) ∧ w.cell? ⟨g, 11, none⟩ = some (.int .i64 a.mode) ∧
    w.cell? ⟨g, 12, none⟩ = some (.int .i64 a.size) ∧ w.cell? ⟨g, 13, none⟩ = some (.int .i64 a.stable) ∧ w.cell? ⟨g, 14, none⟩ = some (.int .i64 a.guard) ∧ w.cell? ⟨g, 15, none⟩ = some (.int .u64 a.verf) := by
  refine ⟨?_, ?_, ?_, ?_, ?_, ?_, ?_, ?_, ?_, ?_, ?_, ?_, ?_, ?_, ?_, ?_⟩ <;> (rw [cell_of_row _ _ _ _ _ _ h]; rfl)
/-- What holds in each later world: the arguments' cells, those of the zero handle. -/
structure AgAt (w3 : World) (ga gz : Nat) (a : AgT) : Prop where
  ha : w3.heap[ga]? = some (.cells (agC a).toArray 28 (0, 0))
  hz : w3.heap[gz]? = some (.cells #[.int .i64 0, .int .i64 0, .int .i64 0] 25 (0, 0))
attribute [local go_sem ↓] neq_hz
theorem rmay_x (s i g : Int) (w : World) : Calls Tryz.prog 102 #[.agg #[.int .i64 s, .int .i64 i, .int .i64 g]] w fun e w' => e = .returned (.bool (hmayB s i g)) ∧ w' = w.alloc (.cells #[.int .i64 s, .int .i64 i, .int .i64 g] 25) := by
  obtain ⟨p, hp⟩ : ∃ p, p = hmayB s i g := ⟨_, rfl⟩
  have H := Lib.hid hp
  rw [← hp]
  clear hp
  go_enter Tryz.func102, Tryz.ntmps102
  go_wp2
  all_goals (go_ret; refine ⟨hret ?_, rfl⟩; rw [H.out, Bool.eq_iff_iff]; simp [hmayB]; omega)
theorem combo1 (p : Nat) (hp : p < 19) : (hasL (rAskL (p : Nat)) 72, hasL (rAskL (p : Nat)) 84) ∈ [(false, false), (true, false), (true, true)] := by
  have h : p = 0 ∨ p = 1 ∨ p = 2 ∨ p = 3 ∨ p = 4 ∨ p = 5 ∨ p = 6 ∨ p = 7 ∨ p = 8 ∨ p = 9 ∨ p = 10 ∨ p = 11 ∨ p = 12 ∨ p = 13 ∨ p = 14 ∨ p = 15 ∨ p = 16 ∨ p = 17 ∨ p = 18 := by omega
  rcases h with rfl | rfl | rfl | rfl | rfl | rfl | rfl | rfl | rfl | rfl | rfl | rfl | rfl | rfl | rfl | rfl | rfl | rfl | rfl <;> decide
theorem combo2 (p : Nat) (hp : p < 19) : (hasL (rAskL (p : Nat)) 110, hasL (rAskL (p : Nat)) 111, hasL (rAskL (p : Nat)) 116, hasL (rAskL (p : Nat)) 97, hasL (rAskL (p : Nat)) 78, hasL (rAskL (p : Nat)) 109) ∈ [(false, false, false, false, false, false), (false, false, false, false, false, true), (true, false, false, false, false, false), (false, false, false, true, true, false), (false, false, true, true, false, false), (true, false, false, false, false, true), (true, false, true, false, false, false), (true, true, false, false, false, false)] := by
  have h : p = 0 ∨ p = 1 ∨ p = 2 ∨ p = 3 ∨ p = 4 ∨ p = 5 ∨ p = 6 ∨ p = 7 ∨ p = 8 ∨ p = 9 ∨ p = 10 ∨ p = 11 ∨ p = 12 ∨ p = 13 ∨ p = 14 ∨ p = 15 ∨ p = 16 ∨ p = 17 ∨ p = 18 := by omega
  rcases h with rfl | rfl | rfl | rfl | rfl | rfl | rfl | rfl | rfl | rfl | rfl | rfl | rfl | rfl | rfl | rfl | rfl | rfl | rfl <;> decide
theorem combo3 (p : Nat) (hp : p < 19) : (hasL (rAskL (p : Nat)) 115, hasL (rAskL (p : Nat)) 83, hasL (rAskL (p : Nat)) 103, hasL (rAskL (p : Nat)) 118) ∈ [(false, false, false, false), (true, false, true, false), (false, true, false, false), (false, false, true, false), (false, false, false, true)] := by
  have h : p = 0 ∨ p = 1 ∨ p = 2 ∨ p = 3 ∨ p = 4 ∨ p = 5 ∨ p = 6 ∨ p = 7 ∨ p = 8 ∨ p = 9 ∨ p = 10 ∨ p = 11 ∨ p = 12 ∨ p = 13 ∨ p = 14 ∨ p = 15 ∨ p = 16 ∨ p = 17 ∨ p = 18 := by omega
  rcases h with rfl | rfl | rfl | rfl | rfl | rfl | rfl | rfl | rfl | rfl | rfl | rfl | rfl | rfl | rfl | rfl | rfl | rfl | rfl <;> decide
set_option maxHeartbeats 16000000 in
theorem rMayArgs_any (p : Nat) (hp : p < 19) (a : AgT) (w : World) (hk : a.Ok) :
    Calls Tryz.prog 62 #[.int .i64 p, .agg (agC a).toArray] w fun e w' => e = .returned (.bool (rMay (rAskL p) a)) ∧ Below w.heap.size w w' := by
  have KA := Lib.hid (fun w : World => rAskL_any p hp w)
  have hLl := rAskL_len p
  obtain ⟨R, hR⟩ : ∃ R, rMay (rAskL p) a = R := ⟨_, rfl⟩
  rw [hR]
  have HR := Lib.hid hR
  have HK := Lib.hid hk
  clear hR hk
  have q1 := combo1 p hp
  have q2 := combo2 p hp
  have q3 := combo3 p hp
  generalize rAskL p = L at *
  obtain ⟨S, hS⟩ : ∃ S, str L = S := ⟨_, rfl⟩
  rw [hS] at KA
  have hw1 := heap_alloc_last w (.cells (agC a).toArray 28)
  have hx1 := extAl w (.cells (agC a).toArray 28)
  have HW1 := Lib.hid hw1
  have HX1 := Lib.hid hx1
  clear hw1 hx1
  go_enter Tryz.func62, Tryz.ntmps62
  go_wp2_with fail
  generalize w.alloc (.cells (agC a).toArray 28) = W1 at *
  refine (KA.out _).mono ?_
  rintro e w2 ⟨rfl, h2⟩
  have hga2 := Ext.blk h2 HW1.out
  have HG2 := Lib.hid hga2
  have HX2 := Lib.hid (Ext.trans HX1.out h2)
  clear hga2 h2 HW1 HX1 KA
  go_upto_region 3 with fail
  have hz3 := heap_alloc_last w2 (.cells #[.int .i64 0, .int .i64 0, .int .i64 0] 25)
  have hx3 := extAl w2 (.cells #[.int .i64 0, .int .i64 0, .int .i64 0] 25)
  have HAT : Hid (AgAt (w2.alloc (.cells #[.int .i64 0, .int .i64 0, .int .i64 0] 25)) w.heap.size w2.heap.size a) := Lib.hid ⟨Ext.blk hx3 HG2.out, hz3⟩
  have HX3 := Lib.hid (Ext.trans HX2.out hx3)
  clear hz3 hx3 HG2 HX2
  generalize w2.alloc (.cells #[.int .i64 0, .int .i64 0, .int .i64 0] 25) = w3 at *
  generalize w2.heap.size = gz at *
  obtain ⟨ga, hga⟩ : ∃ ga, w.heap.size = ga := ⟨_, rfl⟩
  rw [hga] at HAT ⊢
  clear hga
  obtain ⟨b72, hb72⟩ : ∃ b, hasL L 72 = b := ⟨_, rfl⟩
  obtain ⟨b84, hb84⟩ : ∃ b, hasL L 84 = b := ⟨_, rfl⟩
  have K72 : Hid (∀ wx : World, Calls Tryz.prog 101 #[.string S, .int .u8 72] wx fun e w' => e = .returned (.bool b72) ∧ w' = wx) := Lib.hid fun wx => by rw [← hS, ← hb72]; exact rhas_any L 72 wx (by omega)
  have K84 : Hid (∀ wx : World, Calls Tryz.prog 101 #[.string S, .int .u8 84] wx fun e w' => e = .returned (.bool b84) ∧ w' = wx) := Lib.hid fun wx => by rw [← hS, ← hb84]; exact rhas_any L 84 wx (by omega)
  obtain ⟨mh, hmh⟩ : ∃ m, hmayB a.h.1 a.h.2.1 a.h.2.2 = m := ⟨_, rfl⟩
  obtain ⟨mt, hmt⟩ : ∃ m, hmayB a.t.1 a.t.2.1 a.t.2.2 = m := ⟨_, rfl⟩
  obtain ⟨zh, hzh⟩ : ∃ z, z3 a.h = z := ⟨_, rfl⟩
  obtain ⟨zt, hzt⟩ : ∃ z, z3 a.t = z := ⟨_, rfl⟩
  have HD1 : Hid (mD1 L a = ((b72 && !mh) || (!b72 && !zh) || (b84 && !mt) || (!b84 && !zt))) := Lib.hid (by unfold mD1; rw [hb72, hb84, hmh, hmt, hzh, hzt])
  have KMH : Hid (∀ wx : World, Calls Tryz.prog 102 #[.agg #[.int .i64 a.h.1, .int .i64 a.h.2.1, .int .i64 a.h.2.2]] wx fun e w' => e = .returned (.bool mh) ∧ w' = wx.alloc (.cells #[.int .i64 a.h.1, .int .i64 a.h.2.1, .int .i64 a.h.2.2] 25)) := Lib.hid fun wx => by rw [← hmh]; exact rmay_x _ _ _ wx
  have KMT : Hid (∀ wx : World, Calls Tryz.prog 102 #[.agg #[.int .i64 a.t.1, .int .i64 a.t.2.1, .int .i64 a.t.2.2]] wx fun e w' => e = .returned (.bool mt) ∧ w' = wx.alloc (.cells #[.int .i64 a.t.1, .int .i64 a.t.2.1, .int .i64 a.t.2.2] 25)) := Lib.hid fun wx => by rw [← hmt]; exact rmay_x _ _ _ wx
  have hzh' : z3 (a.h.1, a.h.2.1, a.h.2.2) = zh := hzh
  have hzt' : z3 (a.t.1, a.t.2.1, a.t.2.2) = zt := hzt
  rw [hb72, hb84] at q1
  clear hb72 hb84 hmh hmt hzh hzt
  go_cut [49] (fun dv wx => ∃ d, dv = .bool d ∧ Hid (d = mD1 L a) ∧ Hid (Ext w3 wx))
  case first =>
    obtain ⟨c0, c1, c2, c3, c4, c5, -⟩ := ag_cells HAT.out.ha
    obtain ⟨d0, d1, d2, -, -, -, gzl⟩ := blk3 HAT.out.hz
    have gal := heap_lt HAT.out.ha
    clear HR HX3 HAT
    simp only [List.mem_cons, List.not_mem_nil, or_false, Prod.mk.injEq] at q1
    rcases q1 with ⟨rfl, rfl⟩ | ⟨rfl, rfl⟩ | ⟨rfl, rfl⟩
    · as_aux_lemma =>
      go_wp2_with (first | (go_at_call 101; with_reducible refine (K72.out _).mono ?_; rintro e wx ⟨rfl, rfl⟩) | (go_at_call 101; with_reducible refine (K84.out _).mono ?_; rintro e wx ⟨rfl, rfl⟩) | (go_at_call 102; with_reducible refine (KMH.out _).mono ?_; rintro e wx ⟨rfl, rfl⟩) | (go_at_call 102; with_reducible refine (KMT.out _).mono ?_; rintro e wx ⟨rfl, rfl⟩))
      all_goals (go_meet; case rel => exact ⟨_, rfl, Lib.hid (by rw [HD1.out]; simp [*]), Lib.hid (by first | exact Ext.refl _ | exact extAl _ _ | exact Ext.trans (extAl _ _) (extAl _ _))⟩)
    · as_aux_lemma =>
      go_wp2_with (first | (go_at_call 101; with_reducible refine (K72.out _).mono ?_; rintro e wx ⟨rfl, rfl⟩) | (go_at_call 101; with_reducible refine (K84.out _).mono ?_; rintro e wx ⟨rfl, rfl⟩) | (go_at_call 102; with_reducible refine (KMH.out _).mono ?_; rintro e wx ⟨rfl, rfl⟩) | (go_at_call 102; with_reducible refine (KMT.out _).mono ?_; rintro e wx ⟨rfl, rfl⟩))
      all_goals (go_meet; case rel => exact ⟨_, rfl, Lib.hid (by rw [HD1.out]; simp [*]), Lib.hid (by first | exact Ext.refl _ | exact extAl _ _ | exact Ext.trans (extAl _ _) (extAl _ _))⟩)
    · as_aux_lemma =>
      go_wp2_with (first | (go_at_call 101; with_reducible refine (K72.out _).mono ?_; rintro e wx ⟨rfl, rfl⟩) | (go_at_call 101; with_reducible refine (K84.out _).mono ?_; rintro e wx ⟨rfl, rfl⟩) | (go_at_call 102; with_reducible refine (KMH.out _).mono ?_; rintro e wx ⟨rfl, rfl⟩) | (go_at_call 102; with_reducible refine (KMT.out _).mono ?_; rintro e wx ⟨rfl, rfl⟩))
      all_goals (go_meet; case rel => exact ⟨_, rfl, Lib.hid (by rw [HD1.out]; simp [*]), Lib.hid (by first | exact Ext.refl _ | exact extAl _ _ | exact Ext.trans (extAl _ _) (extAl _ _))⟩)
  case rest =>
  obtain ⟨d1, rfl, HE1, HXX⟩ := hcut
  have HX4 := Lib.hid (Ext.trans HX3.out HXX.out)
  have HAT4 : Hid (AgAt wc ga gz a) := Lib.hid ⟨Ext.blk HXX.out HAT.out.ha, Ext.blk HXX.out HAT.out.hz⟩
  clear HX3 HAT HXX w3
  obtain ⟨w3, rfl⟩ : ∃ w3 : World, w3 = wc := ⟨_, rfl⟩
  have HX3 := HX4
  have HAT := HAT4
  clear HX4 HAT4
  cases d1 with
  | true =>
    have hR0 : R = false := by rw [← HR.out]; unfold rMay; rw [← HE1.out]; simp
    subst hR0
    go_wp2_with fail
    go_ret
    exact ⟨rfl, HX3.out⟩
  | false =>
  obtain ⟨b110, hb110⟩ : ∃ b, hasL L 110 = b := ⟨_, rfl⟩
  obtain ⟨b111, hb111⟩ : ∃ b, hasL L 111 = b := ⟨_, rfl⟩
  obtain ⟨b116, hb116⟩ : ∃ b, hasL L 116 = b := ⟨_, rfl⟩
  obtain ⟨b97, hb97⟩ : ∃ b, hasL L 97 = b := ⟨_, rfl⟩
  obtain ⟨b78, hb78⟩ : ∃ b, hasL L 78 = b := ⟨_, rfl⟩
  obtain ⟨b109, hb109⟩ : ∃ b, hasL L 109 = b := ⟨_, rfl⟩
  have K110 : Hid (∀ wx : World, Calls Tryz.prog 101 #[.string S, .int .u8 110] wx fun e w' => e = .returned (.bool b110) ∧ w' = wx) := Lib.hid fun wx => by rw [← hS, ← hb110]; exact rhas_any L 110 wx (by omega)
  have K111 : Hid (∀ wx : World, Calls Tryz.prog 101 #[.string S, .int .u8 111] wx fun e w' => e = .returned (.bool b111) ∧ w' = wx) := Lib.hid fun wx => by rw [← hS, ← hb111]; exact rhas_any L 111 wx (by omega)
  have K116 : Hid (∀ wx : World, Calls Tryz.prog 101 #[.string S, .int .u8 116] wx fun e w' => e = .returned (.bool b116) ∧ w' = wx) := Lib.hid fun wx => by rw [← hS, ← hb116]; exact rhas_any L 116 wx (by omega)
  have K97 : Hid (∀ wx : World, Calls Tryz.prog 101 #[.string S, .int .u8 97] wx fun e w' => e = .returned (.bool b97) ∧ w' = wx) := Lib.hid fun wx => by rw [← hS, ← hb97]; exact rhas_any L 97 wx (by omega)
  have K78 : Hid (∀ wx : World, Calls Tryz.prog 101 #[.string S, .int .u8 78] wx fun e w' => e = .returned (.bool b78) ∧ w' = wx) := Lib.hid fun wx => by rw [← hS, ← hb78]; exact rhas_any L 78 wx (by omega)
  have K109 : Hid (∀ wx : World, Calls Tryz.prog 101 #[.string S, .int .u8 109] wx fun e w' => e = .returned (.bool b109) ∧ w' = wx) := Lib.hid fun wx => by rw [← hS, ← hb109]; exact rhas_any L 109 wx (by omega)
  have HD2 : Hid (mD2 L a = ((!b110 && !decide ((str a.name).toList = [])) || (!b111 && !decide ((str a.other).toList = [])) || (!b116 && !decide ((str a.text).toList = [])) || (!b97 && !decide (a.at_ = 0)) || (!b78 && !decide (a.n = 0)) || (!b109 && !decide (a.mode = 0)))) := Lib.hid (by unfold mD2 zS zI; rw [hb110, hb111, hb116, hb97, hb78, hb109, strL, strL, strL])
  rw [hb110, hb111, hb116, hb97, hb78, hb109] at q2
  clear hb110 hb111 hb116 hb97 hb78 hb109
  go_upto_region 5 with fail
  go_cut [107] (fun dv wx => ∃ d, dv = .bool d ∧ Hid (d = mD2 L a) ∧ Hid (Ext w3 wx))
  case first =>
    obtain ⟨c0, c1, c2, c3, c4, c5, c6, c7, c8, c9, c10, c11, c12, c13, c14, c15⟩ := ag_cells HAT.out.ha
    have gal := heap_lt HAT.out.ha
    clear c0 c1 c2 c3 c4 c5 c12 c13 c14 c15
    clear HR HX3 HAT
    simp only [List.mem_cons, List.not_mem_nil, or_false, Prod.mk.injEq] at q2
    rcases q2 with ⟨rfl, rfl, rfl, rfl, rfl, rfl⟩ | ⟨rfl, rfl, rfl, rfl, rfl, rfl⟩ | ⟨rfl, rfl, rfl, rfl, rfl, rfl⟩ | ⟨rfl, rfl, rfl, rfl, rfl, rfl⟩ | ⟨rfl, rfl, rfl, rfl, rfl, rfl⟩ | ⟨rfl, rfl, rfl, rfl, rfl, rfl⟩ | ⟨rfl, rfl, rfl, rfl, rfl, rfl⟩ | ⟨rfl, rfl, rfl, rfl, rfl, rfl⟩
    · as_aux_lemma =>
      go_wp2_with (first | (go_at_call 101; with_reducible refine (K110.out _).mono ?_; rintro e wx ⟨rfl, rfl⟩) | (go_at_call 101; with_reducible refine (K111.out _).mono ?_; rintro e wx ⟨rfl, rfl⟩) | (go_at_call 101; with_reducible refine (K116.out _).mono ?_; rintro e wx ⟨rfl, rfl⟩) | (go_at_call 101; with_reducible refine (K97.out _).mono ?_; rintro e wx ⟨rfl, rfl⟩) | (go_at_call 101; with_reducible refine (K78.out _).mono ?_; rintro e wx ⟨rfl, rfl⟩) | (go_at_call 101; with_reducible refine (K109.out _).mono ?_; rintro e wx ⟨rfl, rfl⟩))
      all_goals (go_meet; case rel => exact ⟨_, rfl, Lib.hid (by rw [HD2.out]; first | (simp [*]; done) | simp [*, bne_dec]), Lib.hid (by first | exact Ext.refl _ | exact extAl _ _ | exact Ext.trans (extAl _ _) (extAl _ _))⟩)
    · as_aux_lemma =>
      go_wp2_with (first | (go_at_call 101; with_reducible refine (K110.out _).mono ?_; rintro e wx ⟨rfl, rfl⟩) | (go_at_call 101; with_reducible refine (K111.out _).mono ?_; rintro e wx ⟨rfl, rfl⟩) | (go_at_call 101; with_reducible refine (K116.out _).mono ?_; rintro e wx ⟨rfl, rfl⟩) | (go_at_call 101; with_reducible refine (K97.out _).mono ?_; rintro e wx ⟨rfl, rfl⟩) | (go_at_call 101; with_reducible refine (K78.out _).mono ?_; rintro e wx ⟨rfl, rfl⟩) | (go_at_call 101; with_reducible refine (K109.out _).mono ?_; rintro e wx ⟨rfl, rfl⟩))
      all_goals (go_meet; case rel => exact ⟨_, rfl, Lib.hid (by rw [HD2.out]; first | (simp [*]; done) | simp [*, bne_dec]), Lib.hid (by first | exact Ext.refl _ | exact extAl _ _ | exact Ext.trans (extAl _ _) (extAl _ _))⟩)
    · as_aux_lemma =>
      go_wp2_with (first | (go_at_call 101; with_reducible refine (K110.out _).mono ?_; rintro e wx ⟨rfl, rfl⟩) | (go_at_call 101; with_reducible refine (K111.out _).mono ?_; rintro e wx ⟨rfl, rfl⟩) | (go_at_call 101; with_reducible refine (K116.out _).mono ?_; rintro e wx ⟨rfl, rfl⟩) | (go_at_call 101; with_reducible refine (K97.out _).mono ?_; rintro e wx ⟨rfl, rfl⟩) | (go_at_call 101; with_reducible refine (K78.out _).mono ?_; rintro e wx ⟨rfl, rfl⟩) | (go_at_call 101; with_reducible refine (K109.out _).mono ?_; rintro e wx ⟨rfl, rfl⟩))
      all_goals (go_meet; case rel => exact ⟨_, rfl, Lib.hid (by rw [HD2.out]; first | (simp [*]; done) | simp [*, bne_dec]), Lib.hid (by first | exact Ext.refl _ | exact extAl _ _ | exact Ext.trans (extAl _ _) (extAl _ _))⟩)
    · as_aux_lemma =>
      go_wp2_with (first | (go_at_call 101; with_reducible refine (K110.out _).mono ?_; rintro e wx ⟨rfl, rfl⟩) | (go_at_call 101; with_reducible refine (K111.out _).mono ?_; rintro e wx ⟨rfl, rfl⟩) | (go_at_call 101; with_reducible refine (K116.out _).mono ?_; rintro e wx ⟨rfl, rfl⟩) | (go_at_call 101; with_reducible refine (K97.out _).mono ?_; rintro e wx ⟨rfl, rfl⟩) | (go_at_call 101; with_reducible refine (K78.out _).mono ?_; rintro e wx ⟨rfl, rfl⟩) | (go_at_call 101; with_reducible refine (K109.out _).mono ?_; rintro e wx ⟨rfl, rfl⟩))
      all_goals (go_meet; case rel => exact ⟨_, rfl, Lib.hid (by rw [HD2.out]; first | (simp [*]; done) | simp [*, bne_dec]), Lib.hid (by first | exact Ext.refl _ | exact extAl _ _ | exact Ext.trans (extAl _ _) (extAl _ _))⟩)
    · as_aux_lemma =>
      go_wp2_with (first | (go_at_call 101; with_reducible refine (K110.out _).mono ?_; rintro e wx ⟨rfl, rfl⟩) | (go_at_call 101; with_reducible refine (K111.out _).mono ?_; rintro e wx ⟨rfl, rfl⟩) | (go_at_call 101; with_reducible refine (K116.out _).mono ?_; rintro e wx ⟨rfl, rfl⟩) | (go_at_call 101; with_reducible refine (K97.out _).mono ?_; rintro e wx ⟨rfl, rfl⟩) | (go_at_call 101; with_reducible refine (K78.out _).mono ?_; rintro e wx ⟨rfl, rfl⟩) | (go_at_call 101; with_reducible refine (K109.out _).mono ?_; rintro e wx ⟨rfl, rfl⟩))
      all_goals (go_meet; case rel => exact ⟨_, rfl, Lib.hid (by rw [HD2.out]; first | (simp [*]; done) | simp [*, bne_dec]), Lib.hid (by first | exact Ext.refl _ | exact extAl _ _ | exact Ext.trans (extAl _ _) (extAl _ _))⟩)
    · as_aux_lemma =>
      go_wp2_with (first | (go_at_call 101; with_reducible refine (K110.out _).mono ?_; rintro e wx ⟨rfl, rfl⟩) | (go_at_call 101; with_reducible refine (K111.out _).mono ?_; rintro e wx ⟨rfl, rfl⟩) | (go_at_call 101; with_reducible refine (K116.out _).mono ?_; rintro e wx ⟨rfl, rfl⟩) | (go_at_call 101; with_reducible refine (K97.out _).mono ?_; rintro e wx ⟨rfl, rfl⟩) | (go_at_call 101; with_reducible refine (K78.out _).mono ?_; rintro e wx ⟨rfl, rfl⟩) | (go_at_call 101; with_reducible refine (K109.out _).mono ?_; rintro e wx ⟨rfl, rfl⟩))
      all_goals (go_meet; case rel => exact ⟨_, rfl, Lib.hid (by rw [HD2.out]; first | (simp [*]; done) | simp [*, bne_dec]), Lib.hid (by first | exact Ext.refl _ | exact extAl _ _ | exact Ext.trans (extAl _ _) (extAl _ _))⟩)
    · as_aux_lemma =>
      go_wp2_with (first | (go_at_call 101; with_reducible refine (K110.out _).mono ?_; rintro e wx ⟨rfl, rfl⟩) | (go_at_call 101; with_reducible refine (K111.out _).mono ?_; rintro e wx ⟨rfl, rfl⟩) | (go_at_call 101; with_reducible refine (K116.out _).mono ?_; rintro e wx ⟨rfl, rfl⟩) | (go_at_call 101; with_reducible refine (K97.out _).mono ?_; rintro e wx ⟨rfl, rfl⟩) | (go_at_call 101; with_reducible refine (K78.out _).mono ?_; rintro e wx ⟨rfl, rfl⟩) | (go_at_call 101; with_reducible refine (K109.out _).mono ?_; rintro e wx ⟨rfl, rfl⟩))
      all_goals (go_meet; case rel => exact ⟨_, rfl, Lib.hid (by rw [HD2.out]; first | (simp [*]; done) | simp [*, bne_dec]), Lib.hid (by first | exact Ext.refl _ | exact extAl _ _ | exact Ext.trans (extAl _ _) (extAl _ _))⟩)
    · as_aux_lemma =>
      go_wp2_with (first | (go_at_call 101; with_reducible refine (K110.out _).mono ?_; rintro e wx ⟨rfl, rfl⟩) | (go_at_call 101; with_reducible refine (K111.out _).mono ?_; rintro e wx ⟨rfl, rfl⟩) | (go_at_call 101; with_reducible refine (K116.out _).mono ?_; rintro e wx ⟨rfl, rfl⟩) | (go_at_call 101; with_reducible refine (K97.out _).mono ?_; rintro e wx ⟨rfl, rfl⟩) | (go_at_call 101; with_reducible refine (K78.out _).mono ?_; rintro e wx ⟨rfl, rfl⟩) | (go_at_call 101; with_reducible refine (K109.out _).mono ?_; rintro e wx ⟨rfl, rfl⟩))
      all_goals (go_meet; case rel => exact ⟨_, rfl, Lib.hid (by rw [HD2.out]; first | (simp [*]; done) | simp [*, bne_dec]), Lib.hid (by first | exact Ext.refl _ | exact extAl _ _ | exact Ext.trans (extAl _ _) (extAl _ _))⟩)
  case rest =>
  obtain ⟨d2, rfl, HE2, HXX⟩ := hcut
  have HX4 := Lib.hid (Ext.trans HX3.out HXX.out)
  have HAT4 : Hid (AgAt wc ga gz a) := Lib.hid ⟨Ext.blk HXX.out HAT.out.ha, Ext.blk HXX.out HAT.out.hz⟩
  clear HX3 HAT HXX w3
  obtain ⟨w3, rfl⟩ : ∃ w3 : World, w3 = wc := ⟨_, rfl⟩
  have HX3 := HX4
  have HAT := HAT4
  clear HX4 HAT4
  cases d2 with
  | true =>
    have hR0 : R = false := by rw [← HR.out]; unfold rMay; rw [← HE2.out]; simp
    subst hR0
    go_wp2_with fail
    go_ret
    exact ⟨rfl, HX3.out⟩
  | false =>
  obtain ⟨b115, hb115⟩ : ∃ b, hasL L 115 = b := ⟨_, rfl⟩
  obtain ⟨b83, hb83⟩ : ∃ b, hasL L 83 = b := ⟨_, rfl⟩
  obtain ⟨b103, hb103⟩ : ∃ b, hasL L 103 = b := ⟨_, rfl⟩
  obtain ⟨b118, hb118⟩ : ∃ b, hasL L 118 = b := ⟨_, rfl⟩
  have K115 : Hid (∀ wx : World, Calls Tryz.prog 101 #[.string S, .int .u8 115] wx fun e w' => e = .returned (.bool b115) ∧ w' = wx) := Lib.hid fun wx => by rw [← hS, ← hb115]; exact rhas_any L 115 wx (by omega)
  have K83 : Hid (∀ wx : World, Calls Tryz.prog 101 #[.string S, .int .u8 83] wx fun e w' => e = .returned (.bool b83) ∧ w' = wx) := Lib.hid fun wx => by rw [← hS, ← hb83]; exact rhas_any L 83 wx (by omega)
  have K103 : Hid (∀ wx : World, Calls Tryz.prog 101 #[.string S, .int .u8 103] wx fun e w' => e = .returned (.bool b103) ∧ w' = wx) := Lib.hid fun wx => by rw [← hS, ← hb103]; exact rhas_any L 103 wx (by omega)
  have K118 : Hid (∀ wx : World, Calls Tryz.prog 101 #[.string S, .int .u8 118] wx fun e w' => e = .returned (.bool b118) ∧ w' = wx) := Lib.hid fun wx => by rw [← hS, ← hb118]; exact rhas_any L 118 wx (by omega)
  have HD3 : Hid (mD3 L a = ((!b115 && !decide (a.size = 0)) || (!b83 && !decide (a.stable = 0)) || (!b103 && !decide (a.guard = 0)) || (!b118 && !decide (a.verf = 0)))) := Lib.hid (by unfold mD3 zI; rw [hb115, hb83, hb103, hb118])
  rw [hb115, hb83, hb103, hb118] at q3
  clear hb115 hb83 hb103 hb118
  go_upto_region 7 with fail
  go_cut [145] (fun dv wx => ∃ d, dv = .bool d ∧ Hid (d = mD3 L a) ∧ Hid (Ext w3 wx))
  case first =>
    obtain ⟨c0, c1, c2, c3, c4, c5, c6, c7, c8, c9, c10, c11, c12, c13, c14, c15⟩ := ag_cells HAT.out.ha
    have gal := heap_lt HAT.out.ha
    clear c0 c1 c2 c3 c4 c5 c6 c7 c8 c9 c10 c11
    clear HR HX3 HAT
    simp only [List.mem_cons, List.not_mem_nil, or_false, Prod.mk.injEq] at q3
    rcases q3 with ⟨rfl, rfl, rfl, rfl⟩ | ⟨rfl, rfl, rfl, rfl⟩ | ⟨rfl, rfl, rfl, rfl⟩ | ⟨rfl, rfl, rfl, rfl⟩ | ⟨rfl, rfl, rfl, rfl⟩
    · as_aux_lemma =>
      go_wp2_with (first | (go_at_call 101; with_reducible refine (K115.out _).mono ?_; rintro e wx ⟨rfl, rfl⟩) | (go_at_call 101; with_reducible refine (K83.out _).mono ?_; rintro e wx ⟨rfl, rfl⟩) | (go_at_call 101; with_reducible refine (K103.out _).mono ?_; rintro e wx ⟨rfl, rfl⟩) | (go_at_call 101; with_reducible refine (K118.out _).mono ?_; rintro e wx ⟨rfl, rfl⟩))
      all_goals (go_meet; case rel => exact ⟨_, rfl, Lib.hid (by rw [HD3.out]; first | (simp [*]; done) | simp [*, bne_dec]), Lib.hid (by first | exact Ext.refl _ | exact extAl _ _ | exact Ext.trans (extAl _ _) (extAl _ _))⟩)
    · as_aux_lemma =>
      go_wp2_with (first | (go_at_call 101; with_reducible refine (K115.out _).mono ?_; rintro e wx ⟨rfl, rfl⟩) | (go_at_call 101; with_reducible refine (K83.out _).mono ?_; rintro e wx ⟨rfl, rfl⟩) | (go_at_call 101; with_reducible refine (K103.out _).mono ?_; rintro e wx ⟨rfl, rfl⟩) | (go_at_call 101; with_reducible refine (K118.out _).mono ?_; rintro e wx ⟨rfl, rfl⟩))
      all_goals (go_meet; case rel => exact ⟨_, rfl, Lib.hid (by rw [HD3.out]; first | (simp [*]; done) | simp [*, bne_dec]), Lib.hid (by first | exact Ext.refl _ | exact extAl _ _ | exact Ext.trans (extAl _ _) (extAl _ _))⟩)
    · as_aux_lemma =>
      go_wp2_with (first | (go_at_call 101; with_reducible refine (K115.out _).mono ?_; rintro e wx ⟨rfl, rfl⟩) | (go_at_call 101; with_reducible refine (K83.out _).mono ?_; rintro e wx ⟨rfl, rfl⟩) | (go_at_call 101; with_reducible refine (K103.out _).mono ?_; rintro e wx ⟨rfl, rfl⟩) | (go_at_call 101; with_reducible refine (K118.out _).mono ?_; rintro e wx ⟨rfl, rfl⟩))
      all_goals (go_meet; case rel => exact ⟨_, rfl, Lib.hid (by rw [HD3.out]; first | (simp [*]; done) | simp [*, bne_dec]), Lib.hid (by first | exact Ext.refl _ | exact extAl _ _ | exact Ext.trans (extAl _ _) (extAl _ _))⟩)
    · as_aux_lemma =>
      go_wp2_with (first | (go_at_call 101; with_reducible refine (K115.out _).mono ?_; rintro e wx ⟨rfl, rfl⟩) | (go_at_call 101; with_reducible refine (K83.out _).mono ?_; rintro e wx ⟨rfl, rfl⟩) | (go_at_call 101; with_reducible refine (K103.out _).mono ?_; rintro e wx ⟨rfl, rfl⟩) | (go_at_call 101; with_reducible refine (K118.out _).mono ?_; rintro e wx ⟨rfl, rfl⟩))
      all_goals (go_meet; case rel => exact ⟨_, rfl, Lib.hid (by rw [HD3.out]; first | (simp [*]; done) | simp [*, bne_dec]), Lib.hid (by first | exact Ext.refl _ | exact extAl _ _ | exact Ext.trans (extAl _ _) (extAl _ _))⟩)
    · as_aux_lemma =>
      go_wp2_with (first | (go_at_call 101; with_reducible refine (K115.out _).mono ?_; rintro e wx ⟨rfl, rfl⟩) | (go_at_call 101; with_reducible refine (K83.out _).mono ?_; rintro e wx ⟨rfl, rfl⟩) | (go_at_call 101; with_reducible refine (K103.out _).mono ?_; rintro e wx ⟨rfl, rfl⟩) | (go_at_call 101; with_reducible refine (K118.out _).mono ?_; rintro e wx ⟨rfl, rfl⟩))
      all_goals (go_meet; case rel => exact ⟨_, rfl, Lib.hid (by rw [HD3.out]; first | (simp [*]; done) | simp [*, bne_dec]), Lib.hid (by first | exact Ext.refl _ | exact extAl _ _ | exact Ext.trans (extAl _ _) (extAl _ _))⟩)
  case rest =>
  obtain ⟨d3, rfl, HE3, HXX⟩ := hcut
  have HX4 := Lib.hid (Ext.trans HX3.out HXX.out)
  have HAT4 : Hid (AgAt wc ga gz a) := Lib.hid ⟨Ext.blk HXX.out HAT.out.ha, Ext.blk HXX.out HAT.out.hz⟩
  clear HX3 HAT HXX w3
  obtain ⟨w3, rfl⟩ : ∃ w3 : World, w3 = wc := ⟨_, rfl⟩
  have HX3 := HX4
  have HAT := HAT4
  clear HX4 HAT4
  cases d3 with
  | true =>
    have hR0 : R = false := by rw [← HR.out]; unfold rMay; rw [← HE3.out]; simp
    subst hR0
    go_wp2_with fail
    go_ret
    exact ⟨rfl, HX3.out⟩
  | false =>
  obtain ⟨c0, c1, c2, c3, c4, c5, c6, c7, c8, -⟩ := ag_cells HAT.out.ha
  have gal := heap_lt HAT.out.ha
  have s1 := str_size a.name
  have s2 := str_size a.other
  have s3 := str_size a.text
  have hR0 : R = mD4 a := by rw [← HR.out]; unfold rMay; rw [← HE1.out, ← HE2.out, ← HE3.out]; simp
  have HR0 := Lib.hid hR0
  clear hR0 c0 c1 c2 c3 c4 c5
  have k1 := HK.out.name
  have k2 := HK.out.other
  have k3 := HK.out.text
  go_wp2_with fail
  all_goals (go_ret; refine ⟨hret ?_, HX3.out⟩; rw [HR0.out, Bool.eq_iff_iff]; unfold mD4; simp; (try omega))
end Go.Proofs.YteahlnoonmfjhaaGreat
