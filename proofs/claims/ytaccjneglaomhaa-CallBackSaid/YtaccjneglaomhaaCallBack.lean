/- Proved: CallBack returns true whatever head, answer and text it is called with, and each argument reads behind the call as before. No condition. -/
import Derived.Test.YtaccjneglaomhaaCallJ
import Derived.Deep.DeepCutAuto
set_option linter.unusedVariables false
namespace Go.Proofs.Ytaccjneglaomhaa.callBack
open Go.RowKit Go.ChangeShapes Go.WideShapes Go.ChangeAt Go.Deep Go.Proofs.Ytaccjneglaomhaa
attribute [local go_sem ↓] eql_chead eql_cans neq_chead neq_cans

set_option maxHeartbeats 16000000 in
set_option maxRecDepth 100000 in
theorem walk0 (c x p : Int) (l : List UInt8) (y e : Int) (m : List UInt8) (s : List UInt8) (w : World) (w1 : l.length ≤ maxLen) (w2 : m.length ≤ maxLen) (w3 : s.length ≤ maxLen) :
    Calls Try.prog 11 #[.agg #[.int .i64 c, .int .i64 x, .int .i64 p, .string (str l)], .agg #[.int .i64 y, .int .i64 e, .string (str m)], .string (str s)] w fun r w' => r = .returned (.bool true) ∧ Below w.heap.size w w' := by
  unfold maxLen at w1 w2 w3
  have s1 := str_size l
  have s2 := str_size m
  have s3 := str_size s
  by_cases h1 : 10000 < l.length
  · go_enter Try.func11, Try.ntmps11
    go_wp2_with (first | (go_at_call 56; refine (works03_any _).mono ?_; rintro e w0 ⟨rfl, hb0⟩; have hz0 := hb0.size; (try simp only [World.size_alloc] at hz0); have hc0 := cellB (hb0.mono (B' := w.heap.size + 2) (by first | omega | (simp; done) | (simp; omega)))))
    go_ret
    exact ⟨rfl, by (repeat' (first | (with_reducible assumption) | (with_reducible exact Below.refl _ _) | (with_reducible refine below_sc ?_ ?_) | ((with_reducible show (_ : Nat) ≤ _); omega) | refine Below.setCell ?_ (by first | omega | (simp; done) | (simp; omega)) _ | refine Below.alloc ?_ (by first | omega | (simp; done) | (simp; omega)) _ | refine Below.drew ?_ | refine below_drewN ?_ _ | refine Below.trans ?_ (Below.mono (by assumption) (by first | omega | (simp; done) | (simp; omega)))))⟩
  by_cases h2 : 10000 < m.length
  · go_enter Try.func11, Try.ntmps11
    go_wp2_with (first | (go_at_call 56; refine (works03_any _).mono ?_; rintro e w0 ⟨rfl, hb0⟩; have hz0 := hb0.size; (try simp only [World.size_alloc] at hz0); have hc0 := cellB (hb0.mono (B' := w.heap.size + 2) (by first | omega | (simp; done) | (simp; omega)))))
    go_ret
    exact ⟨rfl, by (repeat' (first | (with_reducible assumption) | (with_reducible exact Below.refl _ _) | (with_reducible refine below_sc ?_ ?_) | ((with_reducible show (_ : Nat) ≤ _); omega) | refine Below.setCell ?_ (by first | omega | (simp; done) | (simp; omega)) _ | refine Below.alloc ?_ (by first | omega | (simp; done) | (simp; omega)) _ | refine Below.drew ?_ | refine below_drewN ?_ _ | refine Below.trans ?_ (Below.mono (by assumption) (by first | omega | (simp; done) | (simp; omega)))))⟩
  by_cases h3 : 10000 < s.length
  · go_enter Try.func11, Try.ntmps11
    go_wp2_with (first | (go_at_call 56; refine (works03_any _).mono ?_; rintro e w0 ⟨rfl, hb0⟩; have hz0 := hb0.size; (try simp only [World.size_alloc] at hz0); have hc0 := cellB (hb0.mono (B' := w.heap.size + 2) (by first | omega | (simp; done) | (simp; omega)))))
    go_ret
    exact ⟨rfl, by (repeat' (first | (with_reducible assumption) | (with_reducible exact Below.refl _ _) | (with_reducible refine below_sc ?_ ?_) | ((with_reducible show (_ : Nat) ≤ _); omega) | refine Below.setCell ?_ (by first | omega | (simp; done) | (simp; omega)) _ | refine Below.alloc ?_ (by first | omega | (simp; done) | (simp; omega)) _ | refine Below.drew ?_ | refine below_drewN ?_ _ | refine Below.trans ?_ (Below.mono (by assumption) (by first | omega | (simp; done) | (simp; omega)))))⟩
  obtain ⟨R1, hR1⟩ : ∃ R, R = cW c x p l := ⟨_, rfl⟩
  obtain ⟨R2, hR2⟩ : ∃ R, R = cT y e m := ⟨_, rfl⟩
  obtain ⟨R3, hR3⟩ : ∃ R, R = cR s := ⟨_, rfl⟩
  obtain ⟨R4, hR4⟩ : ∃ R, R = cH s := ⟨_, rfl⟩
  have f1 : R1.2 = 0 → _ := fun h => cW_back (hR1 ▸ h)
  have f2 : R2.2 = 0 → _ := fun h => cT_back (hR2 ▸ h)
  have f3 : R3.2 = 0 → _ := fun h => cR_back (hR3 ▸ h)
  have f4 : R4.2 = 0 → _ := fun h => cH_back (hR4 ▸ h)
  have k1 := fun w => cWrite_any c x p l w (by omega)
  have k2 := fun w => cTell_any y e m w (by omega)
  have k3 := fun w => cRead_any s w (by omega)
  have k4 := fun w => cHear_any s w (by omega)
  have l1 : R1.1.length ≤ 4096 := by rw [hR1]; exact cW_len
  have l2 : R2.1.length ≤ 10012 := by rw [hR2]; have := cT_len (x := y) (e := e) (l := m); omega
  have z3 : R3.1.l.length ≤ 10000 := by rw [hR3]; unfold cR; (repeat' split) <;> simp <;> omega
  have z4 : R4.1.l.length ≤ 10000 := by rw [hR4]; unfold cH; (repeat' split) <;> simp <;> omega
  rw [← hR1] at k1 f1
  rw [← hR2] at k2 f2
  rw [← hR3] at k3 f3 f4
  rw [← hR4] at k4 f3 f4
  clear hR1 hR2 hR3 hR4
  obtain ⟨S, E⟩ := R1
  obtain ⟨U, G⟩ := R2
  obtain ⟨⟨c3, x3, p3, l3⟩, n3⟩ := R3
  obtain ⟨⟨y4, e4, m4⟩, n4⟩ := R4
  simp only at f1 f2 f3 f4 l1 l2 z3 z4
  have hv : ∀ r : List UInt8 × Int, seV r = .tuple #[.string (str r.1), .int .i64 r.2] := fun _ => rfl
  have hh : ∀ (a b c : Int) l n, heV (⟨a, b, c, l⟩, n) = .tuple #[.agg #[.int .i64 a, .int .i64 b, .int .i64 c, .string (str l)], .int .i64 n] := fun _ _ _ _ _ => rfl
  have ha : ∀ (a b : Int) l n, aeV (⟨a, b, l⟩, n) = .tuple #[.agg #[.int .i64 a, .int .i64 b, .string (str l)], .int .i64 n] := fun _ _ _ _ => rfl
  simp only [hv, hh, ha, headV, ansV] at k1 k2 k3 k4
  have kw : ∀ w, Calls Try.prog 28 #[.agg #[.int .i64 c3, .int .i64 x3, .int .i64 p3, .string (str l3)]] w fun e w' => e = .returned (seV (cW c3 x3 p3 l3)) ∧ Below w.heap.size w w' := fun w => cWrite_any c3 x3 p3 l3 w (by omega)
  have kt : ∀ w, Calls Try.prog 30 #[.agg #[.int .i64 y4, .int .i64 e4, .string (str m4)]] w fun r w' => r = .returned (seV (cT y4 e4 m4)) ∧ Below w.heap.size w w' := fun w => cTell_any y4 e4 m4 w (by omega)
  have kr := fun w => cRead_any S w (by omega)
  have kh := fun w => cHear_any S w (by omega)
  have kr2 := fun w => cRead_any U w (by omega)
  have kh2 := fun w => cHear_any U w (by omega)
  have K1 := Lib.hid k1
  have K2 := Lib.hid k2
  have K3 := Lib.hid k3
  have K4 := Lib.hid k4
  have KW := Lib.hid kw
  have KT := Lib.hid kt
  have KR := Lib.hid kr
  have KH := Lib.hid kh
  have KR2 := Lib.hid kr2
  have KH2 := Lib.hid kh2
  have HV := Lib.hid hv
  have HH := Lib.hid hh
  have HA := Lib.hid ha
  have F1 := Lib.hid f1
  have F2 := Lib.hid f2
  have F3 := Lib.hid f3
  have F4 := Lib.hid f4
  clear f1 f2 f3 f4 k1 k2 k3 k4 kw kt kr kh kr2 kh2 hv hh ha l1 l2 z3 z4
  have sL := strL
  go_enter Try.func11, Try.ntmps11
  go_wp2_with (go_at_call 56; refine (works03_any _).mono ?_; rintro e w0 ⟨rfl, hb0⟩; have hz0 := hb0.size; (try simp only [World.size_alloc] at hz0); have hc0 := cellB (hb0.mono (B' := w.heap.size + 2) (by first | omega | (simp; done) | (simp; omega))); have lt0 : w.heap.size < w0.heap.size := (by omega); have lt1 : w.heap.size + 1 < w0.heap.size := (by omega))
  refine (K1.out _).mono ?_
  rintro e w1 ⟨rfl, hb1⟩; have hz1 := hb1.size; (try simp only [World.size_alloc] at hz1)
  have B7 := Lib.hid ((hb1.block w0.heap.size (by first | omega | (simp; done) | (simp; omega))).trans (heap_alloc2_old _ _ _))
  have B8 := Lib.hid ((hb1.block (w0.heap.size + 1) (by first | omega | (simp; done) | (simp; omega))).trans (heap_alloc2_new _ _ _))
  have X1 : Ext w w1 := by unfold Ext; (repeat' (first | (with_reducible assumption) | (with_reducible exact Below.refl _ _) | (with_reducible refine below_sc ?_ ?_) | ((with_reducible show (_ : Nat) ≤ _); omega) | refine Below.setCell ?_ (by first | omega | (simp; done) | (simp; omega)) _ | refine Below.alloc ?_ (by first | omega | (simp; done) | (simp; omega)) _ | refine Below.drew ?_ | refine below_drewN ?_ _ | refine Below.trans ?_ (Below.mono (by assumption) (by first | omega | (simp; done) | (simp; omega)))))
  clear hb1 hb0 hc0
  go_upto_if 70 with fail
  go_cut [] (fun wx => Hid (wx.heap[w0.heap.size + 1]? = some (.cells #[.int .i64 y, .int .i64 e, .string (str m)] 41 (0, 0))) ∧ Hid (Ext w wx))
  case first =>
    by_cases g1 : E = 0
    · subst g1
      obtain ⟨q1, q2, q3⟩ := F1.out rfl
      obtain ⟨⟨⟨hy, he, hm⟩, hn⟩, hR⟩ : ∃ R, cH S = R := ⟨_, rfl⟩
      rw [hR] at q1
      simp only at q1
      subst q1
      have kh := KH.out
      rw [hR] at kh
      simp only [HA.out] at kh
      have KH' := Lib.hid kh
      clear kh hR KH
      have eS := eqHd_self c x p l
      have eS' := eqHd_self c x p []
      by_cases g2 : p < 19
      · have kr := KR.out
        rw [q2 g2, HH.out] at kr
        have KR' := Lib.hid kr
        clear kr KR q2 q3
        go_wp2_with fail
        refine (KR'.out _).mono ?_
        rintro e w2 ⟨rfl, hb2⟩; have hz2 := hb2.size; (try simp only [World.size_alloc] at hz2)
        have B7' := Lib.hid ((hb2.block w0.heap.size (Array.getElem?_eq_some_iff.1 B7.out).1).trans B7.out)
        have B8' := Lib.hid ((hb2.block (w0.heap.size + 1) (Array.getElem?_eq_some_iff.1 B8.out).1).trans B8.out)
        have X2 : Ext w w2 := X1.trans hb2
        clear hb2 X1 B7 B8
        go_wp2_with fail
        refine (KH'.out _).mono ?_
        rintro e w3 ⟨rfl, hb3⟩; have hz3 := hb3.size; (try simp only [World.size_alloc] at hz3)
        have hb3' := Ext.trans (ext_alloc w2 _) hb3
        have B7 := Lib.hid ((hb3'.block w0.heap.size (Array.getElem?_eq_some_iff.1 B7'.out).1).trans B7'.out)
        have B8 := Lib.hid ((hb3'.block (w0.heap.size + 1) (Array.getElem?_eq_some_iff.1 B8'.out).1).trans B8'.out)
        have B9 := Lib.hid ((Below.block hb3 w2.heap.size (by simp)).trans (heap_alloc_last w2 _))
        have X3 : Ext w w3 := X2.trans hb3'
        clear hb3 hb3' X2 B7' B8'
        obtain ⟨a0, a1, a2, a3, -, -, -, -, lt7⟩ := blk4 B7.out
        obtain ⟨d0, d1, d2, d3, -, -, -, -, lt9⟩ := blk4 B9.out
        have lt8 := (Array.getElem?_eq_some_iff.1 B8.out).1
        go_wp2_with fail
        go_meet
        case rel =>
          have X3' : Below w.heap.size w w3 := X3
          exact ⟨by unfold Hid; rw [Below.heap_alloc _ _ _ (by simp; omega), Below.heap_alloc _ _ _ (by omega)]; exact B8.out, by unfold Hid Ext; (repeat' (first | (with_reducible assumption) | (with_reducible exact Below.refl _ _) | (with_reducible refine below_sc ?_ ?_) | ((with_reducible show (_ : Nat) ≤ _); omega) | refine Below.setCell ?_ (by first | omega | (simp; done) | (simp; omega)) _ | refine Below.alloc ?_ (by first | omega | (simp; done) | (simp; omega)) _ | refine Below.drew ?_ | refine below_drewN ?_ _ | refine Below.trans ?_ (Below.mono (by assumption) (by first | omega | (simp; done) | (simp; omega)))))⟩
      · have kr := KR.out
        rw [q3 (by omega), HH.out] at kr
        have KR' := Lib.hid kr
        clear kr KR q2 q3
        go_wp2_with fail
        refine (KR'.out _).mono ?_
        rintro e w2 ⟨rfl, hb2⟩; have hz2 := hb2.size; (try simp only [World.size_alloc] at hz2)
        have B7' := Lib.hid ((hb2.block w0.heap.size (Array.getElem?_eq_some_iff.1 B7.out).1).trans B7.out)
        have B8' := Lib.hid ((hb2.block (w0.heap.size + 1) (Array.getElem?_eq_some_iff.1 B8.out).1).trans B8.out)
        have X2 : Ext w w2 := X1.trans hb2
        clear hb2 X1 B7 B8
        go_wp2_with fail
        refine (KH'.out _).mono ?_
        rintro e w3 ⟨rfl, hb3⟩; have hz3 := hb3.size; (try simp only [World.size_alloc] at hz3)
        have hb3' := Ext.trans (ext_alloc w2 _) hb3
        have B7 := Lib.hid ((hb3'.block w0.heap.size (Array.getElem?_eq_some_iff.1 B7'.out).1).trans B7'.out)
        have B8 := Lib.hid ((hb3'.block (w0.heap.size + 1) (Array.getElem?_eq_some_iff.1 B8'.out).1).trans B8'.out)
        have B9 := Lib.hid ((Below.block hb3 w2.heap.size (by simp)).trans (heap_alloc_last w2 _))
        have X3 : Ext w w3 := X2.trans hb3'
        clear hb3 hb3' X2 B7' B8'
        obtain ⟨a0, a1, a2, a3, -, -, -, -, lt7⟩ := blk4 B7.out
        obtain ⟨d0, d1, d2, d3, -, -, -, -, lt9⟩ := blk4 B9.out
        have lt8 := (Array.getElem?_eq_some_iff.1 B8.out).1
        go_wp2_with fail
        go_meet
        case rel =>
          have X3' : Below w.heap.size w w3 := X3
          exact ⟨by unfold Hid; rw [Below.heap_alloc _ _ _ (by simp; omega), Below.heap_alloc _ _ _ (by omega)]; exact B8.out, by unfold Hid Ext; (repeat' (first | (with_reducible assumption) | (with_reducible exact Below.refl _ _) | (with_reducible refine below_sc ?_ ?_) | ((with_reducible show (_ : Nat) ≤ _); omega) | refine Below.setCell ?_ (by first | omega | (simp; done) | (simp; omega)) _ | refine Below.alloc ?_ (by first | omega | (simp; done) | (simp; omega)) _ | refine Below.drew ?_ | refine below_drewN ?_ _ | refine Below.trans ?_ (Below.mono (by assumption) (by first | omega | (simp; done) | (simp; omega)))))⟩
    · have z1 : (E == 0) = false := beq_eq_false_iff_ne.2 g1
      go_wp2_with fail
      go_meet
      case rel => exact ⟨B8, Lib.hid X1⟩
  case rest =>
    obtain ⟨B8', X2⟩ := hcut
    obtain ⟨a0, a1, a2, -, -, -, lt8⟩ := blk3 B8'.out
    clear K1 KR KH F1 B7 B8 X1
    go_wp2_with fail
    refine (K2.out _).mono ?_
    rintro e w2 ⟨rfl, hb2⟩; have hz2 := hb2.size; (try simp only [World.size_alloc] at hz2)
    have B8 := Lib.hid ((hb2.block (w0.heap.size + 1) lt8).trans B8'.out)
    have X3 : Ext w w2 := X2.out.trans hb2
    clear B8' X2 hb2 a0 a1 a2 lt8
    go_upto_if 119 with fail
    go_cut [] (fun wx => Hid (Ext w wx))
    case first =>
      by_cases g1 : G = 0
      · subst g1
        obtain ⟨q1, q2⟩ := F2.out rfl
        obtain ⟨⟨⟨rc, rx, rp, rl⟩, rn⟩, hR⟩ : ∃ R, cR U = R := ⟨_, rfl⟩
        rw [hR] at q2
        simp only at q2
        subst q2
        have kr := KR2.out
        rw [hR, HH.out] at kr
        have kh := KH2.out
        rw [q1, HA.out] at kh
        have KR' := Lib.hid kr
        have KH' := Lib.hid kh
        clear kr kh hR q1
        have eA := eqAn_self y e m
        go_wp2_with fail
        refine (KH'.out _).mono ?_
        rintro e w3 ⟨rfl, hb3⟩; have hz3 := hb3.size; (try simp only [World.size_alloc] at hz3)
        have B9 := Lib.hid ((Below.block hb3 (w0.heap.size + 1) (Array.getElem?_eq_some_iff.1 B8.out).1).trans B8.out)
        have X4 := X3.trans hb3
        clear hb3 B8 X3
        go_wp2_with fail
        refine (KR'.out _).mono ?_
        rintro e w4 ⟨rfl, hb4⟩; have hz4 := hb4.size; (try simp only [World.size_alloc] at hz4)
        have hb4' := Ext.trans (ext_alloc w3 _) hb4
        have B8 := Lib.hid ((hb4'.block (w0.heap.size + 1) (Array.getElem?_eq_some_iff.1 B9.out).1).trans B9.out)
        have BA := Lib.hid ((Below.block hb4 w3.heap.size (by simp)).trans (heap_alloc_last w3 _))
        have X5 : Below w.heap.size w w4 := X4.trans hb4'
        clear hb4 hb4' X4 B9
        obtain ⟨a0, a1, a2, -, -, -, lt8⟩ := blk3 B8.out
        obtain ⟨d0, d1, d2, -, -, -, lt9⟩ := blk3 BA.out
        go_wp2_with fail
        go_meet
        case rel => exact (by unfold Hid Ext; (repeat' (first | (with_reducible assumption) | (with_reducible exact Below.refl _ _) | (with_reducible refine below_sc ?_ ?_) | ((with_reducible show (_ : Nat) ≤ _); omega) | refine Below.setCell ?_ (by first | omega | (simp; done) | (simp; omega)) _ | refine Below.alloc ?_ (by first | omega | (simp; done) | (simp; omega)) _ | refine Below.drew ?_ | refine below_drewN ?_ _ | refine Below.trans ?_ (Below.mono (by assumption) (by first | omega | (simp; done) | (simp; omega))))))
      · have z1 : (G == 0) = false := beq_eq_false_iff_ne.2 g1
        go_wp2_with fail
        go_meet
        case rel => exact Lib.hid X3
    case rest =>
      have X4 := hcut.out
      clear hcut X3 B8 K2 KR2 KH2 F2
      go_wp2_with fail
      refine (K3.out _).mono ?_
      rintro e w3 ⟨rfl, hb3⟩; have hz3 := hb3.size; (try simp only [World.size_alloc] at hz3)
      have X5 := X4.trans hb3
      clear hb3 X4
      go_wp2_with fail
      refine (K4.out _).mono ?_
      rintro e w4 ⟨rfl, hb4⟩; have hz4 := hb4.size; (try simp only [World.size_alloc] at hz4)
      have hb4' := Ext.trans (ext_alloc w3 _) hb4
      have B1 := Lib.hid ((Below.block hb4 w3.heap.size (by simp)).trans (heap_alloc_last w3 _))
      have X6 : Below w.heap.size w w4 := X5.trans hb4'
      clear hb4 hb4' X5
      go_upto_if 152 with fail
      go_cut [] (fun wx => Hid (wx.heap[w4.heap.size]? = some (.cells #[.int .i64 y4, .int .i64 e4, .string (str m4)] 41 (0, 0))) ∧ Hid (Ext w wx))
      case first =>
        have B2 := Lib.hid (heap_alloc_last w4 (.cells #[.int .i64 y4, .int .i64 e4, .string (str m4)] 41))
        by_cases g1 : n3 = 0
        · subst g1
          obtain ⟨q1, q2⟩ := F3.out rfl
          subst q2
          have kw := KW.out
          rw [q1, HV.out] at kw
          have KW' := Lib.hid kw
          clear kw q1
          obtain ⟨a0, a1, a2, a3, -, -, -, -, lt8⟩ := blk4 B1.out
          go_wp2_with fail
          refine (KW'.out _).mono ?_
          rintro e w5 ⟨rfl, hb5⟩; have hz5 := hb5.size; (try simp only [World.size_alloc] at hz5)
          have B3 := Lib.hid ((Below.block hb5 w4.heap.size (by simp)).trans B2.out)
          have X7 : Below w.heap.size w w5 := X6.trans ((Ext.trans (ext_alloc w4 _) hb5).mono X6.size)
          clear hb5 B1 B2 X6 a0 a1 a2 a3
          go_wp2_with fail
          go_meet
          case rel => exact ⟨B3, Lib.hid X7⟩
        · have z1 : (n3 == 0) = false := beq_eq_false_iff_ne.2 g1
          go_wp2_with fail
          go_meet
          case rel => exact ⟨B2, Lib.hid (X6.alloc X6.size _)⟩
      case rest =>
        obtain ⟨B2, X7⟩ := hcut
        obtain ⟨a0, a1, a2, -, -, -, lt8⟩ := blk3 B2.out
        have X8 : Below w.heap.size w wc := X7.out
        by_cases g1 : n4 = 0
        · subst g1
          obtain ⟨q1, q2⟩ := F4.out rfl
          subst q2
          have kw := KT.out
          rw [q1, HV.out] at kw
          have KT' := Lib.hid kw
          clear kw q1
          go_wp2_with fail
          refine (KT'.out _).mono ?_
          rintro e w5 ⟨rfl, hb5⟩; have hz5 := hb5.size; (try simp only [World.size_alloc] at hz5)
          go_wp2_with fail
          go_ret
          exact ⟨rfl, X8.trans (hb5.mono X8.size)⟩
        · have z1 : (n4 == 0) = false := beq_eq_false_iff_ne.2 g1
          go_wp2_with fail
          go_ret
          exact ⟨rfl, X8⟩

theorem walk (h : HeadT) (wh : h.Ok) (a : AnsT) (wa : a.Ok) (s : List UInt8) (ws : s.length ≤ maxLen) (w : World) :
    Calls Try.prog 11 #[h.v, a.v, .string (str s)] w fun r w' => r = .returned (.bool true) ∧ Below w.heap.size w w' := walk0 _ _ _ _ _ _ _ s w wh.l wa.l ws

theorem own : ownKnob Try.prog.godebug = none := by kernel_rfl
theorem laidOut : laidOutB Try.prog = true := by kernel_rfl

set_option maxRecDepth 100000 in
theorem lifted (os : Os) (started : os.Started) (H : Type) (enc : TypeId × Value → H) :
    ReturnsInHanded {} Try.checked os 11 .any (Rows.callBackSpec.pre6 enc Try.prog Try.f11 Rows.callBackRow.domain false) (Rows.callBackSpec.post enc Try.prog Try.f11 false true false false) := by
  refine returnsInHanded_of_change (C := Try.checked) own started (by kernel_rfl) Try.func11
    (ChangeSpec.witness6 (enc := enc) (C := Try.checked) false ⟨#[], #[.agg #[.int .i64 0, .int .i64 0, .int .i64 0, .string ⟨#[]⟩], .agg #[.int .i64 0, .int .i64 0, .string ⟨#[]⟩], .string ⟨#[]⟩], []⟩ 8 (by kernel_rfl) (by kernel_rfl) (by kernel_rfl) (by kernel_rfl)) ?_
  intro W base args ds gs before hval0 hW hcnd _
  have hval : ∀ (j : Nat) t v, Try.f11.params[j]? = some t → args[j]? = some v → Value.okWide Try.prog W .any base t v := hval0
  have hW' := hW
  obtain ⟨p, q, hA0, hV, rfl, hfz, hnd⟩ := hW
  have hA : DataW.TrodAll enc Try.prog W 0 (fun _ => true) true Try.f11.params.toList args.toList ds p := hA0
  rw [Try.params11] at hA hval
  obtain ⟨v0, vs0, d0, ds0, p0, q0, hargs, rfl, rfl, h0, r0⟩ := trodAll_cons hA
  obtain ⟨v1, vs1, d1, ds1, p1, q1, rfl, rfl, rfl, h1, r1⟩ := trodAll_cons r0
  obtain ⟨v2, vs2, d2, ds2, p2, q2, rfl, rfl, rfl, h2, r2⟩ := trodAll_cons r1
  obtain ⟨rfl, rfl, rfl⟩ := trodAll_nil r2
  obtain rfl : args = #[v0, v1, v2] := by cases args; simp_all
  obtain ⟨rfl, rfl⟩ := trodVars_none hV
  have k0 := h0
  have lt0 : ∀ x ∈ p0, x.block < W.heap.size := by obtain ⟨m, hm⟩ := k0; exact DataW.trod_lt m _ _ _ hm
  have k1 := h1
  have lt1 : ∀ x ∈ p1, x.block < W.heap.size := by obtain ⟨m, hm⟩ := k1; exact DataW.trod_lt m _ _ _ hm
  have k2 := h2
  have lt2 : ∀ x ∈ p2, x.block < W.heap.size := by obtain ⟨m, hm⟩ := k2; exact DataW.trod_lt m _ _ _ hm
  obtain ⟨x0, rfl, w0⟩ := open_head (hval 0 _ v0 rfl rfl) h0
  obtain ⟨x1, rfl, w1⟩ := open_ans (hval 1 _ v1 rfl rfl) h1
  obtain ⟨l2, rfl, wl2⟩ := open_str Try.underlying9 (hval 2 _ v2 rfl rfl) h2
  refine (walk x0 w0 x1 w1 l2 wl2 W).mono fun e W' ⟨he, bel⟩ => ?_
  subst he
  exact ⟨_, rfl, _, _, _, [], _, [], hW', trodAll_mk1 (shut_bool Try.underlying4 _), (trodAll_cons_mk (Below.trod laidOut (by kernel_rfl) (of_decide_eq_true (by kernel_rfl)) k0 bel lt0) (trodAll_cons_mk (Below.trod laidOut (by kernel_rfl) (of_decide_eq_true (by kernel_rfl)) k1 bel lt1) (trodAll_cons_mk (Below.trod laidOut (by kernel_rfl) (of_decide_eq_true (by kernel_rfl)) k2 bel lt2) trodAll_mk0))), rfl, bel.frame _, fun h => by cases h⟩

theorem proved : Rows.CallBackSaid :=
  OpenClaim.holds_of_wide 11 Try.f11 rfl rfl rfl rfl rfl rfl rfl ⟨rfl, rfl, rfl, rfl, rfl⟩ rfl rfl rfl rfl rfl (by kernel_rfl) Try.func11 (by kernel_rfl)
    (of_decide_eq_true (by kernel_rfl)) (by unfold Func.isWrapper; first | (rw [if_pos (by decide +kernel)]; kernel_rfl) | (rw [if_neg (by decide +kernel)]; exact ⟨rfl, rfl⟩))
    (fun os started H enc _ => lifted os started H enc)
end Go.Proofs.Ytaccjneglaomhaa.callBack
