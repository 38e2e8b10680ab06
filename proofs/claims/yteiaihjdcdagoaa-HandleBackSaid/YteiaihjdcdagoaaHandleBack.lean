/- Proved: HandleBack returns true whatever handle and text it is called with, and each argument reads behind the call as before. No condition. -/
import Derived.Test.YteiaihjdcdagoaaHandleG
import Derived.Test.YteiaihjdcdagoaaLift
set_option linter.unusedVariables false
namespace Go.Proofs.Yteiaihjdcdagoaa.handleBack
open Go.RowKit Go.ChangeShapes Go.WideShapes Go.ChangeAt
attribute [local go_sem ↓] neq_handle eql_handle

theorem decV_cases (l : List UInt8) : (decV l = .tuple #[.agg #[.int .i64 0, .int .i64 0, .int .i64 0], .int .i64 4]) ∨
    (∃ x y z, decV l = .tuple #[.agg #[.int .i64 x, .int .i64 y, .int .i64 z], .int .i64 0] ∧ encV x y z = .tuple #[.string (str l), .int .i64 0]) := by
  unfold decV
  cases h : dec l with
  | none => exact .inl rfl
  | some p =>
    obtain ⟨x, y, z⟩ := p
    refine .inr ⟨x, y, z, rfl, ?_⟩
    unfold dec at h
    split at h
    · rename_i hc
      simp only [Option.some.injEq, Prod.mk.injEq] at h
      obtain ⟨rfl, rfl, rfl⟩ := h
      unfold encV
      rw [if_pos hc.2.1, hc.2.2]
    · cases h

theorem walk (a b c : Int) (_ : (Lit.int .i64 a).wf = true) (_ : (Lit.int .i64 b).wf = true) (_ : (Lit.int .i64 c).wf = true)
    (l : List UInt8) (hl : l.length ≤ maxLen) (w : World) :
    Calls Try.prog 5 #[hv a b c, .string (str l)] w fun e w' => e = .returned (.bool true) ∧ Below w.heap.size w w' := by
  unfold maxLen at hl
  have hu : ∀ s i g, hv s i g = .agg #[.int .i64 s, .int .i64 i, .int .i64 g] := fun _ _ _ => rfl
  have hs : (str l).size = l.length := str_size l
  by_cases hlong : 1000 < l.length
  · have hlong' : (1000 : Int) < l.length := by omega
    go_enter Try.func5, Try.ntmps5
    go_wp2_with (go_at_call 9; refine (awake_any _).mono ?_; rintro e w1 ⟨rfl, hb1⟩; have hz1 := hb1.size; (try simp only [World.size_alloc] at hz1))
    go_ret
    exact ⟨rfl, by (repeat (first | exact Below.refl _ _ | refine Below.setCell ?_ (by first | omega | (simp; done) | (simp; omega)) _ | refine Below.alloc ?_ (by first | omega | (simp; done) | (simp; omega)) _ | refine Below.drew ?_ | refine below_drewN ?_ _ | refine Below.trans ?_ (Below.mono (by assumption) (by first | omega | (simp; done) | (simp; omega)))))⟩
  · have hlong' : ¬ (1000 : Int) < l.length := by omega
    have hcase := decV_cases l
    have HC := Lib.hid hcase
    clear hcase
    have hq := eqH_same a b c
    have sl := strL
    cases hm : mayB a b c with
    | true =>
      have hE : encV a b c = .tuple #[.string (str (hbytes a b c)), .int .i64 0] := by unfold encV; rw [if_pos hm]
      have hD : decV (hbytes a b c) = .tuple #[.agg #[.int .i64 a, .int .i64 b, .int .i64 c], .int .i64 0] := by unfold decV; rw [dec_hbytes _ _ _ hm]; rfl
      have h24 := hbytes_length a b c
      generalize hbytes a b c = S at *
      have HE := Lib.hid hE
      have HD := Lib.hid hD
      clear hE hD
      go_enter Try.func5, Try.ntmps5
      go_wp2_with (go_at_call 9; refine (awake_any _).mono ?_; rintro e w0 ⟨rfl, hb0⟩; have hz0 := hb0.size; (try simp only [World.size_alloc] at hz0); have hc0 := cellB (hb0.mono (B' := w.heap.size + 1) (by simp)))
      go_wp2_with fail
      refine (encode_any a b c _).mono ?_
      rintro e w1 ⟨rfl, hb1⟩; have hz1 := hb1.size; (try simp only [World.size_alloc] at hz1)
      rw [HE.out]
      have hc1 := cellB (hb1.mono (B' := w.heap.size + 1) (by first | omega | (simp; done) | (simp; omega)))
      go_wp2_with fail
      refine (decode_any S (by omega) _).mono ?_
      rintro e w2 ⟨rfl, hb2⟩; have hz2 := hb2.size; (try simp only [World.size_alloc] at hz2)
      rw [HD.out]
      have hc2 := cellB (hb2.mono (B' := w.heap.size + 1) (by first | omega | (simp; done) | (simp; omega)))
      have g2 : w.heap.size < w2.heap.size := by omega
      rcases HC.out with hD | ⟨x, y, z, hD, hE⟩
      · have HD' := Lib.hid hD
        clear hD
        go_wp2_with fail
        refine (decode_any l (by omega) _).mono ?_
        rintro e w3 ⟨rfl, hb3⟩; have hz3 := hb3.size; (try simp only [World.size_alloc] at hz3)
        rw [HD'.out]
        have hc3 := cellB (hb3.mono (B' := w.heap.size + 1) (by first | omega | (simp; done) | (simp; omega)))
        have g3 : w.heap.size < w3.heap.size := by omega
        go_wp2_with (first | (go_at_call 14; refine (may_any _ _ _ _).mono ?_; rintro e w4 ⟨rfl, hb4⟩; have hz4 := hb4.size; (try simp only [World.size_alloc] at hz4)))
        go_ret
        exact ⟨rfl, by (repeat (first | exact Below.refl _ _ | refine Below.setCell ?_ (by first | omega | (simp; done) | (simp; omega)) _ | refine Below.alloc ?_ (by first | omega | (simp; done) | (simp; omega)) _ | refine Below.drew ?_ | refine below_drewN ?_ _ | refine Below.trans ?_ (Below.mono (by assumption) (by first | omega | (simp; done) | (simp; omega)))))⟩
      · have HD' := Lib.hid hD
        have HE' := Lib.hid hE
        clear hD hE
        go_wp2_with fail
        refine (decode_any l (by omega) _).mono ?_
        rintro e w3 ⟨rfl, hb3⟩; have hz3 := hb3.size; (try simp only [World.size_alloc] at hz3)
        rw [HD'.out]
        have hc3 := cellB (hb3.mono (B' := w.heap.size + 1) (by first | omega | (simp; done) | (simp; omega)))
        have g3 : w.heap.size < w3.heap.size := by omega
        go_wp2_with fail
        refine (encode_any x y z _).mono ?_
        rintro e w4 ⟨rfl, hb4⟩; have hz4 := hb4.size; (try simp only [World.size_alloc] at hz4)
        rw [HE'.out]
        have hc4 := cellB (hb4.mono (B' := w.heap.size + 1) (by first | omega | (simp; done) | (simp; omega)))
        have g4 : w.heap.size < w4.heap.size := by omega
        go_wp2_with (first | (go_at_call 14; refine (may_any _ _ _ _).mono ?_; rintro e w5 ⟨rfl, hb5⟩; have hz5 := hb5.size; (try simp only [World.size_alloc] at hz5)))
        go_ret
        exact ⟨rfl, by (repeat (first | exact Below.refl _ _ | refine Below.setCell ?_ (by first | omega | (simp; done) | (simp; omega)) _ | refine Below.alloc ?_ (by first | omega | (simp; done) | (simp; omega)) _ | refine Below.drew ?_ | refine below_drewN ?_ _ | refine Below.trans ?_ (Below.mono (by assumption) (by first | omega | (simp; done) | (simp; omega)))))⟩
    | false =>
      have hE : encV a b c = .tuple #[.string ⟨#[]⟩, .int .i64 4] := by unfold encV; rw [if_neg (by rw [hm]; simp)]
      have HE := Lib.hid hE
      clear hE
      go_enter Try.func5, Try.ntmps5
      go_wp2_with (go_at_call 9; refine (awake_any _).mono ?_; rintro e w0 ⟨rfl, hb0⟩; have hz0 := hb0.size; (try simp only [World.size_alloc] at hz0); have hc0 := cellB (hb0.mono (B' := w.heap.size + 1) (by simp)))
      go_wp2_with fail
      refine (encode_any a b c _).mono ?_
      rintro e w1 ⟨rfl, hb1⟩; have hz1 := hb1.size; (try simp only [World.size_alloc] at hz1)
      rw [HE.out]
      have hc1 := cellB (hb1.mono (B' := w.heap.size + 1) (by first | omega | (simp; done) | (simp; omega)))
      have g2 : w.heap.size < w1.heap.size := by omega
      rcases HC.out with hD | ⟨x, y, z, hD, hE⟩
      · have HD' := Lib.hid hD
        clear hD
        go_wp2_with fail
        refine (decode_any l (by omega) _).mono ?_
        rintro e w3 ⟨rfl, hb3⟩; have hz3 := hb3.size; (try simp only [World.size_alloc] at hz3)
        rw [HD'.out]
        have hc3 := cellB (hb3.mono (B' := w.heap.size + 1) (by first | omega | (simp; done) | (simp; omega)))
        have g3 : w.heap.size < w3.heap.size := by omega
        go_wp2_with (first | (go_at_call 14; refine (may_any _ _ _ _).mono ?_; rintro e w4 ⟨rfl, hb4⟩; have hz4 := hb4.size; (try simp only [World.size_alloc] at hz4)))
        go_ret
        exact ⟨rfl, by (repeat (first | exact Below.refl _ _ | refine Below.setCell ?_ (by first | omega | (simp; done) | (simp; omega)) _ | refine Below.alloc ?_ (by first | omega | (simp; done) | (simp; omega)) _ | refine Below.drew ?_ | refine below_drewN ?_ _ | refine Below.trans ?_ (Below.mono (by assumption) (by first | omega | (simp; done) | (simp; omega)))))⟩
      · have HD' := Lib.hid hD
        have HE' := Lib.hid hE
        clear hD hE
        go_wp2_with fail
        refine (decode_any l (by omega) _).mono ?_
        rintro e w3 ⟨rfl, hb3⟩; have hz3 := hb3.size; (try simp only [World.size_alloc] at hz3)
        rw [HD'.out]
        have hc3 := cellB (hb3.mono (B' := w.heap.size + 1) (by first | omega | (simp; done) | (simp; omega)))
        have g3 : w.heap.size < w3.heap.size := by omega
        go_wp2_with fail
        refine (encode_any x y z _).mono ?_
        rintro e w4 ⟨rfl, hb4⟩; have hz4 := hb4.size; (try simp only [World.size_alloc] at hz4)
        rw [HE'.out]
        have hc4 := cellB (hb4.mono (B' := w.heap.size + 1) (by first | omega | (simp; done) | (simp; omega)))
        have g4 : w.heap.size < w4.heap.size := by omega
        go_wp2_with (first | (go_at_call 14; refine (may_any _ _ _ _).mono ?_; rintro e w5 ⟨rfl, hb5⟩; have hz5 := hb5.size; (try simp only [World.size_alloc] at hz5)))
        go_ret
        exact ⟨rfl, by (repeat (first | exact Below.refl _ _ | refine Below.setCell ?_ (by first | omega | (simp; done) | (simp; omega)) _ | refine Below.alloc ?_ (by first | omega | (simp; done) | (simp; omega)) _ | refine Below.drew ?_ | refine below_drewN ?_ _ | refine Below.trans ?_ (Below.mono (by assumption) (by first | omega | (simp; done) | (simp; omega)))))⟩

theorem own : ownKnob Try.prog.godebug = none := by kernel_rfl
theorem laidOut : laidOutB Try.prog = true := by kernel_rfl

set_option maxRecDepth 100000 in
theorem lifted (os : Os) (started : os.Started) (H : Type) (enc : TypeId × Value → H) :
    ReturnsInHanded {} Try.checked os 5 .any (Rows.handleBackSpec.pre6 enc Try.prog Try.f5 Rows.handleBackRow.domain false) (Rows.handleBackSpec.post enc Try.prog Try.f5 false true false false) := by
  refine returnsInHanded_of_change (C := Try.checked) own started (by kernel_rfl) Try.func5
    (ChangeSpec.witness6 (enc := enc) (C := Try.checked) false ⟨#[], #[.agg #[.int .i64 0, .int .i64 0, .int .i64 0], .string ⟨#[]⟩], []⟩ 8 (by kernel_rfl) (by kernel_rfl) (by kernel_rfl) (by kernel_rfl)) ?_
  intro W base args ds gs before hval0 hW hcnd _
  have hval : ∀ (j : Nat) t v, Try.f5.params[j]? = some t → args[j]? = some v → Value.okWide Try.prog W .any base t v := hval0
  have hW' := hW
  obtain ⟨p, q, hA0, hV, rfl, hfz, hnd⟩ := hW
  have hA : DataW.TrodAll enc Try.prog W 0 (fun _ => true) true Try.f5.params.toList args.toList ds p := hA0
  rw [Try.params5] at hA hval
  obtain ⟨v0, vs0, d0, ds0, p0, q0, hargs, rfl, rfl, h0, r0⟩ := trodAll_cons hA
  obtain ⟨v1, vs1, d1, ds1, p1, q1, rfl, rfl, rfl, h1, r1⟩ := trodAll_cons r0
  obtain ⟨rfl, rfl, rfl⟩ := trodAll_nil r1
  obtain rfl : args = #[v0, v1] := by cases args; simp_all
  obtain ⟨rfl, rfl⟩ := trodVars_none hV
  have k0 := h0
  have lt0 : ∀ x ∈ p0, x.block < W.heap.size := by obtain ⟨m, hm⟩ := k0; exact DataW.trod_lt m _ _ _ hm
  have k1 := h1
  have lt1 : ∀ x ∈ p1, x.block < W.heap.size := by obtain ⟨m, hm⟩ := k1; exact DataW.trod_lt m _ _ _ hm
  obtain ⟨a0, b0, c0, rfl, wa0, wb0, wc0⟩ := open_handle Try.underlying23 Try.underlying3 (by kernel_rfl) (by kernel_rfl) (hval 0 _ v0 rfl rfl) h0
  obtain ⟨l1, rfl, wl1⟩ := open_str Try.underlying9 (hval 1 _ v1 rfl rfl) h1
  refine (walk a0 b0 c0 wa0 wb0 wc0 l1 wl1 W).mono fun e W' ⟨he, bel⟩ => ?_
  subst he
  exact ⟨_, rfl, _, _, _, [], _, [], hW', trodAll_mk1 (shut_bool Try.underlying4 _), (trodAll_cons_mk (Below.trod laidOut (by kernel_rfl) (of_decide_eq_true (by kernel_rfl)) k0 bel lt0) (trodAll_cons_mk (Below.trod laidOut (by kernel_rfl) (of_decide_eq_true (by kernel_rfl)) k1 bel lt1) trodAll_mk0)), rfl, bel.frame _, fun h => by cases h⟩

theorem proved : Rows.HandleBackSaid :=
  OpenClaim.holds_of_wide 5 Try.f5 rfl rfl rfl rfl rfl rfl rfl ⟨rfl, rfl, rfl, rfl, rfl⟩ rfl rfl rfl rfl rfl (by kernel_rfl) Try.func5 (by kernel_rfl)
    (of_decide_eq_true (by kernel_rfl)) (by unfold Func.isWrapper; first | (rw [if_pos (by decide +kernel)]; kernel_rfl) | (rw [if_neg (by decide +kernel)]; exact ⟨rfl, rfl⟩))
    (fun os started H enc _ => lifted os started H enc)
end Go.Proofs.Yteiaihjdcdagoaa.handleBack
