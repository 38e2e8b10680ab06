/- Proved: HandleApart returns true whatever two handles it is called with, and each argument reads behind the call as before. No condition. -/
import Derived.Test.YteiaihjdcdagoaaHandleG
import Derived.Test.YteiaihjdcdagoaaLift
set_option linter.unusedVariables false
namespace Go.Proofs.Yteiaihjdcdagoaa.handleApart
open Go.RowKit Go.ChangeShapes Go.WideShapes Go.ChangeAt
attribute [local go_sem ↓] neq_handle eql_handle

theorem bytesLess_irr : ∀ l : List UInt8, Op.bytesLess l l = false
  | [] => rfl
  | a :: l => by simp [Op.bytesLess, bytesLess_irr l]
theorem bytesLess_append : ∀ (l m r s : List UInt8), l.length = m.length → Op.bytesLess (l ++ r) (m ++ s) = if l = m then Op.bytesLess r s else Op.bytesLess l m
  | [], [], r, s, _ => by simp
  | a :: l, b :: m, r, s, h => by
    have ih := bytesLess_append l m r s (by simpa using h)
    simp only [List.cons_append, Op.bytesLess]
    by_cases hab : a = b
    · subst hab
      simp only [List.cons.injEq, true_and]
      rw [ih]
      by_cases hl : l = m <;> simp [hl]
    · have : (a == b) = false := by simpa using hab
      simp [hab, this]

theorem byte_lt (m n : Int) : (byteOf m < byteOf n) ↔ m % 256 < n % 256 := by
  rw [UInt8.lt_iff_toNat_lt]
  have h1 := byteOf_toNat m
  have h2 := byteOf_toNat n
  omega
theorem byte_eq (m n : Int) : (byteOf m = byteOf n) ↔ m % 256 = n % 256 := by
  rw [← UInt8.toNat_inj]
  have h1 := byteOf_toNat m
  have h2 := byteOf_toNat n
  omega

theorem word_less (a b : Int) (ha : 0 ≤ a ∧ a < 4294967296) (hb : 0 ≤ b ∧ b < 4294967296) : Op.bytesLess (beN a 4) (beN b 4) = decide (a < b) := by
  rw [Bool.eq_iff_iff]
  simp [beN, Op.bytesLess, byte_lt, byte_eq]
  have e1 : a / 65536 = a / 256 / 256 := by omega
  have e2 : a / 16777216 = a / 256 / 256 / 256 := by omega
  have e3 : b / 65536 = b / 256 / 256 := by omega
  have e4 : b / 16777216 = b / 256 / 256 / 256 := by omega
  rw [e1, e2, e3, e4]
  clear e1 e2 e3 e4
  omega
theorem word_inj (a b : Int) (ha : 0 ≤ a ∧ a < 4294967296) (hb : 0 ≤ b ∧ b < 4294967296) : beN a 4 = beN b 4 ↔ a = b := by
  constructor
  · intro h
    have e := congrArg (fun l => pre l 0 4) h
    simp [beN, pre, byteOf_toNat] at e
    omega
  · rintro rfl; rfl
theorem head_less {a b c x y z : Int} (h : mayB a b c = true) (h' : mayB x y z = true) : Op.bytesLess (head16 a b c) (head16 x y z) = lessB a b c x y z := by
  have h1 := mayB_spec h
  have h2 := mayB_spec h'
  unfold head16 lessB
  simp only [List.append_assoc]
  rw [bytesLess_append (beN 1 4) (beN 1 4) _ _ rfl, if_pos rfl, bytesLess_append (beN a 4) (beN x 4) _ _ rfl, bytesLess_append (beN b 4) (beN y 4) _ _ rfl, word_less a x ⟨by omega, by omega⟩ ⟨by omega, by omega⟩, word_less b y ⟨by omega, by omega⟩ ⟨by omega, by omega⟩,
    word_less c z ⟨by omega, by omega⟩ ⟨by omega, by omega⟩]
  simp only [word_inj a x ⟨by omega, by omega⟩ ⟨by omega, by omega⟩, word_inj b y ⟨by omega, by omega⟩ ⟨by omega, by omega⟩]
  by_cases e1 : a = x <;> by_cases e2 : b = y <;> simp [e1, e2]


theorem hbytes_inj {a b c x y z : Int} (h : mayB a b c = true) (h' : mayB x y z = true) : (hbytes a b c == hbytes x y z) = eqH a b c x y z := by
  have h1 := mayB_spec h
  have h2 := mayB_spec h'
  rw [Bool.eq_iff_iff]
  simp only [beq_iff_eq, eqH, decide_eq_true_eq]
  constructor
  · intro e
    obtain ⟨g1, g2, g3⟩ := hbytes_nums a b c ⟨h1.1, h1.2.1⟩ ⟨by omega, by omega⟩ ⟨by omega, by omega⟩
    obtain ⟨k1, k2, k3⟩ := hbytes_nums x y z ⟨h2.1, h2.2.1⟩ ⟨by omega, by omega⟩ ⟨by omega, by omega⟩
    rw [e] at g1 g2 g3
    exact ⟨g1.symm.trans k1, g2.symm.trans k2, g3.symm.trans k3⟩
  · rintro ⟨rfl, rfl, rfl⟩; rfl

theorem walk (a b c : Int) (_ : (Lit.int .i64 a).wf = true) (_ : (Lit.int .i64 b).wf = true) (_ : (Lit.int .i64 c).wf = true) (x y z : Int) (_ : (Lit.int .i64 x).wf = true) (_ : (Lit.int .i64 y).wf = true) (_ : (Lit.int .i64 z).wf = true) (w : World) :
    Calls Try.prog 8 #[hv a b c, hv x y z] w fun e w' => e = .returned (.bool true) ∧ Below w.heap.size w w' := by
  have hu : ∀ s i g, hv s i g = .agg #[.int .i64 s, .int .i64 i, .int .i64 g] := fun _ _ _ => rfl
  have key : ∃ S E T F, encV a b c = .tuple #[.string (str S), .int .i64 E] ∧ encV x y z = .tuple #[.string (str T), .int .i64 F] ∧
      ((E = 4 ∧ mayB a b c = false ∧ ((F = 4 ∧ mayB x y z = false) ∨ (F = 0 ∧ mayB x y z = true))) ∨ (E = 0 ∧ mayB a b c = true ∧ F = 4 ∧ mayB x y z = false) ∨
        (E = 0 ∧ F = 0 ∧ S.length = 24 ∧ T.length = 24 ∧ (S == T) = eqH a b c x y z ∧ Op.bytesLess (S.take 16) (T.take 16) = lessB a b c x y z)) := by
    unfold encV
    cases h : mayB a b c with
    | false =>
      cases h' : mayB x y z with
      | false => exact ⟨[], 4, [], 4, rfl, rfl, .inl ⟨rfl, rfl, .inl ⟨rfl, rfl⟩⟩⟩
      | true => exact ⟨[], 4, _, 0, rfl, rfl, .inl ⟨rfl, rfl, .inr ⟨rfl, rfl⟩⟩⟩
    | true =>
      cases h' : mayB x y z with
      | false => exact ⟨_, 0, [], 4, rfl, rfl, .inr (.inl ⟨rfl, rfl, rfl, rfl⟩)⟩
      | true => exact ⟨_, 0, _, 0, rfl, rfl, .inr (.inr ⟨rfl, rfl, hbytes_length _ _ _, hbytes_length _ _ _, hbytes_inj h h', by
          unfold hbytes
          rw [List.take_left' (head16_length _ _ _), List.take_left' (head16_length _ _ _)]
          exact head_less h h'⟩)⟩
  obtain ⟨S, E, T, F, hE, hF, hcase⟩ := key
  have HE := Lib.hid hE
  have HF := Lib.hid hF
  have HC := Lib.hid hcase
  clear hE hF hcase
  go_enter Try.func8, Try.ntmps8
  go_wp2_with (go_at_call 9; refine (awake_any _).mono ?_; rintro e w0 ⟨rfl, hb0⟩; have hz0 := hb0.size; (try simp only [World.size_alloc] at hz0); have hc0 := cellB (hb0.mono (B' := w.heap.size + 2) (by simp)))
  go_wp2_with fail
  refine (encode_any a b c _).mono ?_
  rintro e w1 ⟨rfl, hb1⟩; have hz1 := hb1.size; (try simp only [World.size_alloc] at hz1)
  rw [HE.out]
  have hc1 := cellB (hb1.mono (B' := w.heap.size + 2) (by first | omega | (simp; done) | (simp; omega)))
  go_wp2_with fail
  refine (encode_any x y z _).mono ?_
  rintro e w2 ⟨rfl, hb2⟩; have hz2 := hb2.size; (try simp only [World.size_alloc] at hz2)
  rw [HF.out]
  have hc2 := cellB (hb2.mono (B' := w.heap.size + 2) (by first | omega | (simp; done) | (simp; omega)))
  rcases HC.out with ⟨rfl, m1, ⟨rfl, m2⟩ | ⟨rfl, m2⟩⟩ | ⟨rfl, m1, rfl, m2⟩ | ⟨rfl, rfl, hS, hT, hst, hlt⟩
  · clear HC
    go_wp2_with (go_at_call 14; refine (may_any _ _ _ _).mono ?_; rintro e w3 ⟨rfl, hb3⟩; have hz3 := hb3.size; (try simp only [World.size_alloc] at hz3); have hc3 := cellB (hb3.mono (B' := w.heap.size + 2) (by first | omega | (simp; done) | (simp; omega))))
    go_ret
    exact ⟨rfl, by (repeat (first | exact Below.refl _ _ | refine Below.setCell ?_ (by first | omega | (simp; done) | (simp; omega)) _ | refine Below.alloc ?_ (by first | omega | (simp; done) | (simp; omega)) _ | refine Below.drew ?_ | refine below_drewN ?_ _ | refine Below.trans ?_ (Below.mono (by assumption) (by first | omega | (simp; done) | (simp; omega)))))⟩
  · clear HC
    go_wp2_with (go_at_call 14; refine (may_any _ _ _ _).mono ?_; rintro e w3 ⟨rfl, hb3⟩; have hz3 := hb3.size; (try simp only [World.size_alloc] at hz3); have hc3 := cellB (hb3.mono (B' := w.heap.size + 2) (by first | omega | (simp; done) | (simp; omega))))
    go_ret
    exact ⟨rfl, by (repeat (first | exact Below.refl _ _ | refine Below.setCell ?_ (by first | omega | (simp; done) | (simp; omega)) _ | refine Below.alloc ?_ (by first | omega | (simp; done) | (simp; omega)) _ | refine Below.drew ?_ | refine below_drewN ?_ _ | refine Below.trans ?_ (Below.mono (by assumption) (by first | omega | (simp; done) | (simp; omega)))))⟩
  · clear HC
    go_wp2_with (go_at_call 14; refine (may_any _ _ _ _).mono ?_; rintro e w3 ⟨rfl, hb3⟩; have hz3 := hb3.size; (try simp only [World.size_alloc] at hz3); have hc3 := cellB (hb3.mono (B' := w.heap.size + 2) (by first | omega | (simp; done) | (simp; omega))))
    go_ret
    exact ⟨rfl, by (repeat (first | exact Below.refl _ _ | refine Below.setCell ?_ (by first | omega | (simp; done) | (simp; omega)) _ | refine Below.alloc ?_ (by first | omega | (simp; done) | (simp; omega)) _ | refine Below.drew ?_ | refine below_drewN ?_ _ | refine Below.trans ?_ (Below.mono (by assumption) (by first | omega | (simp; done) | (simp; omega)))))⟩
  · have sl := strL
    have sz1 : (str S).size = 24 := by rw [str_size, hS]
    have sz2 : (str T).size = 24 := by rw [str_size, hT]
    have x1 : (str S).extract 0 16 = str (S.take 16) := str_extract _ _ _
    have x2 : (str T).extract 0 16 = str (T.take 16) := str_extract _ _ _
    have hless : ∀ w, Calls Try.prog 16 #[.agg #[.int .i64 a, .int .i64 b, .int .i64 c], .agg #[.int .i64 x, .int .i64 y, .int .i64 z]] w _ := less_any a b c x y z
    generalize lessB a b c x y z = L at *
    have HL := Lib.hid hless
    have Hst := Lib.hid hst
    clear HC hless hst hS hT
    generalize S.take 16 = S16 at *
    generalize T.take 16 = T16 at *
    obtain ⟨q, hq⟩ : ∃ q, eqH a b c x y z = q := ⟨_, rfl⟩
    have hst := Hst.out
    rw [hq] at hst
    clear Hst
    have ex := fun (e : ExtOf (w.heap.size + 2) w2) k o (h : k < w.heap.size + 2) => ExtOf.cellB e k o h
    have hz : w.heap.size + 2 ≤ w2.heap.size := by omega
    go_wp2_with fail
    refine wp_region_ext (w.heap.size + 2) (by kernel_rfl) (by kernel_rfl) ?_
    repeat (go_big_quiet_step ((go_at_call 16; exact ext_of hz (HL.out _))))
    refine wpQuiet_nil ?_
    rintro w3 ⟨⟨_, hb3⟩, rfl⟩
    go_wp2
    go_ret
    exact ⟨rfl, by (repeat (first | exact Below.refl _ _ | refine Below.setCell ?_ (by first | omega | (simp; done) | (simp; omega)) _ | refine Below.alloc ?_ (by first | omega | (simp; done) | (simp; omega)) _ | refine Below.drew ?_ | refine below_drewN ?_ _ | refine Below.trans ?_ (Below.mono (by assumption) (by first | omega | (simp; done) | (simp; omega)))))⟩

theorem own : ownKnob Try.prog.godebug = none := by kernel_rfl
theorem laidOut : laidOutB Try.prog = true := by kernel_rfl

set_option maxRecDepth 100000 in
theorem lifted (os : Os) (started : os.Started) (H : Type) (enc : TypeId × Value → H) :
    ReturnsInHanded {} Try.checked os 8 .any (Rows.handleApartSpec.pre6 enc Try.prog Try.f8 Rows.handleApartRow.domain false) (Rows.handleApartSpec.post enc Try.prog Try.f8 false true false false) := by
  refine returnsInHanded_of_change (C := Try.checked) own started (by kernel_rfl) Try.func8
    (ChangeSpec.witness6 (enc := enc) (C := Try.checked) false ⟨#[], #[.agg #[.int .i64 0, .int .i64 0, .int .i64 0], .agg #[.int .i64 0, .int .i64 0, .int .i64 0]], []⟩ 8 (by kernel_rfl) (by kernel_rfl) (by kernel_rfl) (by kernel_rfl)) ?_
  intro W base args ds gs before hval0 hW hcnd _
  have hval : ∀ (j : Nat) t v, Try.f8.params[j]? = some t → args[j]? = some v → Value.okWide Try.prog W .any base t v := hval0
  have hW' := hW
  obtain ⟨p, q, hA0, hV, rfl, hfz, hnd⟩ := hW
  have hA : DataW.TrodAll enc Try.prog W 0 (fun _ => true) true Try.f8.params.toList args.toList ds p := hA0
  rw [Try.params8] at hA hval
  obtain ⟨v0, vs0, d0, ds0, p0, q0, hargs, rfl, rfl, h0, r0⟩ := trodAll_cons hA
  obtain ⟨v1, vs1, d1, ds1, p1, q1, rfl, rfl, rfl, h1, r1⟩ := trodAll_cons r0
  obtain ⟨rfl, rfl, rfl⟩ := trodAll_nil r1
  obtain rfl : args = #[v0, v1] := by cases args; simp_all
  obtain ⟨rfl, rfl⟩ := trodVars_none hV
  have k0 := h0
  have lt0 : ∀ x ∈ p0, x.block < W.heap.size := by obtain ⟨m, hm⟩ := k0; exact DataW.trod_lt m _ _ _ hm
  have k1 := h1
  have lt1 : ∀ x ∈ p1, x.block < W.heap.size := by obtain ⟨m, hm⟩ := k1; exact DataW.trod_lt m _ _ _ hm
  obtain ⟨a0, b0, c0, rfl, wa0, wb0, wc0⟩ := open_handle Try.underlying23 Try.underlying3 (by kernel_rfl) (by kernel_rfl) (hval 0 _ v0 rfl rfl) h0
  obtain ⟨a1, b1, c1, rfl, wa1, wb1, wc1⟩ := open_handle Try.underlying23 Try.underlying3 (by kernel_rfl) (by kernel_rfl) (hval 1 _ v1 rfl rfl) h1
  refine (walk a0 b0 c0 wa0 wb0 wc0 a1 b1 c1 wa1 wb1 wc1 W).mono fun e W' ⟨he, bel⟩ => ?_
  subst he
  exact ⟨_, rfl, _, _, _, [], _, [], hW', trodAll_mk1 (shut_bool Try.underlying4 _), (trodAll_cons_mk (Below.trod laidOut (by kernel_rfl) (of_decide_eq_true (by kernel_rfl)) k0 bel lt0) (trodAll_cons_mk (Below.trod laidOut (by kernel_rfl) (of_decide_eq_true (by kernel_rfl)) k1 bel lt1) trodAll_mk0)), rfl, bel.frame _, fun h => by cases h⟩

theorem proved : Rows.HandleApartSaid :=
  OpenClaim.holds_of_wide 8 Try.f8 rfl rfl rfl rfl rfl rfl rfl ⟨rfl, rfl, rfl, rfl, rfl⟩ rfl rfl rfl rfl rfl (by kernel_rfl) Try.func8 (by kernel_rfl)
    (of_decide_eq_true (by kernel_rfl)) (by unfold Func.isWrapper; first | (rw [if_pos (by decide +kernel)]; kernel_rfl) | (rw [if_neg (by decide +kernel)]; exact ⟨rfl, rfl⟩))
    (fun os started H enc _ => lifted os started H enc)
end Go.Proofs.Yteiaihjdcdagoaa.handleApart
