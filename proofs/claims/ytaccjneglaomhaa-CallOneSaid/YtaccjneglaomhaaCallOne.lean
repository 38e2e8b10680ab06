/- The claim CallOne: the walk of its law, and the statement. -/
import Derived.Test.YtaccjneglaomhaaCallI
set_option linter.unusedVariables false
namespace Go.Proofs.Ytaccjneglaomhaa.callOne
open Go.RowKit Go.ChangeShapes Go.WideShapes Go.ChangeAt Go.Deep Go.Proofs.Ytaccjneglaomhaa
attribute [local go_sem ↓] eql_rhead eql_rans

set_option maxHeartbeats 16000000 in
set_option maxRecDepth 100000 in
theorem walk0 (c x p : Int) (l : List UInt8) (c' x' p' : Int) (l' : List UInt8) (y e : Int) (m : List UInt8) (y' e' : Int) (m' : List UInt8) (w : World) (w1 : l.length ≤ 140737488351232) (w2 : l'.length ≤ 140737488351232) (w3 : m.length ≤ 140737488351232) (w4 : m'.length ≤ 140737488351232) :
    Calls Try.prog 8 #[.agg #[.int .i64 c, .int .i64 x, .int .i64 p, .string (str l)], .agg #[.int .i64 c', .int .i64 x', .int .i64 p', .string (str l')], .agg #[.int .i64 y, .int .i64 e, .string (str m)], .agg #[.int .i64 y', .int .i64 e', .string (str m')]] w fun r w' => r = .returned (.bool true) ∧ Below w.heap.size w w' := by
  have s1 := str_size l
  have s2 := str_size l'
  have s3 := str_size m
  have s4 := str_size m'
  by_cases h1 : 20000 < l.length + l'.length
  · go_enter Try.func8, Try.ntmps8
    go_wp2_with (go_at_call 56; refine (works03_any _).mono ?_; rintro e w0 ⟨rfl, hb0⟩; have hz0 := hb0.size; (try simp only [World.size_alloc] at hz0); have hc0 := cellB (hb0.mono (B' := w.heap.size + 4) (by first | omega | (simp; done) | (simp; omega))))
    go_ret
    exact ⟨rfl, by (repeat' (first | (with_reducible assumption) | (with_reducible exact Below.refl _ _) | (with_reducible refine below_sc ?_ ?_) | ((with_reducible show (_ : Nat) ≤ _); omega) | refine Below.setCell ?_ (by first | omega | (simp; done) | (simp; omega)) _ | refine Below.alloc ?_ (by first | omega | (simp; done) | (simp; omega)) _ | refine Below.drew ?_ | refine below_drewN ?_ _ | refine Below.trans ?_ (Below.mono (by assumption) (by first | omega | (simp; done) | (simp; omega)))))⟩
  by_cases h2 : 20000 < m.length + m'.length
  · go_enter Try.func8, Try.ntmps8
    go_wp2_with (go_at_call 56; refine (works03_any _).mono ?_; rintro e w0 ⟨rfl, hb0⟩; have hz0 := hb0.size; (try simp only [World.size_alloc] at hz0); have hc0 := cellB (hb0.mono (B' := w.heap.size + 4) (by first | omega | (simp; done) | (simp; omega))))
    go_ret
    exact ⟨rfl, by (repeat' (first | (with_reducible assumption) | (with_reducible exact Below.refl _ _) | (with_reducible refine below_sc ?_ ?_) | ((with_reducible show (_ : Nat) ≤ _); omega) | refine Below.setCell ?_ (by first | omega | (simp; done) | (simp; omega)) _ | refine Below.alloc ?_ (by first | omega | (simp; done) | (simp; omega)) _ | refine Below.drew ?_ | refine below_drewN ?_ _ | refine Below.trans ?_ (Below.mono (by assumption) (by first | omega | (simp; done) | (simp; omega)))))⟩
  obtain ⟨R1, hR1⟩ : ∃ R, R = cW c x p l := ⟨_, rfl⟩
  obtain ⟨R2, hR2⟩ : ∃ R, R = cW c' x' p' l' := ⟨_, rfl⟩
  obtain ⟨R3, hR3⟩ : ∃ R, R = cT y e m := ⟨_, rfl⟩
  obtain ⟨R4, hR4⟩ : ∃ R, R = cT y' e' m' := ⟨_, rfl⟩
  have f1 : R1.2 = 0 → (R1.1.length = 24 + l.length) := fun h => by rw [hR1] at h ⊢; rw [(cW_ok h).1, List.length_append, wordsL_length]; simp
  have f2 : R1.2 = 0 → R2.2 = 0 → ((R1.1 == R2.1) = eqHd c x p l c' x' p' l') := fun h h' => by
    rw [hR1] at h ⊢; rw [hR2] at h' ⊢
    have := cW_inj h h'
    cases hq : eqHd c x p l c' x' p' l' with
    | true => rw [hq] at this; rw [beq_iff_eq, this.2 rfl]
    | false => rw [hq] at this; rw [beq_eq_false_iff_ne]; intro hs; have := this.1 hs; cases this
  have f3 : R3.2 = 0 → (R3.1.length = 12 + m.length) := fun h => by rw [hR3] at h ⊢; rw [(cT_ok h).1, List.length_append, wordsL_length]; simp
  have f4 : R3.2 = 0 → R4.2 = 0 → ((R3.1 == R4.1) = eqAn y e m y' e' m') := fun h h' => by
    rw [hR3] at h ⊢; rw [hR4] at h' ⊢
    have := cT_inj h h'
    cases hq : eqAn y e m y' e' m' with
    | true => rw [hq] at this; rw [beq_iff_eq, this.2 rfl]
    | false => rw [hq] at this; rw [beq_eq_false_iff_ne]; intro hs; have := this.1 hs; cases this
  have k1 := fun w => cWrite_any c x p l w (by omega)
  have k2 := fun w => cWrite_any c' x' p' l' w (by omega)
  have k3 := fun w => cTell_any y e m w (by omega)
  have k4 := fun w => cTell_any y' e' m' w (by omega)
  rw [← hR1] at k1
  rw [← hR2] at k2
  rw [← hR3] at k3
  rw [← hR4] at k4
  clear hR1 hR2 hR3 hR4
  obtain ⟨S, E⟩ := R1
  obtain ⟨S', E'⟩ := R2
  obtain ⟨U, G⟩ := R3
  obtain ⟨U', G'⟩ := R4
  simp only at f1 f2 f3 f4
  have hv : ∀ r : List UInt8 × Int, seV r = .tuple #[.string (str r.1), .int .i64 r.2] := fun _ => rfl
  simp only [hv, headV, ansV] at k1 k2 k3 k4
  have K1 := Lib.hid k1
  have K2 := Lib.hid k2
  have K3 := Lib.hid k3
  have K4 := Lib.hid k4
  have F1 := Lib.hid f1
  have F2 := Lib.hid f2
  have F3 := Lib.hid f3
  have F4 := Lib.hid f4
  clear f1 f2 f3 f4 k1 k2 k3 k4 hv
  have sL := strL
  go_enter Try.func8, Try.ntmps8
  go_wp2_with (go_at_call 56; refine (works03_any _).mono ?_; rintro e w0 ⟨rfl, hb0⟩; have hz0 := hb0.size; (try simp only [World.size_alloc] at hz0); have hc0 := cellB (hb0.mono (B' := w.heap.size + 4) (by first | omega | (simp; done) | (simp; omega))))
  refine (K1.out _).mono ?_
  rintro e w1 ⟨rfl, hb1⟩; have hz1 := hb1.size; (try simp only [World.size_alloc] at hz1)
  have hc1 := cellB (hb1.mono (B' := w.heap.size + 4) (by first | omega | (simp; done) | (simp; omega)))
  go_wp2_with fail
  refine (K2.out _).mono ?_
  rintro e w2 ⟨rfl, hb2⟩; have hz2 := hb2.size; (try simp only [World.size_alloc] at hz2)
  have hc2 := cellB (hb2.mono (B' := w.heap.size + 4) (by first | omega | (simp; done) | (simp; omega)))
  by_cases g1 : E = 0
  · subst g1
    have q1 := F1.out rfl
    have t1 := str_size S
    rw [q1] at t1
    by_cases g2 : E' = 0
    · subst g2
      have q2 := F2.out rfl rfl
      cases q : eqHd c x p l c' x' p' l' with
      | true =>
        rw [q] at q2
        go_wp2_with fail
        refine (K3.out _).mono ?_
        rintro e w3 ⟨rfl, hb3⟩; have hz3 := hb3.size; (try simp only [World.size_alloc] at hz3)
        have hc3 := cellB (hb3.mono (B' := w.heap.size + 4) (by first | omega | (simp; done) | (simp; omega)))
        go_wp2_with fail
        refine (K4.out _).mono ?_
        rintro e w4 ⟨rfl, hb4⟩; have hz4 := hb4.size; (try simp only [World.size_alloc] at hz4)
        have hc4 := cellB (hb4.mono (B' := w.heap.size + 4) (by first | omega | (simp; done) | (simp; omega)))
        have hfin : Below w.heap.size w w4 := by (repeat' (first | (with_reducible assumption) | (with_reducible exact Below.refl _ _) | (with_reducible refine below_sc ?_ ?_) | ((with_reducible show (_ : Nat) ≤ _); omega) | refine Below.setCell ?_ (by first | omega | (simp; done) | (simp; omega)) _ | refine Below.alloc ?_ (by first | omega | (simp; done) | (simp; omega)) _ | refine Below.drew ?_ | refine below_drewN ?_ _ | refine Below.trans ?_ (Below.mono (by assumption) (by first | omega | (simp; done) | (simp; omega)))))
        by_cases g1 : G = 0
        · subst g1
          have q1 := F3.out rfl
          have u1 := str_size U
          rw [q1] at u1
          by_cases g2 : G' = 0
          · subst g2
            have q2 := F4.out rfl rfl
            cases q : eqAn y e m y' e' m' with
            | true =>
              rw [q] at q2
              go_wp2_with fail
              go_ret
              exact ⟨rfl, hfin⟩
            | false =>
              rw [q] at q2
              go_wp2_with fail
              go_ret
              exact ⟨rfl, hfin⟩
          · have z2 : (G' == 0) = false := beq_eq_false_iff_ne.2 g2
            go_wp2_with fail
            go_ret
            exact ⟨rfl, hfin⟩
        · have z1 : (G == 0) = false := beq_eq_false_iff_ne.2 g1
          go_wp2_with fail
          go_ret
          exact ⟨rfl, hfin⟩
      | false =>
        rw [q] at q2
        go_wp2_with fail
        refine (K3.out _).mono ?_
        rintro e w3 ⟨rfl, hb3⟩; have hz3 := hb3.size; (try simp only [World.size_alloc] at hz3)
        have hc3 := cellB (hb3.mono (B' := w.heap.size + 4) (by first | omega | (simp; done) | (simp; omega)))
        go_wp2_with fail
        refine (K4.out _).mono ?_
        rintro e w4 ⟨rfl, hb4⟩; have hz4 := hb4.size; (try simp only [World.size_alloc] at hz4)
        have hc4 := cellB (hb4.mono (B' := w.heap.size + 4) (by first | omega | (simp; done) | (simp; omega)))
        have hfin : Below w.heap.size w w4 := by (repeat' (first | (with_reducible assumption) | (with_reducible exact Below.refl _ _) | (with_reducible refine below_sc ?_ ?_) | ((with_reducible show (_ : Nat) ≤ _); omega) | refine Below.setCell ?_ (by first | omega | (simp; done) | (simp; omega)) _ | refine Below.alloc ?_ (by first | omega | (simp; done) | (simp; omega)) _ | refine Below.drew ?_ | refine below_drewN ?_ _ | refine Below.trans ?_ (Below.mono (by assumption) (by first | omega | (simp; done) | (simp; omega)))))
        by_cases g1 : G = 0
        · subst g1
          have q1 := F3.out rfl
          have u1 := str_size U
          rw [q1] at u1
          by_cases g2 : G' = 0
          · subst g2
            have q2 := F4.out rfl rfl
            cases q : eqAn y e m y' e' m' with
            | true =>
              rw [q] at q2
              go_wp2_with fail
              go_ret
              exact ⟨rfl, hfin⟩
            | false =>
              rw [q] at q2
              go_wp2_with fail
              go_ret
              exact ⟨rfl, hfin⟩
          · have z2 : (G' == 0) = false := beq_eq_false_iff_ne.2 g2
            go_wp2_with fail
            go_ret
            exact ⟨rfl, hfin⟩
        · have z1 : (G == 0) = false := beq_eq_false_iff_ne.2 g1
          go_wp2_with fail
          go_ret
          exact ⟨rfl, hfin⟩
    · have z2 : (E' == 0) = false := beq_eq_false_iff_ne.2 g2
      go_wp2_with fail
      refine (K3.out _).mono ?_
      rintro e w3 ⟨rfl, hb3⟩; have hz3 := hb3.size; (try simp only [World.size_alloc] at hz3)
      have hc3 := cellB (hb3.mono (B' := w.heap.size + 4) (by first | omega | (simp; done) | (simp; omega)))
      go_wp2_with fail
      refine (K4.out _).mono ?_
      rintro e w4 ⟨rfl, hb4⟩; have hz4 := hb4.size; (try simp only [World.size_alloc] at hz4)
      have hc4 := cellB (hb4.mono (B' := w.heap.size + 4) (by first | omega | (simp; done) | (simp; omega)))
      have hfin : Below w.heap.size w w4 := by (repeat' (first | (with_reducible assumption) | (with_reducible exact Below.refl _ _) | (with_reducible refine below_sc ?_ ?_) | ((with_reducible show (_ : Nat) ≤ _); omega) | refine Below.setCell ?_ (by first | omega | (simp; done) | (simp; omega)) _ | refine Below.alloc ?_ (by first | omega | (simp; done) | (simp; omega)) _ | refine Below.drew ?_ | refine below_drewN ?_ _ | refine Below.trans ?_ (Below.mono (by assumption) (by first | omega | (simp; done) | (simp; omega)))))
      by_cases g1 : G = 0
      · subst g1
        have q1 := F3.out rfl
        have u1 := str_size U
        rw [q1] at u1
        by_cases g2 : G' = 0
        · subst g2
          have q2 := F4.out rfl rfl
          cases q : eqAn y e m y' e' m' with
          | true =>
            rw [q] at q2
            go_wp2_with fail
            go_ret
            exact ⟨rfl, hfin⟩
          | false =>
            rw [q] at q2
            go_wp2_with fail
            go_ret
            exact ⟨rfl, hfin⟩
        · have z2 : (G' == 0) = false := beq_eq_false_iff_ne.2 g2
          go_wp2_with fail
          go_ret
          exact ⟨rfl, hfin⟩
      · have z1 : (G == 0) = false := beq_eq_false_iff_ne.2 g1
        go_wp2_with fail
        go_ret
        exact ⟨rfl, hfin⟩
  · have z1 : (E == 0) = false := beq_eq_false_iff_ne.2 g1
    go_wp2_with fail
    refine (K3.out _).mono ?_
    rintro e w3 ⟨rfl, hb3⟩; have hz3 := hb3.size; (try simp only [World.size_alloc] at hz3)
    have hc3 := cellB (hb3.mono (B' := w.heap.size + 4) (by first | omega | (simp; done) | (simp; omega)))
    go_wp2_with fail
    refine (K4.out _).mono ?_
    rintro e w4 ⟨rfl, hb4⟩; have hz4 := hb4.size; (try simp only [World.size_alloc] at hz4)
    have hc4 := cellB (hb4.mono (B' := w.heap.size + 4) (by first | omega | (simp; done) | (simp; omega)))
    have hfin : Below w.heap.size w w4 := by (repeat' (first | (with_reducible assumption) | (with_reducible exact Below.refl _ _) | (with_reducible refine below_sc ?_ ?_) | ((with_reducible show (_ : Nat) ≤ _); omega) | refine Below.setCell ?_ (by first | omega | (simp; done) | (simp; omega)) _ | refine Below.alloc ?_ (by first | omega | (simp; done) | (simp; omega)) _ | refine Below.drew ?_ | refine below_drewN ?_ _ | refine Below.trans ?_ (Below.mono (by assumption) (by first | omega | (simp; done) | (simp; omega)))))
    by_cases g1 : G = 0
    · subst g1
      have q1 := F3.out rfl
      have u1 := str_size U
      rw [q1] at u1
      by_cases g2 : G' = 0
      · subst g2
        have q2 := F4.out rfl rfl
        cases q : eqAn y e m y' e' m' with
        | true =>
          rw [q] at q2
          go_wp2_with fail
          go_ret
          exact ⟨rfl, hfin⟩
        | false =>
          rw [q] at q2
          go_wp2_with fail
          go_ret
          exact ⟨rfl, hfin⟩
      · have z2 : (G' == 0) = false := beq_eq_false_iff_ne.2 g2
        go_wp2_with fail
        go_ret
        exact ⟨rfl, hfin⟩
    · have z1 : (G == 0) = false := beq_eq_false_iff_ne.2 g1
      go_wp2_with fail
      go_ret
      exact ⟨rfl, hfin⟩

theorem walk (h : HeadT) (wh : h.Ok) (sh : h.l.length ≤ reachBytes) (g : HeadT) (wg : g.Ok) (sg : g.l.length ≤ reachBytes) (a : AnsT) (wa : a.Ok) (sa : a.l.length ≤ reachBytes) (b : AnsT) (wb : b.Ok) (sb : b.l.length ≤ reachBytes) (w : World) :
    Calls Try.prog 8 #[h.v, g.v, a.v, b.v] w fun r w' => r = .returned (.bool true) ∧ Below w.heap.size w w' := walk0 _ _ _ _ _ _ _ _ _ _ _ _ _ _ w sh sg sa sb

theorem own : ownKnob Try.prog.godebug = none := by kernel_rfl
theorem laidOut : laidOutB Try.prog = true := by kernel_rfl

set_option maxRecDepth 100000 in
theorem lifted (os : Os) (started : os.Started) (H : Type) (enc : TypeId × Value → H) :
    ReturnsInHanded {} Try.checked os 8 .any (Rows.callOneSpec.pre6 enc Try.prog Try.f8 Rows.callOneRow.domain false) (Rows.callOneSpec.post enc Try.prog Try.f8 false true false false) := by
  refine returnsInHanded_of_change_sized (C := Try.checked) own started (by kernel_rfl) Try.func8
    (ChangeSpec.witness6 (enc := enc) (C := Try.checked) false ⟨#[], #[.agg #[.int .i64 0, .int .i64 0, .int .i64 0, .string ⟨#[]⟩], .agg #[.int .i64 0, .int .i64 0, .int .i64 0, .string ⟨#[]⟩], .agg #[.int .i64 0, .int .i64 0, .string ⟨#[]⟩], .agg #[.int .i64 0, .int .i64 0, .string ⟨#[]⟩]], []⟩ 8 (by kernel_rfl) (by kernel_rfl) (by kernel_rfl) (by kernel_rfl)) ?_
  intro W base args ds gs before hval0 hW hcnd hreach0 _
  have hval : ∀ (j : Nat) t v, Try.f8.params[j]? = some t → args[j]? = some v → Value.okWide Try.prog W .any base t v := hval0
  have hW' := hW
  obtain ⟨p, q, hA0, hV, rfl, hfz, hnd⟩ := hW
  have hA : DataW.TrodAll enc Try.prog W 0 (fun _ => true) true Try.f8.params.toList args.toList ds p := hA0
  rw [Try.params8] at hA hval
  have hreach : (DataW.weightsEach Try.prog Try.f8.params.toList ds).all (fun x => decide (x ≤ reachBytes)) = true := by
    have h := List.all_eq_true.1 hreach0
    rw [List.all_eq_true]
    intro k hk
    exact h k (weights_app hk)
  rw [Try.params8] at hreach
  obtain ⟨v0, vs0, d0, ds0, p0, q0, hargs, rfl, rfl, h0, r0⟩ := trodAll_cons hA
  obtain ⟨v1, vs1, d1, ds1, p1, q1, rfl, rfl, rfl, h1, r1⟩ := trodAll_cons r0
  obtain ⟨v2, vs2, d2, ds2, p2, q2, rfl, rfl, rfl, h2, r2⟩ := trodAll_cons r1
  obtain ⟨v3, vs3, d3, ds3, p3, q3, rfl, rfl, rfl, h3, r3⟩ := trodAll_cons r2
  obtain ⟨rfl, rfl, rfl⟩ := trodAll_nil r3
  obtain rfl : args = #[v0, v1, v2, v3] := by cases args; simp_all
  obtain ⟨rfl, rfl⟩ := trodVars_none hV
  have k0 := h0
  have lt0 : ∀ x ∈ p0, x.block < W.heap.size := by obtain ⟨m, hm⟩ := k0; exact DataW.trod_lt m _ _ _ hm
  have k1 := h1
  have lt1 : ∀ x ∈ p1, x.block < W.heap.size := by obtain ⟨m, hm⟩ := k1; exact DataW.trod_lt m _ _ _ hm
  have k2 := h2
  have lt2 : ∀ x ∈ p2, x.block < W.heap.size := by obtain ⟨m, hm⟩ := k2; exact DataW.trod_lt m _ _ _ hm
  have k3 := h3
  have lt3 : ∀ x ∈ p3, x.block < W.heap.size := by obtain ⟨m, hm⟩ := k3; exact DataW.trod_lt m _ _ _ hm
  obtain ⟨x0, rfl, w0, m0⟩ := open_headR (hval 0 _ v0 rfl rfl) h0
  have s0 : ∀ k ∈ [x0.l.length], k ≤ reachBytes := fun k hk => of_decide_eq_true (List.all_eq_true.1 hreach _ (weights_in (j := 0) rfl rfl (m0 k hk)))
  obtain ⟨x1, rfl, w1, m1⟩ := open_headR (hval 1 _ v1 rfl rfl) h1
  have s1 : ∀ k ∈ [x1.l.length], k ≤ reachBytes := fun k hk => of_decide_eq_true (List.all_eq_true.1 hreach _ (weights_in (j := 1) rfl rfl (m1 k hk)))
  obtain ⟨x2, rfl, w2, m2⟩ := open_ansR (hval 2 _ v2 rfl rfl) h2
  have s2 : ∀ k ∈ [x2.l.length], k ≤ reachBytes := fun k hk => of_decide_eq_true (List.all_eq_true.1 hreach _ (weights_in (j := 2) rfl rfl (m2 k hk)))
  obtain ⟨x3, rfl, w3, m3⟩ := open_ansR (hval 3 _ v3 rfl rfl) h3
  have s3 : ∀ k ∈ [x3.l.length], k ≤ reachBytes := fun k hk => of_decide_eq_true (List.all_eq_true.1 hreach _ (weights_in (j := 3) rfl rfl (m3 k hk)))
  refine (walk x0 w0 (s0 _ (by simp)) x1 w1 (s1 _ (by simp)) x2 w2 (s2 _ (by simp)) x3 w3 (s3 _ (by simp)) W).mono fun e W' ⟨he, bel⟩ => ?_
  subst he
  exact ⟨_, rfl, _, _, _, [], _, [], hW', trodAll_mk1 (shut_bool Try.underlying4 _), (trodAll_cons_mk (Below.trod laidOut (by kernel_rfl) (of_decide_eq_true (by kernel_rfl)) k0 bel lt0) (trodAll_cons_mk (Below.trod laidOut (by kernel_rfl) (of_decide_eq_true (by kernel_rfl)) k1 bel lt1) (trodAll_cons_mk (Below.trod laidOut (by kernel_rfl) (of_decide_eq_true (by kernel_rfl)) k2 bel lt2) (trodAll_cons_mk (Below.trod laidOut (by kernel_rfl) (of_decide_eq_true (by kernel_rfl)) k3 bel lt3) trodAll_mk0)))), rfl, bel.frame _, fun h => by cases h⟩

theorem proved : Rows.CallOneSaid :=
  OpenClaim.holds_of_wide 8 Try.f8 rfl rfl rfl rfl rfl rfl rfl ⟨rfl, rfl, rfl, rfl, rfl⟩ rfl rfl rfl rfl rfl (by kernel_rfl) Try.func8 (by kernel_rfl)
    (of_decide_eq_true (by kernel_rfl)) (by unfold Func.isWrapper; first | (rw [if_pos (by decide +kernel)]; kernel_rfl) | (rw [if_neg (by decide +kernel)]; exact ⟨rfl, rfl⟩))
    (fun os started H enc _ => lifted os started H enc)
end Go.Proofs.Ytaccjneglaomhaa.callOne
