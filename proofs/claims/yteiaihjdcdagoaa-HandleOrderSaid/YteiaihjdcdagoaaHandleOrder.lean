/- Proved: HandleOrder returns true whatever three handles it is called with, and each argument reads behind the call as before. No condition. -/
import Derived.Test.YteiaihjdcdagoaaHandleG
import Derived.Test.YteiaihjdcdagoaaLift
set_option linter.unusedVariables false
namespace Go.Proofs.Yteiaihjdcdagoaa.handleOrder
open Go.RowKit Go.ChangeShapes Go.WideShapes Go.ChangeAt

attribute [local go_sem ↓] neq_handle eql_handle

theorem less_asym {a b c x y z : Int} (h : lessB a b c x y z = true) : lessB x y z a b c = false := by
  unfold lessB at *
  split at h
  · rename_i h1; rw [if_pos (Ne.symm h1)]; simp at *; omega
  · rename_i h1
    rw [if_neg (fun h => h1 (Ne.symm h))]
    split at h
    · rename_i h2; rw [if_pos (Ne.symm h2)]; simp at *; omega
    · rename_i h2; rw [if_neg (fun h => h2 (Ne.symm h))]; simp at *; omega
theorem less_tri {a b c x y z : Int} (h : lessB a b c x y z = false) (h' : lessB x y z a b c = false) : a = x ∧ b = y ∧ c = z := by
  unfold lessB at *
  by_cases h1 : a = x
  · by_cases h2 : b = y
    · simp [h1, h2] at h h'; omega
    · simp [h1, h2, Ne.symm h2] at h h'; omega
  · simp [h1, Ne.symm h1] at h h'; omega
theorem less_irr (a b c : Int) : lessB a b c a b c = false := by simp [lessB]
theorem less_trans {a b c x y z p q r : Int} (h : lessB a b c x y z = true) (h' : lessB x y z p q r = true) : lessB a b c p q r = true := by
  unfold lessB at *
  by_cases h1 : a = x <;> by_cases h2 : x = p <;> by_cases h3 : a = p <;> by_cases h4 : b = y <;> by_cases h5 : y = q <;> by_cases h6 : b = q <;> simp_all <;> omega

theorem walk (a b c : Int) (_ : (Lit.int .i64 a).wf = true) (_ : (Lit.int .i64 b).wf = true) (_ : (Lit.int .i64 c).wf = true) (x y z : Int) (_ : (Lit.int .i64 x).wf = true) (_ : (Lit.int .i64 y).wf = true) (_ : (Lit.int .i64 z).wf = true)
    (p q r : Int) (_ : (Lit.int .i64 p).wf = true) (_ : (Lit.int .i64 q).wf = true) (_ : (Lit.int .i64 r).wf = true) (w : World) :
    Calls Try.prog 7 #[hv a b c, hv x y z, hv p q r] w fun e w' => e = .returned (.bool true) ∧ Below w.heap.size w w' := by
  have hu : ∀ s i g, hv s i g = .agg #[.int .i64 s, .int .i64 i, .int .i64 g] := fun _ _ _ => rfl
  have L1 : ∀ w, Calls Try.prog 16 #[.agg #[.int .i64 a, .int .i64 b, .int .i64 c], .agg #[.int .i64 x, .int .i64 y, .int .i64 z]] w _ := less_any a b c x y z
  have L2 : ∀ w, Calls Try.prog 16 #[.agg #[.int .i64 x, .int .i64 y, .int .i64 z], .agg #[.int .i64 a, .int .i64 b, .int .i64 c]] w _ := less_any x y z a b c
  have L3 : ∀ w, Calls Try.prog 16 #[.agg #[.int .i64 x, .int .i64 y, .int .i64 z], .agg #[.int .i64 p, .int .i64 q, .int .i64 r]] w _ := less_any x y z p q r
  have L4 : ∀ w, Calls Try.prog 16 #[.agg #[.int .i64 a, .int .i64 b, .int .i64 c], .agg #[.int .i64 p, .int .i64 q, .int .i64 r]] w _ := less_any a b c p q r
  have key : (lessB a b c x y z = true ∧ lessB x y z a b c = false ∧ ¬ (a = x ∧ b = y ∧ c = z) ∧ (lessB x y z p q r = true → lessB a b c p q r = true)) ∨ (lessB a b c x y z = false ∧ lessB x y z a b c = true ∧ ¬ (a = x ∧ b = y ∧ c = z)) ∨ (lessB a b c x y z = false ∧ lessB x y z a b c = false ∧ a = x ∧ b = y ∧ c = z) := by
    have hirr : (a = x ∧ b = y ∧ c = z) → lessB a b c x y z = false ∧ lessB x y z a b c = false := fun ⟨h1, h2, h3⟩ => by rw [h1, h2, h3]; exact ⟨less_irr _ _ _, less_irr _ _ _⟩
    cases h1 : lessB a b c x y z with
    | true => exact .inl ⟨rfl, less_asym h1, (fun h => by rw [(hirr h).1] at h1; cases h1), less_trans h1⟩
    | false =>
      cases h2 : lessB x y z a b c with
      | true => exact .inr (.inl ⟨rfl, rfl, (fun h => by rw [(hirr h).2] at h2; cases h2)⟩)
      | false => exact .inr (.inr ⟨rfl, rfl, less_tri h1 h2⟩)
  generalize lessB a b c x y z = l1 at *
  generalize lessB x y z a b c = l2 at *
  generalize lessB x y z p q r = l3 at *
  generalize lessB a b c p q r = l4 at *
  have HL1 := Lib.hid L1
  have HL2 := Lib.hid L2
  have HL3 := Lib.hid L3
  have HL4 := Lib.hid L4
  clear L1 L2 L3 L4
  have HK := Lib.hid key
  clear key
  go_enter Try.func7, Try.ntmps7
  go_wp2_with (go_at_call 9; refine (awake_any _).mono ?_; rintro e w1 ⟨rfl, hb1⟩; have hz1 := hb1.size; (try simp only [World.size_alloc] at hz1))
  obtain ⟨hc, hf⟩ := bcell hb1
  have hB : Below w.heap.size w w1 := by (repeat (first | exact Below.refl _ _ | refine Below.setCell ?_ (by first | omega | (simp; done) | (simp; omega)) _ | refine Below.alloc ?_ (by first | omega | (simp; done) | (simp; omega)) _ | refine Below.drew ?_ | refine below_drewN ?_ _ | refine Below.trans ?_ (Below.mono (by assumption) (by first | omega | (simp; done) | (simp; omega)))))
  have c0 : w1.cell? ⟨w.heap.size, 0, none⟩ = some (.int .i64 a) := by rw [hc _ _ (by first | omega | (simp; done) | (simp; omega))]; go_simp
  have c1 : w1.cell? ⟨w.heap.size, 1, none⟩ = some (.int .i64 b) := by rw [hc _ _ (by first | omega | (simp; done) | (simp; omega))]; go_simp
  have c2 : w1.cell? ⟨w.heap.size, 2, none⟩ = some (.int .i64 c) := by rw [hc _ _ (by first | omega | (simp; done) | (simp; omega))]; go_simp
  have c3 : w1.cell? ⟨w.heap.size + 1, 0, none⟩ = some (.int .i64 x) := by rw [hc _ _ (by first | omega | (simp; done) | (simp; omega))]; go_simp
  have c4 : w1.cell? ⟨w.heap.size + 1, 1, none⟩ = some (.int .i64 y) := by rw [hc _ _ (by first | omega | (simp; done) | (simp; omega))]; go_simp
  have c5 : w1.cell? ⟨w.heap.size + 1, 2, none⟩ = some (.int .i64 z) := by rw [hc _ _ (by first | omega | (simp; done) | (simp; omega))]; go_simp
  have c6 : w1.cell? ⟨w.heap.size + 1 + 1, 0, none⟩ = some (.int .i64 p) := by rw [hc _ _ (by first | omega | (simp; done) | (simp; omega))]; go_simp
  have c7 : w1.cell? ⟨w.heap.size + 1 + 1, 1, none⟩ = some (.int .i64 q) := by rw [hc _ _ (by first | omega | (simp; done) | (simp; omega))]; go_simp
  have c8 : w1.cell? ⟨w.heap.size + 1 + 1, 2, none⟩ = some (.int .i64 r) := by rw [hc _ _ (by first | omega | (simp; done) | (simp; omega))]; go_simp
  have e0 := fun e : ExtOf (w.heap.size + 3) w1 => e.cell c0 (by simp)
  have e1 := fun e : ExtOf (w.heap.size + 3) w1 => e.cell c1 (by simp)
  have e2 := fun e : ExtOf (w.heap.size + 3) w1 => e.cell c2 (by simp)
  have e3 := fun e : ExtOf (w.heap.size + 3) w1 => e.cell c3 (by simp)
  have e4 := fun e : ExtOf (w.heap.size + 3) w1 => e.cell c4 (by simp)
  have e5 := fun e : ExtOf (w.heap.size + 3) w1 => e.cell c5 (by simp)
  clear hc hf hb1
  refine wp_region_ext (w.heap.size + 3) (by kernel_rfl) (by kernel_rfl) ?_
  repeat (go_big_quiet_step (first | (go_at_call 16; with_reducible exact ext_of hz1 (HL1.out _)) | (go_at_call 16; with_reducible exact ext_of hz1 (HL2.out _))))
  refine wpQuiet_nil ?_
  rintro w2 ⟨⟨_, hb2⟩, rfl⟩
  have hz2 := hb2.size
  have hc2 := fun (k o : Nat) (h : k < w.heap.size + 3) => hb2.cell (p := ⟨k, o, none⟩) h
  clear e0 e1 e2 e3 e4 e5
  rcases HK.out with ⟨rfl, rfl, hne, himp⟩ | ⟨rfl, rfl, hne⟩ | ⟨rfl, rfl, rfl, rfl, rfl⟩
  · have hne := eqH_false hne
    have Himp := Lib.hid himp
    clear HK himp
    have done : l3 = false ∨ (l3 = true ∧ l4 = true) := by
      cases h : l3 with
      | false => exact .inl rfl
      | true => exact .inr ⟨rfl, Himp.out h⟩
    clear Himp
    rcases done with rfl | ⟨rfl, rfl⟩
    all_goals
      go_wp2_with (first | (go_at_call 16; with_reducible refine (HL3.out _).mono ?_; rintro e w3 ⟨rfl, hb3⟩; have hz3 := hb3.size; (try simp only [World.size_alloc] at hz3); have hc3 := fun (k o : Nat) (h : k < w.heap.size + 3) => hb3.cell (p := ⟨k, o, none⟩) (Nat.lt_of_lt_of_le h (by omega))) | (go_at_call 16; with_reducible refine (HL4.out _).mono ?_; rintro e w4 ⟨rfl, hb4⟩; have hz4 := hb4.size; (try simp only [World.size_alloc] at hz4)))
      go_ret
      exact ⟨rfl, by (repeat (first | exact Below.refl _ _ | refine Below.setCell ?_ (by first | omega | (simp; done) | (simp; omega)) _ | refine Below.alloc ?_ (by first | omega | (simp; done) | (simp; omega)) _ | refine Below.drew ?_ | refine below_drewN ?_ _ | refine Below.trans ?_ (Below.mono (by assumption) (by first | omega | (simp; done) | (simp; omega)))))⟩
  · have hne := eqH_false hne
    clear HK
    go_wp2
    go_ret
    exact ⟨rfl, by (repeat (first | exact Below.refl _ _ | refine Below.setCell ?_ (by first | omega | (simp; done) | (simp; omega)) _ | refine Below.alloc ?_ (by first | omega | (simp; done) | (simp; omega)) _ | refine Below.drew ?_ | refine below_drewN ?_ _ | refine Below.trans ?_ (Below.mono (by assumption) (by first | omega | (simp; done) | (simp; omega)))))⟩
  · have hne := eqH_same a b c
    clear HK
    go_wp2
    go_ret
    exact ⟨rfl, by (repeat (first | exact Below.refl _ _ | refine Below.setCell ?_ (by first | omega | (simp; done) | (simp; omega)) _ | refine Below.alloc ?_ (by first | omega | (simp; done) | (simp; omega)) _ | refine Below.drew ?_ | refine below_drewN ?_ _ | refine Below.trans ?_ (Below.mono (by assumption) (by first | omega | (simp; done) | (simp; omega)))))⟩

theorem own : ownKnob Try.prog.godebug = none := by kernel_rfl
theorem laidOut : laidOutB Try.prog = true := by kernel_rfl

set_option maxRecDepth 100000 in
theorem lifted (os : Os) (started : os.Started) (H : Type) (enc : TypeId × Value → H) :
    ReturnsInHanded {} Try.checked os 7 .any (Rows.handleOrderSpec.pre6 enc Try.prog Try.f7 Rows.handleOrderRow.domain false) (Rows.handleOrderSpec.post enc Try.prog Try.f7 false true false false) := by
  refine returnsInHanded_of_change (C := Try.checked) own started (by kernel_rfl) Try.func7
    (ChangeSpec.witness6 (enc := enc) (C := Try.checked) false ⟨#[], #[.agg #[.int .i64 0, .int .i64 0, .int .i64 0], .agg #[.int .i64 0, .int .i64 0, .int .i64 0], .agg #[.int .i64 0, .int .i64 0, .int .i64 0]], []⟩ 8 (by kernel_rfl) (by kernel_rfl) (by kernel_rfl) (by kernel_rfl)) ?_
  intro W base args ds gs before hval0 hW hcnd _
  have hval : ∀ (j : Nat) t v, Try.f7.params[j]? = some t → args[j]? = some v → Value.okWide Try.prog W .any base t v := hval0
  have hW' := hW
  obtain ⟨p, q, hA0, hV, rfl, hfz, hnd⟩ := hW
  have hA : DataW.TrodAll enc Try.prog W 0 (fun _ => true) true Try.f7.params.toList args.toList ds p := hA0
  rw [Try.params7] at hA hval
  obtain ⟨v0, vs0, d0, ds0, p0, q0, hargs, rfl, rfl, h0, r0⟩ := trodAll_cons hA
  obtain ⟨v1, vs1, d1, ds1, p1, q1, rfl, rfl, rfl, h1, r1⟩ := trodAll_cons r0
  obtain ⟨v2, vs2, d2, ds2, p2, q2, rfl, rfl, rfl, h2, r2⟩ := trodAll_cons r1
  obtain ⟨rfl, rfl, rfl⟩ := trodAll_nil r2
  obtain rfl : args = #[v0, v1, v2] := by cases args; simp_all
  obtain ⟨rfl, rfl⟩ := trodVars_none hV
  have k0 := h0
  have lt0 : ∀ x ∈ p0, x.block < W.heap.size := by obtain ⟨m, hm⟩ := k0; exact DataW.trod_lt m _ _ _ hm
  have k1 := h1
  have lt1 : ∀ x ∈ p1, x.block < W.heap.size := by obtain ⟨m, hm⟩ := k1; exact DataW.trod_lt m _ _ _ hm
  have k2 := h2
  have lt2 : ∀ x ∈ p2, x.block < W.heap.size := by obtain ⟨m, hm⟩ := k2; exact DataW.trod_lt m _ _ _ hm
  obtain ⟨a0, b0, c0, rfl, wa0, wb0, wc0⟩ := open_handle Try.underlying23 Try.underlying3 (by kernel_rfl) (by kernel_rfl) (hval 0 _ v0 rfl rfl) h0
  obtain ⟨a1, b1, c1, rfl, wa1, wb1, wc1⟩ := open_handle Try.underlying23 Try.underlying3 (by kernel_rfl) (by kernel_rfl) (hval 1 _ v1 rfl rfl) h1
  obtain ⟨a2, b2, c2, rfl, wa2, wb2, wc2⟩ := open_handle Try.underlying23 Try.underlying3 (by kernel_rfl) (by kernel_rfl) (hval 2 _ v2 rfl rfl) h2
  refine (walk a0 b0 c0 wa0 wb0 wc0 a1 b1 c1 wa1 wb1 wc1 a2 b2 c2 wa2 wb2 wc2 W).mono fun e W' ⟨he, bel⟩ => ?_
  subst he
  exact ⟨_, rfl, _, _, _, [], _, [], hW', trodAll_mk1 (shut_bool Try.underlying4 _), (trodAll_cons_mk (Below.trod laidOut (by kernel_rfl) (of_decide_eq_true (by kernel_rfl)) k0 bel lt0) (trodAll_cons_mk (Below.trod laidOut (by kernel_rfl) (of_decide_eq_true (by kernel_rfl)) k1 bel lt1) (trodAll_cons_mk (Below.trod laidOut (by kernel_rfl) (of_decide_eq_true (by kernel_rfl)) k2 bel lt2) trodAll_mk0))), rfl, bel.frame _, fun h => by cases h⟩

theorem proved : Rows.HandleOrderSaid :=
  OpenClaim.holds_of_wide 7 Try.f7 rfl rfl rfl rfl rfl rfl rfl ⟨rfl, rfl, rfl, rfl, rfl⟩ rfl rfl rfl rfl rfl (by kernel_rfl) Try.func7 (by kernel_rfl)
    (of_decide_eq_true (by kernel_rfl)) (by unfold Func.isWrapper; first | (rw [if_pos (by decide +kernel)]; kernel_rfl) | (rw [if_neg (by decide +kernel)]; exact ⟨rfl, rfl⟩))
    (fun os started H enc _ => lifted os started H enc)
end Go.Proofs.Yteiaihjdcdagoaa.handleOrder
