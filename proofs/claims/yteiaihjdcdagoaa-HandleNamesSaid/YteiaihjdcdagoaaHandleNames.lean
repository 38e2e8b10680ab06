/- Proved: HandleNames returns true (a closed statement). No condition. -/
import Derived.Test.YteiaihjdcdagoaaHandleG
import Derived.Test.YteiaihjdcdagoaaLift
set_option linter.unusedVariables false
namespace Go.Proofs.Yteiaihjdcdagoaa.handleNames
open Go.RowKit Go.ChangeShapes Go.WideShapes Go.ChangeAt
attribute [local go_sem ↓] neq_handle eql_handle

def z23 : List UInt8 := List.replicate 23 0
def z24' : List UInt8 := List.replicate 24 0

theorem walk (w : World) : Calls Try.prog 4 #[] w fun e w' => e = .returned (.bool true) ∧ Below w.heap.size w w' := by
  have hu : ∀ s i g, hv s i g = .agg #[.int .i64 s, .int .i64 i, .int .i64 g] := fun _ _ _ => rfl
  have m1 : ∀ w, (Instr.makeSlice 33 (.int .i64 23) (.int .i64 23)).run Try.prog w = .ok (.slice (some ⟨w.heap.size, 0, none⟩) 23 23) (w.alloc (.cells (bvs z23).toArray 5)) := fun _ => by kernel_rfl
  have m2 : ∀ w, (Instr.makeSlice 33 (.int .i64 24) (.int .i64 24)).run Try.prog w = .ok (.slice (some ⟨w.heap.size, 0, none⟩) 24 24) (w.alloc (.cells (bvs z24').toArray 5)) := fun _ => by kernel_rfl
  have E1 : encV 0 0 0 = .tuple #[.string ⟨#[]⟩, .int .i64 4] := rfl
  have E2 : encV 2147483647 2147483647 2147483647 = .tuple #[.string (str (hbytes 2147483647 2147483647 2147483647)), .int .i64 0] := by unfold encV; rw [if_pos (by decide)]
  have E3 : encV 2147483648 1 0 = .tuple #[.string ⟨#[]⟩, .int .i64 4] := by unfold encV; rw [if_neg (by decide)]
  have D1 : decV z23 = .tuple #[.agg #[.int .i64 0, .int .i64 0, .int .i64 0], .int .i64 4] := by unfold decV dec; rw [if_neg (fun h => absurd h.1 (by decide))]; rfl
  have D2 : decV z24' = .tuple #[.agg #[.int .i64 0, .int .i64 0, .int .i64 0], .int .i64 4] := by unfold decV dec; rw [if_neg (fun h => absurd h.2.1 (by decide))]; rfl
  have q1 : eqH 7 1 0 7 1 0 = true := eqH_same _ _ _
  have q2 : eqH 0 2147483647 0 0 2147483647 0 = true := eqH_same _ _ _
  have q3 : mayB 0 1 (-1) = false := by decide
  have hl := hbytes_length 2147483647 2147483647 2147483647
  have h24 : (str (hbytes 2147483647 2147483647 2147483647)).size = 24 := by rw [str_size, hl]
  go_enter Try.func4, Try.ntmps4
  go_wp2_with fail
  refine (encode_any 0 0 0 _).mono ?_
  rintro e w1 ⟨rfl, hb1⟩; have hz1 := hb1.size; (try simp only [World.size_alloc] at hz1)
  rw [E1]
  go_wp2_with fail
  rw [conv_row Try.underlying33 Try.underlying5 Try.underlying9 (heap_alloc_last _ _) (show z23.length = 23 from rfl)]
  go_wp2_with fail
  refine (decode_any z23 (by decide) _).mono ?_
  rintro e w2 ⟨rfl, hb2⟩; have hz2 := hb2.size; (try simp only [World.size_alloc] at hz2)
  rw [D1]
  go_wp2_with fail
  rw [conv_row Try.underlying33 Try.underlying5 Try.underlying9 (heap_alloc2_new _ _ _) (show z24'.length = 24 from rfl)]
  go_wp2_with fail
  refine (decode_any z24' (by decide) _).mono ?_
  rintro e w3 ⟨rfl, hb3⟩; have hz3 := hb3.size; (try simp only [World.size_alloc] at hz3)
  rw [D2]
  go_wp2_with fail
  refine (encode_any 2147483647 2147483647 2147483647 _).mono ?_
  rintro e w4 ⟨rfl, hb4⟩; have hz4 := hb4.size; (try simp only [World.size_alloc] at hz4)
  rw [E2]
  go_wp2_with fail
  refine (encode_any 2147483648 1 0 _).mono ?_
  rintro e w5 ⟨rfl, hb5⟩; have hz5 := hb5.size; (try simp only [World.size_alloc] at hz5)
  rw [E3]
  go_wp2_with (first | (go_at_call 18; refine (root_any _ _).mono ?_; rintro e w6 ⟨rfl, hb6⟩; have hz6 := hb6.size; (try simp only [World.size_alloc] at hz6)) | (go_at_call 19; refine (snapdir_any _).mono ?_; rintro e w7 ⟨rfl, hb7⟩; have hz7 := hb7.size; (try simp only [World.size_alloc] at hz7)) | (go_at_call 14; refine (may_any _ _ _ _).mono ?_; rintro e w8 ⟨rfl, hb8⟩; have hz8 := hb8.size; (try simp only [World.size_alloc] at hz8)) | (go_at_call 9; refine (awake_any _).mono ?_; rintro e w9 ⟨rfl, hb9⟩; have hz9 := hb9.size; (try simp only [World.size_alloc] at hz9)))
  go_ret
  exact ⟨rfl, by (repeat (first | exact Below.refl _ _ | refine Below.setCell ?_ (by first | omega | (simp; done) | (simp; omega)) _ | refine Below.alloc ?_ (by first | omega | (simp; done) | (simp; omega)) _ | refine Below.drew ?_ | refine below_drewN ?_ _ | refine Below.trans ?_ (Below.mono (by assumption) (by first | omega | (simp; done) | (simp; omega)))))⟩

theorem own : ownKnob Try.prog.godebug = none := by kernel_rfl
theorem laidOut : laidOutB Try.prog = true := by kernel_rfl

set_option maxRecDepth 100000 in
theorem lifted (os : Os) (started : os.Started) (H : Type) (enc : TypeId × Value → H) :
    ReturnsInHanded {} Try.checked os 4 .any (Rows.handleNamesSpec.pre6 enc Try.prog Try.f4 Rows.handleNamesRow.domain false) (Rows.handleNamesSpec.post enc Try.prog Try.f4 false true false false) := by
  refine returnsInHanded_of_change (C := Try.checked) own started (by kernel_rfl) Try.func4
    (ChangeSpec.witness6 (enc := enc) (C := Try.checked) false ⟨#[], #[], []⟩ 8 (by kernel_rfl) (by kernel_rfl) (by kernel_rfl) (by kernel_rfl)) ?_
  intro W base args ds gs before hval0 hW hcnd _
  have hval : ∀ (j : Nat) t v, Try.f4.params[j]? = some t → args[j]? = some v → Value.okWide Try.prog W .any base t v := hval0
  have hW' := hW
  obtain ⟨p, q, hA0, hV, rfl, hfz, hnd⟩ := hW
  have hA : DataW.TrodAll enc Try.prog W 0 (fun _ => true) true Try.f4.params.toList args.toList ds p := hA0
  rw [Try.params4] at hA hval
  obtain ⟨rfl, rfl, rfl⟩ := trodAll_none hA
  obtain ⟨rfl, rfl⟩ := trodVars_none hV
  refine (walk  W).mono fun e W' ⟨he, bel⟩ => ?_
  subst he
  exact ⟨_, rfl, _, _, _, [], _, [], hW', trodAll_mk1 (shut_bool Try.underlying4 _), trodAll_mk0, rfl, bel.frame _, fun h => by cases h⟩

theorem proved : Rows.HandleNamesSaid :=
  OpenClaim.holds_of_wide 4 Try.f4 rfl rfl rfl rfl rfl rfl rfl ⟨rfl, rfl, rfl, rfl, rfl⟩ rfl rfl rfl rfl rfl (by kernel_rfl) Try.func4 (by kernel_rfl)
    (of_decide_eq_true (by kernel_rfl)) (by unfold Func.isWrapper; first | (rw [if_pos (by decide +kernel)]; kernel_rfl) | (rw [if_neg (by decide +kernel)]; exact ⟨rfl, rfl⟩))
    (fun os started H enc _ => lifted os started H enc)
end Go.Proofs.Yteiaihjdcdagoaa.handleNames
