/- The claim CallReads: the walk of its law, and the statement. -/
import Derived.Test.YtaccjneglaomhaaCallG
set_option linter.unusedVariables false
namespace Go.Proofs.Ytaccjneglaomhaa.callReads
open Go.RowKit Go.ChangeShapes Go.WideShapes Go.ChangeAt Go.Deep Go.Proofs.Ytaccjneglaomhaa

set_option maxHeartbeats 4000000 in
set_option maxRecDepth 100000 in
theorem walk (s : List UInt8) (ws : s.length ≤ maxLen) (w : World) :
    Calls Try.prog 5 #[.string (str s)] w fun r w' => r = .returned (.bool true) ∧ Below w.heap.size w w' := by
  have hs := str_size s
  by_cases h1 : 10000 < s.length
  · go_enter Try.func5, Try.ntmps5
    go_wp2_with fail
    go_ret
    exact ⟨rfl, by (repeat' (first | (with_reducible assumption) | (with_reducible exact Below.refl _ _) | (with_reducible refine below_sc ?_ ?_) | ((with_reducible show (_ : Nat) ≤ _); omega) | refine Below.setCell ?_ (by first | omega | (simp; done) | (simp; omega)) _ | refine Below.alloc ?_ (by first | omega | (simp; done) | (simp; omega)) _ | refine Below.drew ?_ | refine below_drewN ?_ _ | refine Below.trans ?_ (Below.mono (by assumption) (by first | omega | (simp; done) | (simp; omega)))))⟩
  obtain ⟨R, hR⟩ : ∃ R, R = cR s := ⟨_, rfl⟩
  obtain ⟨H, hH⟩ : ∃ H, H = cH s := ⟨_, rfl⟩
  have k1 := fun w => cRead_any s w (by omega)
  have k2 := fun w => rRead_any s w (by omega)
  have k3 := fun w => cHear_any s w (by omega)
  have k4 := fun w => rHear_any s w (by omega)
  rw [← hR] at k1 k2
  rw [← hH] at k3 k4
  clear hR hH
  obtain ⟨⟨c, x, p, l⟩, n⟩ := R
  obtain ⟨⟨y, e, m⟩, j⟩ := H
  have e1 : heV (⟨c, x, p, l⟩, n) = .tuple #[.agg #[.int .i64 c, .int .i64 x, .int .i64 p, .string (str l)], .int .i64 n] := rfl
  have e2 : aeV (⟨y, e, m⟩, j) = .tuple #[.agg #[.int .i64 y, .int .i64 e, .string (str m)], .int .i64 j] := rfl
  rw [e1] at k1 k2
  rw [e2] at k3 k4
  have K1 := Lib.hid k1
  have K2 := Lib.hid k2
  have K3 := Lib.hid k3
  have K4 := Lib.hid k4
  clear k1 k2 k3 k4 e1 e2
  go_enter Try.func5, Try.ntmps5
  go_wp2_with fail
  refine (K1.out _).mono ?_
  rintro e w1 ⟨rfl, hb1⟩; have hz1 := hb1.size; (try simp only [World.size_alloc] at hz1)
  go_wp2_with fail
  refine (K2.out _).mono ?_
  rintro e w2 ⟨rfl, hb2⟩; have hz2 := hb2.size; (try simp only [World.size_alloc] at hz2)
  go_wp2_with fail
  refine (K3.out _).mono ?_
  rintro e w3 ⟨rfl, hb3⟩; have hz3 := hb3.size; (try simp only [World.size_alloc] at hz3)
  go_wp2_with fail
  refine (K4.out _).mono ?_
  rintro e w4 ⟨rfl, hb4⟩; have hz4 := hb4.size; (try simp only [World.size_alloc] at hz4)
  have l2 : w1.heap.size < w2.heap.size := by omega
  have l3 : w2.heap.size < w3.heap.size := by omega
  have l4 : w3.heap.size < w4.heap.size := by omega
  have x34 : Ext w3 w4 := Ext.trans (ext_alloc w3 _) hb4
  have x24 : Ext w2 w4 := Ext.trans (ext_alloc w2 _) (Ext.trans hb3 x34)
  have x14 : Ext w1 w4 := Ext.trans (ext_alloc w1 _) (Ext.trans hb2 x24)
  have g1 := (Below.block (Ext.trans hb2 x24) w1.heap.size (by simp)).trans (heap_alloc_last w1 _)
  have g2 := (Below.block (Ext.trans hb3 x34) w2.heap.size (by simp)).trans (heap_alloc_last w2 _)
  have g3 := (Below.block hb4 w3.heap.size (by simp)).trans (heap_alloc_last w3 _)
  obtain ⟨p0, p1, p2, p3, -, -, -, -, m1⟩ := blk4 g1
  obtain ⟨q0, q1, q2, q3, -, -, -, -, m2⟩ := blk4 g2
  obtain ⟨r0, r1, r2, -, -, -, m3⟩ := blk3 g3
  have hbel : Below w.heap.size w w4 := Ext.trans hb1 x14
  clear g1 g2 g3 x34 x24 x14
  go_wp2_with fail
  go_ret
  exact ⟨rfl, by (repeat' (first | (with_reducible assumption) | (with_reducible exact Below.refl _ _) | (with_reducible refine below_sc ?_ ?_) | ((with_reducible show (_ : Nat) ≤ _); omega) | refine Below.setCell ?_ (by first | omega | (simp; done) | (simp; omega)) _ | refine Below.alloc ?_ (by first | omega | (simp; done) | (simp; omega)) _ | refine Below.drew ?_ | refine below_drewN ?_ _ | refine Below.trans ?_ (Below.mono (by assumption) (by first | omega | (simp; done) | (simp; omega)))))⟩

theorem own : ownKnob Try.prog.godebug = none := by kernel_rfl
theorem laidOut : laidOutB Try.prog = true := by kernel_rfl

set_option maxRecDepth 100000 in
theorem lifted (os : Os) (started : os.Started) (H : Type) (enc : TypeId × Value → H) :
    ReturnsInHanded {} Try.checked os 5 .any (Rows.callReadsSpec.pre6 enc Try.prog Try.f5 Rows.callReadsRow.domain false) (Rows.callReadsSpec.post enc Try.prog Try.f5 false true false false) := by
  refine returnsInHanded_of_change (C := Try.checked) own started (by kernel_rfl) Try.func5
    (ChangeSpec.witness6 (enc := enc) (C := Try.checked) false ⟨#[], #[.string ⟨#[]⟩], []⟩ 8 (by kernel_rfl) (by kernel_rfl) (by kernel_rfl) (by kernel_rfl)) ?_
  intro W base args ds gs before hval0 hW hcnd _
  have hval : ∀ (j : Nat) t v, Try.f5.params[j]? = some t → args[j]? = some v → Value.okWide Try.prog W .any base t v := hval0
  have hW' := hW
  obtain ⟨p, q, hA0, hV, rfl, hfz, hnd⟩ := hW
  have hA : DataW.TrodAll enc Try.prog W 0 (fun _ => true) true Try.f5.params.toList args.toList ds p := hA0
  rw [Try.params5] at hA hval
  obtain ⟨v0, vs0, d0, ds0, p0, q0, hargs, rfl, rfl, h0, r0⟩ := trodAll_cons hA
  obtain ⟨rfl, rfl, rfl⟩ := trodAll_nil r0
  obtain rfl : args = #[v0] := by cases args; simp_all
  obtain ⟨rfl, rfl⟩ := trodVars_none hV
  have k0 := h0
  have lt0 : ∀ x ∈ p0, x.block < W.heap.size := by obtain ⟨m, hm⟩ := k0; exact DataW.trod_lt m _ _ _ hm
  obtain ⟨l0, rfl, wl0⟩ := open_str Try.underlying9 (hval 0 _ v0 rfl rfl) h0
  refine (walk l0 wl0 W).mono fun e W' ⟨he, bel⟩ => ?_
  subst he
  exact ⟨_, rfl, _, _, _, [], _, [], hW', trodAll_mk1 (shut_bool Try.underlying4 _), (trodAll_cons_mk (Below.trod laidOut (by kernel_rfl) (of_decide_eq_true (by kernel_rfl)) k0 bel lt0) trodAll_mk0), rfl, bel.frame _, fun h => by cases h⟩

theorem proved : Rows.CallReadsSaid :=
  OpenClaim.holds_of_wide 5 Try.f5 rfl rfl rfl rfl rfl rfl rfl ⟨rfl, rfl, rfl, rfl, rfl⟩ rfl rfl rfl rfl rfl (by kernel_rfl) Try.func5 (by kernel_rfl)
    (of_decide_eq_true (by kernel_rfl)) (by unfold Func.isWrapper; first | (rw [if_pos (by decide +kernel)]; kernel_rfl) | (rw [if_neg (by decide +kernel)]; exact ⟨rfl, rfl⟩))
    (fun os started H enc _ => lifted os started H enc)
end Go.Proofs.Ytaccjneglaomhaa.callReads
