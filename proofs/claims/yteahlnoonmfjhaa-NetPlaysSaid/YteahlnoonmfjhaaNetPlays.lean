/- Proved: NetPlays returns true whatever steps it is called with, and the argument reads behind the call as before. No condition. -/
import Derived.Test.YteahlnoonmfjhaaMo
import Derived.Test.YteahlnoonmfjhaaMq
import Derived.Test.YteahlnoonmfjhaaLift
set_option linter.unusedVariables false
set_option maxRecDepth 100000
namespace Go.Proofs.Yteahlnoonmfjhaa.netPlays
open Go.RowKit Go.ChangeShapes Go.WideShapes Go.ChangeAt Go.Deep Go.Proofs.Yteahlnoonmfjhaa

def lead (l : List NopE) (k : Nat) : List Pk := (l.take k).foldl stepN []
theorem lead_succ {l : List NopE} {k : Nat} {x : NopE} (h : l[k]? = some x) : lead l (k + 1) = stepN (lead l k) x := by
  unfold lead
  rw [List.take_add_one, h, List.foldl_append]
  rfl
theorem lead_inv (l : List NopE) (k : Nat) : (lead l k).length ≤ 256 ∧ ∀ q ∈ lead l k, PkOk q := by
  have h : ∀ (m : List NopE) (L : List Pk), (L.length ≤ 256 ∧ ∀ q ∈ L, PkOk q) → (m.foldl stepN L).length ≤ 256 ∧ ∀ q ∈ m.foldl stepN L, PkOk q := fun m => by
    induction m with
    | nil => exact fun L h => h
    | cons x m ih => exact fun L h => ih _ ⟨stepN_len x h.1, stepN_ok x h.2⟩
  exact h _ [] ⟨by simp, by simp⟩
set_option maxHeartbeats 8000000 in
theorem walk {w : World} (x : NopsT) (hx : x.Ok w) : Calls Try.prog 10 #[x.v] w fun e w' => e = .returned (.bool true) ∧ Below w.heap.size w w' := by
  obtain ⟨v, l⟩ := x
  have hr := hx.r
  have he := hx.e
  have hlen := hx.len
  clear hx
  simp only at hr he hlen ⊢
  show Calls _ _ #[v] w _
  obtain ⟨A, c, rfl⟩ := hr.form
  have KL := Lib.hid (nlong_any l w hr he hlen)
  have HR := Lib.hid hr
  unfold maxLen at hlen
  clear hr he
  go_enter Try.func10, Try.ntmps10
  go_wp2_with fail
  refine KL.out.mono ?_
  rintro e w1 ⟨B, rfl, hB, h1⟩
  cases B with
  | true =>
    go_wp2_with fail
    refine (awake30 w1).mono ?_
    rintro e w2 ⟨rfl, h2⟩
    have F := Lib.hid (Ext.trans h1 h2)
    clear h1 h2 hB KL HR
    go_wp2
    go_ret
    exact ⟨rfl, F.out⟩
  | false =>
    obtain ⟨h300, -⟩ := hB rfl
    have H1 : Hid (OSt (Z := Z0) w [] w1) := Lib.hid ((OSt.start w).ext h1)
    clear hB h1 KL
    go_wp2_with fail
    refine (nNewO H1.out).mono ?_
    rintro e w2 ⟨g, rfl, h2⟩
    have H2 := Lib.hid (h2.pushN (extAl w2 _) (rnO_new w2))
    clear h2 H1
    go_wp2_with fail
    generalize w2.alloc (.cells #[.slice none 0 0] 98) = w3 at *
    generalize w2.heap.size = g' at *
    go_loopg [5, 6, 7] l.length (fun gg s _ _ wr => ∃ k : Nat, k ≤ l.length ∧ l.length - k ≤ gg ∧ s = .int .i64 k ∧ Hid (OSt w [rnO g' (lead l k), netO g (lead l k)] wr))
    case atStart => exact ⟨0, Nat.zero_le _, by omega, rfl, H2⟩
    case round =>
      clear H2
      obtain ⟨k, hk, hg, rfl, H⟩ := hrel
      by_cases hlt : k < l.length
      · obtain ⟨b, off, rfl, hb, hc, -⟩ := HR.out.at (by omega)
        obtain ⟨x, hxk⟩ : ∃ x, l[k]? = some x := ⟨_, List.getElem?_eq_getElem hlt⟩
        have HLs := Lib.hid (lead_succ hxk)
        obtain ⟨hL, hok⟩ := lead_inv l k
        have hL' := stepN_len x hL
        have HOK := Lib.hid hok
        have HOK' := Lib.hid (stepN_ok x hok)
        have HXK := Lib.hid hxk
        clear hxk hok
        generalize hLe : lead l k = L at *
        clear hLe
        go_wp2_with fail
        refine (nCopyO 1 H.out rfl (by omega)).mono ?_
        rintro e w4 ⟨gc, rfl, h4⟩
        have H4 : Hid (OSt w [netO gc L, rnO g' L, netO g L] w4) := Lib.hid h4
        clear h4 H
        go_wp2_with fail
        refine (rCopyO 1 H4.out rfl (by omega)).mono ?_
        rintro e w5 ⟨gy, rfl, h5⟩
        have H5 : Hid (OSt w [rnO gy L, netO gc L, rnO g' L, netO g L] w5) := Lib.hid h5
        clear h5 H4
        have hb5 : b < w5.heap.size := Nat.lt_of_lt_of_le hb (Below.size H5.out.bel)
        obtain ⟨x0, x1, x2, x3, x4⟩ := ROp.op (HR.out.ext H5.out.bel) HXK.out
        go_wp2_with fail
        refine (ndo_any 3 2 (by decide) H5.out rfl rfl x hL HOK.out).mono ?_
        rintro e w6 ⟨rfl, h6⟩
        have H6 : Hid (OSt w [rnO gy L, netO gc L, rnO g' (stepN L x), netO g (stepN L x)] w6) := Lib.hid h6
        clear h6 H5 x0 x1 x2 x3 x4 hb5
        obtain ⟨L', hL2⟩ : ∃ L', Hid (stepN L x = L') := ⟨_, Lib.hid rfl⟩
        rw [hL2.out] at H6 HLs hL' HOK'
        go_wp2_with fail
        refine (nlike_any 3 2 H6.out rfl rfl hL').mono ?_
        rintro e w7 ⟨rfl, h7⟩
        have H7 := Lib.hid h7
        clear h7 H6
        go_wp2_with fail
        refine (nlike_any 1 0 H7.out rfl rfl hL).mono ?_
        rintro e w8 ⟨rfl, h8⟩
        have H8 := Lib.hid h8
        clear h8 H7
        have hb8 : b < w8.heap.size := Nat.lt_of_lt_of_le hb (Below.size H8.out.bel)
        obtain ⟨x0, x1, x2, x3, x4⟩ := ROp.op (HR.out.ext H8.out.bel) HXK.out
        go_wp2_with fail
        refine (ndo_any 1 0 (by decide) H8.out rfl rfl x hL HOK.out).mono ?_
        rintro e w9 ⟨rfl, h9⟩
        rw [hL2.out] at h9
        have H9 : Hid (OSt w [rnO gy L', netO gc L', rnO g' L', netO g L'] w9) := Lib.hid h9
        clear h9 H8 x0 x1 x2 x3 x4 hb8
        go_wp2_with fail
        refine (nlike_any 1 0 H9.out rfl rfl hL').mono ?_
        rintro e w10 ⟨rfl, h10⟩
        have H10 : Hid (OSt w [rnO g' (lead l (k + 1)), netO g (lead l (k + 1))] w10) := Lib.hid (by rw [HLs.out]; exact (h10.dropI 0).dropI 0)
        clear h10 H9
        go_wp2
        go_roundg (l.length - (k + 1))
        case measure => omega
        case rel => exact ⟨k + 1, by omega, by omega, by go_num, H10⟩
      · go_wp2_with fail
        refine (awake30 wr).mono ?_
        rintro e w9 ⟨rfl, h9⟩
        have F := Lib.hid (H.out.ext h9).bel
        clear h9
        go_wp2
        go_ret
        exact ⟨rfl, F.out⟩
theorem own : ownKnob Try.prog.godebug = none := by kernel_rfl
theorem laidOut : laidOutB Try.prog = true := by kernel_rfl

set_option maxRecDepth 100000 in
theorem lifted (os : Os) (started : os.Started) (H : Type) (enc : TypeId × Value → H) :
    ReturnsInHanded {} Try.checked os 10 .any (Rows.netPlaysSpec.pre6 enc Try.prog Try.f10 Rows.netPlaysRow.domain false) (Rows.netPlaysSpec.post enc Try.prog Try.f10 false true false false) := by
  refine returnsInHanded_of_change (C := Try.checked) own started (by kernel_rfl) Try.func10
    (ChangeSpec.witness6 (enc := enc) (C := Try.checked) false ⟨#[], #[.slice none 0 0], []⟩ 8 (by kernel_rfl) (by kernel_rfl) (by kernel_rfl) (by kernel_rfl)) ?_
  intro W base args ds gs before hval0 hW hcnd _
  have hval : ∀ (j : Nat) t v, Try.f10.params[j]? = some t → args[j]? = some v → Value.okWide Try.prog W .any base t v := hval0
  have hW' := hW
  obtain ⟨p, q, hA0, hV, rfl, hfz, hnd⟩ := hW
  have hA : DataW.TrodAll enc Try.prog W 0 (fun _ => true) true Try.f10.params.toList args.toList ds p := hA0
  rw [Try.params10] at hA hval
  obtain ⟨v0, vs0, d0, ds0, p0, q0, hargs, rfl, rfl, h0, r0⟩ := trodAll_cons hA
  obtain ⟨rfl, rfl, rfl⟩ := trodAll_nil r0
  obtain rfl : args = #[v0] := by cases args; simp_all
  obtain ⟨rfl, rfl⟩ := trodVars_none hV
  have k0 := h0
  have lt0 : ∀ x ∈ p0, x.block < W.heap.size := by obtain ⟨m, hm⟩ := k0; exact DataW.trod_lt m _ _ _ hm
  obtain ⟨x0, rfl, w0⟩ := open_Wnops (hval 0 _ v0 rfl rfl) h0
  refine (walk (w := W) x0 w0).mono fun e W' ⟨he, bel⟩ => ?_
  subst he
  exact ⟨_, rfl, _, _, _, [], _, [], hW', trodAll_mk1 (shut_bool Try.underlying4 _), (trodAll_cons_mk (Below.trod laidOut (by kernel_rfl) (of_decide_eq_true (by kernel_rfl)) k0 bel lt0) trodAll_mk0), rfl, bel.frame _, fun h => by cases h⟩

theorem proved : Rows.NetPlaysSaid :=
  OpenClaim.holds_of_wide 10 Try.f10 rfl rfl rfl rfl rfl rfl rfl ⟨rfl, rfl, rfl, rfl, rfl⟩ rfl rfl rfl rfl rfl (by kernel_rfl) Try.func10 (by kernel_rfl)
    (of_decide_eq_true (by kernel_rfl)) (by unfold Func.isWrapper; first | (rw [if_pos (by decide +kernel)]; kernel_rfl) | (rw [if_neg (by decide +kernel)]; exact ⟨rfl, rfl⟩))
    (fun os started H enc _ => lifted os started H enc)
end Go.Proofs.Yteahlnoonmfjhaa.netPlays
