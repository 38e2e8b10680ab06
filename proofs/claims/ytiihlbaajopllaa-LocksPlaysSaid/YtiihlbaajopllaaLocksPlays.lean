/- Proved: LocksPlays returns true whatever steps it is called with, and the argument reads behind the call as before. No condition. -/
import Derived.Test.YtiihlbaajopllaaLpC
import Derived.Test.YtiihlbaajopllaaLift
set_option linter.unusedVariables false
set_option maxRecDepth 100000
namespace Go.Proofs.Ytiihlbaajopllaa.locksPlays
open Go.RowKit Go.ChangeShapes Go.WideShapes Go.ChangeAt Go.Deep Go.Proofs.Ytiihlbaajopllaa

theorem newRt {W w : World} {ds : List (Ob Zf)} (h : OSt W ds w) : OSt W (rtOb w.heap.size [] :: ds) (w.alloc (.cells #[.slice none 0 0] 47)) :=
  h.pushN (extAl w _) ⟨_, [], { hg := heap_alloc_last _ _, row := OwnR.nil, wn := fun r hr => by simp at hr, sg := ⟨Nat.le_refl _, by simp⟩, sv := fun b hb => by simp [Value.ownBlock] at hb, len := by simp, wl := fun r hr => by simp at hr }, rfl⟩
def lead (l : List OpE) (k : Nat) : List Tk := (l.take k).foldl stepL []
theorem lead_succ {l : List OpE} {k : Nat} {x : OpE} (h : l[k]? = some x) : lead l (k + 1) = stepL (lead l k) x := by
  unfold lead
  rw [List.take_add_one, h, List.foldl_append]
  rfl
theorem lead_len (l : List OpE) : ∀ k, (lead l k).length ≤ 16 := by
  have h : ∀ (m : List OpE) (L : List Tk), L.length ≤ 16 → (m.foldl stepL L).length ≤ 16 := fun m => by
    induction m with
    | nil => exact fun L h => h
    | cons x m ih => exact fun L h => ih _ (stepL_len x h)
  exact fun k => h _ [] (by simp)
set_option maxHeartbeats 8000000 in
theorem walk {w : World} (x : OpsT) (hx : x.Ok w) : Calls Try.prog 4 #[x.v] w fun e w' => e = .returned (.bool true) ∧ Below w.heap.size w w' := by
  obtain ⟨v, l⟩ := x
  have hr := hx.r
  have he := hx.e
  have hlen := hx.len
  clear hx
  simp only at hr he hlen ⊢
  obtain ⟨A, c, rfl⟩ := hr.form
  have KL := Lib.hid (long_any l w hr he hlen)
  have HR := Lib.hid hr
  have HE := Lib.hid he
  have hlm := hlen
  unfold maxLen at hlm
  clear hr he hlen
  cases hlg : longB l with
  | true =>
    rw [hlg] at KL
    clear hlg
    go_enter Try.func4, Try.ntmps4
    go_wp2_with (go_at_call 10; refine KL.out.mono ?_; rintro e w1 ⟨rfl, h1⟩)
    refine (awake_any w1).mono ?_
    rintro e w2 ⟨rfl, h2⟩
    have F := Lib.hid (Ext.trans h1 h2)
    clear h1 h2
    go_wp2
    go_ret
    exact ⟨rfl, F.out⟩
  | false =>
    rw [hlg] at KL
    obtain ⟨h80, h50⟩ := longB_le hlg
    have H50 := Lib.hid h50
    clear hlg h50
    go_enter Try.func4, Try.ntmps4
    go_wp2_with fail
    refine KL.out.mono ?_
    rintro e w1 ⟨rfl, h1⟩
    have H1 : Hid (OSt (Z := Zf) w [] w1) := Lib.hid ((OSt.start w).ext h1)
    clear h1 KL
    go_wp2_with fail
    refine (newO H1.out).mono ?_
    rintro e w2 ⟨g, rfl, h2⟩
    have H2 := Lib.hid (newRt h2)
    clear h2 H1
    go_wp2
    generalize w2.alloc (.cells #[.slice none 0 0] 47) = w3 at *
    generalize w2.heap.size = g' at *
    go_loopg [5] l.length (fun gg s wr => ∃ k : Nat, k ≤ l.length ∧ l.length - k ≤ gg ∧ s = .int .i64 k ∧ Hid (OSt w [rtOb g' (lead l k), lkOb g (lead l k)] wr))
    case atStart => exact ⟨0, Nat.zero_le _, by omega, rfl, H2⟩
    case round =>
      obtain ⟨k, hk, hg, rfl, H⟩ := hrel
      by_cases hlt : k < l.length
      · obtain ⟨b, off, rfl, hb, hc, -⟩ := HR.out.at (by omega)
        obtain ⟨x, hxk⟩ : ∃ x, l[k]? = some x := ⟨_, List.getElem?_eq_getElem hlt⟩
        have hok := HE.out x (List.mem_of_getElem? hxk)
        have h5 := H50.out x (List.mem_of_getElem? hxk)
        have HLs := Lib.hid (lead_succ hxk)
        have hL := lead_len l k
        have hL' := stepL_len x hL
        have HOK := Lib.hid hok
        have HXK := Lib.hid hxk
        obtain ⟨A2, c2, hwv⟩ := hok.r.form
        clear hok hxk
        obtain ⟨kk, tt, wv, ll⟩ := x
        simp only at hwv h5
        subst hwv
        generalize hLe : lead l k = L at *
        clear hLe
        go_wp2_with fail
        refine (copyO 1 H.out rfl).mono ?_
        rintro e w4 ⟨gc, rfl, h4⟩
        have H4 : Hid (OSt w [lkOb gc L, rtOb g' L, lkOb g L] w4) := Lib.hid h4
        clear h4 H
        go_wp2_with fail
        refine (rcopyO 1 H4.out rfl).mono ?_
        rintro e w5 ⟨gy, rfl, h5'⟩
        have H5 : Hid (OSt w [rtOb gy L, lkOb gc L, rtOb g' L, lkOb g L] w5) := Lib.hid h5'
        clear h5' H4
        obtain ⟨x0, x1, x2⟩ := ROp.op (HR.out.ext H5.out.bel) HXK.out
        simp only at x0 x1 x2
        go_wp2_with fail
        refine (do_any 3 2 (by decide) H5.out rfl rfl ⟨kk, tt, .slice A2 ll.length c2, ll⟩ HOK.out.r h5 hL).mono ?_
        rintro e w6 ⟨rfl, h6⟩
        have H6 : Hid (OSt w [rtOb gy L, lkOb gc L, rtOb g' (stepL L ⟨kk, tt, .slice A2 ll.length c2, ll⟩), lkOb g (stepL L ⟨kk, tt, .slice A2 ll.length c2, ll⟩)] w6) := Lib.hid h6
        clear h6 H5 x0 x1 x2
        obtain ⟨L', hL2⟩ : ∃ L', Hid (stepL L ⟨kk, tt, .slice A2 ll.length c2, ll⟩ = L') := ⟨_, Lib.hid rfl⟩
        rw [hL2.out] at H6 HLs hL'
        obtain ⟨x0, x1, x2⟩ := ROp.op (HR.out.ext H6.out.bel) HXK.out
        simp only at x0 x1 x2
        go_wp2_with fail
        refine (like_any 3 2 H6.out rfl rfl tt hL').mono ?_
        rintro e w7 ⟨rfl, h7⟩
        have H7 := Lib.hid h7
        clear h7 H6 x0 x1 x2
        obtain ⟨x0, x1, x2⟩ := ROp.op (HR.out.ext H7.out.bel) HXK.out
        simp only at x0 x1 x2
        go_wp2_with fail
        refine (like_any 1 0 H7.out rfl rfl tt hL).mono ?_
        rintro e w8 ⟨rfl, h8⟩
        have H8 := Lib.hid h8
        clear h8 H7 x0 x1 x2
        obtain ⟨x0, x1, x2⟩ := ROp.op (HR.out.ext H8.out.bel) HXK.out
        simp only at x0 x1 x2
        go_wp2_with fail
        refine (do_any 1 0 (by decide) H8.out rfl rfl ⟨kk, tt, .slice A2 ll.length c2, ll⟩ HOK.out.r h5 hL).mono ?_
        rintro e w9 ⟨rfl, h9⟩
        rw [hL2.out] at h9
        have H9 : Hid (OSt w [rtOb gy L', lkOb gc L', rtOb g' L', lkOb g L'] w9) := Lib.hid h9
        clear h9 H8 x0 x1 x2
        obtain ⟨x0, x1, x2⟩ := ROp.op (HR.out.ext H9.out.bel) HXK.out
        simp only at x0 x1 x2
        go_wp2_with fail
        refine (like_any 1 0 H9.out rfl rfl tt hL').mono ?_
        rintro e w10 ⟨rfl, h10⟩
        have H10 : Hid (OSt w [rtOb g' (lead l (k + 1)), lkOb g (lead l (k + 1))] w10) := Lib.hid (by rw [HLs.out]; exact (h10.dropI 0).dropI 0)
        clear h10 H9 x0 x1 x2
        go_wp2
        go_roundg (l.length - (k + 1))
        case measure => omega
        case rel => exact ⟨k + 1, by omega, by omega, by go_num, H10⟩
      · go_wp2_with fail
        refine (awake_any wr).mono ?_
        rintro e w9 ⟨rfl, h9⟩
        have F := Lib.hid (H.out.ext h9).bel
        clear h9
        go_wp2
        go_ret
        exact ⟨rfl, F.out⟩
theorem own : ownKnob Try.prog.godebug = none := by kernel_rfl
theorem laidOut : laidOutB Try.prog = true := by kernel_rfl

set_option maxRecDepth 100000 in
theorem lifted (os : Os) (started : os.Started) (H : Type) (enc : TypeId × Value → H) :
    ReturnsInHanded {} Try.checked os 4 .any (Rows.locksPlaysSpec.pre6 enc Try.prog Try.f4 Rows.locksPlaysRow.domain false) (Rows.locksPlaysSpec.post enc Try.prog Try.f4 false true false false) := by
  refine returnsInHanded_of_change (C := Try.checked) own started (by kernel_rfl) Try.func4
    (ChangeSpec.witness6 (enc := enc) (C := Try.checked) false ⟨#[], #[.slice none 0 0], []⟩ 8 (by kernel_rfl) (by kernel_rfl) (by kernel_rfl) (by kernel_rfl)) ?_
  intro W base args ds gs before hval0 hW hcnd _
  have hval : ∀ (j : Nat) t v, Try.f4.params[j]? = some t → args[j]? = some v → Value.okWide Try.prog W .any base t v := hval0
  have hW' := hW
  obtain ⟨p, q, hA0, hV, rfl, hfz, hnd⟩ := hW
  have hA : DataW.TrodAll enc Try.prog W 0 (fun _ => true) true Try.f4.params.toList args.toList ds p := hA0
  rw [Try.params4] at hA hval
  obtain ⟨v0, vs0, d0, ds0, p0, q0, hargs, rfl, rfl, h0, r0⟩ := trodAll_cons hA
  obtain ⟨rfl, rfl, rfl⟩ := trodAll_nil r0
  obtain rfl : args = #[v0] := by cases args; simp_all
  obtain ⟨rfl, rfl⟩ := trodVars_none hV
  have k0 := h0
  have lt0 : ∀ x ∈ p0, x.block < W.heap.size := by obtain ⟨m, hm⟩ := k0; exact DataW.trod_lt m _ _ _ hm
  obtain ⟨x0, rfl, w0⟩ := open_Wops (hval 0 _ v0 rfl rfl) h0
  refine (walk (w := W) x0 w0).mono fun e W' ⟨he, bel⟩ => ?_
  subst he
  exact ⟨_, rfl, _, _, _, [], _, [], hW', trodAll_mk1 (shut_bool Try.underlying4 _), (trodAll_cons_mk (Below.trod laidOut (by kernel_rfl) (of_decide_eq_true (by kernel_rfl)) k0 bel lt0) trodAll_mk0), rfl, bel.frame _, fun h => by cases h⟩

theorem proved : Rows.LocksPlaysSaid :=
  OpenClaim.holds_of_wide 4 Try.f4 rfl rfl rfl rfl rfl rfl rfl ⟨rfl, rfl, rfl, rfl, rfl⟩ rfl rfl rfl rfl rfl (by kernel_rfl) Try.func4 (by kernel_rfl)
    (of_decide_eq_true (by kernel_rfl)) (by unfold Func.isWrapper; first | (rw [if_pos (by decide +kernel)]; kernel_rfl) | (rw [if_neg (by decide +kernel)]; exact ⟨rfl, rfl⟩))
    (fun os started H enc _ => lifted os started H enc)
end Go.Proofs.Ytiihlbaajopllaa.locksPlays
