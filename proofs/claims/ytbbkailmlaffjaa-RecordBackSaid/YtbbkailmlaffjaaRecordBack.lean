/- RecordBack: what was written is told. -/
import Derived.Test.YtbbkailmlaffjaaRcN
import Derived.Test.YtbbkailmlaffjaaVS
set_option linter.unusedVariables false
set_option maxRecDepth 100000
namespace Go.Proofs.Ytbbkailmlaffjaa.recordBack
open Go.Proofs.Ytbbkailmlaffjaa
open Go.RowKit Go.ChangeShapes Go.WideShapes Go.ChangeAt Go.Deep

section
variable {H : Type} {enc : TypeId × Value → H} {W : World} {base : Nat} {b0 : Nat} {spare : Nat → Bool} {held : Bool}
theorem open_Wstrs {v : Value} {d : DataW H} {p : List MemPlace} {r : Reach} (hv : Value.okWide Try.prog W r b0 26 v) (h : DataW.Trod enc Try.prog W base spare held 26 v d p) : ∃ x : StrsT, v = x.v ∧ x.Ok W := open_strs Try.underlying26 Try.underlying9 (by kernel_rfl) hv h
end
theorem vs_rr {w : World} {v : Value} {l : List (List UInt8)} (h : VS w v (l.map strV)) : RR w 1 v l.length (svs l) := by
  refine ⟨by rw [svs_length]; omega, ?_⟩
  rcases h with ⟨rfl, h⟩ | ⟨b, off, c, rfl, hb, hc, hj⟩
  · have : l = [] := by simpa using h
    subst this
    exact .inl ⟨none, 0, rfl, rfl⟩
  · rw [List.length_map] at hc
    exact .inr ⟨b, off, c, by rw [List.length_map], hb, hc, hj⟩
set_option maxHeartbeats 4000000 in
theorem walk {w : World} (x : StrsT) (hx : x.Ok w) (vs : Value) (ls : List UInt8) (hs : RS w vs ls) (wls : ls.length ≤ maxLen) :
    Calls Try.prog 5 #[x.v, vs] w fun e w' => e = .returned (.bool true) ∧ Below w.heap.size w w' := by
  obtain ⟨v, l⟩ := x
  have hr := vs_rr hx.vs
  have wl := hx.len
  have we := hx.each
  simp only at hr wl we ⊢
  clear hx
  obtain ⟨A, c, rfl⟩ := hr.form
  obtain ⟨As, cs, rfl⟩ := hs.form
  have HV := Lib.hid hr
  have HC := Lib.hid hs
  have WE := Lib.hid we
  clear hr hs we
  unfold maxLen at wl wls
  by_cases hb : 20 < l.length
  · go_enter Try.func5, Try.ntmps5
    go_wp2_with (go_at_call 8; refine (awake_any _).mono ?_; rintro e w1 ⟨rfl, h1⟩)
    go_ret
    exact ⟨rfl, h1⟩
  · have hb' : (l.length : Int) ≤ 20 := by omega
    go_enter Try.func5, Try.ntmps5
    go_wp2_with fail
    refine (awake_any _).mono ?_
    rintro e w1 ⟨rfl, h1⟩
    have O1 := Lib.hid ((OSt.start (Z := Zn) w).ext h1)
    clear h1
    go_wp2_with fail
    refine (newO O1.out).mono ?_
    rintro e w2 ⟨g, rfl, o2⟩
    have O2 : Hid (OSt w [strOb (.slice none 0 0) [], rcOb g (rdyR false [] 0)] w2) := Lib.hid (o2.ownNil _ 1)
    clear o2 O1
    go_upto_region 6 with fail
    go_loopw [6, 7, 8, 9, 10, 11] (fun tv iv _ _ _ _ wr => ∃ (k : Nat) (la : Bool), k ≤ l.length ∧ iv = .int .i64 k ∧ Hid (OSt w [strOb tv (l.take k), rcOb g (rdyR la [] 0)] wr)) (fun _ iv _ _ _ _ _ => l.length - (intOf iv).toNat)
    case atStart => exact ⟨0, false, Nat.zero_le _, rfl, O2⟩
    case round =>
      obtain ⟨k, la, hk, rfl, HO⟩ := hrel
      clear O2
      by_cases hkl : k < l.length
      · obtain ⟨s, hs⟩ : ∃ s, l[k]? = some s := ⟨_, List.getElem?_eq_getElem hkl⟩
        obtain ⟨b, off, rfl, hbl, hcl, -⟩ := HV.out.at (by omega)
        have cell := RR.str (HV.out.ext HO.out.bel) hs
        have hsl : s.length ≤ 9223372036854775807 := by have := WE.out s (List.mem_of_getElem? hs); unfold maxLen at this; exact this
        have hsz := str_size s
        have HS := Lib.hid hs
        have hblr : b < wr.heap.size := Nat.lt_of_lt_of_le hbl HO.out.bel.size
        clear hs
        by_cases hbig : 4096 < s.length
        · go_wp2
          go_ret
          exact ⟨rfl, HO.out.bel⟩
        · have hbig' : (s.length : Int) ≤ 4096 := by omega
          go_wp2_with fail
          refine (recWrite_yes s _ (by omega)).mono ?_
          rintro e w3 ⟨v3, rfl, z3, hb3⟩
          have o3 := HO.out.pushOwn hb3 (ownZ_row z3)
          obtain ⟨B, hB⟩ : ∃ B, fragB s true = B := ⟨_, rfl⟩
          have hBl : B.length ≤ 30000 := by rw [← hB, fragB_length]; omega
          have hF : Hid (∀ la, feed (rdyR la [] 0) B = (rdyR true [] 0, [s])) := Lib.hid fun la => by rw [← hB, feed_frag (by simp; omega)]; rfl
          rw [hB] at z3 o3
          clear hB
          obtain ⟨AB, cB, rfl⟩ := z3.rs.form
          have O3 : Hid (OSt w [ownOb 5 1 (.slice AB B.length cB) B.length (bvs B), strOb u6 (l.take k), rcOb g (rdyR la [] 0)] w3) := Lib.hid o3
          clear o3 z3 HO cell hbl
          have HF := Lib.hid (hF.out la)
          by_cases hks : k < ls.length
          · obtain ⟨y, hy⟩ : ∃ y, ls[k]? = some y := ⟨_, List.getElem?_eq_getElem hks⟩
            obtain ⟨bs, os, rfl, hbs, hcs, ycell⟩ := (HC.out.ext O3.out.bel).byte hy
            have hy256 := y.toNat_lt
            obtain ⟨m, hm⟩ : ∃ m, y.toNat = m := ⟨_, rfl⟩
            rw [hm] at ycell hy256
            clear hy hm
            by_cases hm0 : m = 0
            · subst hm0
              have hks' : (k : Int) < ls.length := by omega
              go_upto_region 13 with fail
              have ha := (own_rs (O3.out.own 0 rfl) : RS w3 (.slice AB B.length cB) B)
              have K := feedO O3.out 2 (g := g) (s := rdyR la [] 0) (v := .slice AB B.length cB) (ch := B) rfl (rdy_ok (by simp)) ha (away_own O3.out) (by omega) (by simp [rdyR])
              rw [HF.out] at K
              have KF := Lib.hid K
              clear K ha O3
              go_wp2_with fail
              refine KF.out.mono ?_
              rintro e w5 ⟨mv, rfl, o5⟩
              have O5 : Hid (OSt w [strOb mv [s], ownOb 5 1 (.slice AB B.length cB) B.length (bvs B), strOb u6 (l.take k), rcOb g (rdyR true [] 0)] w5) := Lib.hid o5
              clear o5 KF
              go_wp2_with fail
              refine (heldO O5.out 3 rfl).mono ?_
              rintro e w6 ⟨rfl, rfl⟩
              obtain ⟨tv', w6, hr, o6⟩ := O5.out.tell (ty := 26) 2 0 rfl rfl (by simp; omega)
              have htk : l.take k ++ [s] = l.take (k + 1) := by rw [List.take_add_one, HS.out]; rfl
              have O6 : Hid (OSt w [strOb tv' (l.take (k + 1)), rcOb g (rdyR true [] 0)] w6) := Lib.hid (by rw [← htk]; exact (o6.dropI 0).dropI 0)
              clear o6 O5 htk
              have h00 : ((rdyR true [] 0).held : Int) = 0 := rfl
              rw [h00]
              go_wp2_with (at_builtin; refine wpList_app rfl (.tmp 80) (.tmp 81) 26 26 rfl hr ?_; simp only [Act.put])
              go_roundw
              case rel => exact ⟨k + 1, true, by omega, by go_num, O6⟩
              case measure => simp only [intOf]; omega
            · have hm1 : (0 : Int) < m := by omega
              have hm8 : (m : Int) < 256 := by omega
              have hn0 : ¬ ((m : Int) = 0) := by omega
              have scell := RR.str (HV.out.ext O3.out.bel) HS.out
              have hb3 : b < w3.heap.size := Nat.lt_of_lt_of_le hblr (Below.size hb3)
              go_upto_region 12 with fail
              have e0 := fun (ψ : World → Prop) (e : ExtP w3.heap.size w3 ψ) => e.cell scell hb3
              have e1 := fun (ψ : World → Prop) (e : ExtP w3.heap.size w3 ψ) => e.cell ycell hbs
              clear scell ycell
              refine wp_region_pieces 14  [(true, [0, 1, 2, 3, 4, 5, 6, 7, 8]), (false, [9]), (true, [10, 11, 12, 13])] (by kernel_rfl) (by kernel_rfl) ?_; simp only [pick, List.map_cons, List.map_nil, List.flatMap_cons, List.flatMap_nil, Option.toList_some, List.singleton_append, List.drop_succ_cons, List.drop_zero, List.getElem?_cons_zero, List.getElem?_cons_succ]
              refine ⟨by kernel_rfl, ?_⟩; apply Exists.intro; refine ⟨fun ψ hψ hne => (by (repeat (go_big_quiet_step (( fail )))); exact wpQuiet_nil rfl), ?_⟩
              intro W0 h0 K hK
              clear e0 e1
              have O4 : Hid (OSt w [strOb u6 (l.take k), rcOb g (rdyR la [] 0)] W0) := Lib.hid ((O3.out.ext h0).dropI 0)
              have KC := Lib.hid (recCut_yes s m W0 (by omega) (by omega) (by omega))
              clear HF hF hBl
              have HF : Hid (feed (rdyR la [] 0) (cutB m s.length s) = (rdyR true [] 0, [s])) := Lib.hid (feed_cut (by omega) s.length s la [] 0 (Nat.le_refl _) (by simp; omega))
              have hBl : (cutB m s.length s).length ≤ 30000 := by have := cut_length (n := m) (by omega) s.length s (Nat.le_refl _); omega
              clear O3 h0
              obtain ⟨B, hB⟩ : ∃ B2, cutB m s.length s = B2 := ⟨_, rfl⟩
              rw [hB] at KC HF hBl
              clear hB
              go_wp2_with (go_at_call 16; refine KC.out.mono ?_; rintro e w4 ⟨v4, rfl, z4, hb4⟩)
              refine hK _ _ hb4 ?_
              clear hK K KC
              obtain ⟨AB, cB, rfl⟩ := z4.rs.form
              have o4 := O4.out.pushOwn hb4 (ownZ_row z4)
              have O4' : Hid (OSt w [ownOb 5 1 (.slice AB B.length cB) B.length (bvs B), strOb u6 (l.take k), rcOb g (rdyR la [] 0)] w4) := Lib.hid o4
              clear o4 O4 hb4 z4
              refine ⟨by kernel_rfl, ?_⟩; apply Exists.intro; refine ⟨fun ψ hψ hne => (by (repeat (go_big_quiet_step (( fail )))); exact wpQuiet_nil rfl), ?_⟩
              intro w3 h5
              have O3 : Hid (OSt w [ownOb 5 1 (.slice AB B.length cB) B.length (bvs B), strOb u6 (l.take k), rcOb g (rdyR la [] 0)] w3) := Lib.hid (O4'.out.ext h5)
              clear O4' h5
              go_upto_region 13 with fail
              have ha := (own_rs (O3.out.own 0 rfl) : RS w3 (.slice AB B.length cB) B)
              have K := feedO O3.out 2 (g := g) (s := rdyR la [] 0) (v := .slice AB B.length cB) (ch := B) rfl (rdy_ok (by simp)) ha (away_own O3.out) (by omega) (by simp [rdyR])
              rw [HF.out] at K
              have KF := Lib.hid K
              clear K ha O3
              go_wp2_with fail
              refine KF.out.mono ?_
              rintro e w5 ⟨mv, rfl, o5⟩
              have O5 : Hid (OSt w [strOb mv [s], ownOb 5 1 (.slice AB B.length cB) B.length (bvs B), strOb u6 (l.take k), rcOb g (rdyR true [] 0)] w5) := Lib.hid o5
              clear o5 KF
              go_wp2_with fail
              refine (heldO O5.out 3 rfl).mono ?_
              rintro e w6 ⟨rfl, rfl⟩
              obtain ⟨tv', w6, hr, o6⟩ := O5.out.tell (ty := 26) 2 0 rfl rfl (by simp; omega)
              have htk : l.take k ++ [s] = l.take (k + 1) := by rw [List.take_add_one, HS.out]; rfl
              have O6 : Hid (OSt w [strOb tv' (l.take (k + 1)), rcOb g (rdyR true [] 0)] w6) := Lib.hid (by rw [← htk]; exact (o6.dropI 0).dropI 0)
              clear o6 O5 htk
              have h00 : ((rdyR true [] 0).held : Int) = 0 := rfl
              rw [h00]
              go_wp2_with (at_builtin; refine wpList_app rfl (.tmp 80) (.tmp 81) 26 26 rfl hr ?_; simp only [Act.put])
              go_roundw
              case rel => exact ⟨k + 1, true, by omega, by go_num, O6⟩
              case measure => simp only [intOf]; omega
          · skip
            go_upto_region 13 with fail
            have ha := (own_rs (O3.out.own 0 rfl) : RS w3 (.slice AB B.length cB) B)
            have K := feedO O3.out 2 (g := g) (s := rdyR la [] 0) (v := .slice AB B.length cB) (ch := B) rfl (rdy_ok (by simp)) ha (away_own O3.out) (by omega) (by simp [rdyR])
            rw [HF.out] at K
            have KF := Lib.hid K
            clear K ha O3
            go_wp2_with fail
            refine KF.out.mono ?_
            rintro e w5 ⟨mv, rfl, o5⟩
            have O5 : Hid (OSt w [strOb mv [s], ownOb 5 1 (.slice AB B.length cB) B.length (bvs B), strOb u6 (l.take k), rcOb g (rdyR true [] 0)] w5) := Lib.hid o5
            clear o5 KF
            go_wp2_with fail
            refine (heldO O5.out 3 rfl).mono ?_
            rintro e w6 ⟨rfl, rfl⟩
            obtain ⟨tv', w6, hr, o6⟩ := O5.out.tell (ty := 26) 2 0 rfl rfl (by simp; omega)
            have htk : l.take k ++ [s] = l.take (k + 1) := by rw [List.take_add_one, HS.out]; rfl
            have O6 : Hid (OSt w [strOb tv' (l.take (k + 1)), rcOb g (rdyR true [] 0)] w6) := Lib.hid (by rw [← htk]; exact (o6.dropI 0).dropI 0)
            clear o6 O5 htk
            have h00 : ((rdyR true [] 0).held : Int) = 0 := rfl
            rw [h00]
            go_wp2_with (at_builtin; refine wpList_app rfl (.tmp 80) (.tmp 81) 26 26 rfl hr ?_; simp only [Act.put])
            go_roundw
            case rel => exact ⟨k + 1, true, by omega, by go_num, O6⟩
            case measure => simp only [intOf]; omega
      · obtain rfl : k = l.length := by omega
        have htk : l.take l.length = l := List.take_length
        have HO' : Hid (OSt w [strOb u6 l, rcOb g (rdyR la [] 0)] wr) := Lib.hid (by have := HO.out; rwa [htk] at this)
        clear HO htk
        have KS := Lib.hid (Same_t l wr ((HO'.out.own 0 rfl).rr (by decide)) (HV.out.ext HO'.out.bel) (by omega))
        go_wp2_with fail
        refine KS.out.mono ?_
        rintro e w7 ⟨rfl, h7⟩
        go_wp2_with fail
        go_ret
        exact ⟨rfl, HO'.out.bel.trans (Below.mono h7 HO'.out.bel.size)⟩
theorem own : ownKnob Try.prog.godebug = none := by kernel_rfl
theorem laidOut : laidOutB Try.prog = true := by kernel_rfl

set_option maxRecDepth 100000 in
theorem lifted (os : Os) (started : os.Started) (H : Type) (enc : TypeId × Value → H) :
    ReturnsInHanded {} Try.checked os 5 .any (Rows.recordBackSpec.pre6 enc Try.prog Try.f5 Rows.recordBackRow.domain false) (Rows.recordBackSpec.post enc Try.prog Try.f5 false true false false) := by
  refine returnsInHanded_of_change (C := Try.checked) own started (by kernel_rfl) Try.func5
    (ChangeSpec.witness6 (enc := enc) (C := Try.checked) false ⟨#[], #[.slice none 0 0, .slice none 0 0], []⟩ 8 (by kernel_rfl) (by kernel_rfl) (by kernel_rfl) (by kernel_rfl)) ?_
  intro W base args ds gs before hval0 hW hcnd _
  have hval : ∀ (j : Nat) t v, Try.f5.params[j]? = some t → args[j]? = some v → Value.okWide Try.prog W .any base t v := hval0
  have hW' := hW
  obtain ⟨p, q, hA0, hV, rfl, hfz, hnd⟩ := hW
  have hA : DataW.TrodAll enc Try.prog W 0 (fun _ => true) true Try.f5.params.toList args.toList ds p := hA0
  rw [Try.params5] at hA hval
  obtain ⟨v0, vs0, d0, ds0, p0, q0, hargs, rfl, rfl, h0, r0⟩ := trodAll_cons hA
  obtain ⟨v1, vs1, d1, ds1, p1, q1, rfl, rfl, rfl, h1, r1⟩ := trodAll_cons r0
  obtain ⟨rfl, rfl, rfl⟩ := trodAll_nil r1
  obtain rfl : args = #[v0, v1] := by cases args; simp_all
  obtain ⟨rfl, rfl⟩ := trodVars_none hV
  have k0 := h0
  have lt0 : ∀ x ∈ p0, x.block < W.heap.size := by obtain ⟨m, hm⟩ := k0; exact DataW.trod_lt m _ _ _ hm
  have k1 := h1
  have lt1 : ∀ x ∈ p1, x.block < W.heap.size := by obtain ⟨m, hm⟩ := k1; exact DataW.trod_lt m _ _ _ hm
  obtain ⟨x0, rfl, w0⟩ := open_Wstrs (hval 0 _ v0 rfl rfl) h0
  obtain ⟨l1, y1, wl1⟩ := open_bytes Try.underlying22 Try.underlying5 (by kernel_rfl) (hval 1 _ v1 rfl rfl) h1
  refine (walk (w := W) x0 w0 v1 l1 y1 wl1).mono fun e W' ⟨he, bel⟩ => ?_
  subst he
  exact ⟨_, rfl, _, _, _, [], _, [], hW', trodAll_mk1 (shut_bool Try.underlying4 _), (trodAll_cons_mk (Below.trod laidOut (by kernel_rfl) (of_decide_eq_true (by kernel_rfl)) k0 bel lt0) (trodAll_cons_mk (Below.trod laidOut (by kernel_rfl) (of_decide_eq_true (by kernel_rfl)) k1 bel lt1) trodAll_mk0)), rfl, bel.frame _, fun h => by cases h⟩

theorem proved : Rows.RecordBackSaid :=
  OpenClaim.holds_of_wide 5 Try.f5 rfl rfl rfl rfl rfl rfl rfl ⟨rfl, rfl, rfl, rfl, rfl⟩ rfl rfl rfl rfl rfl (by kernel_rfl) Try.func5 (by kernel_rfl)
    (of_decide_eq_true (by kernel_rfl)) (by unfold Func.isWrapper; first | (rw [if_pos (by decide +kernel)]; kernel_rfl) | (rw [if_neg (by decide +kernel)]; exact ⟨rfl, rfl⟩))
    (fun os started H enc _ => lifted os started H enc)
end Go.Proofs.Ytbbkailmlaffjaa.recordBack
