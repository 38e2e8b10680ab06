/- Proved: NetNone returns true whatever steps it is called with, and the argument reads behind the call as before. No condition. -/
import Derived.Test.YteahlnoonmfjhaaNnC
import Derived.Test.YteahlnoonmfjhaaMo
import Derived.Test.YteahlnoonmfjhaaMq
import Derived.Test.YteahlnoonmfjhaaLift
set_option linter.unusedVariables false
set_option maxRecDepth 100000
namespace Go.Proofs.Yteahlnoonmfjhaa.netNone
open Go.RowKit Go.ChangeShapes Go.WideShapes Go.ChangeAt Go.Deep Go.Proofs.Yteahlnoonmfjhaa

def NInv (L : List Pk) (F : Pk → Option Value) : Prop := cntF F L ∧ L.length ≤ 256 ∧ ∀ q ∈ L, PkOk q
theorem NInv.less {L M : List Pk} {F F' : Pk → Option Value} {p : Pk} (h : NInv L F) (hm : ∀ q, L.count q = M.count q + if p = q then 1 else 0) (hl : M.length ≤ L.length) (hs : ∀ q ∈ M, q ∈ L)
    (he : ∀ q, (F' q).getD (.int .i64 0) = (updK F p (.int .i64 ((L.count p : Int) - 1)) q).getD (.int .i64 0)) : NInv M F' :=
  ⟨cntF_of (cntF_less hm h.1) he, Nat.le_trans hl h.2.1, fun q hq => h.2.2 q (hs q hq)⟩
theorem NInv.more {L : List Pk} {F F' : Pk → Option Value} {p : Pk} (h : NInv L F) (hp : PkOk p) (hl : L.length < 256)
    (he : ∀ q, (F' q).getD (.int .i64 0) = (updK F p (.int .i64 ((L.count p : Int) + 1)) q).getD (.int .i64 0)) : NInv (L ++ [p]) F' :=
  ⟨cntF_of (cntF_snoc h.1 p) he, by rw [List.length_append]; simp; omega, fun q hq => by
    rcases List.mem_append.1 hq with hq | hq
    · exact h.2.2 q hq
    · obtain rfl := List.mem_singleton.1 hq
      exact hp⟩
attribute [local go_sem ↓] eql_npk
set_option maxHeartbeats 16000000 in
theorem walk {w : World} (x : NopsT) (hx : x.Ok w) : Calls Try.prog 8 #[x.v] w fun e w' => e = .returned (.bool true) ∧ Below w.heap.size w w' := by
  obtain ⟨v, l⟩ := x
  have hr := hx.r
  have he := hx.e
  have hlen := hx.len
  clear hx
  simp only at hr he hlen ⊢
  show Calls _ _ #[v] w _
  obtain ⟨A, c, rfl⟩ := hr.form
  have KL := Lib.hid (nlong_any l w hr he hlen)
  have HR := Lib.hid hr
  unfold maxLen at hlen
  clear hr he
  go_enter Try.func8, Try.ntmps8
  go_wp2_with fail
  refine KL.out.mono ?_
  rintro e w1 ⟨B, rfl, hB, h1⟩
  cases B with
  | true =>
    go_wp2_with fail
    refine (awake30 w1).mono ?_
    rintro e w2 ⟨rfl, h2⟩
    have F := Lib.hid (Ext.trans h1 h2)
    clear h1 h2 hB KL HR
    go_wp2
    go_ret
    exact ⟨rfl, F.out⟩
  | false =>
    by_cases h150 : 150 < l.length
    · have h150' : (150 : Int) < (l.length : Int) := by omega
      go_wp2_with fail
      refine (awake30 w1).mono ?_
      rintro e w2 ⟨rfl, h2⟩
      have F := Lib.hid (Ext.trans h1 h2)
      clear h1 h2 hB KL HR
      go_wp2
      go_ret
      exact ⟨rfl, F.out⟩
    have h150' : (l.length : Int) ≤ 150 := by omega
    clear hB KL h150
    go_wp2_with fail
    refine (awake30 w1).mono ?_
    rintro e w2 ⟨rfl, h2⟩
    have H1 : Hid (OSt (Z := Z0) w [] w2) := Lib.hid ((OSt.start w).ext (Ext.trans h1 h2))
    clear h1 h2
    go_wp2_with fail
    refine (nNewO H1.out).mono ?_
    rintro e w3 ⟨g, rfl, h3⟩
    have H3 : Hid (OSt w [mapOb w3.heap.size (fun _ => none), netO g []] (w3.alloc (.map #[] 0))) := Lib.hid (OSt.mapNew h3)
    clear h3 H1
    have hmm := @run_makeMap Try.prog
    go_upto_region 5 with fail
    clear hmm
    generalize w3.alloc (.map #[] 0) = w4 at *
    generalize w3.heap.size = mb at *
    go_wp2_with fail
    go_loopg [5, 6, 7, 8, 9, 10, 11, 12] l.length (fun gg s5 s6 _ _ _ _ _ _ wr => ∃ (k : Nat) (L : List Pk) (F : Pk → Option Value), k ≤ l.length ∧ l.length - k ≤ gg ∧ s5 = .int .i64 L.length ∧ s6 = .int .i64 k ∧ Hid (OSt w [mapOb mb F, netO g L] wr) ∧ Hid (NInv L F))
    case atStart => exact ⟨0, [], _, Nat.zero_le _, by omega, rfl, rfl, H3, Lib.hid ⟨cntF_nil, by decide, by simp⟩⟩
    case round =>
      clear H3
      obtain ⟨k, L, F, hk, hg, rfl, rfl, H, HI⟩ := hrel
      have hL : (L.length : Int) ≤ 256 := by have := HI.out.2.1; omega
      have hL' : L.length ≤ 256 := by omega
      by_cases hlt : k < l.length
      · obtain ⟨b, off, rfl, hb, hc, -⟩ := HR.out.at (by omega)
        obtain ⟨x, hxk⟩ : ∃ x, l[k]? = some x := ⟨_, List.getElem?_eq_getElem hlt⟩
        have HXK := Lib.hid hxk
        clear hxk
        go_wp2_with fail
        refine (nRowO 1 H.out rfl (by omega)).mono ?_
        rintro e w1 ⟨v, rfl, h1, -⟩
        obtain ⟨A, c1, rfl⟩ := (h1.own 0 rfl).form
        have H1 : Hid (OSt w [ownOb 25 3 (.slice A L.length c1) L.length (pkcs L), mapOb mb F, netO g L] w1) := Lib.hid h1
        clear h1 H
        have hb1 : b < w1.heap.size := Nat.lt_of_lt_of_le hb (Below.size H1.out.bel)
        have hbm : ¬ b = mb := by have := H1.out.mapGe 1 rfl; omega
        obtain ⟨x0, x1, x2, x3, x4⟩ := ROp.op (HR.out.ext H1.out.bel) HXK.out
        obtain ⟨xk, p, a⟩ := x
        simp only at x0 x1 x2 x3 x4
        by_cases hk0 : xk = 0
        · subst hk0
          have HLD1 := Lib.hid (ldNop x1 x2 x3)
          go_wp2_with (refine wpList_ld rfl 84 (.tmp 87) rfl HLD1.out ?_; simp only [Act.put])
          refine (given_any p w1).mono ?_
          rintro e w2 ⟨rfl, h2⟩
          have H2 := Lib.hid (H1.out.ext h2)
          clear h2 H1 x0 x1 x2 x3 x4 HLD1
          go_wp2_with fail
          refine (nPutO 2 H2.out rfl p (by omega)).mono ?_
          rintro e w3 ⟨rfl, h3⟩
          have H3 : Hid (OSt w [ownOb 25 3 (.slice A L.length c1) L.length (pkcs L), mapOb mb F, netO g (putN L p)] w3) := Lib.hid h3
          clear h3 H2
          by_cases hE : putE L p = 0
          · obtain ⟨hpk, hpn⟩ := put_ok hE
            rw [hpn] at H3
            rw [hE]
            have hl256 : L.length < 256 := by
              rcases Nat.lt_or_ge L.length 256 with h | h
              · exact h
              · unfold putE at hE
                split at hE
                · cases hE
                · split at hE
                  · cases hE
                  · cases hE
            have HPK := Lib.hid hpk
            have HK := Lib.hid (pk_keyOk hpk)
            clear hE hpk hpn
            have hb3 : b < w3.heap.size := Nat.lt_of_lt_of_le hb (Below.size H3.out.bel)
            obtain ⟨x0, x1, x2, x3, x4⟩ := ROp.op (HR.out.ext H3.out.bel) HXK.out
            simp only at x1 x2 x3
            have HLD3 : Hid (∀ w', (mR mb).r w3 w' → (Instr.loadAt 84 (.pointer (some ⟨b, off + k * 5 + 1, none⟩))).run Try.prog w' = .ok (.agg (pkC p).toArray) w') := Lib.hid fun w' hr => ldNop ((hr.1.cell hb3 hbm).trans x1) ((hr.1.cell hb3 hbm).trans x2) ((hr.1.cell hb3 hbm).trans x3)
            have HLK := Lib.hid (H3.out.mapLook 1 rfl HI.out.1 HK.out)
            have HME := Lib.hid (H3.out.mapEnt 1 rfl HK.out)
            have hcb : L.count p ≤ 256 := Nat.le_trans List.count_le_length hL'
            have HI2 := Lib.hid fun F' he => HI.out.more (F' := F') HPK.out hl256 he
            obtain ⟨cn, hcn⟩ : ∃ cn : Nat, L.count p = cn := ⟨_, rfl⟩
            rw [hcn] at HLK hcb HI2
            clear hcn x0 x1 x2 x3 x4
            go_upto_region 21 with fail
            refine wp_region_piecesR (mR mb) 11 [(true, [0, 1, 2, 3, 4, 5]), (false, [6]), (true, [7, 8]), (false, [9]), (true, [10])] (by kernel_rfl) (by kernel_rfl) ?_
            simp only [pick, List.map_cons, List.map_nil, List.flatMap_cons, List.flatMap_nil, Option.toList_some, List.singleton_append, List.drop_succ_cons, List.drop_zero, List.getElem?_cons_zero, List.getElem?_cons_succ]
            refine ⟨by kernel_rfl, ?_⟩; apply Exists.intro; refine ⟨fun ψ hψ hne => ?_, ?_⟩
            · repeat (go_big_quiet_step ((fail)))
              go_big_quiet_want; refine quiet_ld 84 (.tmp 96) rfl (fun w' hw' => by obtain ⟨e, rfl⟩ := hw'; exact HLD3.out _ e.ok) ?_; go_simp; go_big_quiet_on
              exact wpQuiet_nil rfl
            clear HLD3
            intro wa ha K hK
            go_wp2_with (go_at_call 46; refine (given_any p wa).mono ?_; rintro e wb ⟨rfl, hb2⟩)
            refine hK _ _ ((mR mb).ext hb2) ?_
            clear hK K
            refine ⟨by kernel_rfl, ?_⟩; apply Exists.intro; refine ⟨fun ψ hψ hne => ?_, ?_⟩
            · go_big_quiet_want; refine quiet_lk 83 (.tmp 92) (.tmp 98) false rfl (fun w' hw' => by obtain ⟨e, rfl⟩ := hw'; exact HLK.out _ ((mR mb).trans ((mR mb).ext (Ext.trans (a := w3) ha hb2)) e.ok)) ?_; go_simp; go_big_quiet_on
              repeat (go_big_quiet_step ((fail)))
              exact wpQuiet_nil rfl
            clear HLK
            intro wm hm K hK
            obtain ⟨v0, st, w5, hme, hr5, hst⟩ := HME.out wm ((mR mb).ext (Ext.trans (a := w3) (Ext.trans (a := w3) ha hb2) hm))
            have HM5 := Lib.hid hme
            clear hme HME
            go_wp2_with (refine wpList_me rfl 83 (.tmp 92) (.tmp 98) rfl HM5.out ?_; simp only [Act.put])
            refine hK _ _ hr5 ?_
            clear hK K HM5 hr5
            (try simp only [List.setIfInBounds_toArray, List.set_cons_zero, List.set_cons_succ])
            refine ⟨by kernel_rfl, ?_⟩; apply Exists.intro; refine ⟨fun ψ hψ hne => (by (repeat (go_big_quiet_step (( fail )))); exact wpQuiet_nil rfl), ?_⟩
            intro w6 h6
            obtain ⟨w7, F7, hes, h7, hd7⟩ := hst w6 (.int .i64 ((cn : Int) + 1)) h6
            have HES := Lib.hid hes
            have HD7 := Lib.hid hd7
            have H7 := Lib.hid h7
            clear hes h7 hd7 hst h6 hm
            go_upto_region 22 with (refine wpList_es rfl 83 (.tmp 92) (.tmp 102) (.tmp 100) rfl HES.out ?_; simp only [Act.put])
            clear HES
            clear ha hb2 H3
            have H8 : Hid (OSt w [mapOb mb F7, netO g (L ++ [p])] w7) := Lib.hid (H7.out.dropI 0)
            have HI8 := Lib.hid (HI2.out F7 HD7.out)
            clear H7 HD7 HI2
            go_wp2_with fail
            go_roundg (l.length - (k + 1))
            case measure => omega
            case rel => exact ⟨k + 1, L ++ [p], F7, by omega, by omega, by rw [List.length_append]; go_num, by go_num, H8, HI8⟩
          · have z0 : (putE L p == 0) = false := beq_eq_false_iff_ne.2 hE
            rw [put_no hE] at H3
            have H8 : Hid (OSt w [mapOb mb F, netO g L] w3) := Lib.hid (H3.out.dropI 0)
            clear H3
            go_wp2_with fail
            go_roundg (l.length - (k + 1))
            case measure => omega
            case rel => exact ⟨k + 1, L, F, by omega, by omega, rfl, by go_num, H8, HI⟩
        by_cases hk1 : xk = 1
        · subst hk1
          have KT := Lib.hid (nTakeO 2 H1.out rfl a (by omega))
          have HTC := Lib.hid (take_cases (l := L) a (by omega))
          generalize takeN L a = R at *
          obtain ⟨q, er, L'⟩ := R
          simp only at KT HTC
          go_wp2_with fail
          refine KT.out.mono ?_
          rintro e w2 ⟨rfl, h2⟩
          have H2 : Hid (OSt w [rowOb w2.heap.size (.cells (pkC q).toArray 25 (0, 0)) nz0', ownOb 25 3 (.slice A L.length c1) L.length (pkcs L), mapOb mb F, netO g L'] (w2.alloc (.cells (pkC q).toArray 25 (0, 0)))) := Lib.hid (OSt.alloc h2 _ nz0')
          have HS2 := Lib.hid (new_npk w2 q)
          clear h2 KT H1 x0 x1 x2 x3 x4
          go_upto_region 25 with (refine wpList_st rfl 25 (.tmp 8) (.tmp 115) rfl HS2.out ?_; simp only [Act.put]; clear HS2)
          generalize w2.alloc (.cells (pkC q).toArray 25) = w3 at *
          generalize w2.heap.size = g8 at *
          rcases HTC.out with ⟨hLe, hR⟩ | ⟨q', hq, hR, hix⟩
          · cases hR
            subst hLe
            clear HTC
            have H8 : Hid (OSt w [mapOb mb F, netO g []] w3) := Lib.hid ((H2.out.dropI 0).dropI 0)
            clear H2
            go_wp2_with fail
            go_roundg (l.length - (k + 1))
            case measure => omega
            case rel => exact ⟨k + 1, [], F, by omega, by omega, rfl, by go_num, H8, HI⟩
          · cases hR
            clear HTC
            generalize ixN a L.length = ix at *
            have hLp : (0 : Int) < (L.length : Int) := by omega
            have HCE := Lib.hid (cnt_erase hq)
            have HQ := Lib.hid (HI.out.2.2 _ (List.mem_of_getElem? hq))
            have HK := Lib.hid (pk_keyOk HQ.out)
            have hcp := cntF_pos HCE.out
            have HLL : Hid ((L.eraseIdx ix).length = L.length - 1) := Lib.hid (List.length_eraseIdx_of_lt hix)
            have HI2 := Lib.hid fun F' he => HI.out.less (F' := F') HCE.out (by rw [HLL.out]; omega) (fun q hq => List.mem_of_mem_eraseIdx hq) he
            have hne8 : ¬ g8 = mb := fun e => by
              obtain ⟨S, hm, _⟩ := H2.out.pick (i := 2) rfl
              obtain ⟨es, ck, hb, _⟩ := hm.1
              have := H2.out.get 0 rfl
              rw [e] at this
              rw [hb] at this
              cases this
            have HB8 := Lib.hid (H2.out.get 0 rfl)
            have HLD : Hid (∀ w', (mR mb).r w3 w' → (Instr.loadAt 25 (.pointer (some ⟨g8, 0, none⟩))).run Try.prog w' = .ok (.agg (pkC q).toArray) w') := Lib.hid fun w' hr => ldNpk ((hr.1.block g8 (heap_lt HB8.out) hne8).trans HB8.out)
            have HLK := Lib.hid (H2.out.mapLook 2 rfl HI.out.1 HK.out)
            have HME := Lib.hid (H2.out.mapEnt 2 rfl HK.out)
            have hcb : L.count q ≤ 256 := Nat.le_trans List.count_le_length hL'
            obtain ⟨cn, hcn⟩ : ∃ cn : Nat, L.count q = cn := ⟨_, rfl⟩
            rw [hcn] at HLK hcb HI2 hcp
            have hcp' : (1 : Int) ≤ (cn : Int) := by omega
            clear hcn HCE hq
            have HL0 := Lib.hid (HLD.out w3 ((mR mb).refl _))
            have HK0 := Lib.hid (HLK.out w3 ((mR mb).refl _))
            go_upto_region 28 with (first
              | (refine wpList_ldgM 25 (.tmp 8) rfl (by rfl) HL0.out ?_; simp only [Act.put])
              | (refine wpList_lkN 83 (.tmp 126) (.tmp 127) false rfl (by rfl) HK0.out ?_; simp only [Act.put]))
            clear HL0 HK0
            refine wp_region_piecesR (mR mb) 6 [(true, [0, 1, 2, 3]), (false, [4]), (true, [5])] (by kernel_rfl) (by kernel_rfl) ?_
            simp only [pick, List.map_cons, List.map_nil, List.flatMap_cons, List.flatMap_nil, Option.toList_some, List.singleton_append, List.drop_succ_cons, List.drop_zero, List.getElem?_cons_zero, List.getElem?_cons_succ]
            refine ⟨by kernel_rfl, ?_⟩; apply Exists.intro; refine ⟨fun ψ hψ hne => ?_, ?_⟩
            · go_big_quiet_step ((fail))
              go_big_quiet_want; refine quiet_ld 25 (.tmp 8) rfl (fun w' hw' => by obtain ⟨e, rfl⟩ := hw'; exact HLD.out _ e.ok) ?_; go_simp; go_big_quiet_on
              go_big_quiet_want; refine quiet_lk 83 (.tmp 134) (.tmp 135) false rfl (fun w' hw' => by obtain ⟨e, rfl⟩ := hw'; exact HLK.out _ e.ok) ?_; go_simp; go_big_quiet_on
              repeat (go_big_quiet_step ((fail)))
              exact wpQuiet_nil rfl
            clear HLD HLK
            intro wm hm K hK
            obtain ⟨v0, st, w5, hme, hr5, hst⟩ := HME.out wm ((mR mb).ext (hm))
            have HM5 := Lib.hid hme
            clear hme HME
            go_wp2_with (refine wpList_me rfl 83 (.tmp 134) (.tmp 135) rfl HM5.out ?_; simp only [Act.put])
            refine hK _ _ hr5 ?_
            clear hK K HM5 hr5
            (try simp only [List.setIfInBounds_toArray, List.set_cons_zero, List.set_cons_succ])
            refine ⟨by kernel_rfl, ?_⟩; apply Exists.intro; refine ⟨fun ψ hψ hne => (by (repeat (go_big_quiet_step (( fail )))); exact wpQuiet_nil rfl), ?_⟩
            intro w6 h6
            obtain ⟨w7, F7, hes, h7, hd7⟩ := hst w6 (.int .i64 ((cn : Int) - 1)) h6
            have HES := Lib.hid hes
            have HD7 := Lib.hid hd7
            have H7 := Lib.hid h7
            clear hes h7 hd7 hst h6 hm
            go_upto_region 29 with (refine wpList_es rfl 83 (.tmp 134) (.tmp 139) (.tmp 137) rfl HES.out ?_; simp only [Act.put])
            clear HES
            clear H2 HB8
            have H8 : Hid (OSt w [mapOb mb F7, netO g (L.eraseIdx ix)] w7) := Lib.hid ((H7.out.dropI 0).dropI 0)
            have HI8 := Lib.hid (HI2.out F7 HD7.out)
            clear H7 HD7 HI2
            go_wp2_with fail
            go_roundg (l.length - (k + 1))
            case measure => omega
            case rel => exact ⟨k + 1, L.eraseIdx ix, F7, by omega, by omega, by rw [HLL.out]; congr 1; omega, by go_num, H8, HI8⟩
        by_cases hk2 : xk = 2
        · subst hk2
          have KT := Lib.hid (nLoseO 2 H1.out rfl a (by omega))
          have HTC := Lib.hid (take_cases (l := L) a (by omega))
          generalize takeN L a = R at *
          obtain ⟨q, er, L'⟩ := R
          simp only at KT HTC
          go_wp2_with fail
          refine KT.out.mono ?_
          rintro e w2 ⟨rfl, h2⟩
          have H2 : Hid (OSt w [ownOb 25 3 (.slice A L.length c1) L.length (pkcs L), mapOb mb F, netO g L'] w2) := Lib.hid h2
          clear h2 KT H1 x0 x1 x2 x3 x4
          rcases HTC.out with ⟨hLe, hR⟩ | ⟨q', hq, hR, hix⟩
          · cases hR
            subst hLe
            clear HTC
            have H8 : Hid (OSt w [mapOb mb F, netO g []] w2) := Lib.hid (H2.out.dropI 0)
            clear H2
            go_wp2_with fail
            go_roundg (l.length - (k + 1))
            case measure => omega
            case rel => exact ⟨k + 1, [], F, by omega, by omega, rfl, by go_num, H8, HI⟩
          · cases hR
            clear HTC
            generalize ixN a L.length = ix at *
            have hLp : (0 : Int) < (L.length : Int) := by omega
            have HCE := Lib.hid (cnt_erase hq)
            have HQ := Lib.hid (HI.out.2.2 _ (List.mem_of_getElem? hq))
            have HK := Lib.hid (pk_keyOk HQ.out)
            have hcp := cntF_pos HCE.out
            have hLL := List.length_eraseIdx_of_lt hix
            have HI2 := Lib.hid fun F' he => HI.out.less (F' := F') HCE.out (by rw [hLL]; omega) (fun q hq => List.mem_of_mem_eraseIdx hq) he
            have HLA := Lib.hid fun a' (ha : a' < L.length) h he => lose_at (l := L) (i := ix) (a := a') hix ha h he
            generalize L.eraseIdx ix = M at *
            have hcb : L.count q ≤ 256 := Nat.le_trans List.count_le_length hL'
            obtain ⟨cn, hcn⟩ : ∃ cn : Nat, L.count q = cn := ⟨_, rfl⟩
            have HCN := Lib.hid hcn
            rw [hcn] at hcb HI2 hcp
            have hcp' : (1 : Int) ≤ (cn : Int) := by omega
            have HQX := Lib.hid hq
            have z9 : ((M.length : Int) == (L.length : Int) - 1) = true := beq_iff_eq.2 (by omega)
            have hLL1 : M.length + 1 ≤ L.length := by omega
            have hLL2 : L.length ≤ M.length + 1 := by omega
            clear hcn HCE hq hLL
            go_wp2_with fail
            refine (nRowO 2 H2.out rfl (by omega)).mono ?_
            rintro e w3 ⟨v3, rfl, h3, -⟩
            obtain ⟨A3, c3, rfl⟩ := (h3.own 0 rfl).form
            have H3 : Hid (OSt w [ownOb 25 3 (.slice A3 M.length c3) M.length (pkcs M), ownOb 25 3 (.slice A L.length c1) L.length (pkcs L), mapOb mb F, netO g M] w3) := Lib.hid h3
            clear h3 H2
            go_wp2_with fail
            clear z9
            generalize ((M.length : Int) != (L.length : Int) - 1) = bz
            go_loopg [11] M.length (fun gg s wr => ∃ j : Nat, j ≤ M.length ∧ M.length - j ≤ gg ∧ s = .int .i64 j ∧ Hid (OSt w [ownOb 25 3 (.slice A3 M.length c3) M.length (pkcs M), ownOb 25 3 (.slice A L.length c1) L.length (pkcs L), mapOb mb F, netO g M] wr) ∧ Hid (∀ i, i < j → M[i]? = L[i]?))
            case atStart => exact ⟨0, Nat.zero_le _, by omega, rfl, H3, Lib.hid fun i hi => absurd hi (Nat.not_lt_zero _)⟩
            case round =>
              clear H3
              obtain ⟨j, hj, hgj, rfl, H4, HJ⟩ := hrel
              by_cases hjl : j < M.length
              · obtain ⟨pm, hpm⟩ : ∃ pm, M[j]? = some pm := ⟨_, List.getElem?_eq_getElem hjl⟩
                obtain ⟨pl, hpl⟩ : ∃ pl, L[j]? = some pl := ⟨_, List.getElem?_eq_getElem (by omega)⟩
                obtain ⟨vm, rfl, hvm, hvmc, hldm⟩ := H4.out.rowAt 0 2 rfl rfl rfl hpm
                obtain ⟨vl, rfl, hvl, hvlc, hldl⟩ := H4.out.rowAt 1 2 rfl rfl rfl hpl
                have HLM := Lib.hid fun (w' : World) (k : Ext wr w') => hldm w' ((mR mb).ext k)
                have HLL2 := Lib.hid fun (w' : World) (k : Ext wr w') => hldl w' ((mR mb).ext k)
                have HPM := Lib.hid hpm
                have HPL := Lib.hid hpl
                have hjL : (j : Int) < (L.length : Int) := by omega
                clear hldm hldl hpm hpl
                obtain ⟨be, hbe⟩ : ∃ be, eqPk pm pl = be := ⟨_, rfl⟩
                go_upto_region 36 with fail
                refine wp_region_pieces 14  [(true, [0, 1, 2, 3, 4, 5, 6, 7, 8, 9, 10, 11, 12, 13])] (by kernel_rfl) (by kernel_rfl) ?_; simp only [pick, List.map_cons, List.map_nil, List.flatMap_cons, List.flatMap_nil, Option.toList_some, List.singleton_append, List.drop_succ_cons, List.drop_zero, List.getElem?_cons_zero, List.getElem?_cons_succ]
                refine ⟨by kernel_rfl, ?_⟩; apply Exists.intro; refine ⟨fun ψ hψ hne => ?_, ?_⟩
                · iterate 8 (go_big_quiet_step ((fail)))
                  go_big_quiet_want; refine quiet_ld 25 (.tmp 166) rfl (fun w' hw' => HLM.out w' (by obtain ⟨e, rfl⟩ := hw'; exact e.ok)) ?_; go_simp; go_big_quiet_on
                  iterate 3 (go_big_quiet_step ((fail)))
                  go_big_quiet_want; refine quiet_ld 25 (.tmp 170) rfl (fun w' hw' => HLL2.out w' (by obtain ⟨e, rfl⟩ := hw'; exact e.ok)) ?_; go_simp; go_big_quiet_on
                  repeat (go_big_quiet_step ((fail)))
                  exact wpQuiet_nil rfl
                clear HLM HLL2
                intro w5 h5
                have H5 := Lib.hid (H4.out.ext h5)
                clear h5 H4
                cases be with
                | true =>
                  have hpe : pm = pl := by simpa [eqPk] using hbe
                  subst hpe
                  go_wp2_with fail
                  go_roundg (M.length - (j + 1))
                  case measure => omega
                  case rel =>
                    refine ⟨j + 1, by omega, by omega, by go_num, H5, Lib.hid fun i hi => ?_⟩
                    by_cases e : i = j
                    · rw [e, HPM.out, HPL.out]
                    · exact HJ.out i (by omega)
                | false =>
                  have hpe : pm ≠ pl := by simpa [eqPk] using hbe
                  have HAT : Hid (L[j]? = some q) := Lib.hid ((HLA.out j (by omega) HJ.out (.inr (by rw [HPM.out, HPL.out]; exact fun e => hpe (Option.some.inj e)))).trans HQX.out)
                  clear hpe
                  obtain ⟨va, hAe, hva, hvc, hld⟩ := H5.out.rowAt 1 2 rfl rfl rfl HAT.out
                  cases hAe
                  have HLD := Lib.hid hld
                  have HLK := Lib.hid (H5.out.mapLook 2 rfl HI.out.1 HK.out)
                  have HME := Lib.hid (H5.out.mapEnt 2 rfl HK.out)
                  rw [HCN.out] at HLK
                  clear hld
                  go_upto_region 38 with fail
                  refine wp_region_piecesR (mR mb) 9 [(true, [0, 1, 2, 3, 4, 5, 6]), (false, [7]), (true, [8])] (by kernel_rfl) (by kernel_rfl) ?_
                  simp only [pick, List.map_cons, List.map_nil, List.flatMap_cons, List.flatMap_nil, Option.toList_some, List.singleton_append, List.drop_succ_cons, List.drop_zero, List.getElem?_cons_zero, List.getElem?_cons_succ]
                  refine ⟨by kernel_rfl, ?_⟩; apply Exists.intro; refine ⟨fun ψ hψ hne => ?_, ?_⟩
                  · iterate 4 (go_big_quiet_step ((fail)))
                    go_big_quiet_want; refine quiet_ld 25 (.tmp 179) rfl (fun w' hw' => by obtain ⟨e, rfl⟩ := hw'; exact HLD.out _ e.ok) ?_; go_simp; go_big_quiet_on
                    go_big_quiet_want; refine quiet_lk 83 (.tmp 176) (.tmp 180) false rfl (fun w' hw' => by obtain ⟨e, rfl⟩ := hw'; exact HLK.out _ e.ok) ?_; go_simp; go_big_quiet_on
                    repeat (go_big_quiet_step ((fail)))
                    exact wpQuiet_nil rfl
                  clear HLD HLK
                  intro wm hm K hK
                  obtain ⟨v0, st, w5, hme, hr5, hst⟩ := HME.out wm ((mR mb).ext (hm))
                  have HM5 := Lib.hid hme
                  clear hme HME
                  go_wp2_with (refine wpList_me rfl 83 (.tmp 176) (.tmp 180) rfl HM5.out ?_; simp only [Act.put])
                  refine hK _ _ hr5 ?_
                  clear hK K HM5 hr5
                  (try simp only [List.setIfInBounds_toArray, List.set_cons_zero, List.set_cons_succ])
                  refine ⟨by kernel_rfl, ?_⟩; apply Exists.intro; refine ⟨fun ψ hψ hne => (by (repeat (go_big_quiet_step (( fail )))); exact wpQuiet_nil rfl), ?_⟩
                  intro w6 h6
                  obtain ⟨w7, F7, hes, h7, hd7⟩ := hst w6 (.int .i64 ((cn : Int) - 1)) h6
                  have HES := Lib.hid hes
                  have HD7 := Lib.hid hd7
                  have H7 := Lib.hid h7
                  clear hes h7 hd7 hst h6 hm
                  go_upto_region 39 with (refine wpList_es rfl 83 (.tmp 176) (.tmp 184) (.tmp 182) rfl HES.out ?_; simp only [Act.put])
                  clear HES
                  have H8 : Hid (OSt w [mapOb mb F7, netO g M] w7) := Lib.hid ((H7.out.dropI 0).dropI 0)
                  have HI8 := Lib.hid (HI2.out F7 HD7.out)
                  clear H7 HD7 H5
                  go_wp2_with fail
                  go_roundg (l.length - (k + 1))
                  case measure => omega
                  case rel => exact ⟨k + 1, M, F7, by omega, by omega, by congr 1; omega, by go_num, H8, HI8⟩
              · have hjL : (j : Int) < (L.length : Int) := by omega
                have HAT : Hid (L[j]? = some q) := Lib.hid ((HLA.out j (by omega) HJ.out (.inl (by omega))).trans HQX.out)
                go_upto_region 36 with fail
                refine wp_region_pieces 14  [(true, [0, 1, 2, 3, 4, 5, 6, 7, 8, 9, 10, 11, 12, 13])] (by kernel_rfl) (by kernel_rfl) ?_; simp only [pick, List.map_cons, List.map_nil, List.flatMap_cons, List.flatMap_nil, Option.toList_some, List.singleton_append, List.drop_succ_cons, List.drop_zero, List.getElem?_cons_zero, List.getElem?_cons_succ]
                refine ⟨by kernel_rfl, ?_⟩; apply Exists.intro; refine ⟨fun ψ hψ hne => (by (repeat (go_big_quiet_step (( fail )))); exact wpQuiet_nil rfl), ?_⟩
                intro w5 h5
                have H5 := Lib.hid (H4.out.ext h5)
                clear h5 H4
                obtain ⟨va, hAe, hva, hvc, hld⟩ := H5.out.rowAt 1 2 rfl rfl rfl HAT.out
                cases hAe
                have HLD := Lib.hid hld
                have HLK := Lib.hid (H5.out.mapLook 2 rfl HI.out.1 HK.out)
                have HME := Lib.hid (H5.out.mapEnt 2 rfl HK.out)
                rw [HCN.out] at HLK
                clear hld
                go_upto_region 38 with fail
                refine wp_region_piecesR (mR mb) 9 [(true, [0, 1, 2, 3, 4, 5, 6]), (false, [7]), (true, [8])] (by kernel_rfl) (by kernel_rfl) ?_
                simp only [pick, List.map_cons, List.map_nil, List.flatMap_cons, List.flatMap_nil, Option.toList_some, List.singleton_append, List.drop_succ_cons, List.drop_zero, List.getElem?_cons_zero, List.getElem?_cons_succ]
                refine ⟨by kernel_rfl, ?_⟩; apply Exists.intro; refine ⟨fun ψ hψ hne => ?_, ?_⟩
                · iterate 4 (go_big_quiet_step ((fail)))
                  go_big_quiet_want; refine quiet_ld 25 (.tmp 179) rfl (fun w' hw' => by obtain ⟨e, rfl⟩ := hw'; exact HLD.out _ e.ok) ?_; go_simp; go_big_quiet_on
                  go_big_quiet_want; refine quiet_lk 83 (.tmp 176) (.tmp 180) false rfl (fun w' hw' => by obtain ⟨e, rfl⟩ := hw'; exact HLK.out _ e.ok) ?_; go_simp; go_big_quiet_on
                  repeat (go_big_quiet_step ((fail)))
                  exact wpQuiet_nil rfl
                clear HLD HLK
                intro wm hm K hK
                obtain ⟨v0, st, w5, hme, hr5, hst⟩ := HME.out wm ((mR mb).ext (hm))
                have HM5 := Lib.hid hme
                clear hme HME
                go_wp2_with (refine wpList_me rfl 83 (.tmp 176) (.tmp 180) rfl HM5.out ?_; simp only [Act.put])
                refine hK _ _ hr5 ?_
                clear hK K HM5 hr5
                (try simp only [List.setIfInBounds_toArray, List.set_cons_zero, List.set_cons_succ])
                refine ⟨by kernel_rfl, ?_⟩; apply Exists.intro; refine ⟨fun ψ hψ hne => (by (repeat (go_big_quiet_step (( fail )))); exact wpQuiet_nil rfl), ?_⟩
                intro w6 h6
                obtain ⟨w7, F7, hes, h7, hd7⟩ := hst w6 (.int .i64 ((cn : Int) - 1)) h6
                have HES := Lib.hid hes
                have HD7 := Lib.hid hd7
                have H7 := Lib.hid h7
                clear hes h7 hd7 hst h6 hm
                go_upto_region 39 with (refine wpList_es rfl 83 (.tmp 176) (.tmp 184) (.tmp 182) rfl HES.out ?_; simp only [Act.put])
                clear HES
                have H8 : Hid (OSt w [mapOb mb F7, netO g M] w7) := Lib.hid ((H7.out.dropI 0).dropI 0)
                have HI8 := Lib.hid (HI2.out F7 HD7.out)
                clear H7 HD7 H5
                go_wp2_with fail
                go_roundg (l.length - (k + 1))
                case measure => omega
                case rel => exact ⟨k + 1, M, F7, by omega, by omega, by congr 1; omega, by go_num, H8, HI8⟩
        have KD := Lib.hid (nDoubleO 2 H1.out rfl a (by omega))
        have HDC := Lib.hid (dbl_cases (l := L) a (by omega))
        generalize dblN L a = R at *
        obtain ⟨er, L'⟩ := R
        simp only at KD HDC
        have z0 : (xk == 0) = false := beq_eq_false_iff_ne.2 hk0
        have z1 : (xk == 1) = false := beq_eq_false_iff_ne.2 hk1
        have z2 : (xk == 2) = false := beq_eq_false_iff_ne.2 hk2
        go_wp2_with fail
        refine KD.out.mono ?_
        rintro e w2 ⟨rfl, h2⟩
        have H2 : Hid (OSt w [ownOb 25 3 (.slice A L.length c1) L.length (pkcs L), mapOb mb F, netO g L'] w2) := Lib.hid h2
        clear h2 KD H1 x0 x1 x2 x3 x4 z0 z1 z2
        rcases HDC.out with ⟨hLe, hR⟩ | ⟨q, hq, hR⟩
        · cases hR
          subst hLe
          clear HDC
          have H8 : Hid (OSt w [mapOb mb F, netO g []] w2) := Lib.hid (H2.out.dropI 0)
          clear H2
          go_wp2_with fail
          go_roundg (l.length - (k + 1))
          case measure => omega
          case rel => exact ⟨k + 1, [], F, by omega, by omega, rfl, by go_num, H8, HI⟩
        · clear HDC
          by_cases h256 : 256 ≤ L.length
          · rw [if_pos h256] at hR
            cases hR
            have H8 : Hid (OSt w [mapOb mb F, netO g L] w2) := Lib.hid (H2.out.dropI 0)
            clear H2 hq
            go_wp2_with fail
            go_roundg (l.length - (k + 1))
            case measure => omega
            case rel => exact ⟨k + 1, L, F, by omega, by omega, rfl, by go_num, H8, HI⟩
          · rw [if_neg h256] at hR
            cases hR
            have HQ := Lib.hid (HI.out.2.2 _ (List.mem_of_getElem? hq))
            have HK := Lib.hid (pk_keyOk HQ.out)
            have HI2 := Lib.hid fun F' he => HI.out.more (F' := F') HQ.out (by omega) he
            have hMl : (L ++ [q]).length = L.length + 1 := by simp
            have HMQ : Hid ((L ++ [q])[L.length]? = some q) := Lib.hid (by rw [List.getElem?_append_right (Nat.le_refl _)]; simp)
            have hcp : 1 ≤ L.count q := List.count_pos_iff.2 (List.mem_of_getElem? hq)
            have hcb : L.count q ≤ 256 := Nat.le_trans List.count_le_length hL'
            generalize L ++ [q] = M at *
            obtain ⟨cn, hcn⟩ : ∃ cn : Nat, L.count q = cn := ⟨_, rfl⟩
            have HCN := Lib.hid hcn
            rw [hcn] at hcb HI2 hcp
            have hcp' : (1 : Int) ≤ (cn : Int) := by omega
            have z9 : ((M.length : Int) == (L.length : Int) + 1) = true := beq_iff_eq.2 (by omega)
            have hLM : (L.length : Int) < (M.length : Int) := by omega
            clear hcn hq
            go_wp2_with fail
            refine (nRowO 2 H2.out rfl (by omega)).mono ?_
            rintro e w3 ⟨v3, rfl, h3, -⟩
            obtain ⟨A3, c3, rfl⟩ := (h3.own 0 rfl).form
            have H3 : Hid (OSt w [ownOb 25 3 (.slice A3 M.length c3) M.length (pkcs M), ownOb 25 3 (.slice A L.length c1) L.length (pkcs L), mapOb mb F, netO g M] w3) := Lib.hid h3
            clear h3 H2
            obtain ⟨va, rfl, hva, hvc, hld⟩ := H3.out.rowAt 0 2 rfl rfl rfl HMQ.out
            have HLD := Lib.hid hld
            have HLK := Lib.hid (H3.out.mapLook 2 rfl HI.out.1 HK.out)
            have HME := Lib.hid (H3.out.mapEnt 2 rfl HK.out)
            rw [HCN.out] at HLK
            have HL0 := Lib.hid (HLD.out w3 ((mR mb).refl _))
            have HK0 := Lib.hid (HLK.out w3 ((mR mb).refl _))
            clear hld
            go_upto_region 17 with (first
              | (refine wpList_ldgM 25 (.tmp 65) rfl (by rfl) HL0.out ?_; simp only [Act.put])
              | (refine wpList_lkN 83 (.tmp 62) (.tmp 66) false rfl (by rfl) HK0.out ?_; simp only [Act.put]))
            clear HL0 HK0 z9
            refine wp_region_piecesR (mR mb) 9 [(true, [0, 1, 2, 3, 4, 5, 6]), (false, [7]), (true, [8])] (by kernel_rfl) (by kernel_rfl) ?_
            simp only [pick, List.map_cons, List.map_nil, List.flatMap_cons, List.flatMap_nil, Option.toList_some, List.singleton_append, List.drop_succ_cons, List.drop_zero, List.getElem?_cons_zero, List.getElem?_cons_succ]
            refine ⟨by kernel_rfl, ?_⟩; apply Exists.intro; refine ⟨fun ψ hψ hne => ?_, ?_⟩
            · iterate 4 (go_big_quiet_step ((fail)))
              go_big_quiet_want; refine quiet_ld 25 (.tmp 73) rfl (fun w' hw' => by obtain ⟨e, rfl⟩ := hw'; exact HLD.out _ e.ok) ?_; go_simp; go_big_quiet_on
              go_big_quiet_want; refine quiet_lk 83 (.tmp 70) (.tmp 74) false rfl (fun w' hw' => by obtain ⟨e, rfl⟩ := hw'; exact HLK.out _ e.ok) ?_; go_simp; go_big_quiet_on
              repeat (go_big_quiet_step ((fail)))
              exact wpQuiet_nil rfl
            clear HLD HLK
            intro wm hm K hK
            obtain ⟨v0, st, w5, hme, hr5, hst⟩ := HME.out wm ((mR mb).ext (hm))
            have HM5 := Lib.hid hme
            clear hme HME
            go_wp2_with (refine wpList_me rfl 83 (.tmp 70) (.tmp 74) rfl HM5.out ?_; simp only [Act.put])
            refine hK _ _ hr5 ?_
            clear hK K HM5 hr5
            (try simp only [List.setIfInBounds_toArray, List.set_cons_zero, List.set_cons_succ])
            refine ⟨by kernel_rfl, ?_⟩; apply Exists.intro; refine ⟨fun ψ hψ hne => (by (repeat (go_big_quiet_step (( fail )))); exact wpQuiet_nil rfl), ?_⟩
            intro w6 h6
            obtain ⟨w7, F7, hes, h7, hd7⟩ := hst w6 (.int .i64 ((cn : Int) + 1)) h6
            have HES := Lib.hid hes
            have HD7 := Lib.hid hd7
            have H7 := Lib.hid h7
            clear hes h7 hd7 hst h6 hm
            go_upto_region 18 with (refine wpList_es rfl 83 (.tmp 70) (.tmp 78) (.tmp 76) rfl HES.out ?_; simp only [Act.put])
            clear HES
            have H8 : Hid (OSt w [mapOb mb F7, netO g M] w7) := Lib.hid ((H7.out.dropI 0).dropI 0)
            have HI8 := Lib.hid (HI2.out F7 HD7.out)
            clear H7 HD7 H3 HI2
            go_wp2_with fail
            go_roundg (l.length - (k + 1))
            case measure => omega
            case rel => exact ⟨k + 1, M, F7, by omega, by omega, by congr 1; omega, by go_num, H8, HI8⟩
      · obtain rfl : k = l.length := by omega
        go_wp2_with fail
        refine (nRowO 1 H.out rfl (by omega)).mono ?_
        rintro e w1 ⟨v, rfl, h1, -⟩
        obtain ⟨A, c1, rfl⟩ := (h1.own 0 rfl).form
        have H1 : Hid (OSt w [ownOb 25 3 (.slice A L.length c1) L.length (pkcs L), mapOb mb F, netO g L] w1) := Lib.hid h1
        clear h1 H
        go_wp2_with fail
        go_loopg [14] L.length (fun gg s wr => ∃ (j : Nat) (F : Pk → Option Value), j ≤ L.length ∧ L.length - j ≤ gg ∧ s = .int .i64 j ∧ Hid (OSt w [ownOb 25 3 (.slice A L.length c1) L.length (pkcs L), mapOb mb F, netO g L] wr) ∧ Hid (cntF F (L.drop j)))
        case atStart => exact ⟨0, F, Nat.zero_le _, by omega, rfl, H1, Lib.hid (by rw [List.drop_zero]; exact HI.out.1)⟩
        case round =>
          clear H1
          obtain ⟨j, F1, hj, hgj, rfl, H4, HF⟩ := hrel
          by_cases hjl : j < L.length
          · obtain ⟨q, hq⟩ : ∃ q, L[j]? = some q := ⟨_, List.getElem?_eq_getElem hjl⟩
            have HK := Lib.hid (pk_keyOk (HI.out.2.2 _ (List.mem_of_getElem? hq)))
            have HCD := Lib.hid (cnt_drop hq)
            have hcp := cntF_pos HCD.out
            have hcb : (L.drop j).count q ≤ 256 := Nat.le_trans List.count_le_length (by rw [List.length_drop]; omega)
            obtain ⟨va, rfl, hva, hvc, hld⟩ := H4.out.rowAt 0 1 rfl rfl rfl hq
            have HLD := Lib.hid hld
            have HLK := Lib.hid (H4.out.mapLook 1 rfl HF.out HK.out)
            have HME := Lib.hid (H4.out.mapEnt 1 rfl HK.out)
            have HI2 := Lib.hid fun F' he => cntF_of (F := F') (cntF_less HCD.out HF.out) he
            obtain ⟨cn, hcn⟩ : ∃ cn : Nat, (L.drop j).count q = cn := ⟨_, rfl⟩
            rw [hcn] at hcb hcp HLK HI2
            have hcp' : (1 : Int) ≤ (cn : Int) := by omega
            have HQX := Lib.hid hq
            clear hcn hq hld HCD
            go_upto_region 44 with fail
            refine wp_region_piecesR (mR mb) 9 [(true, [0, 1, 2, 3, 4, 5, 6]), (false, [7]), (true, [8])] (by kernel_rfl) (by kernel_rfl) ?_
            simp only [pick, List.map_cons, List.map_nil, List.flatMap_cons, List.flatMap_nil, Option.toList_some, List.singleton_append, List.drop_succ_cons, List.drop_zero, List.getElem?_cons_zero, List.getElem?_cons_succ]
            refine ⟨by kernel_rfl, ?_⟩; apply Exists.intro; refine ⟨fun ψ hψ hne => ?_, ?_⟩
            · iterate 4 (go_big_quiet_step ((fail)))
              go_big_quiet_want; refine quiet_ld 25 (.tmp 198) rfl (fun w' hw' => by obtain ⟨e, rfl⟩ := hw'; exact HLD.out _ e.ok) ?_; go_simp; go_big_quiet_on
              go_big_quiet_want; refine quiet_lk 83 (.tmp 195) (.tmp 199) false rfl (fun w' hw' => by obtain ⟨e, rfl⟩ := hw'; exact HLK.out _ e.ok) ?_; go_simp; go_big_quiet_on
              repeat (go_big_quiet_step ((fail)))
              exact wpQuiet_nil rfl
            clear HLD HLK
            intro wm hm K hK
            obtain ⟨v0, st, w5, hme, hr5, hst⟩ := HME.out wm ((mR mb).ext (hm))
            have HM5 := Lib.hid hme
            clear hme HME
            go_wp2_with (refine wpList_me rfl 83 (.tmp 195) (.tmp 199) rfl HM5.out ?_; simp only [Act.put])
            refine hK _ _ hr5 ?_
            clear hK K HM5 hr5
            (try simp only [List.setIfInBounds_toArray, List.set_cons_zero, List.set_cons_succ])
            refine ⟨by kernel_rfl, ?_⟩; apply Exists.intro; refine ⟨fun ψ hψ hne => (by (repeat (go_big_quiet_step (( fail )))); exact wpQuiet_nil rfl), ?_⟩
            intro w6 h6
            obtain ⟨w7, F7, hes, h7, hd7⟩ := hst w6 (.int .i64 ((cn : Int) - 1)) h6
            have HES := Lib.hid hes
            have HD7 := Lib.hid hd7
            have H7 := Lib.hid h7
            clear hes h7 hd7 hst h6 hm
            go_upto_region 45 with (refine wpList_es rfl 83 (.tmp 195) (.tmp 203) (.tmp 201) rfl HES.out ?_; simp only [Act.put])
            clear HES
            have HF7 := Lib.hid (HI2.out F7 HD7.out)
            clear HD7 HI2 H4 HF
            obtain ⟨hva7, -, hld7⟩ := H7.out.rowLd 0 1 rfl rfl rfl HQX.out
            have HL0 := Lib.hid (hld7 w7 ((mR mb).refl _))
            have HK0 := Lib.hid (H7.out.mapLook 1 rfl HF7.out HK.out w7 ((mR mb).refl _))
            obtain ⟨cm, hcm⟩ : ∃ cm : Nat, (L.drop (j + 1)).count q = cm := ⟨_, rfl⟩
            rw [hcm] at HK0
            have hcm0 : (0 : Int) ≤ (cm : Int) := by omega
            clear hcm hld7
            go_wp2_with (first
              | (refine wpList_ldgM 25 (.tmp 207) rfl (by rfl) HL0.out ?_; simp only [Act.put])
              | (refine wpList_lkN 83 (.tmp 204) (.tmp 208) false rfl (by rfl) HK0.out ?_; simp only [Act.put]))
            go_roundg (L.length - (j + 1))
            case measure => omega
            case rel => exact ⟨j + 1, F7, by omega, by omega, by go_num, H7, HF7⟩
          · go_wp2_with fail
            go_ret
            exact ⟨rfl, H4.out.bel⟩
theorem own : ownKnob Try.prog.godebug = none := by kernel_rfl
theorem laidOut : laidOutB Try.prog = true := by kernel_rfl

set_option maxRecDepth 100000 in
theorem lifted (os : Os) (started : os.Started) (H : Type) (enc : TypeId × Value → H) :
    ReturnsInHanded {} Try.checked os 8 .any (Rows.netNoneSpec.pre6 enc Try.prog Try.f8 Rows.netNoneRow.domain false) (Rows.netNoneSpec.post enc Try.prog Try.f8 false true false false) := by
  refine returnsInHanded_of_change (C := Try.checked) own started (by kernel_rfl) Try.func8
    (ChangeSpec.witness6 (enc := enc) (C := Try.checked) false ⟨#[], #[.slice none 0 0], []⟩ 8 (by kernel_rfl) (by kernel_rfl) (by kernel_rfl) (by kernel_rfl)) ?_
  intro W base args ds gs before hval0 hW hcnd _
  have hval : ∀ (j : Nat) t v, Try.f8.params[j]? = some t → args[j]? = some v → Value.okWide Try.prog W .any base t v := hval0
  have hW' := hW
  obtain ⟨p, q, hA0, hV, rfl, hfz, hnd⟩ := hW
  have hA : DataW.TrodAll enc Try.prog W 0 (fun _ => true) true Try.f8.params.toList args.toList ds p := hA0
  rw [Try.params8] at hA hval
  obtain ⟨v0, vs0, d0, ds0, p0, q0, hargs, rfl, rfl, h0, r0⟩ := trodAll_cons hA
  obtain ⟨rfl, rfl, rfl⟩ := trodAll_nil r0
  obtain rfl : args = #[v0] := by cases args; simp_all
  obtain ⟨rfl, rfl⟩ := trodVars_none hV
  have k0 := h0
  have lt0 : ∀ x ∈ p0, x.block < W.heap.size := by obtain ⟨m, hm⟩ := k0; exact DataW.trod_lt m _ _ _ hm
  obtain ⟨x0, rfl, w0⟩ := open_Wnops (hval 0 _ v0 rfl rfl) h0
  refine (walk (w := W) x0 w0).mono fun e W' ⟨he, bel⟩ => ?_
  subst he
  exact ⟨_, rfl, _, _, _, [], _, [], hW', trodAll_mk1 (shut_bool Try.underlying4 _), (trodAll_cons_mk (Below.trod laidOut (by kernel_rfl) (of_decide_eq_true (by kernel_rfl)) k0 bel lt0) trodAll_mk0), rfl, bel.frame _, fun h => by cases h⟩

theorem proved : Rows.NetNoneSaid :=
  OpenClaim.holds_of_wide 8 Try.f8 rfl rfl rfl rfl rfl rfl rfl ⟨rfl, rfl, rfl, rfl, rfl⟩ rfl rfl rfl rfl rfl (by kernel_rfl) Try.func8 (by kernel_rfl)
    (of_decide_eq_true (by kernel_rfl)) (by unfold Func.isWrapper; first | (rw [if_pos (by decide +kernel)]; kernel_rfl) | (rw [if_neg (by decide +kernel)]; exact ⟨rfl, rfl⟩))
    (fun os started H enc _ => lifted os started H enc)
end Go.Proofs.Yteahlnoonmfjhaa.netNone
