/- Walks of the document's disk: Flush. -/
import Derived.Test.YtobcfocbglkicaaRfE
set_option linter.unusedVariables false
set_option maxRecDepth 100000
namespace Go.Proofs.Ytobcfocbglkicaa
open Go.RowKit

theorem fails_same (R : RF) : R.fails.1.L = R.L ∧ R.fails.1.keep = R.keep ∧ R.fails.1.dead = R.dead ∧ R.fails.1.n = R.n := by
  unfold RF.fails
  split <;> exact ⟨rfl, rfl, rfl, rfl⟩
def onAll (l : List RW) : List RW := l.map fun p => (p.1, p.2.1, true)
theorem onAll_snoc (l : List RW) (p : RW) : onAll (l ++ [p]) = onAll l ++ [(p.1, p.2.1, true)] := by simp [onAll]
theorem onAll_length (l : List RW) : (onAll l).length = l.length := by simp [onAll]
theorem onAll_512 {l : List RW} (h : ∀ p ∈ l, p.2.1.length = 512) : ∀ p ∈ onAll l, p.2.1.length = 512 := by
  intro p hp
  obtain ⟨q, hq, rfl⟩ := List.mem_map.1 hp
  exact h q hq
set_option maxHeartbeats 8000000 in
theorem rFlush_any {S : Nat → Prop} {g : Nat} {R : RF} (w : World) (h : RfAt w S g R) (hc : 0 ≤ R.cut ∧ R.cut ≤ 9223372036854775807) (hkl : R.keep.length ≤ 1000000) (hl : R.L.length ≤ 100000) :
    Calls Try.prog 41 #[.pointer (some ⟨g, 0, none⟩)] w fun e w' => e = .returned (.int .i64 R.flush.2) ∧ RfTo S w w' g R.flush.1 := by
  have F0 := RfTo.refl h
  have KF := Lib.hid (fails_any w h hc)
  obtain ⟨sL, sK, sD, -⟩ := fails_same R
  obtain ⟨sv, kv, h⟩ := h
  obtain ⟨-, -, -, -, c4, fz, hlt⟩ := blk5 h.hg
  clear h
  cases hd : R.dead with
  | true =>
    rw [hd] at c4
    rw [show R.flush = (R, 51) by unfold RF.flush; rw [if_pos hd]]
    have F := Lib.hid F0
    clear F0 KF sL sK sD hd
    go_enter Try.func41, Try.ntmps41
    go_wp2
    go_ret
    exact ⟨rfl, F.out⟩
  | false =>
    rw [hd] at c4
    have e : R.flush = if R.fails.2 then ((R.fails.1.Fail R.fails.1.keep).1, 51) else ({ R.fails.1 with L := onAll R.fails.1.L }, 0) := by unfold RF.flush; rw [if_neg (by simp [hd])]; rfl
    rw [e]
    rw [← sL] at hl
    rw [← sK] at hkl
    clear e sL sK sD hd F0 hc
    generalize R.fails = Q at *
    obtain ⟨R1, fb⟩ := Q
    simp only at hl hkl KF ⊢
    go_enter Try.func41, Try.ntmps41
    go_wp2_with fail
    refine KF.out.mono ?_
    rintro e w1 ⟨rfl, h1⟩
    clear c4 fz hlt KF
    obtain ⟨sv, kv, q⟩ := h1.1
    cases fb with
    | true =>
      have KX := Lib.hid (rFail_any R1.keep w1 h1.1 q.kp.rb hkl hl)
      obtain ⟨kA, kc, rfl⟩ := q.kp.form
      obtain ⟨-, -, -, c3, -, fz, hlt⟩ := blk5 q.hg
      have H1 := Lib.hid h1
      clear h1 q
      go_wp2_with fail
      refine KX.out.mono ?_
      rintro e w2 ⟨rfl, h2⟩
      have F := Lib.hid (H1.out.trans h2)
      clear h2 KX c3 fz hlt
      go_wp2_with fail
      go_ret
      exact ⟨rfl, F.out⟩
    | false =>
      obtain ⟨n, L, cut, kp, dead⟩ := R1
      simp only at hl hkl
      have hok : ∀ p ∈ L, p.2.1.length = 512 := q.ok
      obtain ⟨A, c, rfl⟩ := q.l.form
      have H := Lib.hid q
      have H1 := Lib.hid h1
      clear q h1
      simp only at H
      go_wp2_with fail
      go_loopw [3, 4] (fun l i wr => ∃ j : Nat, j ≤ L.length ∧ i = .int .i64 j ∧ ∃ M : List RW, Hid (M = onAll (L.take j)) ∧ Hid (OwnR wr w1.heap.size 118 514 One l M.length (rwcs M)) ∧ Hid (Ext w1 wr)) (fun _ i _ => L.length - (intOf i).toNat)
      case atStart => exact ⟨0, Nat.zero_le _, rfl, [], Lib.hid rfl, Lib.hid OwnR.nil, Lib.hid (Ext.refl _)⟩
      case round =>
        obtain ⟨j, hj, rfl, M, HM, HO, HX⟩ := hrel
        have h2 := H.out.ext HX.out
        obtain ⟨mA, mc, rfl⟩ := HO.out.form
        by_cases hjl : j < L.length
        · obtain ⟨-, c1, -, -, -, fz, hlt⟩ := blk5 h2.hg
          obtain ⟨p, hp⟩ : ∃ p, L[j]? = some p := ⟨_, List.getElem?_eq_getElem hjl⟩
          have ht : Hid (onAll (L.take (j + 1)) = M ++ [(p.1, p.2.1, true)]) := Lib.hid (by
            rw [HM.out, List.take_add_one, hp]
            exact onAll_snoc _ p)
          have hML : M.length ≤ j := by
            rw [HM.out, onAll_length, List.length_take]
            omega
          obtain ⟨gl, hA, d0, d1, dl, gll, hcc⟩ := rw_cells h2.l hok hp
          subst hA
          clear HM d1
          go_wp2_with fail
          have hlW := HO.out
          have p512 := hok p (List.mem_of_getElem? hp)
          have hgw : g < w1.heap.size := (Array.getElem?_eq_some_iff.1 H.out.hg).1
          have hglw : gl < w1.heap.size := own_lt H.out.l (by simp [Value.ownBlock])
          obtain ⟨So, HSo⟩ : ∃ So : Nat → Prop, Hid (So = fun i => (Value.slice mA M.length mc).ownBlock = some i) := ⟨_, Lib.hid rfl⟩
          have hsz := HX.out.size
          have ng : ¬ So g := by rw [HSo.out]; exact fun h => by have := (own_gt hlW h).1; omega
          have ngl : ¬ So gl := by rw [HSo.out]; exact fun h => by have := (own_gt hlW h).1; omega
          have e0 : ∀ (ψ : World → Prop) (e : ExtS So wr ψ), e.val.cell? ⟨g, 1, none⟩ = some (.slice (some ⟨gl, 0, none⟩) L.length c) := fun ψ e => e.cell c1 hlt ng
          have e1 : ∀ (ψ : World → Prop) (e : ExtS So wr ψ), e.val.cell? ⟨gl, j * 514, none⟩ = some (.int .i64 p.1) := fun ψ e => e.cell d0 gll ngl
          have LB : Hid (∀ w', Mut So wr w' → (Instr.loadAt 25 (.pointer (some ⟨gl, j * 514 + 1, none⟩))).run Try.prog w' = .ok (bval p.2.1) w') := Lib.hid fun w' hw' => by
            have hm : OwnR w' 0 118 514 One (.slice (some ⟨gl, 0, none⟩) L.length c) L.length (rwcs L) := h2.l.mutO hw' fun b hb => by
              obtain rfl : gl = b := by simpa [Value.ownBlock] using hb
              exact ngl
            obtain ⟨g9, hA, -, -, dl9, -, -⟩ := rw_cells hm hok hp
            cases hA
            exact dl9
          have BW := Lib.hid fun w' => build_rw3 p.1 p512 true w'
          clear dl ng ngl hlW fz c1 d0
          refine wp_region_piecesS So 20 [(true, [0, 1, 2, 3, 4, 5, 6, 7, 8, 9, 10, 11, 12, 13, 14, 15, 16, 17]), (false, [18]), (false, [19])] (by kernel_rfl) (by kernel_rfl) ?_; simp only [pick, List.map_cons, List.map_nil, List.flatMap_cons, List.flatMap_nil, Option.toList_some, List.singleton_append, List.drop_succ_cons, List.drop_zero, List.getElem?_cons_zero, List.getElem?_cons_succ]
          refine ⟨by kernel_rfl, ?_⟩; apply Exists.intro; refine ⟨fun ψ hψ hne => ?_, ?_⟩
          · iterate 16 (go_big_quiet_step (fail))
            go_big_quiet_want; refine quiet_ld 25 _ rfl (fun w' hw' => LB.out w' (exts_in hw')) ?_; go_simp; go_big_quiet_on
            go_big_quiet_want; refine quiet_bw3 118 _ _ _ rfl (fun w' _ => BW.out w') ?_; go_simp; go_big_quiet_on
            exact wpQuiet_nil rfl
          clear e0 e1 LB BW
          intro wa ha K hK
          have BS := heap_alloc_last wa (.cells (rwC (p.1, p.2.1, true)).toArray 118)
          go_wp2_with (refine wpList_bsR (p := (p.1, p.2.1, true)) rfl rfl rfl p512 ?_; simp only [Act.put])
          refine hK _ _ (Mut.of_ext (extAl wa _)) ?_
          have Ha := Lib.hid (Ext.trans ha (extAl wa (.cells (rwC (p.1, p.2.1, true)).toArray 118)))
          generalize wa.alloc (.cells (rwC (p.1, p.2.1, true)).toArray 118) = wA at *
          generalize wa.heap.size = g9 at *
          clear hK K ha
          intro wb hxb K hK
          have hXb : Ext wr wb := Ext.trans Ha.out hxb
          obtain ⟨v', wc, hr, ho, hbl, hgr, hs⟩ := app_rw (ty := 114) (HO.out.ext hXb) (src_rw (Ext.blk hxb BS) p512) (Nat.le_trans hsz hXb.size) (rwC_one _) (by omega)
          have Hr := Lib.hid hr
          have HMc : Hid (Mut So wb wc) := Lib.hid (Mut.of_grown hgr fun b hb => by rw [HSo.out]; exact hb)
          have HWc : Hid (Ext w1 wc) := Lib.hid (Below.trans (Ext.trans HX.out hXb) hbl)
          have HOc := Lib.hid ho
          obtain ⟨A', c', rfl⟩ := ho.form
          clear ho hbl hgr hs hr hXb hxb BS Ha
          go_wp2_with (at_builtin; refine wpList_app rfl (.tmp 26) (.tmp 44) 114 114 rfl Hr.out ?_; simp only [Act.put])
          refine hK _ _ HMc.out ?_
          clear hK K Hr HMc HSo
          intro wd hxd
          have HWd := Lib.hid (Ext.trans HWc.out hxd)
          have HOd := Lib.hid (HOc.out.ext hxd)
          clear HWc HOc hxd
          go_wp2_with fail
          go_roundw
          case rel => exact ⟨j + 1, by omega, by simp, _, Lib.hid ht.out.symm, Lib.hid (by rw [List.length_append, List.length_singleton, rwcs_app, rwcs_single]; exact HOd.out), HWd⟩
          case measure => simp [intOf]; omega
        · obtain rfl : j = L.length := by omega
          rw [List.take_length] at HM
          obtain ⟨c0, c1, c2, c3, c4, fz, hlt⟩ := blk5 h2.hg
          have hst := set5_1 (.slice mA M.length mc) h2.hg
          simp only at hst
          have F := H.out.take (R' := ⟨n, M, cut, kp, dead⟩) HX.out (.slice mA M.length mc) kv rfl (HO.out.mono (Nat.zero_le _)) h2.kp (fun b hb => .inr (own_gt HO.out hb)) (fun b hb => .inl (H.out.sk b hb)) (by rw [HM.out]; exact onAll_512 hok)
          simp only at F
          rw [← hst] at F
          have FF := Lib.hid (H1.out.trans F)
          clear F hst h2
          go_wp2_with fail
          go_ret
          refine ⟨rfl, ?_⟩
          rw [← HM.out]
          exact FF.out

end Go.Proofs.Ytobcfocbglkicaa
