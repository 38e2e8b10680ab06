/- Walks of the document's disk: Fail, Flush. -/
import Derived.Test.YtobcfocbglkicaaRfD
import Derived.Test.YtobcfocbglkicaaCalmD
set_option linter.unusedVariables false
set_option maxRecDepth 100000
namespace Go.Proofs.Ytobcfocbglkicaa
open Go.RowKit

/-- Append to a row of no cells: nothing that was there changes. -/
theorem appE {P : Program} {w : World} {B sz : Nat} {C : Value → Prop} {x : Value} {g m : Nat} {new : List Value} {t tx ty e : TypeId} {i : TypeInfo} {z : Value} (ht : P.underlying t = some (.slice e)) (hi : P.info? e = some i) (h1 : i.size = sz) (hz : i.zero = some z) (hzz : z.cells.size = sz)
    (hg : w.heap[g]? = some (.cells #[] e (0, 0))) (hs : Src P sz tx x m new w) (hBg : B ≤ g) (hsz : 0 < sz) (hCn : ∀ u ∈ new, C u) (hCz : ∀ u ∈ z.cells, C u) (hc : m * i.bytes ≤ 140737488355328) (hm : m ≤ 140737488355328) :
    ∃ v' w', (Builtin.append_ #[t, tx] ty #[.slice (some ⟨g, 0, none⟩) 0 0, x]).run P w = .ok v' w' ∧ OwnR w' B e sz C v' m new ∧ Ext w w' := by
  have hnl := hs.newsLen
  have hgl := (Array.getElem?_eq_some_iff.1 hg).1
  by_cases h00 : m = 0
  · subst h00
    have hnew : new = [] := List.length_eq_zero_iff.1 (by simpa using hnl)
    subst hnew
    refine ⟨.slice (some ⟨g, 0, none⟩) 0 0, w, ?_, ⟨by simp, .inr ⟨g, 0, [], rfl, hBg, hg, by simp, by simp⟩⟩, Ext.refl _⟩
    have hcells : (Builtin.firstCells sz 0 x).run P w = .ok #[] w := hs.cells
    rcases hs.kind with ⟨e', hk⟩ | hk <;> simp [Builtin.append_, run_underlying ht, run_underlying hk, sizeOf, typeInfo, hi, h1, hs.len, hcells, storeCells]
  · have hs' := hs
    rw [← h1] at hs'
    have hr := run_append_grow_src (P := P) w t tx ty e i z ht hi hz (some ⟨g, 0, none⟩) 0 0 [] (by rw [h1]; exact run_firstCells_some (P := P) w.drew sz 0 ⟨g, 0, none⟩ 0 0 [] (by simp) fun j u hu => by simp at hu) x m new hs' (by omega) (by omega) (growslice_fits (by omega) (by simpa using hc))
    simp only [List.nil_append, Nat.zero_add] at hr
    have hge := grownCap_ge w m 0 e
    have hzl : (Builtin.zeroCells z.cells (grownCap w m 0 e - m)).toList.length = (grownCap w m 0 e - m) * sz := by simp [Builtin.zeroCells, hzz]
    have hE : Ext w (w.drew.alloc (.cells (new.toArray ++ Builtin.zeroCells z.cells (grownCap w m 0 e - m)) e)) := (Below.refl _ w).drew.alloc (Nat.le_refl _) _
    refine ⟨_, _, hr, ⟨hnl, .inr ⟨w.heap.size, grownCap w m 0 e, (Builtin.zeroCells z.cells (grownCap w m 0 e - m)).toList, rfl, by omega, ?_, ?_⟩⟩, hE⟩
    · have hrow : new.toArray ++ Builtin.zeroCells z.cells (grownCap w m 0 e - m) = (new ++ (Builtin.zeroCells z.cells (grownCap w m 0 e - m)).toList).toArray := by
        apply Array.ext'; simp
      rw [hrow]
      exact heap_alloc_new w.drew _
    · refine ⟨by rw [hnl, hzl, ← Nat.add_mul]; congr 1; omega, fun u hu => ?_⟩
      rcases List.mem_append.1 hu with hu | hu
      · exact hCn u hu
      · simp only [Builtin.zeroCells, Array.mem_toList_iff, Array.mem_map, Array.mem_range] at hu
        obtain ⟨j, _, rfl⟩ := hu
        have hj : j % z.cells.size < z.cells.size := Nat.mod_lt _ (by omega)
        rw [getElem!_pos z.cells _ hj]
        exact hCz _ (Array.getElem_mem hj)
theorem app_rwE {w : World} {B g : Nat} {x : Value} {m : Nat} {new : List Value} {tx ty : TypeId} (hg : w.heap[g]? = some (.cells #[] 118 (0, 0))) (hs : Src Try.prog 514 tx x m new w) (hB : B ≤ g) (hn : ∀ u ∈ new, One u) (hc : m ≤ 100000000) :
    ∃ v' w', (Builtin.append_ #[114, tx] ty #[.slice (some ⟨g, 0, none⟩) 0 0, x]).run Try.prog w = .ok v' w' ∧ OwnR w' B 118 514 One v' m new ∧ Ext w w' := by
  have h1 : (rwC (0, zB, false)).length = 514 := rwC_length zB_length
  have h2 := rwC_one (0, zB, false)
  obtain ⟨i, hi, hz0, hz1, hz2⟩ := rw_prt
  generalize rwC (0, zB, false) = Z at *
  refine appE (ty := ty) Try.underlying114 hi hz1 hz0 ?_ hg hs hB (by omega) hn (fun u hu => ?_) (by rw [hz2]; omega) (by omega)
  · show Z.toArray.size = 514
    simpa using h1
  · have hu' : u ∈ Z.toArray := hu
    exact h2 u (by simpa using hu')
theorem quiet_bw3 {P : Program} {o : Oper} {a : Act} {C : World → Prop} {K : Act → Prop} (ty : TypeId) (x y z : Operand) (ho : o.op = .build ty #[(0, x), (1, y), (2, z)]) {v : Value} (hr : ∀ w, C w → (Instr.build ty #[(0, a.eval x), (1, a.eval y), (2, a.eval z)]).run P w = .ok v w)
    (hk : K (a.put o.dst v)) : o.quiet P a C K :=
  ⟨v, fun w hw => by
    have h := hr w hw
    have e : (#[(0, x), (1, y), (2, z)] : Array (Nat × Operand)).map (fun z => (z.1, a.eval z.2)) = #[(0, a.eval x), (1, a.eval y), (2, a.eval z)] := by simp
    unfold Oper.quietAt execOp
    simp only [ho, Sem.run_bind]
    rw [e, h]
    simp only [Result.andThen_ok, Sem.run_pure]
    exact ⟨rfl, rfl⟩, hk⟩
theorem exec_bs {P : Program} {o : Oper} {ev : Operand → Value} (t : TypeId) (x : Operand) (ho : o.op = .buildSlice t 1 #[(0, x)]) {v : Value} {w w' : World} (hr : (Instr.buildSlice t 1 #[(0, ev x)]).run P w = .ok v w') : (execOp ev o).run P w = .ok (.value v) w' := by
  have e : (#[(0, x)] : Array (Nat × Operand)).map (fun z => (z.1, ev z.2)) = #[(0, ev x)] := by simp
  unfold execOp
  simp only [ho, Sem.run_bind]
  rw [e, hr]
  simp only [Result.andThen_ok, Sem.run_pure]
/-- A row of one write, built. -/
theorem wpList_bsR {ops : Array Oper} {rest : List Oper} {o : Oper} {a : Act} {w : World} {Q : Exit → Act → World → Prop} {p : RW} {x : Operand} (hg : o.guard = none) (ho : o.op = .buildSlice 114 1 #[(0, x)]) (hx : a.eval x = .agg (rwC p).toArray) (hp : p.2.1.length = 512)
    (h : wpList Try.prog ops Q rest (a.put o.dst (.slice (some ⟨w.heap.size, 0, none⟩) 1 1)) (w.alloc (.cells (rwC p).toArray 118))) : wpList Try.prog ops Q (o :: rest) a w := by
  refine wpList_plain hg fun K hK => ?_
  unfold Oper.wp
  rw [exec_bs 114 x ho (by rw [hx]; exact bs_rw p hp w), Oper.upon_value]
  exact hK _ _ h
theorem src_rw {w : World} {g : Nat} {p : RW} (hg : w.heap[g]? = some (.cells (rwC p).toArray 118 (0, 0))) (hp : p.2.1.length = 512) : Src Try.prog 514 114 (.slice (some ⟨g, 0, none⟩) 1 1) 1 (rwC p) w :=
  src_row (P := Try.prog) (sz := 514) (tx := 114) (n := 1) (c := 1) Try.underlying114 hg (by rw [rwC_length hp]) (rwC_one p)

/-! Those that are kept. -/
theorem keptR_snoc (keep : List Bool) : ∀ (l : List RW) (k : Nat) (p : RW), keptR keep k (l ++ [p]) = keptR keep k l ++ (if p.2.2 then [(p.1, p.2.1, true)] else if keep.getD (k + wtN l) false then [(p.1, p.2.1, true)] else [])
  | [], k, p => by
    show keptR keep k [p] = _
    unfold keptR
    cases p.2.2 <;> simp [keptR, wtN]
  | q :: l, k, p => by
    have h1 := keptR_snoc keep l k p
    have h2 := keptR_snoc keep l (k + 1) p
    show keptR keep k (q :: (l ++ [p])) = _
    unfold keptR
    cases hq : q.2.2 with
    | true =>
      have e : wtN (q :: l) = wtN l := by simp [wtN, hq]
      simp only [if_true, h1, e, List.cons_append]
    | false =>
      have e : wtN (q :: l) = wtN l + 1 := by simp [wtN, hq]
      simp only [Bool.false_eq_true, if_false, h2, e, List.append_assoc, show k + 1 + wtN l = k + (wtN l + 1) by omega]
theorem keptR_512 (keep : List Bool) : ∀ (l : List RW) (k : Nat), (∀ p ∈ l, p.2.1.length = 512) → ∀ p ∈ keptR keep k l, p.2.1.length = 512
  | [], _, _, p, hp => by simp [keptR] at hp
  | q :: l, k, h, p, hp => by
    have hq := h q (by simp)
    have hl := fun q hq => h q (List.mem_cons_of_mem _ hq)
    unfold keptR at hp
    split at hp
    · rcases List.mem_cons.1 hp with rfl | hp
      · exact hq
      · exact keptR_512 keep l k hl p hp
    · rcases List.mem_append.1 hp with hp | hp
      · split at hp
        · rw [List.mem_singleton.1 hp]; exact hq
        · simp at hp
      · exact keptR_512 keep l (k + 1) hl p hp
theorem keptR_len (keep : List Bool) : ∀ (l : List RW) (k : Nat), (keptR keep k l).length ≤ l.length
  | [], _ => by simp [keptR]
  | q :: l, k => by
    have h1 := keptR_len keep l k
    have h2 := keptR_len keep l (k + 1)
    unfold keptR
    split
    · simp; exact h1
    · split <;> simp <;> omega

theorem getD_lt {l : List Bool} {k : Nat} (h : k < l.length) : l.getD k false = l[k] := by simp [List.getD, h]
theorem getD_ge {l : List Bool} {k : Nat} (h : ¬ k < l.length) : l.getD k false = false := by simp [List.getD, h]
theorem RBo.at {w : World} {A : Option Addr} {c : Nat} {l : List Bool} (h : RBo w (.slice A l.length c) l) {k : Nat} (hk : k < l.length) : ∃ b off, A = some ⟨b, off, none⟩ ∧ l.length ≤ c ∧ w.cell? ⟨b, off + k, none⟩ = some (.bool l[k]) := by
  rcases h with ⟨A', c', hv, h0⟩ | ⟨b, off, c', hv, _, hc', hcc⟩
  · rw [h0] at hk; simp at hk
  · simp only [Value.slice.injEq] at hv
    obtain ⟨rfl, -, rfl⟩ := hv
    exact ⟨b, off, rfl, hc', hcc k hk⟩
set_option maxHeartbeats 8000000 in
theorem rFail_any {S : Nat → Prop} {g : Nat} {R : RF} {vk : Value} (keep : List Bool) (w : World) (h : RfAt w S g R) (hk : RBo w vk keep) (hkl : keep.length ≤ 1000000) (hl : R.L.length ≤ 100000) :
    Calls Try.prog 43 #[.pointer (some ⟨g, 0, none⟩), vk] w fun e w' => e = .returned (.int .i64 (R.Fail keep).2) ∧ RfTo S w w' g (R.Fail keep).1 := by
  have F0 := RfTo.refl h
  obtain ⟨sv, kv, h⟩ := h
  obtain ⟨c0, c1, c2, c3, c4, fz, hlt⟩ := blk5 h.hg
  obtain ⟨n, L, cut, kp, dead⟩ := R
  simp only at c0 c1 c2 c3 c4 hl
  obtain ⟨kA, kc, rfl⟩ := hk.form
  cases dead with
  | true =>
    rw [show RF.Fail ⟨n, L, cut, kp, true⟩ keep = (⟨n, L, cut, kp, true⟩, 51) from rfl]
    have F := Lib.hid F0
    clear h F0 hk
    go_enter Try.func43, Try.ntmps43
    go_wp2
    go_ret
    exact ⟨rfl, F.out⟩
  | false =>
    rw [show RF.Fail ⟨n, L, cut, kp, false⟩ keep = (⟨n, keptR keep 0 L, 0, [], true⟩, 0) from rfl]
    have hok : ∀ p ∈ L, p.2.1.length = 512 := h.ok
    obtain ⟨A, c, rfl⟩ := h.l.form
    have H := Lib.hid h
    have KB := Lib.hid hk
    clear h hk F0
    simp only at c1 H
    go_enter Try.func43, Try.ntmps43
    go_wp2_with fail
    clear c0 c1 c2 c3 c4 fz hlt
    go_loopw [5, 6, 7] (fun l k i wr => ∃ j : Nat, j ≤ L.length ∧ i = .int .i64 j ∧ k = .int .i64 (wtN (L.take j)) ∧ ∃ M : List RW, Hid (M = keptR keep 0 (L.take j)) ∧ Hid (OwnR wr w.heap.size 118 514 One l M.length (rwcs M)) ∧ Hid (Ext w wr)) (fun _ _ i _ => L.length - (intOf i).toNat)
    case atStart => exact ⟨0, Nat.zero_le _, rfl, rfl, [], Lib.hid rfl, Lib.hid OwnR.nil, Lib.hid (Ext.refl _)⟩
    case round =>
      obtain ⟨j, hj, rfl, rfl, M, HM, HO, HX⟩ := hrel
      have h2 := H.out.ext HX.out
      obtain ⟨mA, mc, rfl⟩ := HO.out.form
      by_cases hjl : j < L.length
      · obtain ⟨-, c1, -, -, -, fz, hlt⟩ := blk5 h2.hg
        obtain ⟨p, hp⟩ : ∃ p, L[j]? = some p := ⟨_, List.getElem?_eq_getElem hjl⟩
        have ht : Hid (keptR keep 0 (L.take (j + 1)) = M ++ (if p.2.2 then [(p.1, p.2.1, true)] else if keep.getD (wtN (L.take j)) false then [(p.1, p.2.1, true)] else [])) := Lib.hid (by
          rw [HM.out, List.take_add_one, hp]
          have := keptR_snoc keep (L.take j) 0 p
          rw [Nat.zero_add] at this
          exact this)
        have hw : wtN (L.take (j + 1)) = wtN (L.take j) + if p.2.2 then 0 else 1 := by rw [List.take_add_one, hp]; exact wtN_snoc _ _
        have hML : M.length ≤ j := by
          have := keptR_len keep (L.take j) 0
          rw [← HM.out, List.length_take] at this
          omega
        have hkN : wtN (L.take j) ≤ j := by
          have := wtN_le (L.take j)
          rw [List.length_take] at this
          omega
        obtain ⟨gl, hA, d0, d1, dl, gll, hcc⟩ := rw_cells h2.l hok hp
        subst hA
        have HW := Lib.hid hw
        clear hw HM
        generalize wtN (L.take j) = kk at *
        cases hb : p.2.2 with
        | true =>
          rw [hb] at ht d1 HW
          simp only [if_true, Nat.add_zero] at ht HW
          go_wp2_with fail
          have hlW := HO.out
          have p512 := hok p (List.mem_of_getElem? hp)
          have hgw : g < w.heap.size := (Array.getElem?_eq_some_iff.1 H.out.hg).1
          have hglw : gl < w.heap.size := own_lt H.out.l (by simp [Value.ownBlock])
          obtain ⟨So, HSo⟩ : ∃ So : Nat → Prop, Hid (So = fun i => (Value.slice mA M.length mc).ownBlock = some i) := ⟨_, Lib.hid rfl⟩
          have hsz := HX.out.size
          have ng : ¬ So g := by rw [HSo.out]; exact fun h => by have := (own_gt hlW h).1; omega
          have ngl : ¬ So gl := by rw [HSo.out]; exact fun h => by have := (own_gt hlW h).1; omega
          have e0 : ∀ (ψ : World → Prop) (e : ExtS So wr ψ), e.val.cell? ⟨g, 1, none⟩ = some (.slice (some ⟨gl, 0, none⟩) L.length c) := fun ψ e => e.cell c1 hlt ng
          have e1 : ∀ (ψ : World → Prop) (e : ExtS So wr ψ), e.val.cell? ⟨gl, j * 514, none⟩ = some (.int .i64 p.1) := fun ψ e => e.cell d0 gll ngl
          have LB : Hid (∀ w', Mut So wr w' → (Instr.loadAt 25 (.pointer (some ⟨gl, j * 514 + 1, none⟩))).run Try.prog w' = .ok (bval p.2.1) w') := Lib.hid fun w' hw' => by
            have hm : OwnR w' 0 118 514 One (.slice (some ⟨gl, 0, none⟩) L.length c) L.length (rwcs L) := h2.l.mutO hw' fun b hb => by
              obtain rfl : gl = b := by simpa [Value.ownBlock] using hb
              exact ngl
            obtain ⟨g9, hA, -, -, dl9, -, -⟩ := rw_cells hm hok hp
            cases hA
            exact dl9
          have BW := Lib.hid fun w' => build_rw3 p.1 p512 true w'
          clear dl ng ngl hlW fz c1 d0
          refine wp_region_piecesS So 20 [(true, [0, 1, 2, 3, 4, 5, 6, 7, 8, 9, 10, 11, 12, 13, 14, 15, 16, 17]), (false, [18]), (false, [19])] (by kernel_rfl) (by kernel_rfl) ?_; simp only [pick, List.map_cons, List.map_nil, List.flatMap_cons, List.flatMap_nil, Option.toList_some, List.singleton_append, List.drop_succ_cons, List.drop_zero, List.getElem?_cons_zero, List.getElem?_cons_succ]
          refine ⟨by kernel_rfl, ?_⟩; apply Exists.intro; refine ⟨fun ψ hψ hne => ?_, ?_⟩
          · iterate 16 (go_big_quiet_step (fail))
            go_big_quiet_want; refine quiet_ld 25 _ rfl (fun w' hw' => LB.out w' (exts_in hw')) ?_; go_simp; go_big_quiet_on
            go_big_quiet_want; refine quiet_bw3 118 _ _ _ rfl (fun w' _ => BW.out w') ?_; go_simp; go_big_quiet_on
            exact wpQuiet_nil rfl
          clear e0 e1 LB BW
          intro wa ha K hK
          have BS := heap_alloc_last wa (.cells (rwC (p.1, p.2.1, true)).toArray 118)
          go_wp2_with (refine wpList_bsR (p := (p.1, p.2.1, true)) rfl rfl rfl p512 ?_; simp only [Act.put])
          refine hK _ _ (Mut.of_ext (extAl wa _)) ?_
          have Ha := Lib.hid (Ext.trans ha (extAl wa (.cells (rwC (p.1, p.2.1, true)).toArray 118)))
          generalize wa.alloc (.cells (rwC (p.1, p.2.1, true)).toArray 118) = wA at *
          generalize wa.heap.size = g9 at *
          clear hK K ha
          intro wb hxb K hK
          have hXb : Ext wr wb := Ext.trans Ha.out hxb
          obtain ⟨v', wc, hr, ho, hbl, hgr, hs⟩ := app_rw (ty := 114) (HO.out.ext hXb) (src_rw (Ext.blk hxb BS) p512) (Nat.le_trans hsz hXb.size) (rwC_one _) (by omega)
          have Hr := Lib.hid hr
          have HMc : Hid (Mut So wb wc) := Lib.hid (Mut.of_grown hgr fun b hb => by rw [HSo.out]; exact hb)
          have HWc : Hid (Ext w wc) := Lib.hid (Below.trans (Ext.trans HX.out hXb) hbl)
          have HOc := Lib.hid ho
          obtain ⟨A', c', rfl⟩ := ho.form
          clear ho hbl hgr hs hr hXb hxb BS Ha
          go_wp2_with (at_builtin; refine wpList_app rfl (.tmp 45) (.tmp 63) 114 114 rfl Hr.out ?_; simp only [Act.put])
          refine hK _ _ HMc.out ?_
          clear hK K Hr HMc HSo
          intro wd hxd
          have HWd := Lib.hid (Ext.trans HWc.out hxd)
          have HOd := Lib.hid (HOc.out.ext hxd)
          clear HWc HOc hxd
          go_wp2_with fail
          go_roundw
          case rel => exact ⟨j + 1, by omega, by simp, by rw [HW.out], _, Lib.hid ht.out.symm, Lib.hid (by rw [List.length_append, List.length_singleton, rwcs_app, rwcs_single]; exact HOd.out), HWd⟩
          case measure => simp [intOf]; omega
        | false =>
          rw [hb] at ht d1 HW
          simp only [Bool.false_eq_true, if_false] at ht HW
          by_cases hkk : kk < keep.length
          · obtain ⟨kb, koff, rfl, hkc, hcell⟩ := (KB.out.ext HX.out).at hkk
            have hg := getD_lt hkk
            rw [hg] at ht
            clear hg
            cases hkb : keep[kk] with
            | true =>
              rw [hkb] at ht hcell
              simp only [if_true] at ht
              go_wp2_with fail
              have hlW := HO.out
              have p512 := hok p (List.mem_of_getElem? hp)
              have hgw : g < w.heap.size := (Array.getElem?_eq_some_iff.1 H.out.hg).1
              have hglw : gl < w.heap.size := own_lt H.out.l (by simp [Value.ownBlock])
              obtain ⟨So, HSo⟩ : ∃ So : Nat → Prop, Hid (So = fun i => (Value.slice mA M.length mc).ownBlock = some i) := ⟨_, Lib.hid rfl⟩
              have hsz := HX.out.size
              have ng : ¬ So g := by rw [HSo.out]; exact fun h => by have := (own_gt hlW h).1; omega
              have ngl : ¬ So gl := by rw [HSo.out]; exact fun h => by have := (own_gt hlW h).1; omega
              have e0 : ∀ (ψ : World → Prop) (e : ExtS So wr ψ), e.val.cell? ⟨g, 1, none⟩ = some (.slice (some ⟨gl, 0, none⟩) L.length c) := fun ψ e => e.cell c1 hlt ng
              have e1 : ∀ (ψ : World → Prop) (e : ExtS So wr ψ), e.val.cell? ⟨gl, j * 514, none⟩ = some (.int .i64 p.1) := fun ψ e => e.cell d0 gll ngl
              have LB : Hid (∀ w', Mut So wr w' → (Instr.loadAt 25 (.pointer (some ⟨gl, j * 514 + 1, none⟩))).run Try.prog w' = .ok (bval p.2.1) w') := Lib.hid fun w' hw' => by
                have hm : OwnR w' 0 118 514 One (.slice (some ⟨gl, 0, none⟩) L.length c) L.length (rwcs L) := h2.l.mutO hw' fun b hb => by
                  obtain rfl : gl = b := by simpa [Value.ownBlock] using hb
                  exact ngl
                obtain ⟨g9, hA, -, -, dl9, -, -⟩ := rw_cells hm hok hp
                cases hA
                exact dl9
              have BW := Lib.hid fun w' => build_rw3 p.1 p512 true w'
              clear dl ng ngl hlW fz c1 d0
              refine wp_region_piecesS So 20 [(true, [0, 1, 2, 3, 4, 5, 6, 7, 8, 9, 10, 11, 12, 13, 14, 15, 16, 17]), (false, [18]), (false, [19])] (by kernel_rfl) (by kernel_rfl) ?_; simp only [pick, List.map_cons, List.map_nil, List.flatMap_cons, List.flatMap_nil, Option.toList_some, List.singleton_append, List.drop_succ_cons, List.drop_zero, List.getElem?_cons_zero, List.getElem?_cons_succ]
              refine ⟨by kernel_rfl, ?_⟩; apply Exists.intro; refine ⟨fun ψ hψ hne => ?_, ?_⟩
              · iterate 16 (go_big_quiet_step (fail))
                go_big_quiet_want; refine quiet_ld 25 _ rfl (fun w' hw' => LB.out w' (exts_in hw')) ?_; go_simp; go_big_quiet_on
                go_big_quiet_want; refine quiet_bw3 118 _ _ _ rfl (fun w' _ => BW.out w') ?_; go_simp; go_big_quiet_on
                exact wpQuiet_nil rfl
              clear e0 e1 LB BW
              intro wa ha K hK
              have BS := heap_alloc_last wa (.cells (rwC (p.1, p.2.1, true)).toArray 118)
              go_wp2_with (refine wpList_bsR (p := (p.1, p.2.1, true)) rfl rfl rfl p512 ?_; simp only [Act.put])
              refine hK _ _ (Mut.of_ext (extAl wa _)) ?_
              have Ha := Lib.hid (Ext.trans ha (extAl wa (.cells (rwC (p.1, p.2.1, true)).toArray 118)))
              generalize wa.alloc (.cells (rwC (p.1, p.2.1, true)).toArray 118) = wA at *
              generalize wa.heap.size = g9 at *
              clear hK K ha
              intro wb hxb K hK
              have hXb : Ext wr wb := Ext.trans Ha.out hxb
              obtain ⟨v', wc, hr, ho, hbl, hgr, hs⟩ := app_rw (ty := 114) (HO.out.ext hXb) (src_rw (Ext.blk hxb BS) p512) (Nat.le_trans hsz hXb.size) (rwC_one _) (by omega)
              have Hr := Lib.hid hr
              have HMc : Hid (Mut So wb wc) := Lib.hid (Mut.of_grown hgr fun b hb => by rw [HSo.out]; exact hb)
              have HWc : Hid (Ext w wc) := Lib.hid (Below.trans (Ext.trans HX.out hXb) hbl)
              have HOc := Lib.hid ho
              obtain ⟨A', c', rfl⟩ := ho.form
              clear ho hbl hgr hs hr hXb hxb BS Ha
              go_wp2_with (at_builtin; refine wpList_app rfl (.tmp 45) (.tmp 63) 114 114 rfl Hr.out ?_; simp only [Act.put])
              refine hK _ _ HMc.out ?_
              clear hK K Hr HMc HSo
              intro wd hxd
              have HWd := Lib.hid (Ext.trans HWc.out hxd)
              have HOd := Lib.hid (HOc.out.ext hxd)
              clear HWc HOc hxd
              go_wp2_with fail
              go_roundw
              case rel => exact ⟨j + 1, by omega, by simp, by rw [HW.out]; simp, _, Lib.hid ht.out.symm, Lib.hid (by rw [List.length_append, List.length_singleton, rwcs_app, rwcs_single]; exact HOd.out), HWd⟩
              case measure => simp [intOf]; omega
            | false =>
              rw [hkb] at ht hcell
              simp only [Bool.false_eq_true, if_false, List.append_nil] at ht
              clear dl h2
              go_wp2_with fail
              go_roundw
              case rel => exact ⟨j + 1, by omega, by simp, by rw [HW.out]; simp, _, Lib.hid ht.out.symm, HO, HX⟩
              case measure => simp [intOf]; omega
          · rw [getD_ge hkk] at ht
            simp only [Bool.false_eq_true, if_false, List.append_nil] at ht
            clear dl h2
            go_wp2_with fail
            go_roundw
            case rel => exact ⟨j + 1, by omega, by simp, by rw [HW.out]; simp, _, Lib.hid ht.out.symm, HO, HX⟩
            case measure => simp [intOf]; omega
      · obtain rfl : j = L.length := by omega
        rw [List.take_length] at HM
        obtain ⟨c0, c1, c2, c3, c4, fz, hlt⟩ := blk5 h2.hg
        have hst := set5_1234 (.slice mA M.length mc) (.int .i64 0) (.slice none 0 0) (.bool true) h2.hg
        simp only at hst
        have F := H.out.take (R' := ⟨n, M, 0, [], true⟩) HX.out (.slice mA M.length mc) (.slice none 0 0) rfl (HO.out.mono (Nat.zero_le _)) OwnR.nil (fun b hb => .inr (own_gt HO.out hb)) (by simp [Value.ownBlock]) (by rw [HM.out]; exact keptR_512 keep L 0 hok)
        simp only at F
        rw [← hst] at F
        have FF := Lib.hid F
        clear F hst h2
        go_wp2_with fail
        go_ret
        refine ⟨rfl, ?_⟩
        rw [← HM.out]
        exact FF.out
end Go.Proofs.Ytobcfocbglkicaa
