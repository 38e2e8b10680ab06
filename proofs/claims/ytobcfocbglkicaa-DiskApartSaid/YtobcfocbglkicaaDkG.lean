/- Walks of disk: Write. -/
import Derived.Test.YtobcfocbglkicaaDkF
set_option linter.unusedVariables false
set_option maxRecDepth 100000
namespace Go.Proofs.Ytobcfocbglkicaa
open Go.RowKit

theorem exts_in {S : Nat → Prop} {w w' : World} {ψ : World → Prop} (h : ∃ e : ExtS S w ψ, w' = e.val) : Mut S w w' := by obtain ⟨e, rfl⟩ := h; exact e.ok
theorem quiet_bw {P : Program} {o : Oper} {a : Act} {C : World → Prop} {K : Act → Prop} (ty : TypeId) (x y : Operand) (ho : o.op = .build ty #[(0, x), (1, y)]) {v : Value} (hr : ∀ w, C w → (Instr.build ty #[(0, a.eval x), (1, a.eval y)]).run P w = .ok v w)
    (hk : K (a.put o.dst v)) : o.quiet P a C K :=
  ⟨v, fun w hw => by
    have h := hr w hw
    have e : (#[(0, x), (1, y)] : Array (Nat × Operand)).map (fun z => (z.1, a.eval z.2)) = #[(0, a.eval x), (1, a.eval y)] := by simp
    unfold Oper.quietAt execOp
    simp only [ho, Sem.run_bind]
    rw [e, h]
    simp only [Result.andThen_ok, Sem.run_pure]
    exact ⟨rfl, rfl⟩, hk⟩
/-- A row of one write, built. -/
theorem wpList_bs1 {ops : Array Oper} {rest : List Oper} {o : Oper} {a : Act} {w : World} {Q : Exit → Act → World → Prop} {p : Wr} {x : Operand} (hg : o.guard = none) (ho : o.op = .buildSlice 101 1 #[(0, x)]) (hx : a.eval x = .agg (wcell p).toArray) (hp : p.2.length = 512)
    (h : wpList Try.prog ops Q rest (a.put o.dst (.slice (some ⟨w.heap.size, 0, none⟩) 1 1)) (w.alloc (.cells (wcell p).toArray 107))) : wpList Try.prog ops Q (o :: rest) a w := by
  have h0 : (Try.prog.info? 107).map (fun i => (i.zero, i.size, i.bytes)) = some (some (.agg (wcell zW).toArray), 513, 520) := by kernel_rfl
  obtain ⟨i, hi, hz0, hz1, _⟩ := info_prt h0
  have hl := wcell_length hp
  refine Go.wpList_buildSlice hg 101 107 1 _ ho (wcell p).toArray i _ Try.underlying101 hi hz0 (by rw [hz1]; omega) (by rw [hz1]; omega) ?_ h
  have e1 : ((#[(0, x)] : Array (Nat × Operand)).map fun (i, x) => (i, a.eval x)).toList = (([Value.agg (wcell p).toArray] : List Value).zipIdx 0).map fun x => (x.2, x.1) := by
    simp [hx]
  rw [e1, hz1, Go.Great.fill_whole (by omega) _ _ (by simp [Value.cells, hl]) (by simp)]
  simp [Value.cells]
theorem askAt_cases (D : DK) (z : Int) : (D.askAt z = 0 ∧ D.dead = false ∧ 0 ≤ z ∧ z < D.n) ∨ D.askAt z = 1 ∨ D.askAt z = 51 := by
  unfold DK.askAt
  cases D.dead
  · by_cases h : 0 ≤ z ∧ z < D.n
    · exact .inl ⟨by simp [h], rfl, h⟩
    · exact .inr (.inl (by simp [h]))
  · exact .inr (.inr (by simp))
theorem own_ne {w : World} {B g : Nat} {T T' : TypeId} {sz : Nat} {C : Value → Prop} {v : Value} {n : Nat} {cs : List Value} {row : Array Value} {fr : Nat × Nat} (h : OwnR w B T sz C v n cs) (hg : w.heap[g]? = some (.cells row T' fr)) (hT : T ≠ T') : v.ownBlock ≠ some g := by
  intro hv
  obtain ⟨_, ⟨rfl, _⟩ | ⟨g', c, junk, rfl, _, hg', _⟩⟩ := h
  · simp [Value.ownBlock] at hv
  · obtain rfl : g' = g := by simpa [Value.ownBlock] using hv
    rw [hg] at hg'
    simp at hg'
    exact hT hg'.2.1.symm
theorem own_nm {w : World} {B g : Nat} {T : TypeId} {sz : Nat} {C : Value → Prop} {v : Value} {n : Nat} {cs : List Value} {F : Int → Option Value} (h : OwnR w B T sz C v n cs) (hg : MapI w g F) : v.ownBlock ≠ some g := by
  intro hv
  obtain ⟨_, ⟨rfl, _⟩ | ⟨g', c, junk, rfl, _, hg', _⟩⟩ := h
  · simp [Value.ownBlock] at hv
  · obtain rfl : g' = g := by simpa [Value.ownBlock] using hv
    obtain ⟨es, cl, hb, _⟩ := hg
    rw [hg'] at hb
    cases hb
theorem cells_nm {w : World} {b g : Nat} {T : TypeId} {row : Array Value} {fr : Nat × Nat} {F : Int → Option Value} (hg : w.heap[b]? = some (.cells row T fr)) (h : MapI w g F) : b ≠ g := by
  rintro rfl
  obtain ⟨es, cl, hb, _⟩ := h
  rw [hg] at hb
  cases hb
theorem own_lt {w : World} {B b : Nat} {T : TypeId} {sz : Nat} {C : Value → Prop} {v : Value} {n : Nat} {cs : List Value} (h : OwnR w B T sz C v n cs) (hb : v.ownBlock = some b) : b < w.heap.size := by
  obtain ⟨_, ⟨rfl, _⟩ | ⟨g', c, junk, rfl, hB, hg', _⟩⟩ := h
  · simp [Value.ownBlock] at hb
  · obtain rfl : g' = b := by simpa [Value.ownBlock] using hb
    exact (Array.getElem?_eq_some_iff.1 hg').1

/-- The write waits: its place is told in the map (w3), its cells stand behind the others (wc), and the disk says so. -/
theorem wait_fin {w w3 wc : World} {S : Nat → Prop} {g mo mn : Nat} {sv sv' kv : Value} {D : DK} {p : Wr} (h : DkP w S g mo mn sv kv D) (hm : MapI w3 mn (upd (ixV D.wt) p.1 (.int .i64 D.wt.length))) (hg3 : w.grownBy w3 (some mn))
    (hmc : Mut (fun i => sv.ownBlock = some i) w3 wc) (ho : OwnR wc 0 107 513 One sv' (D.wt.length + 1) (wcs D.wt ++ wcell p)) (hs : ∀ b, sv'.ownBlock = some b → sv.ownBlock = some b ∨ w3.heap.size ≤ b) (hp : 0 ≤ p.1 ∧ p.1 < D.n ∧ p.2.length = 512) :
    wc.heap[g]? = some (.cells #[.int .i64 D.n, .map (some mo), sv, .map (some mn), .int .i64 D.cut, kv, .bool D.dead] 104 (0, 0)) ∧
    DkTo S w (wc.setRow g #[.int .i64 D.n, .map (some mo), sv', .map (some mn), .int .i64 D.cut, kv, .bool D.dead]) g { D with wt := D.wt ++ [p] } := by
  have hM3 : Mut (fun i => i = mn) w w3 := Mut.of_grown hg3 fun b hb => by simpa using hb.symm
  have hg3' := (hM3.block g (Array.getElem?_eq_some_iff.1 h.hg).1 (cells_nm h.hg h.nw)).trans h.hg
  have ho3 := h.on.mut hM3 h.ne
  have hw3 := h.wt.mutO hM3 fun b hb e => own_nm h.wt h.nw (e ▸ hb)
  have hk3 := h.kp.mutO hM3 fun b hb e => own_nm h.kp h.nw (e ▸ hb)
  have hgc := (hmc.block g (Array.getElem?_eq_some_iff.1 hg3').1 (own_ne hw3 hg3' (by decide))).trans hg3'
  have hoc := ho3.mut hmc (own_nm hw3 ho3)
  have hnc := hm.mut hmc (own_nm hw3 hm)
  have hkc : OwnR wc 0 4 1 One kv D.keep.length (bcs D.keep) := hk3.mutO hmc fun b hb hb2 => by
    obtain ⟨_, ⟨rfl, _⟩ | ⟨g', c, junk, rfl, _, hg', _⟩⟩ := hk3
    · simp [Value.ownBlock] at hb
    · obtain rfl : g' = b := by simpa [Value.ownBlock] using hb
      exact own_ne hw3 hg' (by decide) hb2
  have s1 := hM3.size
  have s2 := hmc.size
  refine ⟨hgc, ⟨mo, mn, sv', kv, ?_⟩, ?_⟩
  · exact {
      hg := setRow_heap _ _ _ _ _ _ hgc
      on := hoc.set hgc
      nw := (hnc.set hgc).cong fun a => by
        simp only [ixV, lastIx_snoc, upd]
        by_cases e : a = p.1
        · rw [if_pos e, if_pos e.symm]; rfl
        · rw [if_neg e, if_neg fun h => e h.symm]
      ne := h.ne
      wt := by
        have := ho.set (row' := #[.int .i64 D.n, .map (some mo), sv', .map (some mn), .int .i64 D.cut, kv, .bool D.dead]) hgc (by decide)
        simp only [List.length_append, List.length_singleton, wcs_snoc]
        exact this
      kp := hkc.set hgc (by decide)
      sg := .inl h.sg
      so := .inl h.so
      sn := .inl h.sn
      sw := fun b hb => by
        rcases hs b hb with hb' | hb'
        · exact .inl (h.sw b hb')
        · exact .inr ⟨by omega, by simp [World.setRow]; exact own_lt ho hb⟩
      sk := fun b hb => .inl (h.sk b hb)
      ok := ⟨h.ok.n0, h.ok.n1, h.ok.c0, h.ok.c1, h.ok.on, fun q hq => by
        rcases List.mem_append.1 hq with hq | hq
        · exact h.ok.wt q hq
        · rw [List.mem_singleton.1 hq]; exact hp⟩ }
  · refine (hM3.mono (S' := S) (by rintro i rfl; exact h.sn)).trans ((hmc.mono (S' := S) fun i hi => h.sw i hi).trans (mut_setRow h.sg _))

set_option maxHeartbeats 1000000 in
theorem Write_any {S : Nat → Prop} {g : Nat} {D : DK} (z : Int) (b : List UInt8) (w : World) (h : DkAt w S g D) (hb : b.length = 512) (hkl : D.keep.length ≤ 1000000) (hwl : D.wt.length ≤ 100000) :
    Calls Try.prog 26 #[.pointer (some ⟨g, 0, none⟩), .int .i64 z, .agg (bvs b).toArray] w fun e w' => e = .returned (.int .i64 (D.write z b).2) ∧ DkTo S w w' g (D.write z b).1 := by
  rcases askAt_cases D z with ⟨he, -, hz0, hz1⟩ | he | he
  case inr.inl =>
    rw [show D.write z b = (D, 1) by unfold DK.write; rw [if_neg (by omega), he]]
    go_enter Try.func26, Try.ntmps26
    go_wp2_with fail
    refine (askAt_any z _ (h.ext (extAl w _))).mono ?_
    rw [he]
    rintro e w1 ⟨rfl, hb1⟩; have hz1 := hb1.size; (try simp only [World.size_alloc] at hz1)
    have F := Lib.hid (DkTo.of_ext h (Ext.trans (extAl w (.cells (bvs b).toArray 25)) hb1))
    go_wp2
    go_ret
    exact ⟨rfl, F.out⟩
  case inr.inr =>
    rw [show D.write z b = (D, 51) by unfold DK.write; rw [if_neg (by omega), he]]
    go_enter Try.func26, Try.ntmps26
    go_wp2_with fail
    refine (askAt_any z _ (h.ext (extAl w _))).mono ?_
    rw [he]
    rintro e w1 ⟨rfl, hb1⟩; have hz1 := hb1.size; (try simp only [World.size_alloc] at hz1)
    have F := Lib.hid (DkTo.of_ext h (Ext.trans (extAl w (.cells (bvs b).toArray 25)) hb1))
    go_wp2
    go_ret
    exact ⟨rfl, F.out⟩
  rw [show D.write z b = DK.count { D with wt := D.wt ++ [(z, b)] } by unfold DK.write; rw [if_pos he]]
  have n1 : D.n ≤ 8192 := by obtain ⟨_, _, _, _, h⟩ := h; exact h.ok.n1
  have kC := fun {S : Nat → Prop} w (h : DkAt w S g { D with wt := D.wt ++ [(z, b)] }) => count_any w h hkl (by simp only [List.length_append, List.length_singleton]; omega)
  obtain ⟨R, hR⟩ : ∃ R, R = DK.count { D with wt := D.wt ++ [(z, b)] } := ⟨_, rfl⟩
  rw [← hR] at kC ⊢
  obtain ⟨R1, R2⟩ := R
  simp only at kC ⊢
  go_enter Try.func26, Try.ntmps26
  go_wp2_with fail
  refine (askAt_any z _ (h.ext (extAl w _))).mono ?_
  rw [he]
  rintro e w1 ⟨rfl, hb1⟩; have hz1 := hb1.size; (try simp only [World.size_alloc] at hz1)
  have X1 := Lib.hid (Ext.trans (extAl w (.cells (bvs b).toArray 25)) hb1)
  obtain ⟨mo, mn, sv, kv, h⟩ := h.ext X1.out
  have hbx := (hb1.block w.heap.size (by simp)).trans (heap_alloc_last w (.cells (bvs b).toArray 25))
  have h5 : w.heap.size < w1.heap.size := (Array.getElem?_eq_some_iff.1 hbx).1
  generalize w.heap.size = g5 at *
  obtain ⟨A, c, rfl⟩ := h.wt.form
  have cc := blk7 h.hg
  have hlt := (Array.getElem?_eq_some_iff.1 h.hg).1
  have hgm := cells_nm h.hg h.nw
  have hbm := cells_nm hbx h.nw
  have hgs := own_ne h.wt h.hg (by decide)
  have hbs := own_ne h.wt hbx (by decide)
  clear hb1 hz1 he hR
  have H := Lib.hid h
  have e1 : ∀ ψ (e : ExtP w1.heap.size w1 ψ), e.val.cell? ⟨g, 3, none⟩ = some (.map (some mn)) := fun ψ e => e.cell cc.2.2.2.1 hlt
  have e2 : ∀ ψ (e : ExtP w1.heap.size w1 ψ), e.val.cell? ⟨g, 2, none⟩ = some (.slice A D.wt.length c) := fun ψ e => e.cell cc.2.2.1 hlt
  go_wp2_with fail
  refine wp_region_pieces 10  [(true, [0, 1, 2, 3, 4, 5, 6, 7, 8, 9])] (by kernel_rfl) (by kernel_rfl) ?_; simp only [pick, List.map_cons, List.map_nil, List.flatMap_cons, List.flatMap_nil, Option.toList_some, List.singleton_append, List.drop_succ_cons, List.drop_zero, List.getElem?_cons_zero, List.getElem?_cons_succ]
  refine ⟨by kernel_rfl, ?_⟩; apply Exists.intro; refine ⟨fun ψ hψ hne => (by (repeat (go_big_quiet_step (( fail )))); exact wpQuiet_nil rfl), ?_⟩
  intro w2 hx2
  clear e1 e2 cc h
  have h2 := H.out.ext hx2
  obtain ⟨w3, hr, hm3, hg3⟩ := h2.nw.update (P := Try.prog) (t := 102) Try.underlying102 Try.underlying3 (wf_i64 (a := z) (by omega) (by omega)) (.int .i64 D.wt.length)
  have Hr := Lib.hid hr
  have hM3 : Mut (fun i => i = mn) w2 w3 := Mut.of_grown hg3 fun b hb => by simpa using hb.symm
  have hgx := (hM3.block g (Nat.lt_of_lt_of_le hlt hx2.size) hgm).trans h2.hg
  have hbx3 := (hM3.block g5 (Nat.lt_of_lt_of_le h5 hx2.size) hbm).trans ((hx2.block g5 h5).trans hbx)
  have hw3 := h2.wt.mutO hM3 fun b hb e => own_nm h2.wt h2.nw (e ▸ hb)
  have cc := blk7 hgx
  have Hm3 := Lib.hid hm3
  have Hg3 := Lib.hid hg3
  have Hw3 := Lib.hid hw3
  clear hr hm3 hg3 hw3 hM3
  go_wp2_with (refine wpList_mu rfl 102 (.tmp 17) (.tmp 18) (.tmp 23) rfl Hr.out ?_; simp only [Act.put])
  clear Hr
  have hlt3 := (Array.getElem?_eq_some_iff.1 hgx).1
  have hlt5 := (Array.getElem?_eq_some_iff.1 hbx3).1
  have e2 : ∀ ψ (e : ExtS (fun i => (Value.slice A D.wt.length c).ownBlock = some i) w3 ψ), e.val.cell? ⟨g, 2, none⟩ = some (.slice A D.wt.length c) := fun ψ e => e.cell cc.2.2.1 hlt3 hgs
  have LB := Lib.hid fun w' (hw' : Mut (fun i => (Value.slice A D.wt.length c).ownBlock = some i) w3 w') => ld_blk ((hw'.block g5 hlt5 hbs).trans hbx3) hb
  have BW := Lib.hid fun w' => build_wr z hb w'
  clear cc
  refine wp_region_piecesS (fun i => (Value.slice A D.wt.length c).ownBlock = some i) 10 [(true, [0, 1, 2, 3, 4, 5, 6, 7]), (false, [8]), (false, [9])] (by kernel_rfl) (by kernel_rfl) ?_; simp only [pick, List.map_cons, List.map_nil, List.flatMap_cons, List.flatMap_nil, Option.toList_some, List.singleton_append, List.drop_succ_cons, List.drop_zero, List.getElem?_cons_zero, List.getElem?_cons_succ]
  refine ⟨by kernel_rfl, ?_⟩; apply Exists.intro; refine ⟨fun ψ hψ hne => ?_, ?_⟩
  · iterate 6 (go_big_quiet_step (fail))
    go_big_quiet_want; refine quiet_ld 25 (.tmp 5) rfl (fun w' hw' => LB.out w' (exts_in hw')) ?_; go_simp; go_big_quiet_on
    go_big_quiet_want; refine quiet_bw 107 (.tmp 29) (.tmp 30) rfl (fun w' _ => BW.out w') ?_; go_simp; go_big_quiet_on
    exact wpQuiet_nil rfl
  intro wa ha K hK
  have BS := heap_alloc_last wa (.cells (wcell (z, b)).toArray 107)
  go_wp2_with (refine wpList_bs1 (p := (z, b)) rfl rfl rfl hb ?_; simp only [Act.put])
  refine hK _ _ (Mut.of_ext (extAl wa _)) ?_
  have Ha := Lib.hid (Ext.trans ha (extAl wa (.cells (wcell (z, b)).toArray 107)))
  generalize wa.alloc (.cells (wcell (z, b)).toArray 107) = wA at *
  generalize wa.heap.size = g9 at *
  clear hK K ha LB BW e2
  intro wb hxb K hK
  have hsrc := src_row (P := Try.prog) (sz := 513) (tx := 101) (n := 1) (c := 1) Try.underlying101 ((hxb.block g9 (Array.getElem?_eq_some_iff.1 BS).1).trans BS) (by rw [wcell_length hb]) (wcell_one (z, b))
  obtain ⟨v', wc, hr, ho, -, hgr, hs⟩ := app_wr (ty := 101) (Hw3.out.ext (Ext.trans Ha.out hxb)) hsrc (Nat.zero_le _) (wcell_one (z, b)) (by omega)
  have Hr := Lib.hid hr
  have hMc : Mut (fun i => (Value.slice A D.wt.length c).ownBlock = some i) wb wc := Mut.of_grown hgr fun b hb => hb
  obtain ⟨A', c', rfl⟩ := ho.form
  go_wp2_with (refine wpList_app rfl (.tmp 28) (.tmp 32) 101 101 rfl Hr.out ?_; simp only [Act.put])
  refine hK _ _ hMc ?_
  clear hK K Hr hr hsrc hgr
  intro wd hxd
  have hXb : Ext w3 wb := Ext.trans Ha.out hxb
  obtain ⟨hgd, hT⟩ := wait_fin (p := (z, b)) (wc := wd) (sv' := .slice A' (D.wt.length + 1) c') (H.out.ext hx2) Hm3.out Hg3.out ((Mut.of_ext hXb).trans (hMc.trans (Mut.of_ext hxd))) (ho.ext hxd) (fun i hi => (hs i hi).imp id fun h => Nat.le_trans hXb.size h) ⟨hz0, hz1, hb⟩
  have hst := set7_2 (.slice A' (D.wt.length + 1) c') hgd
  rw [← hst] at hT
  have T := Lib.hid (DkTo.after_ext (Ext.trans X1.out hx2) hT)
  obtain ⟨d0, d1, d2, d3, d4, d5, d6, fz, hltd⟩ := blk7 hgd
  clear hst hT hgd hs ho hMc hXb Ha BS Hm3 Hg3 Hw3
  go_wp2_with (go_at_call 68; refine (kC _ T.out.1).mono ?_; rintro e w9 ⟨rfl, h9⟩)
  go_ret
  exact ⟨rfl, T.out.trans h9⟩
end Go.Proofs.Ytobcfocbglkicaa
