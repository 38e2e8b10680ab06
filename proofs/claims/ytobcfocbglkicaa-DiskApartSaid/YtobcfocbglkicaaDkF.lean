/- Walks of disk: Flush. A write as a value. -/
import Derived.Test.YtobcfocbglkicaaDkE
import Derived.Great.CaseRows
set_option linter.unusedVariables false
set_option maxRecDepth 100000
namespace Go.Proofs.Ytobcfocbglkicaa
open Go.RowKit

theorem fill_2 {z0 : Array Value} (hz : z0.size = 513) {x : Value} (hx : x.cells = #[x]) {bs : List Value} (hb : bs.length = 512) {pl : Nat → Option (Nat × Nat)} (p0 : pl 0 = some (0, 1)) (p1 : pl 1 = some (1, 512)) :
    Instr.fill pl z0 [(0, x), (1, .agg bs.toArray)] = some (x :: bs).toArray := by
  have h1 := Go.Great.foldl_set 0 [x] 0 z0
  have h2 := Go.Great.foldl_set 1 bs 0 (([x].zipIdx 0).foldl (fun cs (x : Value × Nat) => cs.setIfInBounds (0 + x.2) x.1) z0)
  have hc : (Value.agg bs.toArray).cells = bs.toArray := rfl
  have e1 : (#[x].zipIdx.foldl (fun cs (y : Value × Nat) => cs.setIfInBounds (0 + y.2) y.1) z0) = (([x].zipIdx 0).foldl (fun cs (x : Value × Nat) => cs.setIfInBounds (0 + x.2) x.1) z0) := by
    rw [← Array.foldl_toList, Array.toList_zipIdx]
  have hs1 := h1.1
  have s1 : Instr.fill pl z0 [(0, x), (1, .agg bs.toArray)] = Instr.fill pl (([x].zipIdx 0).foldl (fun cs (x : Value × Nat) => cs.setIfInBounds (0 + x.2) x.1) z0) [(1, .agg bs.toArray)] := by
    rw [← e1]
    conv => lhs; unfold Instr.fill
    simp only [p0, hx]
    rw [if_neg (by simp [hz])]
  rw [s1]
  unfold Instr.fill
  simp only [p1, hc]
  rw [if_neg (by rw [hs1]; simp [hb, hz])]
  unfold Instr.fill
  simp only [Nat.zero_add] at e1 h1 h2 hs1 ⊢
  congr 1
  have e2 : (bs.toArray.zipIdx.foldl (fun cs (y : Value × Nat) => cs.setIfInBounds (1 + y.2) y.1) (([x].zipIdx 0).foldl (fun cs (x : Value × Nat) => cs.setIfInBounds x.2 x.1) z0)) = (bs.zipIdx 0).foldl (fun cs (x : Value × Nat) => cs.setIfInBounds (1 + x.2) x.1) (([x].zipIdx 0).foldl (fun cs (x : Value × Nat) => cs.setIfInBounds x.2 x.1) z0) := by
    rw [← Array.foldl_toList, Array.toList_zipIdx]
  rw [e2]
  apply Array.ext_getElem?
  intro k
  rw [h2.2 k, h1.2 k, hs1]
  simp only [List.length_singleton, hb, hz, List.getElem?_toArray]
  by_cases h0 : k = 0
  · subst h0
    rw [if_neg (by omega), if_pos (by omega)]
    rfl
  · by_cases hk : k < 513
    · rw [if_pos (by omega)]
      obtain ⟨j, rfl⟩ : ∃ j, k = j + 1 := ⟨k - 1, by omega⟩
      rw [List.getElem?_cons_succ]
      congr 1
    · rw [if_neg (by omega), if_neg (by omega), Array.getElem?_eq_none (by omega), List.getElem?_eq_none (by simp; omega)]
theorem build_wr (z : Int) {b : List UInt8} (hb : b.length = 512) (w : World) : (Instr.build 107 #[(0, .int .i64 z), (1, .agg (bvs b).toArray)]).run Try.prog w = .ok (.agg (wcell (z, b)).toArray) w := by
  refine run_build w _ _ _ ?_
  have h : (Try.prog.info? 107).map (fun i => (i.zero, i.size, i.bytes)) = some (some (.agg (wcell zW).toArray), 513, 520) := by kernel_rfl
  obtain ⟨i, hi, hz0, _, _⟩ := info_prt h
  have h1 : (wcell zW).length = 513 := wcell_length zB_length
  generalize wcell zW = Z at *
  obtain ⟨fs, hu, hp⟩ : ∃ fs, Try.prog.underlying 107 = some (.struct fs) ∧ fs.toList.mapM (fun f => (Try.prog.info? f.type).map fun i => (f.offset, i.size)) = some [(0, 1), (1, 512)] := ⟨_, Try.underlying107, by kernel_rfl⟩
  unfold Program.built
  rw [hi, hu]
  simp only [hz0, hp]
  exact fill_2 (z0 := Z.toArray) (by simpa using h1) rfl (by simp [bvs, hb]) rfl rfl

theorem DK.flush_no {D : DK} (h : D.ask = 51) : D.flush = (D, 51) := by unfold DK.flush; rw [if_neg (by omega), h]
theorem DK.flush_cut {D : DK} (h : D.ask = 0) (h2 : D.count.2 = 51) : D.flush = (D.count.1, 51) := by unfold DK.flush; rw [if_pos h, if_neg (by omega)]; exact Prod.ext rfl h2
theorem DK.flush_ok {D : DK} (h : D.ask = 0) (h2 : D.count.2 = 0) : D.flush = ({ D.count.1 with on := D.on ++ D.wt, wt := [] }, 0) := by unfold DK.flush; rw [if_pos h, if_pos h2]
set_option maxHeartbeats 4000000 in
theorem Flush_any {S : Nat → Prop} {g : Nat} {D : DK} (w : World) (h : DkAt w S g D) (hkl : D.keep.length ≤ 1000000) (hwl : D.wt.length ≤ 1000000) :
    Calls Try.prog 25 #[.pointer (some ⟨g, 0, none⟩)] w fun e w' => e = .returned (.int .i64 D.flush.2) ∧ DkTo S w w' g D.flush.1 := by
  rcases ask_cases D with ⟨ha, hd⟩ | ⟨ha, _⟩
  case inr =>
    rw [DK.flush_no ha]
    go_enter Try.func25, Try.ntmps25
    go_wp2_with fail
    refine (ask_any _ h).mono ?_
    rw [ha]
    rintro e w1 ⟨rfl, hb1⟩; have hz1 := hb1.size; (try simp only [World.size_alloc] at hz1)
    have F := Lib.hid (DkTo.of_ext h hb1)
    go_wp2
    go_ret
    exact ⟨rfl, F.out⟩
  rcases count_cases D with ⟨hc, hon, hwt, -, -, -⟩ | ⟨hc, -⟩
  case inr =>
    rw [DK.flush_cut ha hc]
    go_enter Try.func25, Try.ntmps25
    go_wp2_with fail
    refine (ask_any _ h).mono ?_
    rw [ha]
    rintro e w1 ⟨rfl, hb1⟩; have hz1 := hb1.size; (try simp only [World.size_alloc] at hz1)
    go_wp2_with fail
    refine (count_any _ (h.ext hb1) hkl hwl).mono ?_
    rw [hc]
    rintro e w2 ⟨rfl, hd2⟩
    have F := Lib.hid (DkTo.after_ext hb1 hd2)
    go_wp2
    go_ret
    exact ⟨rfl, F.out⟩
  rw [DK.flush_ok ha hc]
  rw [← hwt] at hwl
  rw [← hon, ← hwt]
  have kC := fun w (h : DkAt w S g D) => count_any w h hkl (hwt ▸ hwl)
  rw [hc] at kC
  obtain ⟨D1, hD1⟩ : ∃ D1, D1 = D.count.1 := ⟨_, rfl⟩
  rw [← hD1] at hwl kC ⊢
  go_enter Try.func25, Try.ntmps25
  go_wp2_with fail
  refine (ask_any _ h).mono ?_
  rw [ha]
  rintro e w1 ⟨rfl, hb1⟩; have hz1 := hb1.size; (try simp only [World.size_alloc] at hz1)
  go_wp2_with fail
  refine (kC _ (h.ext hb1)).mono ?_
  rintro e w2 ⟨rfl, hd2⟩
  have TT := Lib.hid (DkTo.after_ext hb1 hd2)
  clear hb1 hz1 hd2 h ha hc hon hwt hkl kC hD1
  obtain ⟨mo, mn, sv, kv, h⟩ := TT.out.1
  obtain ⟨S1, hS1⟩ : ∃ S1, S1 = gr S w w2 := ⟨_, rfl⟩
  rw [← hS1] at h
  obtain ⟨c0, c1, c2, c3, c4, c5, c6, fz, hlt⟩ := blk7 h.hg
  obtain ⟨A, c, rfl⟩ := h.wt.form
  obtain ⟨n, on, wt, cut, kp, dead⟩ := D1
  simp only at *
  have h0k : ∀ q ∈ wt, 0 ≤ q.1 ∧ q.1 < n ∧ q.2.length = 512 := h.ok.wt
  have hw512 : ∀ q ∈ wt, q.2.length = 512 := fun q hq => (h0k q hq).2.2
  have H0 := Lib.hid h
  clear h
  go_wp2_with fail
  go_loopw [22] (fun i wr => ∃ j : Nat, j ≤ wt.length ∧ i = .int .i64 j ∧ Hid (DkP wr (gr S1 w2 wr) g mo mn (.slice A wt.length c) kv ⟨n, on ++ wt.take j, wt, cut, kp, dead⟩) ∧ Hid (Mut (fun i => i = mo) w2 wr)) (fun i _ => wt.length - (intOf i).toNat)
  case atStart => exact ⟨0, Nat.zero_le _, rfl, Lib.hid (by simpa using H0.out.mono fun i hi => .inl hi), Lib.hid (Mut.refl _ _)⟩
  case round =>
    obtain ⟨j, hj, rfl, HR, MR⟩ := hrel
    by_cases hjl : j < wt.length
    · obtain ⟨p, hp⟩ : ∃ p, wt[j]? = some p := ⟨_, List.getElem?_eq_getElem hjl⟩
      have hp5 := hw512 p (List.mem_of_getElem? hp)
      have hRw := HR.out.wt
      obtain ⟨gs, hA, _, hgs, hjc, _⟩ := hRw.cells (by omega)
      subst hA
      have hld := Lib.hid (ld_wr hRw hw512 hp)
      have hjc := hjc (by omega)
      clear hRw
      have st := st_wr (p := p) (heap_alloc_last wr (.cells (wcell zW).toArray 107)) hp5 zB_length
      rw [World.setRow_alloc_new] at st
      have St := Lib.hid st
      have hX := extAl wr (.cells (wcell p).toArray 107)
      have hgl := heap_alloc_last wr (.cells (wcell p).toArray 107)
      have HV := Lib.hid (HR.out.ext hX)
      have MV := Lib.hid (MR.out.trans (Mut.of_ext hX))
      clear st
      go_upto_region 10 with (first | (refine wpList_ld rfl 107 (.tmp 24) rfl hld.out ?_; simp only [Act.put]) | (refine wpList_al rfl 107 rfl alloc_wr ?_; simp only [Act.put]) | (refine wpList_st rfl 107 (.tmp 6) (.tmp 25) rfl St.out ?_; simp only [Act.put]))
      have ht : wt.take (j + 1) = wt.take j ++ [p] := by rw [List.take_add_one, hp]; rfl
      have hgV : g < (wr.alloc (.cells (wcell p).toArray 107)).heap.size := (Array.getElem?_eq_some_iff.1 HV.out.hg).1
      have hglV : wr.heap.size < (wr.alloc (.cells (wcell p).toArray 107)).heap.size := by simp
      have cg := cell_of_row _ _ 1 _ _ _ HV.out.hg
      have cl0 : (wr.alloc (.cells (wcell p).toArray 107)).cell? ⟨wr.heap.size, 0, none⟩ = some (.int .i64 p.1) := by
        rw [cell_of_row _ _ _ _ _ _ hgl]; rfl
      simp only [List.getElem?_toArray, List.getElem?_cons_succ, List.getElem?_cons_zero] at cg
      have hsz := hX.size
      have HV' := Lib.hid (HV.out.mono (S' := gr S1 w2 (wr.alloc (.cells (wcell p).toArray 107))) fun i hi => by
        rcases hi with hi | hi
        · exact .inl hi
        · exact .inr (by omega))
      have LB := Lib.hid fun w' (he : Ext (wr.alloc (.cells (wcell p).toArray 107)) w') => ld_wrb ((he.block wr.heap.size hglV).trans hgl) hp5
      have hpr := h0k p (List.mem_of_getElem? hp)
      clear hX hgl HV hsz hld St hp
      generalize wr.alloc (.cells (wcell p).toArray 107) = V at *
      generalize wr.heap.size = gl at *
      simp only [List.setIfInBounds_toArray, List.set_cons_zero, List.set_cons_succ]
      have e1 : ∀ ψ (e : ExtP V.heap.size V ψ), e.val.cell? ⟨g, 1, none⟩ = some (.map (some mo)) := fun ψ e => e.cell cg hgV
      have e2 : ∀ ψ (e : ExtP V.heap.size V ψ), e.val.cell? ⟨gl, 0, none⟩ = some (.int .i64 p.1) := fun ψ e => e.cell cl0 hglV
      refine wp_region_pieces 8  [(true, [0, 1, 2, 3, 4, 5, 6, 7])] (by kernel_rfl) (by kernel_rfl) ?_; simp only [pick, List.map_cons, List.map_nil, List.flatMap_cons, List.flatMap_nil, Option.toList_some, List.singleton_append, List.drop_succ_cons, List.drop_zero, List.getElem?_cons_zero, List.getElem?_cons_succ]
      refine ⟨by kernel_rfl, ?_⟩; apply Exists.intro; refine ⟨fun ψ hψ hne => (by (repeat (first | ( go_big_quiet_want; refine quiet_ld 25 (.tmp 32) rfl (fun w' hw' => LB.out w' (ext_in hw')) ?_; go_simp; go_big_quiet_on ) | go_big_quiet_step ((  fail )))); exact wpQuiet_nil rfl), ?_⟩
      intro V' hV'
      obtain ⟨w3, hr, hm3, hg3⟩ := (HV'.out.ext hV').on.update (P := Try.prog) (t := 100) Try.underlying100 Try.underlying3 (wf_i64 (a := p.1) (by omega) (by have := H0.out.ok.n1; simp only at this; omega)) (bval p.2)
      have Hr := Lib.hid hr
      have fin : DkP w3 (gr S1 w2 w3) g mo mn (.slice (some ⟨gs, 0, none⟩) wt.length c) kv ⟨n, on ++ wt.take (j + 1), wt, cut, kp, dead⟩ := by
        have h4 := (HV'.out.ext hV').on_upd hg3 hm3 hpr
        rw [ht]
        simp only [← List.append_assoc]
        refine h4.mono fun i hi => ?_
        have := hV'.size
        have := hg3.size
        rcases hi with hi | hi
        · exact .inl hi
        · exact .inr (by omega)
      have Fin := Lib.hid fin
      have M3 := Lib.hid ((MV.out.trans (Mut.of_ext hV')).trans (Mut.of_grown hg3 fun b hb => by simpa using hb.symm))
      clear fin hr hm3 hg3 HV' LB e1 e2
      go_wp2_with (refine wpList_mu rfl 100 (.tmp 29) (.tmp 31) (.tmp 33) rfl Hr.out ?_; simp only [Act.put])
      go_roundw
      case rel => exact ⟨j + 1, by omega, by simp, Fin, M3⟩
      case measure => simp [intOf]; omega
    · obtain rfl : j = wt.length := by omega
      rw [List.take_length] at HR
      clear c0 c1 c2 c3 c4 c5 c6 fz hlt
      go_wp2_with (go_at_call 69; refine (forget_any _ HR.out).mono ?_; rintro e w4 ⟨rfl, hd1, hm1⟩)
      go_ret
      refine ⟨rfl, TT.out.trans ?_⟩
      rw [← hS1]
      have hg1 := MR.out.size
      have hg2 := hm1.size
      refine ⟨⟨_, _, _, _, hd1.mono fun i hi => ?_⟩, ?_⟩
      · rcases hi with hi | hi
        · exact .inl hi
        · exact .inr (by omega)
      · refine (MR.out.mono (S' := S1) (by rintro i rfl; exact H0.out.so)).trans (hm1.mono (S' := S1) ?_)
        rintro i (rfl | rfl)
        · exact H0.out.sg
        · exact H0.out.sn
end Go.Proofs.Ytobcfocbglkicaa
