/- The document's table: Ask, one task more. -/
import Derived.Test.YtiihlbaajopllaaRtC
set_option linter.unusedVariables false
set_option maxRecDepth 100000
namespace Go.Proofs.Ytiihlbaajopllaa
open Go.RowKit

set_option maxHeartbeats 4000000 in
theorem rask_push {S : Nat → Prop} {g : Nat} {L : List Tk} {v : Value} (n : Int) (l : List Wn) (w : World) (h : RtAt w S g L) (hv : RWn w v l) (hwr : wrongL l = false) (hn : ¬ n < 0) (hwl : l.length ≤ 4) (hat : atL L n = none) (hf : ¬ 16 ≤ L.length) :
    Calls Try.prog 59 #[.pointer (some ⟨g, 0, none⟩), .int .i64 n, v] w fun e w' => e = .returned (.tuple #[.bool (mayB L l), .int .i64 0]) ∧ To S w w' (rtOb g (L ++ [(n, l)])) := by
  obtain ⟨A, c, rfl⟩ := hv.form
  have hn0 : 0 ≤ n := by omega
  have HV := Lib.hid hv
  have HO := Lib.hid h
  have HWR := Lib.hid hwr
  have HAt : Hid (atI L n = -1) := Lib.hid (by unfold atI; rw [hat])
  obtain ⟨vv, ls, hp, hL⟩ := h
  obtain ⟨A2, c2, rfl⟩ := hp.row.form
  obtain ⟨c0, -, gl⟩ := blk1 hp.hg
  have hf' : (ls.length : Int) < 16 := by rw [← hL] at hf; simp at hf; omega
  have HP := Lib.hid hp
  have HL := Lib.hid hL
  clear hp hL hv hwr hn hat hf
  have h4' : (l.length : Int) ≤ 4 := by omega
  go_enter Try.func59, Try.ntmps59
  go_wp2
  go_loopg [8] l.length (fun gg s wr => ∃ k : Nat, k ≤ l.length ∧ l.length - k ≤ gg ∧ s = .int .i64 k ∧ Hid (Ext w wr) ∧ Hid (∀ j, j < k → badAt l j = false))
  case atStart => exact ⟨0, Nat.zero_le _, by omega, rfl, Lib.hid (Ext.refl w), Lib.hid fun j hj => absurd hj (Nat.not_lt_zero _)⟩
  case round =>
    obtain ⟨k, hk, hg, rfl, HW, HA⟩ := hrel
    by_cases hlt : k < l.length
    · obtain ⟨b, off, rfl, hb, hc, -⟩ := HV.out.at (by omega)
      obtain ⟨x, hx⟩ : ∃ x, l[k]? = some x := ⟨_, List.getElem?_eq_getElem hlt⟩
      obtain ⟨x0, x1⟩ := RWn.want (HV.out.ext HW.out) hx
      have hbad : badAt l k = (decide (x.1 < 1) || (l.take k).any fun y => decide (y.1 = x.1)) := by unfold badAt; rw [hx]
      have ba : b < wr.heap.size := Nat.lt_of_lt_of_le hb (Below.size HW.out)
      have HX := Lib.hid hx
      have HBad := Lib.hid hbad
      clear hx x1 hbad
      by_cases h1' : x.1 < 1
      · (exfalso; have := wrong_far hlt (by rw [HBad.out, decide_eq_true h1']; rfl); rw [HWR.out] at this; cases this)
      · have H1 := Lib.hid (decide_eq_false h1')
        obtain ⟨wo, rfl⟩ : ∃ wo : World, wo = wr := ⟨_, rfl⟩
        obtain ⟨gko, rfl⟩ : ∃ g : Nat, g = gk := ⟨_, rfl⟩
        have X0 := Lib.hid x0
        go_wp2
        clear x0
        go_loopg [9] k (fun gg s wr => ∃ m : Nat, m ≤ k ∧ k - m ≤ gg ∧ s = .int .i64 m ∧ Hid (Ext wo wr) ∧ Hid (∀ j y, j < m → l[j]? = some y → y.1 ≠ x.1))
        case atStart => exact ⟨0, Nat.zero_le _, by omega, rfl, Lib.hid (Ext.refl wo), Lib.hid fun j y hj => absurd hj (Nat.not_lt_zero _)⟩
        case round =>
          obtain ⟨m, hm, hg2, rfl, HW2, HB⟩ := hrel
          by_cases hlt2 : m < k
          · obtain ⟨y, hy⟩ : ∃ y, l[m]? = some y := ⟨_, List.getElem?_eq_getElem (by omega)⟩
            obtain ⟨y0, y1⟩ := RWn.want (HV.out.ext (Ext.trans HW.out HW2.out)) hy
            have x0' := HW2.out.cells1 ba X0.out
            have ba' : b < wr.heap.size := Nat.lt_of_lt_of_le ba (Below.size HW2.out)
            have HY := Lib.hid hy
            clear hy y1
            by_cases hxy : y.1 = x.1
            · (exfalso; have := wrong_far hlt (by rw [HBad.out, Bool.or_eq_true]; exact .inr (List.any_eq_true.2 ⟨y, List.mem_take_iff_getElem.2 ⟨m, by omega, (List.getElem?_eq_some_iff.1 HY.out).2⟩, by simpa using hxy⟩)); rw [HWR.out] at this; cases this)
            · have hq : (y.1 == x.1) = false := by rw [beq_eq_false_iff_ne]; exact hxy
              have HXY := Lib.hid hxy
              clear hxy
              go_wp2
              have e0 := fun (ψ : World → Prop) (e : ExtP wr.heap.size wr ψ) => e.cell x0' ba'
              have e1 := fun (ψ : World → Prop) (e : ExtP wr.heap.size wr ψ) => e.cell y0 ba'
              clear x0' y0
              refine wp_region_pieces 11  [(true, [0, 1, 2, 3, 4, 5, 6, 7, 8, 9, 10])] (by kernel_rfl) (by kernel_rfl) ?_; simp only [pick, List.map_cons, List.map_nil, List.flatMap_cons, List.flatMap_nil, Option.toList_some, List.singleton_append, List.drop_succ_cons, List.drop_zero, List.getElem?_cons_zero, List.getElem?_cons_succ]
              refine ⟨by kernel_rfl, ?_⟩; apply Exists.intro; refine ⟨fun ψ hψ hne => (by (repeat (go_big_quiet_step (( fail )))); exact wpQuiet_nil rfl), ?_⟩
              intro w1 h1
              clear e0 e1
              go_wp2
              go_roundg (k - (m + 1))
              case measure => omega
              case rel =>
                refine ⟨m + 1, by omega, by omega, by go_num, Lib.hid (Ext.trans HW2.out h1), Lib.hid fun j z hj hz => ?_⟩
                by_cases e : j = m
                · subst e
                  rw [HY.out] at hz
                  cases hz
                  exact HXY.out
                · exact HB.out j z (by omega) hz
          · obtain rfl : m = k := by omega
            go_wp2
            go_roundg (l.length - (m + 1))
            case measure => omega
            case rel =>
              refine ⟨m + 1, by omega, by omega, by go_num, Lib.hid (Ext.trans HW.out HW2.out), Lib.hid fun j hj => ?_⟩
              by_cases e : j = m
              · subst e
                rw [HBad.out, H1.out, Bool.false_or, List.any_eq_false]
                intro y hy
                obtain ⟨i, hi, rfl⟩ := List.getElem_of_mem hy
                simp only [List.length_take] at hi
                rw [List.getElem_take]
                simpa using HB.out i _ (by omega) (List.getElem?_eq_getElem (by omega))
              · exact HA.out j (by omega)
    · obtain rfl : k = l.length := by omega
      have hE := HW.out
      have hP := HP.out.ext hE
      have K := Lib.hid (rat_any n wr (HO.out.ext' hE))
      rw [HAt.out] at K
      have f0 := hE.cells1 gl c0
      have gl' := Nat.lt_of_lt_of_le gl (Below.size hE)
      have hP0 := Lib.hid hP
      have HE := Lib.hid hE
      clear hP hE HO HW HA
      go_wp2_with (go_at_call 79; refine K.out.mono ?_; rintro e w1 ⟨rfl, rfl⟩)
      obtain ⟨So, HSo⟩ : ∃ So : Nat → Prop, Hid (So = fun i => (Value.slice A2 ls.length c2).ownBlock = some i ∨ wr.heap.size ≤ i) := ⟨_, Lib.hid rfl⟩
      have hng : ¬ So g := by
        rw [HSo.out]
        rintro (h | h)
        · exact own_ne hP0.out.row hP0.out.hg (by decide) h
        · omega
      have HZ0 : Hid (∀ (W : World) b, Ext wr W → W.heap.size ≤ b → So b) := Lib.hid fun W b hW hb => by rw [HSo.out]; exact .inr (Nat.le_trans (Below.size hW) hb)
      have e0 : ∀ (ψ : World → Prop) (e : ExtS So wr ψ), e.val.cell? ⟨g, 0, none⟩ = some (.slice A2 ls.length c2) := fun ψ e => e.cell f0 gl' hng
      refine wp_region_piecesS So 12 [(true, [0, 1, 2, 3, 4, 5, 7]), (false, [6]), (false, [8]), (true, [9]), (false, [10]), (false, [11])] (by kernel_rfl) (by kernel_rfl) ?_
      simp only [pick, List.map_cons, List.map_nil, List.flatMap_cons, List.flatMap_nil, Option.toList_some, List.singleton_append, List.drop_succ_cons, List.drop_zero, List.getElem?_cons_zero, List.getElem?_cons_succ]
      refine ⟨by kernel_rfl, ?_⟩; apply Exists.intro; refine ⟨fun ψ hψ hne => (by (repeat (go_big_quiet_step (( fail )))); exact wpQuiet_nil rfl), ?_⟩
      intro W0 h0 K hK
      go_wp2_with fail
      refine hK _ _ (Mut.of_ext (extAl _ _)) ?_
      have HV0 := Lib.hid ((HV.out.ext HE.out).ext (Ext.trans h0 (extAl W0 (.cells #[] 98))))
      have hz0 := alloc_row0 W0 98 W0.heap.size 2 One (Nat.le_refl _)
      clear hK e0
      intro W1 h1 K hK
      have hl0 : W0.heap.size ≤ W1.heap.size := by have := Below.size h1; simp at this; omega
      obtain ⟨wv', W1', hr1, hw1, hb1, hgr1, -⟩ := app_rwant (B := W0.heap.size) (tx := 29) (ty := 29) (hz0.ext h1) ((HV0.out.ext h1).src Try.underlying29 (wncs_one l)) hl0 (wncs_one l) (by omega)
      simp only [Nat.zero_add, List.nil_append] at hw1
      obtain ⟨A3, c3, rfl⟩ := hw1.form
      have Hr1 := Lib.hid hr1
      have hx1 : Ext wr W1 := Ext.trans (Ext.trans h0 (extAl W0 (.cells #[] 98))) h1
      have hy1 : Ext wr W1' := Below.trans hx1 (hb1.mono (Below.size h0))
      have HW1 := Lib.hid hw1
      have MB1 : Hid (Mut So W1 W1') := Lib.hid (Mut.of_grown hgr1 fun b hb => HZ0.out _ b h0 (by simp [Value.ownBlock] at hb; omega))
      have HY1 := Lib.hid hy1
      clear hr1 hw1 hb1 hx1 hy1 hz0 h1 h0 hgr1
      go_wp2_with (at_builtin; refine wpList_app rfl (.tmp 61) (.tmp 62) 29 29 rfl Hr1.out ?_; simp only [Act.put])
      refine hK _ _ MB1.out ?_
      clear hK
      simp only [List.setIfInBounds_toArray, List.set_cons_zero, List.set_cons_succ]
      refine ⟨by kernel_rfl, ?_⟩; apply Exists.intro; refine ⟨fun ψ hψ hne => (by (repeat (go_big_quiet_step (( fail )))); exact wpQuiet_nil rfl), ?_⟩
      intro W2 h2 K hK
      go_wp2_with fail
      refine hK _ _ (Mut.of_ext (extAl _ _)) ?_
      clear hK
      have hx2 := extAl W2 (.cells #[.int .i64 n, .slice A3 l.length c3] 126)
      have HW2 := Lib.hid ((HW1.out.ext h2).ext hx2)
      have hE2 : Ext wr (W2.alloc (.cells #[.int .i64 n, .slice A3 l.length c3] 126)) := Ext.trans HY1.out (Ext.trans h2 hx2)
      have hn2 := heap_alloc_last W2 (.cells #[.int .i64 n, .slice A3 l.length c3] 126)
      intro W3 h3 K hK
      have hE3 : Ext wr W3 := Ext.trans hE2 h3
      have hn3 := Ext.blk h3 hn2
      have hsrc : Src Try.prog 2 45 (.slice (some ⟨W2.heap.size, 0, none⟩) 1 1) 1 (rnC ⟨.slice A3 l.length c3, (n, l)⟩) W3 := src_row Try.underlying45 hn3 rfl (by intro u hu; simp [rnC] at hu; rcases hu with rfl | rfl <;> rfl)
      obtain ⟨v', W3', hr3, hw3, hb3, hgr3, how3⟩ := app_task (ty := 45) (hP0.out.row.ext hE3) hsrc (Nat.zero_le _) (by intro u hu; simp [rnC] at hu; rcases hu with rfl | rfl <;> rfl) (by have := hP0.out.len; omega)
      obtain ⟨A4, c4, rfl⟩ := hw3.form
      have Hr3 := Lib.hid hr3
      have MB3 : Hid (Mut So W3 W3') := Lib.hid (Mut.of_grown hgr3 fun b hb => by rw [HSo.out]; exact .inl hb)
      have MG3 := Lib.hid hgr3
      have HO3 := Lib.hid how3
      have HW3 := Lib.hid hw3
      have HE3 := Lib.hid hE3
      have HWn := Lib.hid (HW2.out.ext h3)
      clear hr3 hgr3 how3 hw3 hE3 hb3 hsrc hn3 h3 hn2 hE2 HW2 hx2 h2
      go_wp2_with (at_builtin; refine wpList_app rfl (.tmp 59) (.tmp 65) 45 45 rfl Hr3.out ?_; simp only [Act.put])
      refine hK _ _ MB3.out ?_
      clear hK
      simp only [List.setIfInBounds_toArray, List.set_cons_zero, List.set_cons_succ]
      intro W4 h4
      have hown4 := HW3.out.ext h4
      have hrowE := hP0.out.row.ext HE3.out
      have hg3 := (MG3.out.block g (by have := Below.size HE3.out; omega) (Ne.symm (own_ne hrowE (Ext.blk HE3.out hP0.out.hg) (by decide)))).trans (Ext.blk HE3.out hP0.out.hg)
      have hg4 := Ext.blk h4 hg3
      obtain ⟨g0, gf, gl4⟩ := blk1 hg4
      have st := Lib.hid (set1_0 (.slice A4 (ls.length + 1) c4) hg4)
      have wnq : ∀ (v : Value) (m : Nat) (cs : List Value), OwnR W3 0 98 2 One v m cs → OwnR (W4.setRow g #[.slice A4 (ls.length + 1) c4]) 0 98 2 One v m cs := fun v m cs hh => by
        have q := hh.mutO (Mut.of_grown MG3.out (S := fun b => (Value.slice A2 ls.length c2).ownBlock = some b) fun b hb => hb) (fun b hb hb2 => own_own hh hrowE hb hb2 (by decide))
        exact (q.ext h4).set hg4 (by decide)
      have hM : Mut S w (W4.setRow g #[.slice A4 (ls.length + 1) c4]) := (((Mut.of_ext (Ext.trans HE.out HE3.out)).trans (Mut.of_grown MG3.out fun b hb => HP.out.sv b hb)).trans (Mut.of_ext h4)).trans (mut_setRow HP.out.sg _)
      have hsz3 : w.heap.size ≤ W3.heap.size := Below.size (Ext.trans HE.out HE3.out)
      have hF : RtP (W4.setRow g #[.slice A4 (ls.length + 1) c4]) (gr S w (W4.setRow g #[.slice A4 (ls.length + 1) c4])) g (.slice A4 (ls.length + 1) c4) (ls ++ [⟨.slice A3 l.length c3, (n, l)⟩]) :=
        hP0.out.push (w' := W4.setRow g #[.slice A4 (ls.length + 1) c4]) ⟨.slice A3 l.length c3, (n, l)⟩ (setRow_heap _ _ _ _ _ _ hg4) (hown4.set hg4 (by decide)) (wnq _ _ _ (HWn.out.mono (Nat.zero_le _))) (fun r hr => wnq _ _ _ ((hP0.out.wn r hr).ext HE3.out)) (fun i hi => .inl hi)
          (fun b hb => by
            rcases HO3.out b hb with hb | hb'
            · exact .inl (HP.out.sv b hb)
            · refine .inr ⟨by omega, ?_⟩
              have := (own_lt hown4 hb).2
              simpa [World.setRow] using this) (by omega) hwl
      have hmp : (ls ++ [(⟨.slice A3 l.length c3, (n, l)⟩ : Rn)]).map (·.p) = L ++ [(n, l)] := by rw [← HL.out]; simp
      have hR : RtAt (W4.setRow g #[.slice A4 (ls.length + 1) c4]) (gr S w (W4.setRow g #[.slice A4 (ls.length + 1) c4])) g (L ++ [(n, l)]) := ⟨_, _, hF, hmp⟩
      have hLl : ls.length = L.length := by rw [← HL.out]; simp
      have KM := rmay_any (i := ls.length) _ hR (by simp [hLl])
      rw [hasAt_some (p := (n, l)) (by rw [hLl]; simp), show (L ++ [(n, l)]).take ls.length = L by rw [hLl]; simp] at KM
      have FF := Lib.hid hR
      have FM := Lib.hid hM
      have HK := Lib.hid KM
      have n5 := (blk1 (setRow_heap W4 g _ #[.slice A4 (ls.length + 1) c4] _ _ hg4)).1
      clear hR hM KM hF hmp hown4 hrowE hg3 hg4 wnq h4 hLl
      go_upto_region 18 with fail
      rw [st.out]
      clear st g0 gf gl4
      generalize W4.setRow g #[.slice A4 (ls.length + 1) c4] = V at *
      go_wp2_with (go_at_call 80; refine HK.out.mono ?_; rintro e w5 ⟨rfl, h5⟩)
      go_ret2
      exact ⟨rfl, To.then_ext (D := rtOb g (L ++ [(n, l)])) ⟨FF.out, FM.out⟩ h5⟩
end Go.Proofs.Ytiihlbaajopllaa
