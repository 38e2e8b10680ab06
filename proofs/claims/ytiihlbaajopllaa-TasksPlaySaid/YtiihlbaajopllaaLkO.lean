/- Walks of locks: Drop. -/
import Derived.Test.YtiihlbaajopllaaLkN
set_option linter.unusedVariables false
set_option maxRecDepth 100000
namespace Go.Proofs.Ytiihlbaajopllaa
open Go.RowKit

theorem drop_nil (n : Int) (w : World) : Calls Try.prog 15 #[.pointer none, .int .i64 n] w fun e w' => e = .returned (.tuple #[.slice none 0 0, .int .i64 2]) ∧ Below w.heap.size w w' := by
  go_enter Try.func15, Try.ntmps15
  go_wp2
  go_ret2
  exact ⟨rfl, extAl _ _⟩
theorem atL_lt {L : List Tk} {n : Int} {i : Nat} (h : atL L n = some i) : i < L.length := by
  rcases atL_spec L n with ⟨h1, _⟩ | ⟨j, p, h1, h2, _⟩
  · rw [h] at h1; cases h1
  · rw [h] at h1; cases h1; exact (List.getElem?_eq_some_iff.1 h2).1
/-- What a drop leaves: the list box behind the part that was struck out. -/
theorem map_erase (ns : List Nd) (i : Nat) : (ns.map (·.p)).eraseIdx i = (ns.eraseIdx i).map (·.p) := by
  apply List.ext_getElem?
  intro k
  rw [List.getElem?_eraseIdx, List.getElem?_map, List.getElem?_map, List.getElem?_map, List.getElem?_eraseIdx]
  split <;> rfl
theorem LkAt.mono' {w : World} {S S' : Nat → Prop} {g : Nat} {L : List Tk} (h : LkAt w S g L) (k : ∀ i, S i → S' i) : (lkOb g L).is w S' := (lkOb g L).mono h k
set_option maxHeartbeats 2000000 in
theorem Drop_any {S : Nat → Prop} {g : Nat} {L : List Tk} (n : Int) (w : World) (h : LkAt w S g L) :
    Calls Try.prog 15 #[.pointer (some ⟨g, 0, none⟩), .int .i64 n] w fun e w' => ∃ v, e = .returned (.tuple #[v, .int .i64 (dropE L n)]) ∧ OwnR w' w.heap.size 3 1 One v (dropT L n).length (ics (dropT L n)) ∧ To S w w' (lkOb g (dropL L n)) := by
  have hX := extAl w (.cells #[.pointer (some ⟨g, 0, none⟩)] 25)
  have hob : (lkOb g L).is w S := h
  obtain ⟨ns, hp, hL, hh⟩ := h
  have K := Lib.hid (find_any n _ (hp.ext hX))
  have b1 := heap_alloc_last w (.cells #[.pointer (some ⟨g, 0, none⟩)] 25)
  rcases LkAt.fnd hL n with ⟨h1, h2⟩ | ⟨i, x, h1, h2, hx, h3, h4⟩
  · have e : dropE L n = 5 := by unfold dropE; rw [h1]; rfl
    have e2 : dropL L n = L := by unfold dropL; rw [h1]
    have e3 : dropT L n = [] := by unfold dropT; rw [h1]
    rw [e, e2, e3]
    rw [h2] at K
    obtain ⟨P1, hP1⟩ := prevPtr_form ns (fndI ns n)
    rw [hP1] at K
    have HO := Lib.hid hob
    clear hp hL hh h1 h2 e e2 e3 hP1 b1 hob
    go_enter Try.func15, Try.ntmps15
    go_wp2_with (go_at_call 55; refine K.out.mono ?_; rintro e w1 ⟨rfl, h1⟩)
    go_ret2
    exact ⟨_, rfl, OwnR.nil, To.of_ext HO.out (Ext.trans hX h1)⟩
  · have e : dropE L n = 0 := by unfold dropE; rw [h1]; rfl
    have e2 : dropL L n = L.eraseIdx i := by unfold dropL; rw [h1]
    have e3 : dropT L n = toldL L i := by unfold dropT; rw [h1]
    rw [e, e2, e3]
    rw [h2, ptrAt_some hx] at K
    have hil := (List.getElem?_eq_some_iff.1 hx).1
    have HI := Lib.hid (atL_lt h1)
    have HL := Lib.hid hL
    have HM' : Hid (∀ (k : Nat) (y : Nd), (ns.eraseIdx i)[k]? = some y → y.has = hasAt L (if k < i then k else k + 1)) := Lib.hid fun k y hy => hh _ y (erase_at hy)
    have HP := Lib.hid hp
    have HX := Lib.hid hx
    have B1 := Lib.hid b1
    clear hob hL hh h1 h2 e e2 e3 h3 h4 b1 hp
    obtain ⟨P3, hP3⟩ := ptrAt_form ns (i + 1)
    cases i with
    | zero =>
      rw [show prevPtr ns 0 = .pointer none from rfl] at K
      go_enter Try.func15, Try.ntmps15
      go_wp2_with (go_at_call 55; refine K.out.mono ?_; rintro e w1 ⟨rfl, h1⟩)
      have hE1 : Ext w w1 := Ext.trans hX h1
      have hP1 := HP.out.ext hE1
      have hg1 := hP1.hg
      have hx1 := hP1.nd 0 x hx
      rw [hP3] at hx1
      have ht1 := Ext.blk h1 B1.out
      obtain ⟨t0, -, tl⟩ := blk1 ht1
      obtain ⟨-, -, -, x3, -, xl⟩ := blk4 hx1
      have gl := (blk1 hg1).2.2
      have HE1 := Lib.hid hE1
      have HT1 := Lib.hid ht1
      have HP1 := Lib.hid hP1
      have HG1 := Lib.hid hg1
      have HP3 := Lib.hid hP3
      clear hE1 hP1 hg1 hx1 ht1 h1 hX K hx hP3
      have e0 : ∀ ψ (e : ExtP w1.heap.size w1 ψ), e.val.cell? ⟨w.heap.size, 0, none⟩ = some (.pointer (some ⟨g, 0, none⟩)) := fun ψ e => e.cell t0 tl
      have e1 : ∀ ψ (e : ExtP w1.heap.size w1 ψ), e.val.cell? ⟨x.a, 3, none⟩ = some (.pointer P3) := fun ψ e => e.cell x3 xl
      refine wp_region_pieces 7  [(true, [0, 1, 2, 3, 4, 5, 6])] (by kernel_rfl) (by kernel_rfl) ?_; simp only [pick, List.map_cons, List.map_nil, List.flatMap_cons, List.flatMap_nil, Option.toList_some, List.singleton_append, List.drop_succ_cons, List.drop_zero, List.getElem?_cons_zero, List.getElem?_cons_succ]
      refine ⟨by kernel_rfl, ?_⟩; apply Exists.intro; refine ⟨fun ψ hψ hne => (by (repeat (go_big_quiet_step (( fail )))); exact wpQuiet_nil rfl), ?_⟩
      intro W1 h1
      clear e0 e1 t0 tl x3 xl
      have hP2 := HP1.out.ext h1
      have hg2 := hP2.hg
      obtain ⟨g0, gf, gl2⟩ := blk1 hg2
      have st := Lib.hid (set1_0 (.pointer P3) hg2)
      have hF := hP2.erase0 hil
      rw [HP3.out] at hF
      have HF := Lib.hid hF
      have HMV : Hid (Mut S w (W1.setRow g #[.pointer P3])) := Lib.hid ((Mut.of_ext (Ext.trans HE1.out h1)).trans (mut_setRow HP.out.sg _))
      have hne : g ≠ w.heap.size := fun e => by have := Ext.blk h1 HT1.out; rw [← e, hg2] at this; simp at this
      have HT := Lib.hid ((setRow_other W1 g w.heap.size #[.pointer P3] (Ne.symm hne)).trans (Ext.blk h1 HT1.out))
      clear hP2 hg2 hF h1
      go_upto_region 9 with fail
      rw [st.out]
      clear st g0 gf gl gl2
      generalize W1.setRow g #[.pointer P3] = V at *
      have hE3 := extAl V (.cells #[.slice none 0 0] 28)
      have hlb := heap_alloc_last V (.cells #[.slice none 0 0] 28)
      have OV := Lib.hid (dropOver (tb := w.heap.size) (lb := V.heap.size) (B := w.heap.size) w _ (HF.out.ext hE3) (by rw [← HL.out]; exact (map_erase ns _).symm) HI.out HM'.out ((HMV.out.mono (S' := fun i => S i ∨ w.heap.size ≤ i) fun i hi => .inl hi).trans (Mut.of_ext hE3)) (Nat.le_trans HMV.out.size (Below.size hE3)) HMV.out.size (Ext.blk hE3 HT.out) hlb)
      have t0 := (blk1 (Ext.blk hE3 HT.out)).1
      clear hE3 hlb
      go_wp2_with fail
      refine OV.out.mono ?_
      rintro e W ⟨rfl, hA, hMW, v, hb, hv⟩
      have c0 := (blk1 hb).1
      have FA := Lib.hid hA
      have FM := Lib.hid hMW
      have FV := Lib.hid hv
      clear hA hMW hv hb OV t0
      obtain ⟨A2, c2, rfl⟩ := FV.out.form
      go_wp2
      go_ret2
      exact ⟨_, rfl, FV.out, FA.out.mono' fun i hi => .inl hi, mut_new FM.out⟩
    | succ j =>
      obtain ⟨z, hz⟩ : ∃ z, ns[j]? = some z := ⟨_, List.getElem?_eq_getElem (by omega)⟩
      rw [show prevPtr ns (j + 1) = .pointer (some ⟨z.a, 0, none⟩) from ptrAt_some hz] at K
      go_enter Try.func15, Try.ntmps15
      go_upto_region 9 with (go_at_call 55; refine K.out.mono ?_; rintro e w1 ⟨rfl, h1⟩; have hE1 : Ext w w1 := Ext.trans hX h1; have hP1 := Lib.hid (HP.out.ext hE1); have hx1 := hP1.out.nd _ x hx; rw [hP3] at hx1; have hz1 := Lib.hid (hP1.out.nd j z hz); have x3 := (blk4 hx1).2.2.2.1; have zf := (blk4 hz1.out).2.2.2.2.1; have z3 := (blk4 hz1.out).2.2.2.1; clear hx1)
      rw [set4_3 (.pointer P3) hz1.out]
      have hF := hP1.out.erase1 hz hil
      rw [hP3] at hF
      have HF := Lib.hid hF
      have HMV : Hid (Mut S w (w1.setRow z.a #[.int .i64 z.p.1, z.wv, .bool z.has, .pointer P3])) := Lib.hid ((Mut.of_ext hE1).trans (mut_setRow (HP.out.sa j z hz) _))
      have ht1 := Ext.blk h1 B1.out
      have hne : z.a ≠ w.heap.size := fun e => by have := hz1.out; rw [e, ht1] at this; simp at this
      have HT := Lib.hid ((setRow_other w1 z.a w.heap.size #[.int .i64 z.p.1, z.wv, .bool z.has, .pointer P3] (Ne.symm hne)).trans ht1)
      clear hF ht1 hz1 hP1 x3 zf z3 h1 hE1 K hX
      generalize w1.setRow z.a #[.int .i64 z.p.1, z.wv, .bool z.has, .pointer P3] = V at *
      have hE3 := extAl V (.cells #[.slice none 0 0] 28)
      have hlb := heap_alloc_last V (.cells #[.slice none 0 0] 28)
      have OV := Lib.hid (dropOver (tb := w.heap.size) (lb := V.heap.size) (B := w.heap.size) w _ (HF.out.ext hE3) (by rw [← HL.out]; exact (map_erase ns _).symm) HI.out HM'.out ((HMV.out.mono (S' := fun i => S i ∨ w.heap.size ≤ i) fun i hi => .inl hi).trans (Mut.of_ext hE3)) (Nat.le_trans HMV.out.size (Below.size hE3)) HMV.out.size (Ext.blk hE3 HT.out) hlb)
      have t0 := (blk1 (Ext.blk hE3 HT.out)).1
      clear hE3 hlb
      go_wp2_with fail
      refine OV.out.mono ?_
      rintro e W ⟨rfl, hA, hMW, v, hb, hv⟩
      have c0 := (blk1 hb).1
      have FA := Lib.hid hA
      have FM := Lib.hid hMW
      have FV := Lib.hid hv
      clear hA hMW hv hb OV t0
      obtain ⟨A2, c2, rfl⟩ := FV.out.form
      go_wp2
      go_ret2
      exact ⟨_, rfl, FV.out, FA.out.mono' fun i hi => .inl hi, mut_new FM.out⟩
end Go.Proofs.Ytiihlbaajopllaa
