/- Results: Tell. -/
import Derived.Test.YteahlnoonmfjhaaRsF
set_option linter.unusedVariables false
set_option maxRecDepth 100000
namespace Go.Proofs.Yteahlnoonmfjhaa
open Go.RowKit

set_option maxHeartbeats 8000000 in
theorem aTell_any (p : Int) (x : RsT) (rv : Value) (w : World) (hp : I64 p) (hk : x.Okw) (he : I64 x.e) (hr : EnR w rv x.ents) :
    Calls Try.prog 32 #[.int .i64 p, .agg (rsC x rv).toArray] w fun e w' => e = .returned (.tuple #[.string (str (aT p x).1), .int .i64 (aT p x).2]) ∧ Below w.heap.size w w' := by
  have KA := Lib.hid (fun w : World => told_any w)
  have hpw : (Lit.int .i64 p).wf = true := by
    obtain ⟨h1, h2⟩ := hp
    simp [Lit.wf, IntKind.min, IntKind.max, IntKind.signed, IntKind.bits]
    omega
  have HP := Lib.hid hpw
  have HK := Lib.hid hk
  have HE := Lib.hid hr
  clear hp hk hpw hr
  obtain ⟨R, hR⟩ : ∃ R, aT p x = R := ⟨_, rfl⟩
  rw [hR]
  have HR := Lib.hid hR
  clear hR
  go_enter Try.func32, Try.ntmps32
  go_wp2_with fail
  obtain ⟨W1, hW1⟩ : ∃ W1, w.alloc (.cells (rsC x rv).toArray 41) = W1 := ⟨_, rfl⟩
  have hx1 := extAl w (.cells (rsC x rv).toArray 41)
  have hga : W1.heap[w.heap.size]? = some (.cells (rsC x rv).toArray 41 (0, 0)) := by rw [← hW1]; exact heap_alloc_last _ _
  rw [hW1] at hx1 ⊢
  have hs1 : W1.heap.size = w.heap.size + 1 := by rw [← hW1]; simp
  clear hW1
  refine (KA.out W1).mono ?_
  rintro e w2 ⟨g, rfl, hm⟩
  obtain ⟨v, hl, hv, hfr⟩ := hm.look HP.out
  have hx2 : Ext w w2 := Ext.trans hx1 (Below.mono hm.bel (Nat.le_refl _))
  have hga2 := Ext.blk (w' := w2) hm.bel hga
  have HX := Lib.hid hx2
  have HG := Lib.hid hga2
  have hs2 : w.heap.size < w2.heap.size := by have := Below.size hm.bel; omega
  have hfr2 : ∀ b off n c, v = .slice (some ⟨b, off, none⟩) n c → w.heap.size < b := fun b off n c e => by have := hfr b off n c e; omega
  clear hga hx1 hga2 hx2 hm hs1 KA hfr
  cases hL : toldL p with
  | none =>
    rw [hL] at hl hv
    have hR0 : R = ([], 62) := by rw [← HR.out]; unfold aT; rw [hL]
    subst hR0
    clear HR
    go_wp2_with fail
    go_ret2
    exact ⟨rfl, HX.out⟩
  | some l =>
    rw [hL] at hl hv
    obtain ⟨hlm, hl4⟩ := toldL_mem hL
    have HLM := Lib.hid hlm
    simp only [Option.isSome, Option.getD] at hl hv
    obtain ⟨A, c, rfl⟩ := hv.form
    have HV := Lib.hid hv
    have HRR : Hid ((if x.e < 0 ∨ 63 < x.e then ([], 4) else finT (putAllR (if x.e = 0 then l else []) { x with e := 0 } (beN x.e 4))) = R) := Lib.hid (by rw [← HR.out]; unfold aT; rw [hL]; rfl)
    have c0 : w2.cell? ⟨w.heap.size, 0, none⟩ = some (.int .i64 x.e) := by rw [cell_of_row _ _ _ _ _ _ HG.out]; rfl
    clear hlm hv HR hL HP
    obtain ⟨N, hN⟩ : ∃ N, x.e = N := ⟨_, rfl⟩
    rw [hN] at c0 HRR he
    have HN := Lib.hid hN
    clear hN
    by_cases h0 : N < 0
    · have hR0 : R = ([], 4) := by rw [← HRR.out]; exact if_pos (.inl h0)
      subst hR0
      clear HRR
      go_wp2_with fail
      go_ret2
      exact ⟨rfl, HX.out⟩
    by_cases h63 : 63 < N
    · have hR0 : R = ([], 4) := by rw [← HRR.out]; exact if_pos (.inr h63)
      subst hR0
      clear HRR
      go_wp2_with fail
      go_ret2
      exact ⟨rfl, HX.out⟩
    have hF0 := HRR.out
    rw [if_neg (by omega)] at hF0
    have HF0 := Lib.hid hF0
    have hm : N % 4294967296 = N := by omega
    clear hF0 HRR
    go_upto_region 6 with fail
    go_wp2_with fail
    refine (Word_any (.slice none 0 0) [] N w2 RS.nil (by omega) (by omega) (Nat.zero_le _)).mono ?_
    rintro e w3 ⟨v3, rfl, o3, k3⟩
    have o3 : OwnZ w3 w2.heap.size 5 v3 (beN N 4) := o3.z
    obtain ⟨b4, hb4⟩ : ∃ b4, beN N 4 = b4 := ⟨_, rfl⟩
    have hb4l : Hid (b4.length = 4) := Lib.hid (by rw [← hb4]; exact beN_length _ _)
    rw [hb4] at o3 HF0
    obtain ⟨A3, c3, rfl⟩ := o3.rs.form
    clear hb4
    go_upto_region 7 with fail
    have hx4 := extAl w3 (.cells #[.slice A3 b4.length c3, .bool false] 134)
    have hw4 := heap_alloc_last w3 (.cells #[.slice A3 b4.length c3, .bool false] 134)
    have hga4 := Ext.blk (Ext.trans k3 hx4) HG.out
    have hs3 := Below.size k3
    have hlt3 := o3.lt
    have hlt2 : OffB (.slice A3 b4.length c3) w.heap.size := o3.off hs2
    have hWr : Wr (w3.alloc (.cells #[.slice A3 b4.length c3, .bool false] 134)) (w3.alloc (.cells #[.slice A3 b4.length c3, .bool false] 134)) w2.heap.size w3.heap.size w.heap.size 41 b4 (rsC x rv).toArray := ⟨⟨_, hw4, o3.ext hx4, hlt3, hlt2⟩, hga4, by omega, Mut.refl _ _, by simp; omega⟩
    have HWR := Lib.hid hWr
    have HX4 := Lib.hid (Ext.trans HX.out (Ext.trans k3 hx4))
    have HV4 := Lib.hid (HV.out.ext (Ext.trans k3 hx4))
    have hlb : ∀ b off n c1, Value.slice A l.length c = .slice (some ⟨b, off, none⟩) n c1 → b < w2.heap.size := fun b off n c1 e => by
      rcases HV.out with ⟨e2, _⟩ | ⟨b', off', c', e2, hb, _⟩
      · rw [e2] at e; cases e
      · rw [e2] at e; cases e; exact hb
    have HLB := Lib.hid hlb
    have HFR := Lib.hid hfr2
    have HRO : Hid (0 < x.ents.length → OffB rv w3.heap.size ∧ OffB rv w.heap.size) := Lib.hid fun hp => ⟨HE.out.off hp (by omega), HE.out.off hp (Nat.le_refl _)⟩
    have HEN4 := Lib.hid (HE.out.ext HX4.out)
    generalize w3.alloc (.cells #[.slice A3 b4.length c3, .bool false] 134) = w4 at *
    obtain ⟨gw, hgw⟩ : ∃ gw, w3.heap.size = gw := ⟨_, rfl⟩
    obtain ⟨ga, hga⟩ : ∃ ga, w.heap.size = ga := ⟨_, rfl⟩
    obtain ⟨B, hB⟩ : ∃ B, w2.heap.size = B := ⟨_, rfl⟩
    rw [hgw] at HWR HRO ⊢
    rw [hB] at HWR HLB
    rw [hga] at HWR HFR HRO ⊢
    have hgg : w.heap.size ≤ gw ∧ w.heap.size ≤ ga ∧ ga < B ∧ B ≤ gw := by omega
    have HGG := Lib.hid hgg
    clear hw4 hx4 hga4 hlb hWr hs3 hlt2 hlt3 HV HX hgg hs2 hl hfr2 HG HE c0 k3 o3 hm
    have ha := HWR.out.ha
    have gal := heap_lt ha
    have c0 : w4.cell? ⟨ga, 0, none⟩ = some (.int .i64 N) := by rw [cell_of_row _ _ _ _ _ _ ha, ← HN.out]; rfl
    have fa : ∀ o, w4.frozen? ⟨ga, o, none⟩ = false := fun o => by simp [World.frozen?, ha]
    have HS9 := Lib.hid (setCell_eq_setRow w4 ga 0 _ 41 (0, 0) (.int .i64 0) ha)
    have HROW : Hid ((rsC x rv).toArray.setIfInBounds 0 (.int .i64 0) = (rsC { x with e := 0 } rv).toArray) := Lib.hid rfl
    have HW6 := Lib.hid (HWR.out.clr (rsC { x with e := 0 } rv).toArray)
    have HEN6 : Hid (EnR (w4.setRow ga (rsC { x with e := 0 } rv).toArray) rv x.ents) := Lib.hid (RR.mutP HEN4.out (mut_setRow (S := fun i => i = ga) rfl _) (fun hp b off n c e hs => (HRO.out hp).2 b off n c e hs))
    have HK6 : Hid ({ x with e := 0 } : RsT).Okw := Lib.hid { HK.out with }
    clear ha HWR HEN4 HK hgw hga hB
    by_cases he0 : N = 0
    · have hF := HF0.out
      rw [if_pos he0] at hF
      have HF := Lib.hid hF
      clear hF HF0
      go_upto_region 10 with fail
      have HE0 := Lib.hid he0
      clear he0
      rw [HS9.out, HROW.out]
      clear HS9 HROW c0 fa
      generalize w4.setRow ga (rsC { x with e := 0 } rv).toArray = w6 at *
      go_wp2_with fail
      go_loopw [10, 38] (fun cv iv wr => ∃ (k : Nat) (bs : List UInt8) (x' : RsT) (rv' : Value), k ≤ l.length ∧ iv = .int .i64 k ∧ bs.length ≤ 4 + k * 20000 ∧ Hid (Wr w4 wr B gw ga 41 bs (rsC x' rv').toArray) ∧ Hid (finT (putAllR (l.drop k) x' bs) = R) ∧ Hid x'.Okw ∧ Hid (EnR wr rv' x'.ents) ∧ Hid (0 < x'.ents.length → OffB rv' gw ∧ OffB rv' ga)) (fun _ iv _ => l.length - (intOf iv).toNat)
      case atStart => exact ⟨0, b4, _, rv, Nat.zero_le _, rfl, by have := hb4l.out; omega, HW6, HF, HK6, HEN6, HRO⟩
      case round =>
        obtain ⟨k, bs, x', rv', hk, rfl, hbs, HW, HF, HO, HEN, HR2⟩ := hrel
        clear HW6 HK6 HEN6 HRO
        by_cases hkl : k < l.length
        · obtain ⟨y, hy⟩ : ∃ y, l[k]? = some y := ⟨_, List.getElem?_eq_getElem hkl⟩
          have hrs := HV4.out.mutF HW.out.mu (fun b off n c e => by
            have h1 := HFR.out b off n c e
            have h2 := HLB.out b off n c e
            have h3 := HGG.out
            omega)
          obtain ⟨b, off, rfl, hb, hc, cell⟩ := hrs.letter hy
          have hym := HLM.out y (List.mem_of_getElem? hy)
          have hdr : l.drop k = y :: l.drop (k + 1) := by
            rw [List.drop_eq_getElem_cons hkl]
            congr 1
            exact (List.getElem?_eq_some_iff.1 hy).2
          have hF := HF.out
          rw [hdr] at hF
          have K := putResult_any (c := y) hym wr HW.out.re HO.out (by have : k * 20000 ≤ 2 * 20000 := Nat.mul_le_mul_right _ (by omega); omega) HGG.out.2.2.1 HEN.out HR2.out
          obtain ⟨yn, hyn⟩ : ∃ yn : Int, (y.toNat : Int) = yn := ⟨_, rfl⟩
          rw [hyn] at cell K
          have HKK := Lib.hid K
          clear K hrs hdr hy hyn
          go_upto_region 13 with fail
          clear cell hb hc
          go_wp2_with fail
          refine HKK.out.mono ?_
          rintro e w5 ⟨rfl, h4⟩
          clear HKK
          cases hp : putR y x' with
          | none =>
            rw [hp] at h4
            have h4 : WrBad wr w5 gw ga := h4
            have hR0 : R = ([], 4) := by rw [← hF]; unfold putAllR; rw [hp]; rfl
            obtain ⟨⟨vb, hwb⟩, hmu⟩ := h4
            obtain ⟨c0, c1, f0, f1, gl⟩ := blk2 hwb
            have HB := Lib.hid (Below.trans HX4.out ((HW.out.mu.trans hmu).below (B := w.heap.size) (fun i hi => by have := HGG.out; omega) (Below.size HX4.out)))
            subst hR0
            clear hwb hmu hF HF h4 hp HW
            go_wp2_with fail
            go_ret2
            exact ⟨rfl, HB.out⟩
          | some z =>
            rw [hp] at h4
            have h4 : Wr wr w5 B gw ga 41 (bs ++ z) (rsC (clrR y x') (clrV y rv')).toArray := h4
            have hzl := putR_length hym hp
            have HF2 : Hid (finT (putAllR (l.drop (k + 1)) (clrR y x') (bs ++ z)) = R) := Lib.hid (by rw [← hF]; conv => rhs; unfold putAllR; rw [hp])
            obtain ⟨vb, hwb, -⟩ := h4.hw
            obtain ⟨c0, c1, f0, f1, gl⟩ := blk2 hwb
            have H4 := Lib.hid (HW.out.un h4)
            have HE5 : Hid (EnR w5 (clrV y rv') (clrR y x').ents ∧ (0 < (clrR y x').ents.length → OffB (clrV y rv') gw ∧ OffB (clrV y rv') ga)) := Lib.hid (by
              rcases clr_ents (x := x') (v := rv') hym with ⟨_, h1, h2⟩ | ⟨h1, h2⟩
              · rw [h1, h2]
                exact ⟨RR.nil, fun h => absurd h (by simp)⟩
              · rw [h1, h2]
                exact ⟨RR.mutP HEN.out h4.mu (fun hp b off n c e hs => by
                  rcases hs with hs | hs
                  · exact (HR2.out hp).1 b off n c e hs
                  · exact (HR2.out hp).2 b off n c e hs), HR2.out⟩)
            clear hwb hF HF h4 hp HW HEN HR2
            go_wp2_with fail
            go_roundw
            case rel => exact ⟨k + 1, bs ++ z, _, _, by omega, by go_num, by rw [List.length_append]; omega, H4, HF2, Lib.hid (clrR_ok HO.out), Lib.hid HE5.out.1, Lib.hid HE5.out.2⟩
            case measure => simp only [intOf]; omega
        · obtain rfl : k = l.length := by omega
          have hF := HF.out
          rw [List.drop_length] at hF
          have HF : Hid (finT (some (bs, x')) = R) := Lib.hid hF
          clear hF
          have hF := HF.out
          obtain ⟨Ae, ce, rfl⟩ := RR.form HEN.out
          obtain ⟨vb, hwb, hov, -⟩ := HW.out.hw
          obtain ⟨Ab, cb, rfl⟩ := hov.rs.form
          obtain ⟨c0, c1, f0, f1, gl⟩ := blk2 hwb
          have HLD := Lib.hid (ldRs HW.out.ha)
          have hBB := Below.trans HX4.out (HW.out.mu.below (B := w.heap.size) (fun i hi => by have := HGG.out; omega) (Below.size HX4.out))
          have KZ := Lib.hid (isZero_any x' Ae ce wr HO.out.ents)
          clear hwb HF
          by_cases ha0 : x' = rs0
          · have hR0 : R = (bs, 0) := by rw [← hF]; unfold finT; exact if_pos ha0
            have hz : decide (x' = rs0) = true := decide_eq_true ha0
            rw [hz] at KZ
            have HOV := Lib.hid hov
            have HB := Lib.hid hBB
            subst hR0
            clear hF ha0 hz hBB hov HW
            go_wp2_with (refine wpList_ld rfl 41 (.tmp 3) rfl HLD.out ?_; simp only [Act.put])
            refine KZ.out.mono ?_
            rintro e w7 ⟨rfl, k7⟩
            have cvt : (convert 47 9 (.slice Ab bs.length cb)).run Try.prog w7 = .ok (.string (str bs)) w7 := (HOV.out.rs.ext k7).conv Try.underlying47 Try.underlying5 Try.underlying9
            have c0' := (Below.cell (p := ⟨gw, 0, none⟩) k7 gl).trans c0
            have gl' : gw < w7.heap.size := Nat.lt_of_lt_of_le gl k7.size
            have HB7 := Lib.hid (Below.trans HB.out (Below.mono k7 (Below.size HB.out)))
            clear c0 c1 f0 f1 gl HB HOV k7
            go_wp2_with fail
            go_ret2
            exact ⟨rfl, HB7.out⟩
          · have hR0 : R = ([], 4) := by rw [← hF]; unfold finT; exact if_neg ha0
            have hz : decide (x' = rs0) = false := decide_eq_false ha0
            rw [hz] at KZ
            have HB := Lib.hid hBB
            subst hR0
            clear hF ha0 hz hBB hov HW c0 c1 f0 f1 gl
            go_wp2_with (refine wpList_ld rfl 41 (.tmp 3) rfl HLD.out ?_; simp only [Act.put])
            refine KZ.out.mono ?_
            rintro e w7 ⟨rfl, k7⟩
            have HB7 := Lib.hid (Below.trans HB.out (Below.mono k7 (Below.size HB.out)))
            clear HB k7
            go_wp2_with fail
            go_ret2
            exact ⟨rfl, HB7.out⟩
    · have hF := HF0.out
      rw [if_neg he0] at hF
      have HF : Hid (finT (some (b4, { x with e := 0 })) = R) := Lib.hid hF
      clear hF HF0
      go_upto_region 10 with fail
      rw [HS9.out, HROW.out]
      clear HS9 HROW c0 fa
      generalize w4.setRow ga (rsC { x with e := 0 } rv).toArray = w6 at *
      go_wp2_with fail
      go_loopw [10, 38] (fun cv iv wr => iv = .int .i64 0 ∧ Hid (Wr w4 wr B gw ga 41 b4 (rsC { x with e := 0 } rv).toArray) ∧ Hid (EnR wr rv x.ents)) (fun _ iv _ => 0)
      case atStart => exact ⟨rfl, HW6, HEN6⟩
      case round =>
        obtain ⟨rfl, HW, HEN⟩ := hrel
        clear HW6 HEN6
        obtain ⟨bs, rfl⟩ : ∃ bs, bs = b4 := ⟨_, rfl⟩
        obtain ⟨rv', rfl⟩ : ∃ r, r = rv := ⟨_, rfl⟩
        obtain ⟨x', hx'⟩ : ∃ x' : RsT, { x with e := 0 } = x' := ⟨_, rfl⟩
        have HEN : Hid (EnR wr rv' x'.ents) := by rw [← hx']; exact HEN
        rw [hx'] at HW HF HK6
        have HO := HK6
        clear hx' HK6
        have hF := HF.out
        obtain ⟨Ae, ce, rfl⟩ := RR.form HEN.out
        obtain ⟨vb, hwb, hov, -⟩ := HW.out.hw
        obtain ⟨Ab, cb, rfl⟩ := hov.rs.form
        obtain ⟨c0, c1, f0, f1, gl⟩ := blk2 hwb
        have HLD := Lib.hid (ldRs HW.out.ha)
        have hBB := Below.trans HX4.out (HW.out.mu.below (B := w.heap.size) (fun i hi => by have := HGG.out; omega) (Below.size HX4.out))
        have KZ := Lib.hid (isZero_any x' Ae ce wr HO.out.ents)
        clear hwb HF
        by_cases ha0 : x' = rs0
        · have hR0 : R = (bs, 0) := by rw [← hF]; unfold finT; exact if_pos ha0
          have hz : decide (x' = rs0) = true := decide_eq_true ha0
          rw [hz] at KZ
          have HOV := Lib.hid hov
          have HB := Lib.hid hBB
          subst hR0
          clear hF ha0 hz hBB hov HW
          go_wp2_with (refine wpList_ld rfl 41 (.tmp 3) rfl HLD.out ?_; simp only [Act.put])
          refine KZ.out.mono ?_
          rintro e w7 ⟨rfl, k7⟩
          have cvt : (convert 47 9 (.slice Ab bs.length cb)).run Try.prog w7 = .ok (.string (str bs)) w7 := (HOV.out.rs.ext k7).conv Try.underlying47 Try.underlying5 Try.underlying9
          have c0' := (Below.cell (p := ⟨gw, 0, none⟩) k7 gl).trans c0
          have gl' : gw < w7.heap.size := Nat.lt_of_lt_of_le gl k7.size
          have HB7 := Lib.hid (Below.trans HB.out (Below.mono k7 (Below.size HB.out)))
          clear c0 c1 f0 f1 gl HB HOV k7
          go_wp2_with fail
          go_ret2
          exact ⟨rfl, HB7.out⟩
        · have hR0 : R = ([], 4) := by rw [← hF]; unfold finT; exact if_neg ha0
          have hz : decide (x' = rs0) = false := decide_eq_false ha0
          rw [hz] at KZ
          have HB := Lib.hid hBB
          subst hR0
          clear hF ha0 hz hBB hov HW c0 c1 f0 f1 gl
          go_wp2_with (refine wpList_ld rfl 41 (.tmp 3) rfl HLD.out ?_; simp only [Act.put])
          refine KZ.out.mono ?_
          rintro e w7 ⟨rfl, k7⟩
          have HB7 := Lib.hid (Below.trans HB.out (Below.mono k7 (Below.size HB.out)))
          clear HB k7
          go_wp2_with fail
          go_ret2
          exact ⟨rfl, HB7.out⟩
end Go.Proofs.Yteahlnoonmfjhaa
