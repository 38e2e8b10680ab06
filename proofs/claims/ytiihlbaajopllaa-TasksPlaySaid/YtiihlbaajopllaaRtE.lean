/- The document's table: Ask whole; Drop. -/
import Derived.Test.YtiihlbaajopllaaRtD
set_option linter.unusedVariables false
set_option maxRecDepth 100000
namespace Go.Proofs.Ytiihlbaajopllaa
open Go.RowKit

theorem rask_neg {v : Value} {g : Nat} (n : Int) (l : List Wn) (w : World) (hv : RWn w v l) (hn : n < 0) :
    Calls Try.prog 59 #[.pointer (some ⟨g, 0, none⟩), .int .i64 n, v] w fun e w' => e = .returned (.tuple #[.bool false, .int .i64 1]) ∧ Ext w w' := by
  obtain ⟨A, c, rfl⟩ := hv.form
  clear hv
  go_enter Try.func59, Try.ntmps59
  go_wp2
  go_ret2
  exact ⟨rfl, Ext.refl _⟩
theorem rAsk_any {S : Nat → Prop} {g : Nat} {L : List Tk} {v : Value} (n : Int) (l : List Wn) (w : World) (h : RtAt w S g L) (hv : RWn w v l) (hll : l.length ≤ 1000000) :
    Calls Try.prog 59 #[.pointer (some ⟨g, 0, none⟩), .int .i64 n, v] w fun e w' => e = .returned (.tuple #[.bool (askB L n l), .int .i64 (askE L n l)]) ∧ To S w w' (rtOb g (askL L n l)) := by
  have ho : (rtOb g L).is w S := h
  by_cases hn : n < 0
  · have e : askE L n l = 1 := by unfold askE; rw [if_pos (.inl hn)]
    rw [show askL L n l = L by unfold askL; rw [if_neg (by omega)], show askB L n l = false by unfold askB; rw [if_neg (by omega)], e]
    exact (rask_neg n l w hv hn).mono fun r w' ⟨hr, hE⟩ => ⟨hr, To.of_ext ho hE⟩
  cases hwr : wrongL l with
  | true =>
    have e : askE L n l = 1 := by unfold askE; rw [if_pos (.inr hwr)]
    rw [show askL L n l = L by unfold askL; rw [if_neg (by omega)], show askB L n l = false by unfold askB; rw [if_neg (by omega)], e]
    exact (rask_bad n l w h hv hll hwr hn).mono fun r w' ⟨hr, hE⟩ => ⟨hr, To.of_ext ho hE⟩
  | false =>
    have hwl : l.length ≤ 4 := by
      have := hwr
      unfold wrongL at this
      simp only [Bool.or_eq_false_iff, decide_eq_false_iff_not] at this
      omega
    have e0 := askE_full (L := L) hn hwr
    cases hat : atL L n with
    | some i =>
      have e : askE L n l = 6 := by rw [e0, hat]; rfl
      rw [show askL L n l = L by unfold askL; rw [if_neg (by omega)], show askB L n l = false by unfold askB; rw [if_neg (by omega)], e]
      exact (rask_twice n l w h hv hwr hn hwl hat).mono fun r w' ⟨hr, hE⟩ => ⟨hr, To.of_ext ho hE⟩
    | none =>
      by_cases hf : 16 ≤ L.length
      · have e : askE L n l = 3 := by rw [e0, hat, if_neg (by simp), if_pos hf]
        rw [show askL L n l = L by unfold askL; rw [if_neg (by omega)], show askB L n l = false by unfold askB; rw [if_neg (by omega)], e]
        exact (rask_full n l w h hv hwr hn hwl hat hf).mono fun r w' ⟨hr, hE⟩ => ⟨hr, To.of_ext ho hE⟩
      · have e : askE L n l = 0 := by rw [e0, hat, if_neg (by simp), if_neg hf]
        rw [show askL L n l = L ++ [(n, l)] by unfold askL; rw [if_pos e], show askB L n l = mayB L l by unfold askB; rw [if_pos e], e]
        exact rask_push n l w h hv hwr hn hwl hat hf

theorem app_bool {w : World} {B n : Nat} {v x : Value} {cs : List Value} {m : Nat} {new : List Value} {tx ty : TypeId} (ho : OwnR w B 4 1 One v n cs) (hs : Src Try.prog 1 tx x m new w) (hB : B ≤ w.heap.size) (hn : ∀ u ∈ new, One u) (hc : n + m ≤ 100000000) :
    ∃ v' w', (Builtin.append_ #[127, tx] ty #[v, x]).run Try.prog w = .ok v' w' ∧ OwnR w' B 4 1 One v' (n + m) (cs ++ new) ∧ Below B w w' := by
  have h : (Try.prog.info? 4).map (fun i => (i.zero, i.size, i.bytes)) = some (some (.bool false), 1, 1) := by kernel_rfl
  obtain ⟨i, hi, hz0, hz1, hz2⟩ := info_prt h
  obtain ⟨v', w', h1, h2, h3, _⟩ := appG (ty := ty) Try.underlying127 hi hz1 hz0 rfl ho hs hB (by omega) hn (by intro u hu; simp [Value.cells] at hu; subst hu; rfl) (by rw [hz2]; omega) (by omega)
  exact ⟨v', w', h1, h2, h3⟩
/-- Parts of a row. -/
theorem RR.take {α : Type} {enc : α → List Value} {w : World} {sz b off c : Nat} {l : List α} (he : ∀ x, (enc x).length = sz) (h : RR w sz (.slice (some ⟨b, off, none⟩) l.length c) l.length (l.flatMap enc)) {k : Nat} (hk : k < l.length) : RR w sz (.slice (some ⟨b, off, none⟩) k c) k ((l.take k).flatMap enc) := by
  obtain ⟨b', off', hA, hb, hc, hj⟩ := h.at (by omega)
  simp only [Option.some.injEq, Addr.mk.injEq, and_true] at hA
  obtain ⟨rfl, rfl⟩ := hA
  have hl : (l.take k).length = k := by simp; omega
  have e : l.flatMap enc = (l.take k).flatMap enc ++ (l.drop k).flatMap enc := by rw [← List.flatMap_append, List.take_append_drop]
  refine ⟨by rw [flat_length he, hl], .inr ⟨b, off, c, rfl, hb, by omega, fun j hjl => ?_⟩⟩
  rw [hj j (by rw [e, List.length_append]; omega)]
  congr 1
  simp only [e]
  exact List.getElem_append_left hjl
theorem RR.drop {α : Type} {enc : α → List Value} {w : World} {sz b off c c' : Nat} {l : List α} (he : ∀ x, (enc x).length = sz) (h : RR w sz (.slice (some ⟨b, off, none⟩) l.length c) l.length (l.flatMap enc)) {k n : Nat} (hk : k ≤ l.length) (h0 : 0 < l.length) (hn : n = l.length - k) (hc : n ≤ c') : RR w sz (.slice (some ⟨b, off + k * sz, none⟩) n c') n ((l.drop k).flatMap enc) := by
  obtain ⟨b', off', hA, hb, _, hj⟩ := h.at h0
  simp only [Option.some.injEq, Addr.mk.injEq, and_true] at hA
  obtain ⟨rfl, rfl⟩ := hA
  have hl : (l.drop k).length = n := by simp; omega
  have hkl : ((l.take k).flatMap enc).length = k * sz := by rw [flat_length he]; congr 1; simp; omega
  have e : l.flatMap enc = (l.take k).flatMap enc ++ (l.drop k).flatMap enc := by rw [← List.flatMap_append, List.take_append_drop]
  refine ⟨by rw [flat_length he, hl], .inr ⟨b, off + k * sz, c', rfl, hb, hc, fun j hjl => ?_⟩⟩
  rw [show off + k * sz + j = off + (k * sz + j) by omega, hj (k * sz + j) (by rw [e, List.length_append]; omega)]
  congr 1
  simp only [e]
  rw [List.getElem_append_right (by omega)]
  congr 1
  omega
set_option maxHeartbeats 4000000 in
theorem rdrop_none {S : Nat → Prop} {g : Nat} {L : List Tk} (n : Int) (w : World) (h : RtAt w S g L) (hat : atL L n = none) :
    Calls Try.prog 60 #[.pointer (some ⟨g, 0, none⟩), .int .i64 n] w fun e w' => e = .returned (.tuple #[.slice none 0 0, .int .i64 5]) ∧ Ext w w' := by
  have K := Lib.hid (rat_any n w h)
  rw [show atI L n = -1 by unfold atI; rw [hat]] at K
  clear h hat
  go_enter Try.func60, Try.ntmps60
  go_wp2_with (go_at_call 79; refine K.out.mono ?_; rintro e w1 ⟨rfl, rfl⟩)
  go_ret2
  exact ⟨rfl, Ext.refl _⟩
theorem toldK_at {L : List Tk} {i k : Nat} (h : i ≤ k) : toldK L (L.eraseIdx i) i k = if !hasAt L (k + 1) && hasAt (L.eraseIdx i) k then ((L.eraseIdx i)[k]?.map (·.1)).toList else [] := by
  unfold toldK
  rw [show (if k < i then k else k + 1) = k + 1 from if_neg (by omega)]
set_option maxHeartbeats 4000000 in
theorem rdrop_some {S : Nat → Prop} {g i : Nat} {L : List Tk} (n : Int) (w : World) (h : RtAt w S g L) (hat : atL L n = some i) :
    Calls Try.prog 60 #[.pointer (some ⟨g, 0, none⟩), .int .i64 n] w fun e w' => ∃ v, e = .returned (.tuple #[v, .int .i64 0]) ∧ OwnR w' w.heap.size 3 1 One v (toldL L i).length (ics (toldL L i)) ∧ To S w w' (rtOb g (L.eraseIdx i)) := by
  have K := Lib.hid (rat_any n w h)
  rw [show atI L n = i by unfold atI; rw [hat]] at K
  have hi := atL_lt hat
  have HO := Lib.hid h
  obtain ⟨v, ls, hp, hL⟩ := h
  obtain ⟨A, c, rfl⟩ := hp.row.form
  have hlen := hp.len
  have hlL : ls.length = L.length := by rw [← hL]; simp
  rw [← hlL] at hi
  obtain ⟨r0, hr0⟩ : ∃ r, ls[i]? = some r := ⟨_, List.getElem?_eq_getElem hi⟩
  obtain ⟨gs, rfl, hgs, hcl, -, -⟩ := hp.task hr0
  obtain ⟨c0, -, gl⟩ := blk1 hp.hg
  have HP := Lib.hid hp
  have HL := Lib.hid hL
  have HlL := Lib.hid hlL
  clear hp hL hat hlL hr0
  go_enter Try.func60, Try.ntmps60
  go_wp2_with (go_at_call 79; refine K.out.mono ?_; rintro e w1 ⟨rfl, rfl⟩)
  go_loopg [7, 8] ls.length (fun gg u s wr => ∃ k : Nat, k ≤ ls.length ∧ ls.length - k ≤ gg ∧ s = .int .i64 k ∧ Hid (Ext w wr) ∧ Hid (OwnR wr w.heap.size 4 1 One u k (bcs ((List.range k).map (hasAt L)))))
  case atStart => exact ⟨0, Nat.zero_le _, by omega, rfl, Lib.hid (Ext.refl w), Lib.hid OwnR.nil⟩
  case round =>
    obtain ⟨k, hk, hg, rfl, HW, HB⟩ := hrel
    have f0 := HW.out.cells1 gl c0
    obtain ⟨A2, c2, rfl⟩ := HB.out.form
    have hwz := Below.size HW.out
    by_cases hlt : k < ls.length
    · have KM := Lib.hid (rmay_any (i := k) wr (HO.out.ext' HW.out) (by rw [← HlL.out]; exact hlt))
      obtain ⟨b, hb⟩ : ∃ b, b = hasAt L k := ⟨_, rfl⟩
      rw [← hb] at KM
      have HBb := Lib.hid hb
      clear hb
      go_wp2_with fail
      refine KM.out.mono ?_
      rintro e w2 ⟨rfl, h2⟩
      have hx := extAl w2 (.cells #[.bool b] 4)
      have hz2 := Below.size h2
      have hsrc : Src Try.prog 1 127 (.slice (some ⟨w2.heap.size, 0, none⟩) 1 1) 1 [.bool b] (w2.alloc (.cells #[.bool b] 4)) := src_row Try.underlying127 (heap_alloc_last w2 (.cells #[.bool b] 4)) rfl (by intro u hu; simp at hu; subst hu; rfl)
      obtain ⟨v', W2, hr2, ho2, hb2⟩ := app_bool (ty := 127) ((HB.out.ext h2).ext hx) hsrc (by simp; omega) (by intro u hu; simp at hu; subst hu; rfl) (by omega)
      have Hr := Lib.hid hr2
      have HO2 := Lib.hid ho2
      have HW2 := Lib.hid (Below.trans HW.out (Below.trans ((Ext.trans h2 hx).mono hwz) hb2))
      clear hr2 ho2 hb2 hsrc hx h2 hz2
      go_wp2_with (at_builtin; refine wpList_app rfl (.tmp 25) (.tmp 29) 127 127 rfl Hr.out ?_; simp only [Act.put])
      go_roundg (ls.length - (k + 1))
      case measure => omega
      case rel =>
        refine ⟨k + 1, by omega, by omega, by go_num, HW2, Lib.hid ?_⟩
        rw [List.range_succ, List.map_append, show bcs ((List.range k).map (hasAt L) ++ [k].map (hasAt L)) = bcs ((List.range k).map (hasAt L)) ++ [.bool (hasAt L k)] by simp [bcs], ← HBb.out]
        exact HO2.out
    · obtain rfl : k = ls.length := by omega
      have gl' := Nat.lt_of_lt_of_le gl hwz
      go_wp2_with fail
      obtain ⟨So, HSo⟩ : ∃ So : Nat → Prop, Hid (So = fun j => wr.heap.size ≤ j) := ⟨_, Lib.hid rfl⟩
      have hng : ¬ So g := by rw [HSo.out]; omega
      have e0 : ∀ (ψ : World → Prop) (e : ExtS So wr ψ), e.val.cell? ⟨g, 0, none⟩ = some (.slice (some ⟨gs, 0, none⟩) ls.length c) := fun ψ e => e.cell f0 gl' hng
      have hic : i ≤ c := by omega
      have hi1 : i + 1 ≤ ls.length := by omega
      have hrr := (HP.out.row.ext HW.out).rr (by omega)
      have hpre : RR wr 2 (.slice (some ⟨gs, 0, none⟩) i c) i (rncs (ls.take i)) := RR.take (enc := rnC) rnC_length hrr hi
      have hsuf : RR wr 2 (.slice (some ⟨gs, (i + 1) * 2, none⟩) (ls.length - (i + 1)) (c - (i + 1))) (ls.length - (i + 1)) (rncs (ls.drop (i + 1))) := by
        have := RR.drop (enc := rnC) (c' := c - (i + 1)) rnC_length hrr hi1 (by omega) rfl (by omega)
        rw [Nat.zero_add] at this
        exact this
      have hsuf0 : c = i + 1 → RR wr 2 (.slice (some ⟨gs, 0, none⟩) 0 0) 0 (rncs (ls.drop (i + 1))) := fun hc => by
        have hz : ls.length - (i + 1) = 0 := by omega
        have h1 := hsuf.1
        rw [hz] at h1
        exact ⟨h1, .inl ⟨some ⟨gs, 0, none⟩, 0, rfl, rfl⟩⟩
      have h1o := rncs_one fun r hr => (HP.out.wn r hr).one
      have ho1 : ∀ u ∈ rncs (ls.take i), One u := rncs_one fun r hr => (HP.out.wn r (List.mem_of_mem_take hr)).one
      have ho2 : ∀ u ∈ rncs (ls.drop (i + 1)), One u := rncs_one fun r hr => (HP.out.wn r (List.mem_of_mem_drop hr)).one
      have HPre := Lib.hid hpre
      have HSuf := Lib.hid hsuf
      have HSuf0 := Lib.hid hsuf0
      have HO1 := Lib.hid ho1
      have HO2 := Lib.hid ho2
      clear hrr hpre hsuf hsuf0 h1o ho1 ho2
      refine wp_region_piecesS So 17 [(true, [0, 2, 3, 4, 5, 6, 7, 9, 10, 11, 12, 13, 14, 15]), (false, [1]), (false, [8]), (false, [16])] (by kernel_rfl) (by kernel_rfl) ?_
      by_cases hci : c = i + 1
      · subst hci
        have HS := HSuf0.out rfl
        simp only [pick, List.map_cons, List.map_nil, List.flatMap_cons, List.flatMap_nil, Option.toList_some, List.singleton_append, List.drop_succ_cons, List.drop_zero, List.getElem?_cons_zero, List.getElem?_cons_succ]
        refine ⟨by kernel_rfl, ?_⟩; apply Exists.intro; refine ⟨fun ψ hψ hne => (by (repeat (go_big_quiet_step (( fail )))); exact wpQuiet_nil rfl), ?_⟩
        clear e0
        intro W0 h0 K hK
        go_wp2_with fail
        refine hK _ _ (Mut.of_ext (extAl _ _)) ?_
        clear hK
        have hx0 : Ext wr (W0.alloc (.cells #[] 126)) := Ext.trans h0 (extAl W0 _)
        have hz0 := alloc_row0 W0 126 W0.heap.size 2 One (Nat.le_refl _)
        have hs0 := Below.size h0
        intro W1 h1 K hK
        have hl0 : W0.heap.size ≤ W1.heap.size := by have := Below.size h1; simp at this; omega
        have hx1 := Ext.trans hx0 h1
        obtain ⟨v1, W1', hr1, hw1, hb1, hgr1, -⟩ := app_task (B := W0.heap.size) (tx := 45) (ty := 45) (hz0.ext h1) ((HPre.out.ext hx1).src Try.underlying45 HO1.out) hl0 HO1.out (by omega)
        simp only [Nat.zero_add, List.nil_append] at hw1
        obtain ⟨A3, c3, rfl⟩ := hw1.form
        have Hr1 := Lib.hid hr1
        have MB1 : Hid (Mut So W1 W1') := Lib.hid (Mut.of_grown hgr1 fun b hb => by rw [HSo.out]; simp [Value.ownBlock] at hb; omega)
        have HX1 : Hid (Ext wr W1') := Lib.hid (Below.trans hx1 (hb1.mono hs0))
        have HW1 := Lib.hid hw1
        clear hr1 hgr1 hb1 hw1 hx1 hz0 hx0 h0 h1
        go_wp2_with (at_builtin; refine wpList_app rfl (.tmp 32) (.tmp 38) 45 45 rfl Hr1.out ?_; simp only [Act.put])
        refine hK _ _ MB1.out ?_
        clear hK
        simp only [List.setIfInBounds_toArray, List.set_cons_zero, List.set_cons_succ]
        intro W2 h2 K hK
        have hl2 := Nat.le_trans hl0 (Nat.le_trans MB1.out.size (Below.size h2))
        have hx2 := Ext.trans HX1.out h2
        obtain ⟨v2, W2', hr2, hw2, hb2, hgr2, hov2⟩ := app_task (B := W0.heap.size) (tx := 45) (ty := 45) (HW1.out.ext h2) ((HS.ext hx2).src Try.underlying45 HO2.out) hl2 HO2.out (by omega)
        obtain ⟨A4, c4, rfl⟩ := hw2.form
        obtain ⟨m', hm'⟩ : ∃ m', m' = i + 0 := ⟨_, rfl⟩
        rw [← hm'] at hr2 hw2
        have Hm' := Lib.hid hm'
        clear hm'
        have Hr2 := Lib.hid hr2
        have MB2 : Hid (Mut So W2 W2') := Lib.hid (Mut.of_grown hgr2 fun b hb => by rw [HSo.out]; have := own_lt HW1.out hb; omega)
        have HX2 : Hid (Ext wr W2') := Lib.hid (Below.trans hx2 (hb2.mono hs0))
        have HW2 := Lib.hid hw2
        clear hr2 hgr2 hb2 hw2 hx2 h2 hov2
        go_wp2_with (at_builtin; refine wpList_app rfl (.tmp 39) (.tmp 46) 45 45 rfl Hr2.out ?_; simp only [Act.put])
        refine hK _ _ MB2.out ?_
        clear hK
        simp only [List.setIfInBounds_toArray, List.set_cons_zero, List.set_cons_succ]
        intro W3 h3
        have hE3 : Ext wr W3 := Ext.trans HX2.out h3
        have hg3 := Ext.blk hE3 (Ext.blk HW.out HP.out.hg)
        obtain ⟨g0, gf, gl3⟩ := blk1 hg3
        have hn : m' = (ls.eraseIdx i).length := by rw [List.length_eraseIdx, if_pos hi, Hm'.out]; omega
        have hrow3 : OwnR W3 W0.heap.size 126 2 One (.slice A4 m' c4) (ls.eraseIdx i).length (rncs (ls.eraseIdx i)) := by
          have := HW2.out.ext h3
          rw [List.eraseIdx_eq_take_drop_succ, show rncs (ls.take i ++ ls.drop (i + 1)) = rncs (ls.take i) ++ rncs (ls.drop (i + 1)) by simp [rncs], ← List.eraseIdx_eq_take_drop_succ, ← hn]
          exact this
        have hR : RtP (W3.setRow g #[.slice A4 m' c4]) (gr S w (W3.setRow g #[.slice A4 m' c4])) g (.slice A4 m' c4) (ls.eraseIdx i) :=
          { hg := setRow_heap _ _ _ _ _ _ hg3
            row := (hrow3.set hg3 (by decide)).mono (Nat.zero_le _)
            wn := fun r hr => ((HP.out.wn r (List.mem_of_mem_eraseIdx hr)).ext (Ext.trans HW.out hE3)).set hg3 (by decide)
            sg := .inl HP.out.sg
            sv := fun b hb => .inr (by have := own_lt hrow3 hb; refine ⟨by omega, ?_⟩; simpa [World.setRow] using this.2)
            len := by rw [← hn, Hm'.out]; omega
            wl := fun r hr => HP.out.wl r (List.mem_of_mem_eraseIdx hr) }
        have hmap : (ls.eraseIdx i).map (·.p) = L.eraseIdx i := by
          rw [← HL.out]
          apply List.ext_getElem?
          intro k
          rw [List.getElem?_map, List.getElem?_eraseIdx, List.getElem?_eraseIdx]
          split <;> simp
        have FR : Hid (RtAt (W3.setRow g #[.slice A4 m' c4]) (gr S w (W3.setRow g #[.slice A4 m' c4])) g (L.eraseIdx i)) := Lib.hid ⟨_, _, hR, hmap⟩
        have FM : Hid (Mut S w (W3.setRow g #[.slice A4 m' c4])) := Lib.hid ((Mut.of_ext (Ext.trans HW.out hE3)).trans (mut_setRow HP.out.sg _))
        have FB : Hid (OwnR (W3.setRow g #[.slice A4 m' c4]) w.heap.size 4 1 One (.slice A2 ls.length c2) ls.length (bcs ((List.range ls.length).map (hasAt L)))) := Lib.hid ((HB.out.ext hE3).set hg3 (by decide))
        have FP := Lib.hid hR
        have hmL : m' = (L.eraseIdx i).length := by rw [hn, ← hmap]; simp
        have HmL := Lib.hid hmL
        have st := Lib.hid (set1_0 (.slice A4 m' c4) hg3)
        have n5 := (blk1 hR.hg)
        have hm1' : m' ≤ ls.length - 1 := by rw [Hm'.out]; omega
        have hm2' : ls.length ≤ m' + 1 := by rw [Hm'.out]; omega
        clear hR hmap hrow3 hg3 hE3 h3 hn hmL
        go_upto_region 10 with fail
        rw [st.out]
        clear st g0 gf gl3
        obtain ⟨d0, df, dl⟩ := n5
        generalize W3.setRow g #[.slice A4 m' c4] = V at *
        go_wp2_with fail
        go_loopg [9, 10] m' (fun gg u s wr => ∃ k : Nat, i ≤ k ∧ k ≤ m' ∧ m' - k ≤ gg ∧ s = .int .i64 k ∧ Hid (Ext V wr) ∧ ∃ t : Nat, t ≤ k ∧ Hid (t = ((List.range k).flatMap (toldK L (L.eraseIdx i) i)).length) ∧ Hid (OwnR wr V.heap.size 3 1 One u t (ics ((List.range k).flatMap (toldK L (L.eraseIdx i) i)))))
        case atStart =>
          have hz : (List.range i).flatMap (toldK L (L.eraseIdx i) i) = [] := by
            rw [List.flatMap_eq_nil_iff]
            intro k hk
            exact toldK_ahead L (List.mem_range.1 hk)
          exact ⟨i, Nat.le_refl _, by omega, by omega, rfl, Lib.hid (Ext.refl V), 0, Nat.zero_le _, by rw [hz]; exact Lib.hid rfl, by rw [hz]; exact Lib.hid OwnR.nil⟩
        case round =>
          obtain ⟨k, hik, hk, hg, rfl, HV, t, htk, HT, HU⟩ := hrel
          obtain ⟨A5, c5, rfl⟩ := HU.out.form
          have d1 := HV.out.cells1 dl d0
          have hr : (List.range (k + 1)).flatMap (toldK L (L.eraseIdx i) i) = (List.range k).flatMap (toldK L (L.eraseIdx i) i) ++ toldK L (L.eraseIdx i) i k := by
            rw [List.range_succ, List.flatMap_append]; simp
          have HR := Lib.hid hr
          clear hr
          by_cases hlt : k < m'
          case pos =>
            (exfalso; have := Hm'.out; omega)
          case neg =>
            obtain rfl : k = m' := by omega
            have hf : t = (toldL L i).length ∧ OwnR wr V.heap.size 3 1 One (.slice A5 t c5) t (ics (toldL L i)) := by
              have e : (List.range k).flatMap (toldK L (L.eraseIdx i) i) = toldL L i := by unfold toldL; rw [← HmL.out]
              rw [← e]
              exact ⟨HT.out, HU.out⟩
            have HF := Lib.hid hf
            clear hf
            go_wp2
            go_ret2
            have hzV := FM.out.size
            refine ⟨_, rfl, ?_, To.then_ext (D := rtOb g (L.eraseIdx i)) ⟨FR.out, FM.out⟩ HV.out⟩
            rw [← HF.out.1]
            exact HF.out.2.mono hzV
      · have HS := HSuf.out
        simp only [pick, List.map_cons, List.map_nil, List.flatMap_cons, List.flatMap_nil, Option.toList_some, List.singleton_append, List.drop_succ_cons, List.drop_zero, List.getElem?_cons_zero, List.getElem?_cons_succ]
        refine ⟨by kernel_rfl, ?_⟩; apply Exists.intro; refine ⟨fun ψ hψ hne => (by (repeat (go_big_quiet_step (( fail )))); exact wpQuiet_nil rfl), ?_⟩
        clear e0
        intro W0 h0 K hK
        go_wp2_with fail
        refine hK _ _ (Mut.of_ext (extAl _ _)) ?_
        clear hK
        have hx0 : Ext wr (W0.alloc (.cells #[] 126)) := Ext.trans h0 (extAl W0 _)
        have hz0 := alloc_row0 W0 126 W0.heap.size 2 One (Nat.le_refl _)
        have hs0 := Below.size h0
        intro W1 h1 K hK
        have hl0 : W0.heap.size ≤ W1.heap.size := by have := Below.size h1; simp at this; omega
        have hx1 := Ext.trans hx0 h1
        obtain ⟨v1, W1', hr1, hw1, hb1, hgr1, -⟩ := app_task (B := W0.heap.size) (tx := 45) (ty := 45) (hz0.ext h1) ((HPre.out.ext hx1).src Try.underlying45 HO1.out) hl0 HO1.out (by omega)
        simp only [Nat.zero_add, List.nil_append] at hw1
        obtain ⟨A3, c3, rfl⟩ := hw1.form
        have Hr1 := Lib.hid hr1
        have MB1 : Hid (Mut So W1 W1') := Lib.hid (Mut.of_grown hgr1 fun b hb => by rw [HSo.out]; simp [Value.ownBlock] at hb; omega)
        have HX1 : Hid (Ext wr W1') := Lib.hid (Below.trans hx1 (hb1.mono hs0))
        have HW1 := Lib.hid hw1
        clear hr1 hgr1 hb1 hw1 hx1 hz0 hx0 h0 h1
        go_wp2_with (at_builtin; refine wpList_app rfl (.tmp 32) (.tmp 38) 45 45 rfl Hr1.out ?_; simp only [Act.put])
        refine hK _ _ MB1.out ?_
        clear hK
        simp only [List.setIfInBounds_toArray, List.set_cons_zero, List.set_cons_succ]
        intro W2 h2 K hK
        have hl2 := Nat.le_trans hl0 (Nat.le_trans MB1.out.size (Below.size h2))
        have hx2 := Ext.trans HX1.out h2
        obtain ⟨v2, W2', hr2, hw2, hb2, hgr2, hov2⟩ := app_task (B := W0.heap.size) (tx := 45) (ty := 45) (HW1.out.ext h2) ((HS.ext hx2).src Try.underlying45 HO2.out) hl2 HO2.out (by omega)
        obtain ⟨A4, c4, rfl⟩ := hw2.form
        obtain ⟨m', hm'⟩ : ∃ m', m' = i + (ls.length - (i + 1)) := ⟨_, rfl⟩
        rw [← hm'] at hr2 hw2
        have Hm' := Lib.hid hm'
        clear hm'
        have Hr2 := Lib.hid hr2
        have MB2 : Hid (Mut So W2 W2') := Lib.hid (Mut.of_grown hgr2 fun b hb => by rw [HSo.out]; have := own_lt HW1.out hb; omega)
        have HX2 : Hid (Ext wr W2') := Lib.hid (Below.trans hx2 (hb2.mono hs0))
        have HW2 := Lib.hid hw2
        clear hr2 hgr2 hb2 hw2 hx2 h2 hov2
        go_wp2_with (at_builtin; refine wpList_app rfl (.tmp 39) (.tmp 46) 45 45 rfl Hr2.out ?_; simp only [Act.put])
        refine hK _ _ MB2.out ?_
        clear hK
        simp only [List.setIfInBounds_toArray, List.set_cons_zero, List.set_cons_succ]
        intro W3 h3
        have hE3 : Ext wr W3 := Ext.trans HX2.out h3
        have hg3 := Ext.blk hE3 (Ext.blk HW.out HP.out.hg)
        obtain ⟨g0, gf, gl3⟩ := blk1 hg3
        have hn : m' = (ls.eraseIdx i).length := by rw [List.length_eraseIdx, if_pos hi, Hm'.out]; omega
        have hrow3 : OwnR W3 W0.heap.size 126 2 One (.slice A4 m' c4) (ls.eraseIdx i).length (rncs (ls.eraseIdx i)) := by
          have := HW2.out.ext h3
          rw [List.eraseIdx_eq_take_drop_succ, show rncs (ls.take i ++ ls.drop (i + 1)) = rncs (ls.take i) ++ rncs (ls.drop (i + 1)) by simp [rncs], ← List.eraseIdx_eq_take_drop_succ, ← hn]
          exact this
        have hR : RtP (W3.setRow g #[.slice A4 m' c4]) (gr S w (W3.setRow g #[.slice A4 m' c4])) g (.slice A4 m' c4) (ls.eraseIdx i) :=
          { hg := setRow_heap _ _ _ _ _ _ hg3
            row := (hrow3.set hg3 (by decide)).mono (Nat.zero_le _)
            wn := fun r hr => ((HP.out.wn r (List.mem_of_mem_eraseIdx hr)).ext (Ext.trans HW.out hE3)).set hg3 (by decide)
            sg := .inl HP.out.sg
            sv := fun b hb => .inr (by have := own_lt hrow3 hb; refine ⟨by omega, ?_⟩; simpa [World.setRow] using this.2)
            len := by rw [← hn, Hm'.out]; omega
            wl := fun r hr => HP.out.wl r (List.mem_of_mem_eraseIdx hr) }
        have hmap : (ls.eraseIdx i).map (·.p) = L.eraseIdx i := by
          rw [← HL.out]
          apply List.ext_getElem?
          intro k
          rw [List.getElem?_map, List.getElem?_eraseIdx, List.getElem?_eraseIdx]
          split <;> simp
        have FR : Hid (RtAt (W3.setRow g #[.slice A4 m' c4]) (gr S w (W3.setRow g #[.slice A4 m' c4])) g (L.eraseIdx i)) := Lib.hid ⟨_, _, hR, hmap⟩
        have FM : Hid (Mut S w (W3.setRow g #[.slice A4 m' c4])) := Lib.hid ((Mut.of_ext (Ext.trans HW.out hE3)).trans (mut_setRow HP.out.sg _))
        have FB : Hid (OwnR (W3.setRow g #[.slice A4 m' c4]) w.heap.size 4 1 One (.slice A2 ls.length c2) ls.length (bcs ((List.range ls.length).map (hasAt L)))) := Lib.hid ((HB.out.ext hE3).set hg3 (by decide))
        have FP := Lib.hid hR
        have hmL : m' = (L.eraseIdx i).length := by rw [hn, ← hmap]; simp
        have HmL := Lib.hid hmL
        have st := Lib.hid (set1_0 (.slice A4 m' c4) hg3)
        have n5 := (blk1 hR.hg)
        have hm1' : m' ≤ ls.length - 1 := by rw [Hm'.out]; omega
        have hm2' : ls.length ≤ m' + 1 := by rw [Hm'.out]; omega
        clear hR hmap hrow3 hg3 hE3 h3 hn hmL
        go_upto_region 10 with fail
        rw [st.out]
        clear st g0 gf gl3
        obtain ⟨d0, df, dl⟩ := n5
        generalize W3.setRow g #[.slice A4 m' c4] = V at *
        go_wp2_with fail
        go_loopg [9, 10] m' (fun gg u s wr => ∃ k : Nat, i ≤ k ∧ k ≤ m' ∧ m' - k ≤ gg ∧ s = .int .i64 k ∧ Hid (Ext V wr) ∧ ∃ t : Nat, t ≤ k ∧ Hid (t = ((List.range k).flatMap (toldK L (L.eraseIdx i) i)).length) ∧ Hid (OwnR wr V.heap.size 3 1 One u t (ics ((List.range k).flatMap (toldK L (L.eraseIdx i) i)))))
        case atStart =>
          have hz : (List.range i).flatMap (toldK L (L.eraseIdx i) i) = [] := by
            rw [List.flatMap_eq_nil_iff]
            intro k hk
            exact toldK_ahead L (List.mem_range.1 hk)
          exact ⟨i, Nat.le_refl _, by omega, by omega, rfl, Lib.hid (Ext.refl V), 0, Nat.zero_le _, by rw [hz]; exact Lib.hid rfl, by rw [hz]; exact Lib.hid OwnR.nil⟩
        case round =>
          obtain ⟨k, hik, hk, hg, rfl, HV, t, htk, HT, HU⟩ := hrel
          obtain ⟨A5, c5, rfl⟩ := HU.out.form
          have d1 := HV.out.cells1 dl d0
          have hr : (List.range (k + 1)).flatMap (toldK L (L.eraseIdx i) i) = (List.range k).flatMap (toldK L (L.eraseIdx i) i) ++ toldK L (L.eraseIdx i) i k := by
            rw [List.range_succ, List.flatMap_append]; simp
          have HR := Lib.hid hr
          clear hr
          by_cases hlt : k < m'
          case pos =>
            obtain ⟨hb, hA, -, hblt, hbc, hbj⟩ := FB.out.cells (by omega)
            subst hA
            have hbk := hbj (k + 1) (by simp [bcs]; omega)
            simp only [bcs, List.getElem_map, List.getElem_range] at hbk
            have hb1 := HV.out.cells1 hblt hbk
            have hbc' := hbc (by omega)
            clear hbk hbj hbc
            have hk1 : k + 1 < ls.length := by omega
            cases hq : hasAt L (k + 1) with
            | true =>
              rw [hq] at hb1
              have HZ : Hid (toldK L (L.eraseIdx i) i k = []) := Lib.hid (by rw [toldK_at hik, hq]; rfl)
              clear hq
              go_wp2
              go_roundg (m' - (k + 1))
              case measure => omega
              case rel => exact ⟨k + 1, by omega, by omega, by omega, by go_num, HV, t, by omega, by rw [HR.out, HZ.out, List.append_nil]; exact HT, by rw [HR.out, HZ.out, List.append_nil]; exact HU⟩
            | false =>
              rw [hq] at hb1
              have KM := Lib.hid (rmay_any (i := k) wr (FR.out.ext' HV.out) (by rw [← HmL.out]; exact hlt))
              cases hq2 : hasAt (L.eraseIdx i) k with
              | false =>
                rw [hq2] at KM
                have HZ : Hid (toldK L (L.eraseIdx i) i k = []) := Lib.hid (by rw [toldK_at hik, hq2]; simp)
                clear hq hq2
                go_wp2_with (go_at_call 80; refine KM.out.mono ?_; rintro e w6 ⟨rfl, h6⟩)
                go_roundg (m' - (k + 1))
                case measure => omega
                case rel => exact ⟨k + 1, by omega, by omega, by omega, by go_num, Lib.hid (Ext.trans HV.out h6), t, by omega, by rw [HR.out, HZ.out, List.append_nil]; exact HT, by rw [HR.out, HZ.out, List.append_nil]; exact Lib.hid (HU.out.ext h6)⟩
              | true =>
                rw [hq2] at KM
                obtain ⟨r, hrk⟩ : ∃ r, (ls.eraseIdx i)[k]? = some r := ⟨_, List.getElem?_eq_getElem (by have := FP.out.row.1; have h3 := flat_length rnC_length (ls.eraseIdx i); unfold rncs at this; obtain ⟨_, _, hv⟩ := FP.out.row.form; cases hv; exact hlt)⟩
                have hL'k : (L.eraseIdx i)[k]? = some r.p := by
                  have : ((ls.eraseIdx i).map (·.p))[k]? = some r.p := by simp [hrk]
                  rw [← this]
                  congr 1
                  rw [← HL.out]
                  apply List.ext_getElem?
                  intro k
                  rw [List.getElem?_map, List.getElem?_eraseIdx, List.getElem?_eraseIdx]
                  split <;> simp
                have HZ : Hid (toldK L (L.eraseIdx i) i k = [r.p.1]) := Lib.hid (by rw [toldK_at hik, hq, hq2, hL'k]; rfl)
                obtain ⟨gs', hA', hgs', hcl', t0, -⟩ := FP.out.task hrk
                subst hA'
                clear hq hq2 hL'k hrk
                have t1 := HV.out.cells1 hgs' t0
                have hcm : m' ≤ c4 := by
                  obtain ⟨_, _, hv⟩ := FP.out.row.form
                  cases hv
                  exact hcl'
                clear hcl' t0
                have hzV := FM.out.size
                have hzr := Below.size HV.out
                go_wp2_with fail
                refine KM.out.mono ?_
                rintro e w6 ⟨rfl, h6⟩
                have t2 := Ext.cells1 h6 (Nat.lt_of_lt_of_le hgs' hzr) t1
                have d2 := Ext.cells1 h6 (Nat.lt_of_lt_of_le dl hzr) d1
                have hx := extAl w6 (.cells #[.int .i64 r.p.1] 3)
                have hz6 := Below.size h6
                have hsrc : Src Try.prog 1 28 (.slice (some ⟨w6.heap.size, 0, none⟩) 1 1) 1 [.int .i64 r.p.1] (w6.alloc (.cells #[.int .i64 r.p.1] 3)) := src_row Try.underlying28 (heap_alloc_last w6 (.cells #[.int .i64 r.p.1] 3)) rfl (by intro u hu; simp at hu; subst hu; rfl)
                obtain ⟨v', W7, hr7, ho7, hb7, -, -⟩ := app_int (ty := 28) ((HU.out.ext h6).ext hx) hsrc (by simp; omega) (by intro u hu; simp at hu; subst hu; rfl) (by omega)
                have Hr7 := Lib.hid hr7
                have HU7 := Lib.hid ho7
                have HV7 : Hid (Ext V W7) := Lib.hid (Below.trans HV.out (Below.trans (Below.mono (Ext.trans h6 hx) hzr) hb7))
                clear hr7 ho7 hb7 hsrc hx h6 hz6 t1 d1
                go_wp2_with (at_builtin; refine wpList_app rfl (.tmp 71) (.tmp 80) 28 28 rfl Hr7.out ?_; simp only [Act.put])
                go_roundg (m' - (k + 1))
                case measure => omega
                case rel =>
                  refine ⟨k + 1, by omega, by omega, by omega, by go_num, HV7, t + 1, by omega, Lib.hid ?_, Lib.hid ?_⟩
                  · rw [HR.out, HZ.out, List.length_append, ← HT.out]; rfl
                  · rw [HR.out, HZ.out, ics_app]; exact HU7.out
          case neg =>
            obtain rfl : k = m' := by omega
            have hf : t = (toldL L i).length ∧ OwnR wr V.heap.size 3 1 One (.slice A5 t c5) t (ics (toldL L i)) := by
              have e : (List.range k).flatMap (toldK L (L.eraseIdx i) i) = toldL L i := by unfold toldL; rw [← HmL.out]
              rw [← e]
              exact ⟨HT.out, HU.out⟩
            have HF := Lib.hid hf
            clear hf
            go_wp2
            go_ret2
            have hzV := FM.out.size
            refine ⟨_, rfl, ?_, To.then_ext (D := rtOb g (L.eraseIdx i)) ⟨FR.out, FM.out⟩ HV.out⟩
            rw [← HF.out.1]
            exact HF.out.2.mono hzV
end Go.Proofs.Ytiihlbaajopllaa
