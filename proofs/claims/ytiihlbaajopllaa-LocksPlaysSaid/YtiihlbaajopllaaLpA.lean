/- Contracts of the document's table over objects side by side; like. -/
import Derived.Test.YtiihlbaajopllaaRtE
set_option linter.unusedVariables false
set_option maxRecDepth 100000
namespace Go.Proofs.Ytiihlbaajopllaa
open Go.RowKit

theorem rDrop_any {S : Nat → Prop} {g : Nat} {L : List Tk} (n : Int) (w : World) (h : RtAt w S g L) :
    Calls Try.prog 60 #[.pointer (some ⟨g, 0, none⟩), .int .i64 n] w fun e w' => ∃ v, e = .returned (.tuple #[v, .int .i64 (dropE L n)]) ∧ OwnR w' w.heap.size 3 1 One v (dropT L n).length (ics (dropT L n)) ∧ To S w w' (rtOb g (dropL L n)) := by
  unfold dropE dropT dropL
  cases hat : atL L n with
  | none => exact (rdrop_none n w h hat).mono fun r w' ⟨hr, hE⟩ => ⟨_, hr, OwnR.nil, To.of_ext (D := rtOb g L) h hE⟩
  | some i => exact rdrop_some n w h hat
section
variable {W w : World} {ds : List (Ob Zf)} {g : Nat} {L : List Tk}
theorem raskO (i : Nat) (h : OSt W ds w) (hi : ds[i]? = some (rtOb g L)) (n : Int) (l : List Wn) {v : Value} (hv : RWn w v l) (hl : l.length ≤ 1000000) :
    Calls Try.prog 59 #[.pointer (some ⟨g, 0, none⟩), .int .i64 n, v] w fun r w' => r = .returned (.tuple #[.bool (askB L n l), .int .i64 (askE L n l)]) ∧ OSt W (ds.set i (rtOb g (askL L n l))) w' := by
  obtain ⟨S, h1, _, h3, _⟩ := h.pick hi
  exact (rAsk_any n l w h1 hv hl).mono fun r w' ⟨hr, hT⟩ => ⟨hr, h3 _ _ hT⟩
theorem rhasO (i : Nat) (h : OSt W ds w) (hi : ds[i]? = some (rtOb g L)) (n : Int) :
    Calls Try.prog 62 #[.pointer (some ⟨g, 0, none⟩), .int .i64 n] w fun r w' => r = .returned (.bool (hasL L n)) ∧ Ext w w' := by
  obtain ⟨S, h1, _⟩ := h.pick hi
  exact rhas_any n w h1
theorem rrowO (i : Nat) (h : OSt W ds w) (hi : ds[i]? = some (rtOb g L)) :
    Calls Try.prog 61 #[.pointer (some ⟨g, 0, none⟩)] w fun r w' => ∃ v, r = .returned v ∧ OwnR w' w.heap.size 3 1 One v (L.map (·.1)).length (ics (L.map (·.1))) ∧ Ext w w' := by
  obtain ⟨S, h1, _⟩ := h.pick hi
  rw [List.length_map]
  exact rrow_any w h1
theorem rcopyO (i : Nat) (h : OSt W ds w) (hi : ds[i]? = some (rtOb g L)) :
    Calls Try.prog 20 #[.pointer (some ⟨g, 0, none⟩)] w fun r w' => ∃ g', r = .returned (.pointer (some ⟨g', 0, none⟩)) ∧ OSt W (rtOb g' L :: ds) w' := by
  obtain ⟨S, h1, _⟩ := h.pick hi
  exact (rcopy_any w h1).mono fun r w' ⟨g', hr, hd, hb⟩ => ⟨g', hr, h.pushN hb hd⟩
theorem rdropO (i : Nat) (h : OSt W ds w) (hi : ds[i]? = some (rtOb g L)) (n : Int) :
    Calls Try.prog 60 #[.pointer (some ⟨g, 0, none⟩), .int .i64 n] w fun r w' => ∃ v, r = .returned (.tuple #[v, .int .i64 (dropE L n)]) ∧ RIn w' v (dropT L n) ∧ OSt W (ds.set i (rtOb g (dropL L n))) w' := by
  obtain ⟨S, h1, _, h3, _⟩ := h.pick hi
  exact (rDrop_any n w h1).mono fun r w' ⟨v, hr, hv, hT⟩ => ⟨v, hr, hv.rr (by decide), h3 _ _ hT⟩
/-- A row of one's own, as an object. -/
theorem OSt.pushOwn {n : Nat} {v : Value} {cs : List Value} {w' : World} {T : TypeId} {sz : Nat} (h : OSt W ds w) (k : Ext w w') (ho : OwnR w' w.heap.size T sz One v n cs) (hn : 0 < n) (hT : T ≠ 98) :
    ∃ b c junk, v = .slice (some ⟨b, 0, none⟩) n c ∧ cs.length + junk.length = c * sz ∧ OSt W (rowOb b (.cells (cs ++ junk).toArray T (0, 0)) (nz hT) :: ds) w' := by
  obtain ⟨h0, ⟨_, hz⟩ | ⟨b, c, junk, rfl, hB, hb, hcl, _⟩⟩ := ho
  · omega
  · exact ⟨b, c, junk, rfl, hcl, h.push k (R := fun i => i = b) ⟨hb, rfl⟩ fun i hi => by omega⟩
end
theorem setCell_row {w : World} {g k : Nat} {cs : Array Value} {T : TypeId} (v : Value) (h : w.heap[g]? = some (.cells cs T (0, 0))) : w.setCell ⟨g, k, none⟩ v = w.setRow g (cs.setIfInBounds k v) := setCell_eq_setRow w g k cs T (0, 0) v h
theorem row_cell {w : World} {g k : Nat} {cs : Array Value} {T : TypeId} (h : w.heap[g]? = some (.cells cs T (0, 0))) (hk : k < cs.size) : w.cell? ⟨g, k, none⟩ = some cs[k] ∧ (∀ o, w.frozen? ⟨g, o, none⟩ = false) := by
  refine ⟨?_, fun o => by simp [World.frozen?, h]⟩
  rw [cell_of_row _ _ _ _ _ _ h]
  simp [hk]
set_option maxHeartbeats 4000000 in
theorem like_any {W w : World} {ds : List (Ob Zf)} {g g' : Nat} {L : List Tk} (i j : Nat) (h : OSt W ds w) (hi : ds[i]? = some (lkOb g L)) (hj : ds[j]? = some (rtOb g' L)) (n : Int) (hLl : L.length ≤ 16) :
    Calls Try.prog 22 #[.pointer (some ⟨g, 0, none⟩), .pointer (some ⟨g', 0, none⟩), .int .i64 n] w fun r w' => r = .returned (.bool true) ∧ OSt W ds w' := by
  have HI := Lib.hid hi
  have HJ := Lib.hid hj
  have H0 := Lib.hid h
  clear hi hj h
  obtain ⟨T, hT⟩ : ∃ T, T = L.map (·.1) := ⟨_, rfl⟩
  have hTl : T.length ≤ 16 := by rw [hT]; simpa using hLl
  have HT := Lib.hid hT
  clear hT
  have K1 := Lib.hid (rowO i H0.out HI.out)
  rw [← HT.out] at K1
  go_enter Try.func22, Try.ntmps22
  go_wp2_with fail
  refine K1.out.mono ?_
  rintro e w1 ⟨v1, rfl, hv1, h1⟩
  have H1 := Lib.hid (H0.out.ext h1)
  have K2 := Lib.hid (rrowO j H1.out HJ.out)
  rw [← HT.out] at K2
  have HV1 := Lib.hid hv1
  have HX1 := Lib.hid h1
  clear hv1 h1
  go_wp2_with fail
  refine K2.out.mono ?_
  rintro e w2 ⟨v2, rfl, hv2, h2⟩
  have HV2 := Lib.hid hv2
  have HX2 := Lib.hid h2
  have HV1' := Lib.hid (HV1.out.ext h2)
  have K3 := Lib.hid (Same_t T w2 (HV1'.out.rr (by decide)) (hv2.rr (by decide)) (by omega))
  have H2 := Lib.hid (H1.out.ext h2)
  clear hv2 h2 K1 K2
  by_cases h0 : T = []
  · subst h0
    obtain ⟨A1, c1, e1⟩ := HV1'.out.form
    obtain ⟨A2, c2, e2⟩ := HV2.out.form
    subst e1 e2
    go_wp2_with fail
    refine K3.out.mono ?_
    rintro e w3 ⟨rfl, h3⟩
    have H3 := Lib.hid (H2.out.ext h3)
    obtain ⟨b, hb⟩ : ∃ b, Hid (hasL L n = b) := ⟨_, Lib.hid rfl⟩
    have K4 := Lib.hid (hasO (i) H3.out HI.out n b hb.out)
    go_wp2_with fail
    refine K4.out.mono ?_
    rintro e w4 ⟨rfl, h4⟩
    have H4 := Lib.hid (H3.out.ext h4)
    have K5 := Lib.hid (rhasO (j) H4.out HJ.out n)
    rw [hb.out] at K5
    go_wp2_with fail
    refine K5.out.mono ?_
    rintro e w5 ⟨rfl, h5⟩
    have H5 := Lib.hid (H4.out.ext h5)
    clear h3 h4 h5
    go_wp2
    go_loop [9] (fun s => s = .int .i64 0) (fun s => 0)
    case atStart => rfl
    case round =>
      subst hrel
      go_wp2
      go_ret
      exact ⟨rfl, H5.out⟩
  · have hpos : 0 < T.length := List.length_pos_iff.2 h0
    clear h0
    obtain ⟨b1, c1, j1, rfl, hc1, o1⟩ := H0.out.pushOwn HX1.out HV1.out hpos (by decide)
    obtain ⟨b2, c2, j2, rfl, hc2, o2⟩ := o1.pushOwn HX2.out HV2.out hpos (by decide)
    replace H2 := Lib.hid o2
    replace HI : Hid ((rowOb b2 (.cells (ics T ++ j2).toArray 3 (0, 0)) (nz (by decide)) :: rowOb b1 (.cells (ics T ++ j1).toArray 3 (0, 0)) (nz (by decide)) :: ds)[i + 2]? = some (lkOb g L)) := HI
    replace HJ : Hid ((rowOb b2 (.cells (ics T ++ j2).toArray 3 (0, 0)) (nz (by decide)) :: rowOb b1 (.cells (ics T ++ j1).toArray 3 (0, 0)) (nz (by decide)) :: ds)[j + 2]? = some (rtOb g' L)) := HJ
    have hs1 : T.length ≤ (ics T ++ j1).toArray.size := by simp [ics_length]
    have hc1' : T.length ≤ c1 := by rw [ics_length] at hc1; omega
    have hc2' : T.length ≤ c2 := by rw [ics_length] at hc2; omega
    clear o1 o2 hc1 hc2
    go_wp2_with fail
    refine K3.out.mono ?_
    rintro e w3 ⟨rfl, h3⟩
    have H3 := Lib.hid (H2.out.ext h3)
    obtain ⟨b, hb⟩ : ∃ b, Hid (hasL L n = b) := ⟨_, Lib.hid rfl⟩
    have K4 := Lib.hid (hasO (i + 2) H3.out HI.out n b hb.out)
    go_wp2_with fail
    refine K4.out.mono ?_
    rintro e w4 ⟨rfl, h4⟩
    have H4 := Lib.hid (H3.out.ext h4)
    have K5 := Lib.hid (rhasO (j + 2) H4.out HJ.out n)
    rw [hb.out] at K5
    go_wp2_with fail
    refine K5.out.mono ?_
    rintro e w5 ⟨rfl, h5⟩
    have H5 := Lib.hid (H4.out.ext h5)
    clear h3 h4 h5
    clear K3 K4 K5 H4 H3 H2 H1 HV1 HV2 HV1' HX1 HX2
    go_wp2
    go_loopg [9] T.length (fun gg s wr => ∃ k : Nat, k ≤ T.length ∧ T.length - k ≤ gg ∧ s = .int .i64 k ∧ ∃ cs : Array Value, T.length ≤ cs.size ∧ Hid (OSt W (rowOb b2 (.cells (ics T ++ j2).toArray 3 (0, 0)) (nz (by decide)) :: rowOb b1 (.cells cs 3 (0, 0)) (nz (by decide)) :: ds) wr))
    case atStart => exact ⟨0, Nat.zero_le _, by omega, rfl, _, hs1, H5⟩
    case round =>
      obtain ⟨k, hk, hg, rfl, cs, hcs, H⟩ := hrel
      by_cases hlt : k < T.length
      · obtain ⟨q, hq⟩ : ∃ q, T[k]? = some q := ⟨_, List.getElem?_eq_getElem hlt⟩
        have r2 := H.out.get 0 rfl
        have r1 := H.out.get 1 rfl
        have x0 := RIn.num (rin_row (c := c2) r2 hc2') hq
        simp only [Nat.zero_add] at x0
        have hb2l := heap_lt r2
        obtain ⟨bq, hbq⟩ : ∃ b, Hid (hasL L q = b) := ⟨_, Lib.hid rfl⟩
        have HR1 := Lib.hid r1
        clear r1 r2 hq
        go_wp2
        have e0 := fun (ψ : World → Prop) (e : ExtP wr.heap.size wr ψ) => e.cell x0 hb2l
        clear x0
        have KA : Hid (∀ (ψ : World → Prop) (e : ExtP wr.heap.size wr ψ), Calls Try.prog 17 #[.pointer (some ⟨g, 0, none⟩), .int .i64 q] e.val fun r w' => r = .returned (.bool bq) ∧ Below e.val.heap.size e.val w') := Lib.hid fun ψ e => hasO (i + 2) (H.out.ext e.ok) HI.out q bq hbq.out
        have KB : Hid (∀ (ψ : World → Prop) (e : ExtP wr.heap.size wr ψ), Calls Try.prog 62 #[.pointer (some ⟨g', 0, none⟩), .int .i64 q] e.val fun r w' => r = .returned (.bool bq) ∧ Below e.val.heap.size e.val w') := Lib.hid fun ψ e => by rw [← hbq.out]; exact rhasO (j + 2) (H.out.ext e.ok) HJ.out q
        refine wp_region_pieces 13  [(true, [0, 1, 2, 3, 4, 5, 6, 7, 8, 9, 10, 11, 12])] (by kernel_rfl) (by kernel_rfl) ?_; simp only [pick, List.map_cons, List.map_nil, List.flatMap_cons, List.flatMap_nil, Option.toList_some, List.singleton_append, List.drop_succ_cons, List.drop_zero, List.getElem?_cons_zero, List.getElem?_cons_succ]
        refine ⟨by kernel_rfl, ?_⟩; apply Exists.intro; refine ⟨fun ψ hψ hne => (by (repeat (go_big_quiet_step (( first | (go_at_call 17; exact extP_of hψ (Nat.le_refl _) (KA.out _ _)) | (go_at_call 62; exact extP_of hψ (Nat.le_refl _) (KB.out _ _)) )))); exact wpQuiet_nil rfl), ?_⟩
        intro w6 h6
        clear e0 KA KB
        have H6 := H.out.ext h6
        have r6 := H6.get 1 rfl
        obtain ⟨y0, yf⟩ := row_cell (k := k) r6 (by omega)
        have st := Lib.hid (setCell_row (k := k) (.int .i64 (-7)) r6)
        have HN := Lib.hid (H6.row 1 rfl (cs.setIfInBounds k (.int .i64 (-7))) (nz (by decide)))
        have hcs' : T.length ≤ (cs.setIfInBounds k (.int .i64 (-7))).size := by simpa using hcs
        have hl6 := heap_lt r6
        clear H6 r6 h6
        go_upto_region 7 with fail
        rw [st.out]
        go_wp2
        go_roundg (T.length - (k + 1))
        case measure => omega
        case rel => exact ⟨k + 1, by omega, by omega, by go_num, _, hcs', HN⟩
      · go_wp2
        go_ret
        exact ⟨rfl, (H.out.dropI 0).dropI 0⟩
end Go.Proofs.Ytiihlbaajopllaa
