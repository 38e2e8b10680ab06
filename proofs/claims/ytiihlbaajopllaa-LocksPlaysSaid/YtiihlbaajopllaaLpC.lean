/- The law of locks: a step that drops. -/
import Derived.Test.YtiihlbaajopllaaLpB
set_option linter.unusedVariables false
set_option maxRecDepth 100000
namespace Go.Proofs.Ytiihlbaajopllaa
open Go.RowKit

set_option maxHeartbeats 4000000 in
theorem doDrop {W w : World} {ds : List (Ob Zf)} {g g' : Nat} {L : List Tk} (i j : Nat) (hij : i ≠ j) (h : OSt W ds w) (hi : ds[i]? = some (lkOb g L)) (hj : ds[j]? = some (rtOb g' L)) (k t : Int) (hk : k ≠ 0) {A : Option Addr} {n c : Nat} (hLl : L.length ≤ 16) :
    Calls Try.prog 21 #[.agg #[.int .u8 k, .int .i64 t, .slice A n c], .pointer (some ⟨g, 0, none⟩), .pointer (some ⟨g', 0, none⟩)] w fun r w' => r = .returned (.bool true) ∧ OSt W ((ds.set i (lkOb g (dropL L t))).set j (rtOb g' (dropL L t))) w' := by
  obtain ⟨ee, he⟩ : ∃ e, Hid (dropE L t = e) := ⟨_, Lib.hid rfl⟩
  obtain ⟨T, hT⟩ : ∃ T, Hid (dropT L t = T) := ⟨_, Lib.hid rfl⟩
  have hTl : T.length ≤ 1000000 := by
    rw [← hT.out]
    unfold dropT
    cases hat : atL L t with
    | none => simp
    | some i =>
      simp only
      unfold toldL
      have hk : ∀ k, (toldK L (L.eraseIdx i) i k).length ≤ 1 := fun k => by
        unfold toldK
        generalize (!hasAt L _ && hasAt (L.eraseIdx i) k) = b
        cases b
        · simp
        · cases (L.eraseIdx i)[k]? <;> simp
      have hl : ∀ l : List Nat, (l.flatMap (toldK L (L.eraseIdx i) i)).length ≤ l.length := fun l => by
        induction l with
        | nil => simp
        | cons a l ih => rw [List.flatMap_cons, List.length_append, List.length_cons]; have := hk a; omega
      have h1 := hl (List.range (L.eraseIdx i).length)
      have h2 : (L.eraseIdx i).length ≤ L.length := by rw [List.length_eraseIdx]; split <;> omega
      rw [List.length_range] at h1
      omega
  have HI := Lib.hid hi
  have HJ : Hid ((ds.set i (lkOb g (dropL L t)))[j]? = some (rtOb g' L)) := Lib.hid (by rw [List.getElem?_set_ne hij]; exact hj)
  have HA := Lib.hid (h.alloc (.cells #[.int .u8 k, .int .i64 t, .slice A n c] 31 (0, 0)) (nz (by decide)))
  have hkq : (k == 0) = false := by rw [beq_eq_false_iff_ne]; exact hk
  clear hi hj h hij hk
  have bx := HA.out.get 0 rfl
  obtain ⟨x0, x1, x2⟩ := opBox bx
  clear bx
  by_cases h0 : T = []
  · subst h0
    have K1 := Lib.hid (drop0 (i + 1) HA.out HI.out t ee _ hT.out he.out rfl)
    go_enter Try.func21, Try.ntmps21
    go_wp2_with fail
    refine K1.out.mono ?_
    rintro e1 w2 ⟨A2, c2, rfl, h2⟩
    have H2 : Hid (OSt W (rowOb w.heap.size (.cells #[.int .u8 k, .int .i64 t, .slice A n c] 31 (0, 0)) (nz (by decide)) :: ds.set i (lkOb g (dropL L t))) w2) := Lib.hid h2
    clear h2 x0 x1 x2 K1
    have bx := H2.out.get 0 rfl
    obtain ⟨x0, x1, x2⟩ := opBox bx
    clear bx
    have K2 := Lib.hid (rdropO (j + 1) H2.out HJ.out t)
    rw [hT.out, he.out] at K2
    go_wp2_with fail
    refine K2.out.mono ?_
    rintro e2 w3 ⟨v3, rfl, hv3, h3⟩
    have H3 := Lib.hid (OSt.dropI h3 0)
    have K3 := Lib.hid (Same_t [] w3 (rin_nil A2 c2) hv3 (by simp))
    obtain ⟨A3, c3, e3⟩ := hv3.form
    subst e3
    clear h3 x0 x1 x2 K2 hv3
    go_wp2_with fail
    refine K3.out.mono ?_
    rintro e4 w4 ⟨rfl, h4⟩
    have H4 := Lib.hid (H3.out.ext h4)
    clear h4 K3 H3
    go_wp2
    go_loop [18] (fun s => s = .int .i64 0) (fun s => 0)
    case atStart => rfl
    case round =>
      subst hrel
      go_wp2
      go_ret
      exact ⟨rfl, H4.out⟩
  · have hpos : 0 < T.length := List.length_pos_iff.2 h0
    clear h0
    have K1 := Lib.hid (drop1 (i + 1) HA.out HI.out t T ee _ hT.out hpos he.out rfl)
    go_enter Try.func21, Try.ntmps21
    go_wp2_with fail
    refine K1.out.mono ?_
    rintro e1 w2 ⟨gi, c2, junk, rfl, hc2, h2⟩
    have H2 : Hid (OSt W (rowOb gi (.cells (ics T ++ junk).toArray 3 (0, 0)) (nz (by decide)) :: rowOb w.heap.size (.cells #[.int .u8 k, .int .i64 t, .slice A n c] 31 (0, 0)) (nz (by decide)) :: ds.set i (lkOb g (dropL L t))) w2) := Lib.hid h2
    clear h2 x0 x1 x2 K1
    have bx := H2.out.get 1 rfl
    obtain ⟨x0, x1, x2⟩ := opBox bx
    clear bx
    have K2 := Lib.hid (rdropO (j + 1 + 1) H2.out HJ.out t)
    rw [hT.out, he.out] at K2
    go_wp2_with fail
    refine K2.out.mono ?_
    rintro e2 w3 ⟨v3, rfl, hv3, h3⟩
    have H3 : Hid (OSt W (rowOb gi (.cells (ics T ++ junk).toArray 3 (0, 0)) (nz (by decide)) :: rowOb w.heap.size (.cells #[.int .u8 k, .int .i64 t, .slice A n c] 31 (0, 0)) (nz (by decide)) :: (ds.set i (lkOb g (dropL L t))).set j (rtOb g' (dropL L t))) w3) := Lib.hid h3
    have K3 := Lib.hid (Same_t T w3 (rin_row (c := c2) (H3.out.get 0 rfl) hc2) hv3 (by omega))
    obtain ⟨A3, c3, e3⟩ := hv3.form
    subst e3
    have hsz : T.length ≤ (ics T ++ junk).toArray.size := by simp [ics_length]
    clear h3 x0 x1 x2 K2 hv3
    go_wp2_with fail
    refine K3.out.mono ?_
    rintro e4 w4 ⟨rfl, h4⟩
    have H4 := Lib.hid (H3.out.ext h4)
    clear h4 K3 H3
    go_wp2
    go_loopg [18] T.length (fun gg s wr => ∃ m : Nat, m ≤ T.length ∧ T.length - m ≤ gg ∧ s = .int .i64 m ∧ ∃ cs : Array Value, T.length ≤ cs.size ∧ Hid (OSt W (rowOb gi (.cells cs 3 (0, 0)) (nz (by decide)) :: rowOb w.heap.size (.cells #[.int .u8 k, .int .i64 t, .slice A n c] 31 (0, 0)) (nz (by decide)) :: (ds.set i (lkOb g (dropL L t))).set j (rtOb g' (dropL L t))) wr))
    case atStart => exact ⟨0, Nat.zero_le _, by omega, rfl, _, hsz, H4⟩
    case round =>
      obtain ⟨m, hm, hg, rfl, cs, hcs, H⟩ := hrel
      by_cases hlt : m < T.length
      · have r6 := H.out.get 0 rfl
        obtain ⟨y0, yf⟩ := row_cell (k := m) r6 (by omega)
        have st := Lib.hid (setCell_row (k := m) (.int .i64 (-7)) r6)
        have HN := Lib.hid (H.out.row 0 rfl (cs.setIfInBounds m (.int .i64 (-7))) (nz (by decide)))
        have hcs' : T.length ≤ (cs.setIfInBounds m (.int .i64 (-7))).size := by simpa using hcs
        have hl6 := heap_lt r6
        clear r6
        go_upto_region 15 with fail
        rw [st.out]
        go_wp2
        go_roundg (T.length - (m + 1))
        case measure => omega
        case rel => exact ⟨m + 1, by omega, by omega, by go_num, _, hcs', HN⟩
      · go_wp2
        go_ret
        exact ⟨rfl, (H.out.dropI 0).dropI 0⟩
theorem do_any {W w : World} {ds : List (Ob Zf)} {g g' : Nat} {L : List Tk} (i j : Nat) (hij : i ≠ j) (h : OSt W ds w) (hi : ds[i]? = some (lkOb g L)) (hj : ds[j]? = some (rtOb g' L)) (x : OpE) (hx : RWn W x.wv x.l) (hl : x.l.length ≤ 50) (hLl : L.length ≤ 16) :
    Calls Try.prog 21 #[.agg #[.int .u8 x.k, .int .i64 x.t, x.wv], .pointer (some ⟨g, 0, none⟩), .pointer (some ⟨g', 0, none⟩)] w fun r w' => r = .returned (.bool true) ∧ OSt W ((ds.set i (lkOb g (stepL L x))).set j (rtOb g' (stepL L x))) w' := by
  obtain ⟨A, c, e⟩ := hx.form
  by_cases hk : x.k = 0
  · rw [show stepL L x = askL L x.t x.l from if_pos hk, hk]
    exact doAsk i j hij h hi hj x.t x.l hx hl
  · rw [show stepL L x = dropL L x.t from if_neg hk, e]
    exact doDrop i j hij h hi hj x.k x.t hk hLl
theorem stepL_len {L : List Tk} (x : OpE) (h : L.length ≤ 16) : (stepL L x).length ≤ 16 := by
  unfold stepL
  split
  · unfold askL
    split
    · rename_i he
      rw [List.length_append, List.length_singleton]
      unfold askE at he
      split at he
      · omega
      · split at he
        · omega
        · split at he
          · omega
          · omega
    · exact h
  · unfold dropL
    split
    · rw [List.length_eraseIdx]; split <;> omega
    · exact h
end Go.Proofs.Ytiihlbaajopllaa
