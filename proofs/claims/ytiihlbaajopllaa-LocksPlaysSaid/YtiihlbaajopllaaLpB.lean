/- The law of locks: a step, by the program and by the document. -/
import Derived.Test.YtiihlbaajopllaaLpA
import Derived.Deep.MidRow
set_option linter.unusedVariables false
set_option maxRecDepth 100000
namespace Go.Proofs.Ytiihlbaajopllaa
open Go.RowKit

theorem setCells_row : ∀ (vs X old Y : List Value) (w : World) (g : Nat) (T : TypeId), w.heap[g]? = some (.cells (X ++ old ++ Y).toArray T (0, 0)) → old.length = vs.length → w.setCells g X.length vs = w.setRow g (X ++ vs ++ Y).toArray
  | [], X, old, Y, w, g, T, hg, hl => by
    obtain rfl : old = [] := List.length_eq_zero_iff.1 hl
    exact (setRow_self w g _ _ _ hg).symm
  | v :: vs, X, [], Y, w, g, T, hg, hl => by simp at hl
  | v :: vs, X, o :: old, Y, w, g, T, hg, hl => by
    have h1 : w.setCell ⟨g, X.length, none⟩ v = w.setRow g (X ++ [v] ++ old ++ Y).toArray := by
      rw [setCell_eq_setRow w g X.length _ T (0, 0) v hg]
      congr 1
      apply Array.ext'
      simp
    have h2 := setRow_heap w g _ (X ++ [v] ++ old ++ Y).toArray _ _ hg
    have ih := setCells_row vs (X ++ [v]) old Y (w.setRow g (X ++ [v] ++ old ++ Y).toArray) g T h2 (by simpa using hl)
    rw [List.length_append, List.length_singleton] at ih
    show (w.setCell ⟨g, X.length, none⟩ v).setCells g (X.length + 1) vs = _
    rw [h1, ih, setRow_setRow]
    simp
theorem OSt.mid {W w : World} {ds : List (Ob Zf)} (h : OSt W ds w) (i : Nat) {g : Nat} {cs : Array Value} {T : TypeId} {hz : ¬ Zf (.cells cs T (0, 0))} (hi : ds[i]? = some (rowOb g (.cells cs T (0, 0)) hz)) (hT : T ≠ 98) (ty : TypeId) (o : Nat) (vs : Array Value) (hsz : o + vs.size ≤ cs.size)
    (h1 : vs.all (·.oneCell') = true) (hin : (Try.prog.info? ty).map (·.size) = some vs.size) :
    ∃ cs' : Array Value, cs'.size = cs.size ∧ (Instr.storeAt ty (.pointer (some ⟨g, o, none⟩)) (.agg vs)).run Try.prog w = .ok () (w.setRow g cs') ∧ OSt W (ds.set i (rowOb g (.cells cs' T (0, 0)) (nz hT))) (w.setRow g cs') := by
  have hg := h.get i hi
  have ht : w.there g o vs.size := fun j hj => by
    refine ⟨?_, by simp [World.frozen?, hg]⟩
    rw [cell_of_row _ _ _ _ _ _ hg, Array.getElem?_eq_getElem (by omega)]
    rfl
  have e : cs.toList.take o ++ (cs.toList.drop o).take vs.size ++ cs.toList.drop (o + vs.size) = cs.toList := by
    rw [← List.drop_drop, List.append_assoc, List.take_append_drop, List.take_append_drop]
  have hl : (cs.toList.take o).length = o := by simp; omega
  have h2 := setCells_row vs.toList (cs.toList.take o) ((cs.toList.drop o).take vs.size) (cs.toList.drop (o + vs.size)) w g T (by rw [e]; exact hg) (by simp; omega)
  rw [hl] at h2
  refine ⟨_, ?_, by rw [run_storeAt_mid w g o _ _ ht hin h1, h2], h.row i hi _ (nz hT)⟩
  simp
  omega
def stepL (L : List Tk) (x : OpE) : List Tk := if x.k = 0 then askL L x.t x.l else dropL L x.t
theorem opBox {w : World} {b : Nat} {k t : Int} {A : Option Addr} {n c : Nat} {T : TypeId} (h : w.heap[b]? = some (.cells #[.int .u8 k, .int .i64 t, .slice A n c] T (0, 0))) :
    w.cell? ⟨b, 0, none⟩ = some (.int .u8 k) ∧ w.cell? ⟨b, 1, none⟩ = some (.int .i64 t) ∧ w.cell? ⟨b, 2, none⟩ = some (.slice A n c) :=
  ⟨by simp [World.cell?, h], by simp [World.cell?, h], by simp [World.cell?, h]⟩
set_option maxHeartbeats 4000000 in
theorem doAsk {W w : World} {ds : List (Ob Zf)} {g g' : Nat} {L : List Tk} (i j : Nat) (hij : i ≠ j) (h : OSt W ds w) (hi : ds[i]? = some (lkOb g L)) (hj : ds[j]? = some (rtOb g' L)) (t : Int) (l : List Wn) {wv : Value} (hx : RWn W wv l) (hl : l.length ≤ 50) :
    Calls Try.prog 21 #[.agg #[.int .u8 0, .int .i64 t, wv], .pointer (some ⟨g, 0, none⟩), .pointer (some ⟨g', 0, none⟩)] w fun r w' => r = .returned (.bool true) ∧ OSt W ((ds.set i (lkOb g (askL L t l))).set j (rtOb g' (askL L t l))) w' := by
  obtain ⟨A, c, rfl⟩ := hx.form
  obtain ⟨b, hb⟩ : ∃ b, Hid (askB L t l = b) := ⟨_, Lib.hid rfl⟩
  obtain ⟨ee, he⟩ : ∃ e, Hid (askE L t l = e) := ⟨_, Lib.hid rfl⟩
  have HI := Lib.hid hi
  have HJ : Hid ((ds.set i (lkOb g (askL L t l)))[j]? = some (rtOb g' L)) := Lib.hid (by rw [List.getElem?_set_ne hij]; exact hj)
  have HA := Lib.hid (h.alloc (.cells #[.int .u8 0, .int .i64 t, .slice A l.length c] 31 (0, 0)) (nz (by decide)))
  have HX := Lib.hid hx
  clear hi hj h hx hij
  have KG := Lib.hid (given_any l _ (HX.out.ext HA.out.bel) (by omega))
  have bx := HA.out.get 0 rfl
  obtain ⟨x0, x1, x2⟩ := opBox bx
  clear bx
  go_enter Try.func21, Try.ntmps21
  go_wp2_with fail
  refine KG.out.mono ?_
  rintro e1 w2 ⟨v, rfl, hv, h2⟩
  have HV := Lib.hid hv
  have H2E := Lib.hid h2
  have H2 := Lib.hid (HA.out.ext h2)
  clear hv h2 x0 x1 x2
  by_cases h0 : l = []
  · subst h0
    obtain ⟨A2, c2, e2⟩ := HV.out.form
    subst e2
    have bx := H2.out.get 0 rfl
    obtain ⟨x0, x1, x2⟩ := opBox bx
    clear bx
    go_wp2_with fail
    refine (askO (i + 1) H2.out HI.out t [] (HV.out.rr (by decide)) (by simp) b ee _ hb.out he.out rfl).mono ?_
    rintro e3 w3 ⟨rfl, h3⟩
    have H3 : Hid (OSt W (rowOb w.heap.size (.cells #[.int .u8 0, .int .i64 t, .slice A [].length c] 31 (0, 0)) (nz (by decide)) :: ds.set i (lkOb g (askL L t []))) w3) := Lib.hid h3
    clear h3 x0 x1 x2
    have bx := H3.out.get 0 rfl
    obtain ⟨x0, x1, x2⟩ := opBox bx
    clear bx
    have KR := Lib.hid (raskO (j + 1) H3.out HJ.out t [] (HX.out.ext H3.out.bel) (by simp))
    rw [hb.out, he.out] at KR
    go_wp2_with fail
    refine KR.out.mono ?_
    rintro e4 w4 ⟨rfl, h4⟩
    have H4 := Lib.hid (OSt.dropI h4 0)
    clear h4 x0 x1 x2
    go_wp2
    go_loop [12] (fun s => s = .int .i64 0) (fun s => 0)
    case atStart => rfl
    case round =>
      subst hrel
      go_wp2
      go_ret
      exact ⟨rfl, H4.out⟩
  · have hpos : 0 < l.length := List.length_pos_iff.2 h0
    clear h0
    obtain ⟨gi, c2, junk, rfl, hc2, o2⟩ := HA.out.pushOwn H2E.out HV.out hpos (by decide)
    replace H2 := Lib.hid o2
    have hsz : l.length * 2 ≤ (wncs l ++ junk).toArray.size := by simp [wncs_length]
    have hc2' : l.length ≤ c2 := by rw [wncs_length] at hc2; omega
    clear o2 hc2
    have bx := H2.out.get 1 rfl
    obtain ⟨x0, x1, x2⟩ := opBox bx
    clear bx
    go_wp2_with fail
    refine (askO (i + 1 + 1) H2.out HI.out t l (HV.out.rr (by decide)) (by omega) b ee _ hb.out he.out rfl).mono ?_
    rintro e3 w3 ⟨rfl, h3⟩
    have H3 : Hid (OSt W (rowOb gi (.cells (wncs l ++ junk).toArray 52 (0, 0)) (nz (by decide)) :: rowOb w.heap.size (.cells #[.int .u8 0, .int .i64 t, .slice A l.length c] 31 (0, 0)) (nz (by decide)) :: ds.set i (lkOb g (askL L t l))) w3) := Lib.hid h3
    clear h3 x0 x1 x2
    have bx := H3.out.get 1 rfl
    obtain ⟨x0, x1, x2⟩ := opBox bx
    clear bx
    have KR := Lib.hid (raskO (j + 1 + 1) H3.out HJ.out t l (HX.out.ext H3.out.bel) (by omega))
    rw [hb.out, he.out] at KR
    go_wp2_with fail
    refine KR.out.mono ?_
    rintro e4 w4 ⟨rfl, h4⟩
    have H4 : Hid (OSt W (rowOb gi (.cells (wncs l ++ junk).toArray 52 (0, 0)) (nz (by decide)) :: rowOb w.heap.size (.cells #[.int .u8 0, .int .i64 t, .slice A l.length c] 31 (0, 0)) (nz (by decide)) :: (ds.set i (lkOb g (askL L t l))).set j (rtOb g' (askL L t l))) w4) := Lib.hid h4
    clear h4 x0 x1 x2
    go_wp2
    go_loopg [12] l.length (fun gg s wr => ∃ k : Nat, k ≤ l.length ∧ l.length - k ≤ gg ∧ s = .int .i64 k ∧ ∃ cs : Array Value, l.length * 2 ≤ cs.size ∧ Hid (OSt W (rowOb gi (.cells cs 52 (0, 0)) (nz (by decide)) :: rowOb w.heap.size (.cells #[.int .u8 0, .int .i64 t, .slice A l.length c] 31 (0, 0)) (nz (by decide)) :: (ds.set i (lkOb g (askL L t l))).set j (rtOb g' (askL L t l))) wr))
    case atStart => exact ⟨0, Nat.zero_le _, by omega, rfl, _, hsz, H4⟩
    case round =>
      obtain ⟨k, hk, hg, rfl, cs, hcs, H⟩ := hrel
      by_cases hlt : k < l.length
      · obtain ⟨cs', hs', hst, ho⟩ := H.out.mid 0 rfl (by decide) 52 (k * 2) #[.int .i64 77, .bool true] (by simp; omega) (by simp [Value.oneCell']) (by kernel_rfl)
        have ST := Lib.hid hst
        have HO := Lib.hid ho
        have hcs' : l.length * 2 ≤ cs'.size := by omega
        clear hst ho hs'
        go_wp2_with (refine wpList_st rfl 52 (.tmp 51) (.tmp 50) rfl ST.out ?_; simp only [Act.put])
        go_roundg (l.length - (k + 1))
        case measure => omega
        case rel => exact ⟨k + 1, by omega, by omega, by go_num, cs', hcs', HO⟩
      · go_wp2
        go_ret
        exact ⟨rfl, (H.out.dropI 0).dropI 0⟩
end Go.Proofs.Ytiihlbaajopllaa
