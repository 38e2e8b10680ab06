/- Texts of mine in one: LpA, KtA, KtB, KtC, KtD, KtE, KtF, KtG, KtH, KtI, KtJ. No statement of its own. -/
import Derived.Test.YtiihlbaajopllaaRtE
import Derived.Test.YtiihlbaajopllaaMf
import Derived.Test.YtiihlbaajopllaaOwn
import Derived.Test.YtiihlbaajopllaaCalmD
import Derived.BigQuiet
set_option linter.unusedVariables false
set_option maxRecDepth 100000
namespace Go.Proofs.Ytiihlbaajopllaa
section
set_option linter.unusedVariables false
set_option maxRecDepth 100000
open Go.RowKit

theorem rDrop_any {S : Nat → Prop} {g : Nat} {L : List Tk} (n : Int) (w : World) (h : RtAt w S g L) :
    Calls Try.prog 60 #[.pointer (some ⟨g, 0, none⟩), .int .i64 n] w fun e w' => ∃ v, e = .returned (.tuple #[v, .int .i64 (dropE L n)]) ∧ OwnR w' w.heap.size 3 1 One v (dropT L n).length (ics (dropT L n)) ∧ To S w w' (rtOb g (dropL L n)) := by
  unfold dropE dropT dropL
  cases hat : atL L n with
  | none => exact (rdrop_none n w h hat).mono fun r w' ⟨hr, hE⟩ => ⟨_, hr, OwnR.nil, To.of_ext (D := rtOb g L) h hE⟩
  | some i => exact rdrop_some n w h hat
section
variable {W w : World} {ds : List (Ob Zf)} {g : Nat} {L : List Tk}
theorem raskO (i : Nat) (h : OSt W ds w) (hi : ds[i]? = some (rtOb g L)) (n : Int) (l : List Wn) {v : Value} (hv : RWn w v l) (hl : l.length ≤ 1000000) :
    Calls Try.prog 59 #[.pointer (some ⟨g, 0, none⟩), .int .i64 n, v] w fun r w' => r = .returned (.tuple #[.bool (askB L n l), .int .i64 (askE L n l)]) ∧ OSt W (ds.set i (rtOb g (askL L n l))) w' := by
  obtain ⟨S, h1, _, h3, _⟩ := h.pick hi
  exact (rAsk_any n l w h1 hv hl).mono fun r w' ⟨hr, hT⟩ => ⟨hr, h3 _ _ hT⟩
theorem rhasO (i : Nat) (h : OSt W ds w) (hi : ds[i]? = some (rtOb g L)) (n : Int) :
    Calls Try.prog 62 #[.pointer (some ⟨g, 0, none⟩), .int .i64 n] w fun r w' => r = .returned (.bool (hasL L n)) ∧ Ext w w' := by
  obtain ⟨S, h1, _⟩ := h.pick hi
  exact rhas_any n w h1
theorem rrowO (i : Nat) (h : OSt W ds w) (hi : ds[i]? = some (rtOb g L)) :
    Calls Try.prog 61 #[.pointer (some ⟨g, 0, none⟩)] w fun r w' => ∃ v, r = .returned v ∧ OwnR w' w.heap.size 3 1 One v (L.map (·.1)).length (ics (L.map (·.1))) ∧ Ext w w' := by
  obtain ⟨S, h1, _⟩ := h.pick hi
  rw [List.length_map]
  exact rrow_any w h1
theorem rcopyO (i : Nat) (h : OSt W ds w) (hi : ds[i]? = some (rtOb g L)) :
    Calls Try.prog 20 #[.pointer (some ⟨g, 0, none⟩)] w fun r w' => ∃ g', r = .returned (.pointer (some ⟨g', 0, none⟩)) ∧ OSt W (rtOb g' L :: ds) w' := by
  obtain ⟨S, h1, _⟩ := h.pick hi
  exact (rcopy_any w h1).mono fun r w' ⟨g', hr, hd, hb⟩ => ⟨g', hr, h.pushN hb hd⟩
theorem rdropO (i : Nat) (h : OSt W ds w) (hi : ds[i]? = some (rtOb g L)) (n : Int) :
    Calls Try.prog 60 #[.pointer (some ⟨g, 0, none⟩), .int .i64 n] w fun r w' => ∃ v, r = .returned (.tuple #[v, .int .i64 (dropE L n)]) ∧ RIn w' v (dropT L n) ∧ OSt W (ds.set i (rtOb g (dropL L n))) w' := by
  obtain ⟨S, h1, _, h3, _⟩ := h.pick hi
  exact (rDrop_any n w h1).mono fun r w' ⟨v, hr, hv, hT⟩ => ⟨v, hr, hv.rr (by decide), h3 _ _ hT⟩
/-- A row of one's own, as an object. -/
theorem OSt.pushOwn {n : Nat} {v : Value} {cs : List Value} {w' : World} {T : TypeId} {sz : Nat} (h : OSt W ds w) (k : Ext w w') (ho : OwnR w' w.heap.size T sz One v n cs) (hn : 0 < n) (hT : T ≠ 98) :
    ∃ b c junk, v = .slice (some ⟨b, 0, none⟩) n c ∧ cs.length + junk.length = c * sz ∧ OSt W (rowOb b (.cells (cs ++ junk).toArray T (0, 0)) (nz hT) :: ds) w' := by
  obtain ⟨h0, ⟨_, hz⟩ | ⟨b, c, junk, rfl, hB, hb, hcl, _⟩⟩ := ho
  · omega
  · exact ⟨b, c, junk, rfl, hcl, h.push k (R := fun i => i = b) ⟨hb, rfl⟩ fun i hi => by omega⟩
end
theorem setCell_row {w : World} {g k : Nat} {cs : Array Value} {T : TypeId} (v : Value) (h : w.heap[g]? = some (.cells cs T (0, 0))) : w.setCell ⟨g, k, none⟩ v = w.setRow g (cs.setIfInBounds k v) := setCell_eq_setRow w g k cs T (0, 0) v h
theorem row_cell {w : World} {g k : Nat} {cs : Array Value} {T : TypeId} (h : w.heap[g]? = some (.cells cs T (0, 0))) (hk : k < cs.size) : w.cell? ⟨g, k, none⟩ = some cs[k] ∧ (∀ o, w.frozen? ⟨g, o, none⟩ = false) := by
  refine ⟨?_, fun o => by simp [World.frozen?, h]⟩
  rw [cell_of_row _ _ _ _ _ _ h]
  simp [hk]
set_option maxHeartbeats 4000000 in
theorem like_any {W w : World} {ds : List (Ob Zf)} {g g' : Nat} {L : List Tk} (i j : Nat) (h : OSt W ds w) (hi : ds[i]? = some (lkOb g L)) (hj : ds[j]? = some (rtOb g' L)) (n : Int) (hLl : L.length ≤ 16) :
    Calls Try.prog 22 #[.pointer (some ⟨g, 0, none⟩), .pointer (some ⟨g', 0, none⟩), .int .i64 n] w fun r w' => r = .returned (.bool true) ∧ OSt W ds w' := by
  have HI := Lib.hid hi
  have HJ := Lib.hid hj
  have H0 := Lib.hid h
  clear hi hj h
  obtain ⟨T, hT⟩ : ∃ T, T = L.map (·.1) := ⟨_, rfl⟩
  have hTl : T.length ≤ 16 := by rw [hT]; simpa using hLl
  have HT := Lib.hid hT
  clear hT
  have K1 := Lib.hid (rowO i H0.out HI.out)
  rw [← HT.out] at K1
  go_enter Try.func22, Try.ntmps22
  go_wp2_with fail
  refine K1.out.mono ?_
  rintro e w1 ⟨v1, rfl, hv1, h1⟩
  have H1 := Lib.hid (H0.out.ext h1)
  have K2 := Lib.hid (rrowO j H1.out HJ.out)
  rw [← HT.out] at K2
  have HV1 := Lib.hid hv1
  have HX1 := Lib.hid h1
  clear hv1 h1
  go_wp2_with fail
  refine K2.out.mono ?_
  rintro e w2 ⟨v2, rfl, hv2, h2⟩
  have HV2 := Lib.hid hv2
  have HX2 := Lib.hid h2
  have HV1' := Lib.hid (HV1.out.ext h2)
  have K3 := Lib.hid (Same_t T w2 (HV1'.out.rr (by decide)) (hv2.rr (by decide)) (by omega))
  have H2 := Lib.hid (H1.out.ext h2)
  clear hv2 h2 K1 K2
  by_cases h0 : T = []
  · subst h0
    obtain ⟨A1, c1, e1⟩ := HV1'.out.form
    obtain ⟨A2, c2, e2⟩ := HV2.out.form
    subst e1 e2
    go_wp2_with fail
    refine K3.out.mono ?_
    rintro e w3 ⟨rfl, h3⟩
    have H3 := Lib.hid (H2.out.ext h3)
    obtain ⟨b, hb⟩ : ∃ b, Hid (hasL L n = b) := ⟨_, Lib.hid rfl⟩
    have K4 := Lib.hid (hasO (i) H3.out HI.out n b hb.out)
    go_wp2_with fail
    refine K4.out.mono ?_
    rintro e w4 ⟨rfl, h4⟩
    have H4 := Lib.hid (H3.out.ext h4)
    have K5 := Lib.hid (rhasO (j) H4.out HJ.out n)
    rw [hb.out] at K5
    go_wp2_with fail
    refine K5.out.mono ?_
    rintro e w5 ⟨rfl, h5⟩
    have H5 := Lib.hid (H4.out.ext h5)
    clear h3 h4 h5
    go_wp2
    go_loop [9] (fun s => s = .int .i64 0) (fun s => 0)
    case atStart => rfl
    case round =>
      subst hrel
      go_wp2
      go_ret
      exact ⟨rfl, H5.out⟩
  · have hpos : 0 < T.length := List.length_pos_iff.2 h0
    clear h0
    obtain ⟨b1, c1, j1, rfl, hc1, o1⟩ := H0.out.pushOwn HX1.out HV1.out hpos (by decide)
    obtain ⟨b2, c2, j2, rfl, hc2, o2⟩ := o1.pushOwn HX2.out HV2.out hpos (by decide)
    replace H2 := Lib.hid o2
    replace HI : Hid ((rowOb b2 (.cells (ics T ++ j2).toArray 3 (0, 0)) (nz (by decide)) :: rowOb b1 (.cells (ics T ++ j1).toArray 3 (0, 0)) (nz (by decide)) :: ds)[i + 2]? = some (lkOb g L)) := HI
    replace HJ : Hid ((rowOb b2 (.cells (ics T ++ j2).toArray 3 (0, 0)) (nz (by decide)) :: rowOb b1 (.cells (ics T ++ j1).toArray 3 (0, 0)) (nz (by decide)) :: ds)[j + 2]? = some (rtOb g' L)) := HJ
    have hs1 : T.length ≤ (ics T ++ j1).toArray.size := by simp [ics_length]
    have hc1' : T.length ≤ c1 := by rw [ics_length] at hc1; omega
    have hc2' : T.length ≤ c2 := by rw [ics_length] at hc2; omega
    clear o1 o2 hc1 hc2
    go_wp2_with fail
    refine K3.out.mono ?_
    rintro e w3 ⟨rfl, h3⟩
    have H3 := Lib.hid (H2.out.ext h3)
    obtain ⟨b, hb⟩ : ∃ b, Hid (hasL L n = b) := ⟨_, Lib.hid rfl⟩
    have K4 := Lib.hid (hasO (i + 2) H3.out HI.out n b hb.out)
    go_wp2_with fail
    refine K4.out.mono ?_
    rintro e w4 ⟨rfl, h4⟩
    have H4 := Lib.hid (H3.out.ext h4)
    have K5 := Lib.hid (rhasO (j + 2) H4.out HJ.out n)
    rw [hb.out] at K5
    go_wp2_with fail
    refine K5.out.mono ?_
    rintro e w5 ⟨rfl, h5⟩
    have H5 := Lib.hid (H4.out.ext h5)
    clear h3 h4 h5
    clear K3 K4 K5 H4 H3 H2 H1 HV1 HV2 HV1' HX1 HX2
    go_wp2
    go_loopg [9] T.length (fun gg s wr => ∃ k : Nat, k ≤ T.length ∧ T.length - k ≤ gg ∧ s = .int .i64 k ∧ ∃ cs : Array Value, T.length ≤ cs.size ∧ Hid (OSt W (rowOb b2 (.cells (ics T ++ j2).toArray 3 (0, 0)) (nz (by decide)) :: rowOb b1 (.cells cs 3 (0, 0)) (nz (by decide)) :: ds) wr))
    case atStart => exact ⟨0, Nat.zero_le _, by omega, rfl, _, hs1, H5⟩
    case round =>
      obtain ⟨k, hk, hg, rfl, cs, hcs, H⟩ := hrel
      by_cases hlt : k < T.length
      · obtain ⟨q, hq⟩ : ∃ q, T[k]? = some q := ⟨_, List.getElem?_eq_getElem hlt⟩
        have r2 := H.out.get 0 rfl
        have r1 := H.out.get 1 rfl
        have x0 := RIn.num (rin_row (c := c2) r2 hc2') hq
        simp only [Nat.zero_add] at x0
        have hb2l := heap_lt r2
        obtain ⟨bq, hbq⟩ : ∃ b, Hid (hasL L q = b) := ⟨_, Lib.hid rfl⟩
        have HR1 := Lib.hid r1
        clear r1 r2 hq
        go_wp2
        have e0 := fun (ψ : World → Prop) (e : ExtP wr.heap.size wr ψ) => e.cell x0 hb2l
        clear x0
        have KA : Hid (∀ (ψ : World → Prop) (e : ExtP wr.heap.size wr ψ), Calls Try.prog 17 #[.pointer (some ⟨g, 0, none⟩), .int .i64 q] e.val fun r w' => r = .returned (.bool bq) ∧ Below e.val.heap.size e.val w') := Lib.hid fun ψ e => hasO (i + 2) (H.out.ext e.ok) HI.out q bq hbq.out
        have KB : Hid (∀ (ψ : World → Prop) (e : ExtP wr.heap.size wr ψ), Calls Try.prog 62 #[.pointer (some ⟨g', 0, none⟩), .int .i64 q] e.val fun r w' => r = .returned (.bool bq) ∧ Below e.val.heap.size e.val w') := Lib.hid fun ψ e => by rw [← hbq.out]; exact rhasO (j + 2) (H.out.ext e.ok) HJ.out q
        refine wp_region_pieces 13  [(true, [0, 1, 2, 3, 4, 5, 6, 7, 8, 9, 10, 11, 12])] (by kernel_rfl) (by kernel_rfl) ?_; simp only [pick, List.map_cons, List.map_nil, List.flatMap_cons, List.flatMap_nil, Option.toList_some, List.singleton_append, List.drop_succ_cons, List.drop_zero, List.getElem?_cons_zero, List.getElem?_cons_succ]
        refine ⟨by kernel_rfl, ?_⟩; apply Exists.intro; refine ⟨fun ψ hψ hne => (by (repeat (go_big_quiet_step (( first | (go_at_call 17; exact extP_of hψ (Nat.le_refl _) (KA.out _ _)) | (go_at_call 62; exact extP_of hψ (Nat.le_refl _) (KB.out _ _)) )))); exact wpQuiet_nil rfl), ?_⟩
        intro w6 h6
        clear e0 KA KB
        have H6 := H.out.ext h6
        have r6 := H6.get 1 rfl
        obtain ⟨y0, yf⟩ := row_cell (k := k) r6 (by omega)
        have st := Lib.hid (setCell_row (k := k) (.int .i64 (-7)) r6)
        have HN := Lib.hid (H6.row 1 rfl (cs.setIfInBounds k (.int .i64 (-7))) (nz (by decide)))
        have hcs' : T.length ≤ (cs.setIfInBounds k (.int .i64 (-7))).size := by simpa using hcs
        have hl6 := heap_lt r6
        clear H6 r6 h6
        go_upto_region 7 with fail
        rw [st.out]
        go_wp2
        go_roundg (T.length - (k + 1))
        case measure => omega
        case rel => exact ⟨k + 1, by omega, by omega, by go_num, _, hcs', HN⟩
      · go_wp2
        go_ret
        exact ⟨rfl, (H.out.dropI 0).dropI 0⟩
end

section
set_option linter.unusedVariables false
set_option maxRecDepth 100000
open Go.RowKit

def kC (e : Te) : List Value := [.int .i64 e.p.1, .int .i64 e.pl, .int .i64 e.is]
theorem kC_length (e : Te) : (kC e).length = 3 := rfl
theorem kC_one (L : List Te) : ∀ u ∈ L.flatMap kC, One u := by
  intro u hu
  obtain ⟨s, _, hu⟩ := List.mem_flatMap.1 hu
  simp [kC] at hu
  rcases hu with rfl | rfl | rfl <;> rfl
structure KtP (w : World) (S : Nat → Prop) (g tg : Nat) (v : Value) (c l : Int) (LT : List Tk) (L : List Te) : Prop where
  hg : w.heap[g]? = some (.cells #[.pointer (some ⟨tg, 0, none⟩), v, .int .i64 c, .int .i64 l] 113 (0, 0))
  rt : RtAt w S tg LT
  row : OwnR w 0 121 3 One v L.length (L.flatMap kC)
  sg : S g
  sv : ∀ b, v.ownBlock = some b → S b
def ktK (o : Obj) : Prop := match o with
  | .cells _ t _ => t = 113 ∨ t = 121 ∨ t = 47 ∨ t = 126
  | _ => False
section
variable {w : World} {S S' : Nat → Prop} {g tg : Nat} {v : Value} {c l : Int} {LT : List Tk} {L : List Te}
theorem KtP.mutw {w' : World} {T : Nat → Prop} (h : KtP w S g tg v c l LT L) (k : Mut T w w') (hd : ∀ i, S i → ¬ T i) (hz : ∀ i o, T i → w.heap[i]? = some o → ¬ Zf o) : KtP w' S g tg v c l LT L :=
  { h with
    hg := (k.block g (heap_lt h.hg) (hd _ h.sg)).trans h.hg
    rt := (rtOb tg LT).mutw h.rt k hd hz
    row := h.row.mutO k fun b hb => hd _ (h.sv b hb) }
theorem KtP.mono (h : KtP w S g tg v c l LT L) (k : ∀ i, S i → S' i) : KtP w S' g tg v c l LT L := { h with rt := (rtOb tg LT).mono h.rt k, sg := k _ h.sg, sv := fun b hb => k _ (h.sv b hb) }
theorem KtP.ext {w' : World} (h : KtP w S g tg v c l LT L) (k : Ext w w') : KtP w' S g tg v c l LT L := h.mutw (T := fun _ => False) (Mut.of_ext k) (fun _ _ h => h) fun _ _ h => h.elim
theorem KtP.ng (h : KtP w S g tg v c l LT L) : ¬ (S g ∧ ∃ o, w.heap[g]? = some o ∧ rtK o) := by
  rintro ⟨_, o, ho, hk⟩
  rw [h.hg] at ho
  cases ho
  revert hk
  show ¬ (_ ∨ _)
  decide
/-- The table's own part. -/
theorem KtP.table (h : KtP w S g tg v c l LT L) : ∃ S1, RtAt w S1 tg LT ∧ ∀ w' LT', To S1 w w' (rtOb tg LT') → KtP w' (gr S w w') g tg v c l LT' L ∧ Mut S w w' := by
  refine ⟨_, (rtOb tg LT).trim h.rt, fun w' LT' ⟨h1, h2⟩ => ⟨?_, h2.mono fun i hi => hi.1⟩⟩
  refine { hg := (h2.block g (heap_lt h.hg) h.ng).trans h.hg, rt := (rtOb tg LT').mono h1 ?_, row := h.row.mutO h2 ?_, sg := .inl h.sg, sv := fun b hb => .inl (h.sv b hb) }
  · rintro i (hi | hi)
    · exact .inl hi.1
    · exact .inr hi
  · rintro b hb ⟨_, o, ho, hk⟩
    obtain ⟨cs, hc⟩ := own_blk h.row hb
    rw [hc] at ho
    cases ho
    revert hk
    show ¬ (_ ∨ _)
    decide
theorem KtP.cells (h : KtP w S g tg v c l LT L) {v' : Value} {L' : List Te} (c' l' : Int) (hS : ∀ i, S i → S' i) (ho : OwnR w 0 121 3 One v' L'.length (L'.flatMap kC)) (hv : ∀ b, v'.ownBlock = some b → S' b) :
    KtP (w.setRow g #[.pointer (some ⟨tg, 0, none⟩), v', .int .i64 c', .int .i64 l']) S' g tg v' c' l' LT L' where
  hg := setRow_heap _ _ _ _ _ _ h.hg
  rt := (rtOb tg LT).mono ((rtOb tg LT).mutw ((rtOb tg LT).trim h.rt) (mut_setRow (S := fun i => i = g) rfl _) (fun i hi e => by subst e; exact h.ng hi) (fun i o e ho hz => by
    subst e
    rw [h.hg] at ho
    cases ho
    revert hz
    show ¬ (_ = _)
    decide)) fun i hi => hS i hi.1
  row := ho.set h.hg (by decide)
  sg := hS _ h.sg
  sv := hv
/-- The k-th task. -/
theorem KtP.task {A : Option Addr} {n cp : Nat} (h : KtP w S g tg (.slice A n cp) c l LT L) {k : Nat} {e : Te} (hk : L[k]? = some e) :
    ∃ gs, A = some ⟨gs, 0, none⟩ ∧ gs < w.heap.size ∧ L.length ≤ cp ∧ w.cell? ⟨gs, k * 3, none⟩ = some (.int .i64 e.p.1) ∧ w.cell? ⟨gs, k * 3 + 1, none⟩ = some (.int .i64 e.pl) ∧ w.cell? ⟨gs, k * 3 + 2, none⟩ = some (.int .i64 e.is) := by
  have hkl := (List.getElem?_eq_some_iff.1 hk).1
  have hrow := h.row
  obtain ⟨A', c', hv⟩ := hrow.form
  simp only [Value.slice.injEq] at hv
  obtain ⟨-, rfl, rfl⟩ := hv
  obtain ⟨gs, rfl, -⟩ := hrow.cells (by omega)
  obtain ⟨h1, h2, h3, -⟩ := own_flat hrow kC_length rfl hk
  have e0 := h3 0 (by omega)
  have e1 := h3 1 (by omega)
  have e2 := h3 2 (by omega)
  exact ⟨gs, rfl, h1, h2 (by omega), e0, e1, e2⟩
end
def KtAt (w : World) (S : Nat → Prop) (g : Nat) (T : TK) : Prop := (∃ tg v, KtP w S g tg v T.cnt T.last (lkL T.L) T.L) ∧ T.Ok
def ktOb (g : Nat) (T : TK) : Ob Zf where
  is := fun w S => KtAt w S g T
  K := ktK
  mutw := fun ⟨⟨tg, v, h⟩, hok⟩ k hd hz => ⟨⟨tg, v, h.mutw k hd hz⟩, hok⟩
  mono := fun ⟨⟨tg, v, h⟩, hok⟩ k => ⟨⟨tg, v, h.mono k⟩, hok⟩
  trim := fun ⟨⟨tg, v, h⟩, hok⟩ => ⟨⟨tg, v, { h with
    rt := (rtOb tg _).mono ((rtOb tg _).trim h.rt) fun i ⟨h1, o, ho, hk⟩ => ⟨h1, o, ho, by cases o <;> simp only [rtOb, rtK] at hk; exact .inr (.inr hk)⟩
    sg := ⟨h.sg, _, h.hg, .inl rfl⟩
    sv := fun b hb => ⟨h.sv b hb, by obtain ⟨cs, hc⟩ := own_blk h.row hb; exact ⟨_, hc, .inr (.inl rfl)⟩⟩ }⟩, hok⟩
  kz := fun o h hz => by
    cases o <;> simp only [ktK, Zf] at h hz
    rw [hz] at h
    revert h
    decide
set_option maxHeartbeats 1000000 in
theorem kwaits_any {S : Nat → Prop} {g : Nat} {T : TK} (w : World) (h : KtAt w S g T) :
    Calls Try.prog 73 #[.pointer (some ⟨g, 0, none⟩)] w fun e w' => e = .returned (.bool (waitsB T.L)) ∧ w = w' := by
  obtain ⟨⟨tg, v, h⟩, hok⟩ := h
  obtain ⟨A, c, hv⟩ := h.row.form
  subst hv
  have hlen := hok.len
  obtain ⟨c0, c1, c2, c3, -, gl⟩ := blk4 h.hg
  have H := Lib.hid h
  have HOK := Lib.hid hok
  clear h hok
  go_enter Try.func73, Try.ntmps73
  go_wp2
  go_loop [3] (fun s => ∃ k : Nat, k ≤ T.L.length ∧ s = .int .i64 k ∧ Hid (∀ j q, j < k → T.L[j]? = some q → q.is ≠ 1)) (fun s => T.L.length - (intOf s).toNat)
  case atStart => exact ⟨0, Nat.zero_le _, rfl, Lib.hid fun j q hj => absurd hj (Nat.not_lt_zero _)⟩
  case round =>
    obtain ⟨k, hk, rfl, HA⟩ := hrel
    by_cases hlt : k < T.L.length
    · obtain ⟨r, hr⟩ : ∃ r, T.L[k]? = some r := ⟨_, List.getElem?_eq_getElem hlt⟩
      obtain ⟨gs, rfl, hgs, hc, t0, t1, t2⟩ := H.out.task hr
      have HR := Lib.hid hr
      clear hr
      by_cases hn : r.is = 1
      · have E : Hid (waitsB T.L = true) := Lib.hid (by unfold waitsB; rw [List.any_eq_true]; exact ⟨r, List.mem_of_getElem? HR.out, by simp [hn]⟩)
        have hb : (r.is == 1) = true := by rw [beq_iff_eq]; exact hn
        clear hn
        go_wp2
        go_ret
        exact ⟨by rw [E.out]; rfl, rfl⟩
      · have hb : (r.is == 1) = false := by rw [beq_eq_false_iff_ne]; exact hn
        have HN := Lib.hid hn
        clear hn
        go_wp2
        go_round
        case rel =>
          refine ⟨k + 1, by omega, by go_num, Lib.hid fun j q hj hq => ?_⟩
          by_cases e : j = k
          · subst e
            rw [HR.out] at hq
            cases hq
            exact HN.out
          · exact HA.out j q (by omega) hq
        case measure => simp [intOf]; omega
    · obtain rfl : k = T.L.length := by omega
      have E : Hid (waitsB T.L = false) := Lib.hid (by
        unfold waitsB
        rw [List.any_eq_false]
        intro p hp
        obtain ⟨j, hj, rfl⟩ := List.getElem_of_mem hp
        simpa using HA.out j _ hj (List.getElem?_eq_getElem hj))
      go_wp2
      go_ret
      exact ⟨by rw [E.out]; rfl, rfl⟩
set_option maxHeartbeats 1000000 in
theorem kplace_any {S : Nat → Prop} {g : Nat} {T : TK} (n : Int) (w : World) (h : KtAt w S g T) :
    Calls Try.prog 82 #[.pointer (some ⟨g, 0, none⟩), .int .i64 n] w fun e w' => e = .returned (.int .i64 (placeT T.L n)) ∧ w = w' := by
  obtain ⟨⟨tg, v, h⟩, hok⟩ := h
  obtain ⟨A, c, hv⟩ := h.row.form
  subst hv
  have hlen := hok.len
  obtain ⟨c0, c1, c2, c3, -, gl⟩ := blk4 h.hg
  have H := Lib.hid h
  have HOK := Lib.hid hok
  clear h hok
  go_enter Try.func82, Try.ntmps82
  go_wp2
  go_loop [5] (fun s => ∃ k : Nat, k ≤ T.L.length ∧ s = .int .i64 k ∧ Hid (∀ j q, j < k → T.L[j]? = some q → q.p.1 ≠ n)) (fun s => T.L.length - (intOf s).toNat)
  case atStart => exact ⟨0, Nat.zero_le _, rfl, Lib.hid fun j q hj => absurd hj (Nat.not_lt_zero _)⟩
  case round =>
    obtain ⟨k, hk, rfl, HA⟩ := hrel
    by_cases hlt : k < T.L.length
    · obtain ⟨r, hr⟩ : ∃ r, T.L[k]? = some r := ⟨_, List.getElem?_eq_getElem hlt⟩
      obtain ⟨gs, rfl, hgs, hc, t0, t1, t2⟩ := H.out.task hr
      have HR := Lib.hid hr
      clear hr
      by_cases hn : r.p.1 = n
      · have E : Hid (placeT T.L n = r.pl) := Lib.hid (by unfold placeT; rw [← hn, findT_mem HOK.out.nd (List.mem_of_getElem? HR.out)])
        have hb : (r.p.1 == n) = true := by rw [beq_iff_eq]; exact hn
        clear hn
        go_wp2
        go_ret
        exact ⟨by rw [E.out]; rfl, rfl⟩
      · have hb : (r.p.1 == n) = false := by rw [beq_eq_false_iff_ne]; exact hn
        have HN := Lib.hid hn
        clear hn
        go_wp2
        go_round
        case rel =>
          refine ⟨k + 1, by omega, by go_num, Lib.hid fun j q hj hq => ?_⟩
          by_cases e : j = k
          · subst e
            rw [HR.out] at hq
            cases hq
            exact HN.out
          · exact HA.out j q (by omega) hq
        case measure => simp [intOf]; omega
    · obtain rfl : k = T.L.length := by omega
      have E : Hid (placeT T.L n = 0) := Lib.hid (by
        unfold placeT
        have : findT T.L n = none := by
          unfold findT
          rw [List.find?_eq_none]
          intro p hp
          obtain ⟨j, hj, rfl⟩ := List.getElem_of_mem hp
          simpa using HA.out j _ hj (List.getElem?_eq_getElem hj)
        rw [this])
      go_wp2
      go_ret
      exact ⟨by rw [E.out]; rfl, rfl⟩
set_option maxHeartbeats 1000000 in
theorem kfind_any {S : Nat → Prop} {g : Nat} {T : TK} (n : Int) (w : World) (h : KtAt w S g T) :
    Calls Try.prog 83 #[.pointer (some ⟨g, 0, none⟩), .int .i64 n] w fun e w' => e = .returned (.int .i64 (atI (lkL T.L) n)) ∧ w = w' := by
  obtain ⟨⟨tg, v, h⟩, hok⟩ := h
  obtain ⟨A, c, hv⟩ := h.row.form
  subst hv
  have hlen := hok.len
  obtain ⟨c0, c1, c2, c3, -, gl⟩ := blk4 h.hg
  have H := Lib.hid h
  have HOK := Lib.hid hok
  clear h hok
  go_enter Try.func83, Try.ntmps83
  go_wp2
  go_loop [5] (fun s => ∃ k : Nat, k ≤ T.L.length ∧ s = .int .i64 k ∧ Hid (∀ j q, j < k → T.L[j]? = some q → q.p.1 ≠ n)) (fun s => T.L.length - (intOf s).toNat)
  case atStart => exact ⟨0, Nat.zero_le _, rfl, Lib.hid fun j q hj => absurd hj (Nat.not_lt_zero _)⟩
  case round =>
    obtain ⟨k, hk, rfl, HA⟩ := hrel
    by_cases hlt : k < T.L.length
    · obtain ⟨r, hr⟩ : ∃ r, T.L[k]? = some r := ⟨_, List.getElem?_eq_getElem hlt⟩
      obtain ⟨gs, rfl, hgs, hc, t0, t1, t2⟩ := H.out.task hr
      have HR := Lib.hid hr
      clear hr
      by_cases hn : r.p.1 = n
      · have E : Hid (atI (lkL T.L) n = k) := Lib.hid (by unfold atI; rw [← hn, atL_of HOK.out.nd HR.out])
        have hb : (r.p.1 == n) = true := by rw [beq_iff_eq]; exact hn
        clear hn
        go_wp2
        go_ret
        exact ⟨by rw [E.out]; rfl, rfl⟩
      · have hb : (r.p.1 == n) = false := by rw [beq_eq_false_iff_ne]; exact hn
        have HN := Lib.hid hn
        clear hn
        go_wp2
        go_round
        case rel =>
          refine ⟨k + 1, by omega, by go_num, Lib.hid fun j q hj hq => ?_⟩
          by_cases e : j = k
          · subst e
            rw [HR.out] at hq
            cases hq
            exact HN.out
          · exact HA.out j q (by omega) hq
        case measure => simp [intOf]; omega
    · obtain rfl : k = T.L.length := by omega
      have E : Hid (atI (lkL T.L) n = -1) := Lib.hid (by
        unfold atI
        rw [atL_miss fun p hp => by
          obtain ⟨e, he, rfl⟩ := List.mem_map.1 hp
          obtain ⟨j, hj, rfl⟩ := List.getElem_of_mem he
          exact HA.out j _ hj (List.getElem?_eq_getElem hj)])
      go_wp2
      go_ret
      exact ⟨by rw [E.out]; rfl, rfl⟩
end

section
set_option linter.unusedVariables false
set_option maxRecDepth 100000
open Go.RowKit

theorem app_kturn {w : World} {B n : Nat} {v x : Value} {cs : List Value} {m : Nat} {new : List Value} {tx ty : TypeId} (ho : OwnR w B 115 2 One v n cs) (hs : Src Try.prog 2 tx x m new w) (hB : B ≤ w.heap.size) (hn : ∀ u ∈ new, One u) (hc : n + m ≤ 100000000) :
    ∃ v' w', (Builtin.append_ #[87, tx] ty #[v, x]).run Try.prog w = .ok v' w' ∧ OwnR w' B 115 2 One v' (n + m) (cs ++ new) ∧ Below B w w' ∧ w.grownBy w' v.ownBlock ∧ (∀ b, v'.ownBlock = some b → v.ownBlock = some b ∨ w.heap.size ≤ b) := by
  have h : (Try.prog.info? 115).map (fun i => (i.zero, i.size, i.bytes)) = some (some (.agg #[.int .i64 0, .int .u8 0]), 2, 16) := by kernel_rfl
  obtain ⟨i, hi, hz0, hz1, hz2⟩ := info_prt h
  exact appG2 (ty := ty) Try.underlying87 hi hz1 hz0 rfl ho hs hB (by omega) hn (by intro u hu; simp [Value.cells] at hu; rcases hu with rfl | rfl <;> rfl) (by rw [hz2]; omega) (by omega)
theorem app_kturn1 (x : Tn) {wr : World} {B n c : Nat} {A : Option Addr} {cs : List Value} (ho : OwnR wr B 115 2 One (.slice A n c) n cs) (hB : B ≤ wr.heap.size) (hn : n ≤ 1000000) :
    Hid (∀ w2, Ext wr w2 → ∃ v' W2, (Builtin.append_ #[87, 87] 87 #[.slice A n c, .slice (some ⟨w2.heap.size, 0, none⟩) 1 1]).run Try.prog (w2.alloc (.cells #[.int .i64 x.1, .int .u8 x.2] 115)) = .ok v' W2 ∧ OwnR W2 B 115 2 One v' (n + 1) (cs ++ tnC x) ∧ Below B wr W2) := Lib.hid fun w2 hE => by
  have a := extAl w2 (.cells #[.int .i64 x.1, .int .u8 x.2] 115)
  have hsrc : Src Try.prog 2 87 (.slice (some ⟨w2.heap.size, 0, none⟩) 1 1) 1 (tnC x) (w2.alloc (.cells #[.int .i64 x.1, .int .u8 x.2] 115)) := src_row Try.underlying87 (heap_alloc_last w2 (.cells #[.int .i64 x.1, .int .u8 x.2] 115)) rfl (tnC_one x)
  have hE2 := Ext.trans hE a
  have hs := hE2.size
  obtain ⟨v', W2, hr, ho2, hb2, -, -⟩ := app_kturn (ty := 87) (ho.ext hE2) hsrc (by omega) (tnC_one x) (by omega)
  exact ⟨v', W2, hr, ho2, Below.trans (hE2.mono hB) hb2⟩
theorem KtAt.ext {w w' : World} {S : Nat → Prop} {g : Nat} {T : TK} (h : KtAt w S g T) (k : Ext w w') : KtAt w' S g T := (ktOb g T).ext h k
set_option maxHeartbeats 4000000 in
theorem kCan_any {S : Nat → Prop} {g : Nat} {T : TK} (w : World) (h : KtAt w S g T) :
    Calls Try.prog 48 #[.pointer (some ⟨g, 0, none⟩)] w fun e w' => ∃ v, e = .returned v ∧ OwnR w' w.heap.size 115 2 One v (canT T).length (tncs (canT T)) ∧ Ext w w' := by
  have HAT := Lib.hid h
  obtain ⟨⟨tg, v, h⟩, hok⟩ := h
  obtain ⟨A, c, hv⟩ := h.row.form
  subst hv
  have hlen := hok.len
  obtain ⟨c0, c1, -, -, -, gl⟩ := blk4 h.hg
  have H := Lib.hid h
  have HOK := Lib.hid hok
  have hE : canT T = canP T.L T.L.length ++ if waitsB T.L then [(-1, 2)] else [] := rfl
  obtain ⟨R, hR⟩ : ∃ R, R = canT T := ⟨_, rfl⟩
  rw [← hR] at hE ⊢
  have HE0 := Lib.hid hE
  have C1 := Lib.hid c1
  have GL := Lib.hid gl
  clear h hok hE hR
  go_enter Try.func48, Try.ntmps48
  go_wp2
  go_loopg [3, 4] T.L.length (fun gg u s wr => ∃ k : Nat, k ≤ T.L.length ∧ T.L.length - k ≤ gg ∧ s = .int .i64 k ∧ Hid (Ext w wr) ∧ Hid (OwnR wr w.heap.size 115 2 One u (canP T.L k).length (tncs (canP T.L k))))
  case atStart => exact ⟨0, Nat.zero_le _, by omega, rfl, Lib.hid (Ext.refl _), Lib.hid OwnR.nil⟩
  case round =>
    obtain ⟨k, hk, hg, rfl, HW, HO⟩ := hrel
    obtain ⟨A2, c2, rfl⟩ := HO.out.form
    have z0 := Below.size HW.out
    have z1 : (canP T.L k).length ≤ 16 := Nat.le_trans (canP_len T.L k) (by omega)
    replace c0 := Ext.cells1 HW.out gl c0
    replace c1 := Ext.cells1 HW.out gl c1
    replace gl := Nat.lt_of_lt_of_le gl z0
    by_cases hlt : k < T.L.length
    · obtain ⟨x, hx⟩ : ∃ x, T.L[k]? = some x := ⟨_, List.getElem?_eq_getElem hlt⟩
      have hxi := HOK.out.is x (List.mem_of_getElem? hx)
      obtain ⟨gs, rfl, hgs, hc, t0, t1, t2⟩ := (H.out.ext HW.out).task hx
      have hcan : canK T.L k = if x.is = 0 then (if hasAt (lkL T.L) k then [(x.p.1, 1)] else []) else if x.is = 2 then [(x.p.1, 3)] else [] := by unfold canK; rw [hx]
      have hcs := canP_succ T.L k
      rw [hcan] at hcs
      have hh0 := hasL_of HOK.out.nd hx
      obtain ⟨gs', hA', hgs0, -, -, -, s2⟩ := H.out.task hx
      cases hA'
      have S2 := Lib.hid s2
      have HG0 := Lib.hid hgs0
      clear hcan hx t1 s2 hgs0
      rcases hxi with h0 | h0 | h0
      · rw [h0] at t2 hcs
        rw [if_pos rfl] at hcs
        obtain ⟨hb, hhb⟩ : ∃ hb, hasAt (lkL T.L) k = hb := ⟨_, rfl⟩
        rw [hhb] at hh0 hcs
        have KH : Hid (∀ (ψ : World → Prop) (e : ExtP wr.heap.size wr ψ), Calls Try.prog 62 #[.pointer (some ⟨tg, 0, none⟩), .int .i64 x.p.1] e.val fun r w' => r = .returned (.bool hb) ∧ Below e.val.heap.size e.val w') := Lib.hid fun ψ e => by
          rw [← hh0]
          exact rhas_any x.p.1 e.val ((H.out.ext (Ext.trans HW.out e.ok)).rt)
        have e0 := fun (ψ : World → Prop) (e : ExtP wr.heap.size wr ψ) => e.cell c0 gl
        have e1 := fun (ψ : World → Prop) (e : ExtP wr.heap.size wr ψ) => e.cell c1 gl
        have e2 := fun (ψ : World → Prop) (e : ExtP wr.heap.size wr ψ) => e.cell t2 hgs
        have e3 := fun (ψ : World → Prop) (e : ExtP wr.heap.size wr ψ) => e.cell t0 hgs
        clear hh0 hhb h0 c0
        go_wp2
        refine wp_region_pieces 24  [(true, [0, 1, 2, 3, 4, 5, 6, 7, 8, 9, 10, 11, 12, 13, 14, 15, 16, 17, 18, 19, 20, 21, 22, 23])] (by kernel_rfl) (by kernel_rfl) ?_; simp only [pick, List.map_cons, List.map_nil, List.flatMap_cons, List.flatMap_nil, Option.toList_some, List.singleton_append, List.drop_succ_cons, List.drop_zero, List.getElem?_cons_zero, List.getElem?_cons_succ]
        refine ⟨by kernel_rfl, ?_⟩; apply Exists.intro; refine ⟨fun ψ hψ hne => (by (repeat (go_big_quiet_step (( go_at_call 62; exact extP_of hψ (Nat.le_refl _) (KH.out _ _) )))); exact wpQuiet_nil rfl), ?_⟩
        intro w2 h2
        clear e0 e1 e2 e3 KH
        have hz2 := Below.size h2
        replace c1 := Ext.cells1 h2 gl c1
        replace t0 := Ext.cells1 h2 hgs t0
        replace gl := Nat.lt_of_lt_of_le gl hz2
        replace hgs := Nat.lt_of_lt_of_le hgs hz2
        cases hb with
        | false =>
          simp only [Bool.false_eq_true, if_false, List.append_nil] at hcs
          have HC := Lib.hid hcs
          have HW2 := Lib.hid (Ext.trans HW.out h2)
          have HO2 := Lib.hid (HO.out.ext h2)
          clear hcs h2 HO HW
          go_wp2
          go_roundg (T.L.length - (k + 1))
          case measure => omega
          case rel => exact ⟨k + 1, by omega, by omega, by go_num, HW2, by rw [HC.out]; exact HO2⟩
        | true =>
          simp only [if_true] at hcs
          have HC := Lib.hid hcs
          obtain ⟨v', W2, hr, ho2, hb3⟩ := (app_kturn1 (x.p.1, 1) HO.out z0 (by omega)).out w2 h2
          have Hr := Lib.hid hr
          have HO2 := Lib.hid ho2
          have HW2 := Lib.hid (Below.trans HW.out hb3)
          clear hcs hr ho2 hb3 h2 HO HW
          go_wp2_with (at_builtin; refine wpList_app rfl (.tmp 59) (.tmp 69) 87 87 rfl Hr.out ?_; simp only [Act.put]; clear Hr)
          go_roundg (T.L.length - (k + 1))
          case measure => omega
          case rel => exact ⟨k + 1, by omega, by omega, by go_num, HW2, by rw [HC.out]; rw [List.length_append, tncs_app]; exact HO2⟩
      · rw [h0] at t2 hcs
        rw [if_neg (by decide), if_neg (by decide), List.append_nil] at hcs
        have HC := Lib.hid hcs
        have e1 := fun (ψ : World → Prop) (e : ExtP wr.heap.size wr ψ) => e.cell c1 gl
        have e2 := fun (ψ : World → Prop) (e : ExtP wr.heap.size wr ψ) => e.cell t2 hgs
        clear hcs h0 hh0 t0 c0
        go_wp2
        refine wp_region_pieces 24  [(true, [0, 1, 2, 3, 4, 5, 6, 7, 8, 9, 10, 11, 12, 13, 14, 15, 16, 17, 18, 19, 20, 21, 22, 23])] (by kernel_rfl) (by kernel_rfl) ?_; simp only [pick, List.map_cons, List.map_nil, List.flatMap_cons, List.flatMap_nil, Option.toList_some, List.singleton_append, List.drop_succ_cons, List.drop_zero, List.getElem?_cons_zero, List.getElem?_cons_succ]
        refine ⟨by kernel_rfl, ?_⟩; apply Exists.intro; refine ⟨fun ψ hψ hne => (by (repeat (go_big_quiet_step (( fail )))); exact wpQuiet_nil rfl), ?_⟩
        intro w2 h2
        clear e1 e2
        have HW2 := Lib.hid (Ext.trans HW.out h2)
        have HO2 := Lib.hid (HO.out.ext h2)
        clear h2 HO HW
        go_wp2
        go_roundg (T.L.length - (k + 1))
        case measure => omega
        case rel => exact ⟨k + 1, by omega, by omega, by go_num, HW2, by rw [HC.out]; exact HO2⟩
      · rw [h0] at t2 hcs
        rw [if_neg (by decide), if_pos rfl] at hcs
        have HC := Lib.hid hcs
        obtain ⟨v', W2, hr, ho2, hb3⟩ := (app_kturn1 (x.p.1, 3) HO.out z0 (by omega)).out wr (Ext.refl wr)
        have Hr := Lib.hid hr
        have HO2 := Lib.hid ho2
        have HW2 := Lib.hid (Below.trans HW.out hb3)
        have s2 := S2.out
        rw [h0] at s2
        have hc1 := Ext.cells1 HW2.out GL.out C1.out
        have hs2 := Ext.cells1 HW2.out HG0.out s2
        have hl1 := Nat.lt_of_lt_of_le GL.out (Below.size HW2.out)
        have hl2 := Nat.lt_of_lt_of_le HG0.out (Below.size HW2.out)
        have e1 := fun (ψ : World → Prop) (e : ExtP W2.heap.size W2 ψ) => e.cell hc1 hl1
        have e2 := fun (ψ : World → Prop) (e : ExtP W2.heap.size W2 ψ) => e.cell hs2 hl2
        clear hr ho2 hb3 hcs h0 hh0 c0 HO s2 S2 hc1 hs2
        go_wp2_with (at_builtin; refine wpList_app rfl (.tmp 23) (.tmp 33) 87 87 rfl Hr.out ?_; simp only [Act.put]; clear Hr t0 t2 c1 gl hgs)
        refine wp_region_pieces 24  [(true, [0, 1, 2, 3, 4, 5, 6, 7, 8, 9, 10, 11, 12, 13, 14, 15, 16, 17, 18, 19, 20, 21, 22, 23])] (by kernel_rfl) (by kernel_rfl) ?_; simp only [pick, List.map_cons, List.map_nil, List.flatMap_cons, List.flatMap_nil, Option.toList_some, List.singleton_append, List.drop_succ_cons, List.drop_zero, List.getElem?_cons_zero, List.getElem?_cons_succ]
        refine ⟨by kernel_rfl, ?_⟩; apply Exists.intro; refine ⟨fun ψ hψ hne => (by (repeat (go_big_quiet_step (( fail )))); exact wpQuiet_nil rfl), ?_⟩
        intro w3 h3
        clear e1 e2
        have HW3 := Lib.hid (Ext.trans HW2.out h3)
        have HO3 := Lib.hid (HO2.out.ext h3)
        clear h3 HO2 HW2 HW
        go_wp2
        go_roundg (T.L.length - (k + 1))
        case measure => omega
        case rel => exact ⟨k + 1, by omega, by omega, by go_num, HW3, by rw [HC.out]; rw [List.length_append, tncs_app]; exact HO3⟩
    · obtain rfl : k = T.L.length := by omega
      have KW := Lib.hid (kwaits_any wr (HAT.out.ext HW.out))
      cases hw : waitsB T.L with
      | false =>
        rw [hw] at KW
        have E : Hid (waitsB T.L = false) := Lib.hid hw
        clear hw H
        go_wp2_with (go_at_call 73; refine KW.out.mono ?_; rintro e w3 ⟨rfl, rfl⟩)
        go_ret
        refine ⟨_, rfl, ?_, HW.out⟩
        rw [HE0.out, E.out, if_neg (by decide), List.append_nil]
        exact HO.out
      | true =>
        rw [hw] at KW
        obtain ⟨v', W2, hr, ho2, hb3⟩ := (app_kturn1 (-1, 2) HO.out z0 (by omega)).out wr (Ext.refl wr)
        have Hr := Lib.hid hr
        have F := Lib.hid (Below.trans HW.out hb3)
        have O := Lib.hid ho2
        have E : Hid (waitsB T.L = true) := Lib.hid hw
        clear hw H hr ho2 hb3 HO HW
        go_wp2_with (first | (go_at_call 73; refine KW.out.mono ?_; rintro e w3 ⟨rfl, rfl⟩; clear KW) | (at_builtin; refine wpList_app rfl (.tmp 73) (.tmp 75) 87 87 rfl Hr.out ?_; simp only [Act.put]; clear Hr))
        go_ret
        refine ⟨_, rfl, ?_, F.out⟩
        rw [HE0.out, E.out, if_pos rfl, List.length_append, tncs_app]
        exact O.out
end

section
set_option linter.unusedVariables false
set_option maxRecDepth 100000
open Go.RowKit

theorem KtP.old {w : World} {S : Nat → Prop} {g tg : Nat} {v : Value} {c l : Int} {LT : List Tk} {L : List Te} (h : KtP w S g tg v c l LT L) : ∃ S' : Nat → Prop, KtP w S' g tg v c l LT L ∧ Hid (∀ i, S' i → S i ∧ i < w.heap.size) :=
  ⟨fun i => S i ∧ i < w.heap.size, { h with
    rt := (rtOb tg LT).mono ((rtOb tg LT).trim h.rt) fun i ⟨h1, o, ho, _⟩ => ⟨h1, heap_lt ho⟩
    sg := ⟨h.sg, heap_lt h.hg⟩
    sv := fun b hb => ⟨h.sv b hb, (own_lt h.row hb).2⟩ }, Lib.hid fun i hi => hi⟩
theorem To.kt {w w' : World} {S S' : Nat → Prop} {g tg : Nat} {v : Value} {T : TK} (HS : ∀ i, S' i → S i ∧ i < w.heap.size) (h : KtP w' S' g tg v T.cnt T.last (lkL T.L) T.L) (hm : Mut S' w w') (hok : T.Ok) : To S w w' (ktOb g T) :=
  ⟨⟨⟨tg, v, h.mono fun i hi => .inl (HS i hi).1⟩, hok⟩, hm.mono fun i hi => (HS i hi).1⟩
set_option maxHeartbeats 1000000 in
theorem kRow_any {S : Nat → Prop} {g : Nat} {T : TK} (w : World) (h : KtAt w S g T) :
    Calls Try.prog 49 #[.pointer (some ⟨g, 0, none⟩)] w fun e w' => ∃ v, e = .returned v ∧ OwnR w' w.heap.size 3 1 One v T.L.length (ics (T.L.map (·.p.1))) ∧ Ext w w' := by
  obtain ⟨⟨tg, v, h⟩, hok⟩ := h
  obtain ⟨A, c, hv⟩ := h.row.form
  subst hv
  have hlen := hok.len
  obtain ⟨-, c1, -, -, -, gl⟩ := blk4 h.hg
  have H := Lib.hid h
  clear h hok
  go_enter Try.func49, Try.ntmps49
  go_wp2
  go_loopg [3, 4] T.L.length (fun gg u s wr => ∃ k : Nat, k ≤ T.L.length ∧ T.L.length - k ≤ gg ∧ s = .int .i64 k ∧ Hid (Ext w wr) ∧ Hid (OwnR wr w.heap.size 3 1 One u k (ics ((T.L.take k).map (·.p.1)))))
  case atStart => exact ⟨0, Nat.zero_le _, by omega, rfl, Lib.hid (Ext.refl w), Lib.hid OwnR.nil⟩
  case round =>
    obtain ⟨k, hk, hg, rfl, HW, HO⟩ := hrel
    have f1 := HW.out.cells1 gl c1
    obtain ⟨A2, c2, rfl⟩ := HO.out.form
    by_cases hlt : k < T.L.length
    · obtain ⟨r, hr⟩ : ∃ r, T.L[k]? = some r := ⟨_, List.getElem?_eq_getElem hlt⟩
      obtain ⟨gs, rfl, hgs, hc, t0, t1, t2⟩ := H.out.task hr
      have k0 := HW.out.cells1 hgs t0
      have hx := extAl wr (.cells #[.int .i64 r.p.1] 3)
      have hsrc : Src Try.prog 1 28 (.slice (some ⟨wr.heap.size, 0, none⟩) 1 1) 1 [.int .i64 r.p.1] (wr.alloc (.cells #[.int .i64 r.p.1] 3)) := src_row Try.underlying28 (heap_alloc_last wr (.cells #[.int .i64 r.p.1] 3)) rfl (by intro u hu; simp at hu; subst hu; rfl)
      have hwz := Below.size HW.out
      obtain ⟨v', W2, hr2, ho2, hb2, -, -⟩ := app_int (ty := 28) (HO.out.ext hx) hsrc (by simp; omega) (by intro u hu; simp at hu; subst hu; rfl) (by omega)
      have Hr := Lib.hid hr2
      have HO2 := Lib.hid ho2
      have HW2 := Lib.hid (Below.trans HW.out (Below.trans (hx.mono hwz) hb2))
      have HR := Lib.hid hr
      clear hr2 ho2 hb2 hsrc hx hr t0 t1 t2
      go_wp2_with (at_builtin; refine wpList_app rfl (.tmp 14) (.tmp 23) 28 28 rfl Hr.out ?_; simp only [Act.put])
      go_roundg (T.L.length - (k + 1))
      case measure => omega
      case rel =>
        refine ⟨k + 1, by omega, by omega, by go_num, HW2, Lib.hid ?_⟩
        rw [List.take_add_one, List.map_append, ics_app]
        simpa [HR.out, ics] using HO2.out
    · obtain rfl : k = T.L.length := by omega
      rw [List.take_of_length_le (Nat.le_refl _)] at HO
      go_wp2
      go_ret
      exact ⟨_, rfl, HO.out, HW.out⟩
theorem kset4_3 {w : World} {g : Nat} {T : TypeId} {a b c d : Value} (x : Value) (h : w.heap[g]? = some (.cells #[a, b, c, d] T (0, 0))) : w.setCell ⟨g, 3, none⟩ x = w.setRow g #[a, b, c, x] := setCell_eq_setRow w g 3 _ T (0, 0) x h
/-- The place is noted, and the turn told. -/
theorem kt_done {w w3 : World} {S S' : Nat → Prop} {g tg : Nat} {v : Value} {T : TK} {pl : Int} {x : Tn} (HS : ∀ i, S' i → S i ∧ i < w.heap.size) (q3 : KtP w3 S' g tg v T.cnt T.last (lkL T.L) T.L) (hm : Mut S' w w3) (hok : TK.Ok { T with last := pl })
    (hr : w3.heap[w.heap.size]? = some (.cells #[.int .i64 0, .int .u8 0] 115 (0, 0))) :
    To S w ((w3.setRow g #[.pointer (some ⟨tg, 0, none⟩), v, .int .i64 T.cnt, .int .i64 pl]).setRow w.heap.size #[.int .i64 x.1, .int .u8 x.2]) (ktOb g { T with last := pl }) := by
  have hg := (HS g q3.sg).2
  have q4 := q3.cells T.cnt pl (fun i h => h) q3.row q3.sv
  have m4 := mut_setRow (w := w3) q3.sg #[.pointer (some ⟨tg, 0, none⟩), v, .int .i64 T.cnt, .int .i64 pl]
  have hr4 := (setRow_other w3 g w.heap.size #[.pointer (some ⟨tg, 0, none⟩), v, .int .i64 T.cnt, .int .i64 pl] (by omega)).trans hr
  have m5 := mut_setRow (S := fun i => i = w.heap.size) (w := w3.setRow g #[.pointer (some ⟨tg, 0, none⟩), v, .int .i64 T.cnt, .int .i64 pl]) rfl #[.int .i64 x.1, .int .u8 x.2]
  have q5 := q4.mutw m5 (fun i hi e => by have := (HS i hi).2; omega) (fun i o e ho hz => by
    subst e
    rw [hr4] at ho
    cases ho
    revert hz
    show ¬ (_ = _)
    decide)
  exact To.kt (T := { T with last := pl }) HS q5 ((hm.trans m4).thenM m5 (fun i hi => Nat.le_of_eq hi.symm)) hok
set_option maxHeartbeats 4000000 in
theorem kPick_any {S : Nat → Prop} {g : Nat} {T : TK} (n : Int) (w : World) (h : KtAt w S g T) (hn0 : -9223372036854775808 ≤ n) (hn1 : n ≤ 9223372036854775807) :
    Calls Try.prog 66 #[.pointer (some ⟨g, 0, none⟩), .int .i64 n] w fun e w' => e = .returned (.tuple #[tnV (T.pick n).2.1, .int .i64 (T.pick n).2.2]) ∧ To S w w' (ktOb g (T.pick n).1) := by
  have HT := Lib.hid h
  have x0 := extAl w (.cells #[.int .i64 0, .int .u8 0] 115)
  have K := Lib.hid (kCan_any _ (h.ext x0))
  obtain ⟨⟨tg, v, h⟩, hok⟩ := h
  by_cases hc : canT T = []
  · have hp : T.pick n = (T, (0, 0), 5) := by unfold TK.pick; rw [hc]; rfl
    rw [hp]
    rw [hc] at K
    have hg0 := heap_alloc_last w (.cells #[.int .i64 0, .int .u8 0] 115)
    clear hp hc h hok
    go_enter Try.func66, Try.ntmps66
    go_wp2_with fail
    refine K.out.mono ?_
    rintro e w1 ⟨v, rfl, ho, hb⟩
    have hr := Ext.blk hb hg0
    have HB := Lib.hid (Ext.trans x0 hb)
    obtain ⟨A, c, rfl⟩ := ho.form
    obtain ⟨d0, d1, df, dl⟩ := blk2 hr
    have ST := Lib.hid (set2_01 (.int .i64 0) (.int .u8 0) hr)
    obtain ⟨r0, r1, rf, rl⟩ := blk2 (setRow_heap w1 w.heap.size _ #[.int .i64 0, .int .u8 0] _ _ hr)
    have HF := Lib.hid (To.of_ext (D := ktOb g T) HT.out (below_setRow HB.out (Nat.le_refl _) #[.int .i64 0, .int .u8 0]))
    clear ho hb hr hg0 K x0 HB
    go_wp2
    rw [ST.out]
    exact bodyPost_ret (v := .tuple #[tnV (0, 0), .int .i64 5]) (by simp [results, Try.results66, go_sem, r0, r1, tnV]) rfl ⟨rfl, HF.out⟩
  · have hl := List.length_pos_iff.2 hc
    have hlt := pickI_lt hl n
    obtain ⟨x, hx⟩ : ∃ x, (canT T)[pickI (canT T) n]? = some x := ⟨_, List.getElem?_eq_getElem hlt⟩
    have hp : T.pick n = ({ T with last := placeT T.L x.1 }, x, 0) := by unfold TK.pick; rw [hx]
    have hxm := List.mem_of_getElem? hx
    have hlen := canT_len hok
    have hok' := Ok_last hok x.1
    rw [hp]
    obtain ⟨S', h', HS⟩ := h.old
    have H := Lib.hid h'
    have OK' := Lib.hid hok'
    have OK := Lib.hid hok
    have hg0 := heap_alloc_last w (.cells #[.int .i64 0, .int .u8 0] 115)
    have HX := Lib.hid hx
    clear hp hc h hok h' hok' hx hxm
    generalize canT T = l at *
    have hW : (IntKind.u64.wrap n).tmod (l.length : Int) = (pickI l n : Nat) := by
      have h0 := Int.emod_nonneg n (b := 18446744073709551616) (by omega)
      rw [wrap_u64, Int.tmod_eq_emod_of_nonneg h0]
      unfold pickI
      have h1 := Int.emod_nonneg (n % 18446744073709551616) (b := (l.length : Int)) (by omega)
      omega
    obtain ⟨k, hk⟩ : ∃ k, k = pickI l n := ⟨_, rfl⟩
    rw [← hk] at HX hW hlt
    clear hk
    go_enter Try.func66, Try.ntmps66
    go_wp2_with fail
    refine K.out.mono ?_
    rintro e w1 ⟨v1, rfl, ho, hb⟩
    obtain ⟨A, c, rfl⟩ := ho.form
    obtain ⟨b, rfl, hbB, hbl, hbc, hbj⟩ := ho.cells hl
    have hbc := hbc (by omega)
    have hr := Ext.blk hb hg0
    have HB := Lib.hid (Ext.trans x0 hb)
    have y0 : w1.cell? ⟨b, k * 2 + 0, none⟩ = some (.int .i64 x.1) := by
      have h1 := flat_at tnC_length l k 0 x HX.out (by omega)
      have h2 := hbj (k * 2 + 0) (by rw [tncs_length]; omega)
      rw [h2, ← List.getElem?_eq_getElem]
      exact h1
    have y1 : w1.cell? ⟨b, k * 2 + 1, none⟩ = some (.int .u8 x.2) := by
      have h1 := flat_at tnC_length l k 1 x HX.out (by omega)
      have h2 := hbj (k * 2 + 1) (by rw [tncs_length]; omega)
      rw [h2, ← List.getElem?_eq_getElem]
      exact h1
    rw [Nat.add_zero] at y0
    have hne : b ≠ w.heap.size := by have := own_lt ho (b := b) rfl; simp only [World.size_alloc] at this; omega
    clear ho hb hbj hg0 K x0
    go_wp2_with fail
    have hr7 := heap_alloc_last w1 (.cells #[.int .i64 x.1, .int .u8 x.2] 115)
    have hE := Ext.trans HB.out (extAl w1 (.cells #[.int .i64 x.1, .int .u8 x.2] 115))
    have hr' := Ext.blk (extAl w1 (.cells #[.int .i64 x.1, .int .u8 x.2] 115)) hr
    have zr := heap_lt hr
    have KP := Lib.hid (kplace_any x.1 _ (HT.out.ext hE))
    generalize w1.alloc (.cells #[.int .i64 x.1, .int .u8 x.2] 115) = V at *
    generalize w1.heap.size = r7 at *
    have q3 := H.out.ext hE
    obtain ⟨-, -, -, c3, cf, gl⟩ := blk4 q3.hg
    obtain ⟨u0, u1, uf, ul⟩ := blk2 hr7
    obtain ⟨d0, d1, df, dl⟩ := blk2 hr'
    have hgl := (HS.out g q3.sg).2
    have n1 : ¬ g = w.heap.size := by omega
    have n2 : ¬ g = r7 := by omega
    have n3 : ¬ w.heap.size = r7 := by omega
    have OKz := OK'
    generalize hpl : placeT T.L x.1 = pl at *
    have HP := Lib.hid hpl
    clear hpl
    have ST4 := Lib.hid (kset4_3 (.int .i64 pl) q3.hg)
    have hr4 := (setRow_other V g w.heap.size #[.pointer (some ⟨tg, 0, none⟩), v, .int .i64 T.cnt, .int .i64 pl] (Ne.symm n1)).trans hr'
    have ST5 := Lib.hid (set2_01 (.int .i64 x.1) (.int .u8 x.2) hr4)
    have F := Lib.hid (kt_done (S := S) (x := x) HS.out q3 (Mut.of_ext hE) OKz.out hr')
    obtain ⟨v0, v1, -, -⟩ := blk2 (setRow_heap _ _ _ #[.int .i64 x.1, .int .u8 x.2] _ _ hr4)
    have V0 := Lib.hid v0
    have V1 := Lib.hid v1
    clear y0 y1 hbl hbc hbB hW hr hr' hr7 hE HB HX H q3 hr4 v0 v1
    refine KP.out.mono ?_
    rintro e w2 ⟨rfl, rfl⟩
    go_wp2
    rw [ST4.out, ST5.out]
    have v0 := V0.out
    have v1 := V1.out
    exact bodyPost_ret (v := .tuple #[tnV x, .int .i64 0]) (by simp [results, Try.results66, go_sem, v0, v1, tnV]) rfl ⟨rfl, by rw [HP.out]; exact F.out⟩
end

section
set_option linter.unusedVariables false
set_option maxRecDepth 100000
open Go.RowKit

theorem find_min {α : Type} {f : α → Int} {last : Int} : ∀ {R : List α} {y : α}, R.Pairwise (fun a b => f a < f b) → y ∈ R → last < f y → (∀ z ∈ R, last < f z → f y ≤ f z) → R.find? (fun x => decide (last < f x)) = some y
  | [], _, _, h, _, _ => by cases h
  | a :: R, y, hp, hy, h1, h2 => by
    rw [List.find?_cons]
    rw [List.pairwise_cons] at hp
    by_cases ha : last < f a
    · rw [decide_eq_true ha]
      rcases List.mem_cons.1 hy with rfl | hy
      · rfl
      · have := hp.1 y hy
        have := h2 a (by simp) ha
        omega
    · rw [decide_eq_false ha]
      rcases List.mem_cons.1 hy with rfl | hy
      · exact absurd h1 ha
      · exact find_min hp.2 hy h1 fun z hz => h2 z (List.mem_cons_of_mem _ hz)
theorem can_rot {T : TK} {x : Tn} : x ∈ rotT T.L ↔ x ∈ canT T := by
  unfold rotT canT
  rw [List.mem_append, List.mem_append, or_comm]
/-- The one whose place is the least above the last one's; else the one whose place is the least. -/
theorem next_min {T : TK} (hok : T.Ok) {y : Tn} (hy : y ∈ canT T)
    (h : (T.last < placeT T.L y.1 ∧ ∀ z ∈ canT T, T.last < placeT T.L z.1 → placeT T.L y.1 ≤ placeT T.L z.1) ∨ ((∀ z ∈ canT T, ¬ T.last < placeT T.L z.1) ∧ ∀ z ∈ canT T, placeT T.L y.1 ≤ placeT T.L z.1)) :
    T.next = ({ T with last := placeT T.L y.1 }, y, 0) := by
  have up := rot_up hok
  have hy' := can_rot.2 hy
  have hm : ∀ z ∈ rotT T.L, z ∈ canT T := fun z hz => can_rot.1 hz
  unfold TK.next
  cases hr : rotT T.L with
  | nil => rw [hr] at hy'; cases hy'
  | cons x0 l =>
    have e : (((x0 :: l).find? fun x => decide (T.last < placeT T.L x.1)).getD x0) = y := by
      rcases h with ⟨h1, h2⟩ | ⟨h1, h2⟩
      · rw [← hr, find_min (f := fun x : Tn => placeT T.L x.1) up hy' h1 fun z hz => h2 z (hm z hz)]
        rfl
      · rw [← hr, List.find?_eq_none.2 fun z hz => by simpa using h1 z (hm z hz)]
        show x0 = y
        rw [hr] at up hy'
        rcases List.mem_cons.1 hy' with rfl | hy'
        · rfl
        · have := (List.pairwise_cons.1 up).1 y hy'
          have := h2 x0 (hm x0 (by rw [hr]; simp))
          omega
    simp only [e]
/-- What the document's search holds behind i of them. -/
structure NxI (P : Nat → Int) (last : Int) (i : Nat) (bi : Int) (fi : Nat) : Prop where
  f : ∀ j, j < i → P fi ≤ P j
  b : (bi = -1 ∧ ∀ j, j < i → P j ≤ last) ∨ ∃ b : Nat, bi = b ∧ b < i ∧ last < P b ∧ ∀ j, j < i → last < P j → P b ≤ P j
theorem NxI.start (P : Nat → Int) (last : Int) : NxI P last 0 (-1) 0 := ⟨fun j h => absurd h (Nat.not_lt_zero _), .inl ⟨rfl, fun j h => absurd h (Nat.not_lt_zero _)⟩⟩
section
variable {P : Nat → Int} {last : Int} {i fi : Nat}
theorem lt_succ_cases {j i : Nat} (h : j < i + 1) : j < i ∨ j = i := by omega
theorem NxI.f_new {bi bi' : Int} (h : NxI P last i bi fi) (hp : P i < P fi) (hb : (bi' = -1 ∧ ∀ j, j < i + 1 → P j ≤ last) ∨ ∃ b : Nat, bi' = b ∧ b < i + 1 ∧ last < P b ∧ ∀ j, j < i + 1 → last < P j → P b ≤ P j) : NxI P last (i + 1) bi' i :=
  ⟨fun j hj => by
    rcases lt_succ_cases hj with h1 | rfl
    · have := h.f j h1; omega
    · exact Int.le_refl _, hb⟩
theorem NxI.f_old {bi bi' : Int} (h : NxI P last i bi fi) (hp : ¬ P i < P fi) (hb : (bi' = -1 ∧ ∀ j, j < i + 1 → P j ≤ last) ∨ ∃ b : Nat, bi' = b ∧ b < i + 1 ∧ last < P b ∧ ∀ j, j < i + 1 → last < P j → P b ≤ P j) : NxI P last (i + 1) bi' fi :=
  ⟨fun j hj => by
    rcases lt_succ_cases hj with h1 | rfl
    · exact h.f j h1
    · omega, hb⟩
theorem b_first (h : ∀ j, j < i → P j ≤ last) (hp : last < P i) : ((i : Int) = -1 ∧ ∀ j, j < i + 1 → P j ≤ last) ∨ ∃ b : Nat, (i : Int) = b ∧ b < i + 1 ∧ last < P b ∧ ∀ j, j < i + 1 → last < P j → P b ≤ P j :=
  .inr ⟨i, rfl, by omega, hp, fun j hj hl => by
    rcases lt_succ_cases hj with h1 | rfl
    · have := h j h1; omega
    · exact Int.le_refl _⟩
theorem b_none (h : ∀ j, j < i → P j ≤ last) (hp : P i ≤ last) : ((-1 : Int) = -1 ∧ ∀ j, j < i + 1 → P j ≤ last) ∨ ∃ b : Nat, (-1 : Int) = b ∧ b < i + 1 ∧ last < P b ∧ ∀ j, j < i + 1 → last < P j → P b ≤ P j :=
  .inl ⟨rfl, fun j hj => by
    rcases lt_succ_cases hj with h1 | rfl
    · exact h j h1
    · exact hp⟩
theorem b_new {b : Nat} (hb : b < i) (h1 : last < P b) (h : ∀ j, j < i → last < P j → P b ≤ P j) (hp : last < P i) (hl : P i < P b) : ((i : Int) = -1 ∧ ∀ j, j < i + 1 → P j ≤ last) ∨ ∃ b : Nat, (i : Int) = b ∧ b < i + 1 ∧ last < P b ∧ ∀ j, j < i + 1 → last < P j → P b ≤ P j :=
  .inr ⟨i, rfl, by omega, hp, fun j hj hq => by
    rcases lt_succ_cases hj with h2 | rfl
    · have := h j h2 hq; omega
    · exact Int.le_refl _⟩
theorem b_old {b : Nat} (hb : b < i) (h1 : last < P b) (h : ∀ j, j < i → last < P j → P b ≤ P j) (hp : last < P i → P b ≤ P i) : ((b : Int) = -1 ∧ ∀ j, j < i + 1 → P j ≤ last) ∨ ∃ b' : Nat, (b : Int) = b' ∧ b' < i + 1 ∧ last < P b' ∧ ∀ j, j < i + 1 → last < P j → P b' ≤ P j :=
  .inr ⟨b, rfl, by omega, h1, fun j hj hq => by
    rcases lt_succ_cases hj with h2 | rfl
    · exact h j h2 hq
    · exact hp hq⟩
end
def plK (T : TK) (l : List Tn) (j : Nat) : Int := placeT T.L (l[j]?.getD (0, 0)).1
theorem plK_at {T : TK} {l : List Tn} {j : Nat} {x : Tn} (h : l[j]? = some x) : plK T l j = placeT T.L x.1 := by unfold plK; rw [h]; rfl
theorem turn_atK {w : World} {b c n k : Nat} {R : List Tn} {z : Tn} (h : RR w 2 (.slice (some ⟨b, 0, none⟩) n c) n (tncs R)) (hn : R.length = n) (hk : R[k]? = some z) :
    b < w.heap.size ∧ n ≤ c ∧ w.cell? ⟨b, k * 2, none⟩ = some (.int .i64 z.1) ∧ w.cell? ⟨b, k * 2 + 1, none⟩ = some (.int .u8 z.2) := turn_at h hn hk
set_option maxHeartbeats 4000000 in
theorem kNext_any {S : Nat → Prop} {g : Nat} {T : TK} (w : World) (h : KtAt w S g T) :
    Calls Try.prog 68 #[.pointer (some ⟨g, 0, none⟩)] w fun e w' => e = .returned (.tuple #[tnV T.next.2.1, .int .i64 T.next.2.2]) ∧ To S w w' (ktOb g T.next.1) := by
  have HT := Lib.hid h
  have x0 := extAl w (.cells #[.int .i64 0, .int .u8 0] 115)
  have K := Lib.hid (kCan_any _ (h.ext x0))
  obtain ⟨⟨tg, v, h⟩, hok⟩ := h
  by_cases hc : canT T = []
  · have hp : T.next = (T, (0, 0), 5) := by
      unfold TK.next
      have : rotT T.L = [] := by
        rw [List.eq_nil_iff_forall_not_mem]
        intro x hx
        have := can_rot.1 hx
        rw [hc] at this
        cases this
      rw [this]
    rw [hp]
    rw [hc] at K
    have hg0 := heap_alloc_last w (.cells #[.int .i64 0, .int .u8 0] 115)
    clear hp hc h hok
    go_enter Try.func68, Try.ntmps68
    go_wp2_with fail
    refine K.out.mono ?_
    rintro e w1 ⟨v, rfl, ho, hb⟩
    have hr := Ext.blk hb hg0
    have HB := Lib.hid (Ext.trans x0 hb)
    obtain ⟨A, c, rfl⟩ := ho.form
    obtain ⟨d0, d1, df, dl⟩ := blk2 hr
    have ST := Lib.hid (set2_01 (.int .i64 0) (.int .u8 0) hr)
    obtain ⟨r0, r1, rf, rl⟩ := blk2 (setRow_heap w1 w.heap.size _ #[.int .i64 0, .int .u8 0] _ _ hr)
    have HF := Lib.hid (To.of_ext (D := ktOb g T) HT.out (below_setRow HB.out (Nat.le_refl _) #[.int .i64 0, .int .u8 0]))
    clear ho hb hr hg0 K x0 HB
    go_wp2
    rw [ST.out]
    exact bodyPost_ret (v := .tuple #[tnV (0, 0), .int .i64 5]) (by simp [results, Try.results68, go_sem, r0, r1, tnV]) rfl ⟨rfl, HF.out⟩
  · have hl := List.length_pos_iff.2 hc
    have hlen := canT_len hok
    obtain ⟨S', h', HS⟩ := h.old
    have H := Lib.hid h'
    have OK := Lib.hid hok
    have hg0 := heap_alloc_last w (.cells #[.int .i64 0, .int .u8 0] 115)
    obtain ⟨l, hll⟩ : ∃ l, l = canT T := ⟨_, rfl⟩
    rw [← hll] at hl hlen K
    have HL := Lib.hid hll
    clear hc h hok h' hll
    go_enter Try.func68, Try.ntmps68
    go_wp2_with fail
    refine K.out.mono ?_
    rintro e w1 ⟨v1, rfl, ho, hb⟩
    obtain ⟨A, c, rfl⟩ := ho.form
    obtain ⟨b, rfl, hbB, -⟩ := ho.cells hl
    simp only [World.size_alloc] at hbB
    have HR0 := Lib.hid (Ext.blk hb hg0)
    have HX1 := Lib.hid (Ext.trans x0 hb)
    have HR1 := Lib.hid (ho.rr (by omega))
    clear ho hb hg0 K x0
    go_wp2
    have hk0 : ((l.length : Int) == 0) = false := by rw [beq_eq_false_iff_ne]; omega
    rw [hk0]
    clear hk0
    go_loopg [5, 6, 7] l.length (fun gg vb vf vi wr => ∃ (i : Nat) (bi : Int) (fi : Nat), i ≤ l.length ∧ l.length - i ≤ gg ∧ vi = .int .i64 i ∧ vb = .int .i64 bi ∧ vf = .int .i64 fi ∧ fi < l.length ∧ Hid (Ext w1 wr) ∧ Hid (NxI (plK T l) T.last i bi fi))
    case atStart => exact ⟨0, -1, 0, Nat.zero_le _, by omega, rfl, rfl, rfl, hl, Lib.hid (Ext.refl _), Lib.hid (NxI.start _ _)⟩
    case round =>
      obtain ⟨i, bi, fi, hi, hg, rfl, rfl, rfl, hfi, HE, HI⟩ := hrel
      by_cases hlt : i < l.length
      · obtain ⟨x, hx⟩ : ∃ x, l[i]? = some x := ⟨_, List.getElem?_eq_getElem hlt⟩
        obtain ⟨hbl, hbc, y0, -⟩ := turn_atK (HR1.out.ext HE.out) rfl hx
        have KI := Lib.hid (kplace_any x.1 wr (HT.out.ext (Ext.trans HX1.out HE.out)))
        rw [← plK_at hx] at KI
        obtain ⟨-, -, -, c3, -, gl⟩ := blk4 (H.out.ext (Ext.trans HX1.out HE.out)).hg
        obtain ⟨p, hp⟩ : ∃ p, plK T l i = p := ⟨_, rfl⟩
        rw [hp] at KI
        have HPI := Lib.hid hp
        clear hp hx
        go_wp2_with fail
        refine KI.out.mono ?_
        rintro e w3 ⟨rfl, rfl⟩
        clear KI
        by_cases hgt : T.last < p
        · as_aux_lemma =>
          have HGT := Lib.hid hgt
          rcases HI.out.b with ⟨rfl, hb⟩ | ⟨q, rfl, hq, hq1, hq2⟩
          · have HB := Lib.hid hb
            clear hb
            obtain ⟨xf, hxf⟩ : ∃ x, l[fi]? = some x := ⟨_, List.getElem?_eq_getElem (by omega)⟩
            obtain ⟨hfl, -, xf0, -⟩ := turn_atK (HR1.out.ext HE.out) rfl hxf
            have KF := Lib.hid (kplace_any xf.1 wr (HT.out.ext (Ext.trans HX1.out HE.out)))
            have HXF := Lib.hid hxf
            rw [← plK_at hxf] at KF
            generalize hpf : plK T l fi = pf at *
            have HPF := Lib.hid hpf
            clear hxf hpf
            by_cases hpl : p < pf
            · have HPL := Lib.hid hpl
              skip
              go_wp2_with fail
              refine KF.out.mono ?_
              rintro e w3 ⟨rfl, rfl⟩
              clear KF
              go_wp2
              go_roundg (l.length - (i + 1))
              case measure => omega
              case rel => exact ⟨i + 1, _, i, by omega, by omega, by go_num, rfl, rfl, by omega, HE, Lib.hid (HI.out.f_new (by rw [HPI.out, HPF.out]; exact HPL.out) (b_first HB.out (by rw [HPI.out]; exact HGT.out)))⟩
            · have hpl := Int.not_lt.1 hpl
              have HPL := Lib.hid hpl
              skip
              go_wp2_with fail
              refine KF.out.mono ?_
              rintro e w3 ⟨rfl, rfl⟩
              clear KF
              go_wp2
              go_roundg (l.length - (i + 1))
              case measure => omega
              case rel => exact ⟨i + 1, _, fi, by omega, by omega, by go_num, rfl, rfl, by omega, HE, Lib.hid (HI.out.f_old (by rw [HPI.out, HPF.out]; exact Int.not_lt.2 HPL.out) (b_first HB.out (by rw [HPI.out]; exact HGT.out)))⟩
          · obtain ⟨xq, hxq⟩ : ∃ x, l[q]? = some x := ⟨_, List.getElem?_eq_getElem (by omega)⟩
            obtain ⟨hql, -, xq0, -⟩ := turn_atK (HR1.out.ext HE.out) rfl hxq
            have KB := Lib.hid (kplace_any xq.1 wr (HT.out.ext (Ext.trans HX1.out HE.out)))
            rw [← plK_at hxq] at KB
            have HQ1 := Lib.hid hq1
            have HQ2 := Lib.hid hq2
            have hqn : ((q : Int) < 0) = False := by simp
            obtain ⟨pq, hpq⟩ : ∃ p, plK T l q = p := ⟨_, rfl⟩
            rw [hpq] at KB
            have HPQ := Lib.hid hpq
            clear hq1 hq2 hpq hxq
            by_cases hlq : p < pq
            · have HLQ := Lib.hid hlq
              obtain ⟨xf, hxf⟩ : ∃ x, l[fi]? = some x := ⟨_, List.getElem?_eq_getElem (by omega)⟩
              obtain ⟨hfl, -, xf0, -⟩ := turn_atK (HR1.out.ext HE.out) rfl hxf
              have KF := Lib.hid (kplace_any xf.1 wr (HT.out.ext (Ext.trans HX1.out HE.out)))
              have HXF := Lib.hid hxf
              rw [← plK_at hxf] at KF
              generalize hpf : plK T l fi = pf at *
              have HPF := Lib.hid hpf
              clear hxf hpf
              by_cases hpl : p < pf
              · have HPL := Lib.hid hpl
                go_wp2_with fail; refine KB.out.mono ?_; rintro e w3 ⟨rfl, rfl⟩; clear KB
                go_wp2_with fail
                refine KF.out.mono ?_
                rintro e w3 ⟨rfl, rfl⟩
                clear KF
                go_wp2
                go_roundg (l.length - (i + 1))
                case measure => omega
                case rel => exact ⟨i + 1, _, i, by omega, by omega, by go_num, rfl, rfl, by omega, HE, Lib.hid (HI.out.f_new (by rw [HPI.out, HPF.out]; exact HPL.out) (b_new hq HQ1.out HQ2.out (by rw [HPI.out]; exact HGT.out) (by rw [HPI.out, HPQ.out]; exact HLQ.out)))⟩
              · have hpl := Int.not_lt.1 hpl
                have HPL := Lib.hid hpl
                go_wp2_with fail; refine KB.out.mono ?_; rintro e w3 ⟨rfl, rfl⟩; clear KB
                go_wp2_with fail
                refine KF.out.mono ?_
                rintro e w3 ⟨rfl, rfl⟩
                clear KF
                go_wp2
                go_roundg (l.length - (i + 1))
                case measure => omega
                case rel => exact ⟨i + 1, _, fi, by omega, by omega, by go_num, rfl, rfl, by omega, HE, Lib.hid (HI.out.f_old (by rw [HPI.out, HPF.out]; exact Int.not_lt.2 HPL.out) (b_new hq HQ1.out HQ2.out (by rw [HPI.out]; exact HGT.out) (by rw [HPI.out, HPQ.out]; exact HLQ.out)))⟩
            · have hlq := Int.not_lt.1 hlq
              have HLQ := Lib.hid hlq
              obtain ⟨xf, hxf⟩ : ∃ x, l[fi]? = some x := ⟨_, List.getElem?_eq_getElem (by omega)⟩
              obtain ⟨hfl, -, xf0, -⟩ := turn_atK (HR1.out.ext HE.out) rfl hxf
              have KF := Lib.hid (kplace_any xf.1 wr (HT.out.ext (Ext.trans HX1.out HE.out)))
              have HXF := Lib.hid hxf
              rw [← plK_at hxf] at KF
              generalize hpf : plK T l fi = pf at *
              have HPF := Lib.hid hpf
              clear hxf hpf
              by_cases hpl : p < pf
              · have HPL := Lib.hid hpl
                go_wp2_with fail; refine KB.out.mono ?_; rintro e w3 ⟨rfl, rfl⟩; clear KB
                go_wp2_with fail
                refine KF.out.mono ?_
                rintro e w3 ⟨rfl, rfl⟩
                clear KF
                go_wp2
                go_roundg (l.length - (i + 1))
                case measure => omega
                case rel => exact ⟨i + 1, _, i, by omega, by omega, by go_num, rfl, rfl, by omega, HE, Lib.hid (HI.out.f_new (by rw [HPI.out, HPF.out]; exact HPL.out) (b_old hq HQ1.out HQ2.out (fun _ => by rw [HPI.out, HPQ.out]; exact HLQ.out)))⟩
              · have hpl := Int.not_lt.1 hpl
                have HPL := Lib.hid hpl
                go_wp2_with fail; refine KB.out.mono ?_; rintro e w3 ⟨rfl, rfl⟩; clear KB
                go_wp2_with fail
                refine KF.out.mono ?_
                rintro e w3 ⟨rfl, rfl⟩
                clear KF
                go_wp2
                go_roundg (l.length - (i + 1))
                case measure => omega
                case rel => exact ⟨i + 1, _, fi, by omega, by omega, by go_num, rfl, rfl, by omega, HE, Lib.hid (HI.out.f_old (by rw [HPI.out, HPF.out]; exact Int.not_lt.2 HPL.out) (b_old hq HQ1.out HQ2.out (fun _ => by rw [HPI.out, HPQ.out]; exact HLQ.out)))⟩
        · have hgt := Int.not_lt.1 hgt
          have HGT := Lib.hid hgt
          rcases HI.out.b with ⟨rfl, hb⟩ | ⟨q, rfl, hq, hq1, hq2⟩
          · have HB := Lib.hid hb
            clear hb
            obtain ⟨xf, hxf⟩ : ∃ x, l[fi]? = some x := ⟨_, List.getElem?_eq_getElem (by omega)⟩
            obtain ⟨hfl, -, xf0, -⟩ := turn_atK (HR1.out.ext HE.out) rfl hxf
            have KF := Lib.hid (kplace_any xf.1 wr (HT.out.ext (Ext.trans HX1.out HE.out)))
            have HXF := Lib.hid hxf
            rw [← plK_at hxf] at KF
            generalize hpf : plK T l fi = pf at *
            have HPF := Lib.hid hpf
            clear hxf hpf
            by_cases hpl : p < pf
            · have HPL := Lib.hid hpl
              skip
              go_wp2_with fail
              refine KF.out.mono ?_
              rintro e w3 ⟨rfl, rfl⟩
              clear KF
              go_wp2
              go_roundg (l.length - (i + 1))
              case measure => omega
              case rel => exact ⟨i + 1, _, i, by omega, by omega, by go_num, rfl, rfl, by omega, HE, Lib.hid (HI.out.f_new (by rw [HPI.out, HPF.out]; exact HPL.out) (b_none HB.out (by rw [HPI.out]; exact HGT.out)))⟩
            · have hpl := Int.not_lt.1 hpl
              have HPL := Lib.hid hpl
              skip
              go_wp2_with fail
              refine KF.out.mono ?_
              rintro e w3 ⟨rfl, rfl⟩
              clear KF
              go_wp2
              go_roundg (l.length - (i + 1))
              case measure => omega
              case rel => exact ⟨i + 1, _, fi, by omega, by omega, by go_num, rfl, rfl, by omega, HE, Lib.hid (HI.out.f_old (by rw [HPI.out, HPF.out]; exact Int.not_lt.2 HPL.out) (b_none HB.out (by rw [HPI.out]; exact HGT.out)))⟩
          · have HQ1 := Lib.hid hq1
            have HQ2 := Lib.hid hq2
            clear hq1 hq2
            obtain ⟨xf, hxf⟩ : ∃ x, l[fi]? = some x := ⟨_, List.getElem?_eq_getElem (by omega)⟩
            obtain ⟨hfl, -, xf0, -⟩ := turn_atK (HR1.out.ext HE.out) rfl hxf
            have KF := Lib.hid (kplace_any xf.1 wr (HT.out.ext (Ext.trans HX1.out HE.out)))
            have HXF := Lib.hid hxf
            rw [← plK_at hxf] at KF
            generalize hpf : plK T l fi = pf at *
            have HPF := Lib.hid hpf
            clear hxf hpf
            by_cases hpl : p < pf
            · have HPL := Lib.hid hpl
              skip
              go_wp2_with fail
              refine KF.out.mono ?_
              rintro e w3 ⟨rfl, rfl⟩
              clear KF
              go_wp2
              go_roundg (l.length - (i + 1))
              case measure => omega
              case rel => exact ⟨i + 1, _, i, by omega, by omega, by go_num, rfl, rfl, by omega, HE, Lib.hid (HI.out.f_new (by rw [HPI.out, HPF.out]; exact HPL.out) (b_old hq HQ1.out HQ2.out (fun h => by rw [HPI.out] at h; exact absurd h (Int.not_lt.2 HGT.out))))⟩
            · have hpl := Int.not_lt.1 hpl
              have HPL := Lib.hid hpl
              skip
              go_wp2_with fail
              refine KF.out.mono ?_
              rintro e w3 ⟨rfl, rfl⟩
              clear KF
              go_wp2
              go_roundg (l.length - (i + 1))
              case measure => omega
              case rel => exact ⟨i + 1, _, fi, by omega, by omega, by go_num, rfl, rfl, by omega, HE, Lib.hid (HI.out.f_old (by rw [HPI.out, HPF.out]; exact Int.not_lt.2 HPL.out) (b_old hq HQ1.out HQ2.out (fun h => by rw [HPI.out] at h; exact absurd h (Int.not_lt.2 HGT.out))))⟩
      · obtain rfl : i = l.length := by omega
        have hz : ∀ z ∈ canT T, ∃ j, j < l.length ∧ plK T l j = placeT T.L z.1 := fun z hz => by
          rw [← HL.out] at hz
          obtain ⟨j, hj⟩ := List.getElem?_of_mem hz
          exact ⟨j, (List.getElem?_eq_some_iff.1 hj).1, plK_at hj⟩
        have HZ := Lib.hid hz
        have HF := Lib.hid HI.out.f
        clear hz
        rcases HI.out.b with ⟨rfl, hb⟩ | ⟨q, rfl, hq, hq1, hq2⟩
        · have HB := Lib.hid hb
          clear hb
          obtain ⟨x, hx⟩ : ∃ x, l[fi]? = some x := ⟨_, List.getElem?_eq_getElem (by omega)⟩
          obtain ⟨hbl, hbc, y0, y1⟩ := turn_atK (HR1.out.ext HE.out) rfl hx
          have hxm := List.mem_of_getElem? hx
          rw [HL.out] at hxm
          have hnx := next_min OK.out hxm (.inr ⟨fun z hz => by obtain ⟨j, hj, e⟩ := HZ.out z hz; rw [← e]; exact Int.not_lt.2 (HB.out j hj), fun z hz => by obtain ⟨j, hj, e⟩ := HZ.out z hz; rw [← e, ← plK_at hx]; exact HF.out j hj⟩)
          have hE := Ext.trans HX1.out HE.out
          have KP := Lib.hid (kplace_any x.1 _ (HT.out.ext hE))
          have q3 := H.out.ext hE
          have hr' := Ext.blk HE.out HR0.out
          obtain ⟨-, -, -, c3, cf, gl⟩ := blk4 q3.hg
          obtain ⟨d0, d1, df, dl⟩ := blk2 hr'
          have hgl := (HS.out g q3.sg).2
          have n1 : ¬ g = w.heap.size := by omega
          have n2 : ¬ b = w.heap.size := by omega
          have n3 : ¬ g = b := by omega
          have OKz := Lib.hid (Ok_last OK.out x.1)
          generalize hpl : placeT T.L x.1 = pl at *
          have HP := Lib.hid hnx
          have ST4 := Lib.hid (kset4_3 (.int .i64 pl) q3.hg)
          have hr4 := (setRow_other wr g w.heap.size #[.pointer (some ⟨tg, 0, none⟩), v, .int .i64 T.cnt, .int .i64 pl] (Ne.symm n1)).trans hr'
          have ST5 := Lib.hid (set2_01 (.int .i64 x.1) (.int .u8 x.2) hr4)
          have F := Lib.hid (kt_done (S := S) (x := x) HS.out q3 (Mut.of_ext hE) OKz.out hr')
          obtain ⟨v0, v1, -, -⟩ := blk2 (setRow_heap _ _ _ #[.int .i64 x.1, .int .u8 x.2] _ _ hr4)
          have V0 := Lib.hid v0
          have V1 := Lib.hid v1
          clear hr' hE HX1 HE hx hxm q3 hr4 v0 v1 hnx hpl HI HR1 HL
          go_wp2_with (go_at_call 82; refine KP.out.mono ?_; rintro e w3 ⟨rfl, rfl⟩; clear KP)
          rw [ST4.out, ST5.out]
          have v0 := V0.out
          have v1 := V1.out
          exact bodyPost_ret (v := .tuple #[tnV x, .int .i64 0]) (by simp [results, Try.results68, go_sem, v0, v1, tnV]) rfl ⟨by rw [HP.out], by rw [HP.out]; exact F.out⟩
        · have HQ1 := Lib.hid hq1
          have HQ2 := Lib.hid hq2
          have hqn : ((q : Int) < 0) = False := by simp
          clear hq1 hq2
          obtain ⟨x, hx⟩ : ∃ x, l[q]? = some x := ⟨_, List.getElem?_eq_getElem (by omega)⟩
          obtain ⟨hbl, hbc, y0, y1⟩ := turn_atK (HR1.out.ext HE.out) rfl hx
          have hxm := List.mem_of_getElem? hx
          rw [HL.out] at hxm
          have hnx := next_min OK.out hxm (.inl ⟨by rw [← plK_at hx]; exact HQ1.out, fun z hz h => by obtain ⟨j, hj, e⟩ := HZ.out z hz; rw [← e] at h ⊢; rw [← plK_at hx]; exact HQ2.out j hj h⟩)
          have hE := Ext.trans HX1.out HE.out
          have KP := Lib.hid (kplace_any x.1 _ (HT.out.ext hE))
          have q3 := H.out.ext hE
          have hr' := Ext.blk HE.out HR0.out
          obtain ⟨-, -, -, c3, cf, gl⟩ := blk4 q3.hg
          obtain ⟨d0, d1, df, dl⟩ := blk2 hr'
          have hgl := (HS.out g q3.sg).2
          have n1 : ¬ g = w.heap.size := by omega
          have n2 : ¬ b = w.heap.size := by omega
          have n3 : ¬ g = b := by omega
          have OKz := Lib.hid (Ok_last OK.out x.1)
          generalize hpl : placeT T.L x.1 = pl at *
          have HP := Lib.hid hnx
          have ST4 := Lib.hid (kset4_3 (.int .i64 pl) q3.hg)
          have hr4 := (setRow_other wr g w.heap.size #[.pointer (some ⟨tg, 0, none⟩), v, .int .i64 T.cnt, .int .i64 pl] (Ne.symm n1)).trans hr'
          have ST5 := Lib.hid (set2_01 (.int .i64 x.1) (.int .u8 x.2) hr4)
          have F := Lib.hid (kt_done (S := S) (x := x) HS.out q3 (Mut.of_ext hE) OKz.out hr')
          obtain ⟨v0, v1, -, -⟩ := blk2 (setRow_heap _ _ _ #[.int .i64 x.1, .int .u8 x.2] _ _ hr4)
          have V0 := Lib.hid v0
          have V1 := Lib.hid v1
          clear hr' hE HX1 HE hx hxm q3 hr4 v0 v1 hnx hpl HI HR1 HL
          go_wp2_with (go_at_call 82; refine KP.out.mono ?_; rintro e w3 ⟨rfl, rfl⟩; clear KP)
          rw [ST4.out, ST5.out]
          have v0 := V0.out
          have v1 := V1.out
          exact bodyPost_ret (v := .tuple #[tnV x, .int .i64 0]) (by simp [results, Try.results68, go_sem, v0, v1, tnV]) rfl ⟨by rw [HP.out], by rw [HP.out]; exact F.out⟩
end

section
set_option linter.unusedVariables false
set_option maxRecDepth 100000
open Go.RowKit

theorem app_ktask {w : World} {B n : Nat} {v x : Value} {cs : List Value} {m : Nat} {new : List Value} {tx ty : TypeId} (ho : OwnR w B 121 3 One v n cs) (hs : Src Try.prog 3 tx x m new w) (hB : B ≤ w.heap.size) (hn : ∀ u ∈ new, One u) (hc : n + m ≤ 100000000) :
    ∃ v' w', (Builtin.append_ #[111, tx] ty #[v, x]).run Try.prog w = .ok v' w' ∧ OwnR w' B 121 3 One v' (n + m) (cs ++ new) ∧ Below B w w' ∧ w.grownBy w' v.ownBlock ∧ (∀ b, v'.ownBlock = some b → v.ownBlock = some b ∨ w.heap.size ≤ b) := by
  have h : (Try.prog.info? 121).map (fun i => (i.zero, i.size, i.bytes)) = some (some (.agg #[.int .i64 0, .int .i64 0, .int .i64 0]), 3, 24) := by kernel_rfl
  obtain ⟨i, hi, hz0, hz1, hz2⟩ := info_prt h
  exact appG2 (ty := ty) Try.underlying111 hi hz1 hz0 rfl ho hs hB (by omega) hn (by intro u hu; simp [Value.cells] at hu; rcases hu with rfl | rfl | rfl <;> rfl) (by rw [hz2]; omega) (by omega)
theorem set4_1 {w : World} {g : Nat} {T : TypeId} {a b c d : Value} (x : Value) (h : w.heap[g]? = some (.cells #[a, b, c, d] T (0, 0))) : w.setCell ⟨g, 1, none⟩ x = w.setRow g #[a, x, c, d] := setCell_eq_setRow w g 1 _ T (0, 0) x h
theorem setIs_set {L : List Te} (hnd : (L.map (·.p.1)).Nodup) {i : Nat} {e : Te} (hi : L[i]? = some e) (is : Int) : setIs L e.p.1 is = L.set i { e with is := is } := by
  obtain ⟨hil, he⟩ := List.getElem?_eq_some_iff.1 hi
  apply List.ext_getElem?
  intro j
  unfold setIs
  rw [List.getElem?_map, List.getElem?_set]
  by_cases hij : i = j
  · subst hij
    rw [if_pos rfl, if_pos hil, hi, Option.map_some, if_pos rfl]
  · rw [if_neg hij]
    cases hj : L[j]? with
    | none => rfl
    | some x =>
      obtain ⟨hjl, hx⟩ := List.getElem?_eq_some_iff.1 hj
      rw [Option.map_some, if_neg]
      rw [List.Nodup, List.pairwise_map, List.pairwise_iff_getElem] at hnd
      rw [← hx, ← he]
      intro h
      rcases Nat.lt_or_gt_of_ne hij with h' | h'
      · exact hnd i j hil hjl h' h.symm
      · exact hnd j i hjl hil h' h
theorem kflat_set {A : List Te} {i : Nat} {a : Te} {s : Int} (hi : A[i]? = some a) : (A.set i { a with is := s }).flatMap kC = (A.flatMap kC).set (i * 3 + 2) (.int .i64 s) := by
  induction A generalizing i with
  | nil => simp at hi
  | cons c A ih =>
    cases i with
    | zero =>
      simp only [List.getElem?_cons_zero, Option.some.injEq] at hi
      subst hi
      simp [kC, List.set_cons_zero]
    | succ i =>
      simp only [List.getElem?_cons_succ] at hi
      have e : (i + 1) * 3 + 2 = 3 + (i * 3 + 2) := by omega
      rw [List.set_cons_succ, List.flatMap_cons, List.flatMap_cons, ih hi, e]
      rw [List.set_append_right _ _ (by simp [kC])]
      congr 2
      simp [kC]
section
variable {w : World} {S : Nat → Prop} {g tg : Nat} {v : Value} {c l : Int} {LT : List Tk} {L L' : List Te}
theorem KtP.reRow {b : Nat} {row' : Array Value} (h : KtP w S g tg v c l LT L) (hv : v.ownBlock = some b) (ho : OwnR (w.setRow b row') 0 121 3 One v L'.length (L'.flatMap kC)) : KtP (w.setRow b row') S g tg v c l LT L' := by
  obtain ⟨cs, hb⟩ := own_blk h.row hv
  have hne : b ≠ g := fun e => own_ne h.row h.hg (by decide) (e ▸ hv)
  refine { hg := (setRow_other w b g row' (Ne.symm hne)).trans h.hg, rt := (rtOb tg LT).mono ((rtOb tg LT).mutw ((rtOb tg LT).trim h.rt) (mut_setRow (S := fun i => i = b) rfl _) ?_ ?_) fun i hi => hi.1, row := ho, sg := h.sg, sv := h.sv }
  · rintro i ⟨_, o, ho2, hk⟩ e
    subst e
    rw [hb] at ho2
    cases ho2
    revert hk
    show ¬ (_ ∨ _)
    decide
  · intro i o e ho2 hz
    subst e
    rw [hb] at ho2
    cases ho2
    revert hz
    show ¬ (_ = _)
    decide
end
set_option maxHeartbeats 4000000 in
theorem kbecome_any {S : Nat → Prop} {g i : Nat} {T : TK} {e : Te} (w : World) (h : KtAt w S g T) (hi : T.L[i]? = some e) (is : Int) (his : is = 0 ∨ is = 1 ∨ is = 2) :
    Calls Try.prog 84 #[.pointer (some ⟨g, 0, none⟩), .int .i64 i, .int .i64 is] w fun r w' => r = .returned (.tuple #[]) ∧ To S w w' (ktOb g { T with L := setIs T.L e.p.1 is }) := by
  obtain ⟨⟨tg, v, h⟩, hok⟩ := h
  have hil := (List.getElem?_eq_some_iff.1 hi).1
  have hlen := hok.len
  obtain ⟨A, c, rfl⟩ := h.row.form
  have hx := extAl w (.cells #[] 121)
  have ho := alloc_row0 w 121 w.heap.size 3 One (Nat.le_refl _)
  obtain ⟨v', w1, hr, ho1, hb, -, -⟩ := app_ktask (tx := 111) (ty := 111) ho ((h.row.ext hx).src Try.underlying111 (kC_one _)) (by simp) (kC_one _) (by omega)
  simp only [Nat.zero_add, List.nil_append] at ho1
  obtain ⟨A', c', rfl⟩ := ho1.form
  obtain ⟨gs, rfl, hgB, hgl, hgc, -⟩ := ho1.cells (by omega)
  have hgc := hgc (by omega)
  have hb' : Ext w w1 := Below.trans hx hb
  have q1 := h.ext hb'
  have gl := heap_lt h.hg
  have f1 := (Ext.cells1 hx gl (blk4 h.hg).2.1)
  obtain ⟨-, d1, -, -, df, dl⟩ := blk4 q1.hg
  have ST := Lib.hid (set4_1 (.slice (some ⟨gs, 0, none⟩) T.L.length c') q1.hg)
  have q2 := q1.cells (S' := fun j => S j ∨ j = gs) T.cnt T.last (fun j hj => .inl hj) (ho1.mono (Nat.zero_le _)) (fun b hb => .inr (by simpa [Value.ownBlock] using hb.symm))
  have hjl : i * 3 + 2 < (T.L.flatMap kC).length := by rw [flat_length kC_length]; omega
  obtain ⟨row', e3, ho3⟩ := q2.row.setC (j := i * 3 + 2) (x := .int .i64 is) hjl rfl
  have hset := setIs_set hok.nd hi is
  rw [← kflat_set hi, ← hset] at ho3
  have hln : (setIs T.L e.p.1 is).length = T.L.length := by simp [setIs]
  have hlk := lkL_setIs T.L e.p.1 is
  have q3 := q2.reRow (L' := setIs T.L e.p.1 is) rfl (by rw [hln]; exact ho3)
  rw [← hlk] at q3
  have hsz : gs < ((w1.setRow g #[.pointer (some ⟨tg, 0, none⟩), .slice (some ⟨gs, 0, none⟩) T.L.length c', .int .i64 T.cnt, .int .i64 T.last]).setRow gs row').heap.size := by simpa [World.setRow] using hgl
  have F : Hid (To S w ((w1.setRow g #[.pointer (some ⟨tg, 0, none⟩), .slice (some ⟨gs, 0, none⟩) T.L.length c', .int .i64 T.cnt, .int .i64 T.last]).setRow gs row') (ktOb g { T with L := setIs T.L e.p.1 is })) := Lib.hid
    ⟨⟨⟨tg, _, q3.mono fun j hj => hj.elim .inl fun e => .inr (by subst e; exact ⟨hgB, hsz⟩)⟩, Ok_setIs hok _ _ his⟩,
      ((Mut.of_ext (S := S) hb').trans (mut_setRow h.sg _)).thenM (mut_setRow (S := fun j => j = gs) rfl _) (fun j hj => by subst hj; exact hgB)⟩
  obtain ⟨-, u1, -, -, -, ul⟩ := blk4 q2.hg
  have he1 := Lib.hid e3
  obtain ⟨gs', hA', tl, tc, -, -, t2⟩ := q2.task hi
  cases hA'
  have fr : (w1.setRow g #[.pointer (some ⟨tg, 0, none⟩), .slice (some ⟨gs, 0, none⟩) T.L.length c', .int .i64 T.cnt, .int .i64 T.last]).frozen? ⟨gs, i * 3 + 2, none⟩ = false := (own_flat q2.row kC_length rfl hi).2.2.2 _
  have Hr := Lib.hid hr
  clear h q1 q2 q3 ho ho1 ho3 hr hb hb' hx hset hln hlk hsz hi hok e3 hjl
  go_enter Try.func84, Try.ntmps84
  go_upto_region 1 with (at_builtin; refine wpList_app rfl (.tmp 7) (.tmp 11) 111 111 rfl Hr.out ?_; simp only [Act.put])
  rw [ST.out]
  clear ST d1 df dl f1 Hr
  generalize w1.setRow g #[.pointer (some ⟨tg, 0, none⟩), .slice (some ⟨gs, 0, none⟩) T.L.length c', .int .i64 T.cnt, .int .i64 T.last] = V at *
  go_wp2
  rw [he1.out]
  go_end0
  exact ⟨rfl, F.out⟩
/-- Where a task stands, or that it does not. -/
theorem find_cases {T : TK} (hok : T.Ok) (n : Int) : (atI (lkL T.L) n = -1 ∧ findT T.L n = none) ∨ ∃ (i : Nat) (e : Te), atI (lkL T.L) n = i ∧ T.L[i]? = some e ∧ e.p.1 = n ∧ findT T.L n = some e := by
  cases hf : findT T.L n with
  | none =>
    have h1 := atL_iff T.L n
    rw [hf] at h1
    refine .inl ⟨?_, rfl⟩
    unfold atI
    cases ha : atL (lkL T.L) n with
    | none => rfl
    | some i => rw [ha] at h1; cases h1
  | some e =>
    obtain ⟨hm, hn⟩ := findT_some hf
    obtain ⟨i, hi⟩ := List.getElem?_of_mem hm
    refine .inr ⟨i, e, ?_, hi, hn, rfl⟩
    unfold atI
    rw [← hn, atL_of hok.nd hi]
set_option maxHeartbeats 2000000 in
theorem kDid_any {S : Nat → Prop} {g : Nat} {T : TK} (n : Int) (b : Bool) (w : World) (h : KtAt w S g T) :
    Calls Try.prog 69 #[.pointer (some ⟨g, 0, none⟩), .int .i64 n, .bool b] w fun r w' => r = .returned (.int .i64 (T.didE n)) ∧ To S w w' (ktOb g (T.did n b)) := by
  have KF := Lib.hid (kfind_any n w h)
  have HT := Lib.hid h
  obtain ⟨⟨tg, v, h⟩, hok⟩ := h
  rcases find_cases hok n with ⟨h1, h2⟩ | ⟨i, e, h1, hi, hn, hf⟩
  · rw [h1] at KF
    have e1 : T.didE n = 5 := by unfold TK.didE; rw [h2]
    have e2 : T.did n b = T := by unfold TK.did; rw [if_neg (by rw [e1]; decide)]
    rw [e1, e2]
    have F := Lib.hid (To.refl (D := ktOb g T) HT.out)
    clear h hok h1 h2 e1 e2 HT
    go_enter Try.func69, Try.ntmps69
    go_wp2_with (go_at_call 83; refine KF.out.mono ?_; rintro r w3 ⟨rfl, rfl⟩)
    go_ret
    exact ⟨rfl, F.out⟩
  · rw [h1] at KF
    have e1 : T.didE n = if e.is = 0 ∧ hasL (lkL T.L) n = true then 0 else 50 := by unfold TK.didE; rw [hf]
    have hlen := hok.len
    obtain ⟨A, c, rfl⟩ := h.row.form
    obtain ⟨c0, c1, -, -, -, gl⟩ := blk4 h.hg
    obtain ⟨gs, rfl, hgs, hc, -, -, t2⟩ := h.task hi
    have hil := (List.getElem?_eq_some_iff.1 hi).1
    have KH := Lib.hid (rhas_any n w h.rt)
    have HI := Lib.hid hi
    by_cases h0 : e.is = 0
    · rw [h0] at t2 e1
      obtain ⟨hb, hhb⟩ : ∃ hb, hasL (lkL T.L) n = hb := ⟨_, rfl⟩
      rw [hhb] at KH e1
      cases hb with
      | false =>
        have e2 : T.did n b = T := by unfold TK.did; rw [if_neg (by rw [e1]; simp)]
        rw [e1, e2]
        clear h hok h1 hi hf e1 e2 h0 hhb HI
        go_enter Try.func69, Try.ntmps69
        go_wp2_with fail
        refine KF.out.mono ?_
        rintro r w3 ⟨rfl, rfl⟩
        go_wp2_with (go_at_call 62; refine KH.out.mono ?_; rintro r w4 ⟨rfl, h4⟩)
        go_ret
        exact ⟨rfl, To.of_ext (D := ktOb g T) HT.out h4⟩
      | true =>
        have e2 : T.did n b = { T with L := setIs T.L e.p.1 (if b then 1 else 2) } := by unfold TK.did; rw [if_pos (by rw [e1]; simp), hn]
        rw [e1, e2]
        clear h hok h1 hi hf e1 e2 h0 hhb hn
        cases b
        all_goals
          go_enter Try.func69, Try.ntmps69
          go_wp2_with fail
          refine KF.out.mono ?_
          rintro r w3 ⟨rfl, rfl⟩
          go_wp2_with fail
          refine KH.out.mono ?_
          rintro r w4 ⟨rfl, h4⟩
          have H4 := Lib.hid h4
          clear h4 c0 c1 t2
          go_wp2_with (go_at_call 84; refine (kbecome_any w4 (HT.out.ext H4.out) HI.out _ (by decide)).mono ?_; rintro r w5 ⟨rfl, h5⟩)
          go_ret
          exact ⟨rfl, h5.after_ext H4.out⟩
    · have e2 : T.did n b = T := by unfold TK.did; rw [if_neg (by rw [e1, if_neg (fun h => h0 h.1)]; decide)]
      rw [if_neg (fun h => h0 h.1)] at e1
      rw [e1, e2]
      have hb : (e.is != 0) = true := by simpa using h0
      have F := Lib.hid (To.refl (D := ktOb g T) HT.out)
      clear h hok h1 hi hf e1 e2 h0 HI HT KH
      go_enter Try.func69, Try.ntmps69
      go_wp2_with (go_at_call 83; refine KF.out.mono ?_; rintro r w3 ⟨rfl, rfl⟩)
      go_ret
      exact ⟨rfl, F.out⟩
theorem syk_at {L : List Te} {k : Nat} {x : Te} (h : L[k]? = some x) : (syk L k)[k]? = some x := by
  have hk := (List.getElem?_eq_some_iff.1 h).1
  have hl : ((L.take k).map sy).length = k := by simp; omega
  rw [(syk_succ h).2, List.getElem?_append_right (by omega), hl, Nat.sub_self]
  rfl
theorem syk_length (L : List Te) (k : Nat) : (syk L k).length = L.length := by
  have := congrArg List.length (syk_names L k)
  simpa using this
theorem To.chain {S Sk : Nat → Prop} {w W2 w5 : World} {D : Ob Zf} (h1 : Mut S w W2) (hs : ∀ i, Sk i → gr S w W2 i) (h2 : To Sk W2 w5 D) : To S w w5 D :=
  ⟨D.mono h2.1 fun i hi => hi.elim (fun a => gr_mono h2.2.size i (hs i a)) fun a => .inr ⟨Nat.le_trans h1.size a.1, a.2⟩, mut_gr h1 (h2.2.mono hs)⟩
theorem To.weaken {S S' : Nat → Prop} {w w' : World} {D : Ob Zf} (h : To S w w' D) (k : ∀ i, S i → S' i) : To S' w w' D := ⟨D.mono h.1 fun i hi => hi.imp (k i) id, h.2.mono k⟩
set_option maxHeartbeats 4000000 in
theorem kSynced_any {S : Nat → Prop} {g : Nat} {T : TK} (w : World) (h : KtAt w S g T) :
    Calls Try.prog 70 #[.pointer (some ⟨g, 0, none⟩)] w fun r w' => ∃ v, r = .returned (.tuple #[v, .int .i64 T.syncE]) ∧ OwnR w' w.heap.size 3 1 One v (syncL T.L).length (ics (syncL T.L)) ∧ To S w w' (ktOb g T.sync) := by
  have hok := h.2
  have hlen := hok.len
  have HT := Lib.hid (To.refl (D := ktOb g T) h)
  have OK := Lib.hid hok
  clear h hok
  go_enter Try.func70, Try.ntmps70
  go_wp2
  go_loopg [4, 5] T.L.length (fun gg u s wr => ∃ k : Nat, k ≤ T.L.length ∧ T.L.length - k ≤ gg ∧ s = .int .i64 k ∧ Hid (OwnR wr w.heap.size 3 1 One u (syncL (T.L.take k)).length (ics (syncL (T.L.take k)))) ∧ Hid (To S w wr (ktOb g { T with L := syk T.L k })))
  case atStart => exact ⟨0, Nat.zero_le _, by omega, rfl, Lib.hid OwnR.nil, by rw [syk_zero]; exact HT⟩
  case round =>
    obtain ⟨k, hk, hg, rfl, HO, HK⟩ := hrel
    obtain ⟨A2, c2, rfl⟩ := HO.out.form
    have hz := HK.out.2.size
    have HQ := (ktOb g { T with L := syk T.L k }).trim HK.out.1
    have HAT := Lib.hid HQ
    obtain ⟨⟨tg, v, q⟩, -⟩ := HQ
    obtain ⟨A, c, hv⟩ := q.row.form
    simp only at hv q
    rw [syk_length] at hv
    subst hv
    obtain ⟨-, c1, -, -, -, gl⟩ := blk4 q.hg
    by_cases hlt : k < T.L.length
    · obtain ⟨x, hx⟩ : ∃ x, T.L[k]? = some x := ⟨_, List.getElem?_eq_getElem hlt⟩
      obtain ⟨gs, rfl, hgs, hc, t0, -, t2⟩ := q.task (syk_at hx)
      rw [syk_length] at hc
      have hsl := syncL_take hx
      have hlk : (syncL (T.L.take k)).length ≤ k := by unfold syncL; rw [List.length_map]; exact Nat.le_trans (List.length_filter_le _ _) (by rw [List.length_take]; omega)
      by_cases h1 : x.is = 1
      · rw [h1] at t2
        rw [if_pos h1] at hsl
        have hx2 := extAl wr (.cells #[.int .i64 x.p.1] 3)
        have hsrc : Src Try.prog 1 28 (.slice (some ⟨wr.heap.size, 0, none⟩) 1 1) 1 [.int .i64 x.p.1] (wr.alloc (.cells #[.int .i64 x.p.1] 3)) := src_row Try.underlying28 (heap_alloc_last wr (.cells #[.int .i64 x.p.1] 3)) rfl (by intro u hu; simp at hu; subst hu; rfl)
        obtain ⟨v', W2, hr, ho2, hb2, hg2, hs2⟩ := app_int (ty := 28) (HO.out.ext hx2) hsrc (by simp; omega) (by intro u hu; simp at hu; subst hu; rfl) (by omega)
        have M2 : Mut (fun j => (Value.slice A2 (syncL (T.L.take k)).length c2).ownBlock = some j) wr W2 := (Mut.of_ext hx2).trans (Mut.of_grown hg2 fun b hb => hb)
        have hnk : ∀ i o, (Value.slice A2 (syncL (T.L.take k)).length c2).ownBlock = some i → wr.heap[i]? = some o → ¬ ktK o ∧ ¬ Zf o := fun i o hi ho => by
          obtain ⟨cs, hc⟩ := own_blk HO.out hi
          rw [hc] at ho
          cases ho
          exact ⟨by show ¬ (_ ∨ _); decide, by show ¬ (_ = _); decide⟩
        have HAT2 := Lib.hid ((ktOb g { T with L := syk T.L k }).mutw HAT.out M2 (fun i ⟨_, o, ho, hk⟩ hi => (hnk i o hi ho).1 hk) (fun i o hi ho => (hnk i o hi ho).2))
        have MW : Hid (Mut S w W2) := Lib.hid (HK.out.2.thenM M2 fun i hi => (own_lt HO.out hi).1)
        have HSk : Hid (∀ i, (gr S w wr i ∧ ∃ o, wr.heap[i]? = some o ∧ (ktOb g { T with L := syk T.L k }).K o) → gr S w W2 i) := Lib.hid fun i hi => gr_mono M2.size i hi.1
        have HN : Hid (∀ b, v'.ownBlock = some b → ¬ (gr S w wr b ∧ ∃ o, wr.heap[b]? = some o ∧ (ktOb g { T with L := syk T.L k }).K o)) := Lib.hid fun b hb ⟨_, o, ho, hk⟩ => by
          rcases hs2 b hb with h | h
          · exact (hnk b o h ho).1 hk
          · have := heap_lt ho
            simp only [World.size_alloc] at h
            omega
        have KB := Lib.hid (kbecome_any W2 HAT2.out (syk_at hx) 2 (.inr (.inr rfl)))
        have HSy := Lib.hid (syk_yes OK.out.nd hx h1)
        have HSL := Lib.hid hsl
        have HO2 := Lib.hid ho2
        have Hr := Lib.hid hr
        clear hx2 hsrc hr ho2 hb2 hg2 hs2 M2 hnk hx hsl h1 q HK HAT
        go_wp2_with (first | (go_at_call 84; refine KB.out.mono ?_; rintro r w5 ⟨rfl, h5⟩) | (at_builtin; refine wpList_app rfl (.tmp 24) (.tmp 33) 28 28 rfl Hr.out ?_; simp only [Act.put]; clear Hr))
        go_roundg (T.L.length - (k + 1))
        case measure => omega
        case rel =>
          refine ⟨k + 1, by omega, by omega, by go_num, ?_, ?_⟩
          · rw [HSL.out, List.length_append, ics_app]
            exact Lib.hid (HO2.out.mutO h5.2 HN.out)
          · rw [HSy.out]
            exact Lib.hid (To.chain MW.out HSk.out h5)
      · have hb : (x.is == 1) = false := by rw [beq_eq_false_iff_ne]; exact h1
        rw [if_neg h1, List.append_nil] at hsl
        have HSL := Lib.hid hsl
        have HSy := Lib.hid (syk_no hx h1)
        clear hsl hx h1 q
        go_wp2
        go_roundg (T.L.length - (k + 1))
        case measure => omega
        case rel => exact ⟨k + 1, by omega, by omega, by go_num, by rw [HSL.out]; exact HO, by rw [HSy.out]; exact HK⟩
    · obtain rfl : k = T.L.length := by omega
      rw [List.take_length] at HO ⊢
      rw [syk_all] at HK
      have F : Hid (To S w wr (ktOb g T.sync)) := HK
      clear q HK HAT
      by_cases h0 : syncL T.L = []
      · have e1 : T.syncE = 5 := by unfold TK.syncE; rw [if_pos h0]
        have HE := Lib.hid e1
        have H0 := Lib.hid h0
        have hb : (((syncL T.L).length : Int) == 0) = true := by rw [h0]; rfl
        clear e1 h0
        go_wp2
        go_ret2
        refine ⟨.slice none 0 0, by rw [HE.out]; rfl, ?_, F.out⟩
        rw [H0.out]
        exact OwnR.nil
      · have e1 : T.syncE = 0 := by unfold TK.syncE; rw [if_neg h0]
        have HE := Lib.hid e1
        have hl0 := List.length_pos_iff.2 h0
        have hb : (((syncL T.L).length : Int) == 0) = false := by rw [beq_eq_false_iff_ne]; omega
        clear e1 h0
        go_wp2
        go_ret2
        exact ⟨_, by rw [HE.out]; rfl, HO.out, F.out⟩
end

section
set_option linter.unusedVariables false
set_option maxRecDepth 100000
open Go.RowKit

/-- Append to a row of no cells: nothing that was there changes. -/
theorem appE {P : Program} {w : World} {B sz : Nat} {C : Value → Prop} {x : Value} {g m : Nat} {new : List Value} {t tx ty e : TypeId} {i : TypeInfo} {z : Value} (ht : P.underlying t = some (.slice e)) (hi : P.info? e = some i) (h1 : i.size = sz) (hz : i.zero = some z) (hzz : z.cells.size = sz)
    (hg : w.heap[g]? = some (.cells #[] e (0, 0))) (hs : Src P sz tx x m new w) (hBg : B ≤ g) (hsz : 0 < sz) (hCn : ∀ u ∈ new, C u) (hCz : ∀ u ∈ z.cells, C u) (hc : m * i.bytes ≤ 140737488355328) (hm : m ≤ 140737488355328) :
    ∃ v' w', (Builtin.append_ #[t, tx] ty #[.slice (some ⟨g, 0, none⟩) 0 0, x]).run P w = .ok v' w' ∧ OwnR w' B e sz C v' m new ∧ Ext w w' := by
  have hnl := hs.newsLen
  have hgl := heap_lt hg
  by_cases h00 : m = 0
  · subst h00
    have hnew : new = [] := List.length_eq_zero_iff.1 (by simpa using hnl)
    subst hnew
    refine ⟨.slice (some ⟨g, 0, none⟩) 0 0, w, ?_, ⟨by simp, .inr ⟨g, 0, [], rfl, hBg, hg, by simp, by simp⟩⟩, Ext.refl _⟩
    have hcells : (Builtin.firstCells sz 0 x).run P w = .ok #[] w := hs.cells
    rcases hs.kind with ⟨e', hk⟩ | hk <;> simp [Builtin.append_, run_underlying ht, run_underlying hk, sizeOf, typeInfo, hi, h1, hs.len, hcells, storeCells]
  · have hs' := hs
    rw [← h1] at hs'
    have hr := run_append_grow_src (P := P) w t tx ty e i z ht hi hz (some ⟨g, 0, none⟩) 0 0 [] (by rw [h1]; exact run_firstCells_some (P := P) w.drew sz 0 ⟨g, 0, none⟩ 0 0 [] (by simp) fun j u hu => by simp at hu) x m new hs' (by omega) (by omega) (growslice_fits (by omega) (by simpa using hc))
    simp only [List.nil_append, Nat.zero_add] at hr
    have hge := grownCap_ge w m 0 e
    have hzl : (Builtin.zeroCells z.cells (grownCap w m 0 e - m)).toList.length = (grownCap w m 0 e - m) * sz := by simp [Builtin.zeroCells, hzz]
    have hE : Ext w (w.drew.alloc (.cells (new.toArray ++ Builtin.zeroCells z.cells (grownCap w m 0 e - m)) e)) := (Below.refl _ w).drew.alloc (Nat.le_refl _) _
    refine ⟨_, _, hr, ⟨hnl, .inr ⟨w.heap.size, grownCap w m 0 e, (Builtin.zeroCells z.cells (grownCap w m 0 e - m)).toList, rfl, by omega, ?_, ?_⟩⟩, hE⟩
    · have hrow : new.toArray ++ Builtin.zeroCells z.cells (grownCap w m 0 e - m) = (new ++ (Builtin.zeroCells z.cells (grownCap w m 0 e - m)).toList).toArray := by
        apply Array.ext'; simp
      rw [hrow]
      exact heap_alloc_new w.drew _
    · refine ⟨by rw [hnl, hzl, ← Nat.add_mul]; congr 1; omega, fun u hu => ?_⟩
      rcases List.mem_append.1 hu with hu | hu
      · exact hCn u hu
      · simp only [Builtin.zeroCells, Array.mem_toList_iff, Array.mem_map, Array.mem_range] at hu
        obtain ⟨j, _, rfl⟩ := hu
        have hj : j % z.cells.size < z.cells.size := Nat.mod_lt _ (by omega)
        rw [getElem!_pos z.cells _ hj]
        exact hCz _ (Array.getElem_mem hj)
theorem app_ktaskE {w : World} {B g : Nat} {x : Value} {m : Nat} {new : List Value} {tx ty : TypeId} (hg : w.heap[g]? = some (.cells #[] 121 (0, 0))) (hs : Src Try.prog 3 tx x m new w) (hB : B ≤ g) (hn : ∀ u ∈ new, One u) (hc : m ≤ 100000000) :
    ∃ v' w', (Builtin.append_ #[111, tx] ty #[.slice (some ⟨g, 0, none⟩) 0 0, x]).run Try.prog w = .ok v' w' ∧ OwnR w' B 121 3 One v' m new ∧ Ext w w' := by
  have h : (Try.prog.info? 121).map (fun i => (i.zero, i.size, i.bytes)) = some (some (.agg #[.int .i64 0, .int .i64 0, .int .i64 0]), 3, 24) := by kernel_rfl
  obtain ⟨i, hi, hz0, hz1, hz2⟩ := info_prt h
  exact appE (ty := ty) Try.underlying111 hi hz1 hz0 rfl hg hs hB (by omega) hn (by intro u hu; simp [Value.cells] at hu; rcases hu with rfl | rfl | rfl <;> rfl) (by rw [hz2]; omega) (by omega)
theorem rt_none {w : World} {S : Nat → Prop} {g : Nat} (hg : w.heap[g]? = some (.cells #[.slice none 0 0] 47 (0, 0))) (hS : S g) : RtAt w S g [] :=
  ⟨.slice none 0 0, [], { hg := hg, row := OwnR.nil, wn := by simp, sg := hS, sv := fun b hb => by simp [Value.ownBlock] at hb, len := by simp, wl := by simp }, rfl⟩
theorem knew_any (w : World) : Calls Try.prog 45 #[] w fun e w' => ∃ g, e = .returned (.pointer (some ⟨g, 0, none⟩)) ∧ (ktOb g T0).is w' (fun i => w.heap.size ≤ i ∧ i < w'.heap.size) ∧ Ext w w' := by
  have h1 := extAl w (.cells #[.slice none 0 0] 47)
  have g1 := heap_alloc_last w (.cells #[.slice none 0 0] 47)
  have h2 := extAl (w.alloc (.cells #[.slice none 0 0] 47)) (.cells #[.pointer (some ⟨w.heap.size, 0, none⟩), .slice none 0 0, .int .i64 0, .int .i64 0] 113)
  have F : Hid ((ktOb (w.alloc (.cells #[.slice none 0 0] 47)).heap.size T0).is ((w.alloc (.cells #[.slice none 0 0] 47)).alloc (.cells #[.pointer (some ⟨w.heap.size, 0, none⟩), .slice none 0 0, .int .i64 0, .int .i64 0] 113)) (fun i => w.heap.size ≤ i ∧ i < ((w.alloc (.cells #[.slice none 0 0] 47)).alloc (.cells #[.pointer (some ⟨w.heap.size, 0, none⟩), .slice none 0 0, .int .i64 0, .int .i64 0] 113)).heap.size)) := Lib.hid
    ⟨⟨w.heap.size, .slice none 0 0, { hg := heap_alloc_last _ _, rt := rt_none (Ext.blk h2 g1) ⟨Nat.le_refl _, by simp only [World.size_alloc]; omega⟩, row := OwnR.nil, sg := ⟨by simp, by simp⟩, sv := fun b hb => by simp [Value.ownBlock] at hb }⟩, T0_ok⟩
  have E := Lib.hid (Ext.trans h1 h2)
  clear h1 h2 g1
  go_enter Try.func45, Try.ntmps45
  go_wp2
  go_ret
  have F' := F.out
  simp only [World.size_alloc] at F'
  exact ⟨_, rfl, by simpa only [World.size_alloc] using F', E.out⟩
theorem kset4_0 {w : World} {g : Nat} {T : TypeId} {a b c d : Value} (x : Value) (h : w.heap[g]? = some (.cells #[a, b, c, d] T (0, 0))) : w.setCell ⟨g, 0, none⟩ x = w.setRow g #[x, b, c, d] := setCell_eq_setRow w g 0 _ T (0, 0) x h
theorem kset4_2 {w : World} {g : Nat} {T : TypeId} {a b c d : Value} (x : Value) (h : w.heap[g]? = some (.cells #[a, b, c, d] T (0, 0))) : w.setCell ⟨g, 2, none⟩ x = w.setRow g #[a, b, x, d] := setCell_eq_setRow w g 2 _ T (0, 0) x h
set_option maxHeartbeats 2000000 in
theorem kClear_any {S : Nat → Prop} {g : Nat} {T : TK} (w : World) (h : KtAt w S g T) :
    Calls Try.prog 72 #[.pointer (some ⟨g, 0, none⟩)] w fun e w' => e = .returned (.tuple #[]) ∧ To S w w' (ktOb g T.clear) := by
  obtain ⟨⟨tg, v, h⟩, hok⟩ := h
  have hx := extAl w (.cells #[.slice none 0 0] 47)
  have g1 := heap_alloc_last w (.cells #[.slice none 0 0] 47)
  have hgl := heap_lt h.hg
  have hg1 := Ext.blk hx h.hg
  have hg2 := setRow_heap (w.alloc (.cells #[.slice none 0 0] 47)) g _ #[.pointer (some ⟨w.heap.size, 0, none⟩), v, .int .i64 T.cnt, .int .i64 T.last] _ _ hg1
  obtain ⟨c0, c1, -, -, cf, cl⟩ := blk4 hg1
  obtain ⟨d0, d1, -, -, df, dl⟩ := blk4 hg2
  have ST0 := Lib.hid (kset4_0 (.pointer (some ⟨w.heap.size, 0, none⟩)) hg1)
  have ST1 := Lib.hid (set4_1 (.slice none 0 0) hg2)
  have hg3 := setRow_heap ((w.alloc (.cells #[.slice none 0 0] 47)).setRow g #[.pointer (some ⟨w.heap.size, 0, none⟩), v, .int .i64 T.cnt, .int .i64 T.last]) g _ #[.pointer (some ⟨w.heap.size, 0, none⟩), .slice none 0 0, .int .i64 T.cnt, .int .i64 T.last] _ _ hg2
  have ht3 : (((w.alloc (.cells #[.slice none 0 0] 47)).setRow g #[.pointer (some ⟨w.heap.size, 0, none⟩), v, .int .i64 T.cnt, .int .i64 T.last]).setRow g #[.pointer (some ⟨w.heap.size, 0, none⟩), .slice none 0 0, .int .i64 T.cnt, .int .i64 T.last]).heap[w.heap.size]? = some (.cells #[.slice none 0 0] 47 (0, 0)) := by
    rw [setRow_other _ _ _ _ (by omega), setRow_other _ _ _ _ (by omega)]
    exact g1
  have hsz : w.heap.size < (((w.alloc (.cells #[.slice none 0 0] 47)).setRow g #[.pointer (some ⟨w.heap.size, 0, none⟩), v, .int .i64 T.cnt, .int .i64 T.last]).setRow g #[.pointer (some ⟨w.heap.size, 0, none⟩), .slice none 0 0, .int .i64 T.cnt, .int .i64 T.last]).heap.size := heap_lt ht3
  have F : Hid (To S w (((w.alloc (.cells #[.slice none 0 0] 47)).setRow g #[.pointer (some ⟨w.heap.size, 0, none⟩), v, .int .i64 T.cnt, .int .i64 T.last]).setRow g #[.pointer (some ⟨w.heap.size, 0, none⟩), .slice none 0 0, .int .i64 T.cnt, .int .i64 T.last]) (ktOb g T.clear)) := Lib.hid
    ⟨⟨⟨w.heap.size, .slice none 0 0, { hg := hg3, rt := rt_none ht3 (.inr ⟨Nat.le_refl _, hsz⟩), row := OwnR.nil, sg := .inl h.sg, sv := fun b hb => by simp [Value.ownBlock] at hb }⟩, Ok_clear hok⟩,
      ((Mut.of_ext (S := S) hx).trans (mut_setRow h.sg _)).trans (mut_setRow h.sg _)⟩
  clear h hok hx g1 hg1 hg2 hg3 ht3 hsz hgl
  go_enter Try.func72, Try.ntmps72
  go_upto_region 1 with fail
  rw [ST0.out]
  clear ST0 c0 c1 cf cl
  generalize (w.alloc (.cells #[.slice none 0 0] 47)).setRow g #[.pointer (some ⟨w.heap.size, 0, none⟩), v, .int .i64 T.cnt, .int .i64 T.last] = V at *
  go_wp2
  rw [ST1.out]
  go_end0
  exact ⟨rfl, F.out⟩
set_option maxHeartbeats 4000000 in
theorem kAdd_any {S : Nat → Prop} {g : Nat} {T : TK} {A : Option Addr} {cv : Nat} (n : Int) (l : List Wn) (w : World) (h : KtAt w S g T) (hv : RWn w (.slice A l.length cv) l) (hll : l.length ≤ 1000000) (hn1 : n ≤ 9223372036854775807) (hc0 : T.cnt ≤ 1000000) :
    Calls Try.prog 65 #[.pointer (some ⟨g, 0, none⟩), .int .i64 n, .slice A l.length cv] w fun e w' => e = .returned (.int .i64 (T.addE n l)) ∧ To S w w' (ktOb g (T.add n l)) := by
  obtain ⟨⟨tg, v, h⟩, hok⟩ := h
  have hok' := Ok_add hok (n := n) (l := l) hn1
  obtain ⟨S1, hr1, hT⟩ := h.table
  have KA := Lib.hid (rAsk_any n l w hr1 hv hll)
  obtain ⟨c0, -, -, -, -, gl⟩ := blk4 h.hg
  have HTT := Lib.hid hT
  by_cases he : askE (lkL T.L) n l = 0
  · rw [show T.addE n l = 0 from he]
    rw [add_pos he] at hok' ⊢
    have hL : askL (lkL T.L) n l = lkL T.L ++ [(n, l)] := by unfold askL; rw [if_pos he]
    rw [he, hL] at KA
    have hcn := hok.c0
    have hlen := hok.len
    obtain ⟨Ar, cr, rfl⟩ := h.row.form
    have OK' := Lib.hid hok'
    have H := Lib.hid h
    clear h hr1 hT hok hok' he hL hv
    go_enter Try.func65, Try.ntmps65
    go_wp2_with fail
    refine KA.out.mono ?_
    rintro e w1 ⟨rfl, h1⟩
    obtain ⟨q1, m1⟩ := HTT.out w1 _ h1
    have ST := Lib.hid (kset4_2 (.int .i64 (T.cnt + 1)) q1.hg)
    have q2 := Lib.hid (q1.cells (T.cnt + 1) T.last (fun _ h => h) q1.row q1.sv)
    have m2 := Lib.hid (m1.trans (mut_setRow (S := S) H.out.sg #[.pointer (some ⟨tg, 0, none⟩), .slice Ar T.L.length cr, .int .i64 (T.cnt + 1), .int .i64 T.last]))
    have z2 : w.heap.size ≤ (w1.setRow g #[.pointer (some ⟨tg, 0, none⟩), .slice Ar T.L.length cr, .int .i64 (T.cnt + 1), .int .i64 T.last]).heap.size := m2.out.size
    have zz : ∀ i, gr S w w1 i → gr S w (w1.setRow g #[.pointer (some ⟨tg, 0, none⟩), .slice Ar T.L.length cr, .int .i64 (T.cnt + 1), .int .i64 T.last]) i := gr_mono (by simp [World.setRow])
    have ZZ := Lib.hid zz
    obtain ⟨-, -, c2, -, cf, cl⟩ := blk4 q1.hg
    clear h1 q1 m1 HTT KA c0 zz
    go_upto_region 5 with fail
    rw [ST.out]
    clear ST c2 cf cl
    generalize w1.setRow g #[.pointer (some ⟨tg, 0, none⟩), .slice Ar T.L.length cr, .int .i64 (T.cnt + 1), .int .i64 T.last] = V at *
    obtain ⟨-, d1, d2, -, -, dl⟩ := blk4 q2.out.hg
    obtain ⟨So, HSo⟩ : ∃ So : Nat → Prop, Hid (So = fun j => V.heap.size ≤ j) := ⟨_, Lib.hid rfl⟩
    have hng : ¬ So g := by rw [HSo.out]; omega
    have e0 : ∀ (ψ : World → Prop) (e : ExtS So V ψ), e.val.cell? ⟨g, 1, none⟩ = some (.slice Ar T.L.length cr) := fun ψ e => e.cell d1 dl hng
    have e1 : ∀ (ψ : World → Prop) (e : ExtS So V ψ), e.val.cell? ⟨g, 2, none⟩ = some (.int .i64 (T.cnt + 1)) := fun ψ e => e.cell d2 dl hng
    refine C.wp_region_piecesD So So 15 13 [0, 2, 3, 4, 5, 7, 8, 9, 10, 11, 12] [(false, [1]), (false, [6])] [(false, [14])] (O := .cells #[.int .i64 n, .int .i64 (T.cnt + 1), .int .i64 0] 121) (fun g => .slice (some ⟨g, 0, none⟩) 1 1) (by kernel_rfl) (fun _ h => h) (by kernel_rfl) rfl rfl ?_
    simp only [pick, List.map_cons, List.map_nil, List.flatMap_cons, List.flatMap_nil, Option.toList_some, List.singleton_append, List.drop_succ_cons, List.drop_zero, List.getElem?_cons_zero, List.getElem?_cons_succ]
    refine ⟨by kernel_rfl, ?_⟩; apply Exists.intro; refine ⟨fun ψ hψ hne => (by (repeat (go_big_quiet_step (( fail )))); exact wpQuiet_nil rfl), ?_⟩
    refine ⟨fun w' => by go_simp, ?_⟩
    clear e0 e1
    intro wa ha K hK
    go_wp2_with fail
    refine hK _ _ (Mut.of_ext (extAl _ _)) ?_
    clear hK K
    intro wb hb K hK
    have hza := Below.size ha
    have hzb := Below.size hb
    simp only [World.size_alloc] at hzb
    have hxb : Ext V wb := Ext.trans (Ext.trans ha (extAl wa _)) hb
    have hgb : wb.heap[wa.heap.size]? = some (.cells #[] 121 (0, 0)) := Ext.blk hb (heap_alloc_last wa _)
    obtain ⟨v1, wb', hr1, ho1, hx1⟩ := app_ktaskE (tx := 111) (ty := 111) hgb ((q2.out.row.ext hxb).rr (by omega) |>.src Try.underlying111 (kC_one _)) (B := V.heap.size) hza (kC_one _) (by omega)
    obtain ⟨A1, c1, rfl⟩ := ho1.form
    have Hr1 := Lib.hid hr1
    have HX1 := Lib.hid hx1
    have HO1 := Lib.hid ho1
    have HXb := Lib.hid (Ext.trans hxb hx1)
    clear ha hb hxb hgb hr1 hx1 ho1
    go_wp2_with (at_builtin; refine wpList_app rfl (.tmp 30) (.tmp 34) 111 111 rfl Hr1.out ?_; simp only [Act.put])
    refine hK _ _ (Mut.of_ext HX1.out) ?_
    clear hK K
    simp only [List.setIfInBounds_toArray, List.set_cons_zero, List.set_cons_succ]
    intro wc hc g9 hg9 hO9
    intro wd hd K hK
    have hxd : Ext V wd := Ext.trans HXb.out (Ext.trans hc hd)
    have hO' := Ext.blk hd hO9
    have hsrc : Src Try.prog 3 111 (.slice (some ⟨g9, 0, none⟩) 1 1) 1 (kC ⟨(n, l), T.cnt + 1, 0⟩) wd := src_row Try.underlying111 hO' rfl (by intro u hu; simp [kC] at hu; rcases hu with rfl | rfl | rfl <;> rfl)
    obtain ⟨v2, wd', hr2, ho2, hb2, hg2, hs2⟩ := app_ktask (ty := 111) (HO1.out.ext (Ext.trans hc hd)) hsrc (Below.size hxd) (by intro u hu; simp [kC] at hu; rcases hu with rfl | rfl | rfl <;> rfl) (by omega)
    obtain ⟨A2, c2, rfl⟩ := ho2.form
    have Hr2 := Lib.hid hr2
    have MU : Hid (Mut So wd wd') := Lib.hid (Mut.of_grown hg2 fun b hb => by rw [HSo.out]; have := (own_lt HO1.out hb).1; omega)
    have MO : Mut (fun b => (Value.slice A1 T.L.length c1).ownBlock = some b) wd wd' := Mut.of_grown hg2 fun b hb => hb
    obtain ⟨S', q3, HS'⟩ := q2.out.old
    have q4 := (q3.ext hxd).mutw MO (fun i hi hb => by have := (own_lt HO1.out hb).1; have := (HS'.out i hi).2; omega) (fun i o hi ho hz => by
      obtain ⟨cs, hc'⟩ := own_blk (HO1.out.ext (Ext.trans hc hd)) hi
      rw [hc'] at ho
      cases ho
      revert hz
      show ¬ (_ = _)
      decide)
    have M4 : Mut S w wd' := (m2.out.trans (Mut.of_ext hxd)).thenM MO fun b hb => by have := (own_lt HO1.out hb).1; omega
    have hzd : V.heap.size ≤ wd.heap.size := Below.size hxd
    have Q4 := Lib.hid q4
    have HM4 := Lib.hid M4
    have HO2 := Lib.hid ho2
    clear hr2 hsrc hO' ho2 hb2 hg2 hs2 MO q3 q4 M4 hxd hd hc hO9 hg9
    go_wp2_with (at_builtin; refine wpList_app rfl (.tmp 35) (.tmp 42) 111 111 rfl Hr2.out ?_; simp only [Act.put])
    refine hK _ _ MU.out ?_
    clear hK K
    simp only [List.setIfInBounds_toArray, List.set_cons_zero, List.set_cons_succ]
    intro we he
    have q5 := Q4.out.ext he
    have hLk : lkL T.L ++ [(n, l)] = lkL (T.L ++ [⟨(n, l), T.cnt + 1, 0⟩]) := by simp [lkL]
    have ho5 := HO2.out.ext he
    have q6 := q5.cells (v' := .slice A2 (T.L.length + 1) c2) (L' := T.L ++ [⟨(n, l), T.cnt + 1, 0⟩]) (S' := fun i => S' i ∨ (V.heap.size ≤ i ∧ i < we.heap.size)) (T.cnt + 1) T.last (fun i hi => .inl hi) (by rw [List.length_append, List.flatMap_append, List.flatMap_cons, List.flatMap_nil, List.append_nil]; exact ho5.mono (Nat.zero_le _)) (fun b hb => .inr (own_lt ho5 hb))
    rw [hLk] at q6
    have hsw : (we.setRow g #[.pointer (some ⟨tg, 0, none⟩), .slice A2 (T.L.length + 1) c2, .int .i64 (T.cnt + 1), .int .i64 T.last]).heap.size = we.heap.size := by simp [World.setRow]
    have hVe : V.heap.size ≤ we.heap.size := by have := Below.size he; have := MU.out.size; omega
    have F : Hid (To S w (we.setRow g #[.pointer (some ⟨tg, 0, none⟩), .slice A2 (T.L.length + 1) c2, .int .i64 (T.cnt + 1), .int .i64 T.last]) (ktOb g ⟨T.L ++ [⟨(n, l), T.cnt + 1, 0⟩], T.cnt + 1, T.last⟩)) := Lib.hid
      ⟨⟨⟨tg, _, q6.mono fun i hi => by
        rcases hi with hi | hi
        · rcases ZZ.out i (HS'.out i hi).1 with h | h
          · exact .inl h
          · exact .inr ⟨h.1, by rw [hsw]; omega⟩
        · exact .inr ⟨by omega, by rw [hsw]; exact hi.2⟩⟩, OK'.out⟩, (HM4.out.trans (Mut.of_ext he)).trans (mut_setRow H.out.sg _)⟩
    obtain ⟨-, d1, -, -, df, dl⟩ := blk4 q5.hg
    have ST2 := Lib.hid (set4_1 (.slice A2 (T.L.length + 1) c2) q5.hg)
    clear q5 hLk ho5 q6 hsw hVe he
    go_wp2
    rw [ST2.out]
    go_ret
    exact ⟨rfl, F.out⟩
  · have e2 : T.add n l = T := by unfold TK.add; rw [if_neg he]
    rw [show T.addE n l = askE (lkL T.L) n l from rfl, e2]
    have hL : askL (lkL T.L) n l = lkL T.L := by unfold askL; rw [if_neg he]
    rw [hL] at KA
    have hb : (askE (lkL T.L) n l != 0) = true := by simpa using he
    have HOK := Lib.hid hok
    generalize askE (lkL T.L) n l = ee at *
    clear h hr1 hT hok hok' he hL hv e2
    go_enter Try.func65, Try.ntmps65
    go_wp2_with (go_at_call 59; refine KA.out.mono ?_; rintro e w1 ⟨rfl, h1⟩; have H1 := Lib.hid (HTT.out w1 _ h1); clear h1)
    go_ret
    exact ⟨rfl, ⟨⟨tg, v, H1.out.1⟩, HOK.out⟩, H1.out.2⟩
end

section
set_option linter.unusedVariables false
set_option maxRecDepth 100000
open Go.RowKit

theorem filt_erase {L : List Te} (hnd : (L.map (·.p.1)).Nodup) {i : Nat} {e : Te} (hi : L[i]? = some e) : L.filter (fun x => decide (x.p.1 ≠ e.p.1)) = L.eraseIdx i := by
  induction L generalizing i with
  | nil => simp at hi
  | cons a L ih =>
    simp only [List.map_cons, List.nodup_cons] at hnd
    cases i with
    | zero =>
      simp only [List.getElem?_cons_zero, Option.some.injEq] at hi
      subst hi
      rw [List.filter_cons_of_neg (by simp), filt_none fun x hx hn => hnd.1 (by rw [← hn]; exact List.mem_map.2 ⟨x, hx, rfl⟩)]
      rfl
    | succ i =>
      simp only [List.getElem?_cons_succ] at hi
      have hne : a.p.1 ≠ e.p.1 := fun h => hnd.1 (by rw [h]; exact List.mem_map.2 ⟨e, List.mem_of_getElem? hi, rfl⟩)
      rw [List.filter_cons_of_pos (by simpa using hne), ih hnd.2 hi]
      rfl
set_option maxHeartbeats 4000000 in
theorem kReplied_any {S : Nat → Prop} {g : Nat} {T : TK} (n : Int) (w : World) (h : KtAt w S g T) :
    Calls Try.prog 71 #[.pointer (some ⟨g, 0, none⟩), .int .i64 n] w fun r w' => r = .returned (.int .i64 (T.replE n)) ∧ To S w w' (ktOb g (T.repl n)) := by
  have KF := Lib.hid (kfind_any n w h)
  have HT := Lib.hid h
  obtain ⟨⟨tg, v, h⟩, hok⟩ := h
  rcases find_cases hok n with ⟨h1, h2⟩ | ⟨i, e, h1, hi, hn, hf⟩
  · rw [h1] at KF
    have e1 : T.replE n = 5 := by unfold TK.replE; rw [h2]
    have e2 : T.repl n = T := by unfold TK.repl; rw [if_neg (by rw [e1]; decide)]
    rw [e1, e2]
    have F := Lib.hid (To.refl (D := ktOb g T) HT.out)
    clear h hok h1 h2 e1 e2 HT
    go_enter Try.func71, Try.ntmps71
    go_wp2_with (go_at_call 83; refine KF.out.mono ?_; rintro r w3 ⟨rfl, rfl⟩)
    go_ret
    exact ⟨rfl, F.out⟩
  · rw [h1] at KF
    have e1 : T.replE n = if e.is = 2 then 0 else 50 := by unfold TK.replE; rw [hf]
    have hlen := hok.len
    obtain ⟨A, c, rfl⟩ := h.row.form
    obtain ⟨c0, c1, -, -, -, gl⟩ := blk4 h.hg
    obtain ⟨gs, rfl, hgs, hc, -, -, t2⟩ := h.task hi
    have hil := (List.getElem?_eq_some_iff.1 hi).1
    by_cases h0 : e.is = 2
    · rw [h0] at t2
      rw [if_pos h0] at e1
      have hfe : T.L.filter (fun x => decide (x.p.1 ≠ n)) = T.L.eraseIdx i := by rw [← hn]; exact filt_erase hok.nd hi
      have e2 : T.repl n = { T with L := T.L.eraseIdx i } := by unfold TK.repl; rw [if_pos e1, hfe]
      have hok' : TK.Ok { T with L := T.L.eraseIdx i } := by rw [← hfe]; exact Ok_filt hok _
      have hlk : dropL (lkL T.L) n = lkL (T.L.eraseIdx i) := by rw [dropL_filt _ _ hok.nd, hfe]
      rw [e1, e2]
      obtain ⟨S1, hr1, hTb⟩ := h.table
      have KD := Lib.hid (rDrop_any n w hr1)
      have HTB := Lib.hid hTb
      have HLk := Lib.hid hlk
      have OK' := Lib.hid hok'
      have HSG := Lib.hid h.sg
      clear h hok h1 hi hf e1 e2 h0 hn hfe hok' hlk hr1 hTb HT
      go_enter Try.func71, Try.ntmps71
      go_wp2_with fail
      refine KF.out.mono ?_
      rintro r w3 ⟨rfl, rfl⟩
      go_wp2_with fail
      refine KD.out.mono ?_
      rintro r V ⟨vd, rfl, -, hTo⟩
      obtain ⟨q1, m1⟩ := HTB.out V _ hTo
      obtain ⟨S', qo, HS'⟩ := q1.old
      have QO := Lib.hid qo
      have hwV : w.heap.size ≤ V.heap.size := m1.size
      have HM1 := Lib.hid m1
      obtain ⟨-, d1, -, -, -, dl⟩ := blk4 qo.hg
      have hrr := qo.row.rr (by omega)
      clear hTo q1 m1 qo HTB KD KF c0 c1 t2 gl hgs
      go_wp2_with fail
      obtain ⟨So, HSo⟩ : ∃ So : Nat → Prop, Hid (So = fun j => V.heap.size ≤ j) := ⟨_, Lib.hid rfl⟩
      have hng : ¬ So g := by rw [HSo.out]; omega
      have e0 : ∀ (ψ : World → Prop) (e : ExtS So V ψ), e.val.cell? ⟨g, 1, none⟩ = some (.slice (some ⟨gs, 0, none⟩) T.L.length c) := fun ψ e => e.cell d1 dl hng
      have hic : i ≤ c := by omega
      have hi1 : i + 1 ≤ T.L.length := by omega
      have hpre : RR V 3 (.slice (some ⟨gs, 0, none⟩) i c) i ((T.L.take i).flatMap kC) := RR.take (enc := kC) kC_length hrr hil
      have hsuf : RR V 3 (.slice (some ⟨gs, (i + 1) * 3, none⟩) (T.L.length - (i + 1)) (c - (i + 1))) (T.L.length - (i + 1)) ((T.L.drop (i + 1)).flatMap kC) := by
        have := RR.drop (enc := kC) (c' := c - (i + 1)) kC_length hrr hi1 (by omega) rfl (by omega)
        rw [Nat.zero_add] at this
        exact this
      have hsuf0 : c = i + 1 → RR V 3 (.slice (some ⟨gs, 0, none⟩) 0 0) 0 ((T.L.drop (i + 1)).flatMap kC) := fun hc => by
        have hz : T.L.length - (i + 1) = 0 := by omega
        have h1 := hsuf.1
        rw [hz] at h1
        exact ⟨h1, .inl ⟨some ⟨gs, 0, none⟩, 0, rfl, rfl⟩⟩
      have HPre := Lib.hid hpre
      have HSuf := Lib.hid hsuf
      have HSuf0 := Lib.hid hsuf0
      clear hrr hpre hsuf hsuf0 d1
      refine wp_region_piecesS So 17 [(true, [0, 2, 3, 4, 5, 6, 7, 9, 10, 11, 12, 13, 14, 15]), (false, [1]), (false, [8]), (false, [16])] (by kernel_rfl) (by kernel_rfl) ?_
      by_cases hci : c = i + 1
      · subst hci
        have HS := HSuf0.out rfl
        simp only [pick, List.map_cons, List.map_nil, List.flatMap_cons, List.flatMap_nil, Option.toList_some, List.singleton_append, List.drop_succ_cons, List.drop_zero, List.getElem?_cons_zero, List.getElem?_cons_succ]
        refine ⟨by kernel_rfl, ?_⟩; apply Exists.intro; refine ⟨fun ψ hψ hne => (by (repeat (go_big_quiet_step (( fail )))); exact wpQuiet_nil rfl), ?_⟩
        clear e0
        intro W0 h0 K hK
        go_wp2_with fail
        refine hK _ _ (Mut.of_ext (extAl _ _)) ?_
        clear hK
        have hx0 : Ext V (W0.alloc (.cells #[] 121)) := Ext.trans h0 (extAl W0 _)
        have hz0 := alloc_row0 W0 121 W0.heap.size 3 One (Nat.le_refl _)
        have hs0 := Below.size h0
        intro W1 h1 K hK
        have hl0 : W0.heap.size ≤ W1.heap.size := by have := Below.size h1; simp at this; omega
        have hx1 := Ext.trans hx0 h1
        obtain ⟨v1, W1', hr1, hw1, hb1, hgr1, -⟩ := app_ktask (B := W0.heap.size) (tx := 111) (ty := 111) (hz0.ext h1) ((HPre.out.ext hx1).src Try.underlying111 (kC_one _)) hl0 (kC_one _) (by omega)
        simp only [Nat.zero_add, List.nil_append] at hw1
        obtain ⟨A3, c3, rfl⟩ := hw1.form
        have Hr1 := Lib.hid hr1
        have MB1 : Hid (Mut So W1 W1') := Lib.hid (Mut.of_grown hgr1 fun b hb => by rw [HSo.out]; simp [Value.ownBlock] at hb; omega)
        have HX1 : Hid (Ext V W1') := Lib.hid (Below.trans hx1 (hb1.mono hs0))
        have HW1 := Lib.hid hw1
        clear hr1 hgr1 hb1 hw1 hx1 hz0 hx0 h0 h1
        go_wp2_with (at_builtin; refine wpList_app rfl (.tmp 27) (.tmp 33) 111 111 rfl Hr1.out ?_; simp only [Act.put])
        refine hK _ _ MB1.out ?_
        clear hK
        simp only [List.setIfInBounds_toArray, List.set_cons_zero, List.set_cons_succ]
        intro W2 h2 K hK
        have hl2 := Nat.le_trans hl0 (Nat.le_trans MB1.out.size (Below.size h2))
        have hx2 := Ext.trans HX1.out h2
        obtain ⟨v2, W2', hr2, hw2, hb2, hgr2, hov2⟩ := app_ktask (B := W0.heap.size) (tx := 111) (ty := 111) (HW1.out.ext h2) ((HS.ext hx2).src Try.underlying111 (kC_one _)) hl2 (kC_one _) (by omega)
        obtain ⟨A4, c4, rfl⟩ := hw2.form
        obtain ⟨m', hm'⟩ : ∃ m', m' = i + 0 := ⟨_, rfl⟩
        rw [← hm'] at hr2 hw2
        have Hm' := Lib.hid hm'
        clear hm'
        have Hr2 := Lib.hid hr2
        have MB2 : Hid (Mut So W2 W2') := Lib.hid (Mut.of_grown hgr2 fun b hb => by rw [HSo.out]; have := own_lt HW1.out hb; omega)
        have HX2 : Hid (Ext V W2') := Lib.hid (Below.trans hx2 (hb2.mono hs0))
        have HW2 := Lib.hid hw2
        clear hr2 hgr2 hb2 hw2 hx2 h2 hov2
        go_wp2_with (at_builtin; refine wpList_app rfl (.tmp 34) (.tmp 41) 111 111 rfl Hr2.out ?_; simp only [Act.put])
        refine hK _ _ MB2.out ?_
        clear hK
        simp only [List.setIfInBounds_toArray, List.set_cons_zero, List.set_cons_succ]
        intro W3 h3
        have hE3 : Ext V W3 := Ext.trans HX2.out h3
        have q3 := QO.out.ext hE3
        have hn : m' = (T.L.eraseIdx i).length := by rw [List.length_eraseIdx, if_pos hil, Hm'.out]; omega
        have hrow3 : OwnR W3 W0.heap.size 121 3 One (.slice A4 m' c4) (T.L.eraseIdx i).length ((T.L.eraseIdx i).flatMap kC) := by
          have := HW2.out.ext h3
          rw [List.eraseIdx_eq_take_drop_succ, List.flatMap_append, ← List.eraseIdx_eq_take_drop_succ, ← hn]
          exact this
        have hzV : V.heap.size ≤ W0.heap.size := hs0
        have q4 := q3.cells (v' := .slice A4 m' c4) (L' := T.L.eraseIdx i) (S' := fun j => S' j ∨ (V.heap.size ≤ j ∧ j < W3.heap.size)) T.cnt T.last (fun j hj => .inl hj) (hrow3.mono (Nat.zero_le _)) (fun b hb => .inr (by have := own_lt hrow3 hb; omega))
        rw [HLk.out] at q4
        have hsw : (W3.setRow g #[.pointer (some ⟨tg, 0, none⟩), .slice A4 m' c4, .int .i64 T.cnt, .int .i64 T.last]).heap.size = W3.heap.size := by simp [World.setRow]
        have hVe : V.heap.size ≤ W3.heap.size := Below.size hE3
        have F : Hid (To S w (W3.setRow g #[.pointer (some ⟨tg, 0, none⟩), .slice A4 m' c4, .int .i64 T.cnt, .int .i64 T.last]) (ktOb g { T with L := T.L.eraseIdx i })) := Lib.hid
          ⟨⟨⟨tg, _, q4.mono fun j hj => by
            rcases hj with hj | hj
            · rcases (HS'.out j hj).1 with h | h
              · exact .inl h
              · exact .inr ⟨h.1, by rw [hsw]; omega⟩
            · exact .inr ⟨by omega, by rw [hsw]; exact hj.2⟩⟩, OK'.out⟩, (HM1.out.trans (Mut.of_ext hE3)).trans (mut_setRow HSG.out _)⟩
        obtain ⟨-, d1, -, -, df, dl⟩ := blk4 q3.hg
        have ST2 := Lib.hid (set4_1 (.slice A4 m' c4) q3.hg)
        clear q3 hrow3 q4 hsw hVe h3 hE3 hn
        go_wp2
        rw [ST2.out]
        go_ret
        exact ⟨rfl, F.out⟩
      · have HS := HSuf.out
        simp only [pick, List.map_cons, List.map_nil, List.flatMap_cons, List.flatMap_nil, Option.toList_some, List.singleton_append, List.drop_succ_cons, List.drop_zero, List.getElem?_cons_zero, List.getElem?_cons_succ]
        refine ⟨by kernel_rfl, ?_⟩; apply Exists.intro; refine ⟨fun ψ hψ hne => (by (repeat (go_big_quiet_step (( fail )))); exact wpQuiet_nil rfl), ?_⟩
        clear e0
        intro W0 h0 K hK
        go_wp2_with fail
        refine hK _ _ (Mut.of_ext (extAl _ _)) ?_
        clear hK
        have hx0 : Ext V (W0.alloc (.cells #[] 121)) := Ext.trans h0 (extAl W0 _)
        have hz0 := alloc_row0 W0 121 W0.heap.size 3 One (Nat.le_refl _)
        have hs0 := Below.size h0
        intro W1 h1 K hK
        have hl0 : W0.heap.size ≤ W1.heap.size := by have := Below.size h1; simp at this; omega
        have hx1 := Ext.trans hx0 h1
        obtain ⟨v1, W1', hr1, hw1, hb1, hgr1, -⟩ := app_ktask (B := W0.heap.size) (tx := 111) (ty := 111) (hz0.ext h1) ((HPre.out.ext hx1).src Try.underlying111 (kC_one _)) hl0 (kC_one _) (by omega)
        simp only [Nat.zero_add, List.nil_append] at hw1
        obtain ⟨A3, c3, rfl⟩ := hw1.form
        have Hr1 := Lib.hid hr1
        have MB1 : Hid (Mut So W1 W1') := Lib.hid (Mut.of_grown hgr1 fun b hb => by rw [HSo.out]; simp [Value.ownBlock] at hb; omega)
        have HX1 : Hid (Ext V W1') := Lib.hid (Below.trans hx1 (hb1.mono hs0))
        have HW1 := Lib.hid hw1
        clear hr1 hgr1 hb1 hw1 hx1 hz0 hx0 h0 h1
        go_wp2_with (at_builtin; refine wpList_app rfl (.tmp 27) (.tmp 33) 111 111 rfl Hr1.out ?_; simp only [Act.put])
        refine hK _ _ MB1.out ?_
        clear hK
        simp only [List.setIfInBounds_toArray, List.set_cons_zero, List.set_cons_succ]
        intro W2 h2 K hK
        have hl2 := Nat.le_trans hl0 (Nat.le_trans MB1.out.size (Below.size h2))
        have hx2 := Ext.trans HX1.out h2
        obtain ⟨v2, W2', hr2, hw2, hb2, hgr2, hov2⟩ := app_ktask (B := W0.heap.size) (tx := 111) (ty := 111) (HW1.out.ext h2) ((HS.ext hx2).src Try.underlying111 (kC_one _)) hl2 (kC_one _) (by omega)
        obtain ⟨A4, c4, rfl⟩ := hw2.form
        obtain ⟨m', hm'⟩ : ∃ m', m' = i + (T.L.length - (i + 1)) := ⟨_, rfl⟩
        rw [← hm'] at hr2 hw2
        have Hm' := Lib.hid hm'
        clear hm'
        have Hr2 := Lib.hid hr2
        have MB2 : Hid (Mut So W2 W2') := Lib.hid (Mut.of_grown hgr2 fun b hb => by rw [HSo.out]; have := own_lt HW1.out hb; omega)
        have HX2 : Hid (Ext V W2') := Lib.hid (Below.trans hx2 (hb2.mono hs0))
        have HW2 := Lib.hid hw2
        clear hr2 hgr2 hb2 hw2 hx2 h2 hov2
        go_wp2_with (at_builtin; refine wpList_app rfl (.tmp 34) (.tmp 41) 111 111 rfl Hr2.out ?_; simp only [Act.put])
        refine hK _ _ MB2.out ?_
        clear hK
        simp only [List.setIfInBounds_toArray, List.set_cons_zero, List.set_cons_succ]
        intro W3 h3
        have hE3 : Ext V W3 := Ext.trans HX2.out h3
        have q3 := QO.out.ext hE3
        have hn : m' = (T.L.eraseIdx i).length := by rw [List.length_eraseIdx, if_pos hil, Hm'.out]; omega
        have hrow3 : OwnR W3 W0.heap.size 121 3 One (.slice A4 m' c4) (T.L.eraseIdx i).length ((T.L.eraseIdx i).flatMap kC) := by
          have := HW2.out.ext h3
          rw [List.eraseIdx_eq_take_drop_succ, List.flatMap_append, ← List.eraseIdx_eq_take_drop_succ, ← hn]
          exact this
        have hzV : V.heap.size ≤ W0.heap.size := hs0
        have q4 := q3.cells (v' := .slice A4 m' c4) (L' := T.L.eraseIdx i) (S' := fun j => S' j ∨ (V.heap.size ≤ j ∧ j < W3.heap.size)) T.cnt T.last (fun j hj => .inl hj) (hrow3.mono (Nat.zero_le _)) (fun b hb => .inr (by have := own_lt hrow3 hb; omega))
        rw [HLk.out] at q4
        have hsw : (W3.setRow g #[.pointer (some ⟨tg, 0, none⟩), .slice A4 m' c4, .int .i64 T.cnt, .int .i64 T.last]).heap.size = W3.heap.size := by simp [World.setRow]
        have hVe : V.heap.size ≤ W3.heap.size := Below.size hE3
        have F : Hid (To S w (W3.setRow g #[.pointer (some ⟨tg, 0, none⟩), .slice A4 m' c4, .int .i64 T.cnt, .int .i64 T.last]) (ktOb g { T with L := T.L.eraseIdx i })) := Lib.hid
          ⟨⟨⟨tg, _, q4.mono fun j hj => by
            rcases hj with hj | hj
            · rcases (HS'.out j hj).1 with h | h
              · exact .inl h
              · exact .inr ⟨h.1, by rw [hsw]; omega⟩
            · exact .inr ⟨by omega, by rw [hsw]; exact hj.2⟩⟩, OK'.out⟩, (HM1.out.trans (Mut.of_ext hE3)).trans (mut_setRow HSG.out _)⟩
        obtain ⟨-, d1, -, -, df, dl⟩ := blk4 q3.hg
        have ST2 := Lib.hid (set4_1 (.slice A4 m' c4) q3.hg)
        clear q3 hrow3 q4 hsw hVe h3 hE3 hn
        go_wp2
        rw [ST2.out]
        go_ret
        exact ⟨rfl, F.out⟩
    · rw [if_neg h0] at e1
      have e2 : T.repl n = T := by unfold TK.repl; rw [if_neg (by rw [e1]; decide)]
      rw [e1, e2]
      have hb : (e.is != 2) = true := by simpa using h0
      have F := Lib.hid (To.refl (D := ktOb g T) HT.out)
      clear h hok h1 hi hf e1 e2 h0 HT
      go_enter Try.func71, Try.ntmps71
      go_wp2_with (go_at_call 83; refine KF.out.mono ?_; rintro r w3 ⟨rfl, rfl⟩)
      go_ret
      exact ⟨rfl, F.out⟩
end

section
set_option linter.unusedVariables false
set_option maxRecDepth 100000
open Go.RowKit

theorem i64_of_wf {a : Int} (h : (Lit.int .i64 a).wf = true) : -9223372036854775808 ≤ a ∧ a ≤ 9223372036854775807 := by
  simp [Lit.wf, IntKind.min, IntKind.max, IntKind.signed, IntKind.bits] at h
  omega
abbrev inrOb (v : Value) (l : List Int) : Ob Zf := ownOb 3 (by decide) 1 v l.length (ics l)
def TkS (W : World) (w : World) : Nat → Prop := fun j => W.heap.size ≤ j ∧ ∃ o, w.heap[j]? = some o ∧ tkK o
section
variable {W w : World} {ds : List (Ob Zf)} {g : Nat} {T T' : TK}
theorem OSt.tok (h : OSt W ds w) (i : Nat) (hi : ds[i]? = some (tkOb g T)) : T.Ok := by
  obtain ⟨S, h1, _⟩ := h.pick hi
  exact h1.2
theorem taddM (i : Nat) (h : OSt W ds w) (hi : ds[i]? = some (tkOb g T)) (n : Int) (l : List Wn) {v : Value} (hv : RWn w v l) (hl : l.length ≤ 1000000) (hn : (Lit.int .i64 n).wf = true) (hc : T.cnt ≤ 1000000) :
    Calls Try.prog 27 #[.pointer (some ⟨g, 0, none⟩), .int .i64 n, v] w fun r w' => r = .returned (.int .i64 (T.addE n l)) ∧ OSt W (ds.set i (tkOb g (T.add n l))) w' ∧ Mut (TkS W w) w w' := by
  obtain ⟨S, h1, h2, h3, _⟩ := h.pick hi
  obtain ⟨n0, n1⟩ := i64_of_wf hn
  exact (Add_any n l w h1 hc n0 n1 hv hl).mono fun r w' ⟨hr, hT⟩ => ⟨hr, h3 _ _ hT, hT.2.mono fun j hj => h2 j hj⟩
theorem tdidM (i : Nat) (h : OSt W ds w) (hi : ds[i]? = some (tkOb g T)) (n : Int) (b : Bool) (hn : (Lit.int .i64 n).wf = true) :
    Calls Try.prog 29 #[.pointer (some ⟨g, 0, none⟩), .int .i64 n, .bool b] w fun r w' => r = .returned (.int .i64 (T.didE n)) ∧ OSt W (ds.set i (tkOb g (T.did n b))) w' ∧ Mut (TkS W w) w w' := by
  obtain ⟨S, h1, h2, h3, _⟩ := h.pick hi
  exact (Did_any n b w h1 hn).mono fun r w' ⟨hr, hT⟩ => ⟨hr, h3 _ _ hT, hT.2.mono fun j hj => h2 j hj⟩
theorem treplM (i : Nat) (h : OSt W ds w) (hi : ds[i]? = some (tkOb g T)) (n : Int) (hn : (Lit.int .i64 n).wf = true) :
    Calls Try.prog 37 #[.pointer (some ⟨g, 0, none⟩), .int .i64 n] w fun r w' => r = .returned (.int .i64 (T.replE n)) ∧ OSt W (ds.set i (tkOb g (T.repl n))) w' ∧ Mut (TkS W w) w w' := by
  obtain ⟨S, h1, h2, h3, _⟩ := h.pick hi
  exact (Replied_any n w h1 hn).mono fun r w' ⟨hr, hT⟩ => ⟨hr, h3 _ _ hT, hT.2.mono fun j hj => h2 j hj⟩
theorem tsyncO (i : Nat) (h : OSt W ds w) (hi : ds[i]? = some (tkOb g T)) :
    Calls Try.prog 36 #[.pointer (some ⟨g, 0, none⟩)] w fun r w' => ∃ v, r = .returned (.tuple #[v, .int .i64 T.syncE]) ∧ OSt W (inrOb v (syncL T.L) :: ds.set i (tkOb g T.sync)) w' := by
  obtain ⟨S, h1, _, _, h3⟩ := h.pick hi
  refine (Synced_any w h1).mono ?_
  rintro r w' ⟨v, hr, hv, hT⟩
  refine ⟨v, hr, h3 _ _ (inrOb v (syncL T.L)) (fun k => v.ownBlock = some k) hT ⟨hv.mono (Nat.zero_le _), fun b hb => hb⟩ fun k hk => ?_⟩
  obtain ⟨cs, hc⟩ := own_blk hv hk
  refine ⟨(own_lt hv hk).1, _, hc, rfl, fun h => ?_⟩
  revert h
  show ¬ (_ ∨ _ ∨ _ ∨ _)
  decide
theorem knewO (h : OSt W ds w) : Calls Try.prog 45 #[] w fun r w' => ∃ g, r = .returned (.pointer (some ⟨g, 0, none⟩)) ∧ OSt W (ktOb g T0 :: ds) w' :=
  (knew_any w).mono fun r w' ⟨g, hr, hd, hb⟩ => ⟨g, hr, h.pushN hb hd⟩
theorem kaddO (i : Nat) (h : OSt W ds w) (hi : ds[i]? = some (ktOb g T)) (n : Int) (l : List Wn) {v : Value} (hv : RWn w v l) (hl : l.length ≤ 1000000) (hn : (Lit.int .i64 n).wf = true) (hc : T.cnt ≤ 1000000) :
    Calls Try.prog 65 #[.pointer (some ⟨g, 0, none⟩), .int .i64 n, v] w fun r w' => r = .returned (.int .i64 (T.addE n l)) ∧ OSt W (ds.set i (ktOb g (T.add n l))) w' := by
  obtain ⟨S, h1, _, h3, _⟩ := h.pick hi
  obtain ⟨A, c, rfl⟩ := hv.form
  exact (kAdd_any n l w h1 hv hl (i64_of_wf hn).2 hc).mono fun r w' ⟨hr, hT⟩ => ⟨hr, h3 _ _ hT⟩
theorem kdidO (i : Nat) (h : OSt W ds w) (hi : ds[i]? = some (ktOb g T)) (n : Int) (b : Bool) :
    Calls Try.prog 69 #[.pointer (some ⟨g, 0, none⟩), .int .i64 n, .bool b] w fun r w' => r = .returned (.int .i64 (T.didE n)) ∧ OSt W (ds.set i (ktOb g (T.did n b))) w' := by
  obtain ⟨S, h1, _, h3, _⟩ := h.pick hi
  exact (kDid_any n b w h1).mono fun r w' ⟨hr, hT⟩ => ⟨hr, h3 _ _ hT⟩
theorem kreplO (i : Nat) (h : OSt W ds w) (hi : ds[i]? = some (ktOb g T)) (n : Int) :
    Calls Try.prog 71 #[.pointer (some ⟨g, 0, none⟩), .int .i64 n] w fun r w' => r = .returned (.int .i64 (T.replE n)) ∧ OSt W (ds.set i (ktOb g (T.repl n))) w' := by
  obtain ⟨S, h1, _, h3, _⟩ := h.pick hi
  exact (kReplied_any n w h1).mono fun r w' ⟨hr, hT⟩ => ⟨hr, h3 _ _ hT⟩
theorem kclearO (i : Nat) (h : OSt W ds w) (hi : ds[i]? = some (ktOb g T)) :
    Calls Try.prog 72 #[.pointer (some ⟨g, 0, none⟩)] w fun r w' => r = .returned (.tuple #[]) ∧ OSt W (ds.set i (ktOb g T.clear)) w' := by
  obtain ⟨S, h1, _, h3, _⟩ := h.pick hi
  exact (kClear_any w h1).mono fun r w' ⟨hr, hT⟩ => ⟨hr, h3 _ _ hT⟩
theorem kpickO (i : Nat) (h : OSt W ds w) (hi : ds[i]? = some (ktOb g T)) (n : Int) (hn : (Lit.int .i64 n).wf = true) (x : Tn) (e : Int) (hT : T.pick n = (T', x, e)) :
    Calls Try.prog 66 #[.pointer (some ⟨g, 0, none⟩), .int .i64 n] w fun r w' => r = .returned (.tuple #[.agg #[.int .i64 x.1, .int .u8 x.2], .int .i64 e]) ∧ OSt W (ds.set i (ktOb g T')) w' := by
  obtain ⟨S, h1, _, h3, _⟩ := h.pick hi
  obtain ⟨n0, n1⟩ := i64_of_wf hn
  have K := kPick_any n w h1 n0 n1
  rw [hT] at K
  exact K.mono fun r w' ⟨hr, hT⟩ => ⟨hr, h3 _ _ hT⟩
theorem knextO (i : Nat) (h : OSt W ds w) (hi : ds[i]? = some (ktOb g T)) (x : Tn) (e : Int) (hT : T.next = (T', x, e)) :
    Calls Try.prog 68 #[.pointer (some ⟨g, 0, none⟩)] w fun r w' => r = .returned (.tuple #[.agg #[.int .i64 x.1, .int .u8 x.2], .int .i64 e]) ∧ OSt W (ds.set i (ktOb g T')) w' := by
  obtain ⟨S, h1, _, h3, _⟩ := h.pick hi
  have K := kNext_any w h1
  rw [hT] at K
  exact K.mono fun r w' ⟨hr, hT⟩ => ⟨hr, h3 _ _ hT⟩
theorem krowO (i : Nat) (h : OSt W ds w) (hi : ds[i]? = some (ktOb g T)) :
    Calls Try.prog 49 #[.pointer (some ⟨g, 0, none⟩)] w fun r w' => ∃ v, r = .returned v ∧ OwnR w' w.heap.size 3 1 One v T.L.length (ics (T.L.map (·.p.1))) ∧ Ext w w' := by
  obtain ⟨S, h1, _⟩ := h.pick hi
  exact kRow_any w h1
theorem kcanO (i : Nat) (h : OSt W ds w) (hi : ds[i]? = some (ktOb g T)) :
    Calls Try.prog 48 #[.pointer (some ⟨g, 0, none⟩)] w fun r w' => ∃ v, r = .returned v ∧ OwnR w' w.heap.size 115 2 One v (canT T).length (tncs (canT T)) ∧ Ext w w' := by
  obtain ⟨S, h1, _⟩ := h.pick hi
  exact kCan_any w h1
theorem ksyncO (i : Nat) (h : OSt W ds w) (hi : ds[i]? = some (ktOb g T)) :
    Calls Try.prog 70 #[.pointer (some ⟨g, 0, none⟩)] w fun r w' => ∃ v, r = .returned (.tuple #[v, .int .i64 T.syncE]) ∧ OSt W (inrOb v (syncL T.L) :: ds.set i (ktOb g T.sync)) w' := by
  obtain ⟨S, h1, _, _, h3⟩ := h.pick hi
  refine (kSynced_any w h1).mono ?_
  rintro r w' ⟨v, hr, hv, hT⟩
  refine ⟨v, hr, h3 _ _ (inrOb v (syncL T.L)) (fun k => v.ownBlock = some k) hT ⟨hv.mono (Nat.zero_le _), fun b hb => hb⟩ fun k hk => ?_⟩
  obtain ⟨cs, hc⟩ := own_blk hv hk
  refine ⟨(own_lt hv hk).1, _, hc, rfl, fun h => ?_⟩
  revert h
  show ¬ (_ ∨ _ ∨ _ ∨ _)
  decide
theorem OSt.inr {v : Value} {l : List Int} (h : OSt W ds w) (i : Nat) (hi : ds[i]? = some (inrOb v l)) : RIn w v l := (h.own i hi).rr (by omega)
end
/-! Plain: what a turn is. -/
theorem pick_mem {T T' : TK} {n : Int} {x : Tn} (h : T.pick n = (T', x, 0)) : x ∈ canT T ∧ T'.cnt = T.cnt := by
  unfold TK.pick at h
  split at h
  · simp at h
  · rename_i y hy
    simp only [Prod.mk.injEq] at h
    obtain ⟨rfl, rfl, -⟩ := h
    exact ⟨List.mem_of_getElem? hy, rfl⟩
theorem pick_cnt {T T' : TK} {n e : Int} {x : Tn} (h : T.pick n = (T', x, e)) : T'.cnt = T.cnt := by
  unfold TK.pick at h
  split at h <;>
    · simp only [Prod.mk.injEq] at h
      obtain ⟨rfl, -⟩ := h
      rfl
theorem next_cnt {T T' : TK} {e : Int} {x : Tn} (h : T.next = (T', x, e)) : T'.cnt = T.cnt := by
  unfold TK.next at h
  split at h <;>
    · simp only [Prod.mk.injEq] at h
      obtain ⟨rfl, -⟩ := h
      rfl
theorem next_mem {T T' : TK} {x : Tn} (h : T.next = (T', x, 0)) : x ∈ canT T := by
  unfold TK.next at h
  split at h
  · simp at h
  · rename_i x0 l hr
    simp only [Prod.mk.injEq] at h
    obtain ⟨-, rfl, -⟩ := h
    rw [← can_rot, hr]
    cases hf : (x0 :: l).find? (fun x => decide (T.last < placeT T.L x.1)) with
    | none => simp
    | some y => exact List.mem_of_find?_eq_some hf
def useT (T : TK) (x : Tn) (b : Bool) : TK := if x.2 = 1 then T.did x.1 b else if x.2 = 2 then T.sync else T.repl x.1
theorem did_cnt (T : TK) (n : Int) (b : Bool) : (T.did n b).cnt = T.cnt := by unfold TK.did; split <;> rfl
theorem repl_cnt (T : TK) (n : Int) : (T.repl n).cnt = T.cnt := by unfold TK.repl; split <;> rfl
theorem add_cnt (T : TK) (n : Int) (l : List Wn) : (T.add n l).cnt ≤ T.cnt + 1 := by
  unfold TK.add
  split
  · exact Int.le_refl _
  · omega
theorem useT_cnt (T : TK) (x : Tn) (b : Bool) : (useT T x b).cnt = T.cnt := by
  unfold useT
  split
  · exact did_cnt _ _ _
  · split
    · rfl
    · exact repl_cnt _ _
set_option maxHeartbeats 2000000 in
theorem turns_t {va vb : Value} (a : List Tn) (w : World) (ha : RR w 2 va a.length (tncs a)) (hb : RR w 2 vb a.length (tncs a)) (hl : a.length ≤ 1000000) : Calls Try.prog 47 #[va, vb] w fun e w' => e = .returned (.bool true) ∧ Ext w w' := by
  obtain ⟨A, c, rfl⟩ := ha.form
  obtain ⟨B, d, rfl⟩ := hb.form
  have HA := Lib.hid ha
  have HB := Lib.hid hb
  clear ha hb
  go_enter Try.func47, Try.ntmps47
  go_wp2
  go_loopg [5] a.length (fun gg s wr => ∃ k : Nat, k ≤ a.length ∧ a.length - k ≤ gg ∧ s = .int .i64 k ∧ Hid (Ext w wr))
  case atStart => exact ⟨0, Nat.zero_le _, by omega, rfl, Lib.hid (Ext.refl w)⟩
  case round =>
    obtain ⟨k, hk, hg, rfl, HW⟩ := hrel
    by_cases hlt : k < a.length
    · obtain ⟨ab, ao, rfl, hba, hca, -⟩ := HA.out.at (by omega)
      obtain ⟨bb, bo, rfl, hbb, hcb, -⟩ := HB.out.at (by omega)
      obtain ⟨x, hx⟩ : ∃ x, a[k]? = some x := ⟨_, List.getElem?_eq_getElem hlt⟩
      have x0 := RR.cellAt (HA.out.ext HW.out) tnC_length hx (i := 0) (v := .int .i64 x.1) rfl
      have x1 := RR.cellAt (HA.out.ext HW.out) tnC_length hx (i := 1) (v := .int .u8 x.2) rfl
      have y0 := RR.cellAt (HB.out.ext HW.out) tnC_length hx (i := 0) (v := .int .i64 x.1) rfl
      have y1 := RR.cellAt (HB.out.ext HW.out) tnC_length hx (i := 1) (v := .int .u8 x.2) rfl
      rw [← Nat.add_assoc] at x0 x1 y0 y1
      simp only [Nat.add_zero] at x0 y0
      have z0 := Below.size HW.out
      clear hx
      go_wp2
      go_quiet (fail)
      go_wp2
      go_roundg (a.length - (k + 1))
      case measure => omega
      case rel => exact ⟨k + 1, by omega, by omega, by go_num, Lib.hid (below_drewN HW.out _)⟩
    · obtain rfl : k = a.length := by omega
      go_wp2
      go_ret
      exact ⟨rfl, HW.out⟩
end

section
set_option linter.unusedVariables false
set_option maxRecDepth 100000
open Go.RowKit

set_option maxHeartbeats 4000000 in
theorem use_any {W w : World} {ds : List (Ob Zf)} {g g' : Nat} {T : TK} (i j : Nat) (hij : i ≠ j) (h : OSt W ds w) (hi : ds[i]? = some (tkOb g T)) (hj : ds[j]? = some (ktOb g' T)) (x : Tn) (hx : x ∈ canT T) (b : Bool) :
    Calls Try.prog 67 #[.pointer (some ⟨g, 0, none⟩), .pointer (some ⟨g', 0, none⟩), .int .i64 x.1, .int .u8 x.2, .bool b] w fun r w' => r = .returned (.bool true) ∧ OSt W ((ds.set i (tkOb g (useT T x b))).set j (ktOb g' (useT T x b))) w' := by
  have hok := h.tok i hi
  obtain ⟨n0, n1⟩ := canT_wf hok hx
  have hwf := wf_i64 n0 n1
  have hJ : ∀ T', (ds.set i (tkOb g T'))[j]? = some (ktOb g' T) := fun T' => by rw [List.getElem?_set_ne hij]; exact hj
  have HI := Lib.hid hi
  have HJ := Lib.hid hJ
  have H := Lib.hid h
  have HWF := Lib.hid hwf
  clear h hi hj hJ hok hwf hx hij
  obtain ⟨x1, x2⟩ := x
  simp only at HWF n0 n1 ⊢
  by_cases h1 : x2 = 1
  · subst h1
    have e : useT T (x1, 1) b = T.did x1 b := by unfold useT; rw [if_pos rfl]
    rw [e]
    clear e
    go_enter Try.func67, Try.ntmps67
    go_wp2_with fail
    refine (tdidM i H.out HI.out x1 b HWF.out).mono ?_
    rintro r w1 ⟨rfl, h1, -⟩
    have H1 := Lib.hid h1
    clear h1
    go_wp2_with (go_at_call 69; refine (kdidO j H1.out (HJ.out _) x1 b).mono ?_; rintro r w2 ⟨rfl, h2⟩; have H2 := Lib.hid h2; clear h2)
    go_ret
    exact ⟨rfl, H2.out⟩
  · have h1b : (x2 == 1) = false := by rw [beq_eq_false_iff_ne]; exact h1
    by_cases h2 : x2 = 2
    · subst h2
      have e : useT T (x1, 2) b = T.sync := by unfold useT; rw [if_neg (by simp), if_pos rfl]
      rw [e]
      clear e
      go_enter Try.func67, Try.ntmps67
      go_wp2_with fail
      refine (tsyncO i H.out HI.out).mono ?_
      rintro r w1 ⟨v, rfl, h1⟩
      have H1 := Lib.hid h1
      clear h1
      go_wp2_with fail
      refine (ksyncO (j + 1) H1.out (HJ.out _)).mono ?_
      rintro r w2 ⟨v2, rfl, h2⟩
      have H2 : Hid (OSt W (inrOb v2 (syncL T.L) :: inrOb v (syncL T.L) :: (ds.set i (tkOb g T.sync)).set j (ktOb g' T.sync)) w2) := Lib.hid h2
      have hok := H.out.tok i HI.out
      have hlk : (syncL T.L).length ≤ 16 := by unfold syncL; rw [List.length_map]; exact Nat.le_trans (List.length_filter_le _ _) hok.len
      have KI := Lib.hid (ints_t (syncL T.L) w2 (H2.out.inr 1 rfl) (H2.out.inr 0 rfl) (by omega))
      clear h2 hok
      go_wp2_with (go_at_call 42; refine KI.out.mono ?_; rintro r w3 ⟨rfl, h3⟩; have H3 := Lib.hid (H2.out.ext h3); clear h3)
      go_ret
      exact ⟨rfl, (H3.out.dropI 0).dropI 0⟩
    · have h2b : (x2 == 2) = false := by rw [beq_eq_false_iff_ne]; exact h2
      have e : useT T (x1, x2) b = T.repl x1 := by unfold useT; rw [if_neg h1, if_neg h2]
      rw [e]
      clear e h1 h2
      go_enter Try.func67, Try.ntmps67
      go_wp2_with fail
      refine (treplM i H.out HI.out x1 HWF.out).mono ?_
      rintro r w1 ⟨rfl, h1, -⟩
      have H1 := Lib.hid h1
      clear h1
      go_wp2_with (go_at_call 71; refine (kreplO j H1.out (HJ.out _) x1).mono ?_; rintro r w2 ⟨rfl, h2⟩; have H2 := Lib.hid h2; clear h2)
      go_ret
      exact ⟨rfl, H2.out⟩
def stO (x : StE) : Obj := .cells (stC x).toArray 61 (0, 0)
theorem stO_nz (x : StE) : ¬ Zf (stO x) := nz (by decide)
abbrev stOb (b : Nat) (x : StE) : Ob Zf := rowOb b (stO x) (stO_nz x)
theorem OSt.step {W w : World} {ds : List (Ob Zf)} {b : Nat} {x : StE} (h : OSt W ds w) (i : Nat) (hi : ds[i]? = some (stOb b x)) :
    w.cell? ⟨b, 0, none⟩ = some (.int .u8 x.k) ∧ w.cell? ⟨b, 1, none⟩ = some (.int .i64 x.t) ∧ w.cell? ⟨b, 2, none⟩ = some (.int .i64 x.n) ∧ w.cell? ⟨b, 3, none⟩ = some (.bool x.b) ∧ w.cell? ⟨b, 4, none⟩ = some x.wv ∧ b < w.heap.size := by
  have k := h.get i hi
  unfold stO at k
  exact ⟨by simp [World.cell?, k, stC], by simp [World.cell?, k, stC], by simp [World.cell?, k, stC], by simp [World.cell?, k, stC], by simp [World.cell?, k, stC], heap_lt k⟩
theorem OSt.tnb {W w : World} {ds : List (Ob Zf)} {b : Nat} {x : StE} (h : OSt W ds w) (i : Nat) (hi : ds[i]? = some (stOb b x)) : ¬ TkS W w b := by
  rintro ⟨_, o, ho, hk⟩
  have k := h.get i hi
  rw [k] at ho
  cases ho
  revert hk
  show ¬ (_ ∨ _ ∨ _ ∨ _)
  decide
end

section
set_option linter.unusedVariables false
set_option maxRecDepth 100000
open Go.RowKit

abbrev OneP (W : World) (g g' : Nat) (T : TK) (r : Ending) (w' : World) : Prop := ∃ T', r = .returned (.bool true) ∧ OSt W [tkOb g T', ktOb g' T'] w' ∧ T'.cnt ≤ T.cnt + 1
theorem can_last {T T1 : TK} {n e : Int} {x : Tn} (h : T.pick n = (T1, x, e)) : canT T1 = canT T := by
  unfold TK.pick at h
  split at h <;>
    · simp only [Prod.mk.injEq] at h
      obtain ⟨rfl, -⟩ := h
      rfl
theorem can_lastN {T T1 : TK} {e : Int} {x : Tn} (h : T.next = (T1, x, e)) : canT T1 = canT T := by
  unfold TK.next at h
  split at h <;>
    · simp only [Prod.mk.injEq] at h
      obtain ⟨rfl, -⟩ := h
      rfl
section
variable {W w : World} {g g' : Nat} {T : TK}
set_option maxHeartbeats 4000000 in
theorem one_add (h : OSt W [tkOb g T, ktOb g' T] w) (x : StE) (hx : x.Ok W) (hl : x.l.length ≤ 20) (hc : T.cnt ≤ 1000) (hk : x.k = 0) :
    Calls Try.prog 46 #[.pointer (some ⟨g, 0, none⟩), .pointer (some ⟨g', 0, none⟩), .agg #[.int .u8 x.k, .int .i64 x.t, .int .i64 x.n, .bool x.b, x.wv]] w (OneP W g g' T) := by
  obtain ⟨k, t, n, b, wv, l⟩ := x
  obtain ⟨A, c, hwv⟩ := hx.r.form
  simp only at hwv hk hl ⊢
  subst hwv
  have HX := Lib.hid hx
  have HB : Hid (OSt W [stOb w.heap.size ⟨k, t, n, b, .slice A l.length c, l⟩, tkOb g T, ktOb g' T] (w.alloc (.cells #[.int .u8 k, .int .i64 t, .int .i64 n, .bool b, .slice A l.length c] 61 (0, 0)))) := Lib.hid (h.alloc (stO ⟨k, t, n, b, .slice A l.length c, l⟩) (stO_nz _))
  subst hk
  have KG := Lib.hid fun w' (hx' : Ext (w.alloc (.cells #[.int .u8 0, .int .i64 t, .int .i64 n, .bool b, .slice A l.length c] 61 (0, 0))) w') => given19_any l w' (HX.out.r.ext (Ext.trans HB.out.bel hx')) (by show l.length ≤ 1000000; omega)
  obtain ⟨s0, s1, s2, s3, s4, sl⟩ := HB.out.step 0 rfl
  simp only at s0 s1 s2 s3 s4
  clear h hx s0 s2 s3
  go_enter Try.func46, Try.ntmps46
  go_wp2
  obtain ⟨So, HSo⟩ : ∃ So : Nat → Prop, Hid (So = fun j => W.heap.size ≤ j ∧ j ≠ w.heap.size) := ⟨_, Lib.hid rfl⟩
  have hng : ¬ So w.heap.size := by rw [HSo.out]; simp
  have e0 : ∀ (ψ : World → Prop) (e : ExtS So (w.alloc (.cells #[.int .u8 0, .int .i64 t, .int .i64 n, .bool b, .slice A l.length c] 61 (0, 0))) ψ), e.val.cell? ⟨w.heap.size, 1, none⟩ = some (.int .i64 t) := fun ψ e => e.cell s1 sl hng
  have e1 : ∀ (ψ : World → Prop) (e : ExtS So (w.alloc (.cells #[.int .u8 0, .int .i64 t, .int .i64 n, .bool b, .slice A l.length c] 61 (0, 0))) ψ), e.val.cell? ⟨w.heap.size, 4, none⟩ = some (.slice A l.length c) := fun ψ e => e.cell s4 sl hng
  clear s1 s4
  refine wp_region_piecesS So 12 [(true, [0, 1, 2, 3, 4, 7, 8, 9, 10, 11]), (false, [5]), (false, [6])] (by kernel_rfl) (by kernel_rfl) ?_
  simp only [pick, List.map_cons, List.map_nil, List.flatMap_cons, List.flatMap_nil, Option.toList_some, List.singleton_append, List.drop_succ_cons, List.drop_zero, List.getElem?_cons_zero, List.getElem?_cons_succ]
  refine ⟨by kernel_rfl, ?_⟩; apply Exists.intro; refine ⟨fun ψ hψ hne => (by (repeat (go_big_quiet_step (( fail )))); exact wpQuiet_nil rfl), ?_⟩
  clear e0 e1
  intro W0 h0 K hK
  go_wp2_with (go_at_call 28; refine (KG.out W0 h0).mono ?_; rintro e W1 ⟨v1, rfl, ho1, h1⟩)
  refine hK _ _ (Mut.of_ext h1) ?_
  clear hK K
  intro W2 h2 K hK
  have HN := Lib.hid (((HB.out.ext h0).ext h1).ext h2)
  have KA := Lib.hid (taddM 1 HN.out rfl t l ((ho1.ext h2).rr (by omega)) (by omega) HX.out.t (by omega))
  clear h0 h1 h2 ho1 KG
  go_wp2_with (go_at_call 27; refine KA.out.mono ?_; rintro e w5 ⟨rfl, h5, hm5⟩)
  refine hK _ _ (hm5.mono fun j hj => by rw [HSo.out]; exact ⟨hj.1, fun e => HN.out.tnb 0 rfl (e ▸ hj)⟩) ?_
  clear hK K hm5
  intro w6 h6
  have H6 : Hid (OSt W [stOb w.heap.size ⟨0, t, n, b, .slice A l.length c, l⟩, tkOb g (T.add t l), ktOb g' T] w6) := Lib.hid (h5.ext h6)
  have KB := Lib.hid (kaddO 2 H6.out rfl t l (HX.out.r.ext H6.out.bel) (by show l.length ≤ 1000000; omega) HX.out.t (by omega))
  clear h5 h6 HN KA HSo
  go_wp2_with (go_at_call 65; refine KB.out.mono ?_; rintro e w7 ⟨rfl, h7⟩; have H7 := Lib.hid h7; clear h7 KB)
  go_ret
  exact ⟨T.add t l, rfl, H7.out.dropI 0, add_cnt _ _ _⟩
set_option maxHeartbeats 4000000 in
theorem one_did (h : OSt W [tkOb g T, ktOb g' T] w) (x : StE) (hx : x.Ok W) (hl : x.l.length ≤ 20) (hk : x.k = 3) :
    Calls Try.prog 46 #[.pointer (some ⟨g, 0, none⟩), .pointer (some ⟨g', 0, none⟩), .agg #[.int .u8 x.k, .int .i64 x.t, .int .i64 x.n, .bool x.b, x.wv]] w (OneP W g g' T) := by
  obtain ⟨k, t, n, b, wv, l⟩ := x
  obtain ⟨A, c, hwv⟩ := hx.r.form
  simp only at hwv hk hl ⊢
  subst hwv
  have HX := Lib.hid hx
  have HB : Hid (OSt W [stOb w.heap.size ⟨k, t, n, b, .slice A l.length c, l⟩, tkOb g T, ktOb g' T] (w.alloc (.cells #[.int .u8 k, .int .i64 t, .int .i64 n, .bool b, .slice A l.length c] 61 (0, 0)))) := Lib.hid (h.alloc (stO ⟨k, t, n, b, .slice A l.length c, l⟩) (stO_nz _))
  subst hk
  obtain ⟨s0, s1, s2, s3, s4, sl⟩ := HB.out.step 0 rfl
  simp only at s0 s1 s2 s3 s4
  clear h hx s0 s2 s4
  go_enter Try.func46, Try.ntmps46
  go_wp2
  obtain ⟨So, HSo⟩ : ∃ So : Nat → Prop, Hid (So = fun j => W.heap.size ≤ j ∧ j ≠ w.heap.size) := ⟨_, Lib.hid rfl⟩
  have hng : ¬ So w.heap.size := by rw [HSo.out]; simp
  have e0 : ∀ (ψ : World → Prop) (e : ExtS So (w.alloc (.cells #[.int .u8 3, .int .i64 t, .int .i64 n, .bool b, .slice A l.length c] 61 (0, 0))) ψ), e.val.cell? ⟨w.heap.size, 1, none⟩ = some (.int .i64 t) := fun ψ e => e.cell s1 sl hng
  have e1 : ∀ (ψ : World → Prop) (e : ExtS So (w.alloc (.cells #[.int .u8 3, .int .i64 t, .int .i64 n, .bool b, .slice A l.length c] 61 (0, 0))) ψ), e.val.cell? ⟨w.heap.size, 3, none⟩ = some (.bool b) := fun ψ e => e.cell s3 sl hng
  clear s1 s3
  refine wp_region_piecesS So 11 [(true, [0, 1, 2, 3, 4, 6, 7, 8, 9, 10]), (false, [5])] (by kernel_rfl) (by kernel_rfl) ?_
  simp only [pick, List.map_cons, List.map_nil, List.flatMap_cons, List.flatMap_nil, Option.toList_some, List.singleton_append, List.drop_succ_cons, List.drop_zero, List.getElem?_cons_zero, List.getElem?_cons_succ]
  refine ⟨by kernel_rfl, ?_⟩; apply Exists.intro; refine ⟨fun ψ hψ hne => (by (repeat (go_big_quiet_step (( fail )))); exact wpQuiet_nil rfl), ?_⟩
  clear e0 e1
  intro W2 h2 K hK
  have HN := Lib.hid (HB.out.ext h2)
  have KA := Lib.hid (tdidM 1 HN.out rfl t b HX.out.t)
  clear h2
  go_wp2_with (go_at_call 29; refine KA.out.mono ?_; rintro e w5 ⟨rfl, h5, hm5⟩)
  refine hK _ _ (hm5.mono fun j hj => by rw [HSo.out]; exact ⟨hj.1, fun e => HN.out.tnb 0 rfl (e ▸ hj)⟩) ?_
  clear hK K hm5
  intro w6 h6
  have H6 : Hid (OSt W [stOb w.heap.size ⟨3, t, n, b, .slice A l.length c, l⟩, tkOb g (T.did t b), ktOb g' T] w6) := Lib.hid (h5.ext h6)
  have KB := Lib.hid (kdidO 2 H6.out rfl t b)
  clear h5 h6 HN KA HSo
  go_wp2_with (go_at_call 69; refine KB.out.mono ?_; rintro e w7 ⟨rfl, h7⟩; have H7 := Lib.hid h7; clear h7 KB)
  go_ret
  exact ⟨T.did t b, rfl, H7.out.dropI 0, by rw [did_cnt]; omega⟩
set_option maxHeartbeats 4000000 in
theorem one_repl (h : OSt W [tkOb g T, ktOb g' T] w) (x : StE) (hx : x.Ok W) (hl : x.l.length ≤ 20) (hk : x.k = 5) :
    Calls Try.prog 46 #[.pointer (some ⟨g, 0, none⟩), .pointer (some ⟨g', 0, none⟩), .agg #[.int .u8 x.k, .int .i64 x.t, .int .i64 x.n, .bool x.b, x.wv]] w (OneP W g g' T) := by
  obtain ⟨k, t, n, b, wv, l⟩ := x
  obtain ⟨A, c, hwv⟩ := hx.r.form
  simp only at hwv hk hl ⊢
  subst hwv
  have HX := Lib.hid hx
  have HB : Hid (OSt W [stOb w.heap.size ⟨k, t, n, b, .slice A l.length c, l⟩, tkOb g T, ktOb g' T] (w.alloc (.cells #[.int .u8 k, .int .i64 t, .int .i64 n, .bool b, .slice A l.length c] 61 (0, 0)))) := Lib.hid (h.alloc (stO ⟨k, t, n, b, .slice A l.length c, l⟩) (stO_nz _))
  subst hk
  obtain ⟨s0, s1, s2, s3, s4, sl⟩ := HB.out.step 0 rfl
  simp only at s0 s1 s2 s3 s4
  clear h hx s0 s2 s3 s4
  go_enter Try.func46, Try.ntmps46
  go_wp2
  obtain ⟨So, HSo⟩ : ∃ So : Nat → Prop, Hid (So = fun j => W.heap.size ≤ j ∧ j ≠ w.heap.size) := ⟨_, Lib.hid rfl⟩
  have hng : ¬ So w.heap.size := by rw [HSo.out]; simp
  have e0 : ∀ (ψ : World → Prop) (e : ExtS So (w.alloc (.cells #[.int .u8 5, .int .i64 t, .int .i64 n, .bool b, .slice A l.length c] 61 (0, 0))) ψ), e.val.cell? ⟨w.heap.size, 1, none⟩ = some (.int .i64 t) := fun ψ e => e.cell s1 sl hng
  clear s1
  refine wp_region_piecesS So 7 [(true, [0, 1, 2, 4, 5, 6]), (false, [3])] (by kernel_rfl) (by kernel_rfl) ?_
  simp only [pick, List.map_cons, List.map_nil, List.flatMap_cons, List.flatMap_nil, Option.toList_some, List.singleton_append, List.drop_succ_cons, List.drop_zero, List.getElem?_cons_zero, List.getElem?_cons_succ]
  refine ⟨by kernel_rfl, ?_⟩; apply Exists.intro; refine ⟨fun ψ hψ hne => (by (repeat (go_big_quiet_step (( fail )))); exact wpQuiet_nil rfl), ?_⟩
  clear e0
  intro W2 h2 K hK
  have HN := Lib.hid (HB.out.ext h2)
  have KA := Lib.hid (treplM 1 HN.out rfl t HX.out.t)
  clear h2
  go_wp2_with (go_at_call 37; refine KA.out.mono ?_; rintro e w5 ⟨rfl, h5, hm5⟩)
  refine hK _ _ (hm5.mono fun j hj => by rw [HSo.out]; exact ⟨hj.1, fun e => HN.out.tnb 0 rfl (e ▸ hj)⟩) ?_
  clear hK K hm5
  intro w6 h6
  have H6 : Hid (OSt W [stOb w.heap.size ⟨5, t, n, b, .slice A l.length c, l⟩, tkOb g (T.repl t), ktOb g' T] w6) := Lib.hid (h5.ext h6)
  have KB := Lib.hid (kreplO 2 H6.out rfl t)
  clear h5 h6 HN KA HSo
  go_wp2_with (go_at_call 71; refine KB.out.mono ?_; rintro e w7 ⟨rfl, h7⟩; have H7 := Lib.hid h7; clear h7 KB)
  go_ret
  exact ⟨T.repl t, rfl, H7.out.dropI 0, by rw [repl_cnt]; omega⟩
set_option maxHeartbeats 4000000 in
theorem one_sync (h : OSt W [tkOb g T, ktOb g' T] w) (x : StE) (hx : x.Ok W) (hl : x.l.length ≤ 20) (hk : x.k = 4) :
    Calls Try.prog 46 #[.pointer (some ⟨g, 0, none⟩), .pointer (some ⟨g', 0, none⟩), .agg #[.int .u8 x.k, .int .i64 x.t, .int .i64 x.n, .bool x.b, x.wv]] w (OneP W g g' T) := by
  obtain ⟨k, t, n, b, wv, l⟩ := x
  obtain ⟨A, c, hwv⟩ := hx.r.form
  simp only at hwv hk hl ⊢
  subst hwv
  have HX := Lib.hid hx
  have HB : Hid (OSt W [stOb w.heap.size ⟨k, t, n, b, .slice A l.length c, l⟩, tkOb g T, ktOb g' T] (w.alloc (.cells #[.int .u8 k, .int .i64 t, .int .i64 n, .bool b, .slice A l.length c] 61 (0, 0)))) := Lib.hid (h.alloc (stO ⟨k, t, n, b, .slice A l.length c, l⟩) (stO_nz _))
  subst hk
  obtain ⟨s0, s1, s2, s3, s4, sl⟩ := HB.out.step 0 rfl
  simp only at s0 s1 s2 s3 s4
  clear h hx s1 s2 s3 s4
  go_enter Try.func46, Try.ntmps46
  go_wp2_with fail
  refine (tsyncO 1 HB.out rfl).mono ?_
  rintro r w1 ⟨v, rfl, h1⟩
  have H1 : Hid (OSt W [inrOb v (syncL T.L), stOb w.heap.size ⟨4, t, n, b, .slice A l.length c, l⟩, tkOb g T.sync, ktOb g' T] w1) := Lib.hid h1
  clear h1 s0
  go_wp2_with fail
  refine (ksyncO 3 H1.out rfl).mono ?_
  rintro r w2 ⟨v2, rfl, h2⟩
  have H2 : Hid (OSt W [inrOb v2 (syncL T.L), inrOb v (syncL T.L), stOb w.heap.size ⟨4, t, n, b, .slice A l.length c, l⟩, tkOb g T.sync, ktOb g' T.sync] w2) := Lib.hid h2
  have hok := H1.out.tok 2 rfl
  have hlk : (syncL T.L).length ≤ 16 := by
    have := HB.out.tok 1 rfl
    unfold syncL
    rw [List.length_map]
    exact Nat.le_trans (List.length_filter_le _ _) this.len
  have KI := Lib.hid (ints_t (syncL T.L) w2 (H2.out.inr 1 rfl) (H2.out.inr 0 rfl) (by omega))
  clear h2 hok
  go_wp2_with (go_at_call 42; refine KI.out.mono ?_; rintro r w3 ⟨rfl, h3⟩; have H3 := Lib.hid (H2.out.ext h3); clear h3)
  go_ret
  exact ⟨T.sync, rfl, ((H3.out.dropI 0).dropI 0).dropI 0, by show T.cnt ≤ T.cnt + 1; omega⟩
set_option maxHeartbeats 4000000 in
theorem one_clear (h : OSt W [tkOb g T, ktOb g' T] w) (x : StE) (hx : x.Ok W) (hl : x.l.length ≤ 20) (hk : x.k = 6) :
    Calls Try.prog 46 #[.pointer (some ⟨g, 0, none⟩), .pointer (some ⟨g', 0, none⟩), .agg #[.int .u8 x.k, .int .i64 x.t, .int .i64 x.n, .bool x.b, x.wv]] w (OneP W g g' T) := by
  obtain ⟨k, t, n, b, wv, l⟩ := x
  obtain ⟨A, c, hwv⟩ := hx.r.form
  simp only at hwv hk hl ⊢
  subst hwv
  have HX := Lib.hid hx
  have HB : Hid (OSt W [stOb w.heap.size ⟨k, t, n, b, .slice A l.length c, l⟩, tkOb g T, ktOb g' T] (w.alloc (.cells #[.int .u8 k, .int .i64 t, .int .i64 n, .bool b, .slice A l.length c] 61 (0, 0)))) := Lib.hid (h.alloc (stO ⟨k, t, n, b, .slice A l.length c, l⟩) (stO_nz _))
  subst hk
  obtain ⟨s0, s1, s2, s3, s4, sl⟩ := HB.out.step 0 rfl
  simp only at s0 s1 s2 s3 s4
  clear h hx s1 s2 s3 s4
  go_enter Try.func46, Try.ntmps46
  go_wp2_with fail
  refine (tclearO 1 HB.out rfl rfl).mono ?_
  rintro r w1 ⟨rfl, h1⟩
  have H1 : Hid (OSt W [stOb w.heap.size ⟨6, t, n, b, .slice A l.length c, l⟩, tkOb g T.clear, ktOb g' T] w1) := Lib.hid h1
  clear h1 s0
  go_wp2_with (go_at_call 72; refine (kclearO 2 H1.out rfl).mono ?_; rintro r w2 ⟨rfl, h2⟩; have H2 := Lib.hid h2; clear h2)
  go_ret
  exact ⟨T.clear, rfl, H2.out.dropI 0, by show T.cnt ≤ T.cnt + 1; omega⟩
set_option maxHeartbeats 4000000 in
theorem one_other (h : OSt W [tkOb g T, ktOb g' T] w) (x : StE) (hx : x.Ok W) (hl : x.l.length ≤ 20) (hk : x.k ≠ 0 ∧ x.k ≠ 1 ∧ x.k ≠ 2 ∧ x.k ≠ 3 ∧ x.k ≠ 4 ∧ x.k ≠ 5 ∧ x.k ≠ 6 ∧ x.k ≠ 8 ∧ x.k ≠ 9) :
    Calls Try.prog 46 #[.pointer (some ⟨g, 0, none⟩), .pointer (some ⟨g', 0, none⟩), .agg #[.int .u8 x.k, .int .i64 x.t, .int .i64 x.n, .bool x.b, x.wv]] w (OneP W g g' T) := by
  obtain ⟨k, t, n, b, wv, l⟩ := x
  obtain ⟨A, c, hwv⟩ := hx.r.form
  simp only at hwv hk hl ⊢
  subst hwv
  have HX := Lib.hid hx
  have HB : Hid (OSt W [stOb w.heap.size ⟨k, t, n, b, .slice A l.length c, l⟩, tkOb g T, ktOb g' T] (w.alloc (.cells #[.int .u8 k, .int .i64 t, .int .i64 n, .bool b, .slice A l.length c] 61 (0, 0)))) := Lib.hid (h.alloc (stO ⟨k, t, n, b, .slice A l.length c, l⟩) (stO_nz _))
  simp only [ne_eq, ← beq_eq_false_iff_ne] at hk
  obtain ⟨k0, k1, k2, k3, k4, k5, k6, k8, k9⟩ := hk
  obtain ⟨s0, s1, s2, s3, s4, sl⟩ := HB.out.step 0 rfl
  simp only at s0 s1 s2 s3 s4
  clear h hx s1 s2 s3 s4
  go_enter Try.func46, Try.ntmps46
  go_wp2
  go_ret
  exact ⟨T, rfl, HB.out.dropI 0, by omega⟩
set_option maxHeartbeats 4000000 in
theorem one_pick (h : OSt W [tkOb g T, ktOb g' T] w) (x : StE) (hx : x.Ok W) (hl : x.l.length ≤ 20) (hk : x.k = 1) :
    Calls Try.prog 46 #[.pointer (some ⟨g, 0, none⟩), .pointer (some ⟨g', 0, none⟩), .agg #[.int .u8 x.k, .int .i64 x.t, .int .i64 x.n, .bool x.b, x.wv]] w (OneP W g g' T) := by
  obtain ⟨k, t, n, b, wv, l⟩ := x
  obtain ⟨A, c, hwv⟩ := hx.r.form
  simp only at hwv hk hl ⊢
  subst hwv
  have HX := Lib.hid hx
  have HB : Hid (OSt W [stOb w.heap.size ⟨k, t, n, b, .slice A l.length c, l⟩, tkOb g T, ktOb g' T] (w.alloc (.cells #[.int .u8 k, .int .i64 t, .int .i64 n, .bool b, .slice A l.length c] 61 (0, 0)))) := Lib.hid (h.alloc (stO ⟨k, t, n, b, .slice A l.length c, l⟩) (stO_nz _))
  subst hk
  obtain ⟨s0, s1, s2, s3, s4, sl⟩ := HB.out.step 0 rfl
  simp only at s0 s1 s2 s3 s4
  obtain ⟨⟨T1, ⟨x1, x2⟩, e⟩, hp⟩ : ∃ p, T.pick n = p := ⟨_, rfl⟩
  have hcn := pick_cnt hp
  have HP := Lib.hid hp
  clear h hx hp
  go_enter Try.func46, Try.ntmps46
  go_wp2_with fail
  refine (tpickO 1 HB.out rfl n (i64_of_wf HX.out.n).1 (i64_of_wf HX.out.n).2 (x1, x2) e HP.out).mono ?_
  rintro r w1 ⟨rfl, h1⟩
  have H1 : Hid (OSt W [stOb w.heap.size ⟨1, t, n, b, .slice A l.length c, l⟩, tkOb g T1, ktOb g' T] w1) := Lib.hid h1
  have H2 : Hid (OSt W [rowOb w1.heap.size (.cells #[.int .i64 x1, .int .u8 x2] 64 (0, 0)) (nz (by decide)), stOb w.heap.size ⟨1, t, n, b, .slice A l.length c, l⟩, tkOb g T1, ktOb g' T] (w1.alloc (.cells #[.int .i64 x1, .int .u8 x2] 64 (0, 0)))) := Lib.hid (H1.out.alloc _ _)
  clear h1 s0 s1 s2 s3 s4 sl
  obtain ⟨s0, s1, s2, s3, s4, sl⟩ := H1.out.step 0 rfl
  simp only at s0 s1 s2 s3 s4
  go_wp2_with fail
  refine (kpickO 3 H2.out rfl n HX.out.n (x1, x2) e HP.out).mono ?_
  rintro r w3 ⟨rfl, h3⟩
  have H3 : Hid (OSt W [rowOb w1.heap.size (.cells #[.int .i64 x1, .int .u8 x2] 64 (0, 0)) (nz (by decide)), stOb w.heap.size ⟨1, t, n, b, .slice A l.length c, l⟩, tkOb g T1, ktOb g' T1] w3) := Lib.hid h3
  have H4 : Hid (OSt W [rowOb w3.heap.size (.cells #[.int .i64 x1, .int .u8 x2] 115 (0, 0)) (nz (by decide)), rowOb w1.heap.size (.cells #[.int .i64 x1, .int .u8 x2] 64 (0, 0)) (nz (by decide)), stOb w.heap.size ⟨1, t, n, b, .slice A l.length c, l⟩, tkOb g T1, ktOb g' T1] (w3.alloc (.cells #[.int .i64 x1, .int .u8 x2] 115 (0, 0)))) := Lib.hid (H3.out.alloc _ _)
  obtain ⟨u0, u1, -, ul⟩ := blk2 (H3.out.get 0 rfl)
  clear h3 s0 s1 s2 s3 s4 sl
  obtain ⟨s0, s1, s2, s3, s4, sl⟩ := H3.out.step 1 rfl
  simp only at s0 s1 s2 s3 s4
  go_wp2
  go_ret
  exact ⟨T1, rfl, ((H4.out.dropI 0).dropI 0).dropI 0, by omega⟩
set_option maxHeartbeats 4000000 in
theorem one_picks (h : OSt W [tkOb g T, ktOb g' T] w) (x : StE) (hx : x.Ok W) (hl : x.l.length ≤ 20) (hk : x.k = 9) :
    Calls Try.prog 46 #[.pointer (some ⟨g, 0, none⟩), .pointer (some ⟨g', 0, none⟩), .agg #[.int .u8 x.k, .int .i64 x.t, .int .i64 x.n, .bool x.b, x.wv]] w (OneP W g g' T) := by
  obtain ⟨k, t, n, b, wv, l⟩ := x
  obtain ⟨A, c, hwv⟩ := hx.r.form
  simp only at hwv hk hl ⊢
  subst hwv
  have HX := Lib.hid hx
  have HB : Hid (OSt W [stOb w.heap.size ⟨k, t, n, b, .slice A l.length c, l⟩, tkOb g T, ktOb g' T] (w.alloc (.cells #[.int .u8 k, .int .i64 t, .int .i64 n, .bool b, .slice A l.length c] 61 (0, 0)))) := Lib.hid (h.alloc (stO ⟨k, t, n, b, .slice A l.length c, l⟩) (stO_nz _))
  subst hk
  obtain ⟨s0, s1, s2, s3, s4, sl⟩ := HB.out.step 0 rfl
  simp only at s0 s1 s2 s3 s4
  obtain ⟨⟨T1, ⟨x1, x2⟩, e⟩, hp⟩ : ∃ p, T.pick n = p := ⟨_, rfl⟩
  have hcn := pick_cnt hp
  have HP := Lib.hid hp
  clear h hx hp
  go_enter Try.func46, Try.ntmps46
  go_wp2_with fail
  refine (tpickO 1 HB.out rfl n (i64_of_wf HX.out.n).1 (i64_of_wf HX.out.n).2 (x1, x2) e HP.out).mono ?_
  rintro r w1 ⟨rfl, h1⟩
  have H1 : Hid (OSt W [stOb w.heap.size ⟨9, t, n, b, .slice A l.length c, l⟩, tkOb g T1, ktOb g' T] w1) := Lib.hid h1
  have H2 : Hid (OSt W [rowOb w1.heap.size (.cells #[.int .i64 x1, .int .u8 x2] 64 (0, 0)) (nz (by decide)), stOb w.heap.size ⟨9, t, n, b, .slice A l.length c, l⟩, tkOb g T1, ktOb g' T] (w1.alloc (.cells #[.int .i64 x1, .int .u8 x2] 64 (0, 0)))) := Lib.hid (H1.out.alloc _ _)
  clear h1 s0 s1 s2 s3 s4 sl
  obtain ⟨s0, s1, s2, s3, s4, sl⟩ := H1.out.step 0 rfl
  simp only at s0 s1 s2 s3 s4
  go_wp2_with fail
  refine (kpickO 3 H2.out rfl n HX.out.n (x1, x2) e HP.out).mono ?_
  rintro r w3 ⟨rfl, h3⟩
  have H3 : Hid (OSt W [rowOb w1.heap.size (.cells #[.int .i64 x1, .int .u8 x2] 64 (0, 0)) (nz (by decide)), stOb w.heap.size ⟨9, t, n, b, .slice A l.length c, l⟩, tkOb g T1, ktOb g' T1] w3) := Lib.hid h3
  have H4 : Hid (OSt W [rowOb w3.heap.size (.cells #[.int .i64 x1, .int .u8 x2] 115 (0, 0)) (nz (by decide)), rowOb w1.heap.size (.cells #[.int .i64 x1, .int .u8 x2] 64 (0, 0)) (nz (by decide)), stOb w.heap.size ⟨9, t, n, b, .slice A l.length c, l⟩, tkOb g T1, ktOb g' T1] (w3.alloc (.cells #[.int .i64 x1, .int .u8 x2] 115 (0, 0)))) := Lib.hid (H3.out.alloc _ _)
  obtain ⟨u0, u1, -, ul⟩ := blk2 (H3.out.get 0 rfl)
  clear h3 s0 s1 s2 s3 s4 sl
  obtain ⟨s0, s1, s2, s3, s4, sl⟩ := H3.out.step 1 rfl
  simp only at s0 s1 s2 s3 s4
  by_cases he : e = 0
  · subst he
    have KU := Lib.hid (use_any 3 4 (by decide) H4.out rfl rfl (x1, x2) (by have h := pick_mem HP.out; rw [can_last HP.out]; exact h.1) b)
    have hcu := useT_cnt T1 (x1, x2) b
    clear s1 s2 s4
    go_wp2_with (go_at_call 67; refine KU.out.mono ?_; rintro r w5 ⟨rfl, h5⟩; have H5 := Lib.hid h5; clear h5)
    go_ret
    exact ⟨useT T1 (x1, x2) b, rfl, ((H5.out.dropI 0).dropI 0).dropI 0, by omega⟩
  · have heb : (e != 0) = true := by simpa using he
    clear he
    go_wp2
    go_ret
    exact ⟨T1, rfl, ((H4.out.dropI 0).dropI 0).dropI 0, by omega⟩
set_option maxHeartbeats 4000000 in
theorem one_next (h : OSt W [tkOb g T, ktOb g' T] w) (x : StE) (hx : x.Ok W) (hl : x.l.length ≤ 20) (hk : x.k = 2) :
    Calls Try.prog 46 #[.pointer (some ⟨g, 0, none⟩), .pointer (some ⟨g', 0, none⟩), .agg #[.int .u8 x.k, .int .i64 x.t, .int .i64 x.n, .bool x.b, x.wv]] w (OneP W g g' T) := by
  obtain ⟨k, t, n, b, wv, l⟩ := x
  obtain ⟨A, c, hwv⟩ := hx.r.form
  simp only at hwv hk hl ⊢
  subst hwv
  have HX := Lib.hid hx
  have HB : Hid (OSt W [stOb w.heap.size ⟨k, t, n, b, .slice A l.length c, l⟩, tkOb g T, ktOb g' T] (w.alloc (.cells #[.int .u8 k, .int .i64 t, .int .i64 n, .bool b, .slice A l.length c] 61 (0, 0)))) := Lib.hid (h.alloc (stO ⟨k, t, n, b, .slice A l.length c, l⟩) (stO_nz _))
  subst hk
  obtain ⟨s0, s1, s2, s3, s4, sl⟩ := HB.out.step 0 rfl
  simp only at s0 s1 s2 s3 s4
  obtain ⟨⟨T1, ⟨x1, x2⟩, e⟩, hp⟩ : ∃ p, T.next = p := ⟨_, rfl⟩
  have hcn := next_cnt hp
  have HP := Lib.hid hp
  clear h hx hp
  go_enter Try.func46, Try.ntmps46
  go_wp2_with fail
  refine (tnextO 1 HB.out rfl (x1, x2) e HP.out).mono ?_
  rintro r w1 ⟨rfl, h1⟩
  have H1 : Hid (OSt W [stOb w.heap.size ⟨2, t, n, b, .slice A l.length c, l⟩, tkOb g T1, ktOb g' T] w1) := Lib.hid h1
  have H2 : Hid (OSt W [rowOb w1.heap.size (.cells #[.int .i64 x1, .int .u8 x2] 64 (0, 0)) (nz (by decide)), stOb w.heap.size ⟨2, t, n, b, .slice A l.length c, l⟩, tkOb g T1, ktOb g' T] (w1.alloc (.cells #[.int .i64 x1, .int .u8 x2] 64 (0, 0)))) := Lib.hid (H1.out.alloc _ _)
  clear h1 s0 s1 s2 s3 s4 sl
  obtain ⟨s0, s1, s2, s3, s4, sl⟩ := H1.out.step 0 rfl
  simp only at s0 s1 s2 s3 s4
  go_wp2_with fail
  refine (knextO 3 H2.out rfl (x1, x2) e HP.out).mono ?_
  rintro r w3 ⟨rfl, h3⟩
  have H3 : Hid (OSt W [rowOb w1.heap.size (.cells #[.int .i64 x1, .int .u8 x2] 64 (0, 0)) (nz (by decide)), stOb w.heap.size ⟨2, t, n, b, .slice A l.length c, l⟩, tkOb g T1, ktOb g' T1] w3) := Lib.hid h3
  have H4 : Hid (OSt W [rowOb w3.heap.size (.cells #[.int .i64 x1, .int .u8 x2] 115 (0, 0)) (nz (by decide)), rowOb w1.heap.size (.cells #[.int .i64 x1, .int .u8 x2] 64 (0, 0)) (nz (by decide)), stOb w.heap.size ⟨2, t, n, b, .slice A l.length c, l⟩, tkOb g T1, ktOb g' T1] (w3.alloc (.cells #[.int .i64 x1, .int .u8 x2] 115 (0, 0)))) := Lib.hid (H3.out.alloc _ _)
  obtain ⟨u0, u1, -, ul⟩ := blk2 (H3.out.get 0 rfl)
  clear h3 s0 s1 s2 s3 s4 sl
  obtain ⟨s0, s1, s2, s3, s4, sl⟩ := H3.out.step 1 rfl
  simp only at s0 s1 s2 s3 s4
  go_wp2
  go_ret
  exact ⟨T1, rfl, ((H4.out.dropI 0).dropI 0).dropI 0, by omega⟩
set_option maxHeartbeats 4000000 in
theorem one_nexts (h : OSt W [tkOb g T, ktOb g' T] w) (x : StE) (hx : x.Ok W) (hl : x.l.length ≤ 20) (hk : x.k = 8) :
    Calls Try.prog 46 #[.pointer (some ⟨g, 0, none⟩), .pointer (some ⟨g', 0, none⟩), .agg #[.int .u8 x.k, .int .i64 x.t, .int .i64 x.n, .bool x.b, x.wv]] w (OneP W g g' T) := by
  obtain ⟨k, t, n, b, wv, l⟩ := x
  obtain ⟨A, c, hwv⟩ := hx.r.form
  simp only at hwv hk hl ⊢
  subst hwv
  have HX := Lib.hid hx
  have HB : Hid (OSt W [stOb w.heap.size ⟨k, t, n, b, .slice A l.length c, l⟩, tkOb g T, ktOb g' T] (w.alloc (.cells #[.int .u8 k, .int .i64 t, .int .i64 n, .bool b, .slice A l.length c] 61 (0, 0)))) := Lib.hid (h.alloc (stO ⟨k, t, n, b, .slice A l.length c, l⟩) (stO_nz _))
  subst hk
  obtain ⟨s0, s1, s2, s3, s4, sl⟩ := HB.out.step 0 rfl
  simp only at s0 s1 s2 s3 s4
  obtain ⟨⟨T1, ⟨x1, x2⟩, e⟩, hp⟩ : ∃ p, T.next = p := ⟨_, rfl⟩
  have hcn := next_cnt hp
  have HP := Lib.hid hp
  clear h hx hp
  go_enter Try.func46, Try.ntmps46
  go_wp2_with fail
  refine (tnextO 1 HB.out rfl (x1, x2) e HP.out).mono ?_
  rintro r w1 ⟨rfl, h1⟩
  have H1 : Hid (OSt W [stOb w.heap.size ⟨8, t, n, b, .slice A l.length c, l⟩, tkOb g T1, ktOb g' T] w1) := Lib.hid h1
  have H2 : Hid (OSt W [rowOb w1.heap.size (.cells #[.int .i64 x1, .int .u8 x2] 64 (0, 0)) (nz (by decide)), stOb w.heap.size ⟨8, t, n, b, .slice A l.length c, l⟩, tkOb g T1, ktOb g' T] (w1.alloc (.cells #[.int .i64 x1, .int .u8 x2] 64 (0, 0)))) := Lib.hid (H1.out.alloc _ _)
  clear h1 s0 s1 s2 s3 s4 sl
  obtain ⟨s0, s1, s2, s3, s4, sl⟩ := H1.out.step 0 rfl
  simp only at s0 s1 s2 s3 s4
  go_wp2_with fail
  refine (knextO 3 H2.out rfl (x1, x2) e HP.out).mono ?_
  rintro r w3 ⟨rfl, h3⟩
  have H3 : Hid (OSt W [rowOb w1.heap.size (.cells #[.int .i64 x1, .int .u8 x2] 64 (0, 0)) (nz (by decide)), stOb w.heap.size ⟨8, t, n, b, .slice A l.length c, l⟩, tkOb g T1, ktOb g' T1] w3) := Lib.hid h3
  have H4 : Hid (OSt W [rowOb w3.heap.size (.cells #[.int .i64 x1, .int .u8 x2] 115 (0, 0)) (nz (by decide)), rowOb w1.heap.size (.cells #[.int .i64 x1, .int .u8 x2] 64 (0, 0)) (nz (by decide)), stOb w.heap.size ⟨8, t, n, b, .slice A l.length c, l⟩, tkOb g T1, ktOb g' T1] (w3.alloc (.cells #[.int .i64 x1, .int .u8 x2] 115 (0, 0)))) := Lib.hid (H3.out.alloc _ _)
  obtain ⟨u0, u1, -, ul⟩ := blk2 (H3.out.get 0 rfl)
  clear h3 s0 s1 s2 s3 s4 sl
  obtain ⟨s0, s1, s2, s3, s4, sl⟩ := H3.out.step 1 rfl
  simp only at s0 s1 s2 s3 s4
  by_cases he : e = 0
  · subst he
    have KU := Lib.hid (use_any 3 4 (by decide) H4.out rfl rfl (x1, x2) (by have h := next_mem HP.out; rw [can_lastN HP.out]; exact h) b)
    have hcu := useT_cnt T1 (x1, x2) b
    clear s1 s2 s4
    go_wp2_with (go_at_call 67; refine KU.out.mono ?_; rintro r w5 ⟨rfl, h5⟩; have H5 := Lib.hid h5; clear h5)
    go_ret
    exact ⟨useT T1 (x1, x2) b, rfl, ((H5.out.dropI 0).dropI 0).dropI 0, by omega⟩
  · have heb : (e != 0) = true := by simpa using he
    clear he
    go_wp2
    go_ret
    exact ⟨T1, rfl, ((H4.out.dropI 0).dropI 0).dropI 0, by omega⟩
end
end
end Go.Proofs.Ytiihlbaajopllaa
