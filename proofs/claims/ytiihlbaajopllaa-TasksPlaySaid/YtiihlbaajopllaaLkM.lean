/- Walks of locks: Drop's closure. -/
import Derived.Test.YtiihlbaajopllaaLkL
set_option linter.unusedVariables false
set_option maxRecDepth 100000
namespace Go.Proofs.Ytiihlbaajopllaa
open Go.RowKit

theorem ptrAt_set {ns : List Nd} {k : Nat} {x : Nd} (hx : ns[k]? = some x) (b : Bool) (i : Nat) : ptrAt (ns.set k { x with has := b }) i = ptrAt ns i := by
  have hk := (List.getElem?_eq_some_iff.1 hx).1
  unfold ptrAt
  by_cases e : k = i
  · subst e
    rw [hx, List.getElem?_set_self hk]
    rfl
  · rw [List.getElem?_set_ne e]
theorem set_cases {ns : List Nd} {k i : Nat} {x y : Nd} {b : Bool} (hx : ns[k]? = some x) (h : (ns.set k { x with has := b })[i]? = some y) : (i = k ∧ y = { x with has := b }) ∨ (i ≠ k ∧ ns[i]? = some y) := by
  have hk := (List.getElem?_eq_some_iff.1 hx).1
  by_cases e : k = i
  · subst e
    rw [List.getElem?_set_self hk] at h
    exact .inl ⟨rfl, (Option.some.inj h).symm⟩
  · rw [List.getElem?_set_ne e] at h
    exact .inr ⟨Ne.symm e, h⟩
theorem LkP.sethas {W : World} {S : Nat → Prop} {g k : Nat} {ns : List Nd} {x : Nd} (h : LkP W S g ns) (hx : ns[k]? = some x) (b : Bool) :
    LkP (W.setRow x.a #[.int .i64 x.p.1, x.wv, .bool b, ptrAt ns (k + 1)]) S g (ns.set k { x with has := b }) where
  hg := by
    rw [ptrAt_set hx, setRow_other _ _ _ _ (fun e => by have := h.nd k x hx; rw [← e, h.hg] at this; simp at this)]
    exact h.hg
  nd := fun i y hy => by
    rw [ptrAt_set hx]
    rcases set_cases hx hy with ⟨rfl, rfl⟩ | ⟨hne, hy'⟩
    · exact setRow_heap _ _ _ _ _ _ (h.nd _ _ hx)
    · rw [setRow_other _ _ _ _ (fun e => hne (h.inj i k y x hy' hx e))]
      exact h.nd i y hy'
  wn := fun i y hy => by
    rcases set_cases hx hy with ⟨rfl, rfl⟩ | ⟨hne, hy'⟩
    · exact (h.wn _ x hx).set (h.nd _ x hx) (by decide)
    · exact (h.wn i y hy').set (h.nd k x hx) (by decide)
  inj := fun i j y z hy hz e => by
    rcases set_cases hx hy with ⟨rfl, rfl⟩ | ⟨hi, hy'⟩ <;> rcases set_cases hx hz with ⟨rfl, rfl⟩ | ⟨hj, hz'⟩
    · rfl
    · exact h.inj _ _ x z hx hz' e
    · exact h.inj _ _ y x hy' hx e
    · exact h.inj i j y z hy' hz' e
  sg := h.sg
  sa := fun i y hy => by
    rcases set_cases hx hy with ⟨rfl, rfl⟩ | ⟨hne, hy'⟩
    · exact (h.sa _ x hx :)
    · exact h.sa i y hy'
  sw := fun i y hy => by
    rcases set_cases hx hy with ⟨rfl, rfl⟩ | ⟨hne, hy'⟩
    · exact (h.sw _ x hx :)
    · exact h.sw i y hy'
  len := by simpa using h.len
  wl := fun i y hy => by
    rcases set_cases hx hy with ⟨rfl, rfl⟩ | ⟨hne, hy'⟩
    · exact (h.wl _ x hx :)
    · exact h.wl i y hy'
theorem set_same {ns : List Nd} {k : Nat} {x : Nd} (hx : ns[k]? = some x) : ns.set k { x with has := x.has } = ns := by
  obtain ⟨hk, rfl⟩ := List.getElem?_eq_some_iff.1 hx
  exact List.set_getElem_self hk
/-- May the one at a place have its wants? -/
theorem may_at {S : Nat → Prop} {g k : Nat} {ns : List Nd} {x : Nd} (W : World) (h : LkP W S g ns) (hx : ns[k]? = some x) :
    Calls Try.prog 54 #[.pointer (some ⟨g, 0, none⟩), .pointer (some ⟨x.a, 0, none⟩)] W fun e w' => e = .returned (.bool (mayB ((ns.map (·.p)).take k) x.p.2)) ∧ Below W.heap.size W w' := by
  have hk := (List.getElem?_eq_some_iff.1 hx).1
  have := h.wl k x hx
  refine may_any k W h (h.pt hx) (by omega) (by omega) (fun j y hj hy e => ?_) (fun y hy => by rw [hx] at hy; cases hy; rfl)
  have := h.inj j k y x hy hx e
  omega
def dropped (x : Nd) (b : Bool) : List Value := if !x.has && b then [.int .i64 x.p.1] else []
theorem drop1_has {S : Nat → Prop} {g k tb lb : Nat} {ns : List Nd} {x : Nd} (W : World) (h : LkP W S g ns) (hx : ns[k]? = some x) (hh : x.has = true) :
    Calls Try.prog 56 #[.pointer (some ⟨x.a, 0, none⟩), .pointer (some ⟨tb, 0, none⟩), .pointer (some ⟨lb, 0, none⟩)] W fun e W' => e = .returned (.bool true) ∧ W = W' := by
  obtain ⟨c0, c1, c2, c3, cf, cl⟩ := blk4 (h.nd k x hx)
  rw [hh] at c2
  clear h hx hh
  go_enter Try.func56, Try.ntmps56
  go_wp2
  go_ret
  exact ⟨rfl, rfl⟩
theorem drop1_not {S : Nat → Prop} {g k tb lb : Nat} {ns : List Nd} {x : Nd} (W : World) (h : LkP W S g ns) (hx : ns[k]? = some x) (hh : x.has = false) (hb : mayB ((ns.map (·.p)).take k) x.p.2 = false) (ht : W.heap[tb]? = some (.cells #[.pointer (some ⟨g, 0, none⟩)] 25 (0, 0))) :
    Calls Try.prog 56 #[.pointer (some ⟨x.a, 0, none⟩), .pointer (some ⟨tb, 0, none⟩), .pointer (some ⟨lb, 0, none⟩)] W fun e W' => e = .returned (.bool true) ∧ Ext W W' := by
  have K := Lib.hid (may_at W h hx)
  rw [hb] at K
  obtain ⟨c0, c1, c2, c3, cf, cl⟩ := blk4 (h.nd k x hx)
  obtain ⟨t0, tf, tl⟩ := blk1 ht
  rw [hh] at c2
  clear h hx hh hb ht
  go_enter Try.func56, Try.ntmps56
  go_wp2_with (go_at_call 54; refine K.out.mono ?_; rintro e w1 ⟨rfl, h1⟩)
  go_ret
  exact ⟨rfl, h1⟩
set_option maxHeartbeats 1000000 in
theorem drop1_told {S : Nat → Prop} {g k tb lb B m : Nat} {ns : List Nd} {x : Nd} {v : Value} {cs : List Value} (W : World) (h : LkP W S g ns) (hx : ns[k]? = some x) (hh : x.has = false) (hb : mayB ((ns.map (·.p)).take k) x.p.2 = true) (ht : W.heap[tb]? = some (.cells #[.pointer (some ⟨g, 0, none⟩)] 25 (0, 0)))
    (hl : W.heap[lb]? = some (.cells #[v] 28 (0, 0))) (ho : OwnR W B 3 1 One v m cs) (hB : B ≤ W.heap.size) (hlB : B ≤ lb) (hm : m ≤ 1000000) :
    Calls Try.prog 56 #[.pointer (some ⟨x.a, 0, none⟩), .pointer (some ⟨tb, 0, none⟩), .pointer (some ⟨lb, 0, none⟩)] W fun e W' => e = .returned (.bool true) ∧
      LkP W' S g (ns.set k { x with has := true }) ∧ W'.heap[tb]? = some (.cells #[.pointer (some ⟨g, 0, none⟩)] 25 (0, 0)) ∧ Mut (fun i => i = x.a ∨ B ≤ i) W W' ∧ ∃ v', W'.heap[lb]? = some (.cells #[v'] 28 (0, 0)) ∧ OwnR W' B 3 1 One v' (m + 1) (cs ++ [.int .i64 x.p.1]) := by
  have K := Lib.hid (may_at W h hx)
  rw [hb] at K
  have hnd := h.nd k x hx
  obtain ⟨c0, c1, c2, c3, cf, cl⟩ := blk4 hnd
  obtain ⟨t0, tf, tl⟩ := blk1 ht
  obtain ⟨A, c, rfl⟩ := ho.form
  rw [hh] at c2
  have HH := Lib.hid h
  have HX := Lib.hid hx
  have HND := Lib.hid hnd
  have HT := Lib.hid ht
  have HL := Lib.hid hl
  have HO := Lib.hid ho
  clear h hx hh hb ht hl ho hnd
  go_enter Try.func56, Try.ntmps56
  go_wp2_with (go_at_call 54; refine K.out.mono ?_; rintro e w1 ⟨rfl, h1⟩; have hn1 := Ext.blk h1 HND.out; have st := set4_2 (.bool true) hn1; have p2 := (blk4 hn1).2.2.1; have pf := (blk4 hn1).2.2.2.2.1)
  have hP2 := (HH.out.ext h1).sethas HX.out true
  have hn2 := setRow_heap w1 x.a _ #[.int .i64 x.p.1, x.wv, .bool true, ptrAt ns (k + 1)] _ _ hn1
  have hne1 : tb ≠ x.a := fun e => by have := HT.out; rw [e, HND.out] at this; simp at this
  have hne2 : lb ≠ x.a := fun e => by have := HL.out; rw [e, HND.out] at this; simp at this
  have ht2 := (setRow_other w1 x.a tb #[.int .i64 x.p.1, x.wv, .bool true, ptrAt ns (k + 1)] hne1).trans (Ext.blk h1 HT.out)
  have hl2 := (setRow_other w1 x.a lb #[.int .i64 x.p.1, x.wv, .bool true, ptrAt ns (k + 1)] hne2).trans (Ext.blk h1 HL.out)
  have ho2 := (HO.out.ext h1).set (row' := #[.int .i64 x.p.1, x.wv, .bool true, ptrAt ns (k + 1)]) hn1 (by decide)
  have hM2 : Mut (fun i => i = x.a ∨ B ≤ i) W (w1.setRow x.a #[.int .i64 x.p.1, x.wv, .bool true, ptrAt ns (k + 1)]) := (Mut.of_ext h1).trans (mut_setRow (S := fun i => i = x.a ∨ B ≤ i) (.inl rfl) _)
  obtain ⟨l0, lf, ll⟩ := blk1 hl2
  obtain ⟨d0, d1, d2, d3, df, dl⟩ := blk4 hn2
  have HP2 := Lib.hid hP2
  have HT2 := Lib.hid ht2
  have HL2 := Lib.hid hl2
  have HO2 := Lib.hid ho2
  have HM2 := Lib.hid hM2
  have hs2 := hM2.size
  clear hP2 hn2 ht2 hl2 ho2 hM2 h1 hn1 st p2 pf c0 c1 c2 c3 cf t0 tf tl d1 d2 d3 df lf
  generalize w1.setRow x.a #[.int .i64 x.p.1, x.wv, .bool true, ptrAt ns (k + 1)] = V at *
  have e0 : ∀ ψ (e : ExtP V.heap.size V ψ), e.val.cell? ⟨x.a, 0, none⟩ = some (.int .i64 x.p.1) := fun ψ e => e.cell d0 dl
  have e1 : ∀ ψ (e : ExtP V.heap.size V ψ), e.val.cell? ⟨lb, 0, none⟩ = some (.slice A m c) := fun ψ e => e.cell l0 ll
  refine wp_region_pieces 6  [(true, [0, 1, 2, 3, 4]), (false, [5])] (by kernel_rfl) (by kernel_rfl) ?_; simp only [pick, List.map_cons, List.map_nil, List.flatMap_cons, List.flatMap_nil, Option.toList_some, List.singleton_append, List.drop_succ_cons, List.drop_zero, List.getElem?_cons_zero, List.getElem?_cons_succ]
  refine ⟨by kernel_rfl, ?_⟩; apply Exists.intro; refine ⟨fun ψ hψ hne => (by (repeat (go_big_quiet_step (( fail )))); exact wpQuiet_nil rfl), ?_⟩
  intro W0 h0 K hK
  clear e0 e1 d0 dl l0 ll
  go_wp2_with fail
  refine hK _ _ (extAl _ _) ?_
  intro W1 h01
  have hx := extAl W0 (.cells #[.int .i64 x.p.1] 3)
  have h1 : Ext V W1 := Ext.trans (Ext.trans h0 hx) h01
  have hw1 := Below.size h1
  have hgn := Ext.blk h01 (heap_alloc_last W0 (.cells #[.int .i64 x.p.1] 3))
  have hsrc : Src Try.prog 1 28 (.slice (some ⟨W0.heap.size, 0, none⟩) 1 1) 1 [.int .i64 x.p.1] W1 := src_row Try.underlying28 hgn rfl (by intro u hu; simp at hu; subst hu; rfl)
  obtain ⟨v', W2, hr, ho3, hb3, hg3, -⟩ := app_int (ty := 28) (HO2.out.ext h1) hsrc (by omega) (by intro u hu; simp at hu; subst hu; rfl) (by omega)
  have hl1 := Ext.blk h1 HL2.out
  have ht1 := Ext.blk h1 HT2.out
  have hoe := HO2.out.ext h1
  have hnl := own_ne hoe hl1 (by decide)
  have hnt := own_ne hoe ht1 (by decide)
  have hl3 := (hg3.block lb (Array.getElem?_eq_some_iff.1 hl1).1 (Ne.symm hnl)).trans hl1
  have ht3 := (hg3.block tb (Array.getElem?_eq_some_iff.1 ht1).1 (Ne.symm hnt)).trans ht1
  obtain ⟨A2, c2, rfl⟩ := ho3.form
  have st := Lib.hid (set1_0 (.slice A2 (m + 1) c2) hl3)
  have hlt : tb ≠ lb := fun e => by rw [e, hl3] at ht3; simp at ht3
  have F1 := Lib.hid (setRow_heap W2 lb _ #[.slice A2 (m + 1) c2] _ _ hl3)
  have F2 := Lib.hid ((setRow_other W2 lb tb #[.slice A2 (m + 1) c2] hlt).trans ht3)
  have F3 := Lib.hid (ho3.set (row' := #[.slice A2 (m + 1) c2]) hl3 (by decide))
  have hM3 : Mut (fun i => i = x.a ∨ B ≤ i) V (W2.setRow lb #[.slice A2 (m + 1) c2]) := ((Mut.of_ext h1).trans (Mut.of_grown hg3 fun b hb => .inr (own_lt hoe hb).1)).trans (mut_setRow (S := fun i => i = x.a ∨ B ≤ i) (.inr hlB) _)
  have F4 := Lib.hid (HM2.out.trans hM3)
  have F5 : Hid (LkP (W2.setRow lb #[.slice A2 (m + 1) c2]) S g (ns.set k { x with has := true })) := Lib.hid (by
    have q1 := HP2.out.ext h1
    refine { q1 with hg := ?_, nd := ?_, wn := ?_ }
    · rw [setRow_other _ _ _ _ (fun e => by have := q1.hg; rw [e, hl1] at this; simp at this)]
      exact (hg3.block g (Array.getElem?_eq_some_iff.1 q1.hg).1 (Ne.symm (own_ne hoe q1.hg (by decide)))).trans q1.hg
    · intro i y hy
      rw [setRow_other _ _ _ _ (fun e => by have := q1.nd i y hy; rw [e, hl1] at this; simp at this)]
      exact (hg3.block y.a (Array.getElem?_eq_some_iff.1 (q1.nd i y hy)).1 (Ne.symm (own_ne hoe (q1.nd i y hy) (by decide)))).trans (q1.nd i y hy)
    · intro i y hy
      have q2 := q1.wn i y hy
      have q3 := q2.mutO (Mut.of_grown hg3 (S := fun b => (Value.slice A m c).ownBlock = some b) fun b hb => hb) (fun b hb hb2 => own_own q2 hoe hb hb2 (by decide))
      exact q3.set hl3 (by decide))
  have Hr := Lib.hid hr
  obtain ⟨f0, ff, fl⟩ := blk1 hl3
  clear hr ho3 hb3 hg3 hsrc hgn hl1 ht1 hoe hnl hnt hl3 ht3 hM3 h01 h0 h1 hx
  go_wp2_with (refine wpList_app rfl (.tmp 18) (.tmp 23) 28 28 rfl Hr.out ?_; simp only [Act.put])
  rw [st.out]
  go_ret
  exact ⟨rfl, F5.out, F2.out, F4.out, _, F1.out, F3.out⟩
end Go.Proofs.Ytiihlbaajopllaa
