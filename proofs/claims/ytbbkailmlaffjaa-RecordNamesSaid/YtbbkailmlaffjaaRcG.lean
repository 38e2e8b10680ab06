/- Records: Feed. -/
import Derived.Test.YtbbkailmlaffjaaRcF
set_option linter.unusedVariables false
set_option maxRecDepth 100000
namespace Go.Proofs.Ytbbkailmlaffjaa
open Go.RowKit
attribute [local go_sem] Oper.semAt_some

theorem wpListIn_app {F : Fence} {n : Nat} {P : Program} {ops : Array Oper} {rest : List Oper} {o : Oper} {a : Act} {w : World} {Q : Exit → Act → World → Prop} (hgd : o.guard = none) (s x : Operand) (t tx : TypeId) (ho : o.op = .call { callee := .builtin .append, args := #[s, x], argTypes := #[t, tx] }) {v' : Value} {w' : World}
    (hr : (Builtin.append_ #[t, tx] o.type #[a.eval s, a.eval x]).run P w = .ok v' w') (h : wpListIn F n P ops Q rest (a.put o.dst v') w') : wpListIn F n P ops Q (o :: rest) a w := by
  refine wpListIn_plain hgd fun K hK => ?_
  unfold Oper.wpIn
  refine ⟨by simp [Oper.about, ho, resolve, Target.leads, Sem.run_pure], ?_⟩
  rw [Oper.semAt_plain F _ _ (by rw [ho]; intro c hc'; cases hc')]
  simp [execOp, ho, resolve, invoke, builtin, hr, Result.andThen]
  exact hK _ _ h
theorem records_any {g : Nat} {v : Value} (h1 : One v) (w : World) : Calls Try.prog 22 #[.pointer (some ⟨g, 0, none⟩), v] w fun e w' => e = .returned (.func (.func 27) #[] #[.pointer (some ⟨w.heap.size + 1, 0, none⟩), .pointer (some ⟨w.heap.size, 0, none⟩)]) ∧ w' = (w.alloc (.cells #[.pointer (some ⟨g, 0, none⟩)] 24)).alloc (.cells #[v] 22) := by
  have h1 : v.oneCell' = true := h1
  go_enter Try.func22, Try.ntmps22
  go_wp2
  go_ret
  exact ⟨rfl, rfl⟩
theorem Jr.done {w W : World} {S : Nat → Prop} {g : Nat} {st : Rc} {chv : Value} {rest : List UInt8} {xs : List (List UInt8)} {o : Obj} {tv : Value} (h : Jr w S g st chv rest xs o W) (hr : OwnR W w.heap.size 9 1 One tv xs.length (svs xs)) :
    OwnR (W.putObj (w.heap.size + 3) (.deferred none)) w.heap.size 9 1 One tv xs.length (svs xs) ∧ To S w (W.putObj (w.heap.size + 3) (.deferred none)) (rcOb g st) := by
  have k : Mut (fun i => i = w.heap.size + 3) W (W.putObj (w.heap.size + 3) (.deferred none)) := Mut.of_grown (grownBy_putObj' W (w.heap.size + 3) (.deferred none)) fun b hb => by simpa using hb.symm
  obtain ⟨h1, h2⟩ := h.stay k (fun i o' hi ho => by subst hi; rw [h.hD] at ho; cases ho; exact fun h => h) (fun i hi => by omega)
  refine ⟨hr.mutO k fun b hb e => ?_, (rcOb g st).mono h1 fun i hi => hi.1, h2⟩
  obtain ⟨cs, hc⟩ := own_blk hr hb
  subst e
  rw [h.hD] at hc
  cases hc
set_option maxHeartbeats 4000000 in
theorem Feed_any {S : Nat → Prop} {g : Nat} {st0 : Rc} {A : Option Addr} {c : Nat} {ch : List UInt8} (w : World) (q : RcAt w S g st0) (hok : st0.Ok) (hch : RS w (.slice A ch.length c) ch) (hcn : ∀ b off n' c', Value.slice A ch.length c = .slice (some ⟨b, off, none⟩) n' c' → ¬ S b) (hcl : ch.length ≤ 10000000) (hhl : st0.held + ch.length ≤ 1000000000000) :
    Calls Try.prog 10 #[.pointer (some ⟨g, 0, none⟩), .slice A ch.length c] w fun e w' => ∃ tv, e = .returned (.tuple #[tv, .int .i64 (if (feed st0 ch).1.shut then 40 else 0)]) ∧ OwnR w' w.heap.size 9 1 One tv (feed st0 ch).2.length (svs (feed st0 ch).2) ∧ To S w w' (rcOb g (feed st0 ch).1) := by
  obtain ⟨E, hE⟩ : ∃ E : Int, (if (feed st0 ch).1.shut then (40 : Int) else 0) = E := ⟨_, rfl⟩
  rw [hE]
  have HE := Lib.hid hE
  clear hE
  have Q := Lib.hid q
  have HCH := Lib.hid hch
  have HCN := Lib.hid hcn
  have HOK := Lib.hid hok
  clear q hch hcn hok
  refine (callsIn_wide (n := 4)).1 ?_
  refine callsIn_of_wp_marks Try.func10 rfl trivial ?_ rfl
  refine wpIn_wide.2 ?_
  simp only [Try.ntmps10, List.size_toArray, List.length_cons, List.length_nil, Nat.reduceAdd, Nat.reduceSub, Array.replicate_succ, Array.replicate_zero, List.push_toArray, List.append_toArray, List.nil_append, List.cons_append]
  go_wp2_with (go_at_call 22; refine (records_any (g := g) (v := .slice A ch.length c) rfl _).mono ?_; rintro e w3 ⟨rfl, rfl⟩)
  obtain ⟨w3, hw3⟩ : ∃ w3, ((w.alloc (.cells #[.slice none 0 0] 26)).alloc (.cells #[.pointer (some ⟨g, 0, none⟩)] 24)).alloc (.cells #[.slice A ch.length c] 22) = w3 := ⟨_, rfl⟩
  have hsz : w3.heap.size = w.heap.size + 3 := by rw [← hw3]; simp
  have x1 := extAl w (.cells #[.slice none 0 0] 26)
  have x2 := extAl (w.alloc (.cells #[.slice none 0 0] 26)) (.cells #[.pointer (some ⟨g, 0, none⟩)] 24)
  have x3 := extAl ((w.alloc (.cells #[.slice none 0 0] 26)).alloc (.cells #[.pointer (some ⟨g, 0, none⟩)] 24)) (.cells #[.slice A ch.length c] 22)
  have t0 := Ext.blk x3 (Ext.blk x2 (heap_alloc_last w (.cells #[.slice none 0 0] 26)))
  have t1 := Ext.blk x3 (heap_alloc_last (w.alloc (.cells #[.slice none 0 0] 26)) (.cells #[.pointer (some ⟨g, 0, none⟩)] 24))
  have t2 := heap_alloc_last ((w.alloc (.cells #[.slice none 0 0] 26)).alloc (.cells #[.pointer (some ⟨g, 0, none⟩)] 24)) (.cells #[.slice A ch.length c] 22)
  have xx := Ext.trans (Ext.trans x1 x2) x3
  rw [hw3] at t0 t1 t2 xx
  simp only [World.size_alloc] at t1 t2
  clear x1 x2 x3
  have H0 : Hid (∀ r : Loop, Jr w S g st0 (.slice A ch.length c) ch [] (.loop r) ((w3.alloc (.deferred (some []))).alloc (.loop r))) := Lib.hid fun r => by
    have y1 := extAl w3 (.deferred (some []))
    have y2 := extAl (w3.alloc (.deferred (some []))) (.loop r)
    have yy := Ext.trans y1 y2
    have xy := Ext.trans xx yy
    exact
      { rc := (rcOb g st0).mono ((rcOb g st0).trim ((rcOb g st0).ext Q.out xy)) fun i hi => ⟨.inl hi.1, hi.2⟩
        m := Mut.of_ext xy
        hcb := Ext.blk yy t2
        hrb := Ext.blk yy t1
        ht := ⟨_, Ext.blk yy t0, OwnR.nil⟩
        hl := by rw [← hsz]; exact World.alloc_heap_new (w3.alloc (.deferred (some []))) (.loop r) |> fun h => by simpa using h
        hD := by rw [← hsz]; exact Ext.blk y2 (World.alloc_heap_new w3 _)
        ch := HCH.out, cn := HCN.out, ol := ⟨r, rfl⟩ }
  clear t0 t1 t2 xx
  rw [hw3]
  clear hw3
  refine (wpIn_wide (n := 4)).1 ?_
  refine wpIn_rangeFunc_st rfl (by decide) (gf := 27) (lb := #[.pointer (some ⟨w.heap.size + 2, 0, none⟩), .pointer (some ⟨w.heap.size + 1, 0, none⟩)]) rfl trivial (enters_of Try.func27 (by kernel_rfl) rfl) (encs := fun x => #[.string (str x)]) (fun _ => rfl)
    (fun (s : Rc × Value × List UInt8) xs o W => Jr w S g s.1 s.2.1 s.2.2 xs o W) ?_ ?_ (st0, .slice A ch.length c, ch) ?_ (fun xs s => feed st0 ch = (s.1, xs)) ch.length ?_ ?_ ?_ ?_ ?_
  · rintro s xs o W hj
    rw [hsz]
    exact ⟨hj.hl, hj.hD⟩
  · rintro s xs r r' W hj
    rw [hsz]
    exact hj.turnO
  · exact H0.out
  · rintro o hy W hj
    rw [hsz] at hy ⊢
    refine callsIn_wide.2 (records1_any HOK.out (by omega) (by omega) hy hj)
  · exact fun x => { tmps := #[.pointer (some ⟨g, 0, none⟩), .slice A ch.length c, undef, undef, .slice none 0 0, .int .i64 0, .pointer (some ⟨w.heap.size, 0, none⟩), .string (str x), .pointer (some ⟨g, 0, none⟩), .bool false, .pointer (some ⟨g, 0, none⟩), .slice A ch.length c, .func (.func 27) #[] #[.pointer (some ⟨w.heap.size + 2, 0, none⟩), .pointer (some ⟨w.heap.size + 1, 0, none⟩)], .string (str x), undef, undef, undef, undef, undef, undef, undef, undef, undef, undef], defers := [] }
  · intro l x W K hK
    simp only
    gi_wp2
    exact hK
  · intro s pre x o W hj hlen
    obtain ⟨A', c', ht, tv', W2, hr, ht2, hj2⟩ := hj.put x (by omega)
    clear hj
    rw [hsz]
    obtain ⟨k0, kf, kl⟩ := blk1 ht
    obtain ⟨m0, mf, ml⟩ := blk1 ht2
    obtain ⟨tv2, e1, e2⟩ := hj2.ht
    rw [setRow_heap _ _ _ _ _ _ ht2] at e1
    simp only [Option.some.injEq, Obj.cells.injEq, and_true] at e1
    cases e1
    obtain ⟨A2, c2, rfl⟩ := e2.form
    have HJ2 := Lib.hid hj2
    clear e2 hj2
    have ST : Hid (W2.setCell ⟨w.heap.size, 0, none⟩ (.slice A2 (pre ++ [x]).length c2) = W2.setRow w.heap.size #[.slice A2 (pre ++ [x]).length c2]) := Lib.hid (setCell_eq_setRow W2 _ 0 _ _ (0, 0) _ ht2)
    clear ht ht2
    gi_wp2_with (gi_at_builtin; refine wpListIn_app rfl (.tmp 14) (.tmp 16) 26 26 rfl hr ?_; simp only [Act.put])
    have hlen2 : (pre ++ [x]).length = pre.length + 1 := by simp
    have e := HJ2.out
    rw [← ST.out, hlen2] at e
    exact e
  · rintro xs s o W hS hj
    obtain ⟨hb, v, q, -⟩ := hj.field
    obtain ⟨-, -, -, -, -, c9, -, gl⟩ := rc_cells q.hg q.h4
    obtain ⟨tv, ht, hrow⟩ := hj.ht
    obtain ⟨A1, c1, rfl⟩ := hrow.form
    obtain ⟨t0, tf, tl⟩ := blk1 ht
    obtain ⟨s, chv, rest⟩ := s
    simp only at hS hj q c9
    have hj' := hj
    have HJ := Lib.hid hj
    have HR := Lib.hid hrow
    have HS := Lib.hid hS
    clear hj hrow hS q
    have hD := hj'.hD
    obtain ⟨D1, D2⟩ := hj'.done HR.out
    have HEE : Hid (∀ b : Bool, s.shut = b → E = if b then 40 else 0) := Lib.hid fun b hb => by rw [← HE.out, HS.out, ← hb]
    cases hs : s.shut with
    | true =>
      have hE : E = 40 := HEE.out _ hs
      subst hE
      rw [hs] at c9
      clear HE HEE
      go_wp2
      refine ⟨by simp, .inl ⟨_, _, rfl, run_takeDeferred (by rw [hsz]; exact hD), ?_⟩⟩
      refine ⟨_, results_tmp2 rfl _ _ _, _, rfl, ?_, ?_⟩
      · rw [hsz, HS.out]; exact D1
      · rw [hsz, HS.out]; exact D2
    | false =>
      have hE : E = 0 := HEE.out _ hs
      subst hE
      rw [hs] at c9
      clear HE HEE
      go_wp2
      refine ⟨by simp, .inl ⟨_, _, rfl, run_takeDeferred (by rw [hsz]; exact hD), ?_⟩⟩
      refine ⟨_, results_tmp2 rfl _ _ _, _, rfl, ?_, ?_⟩
      · rw [hsz, HS.out]; exact D1
      · rw [hsz, HS.out]; exact D2
end Go.Proofs.Ytbbkailmlaffjaa
