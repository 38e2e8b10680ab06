/- Walks of tasks: Replied, Clear. -/
import Derived.Test.YtiihlbaajopllaaTkD
set_option linter.unusedVariables false
set_option maxRecDepth 100000
namespace Go.Proofs.Ytiihlbaajopllaa
open Go.RowKit Go.MapKept

theorem filt_none {L : List Te} {n : Int} (h : ∀ e ∈ L, e.p.1 ≠ n) : L.filter (fun e => decide (e.p.1 ≠ n)) = L := by
  rw [List.filter_eq_self]
  intro e he
  simpa using h e he
theorem dropL_filt : ∀ (L : List Te) (n : Int), (L.map (·.p.1)).Nodup → dropL (lkL L) n = lkL (L.filter fun e => decide (e.p.1 ≠ n))
  | [], n, _ => rfl
  | a :: L, n, h => by
    simp only [List.map_cons, List.nodup_cons] at h
    have ih := dropL_filt L n h.2
    by_cases e : a.p.1 = n
    · have h1 : atL (lkL (a :: L)) n = some 0 := by simp [atL, lkL, List.findIdx?_cons, e]
      have h2 : ∀ x ∈ L, x.p.1 ≠ n := fun x hx hn => h.1 (by rw [e, ← hn]; exact List.mem_map.2 ⟨x, hx, rfl⟩)
      unfold dropL
      rw [h1, List.filter_cons_of_neg (by simp [e]), filt_none h2]
      rfl
    · rw [List.filter_cons_of_pos (by simp [e])]
      have h1 : atL (lkL (a :: L)) n = (atL (lkL L) n).map (· + 1) := by simp [atL, lkL, List.findIdx?_cons, e]
      unfold dropL at ih ⊢
      rw [h1]
      cases hx : atL (lkL L) n with
      | none =>
        rw [hx] at ih
        simp only [Option.map_none]
        show a.p :: lkL L = a.p :: lkL _
        exact congrArg (a.p :: ·) ih
      | some i =>
        rw [hx] at ih
        simp only [Option.map_some]
        show a.p :: (lkL L).eraseIdx i = a.p :: lkL _
        exact congrArg (a.p :: ·) ih
theorem findT_filt (L : List Te) (n a : Int) : findT (L.filter fun e => decide (e.p.1 ≠ n)) a = if a = n then none else findT L a := by
  unfold findT
  rw [List.find?_filter]
  by_cases e : a = n
  · subst e
    rw [if_pos rfl]
    rw [List.find?_eq_none]
    intro x _
    simp
  · rw [if_neg e]
    congr 1
    funext x
    by_cases k : x.p.1 = a
    · simp [k, e]
    · simp [k]
theorem stF_filt (L : List Te) (n a : Int) : del (stF L) n a = stF (L.filter fun e => decide (e.p.1 ≠ n)) a := by
  unfold del stF
  rw [findT_filt]
  split <;> rfl
theorem plF_filt (L : List Te) (n a : Int) : del (plF L) n a = plF (L.filter fun e => decide (e.p.1 ≠ n)) a := by
  unfold del plF
  rw [findT_filt]
  split <;> rfl
theorem Ok_filt {T : TK} (h : T.Ok) (p : Te → Bool) : TK.Ok { T with L := T.L.filter p } where
  nd := ((List.filter_sublist).map _).nodup h.nd
  n0 := fun e he => h.n0 e (List.mem_filter.1 he).1
  is := fun e he => h.is e (List.mem_filter.1 he).1
  pl := fun e he => h.pl e (List.mem_filter.1 he).1
  up := h.up.sublist List.filter_sublist
  len := Nat.le_trans (List.length_filter_le _ _) h.len
  c0 := h.c0
  l0 := h.l0
section
variable {S : Nat → Prop} {g : Nat} {T : TK}
set_option maxHeartbeats 2000000 in
theorem Replied_any (n : Int) (w : World) (h : TkAt w S g T) (hw : (Lit.int .i64 n).wf = true) :
    Calls Try.prog 37 #[.pointer (some ⟨g, 0, none⟩), .int .i64 n] w fun e w' => e = .returned (.int .i64 (T.replE n)) ∧ To S w w' (tkOb g (T.repl n)) := by
  have HT := Lib.hid (To.refl (D := tkOb g T) h)
  obtain ⟨⟨tg, ms, mp, h⟩, hok⟩ := h
  obtain ⟨c0, c1, -, -, -, -, hlt⟩ := blk5 h.hg
  have L1 := h.st.look (P := Try.prog) true (t := 103) Try.underlying103 Try.underlying3 (zero_u8 w) hw
  cases hf : findT T.L n with
  | none =>
    have hE : T.replE n = 5 := by unfold TK.replE; rw [hf]
    have hd : T.repl n = T := by unfold TK.repl; rw [if_neg (by rw [hE]; decide)]
    rw [hE, hd]
    have e1 : stF T.L n = none := by unfold stF; rw [hf]; rfl
    simp only [e1, if_true, Option.getD_none, Option.isSome_none] at L1
    have H1 := Lib.hid L1
    clear L1 h c0 hok hE hd e1 hf
    go_enter Try.func37, Try.ntmps37
    go_wp2_with (refine wpList_lk rfl 103 (.tmp 15) (.tmp 16) true rfl H1.out ?_; simp only [Act.put])
    go_ret
    exact ⟨rfl, HT.out⟩
  | some x =>
    obtain ⟨hx, hxn⟩ := findT_some hf
    have hxi := hok.is x hx
    have e1 : stF T.L n = some (.int .u8 (1 + x.is)) := by unfold stF; rw [hf]; rfl
    simp only [e1, if_true, Option.getD_some, Option.isSome_some] at L1
    by_cases h0 : x.is = 2
    case neg =>
      have hE : T.replE n = 50 := by unfold TK.replE; rw [hf]; simp [h0]
      have hd : T.repl n = T := by unfold TK.repl; rw [if_neg (by rw [hE]; decide)]
      rw [hE, hd]
      rcases hxi with hxi | hxi | hxi
      · rw [hxi] at L1
        have H1 := Lib.hid L1
        clear L1 h c0 hok hE hd e1 hf
        go_enter Try.func37, Try.ntmps37
        go_wp2_with (refine wpList_lk rfl 103 (.tmp 15) (.tmp 16) true rfl H1.out ?_; simp only [Act.put])
        go_ret
        exact ⟨rfl, HT.out⟩
      · rw [hxi] at L1
        have H1 := Lib.hid L1
        clear L1 h c0 hok hE hd e1 hf
        go_enter Try.func37, Try.ntmps37
        go_wp2_with (refine wpList_lk rfl 103 (.tmp 15) (.tmp 16) true rfl H1.out ?_; simp only [Act.put])
        go_ret
        exact ⟨rfl, HT.out⟩
      · exact absurd hxi h0
    rw [h0] at L1
    have H1 := Lib.hid L1
    have hE : T.replE n = 0 := by unfold TK.replE; rw [hf]; simp [h0]
    have hd : T.repl n = { T with L := T.L.filter fun e => decide (e.p.1 ≠ n) } := by unfold TK.repl; rw [if_pos hE]
    have hok' := Ok_filt hok fun e => decide (e.p.1 ≠ n)
    rw [hE, hd]
    have hde : dropE (lkL T.L) n = 0 := by unfold dropE; rw [atL_iff, hf]; rfl
    have hdl := dropL_filt T.L n hok.nd
    obtain ⟨S1, hl, hback⟩ := h.locks
    have K := Lib.hid ((Drop_any n w hl).mono fun r w' ⟨v, hr, ho, hT⟩ => Exists.intro v (And.intro hr (And.intro ho (hback _ _ hT))))
    rw [hde, hdl] at K
    have F : Hid (∀ w1, To S w w1 (tqOb g tg ms mp T.cnt T.last (lkL (T.L.filter fun e => decide (e.p.1 ≠ n))) (stF T.L) (plF T.L)) → w1.cell? ⟨g, 1, none⟩ = some (.map (some ms)) ∧ w1.cell? ⟨g, 2, none⟩ = some (.map (some mp)) ∧ g < w1.heap.size ∧
        ∃ w2, (∀ ty, (Builtin.delete_ #[103, 3] ty #[.map (some ms), .int .i64 n]).run Try.prog w1 = .ok (.tuple #[]) w2) ∧ w2.cell? ⟨g, 2, none⟩ = some (.map (some mp)) ∧ g < w2.heap.size ∧
        ∃ w3, (∀ ty, (Builtin.delete_ #[104, 3] ty #[.map (some mp), .int .i64 n]).run Try.prog w2 = .ok (.tuple #[]) w3) ∧ To S w w3 (tkOb g { T with L := T.L.filter fun e => decide (e.p.1 ≠ n) })) := Lib.hid fun w1 h1 => by
      obtain ⟨w2, hr2, hm2, hg2⟩ := h1.1.st.delete (P := Try.prog) (t := 103) Try.underlying103 Try.underlying3 hw 0
      have h2 := h1.trans (h1.1.mapS hm2 hg2)
      obtain ⟨w3, hr3, hm3, hg3⟩ := h2.1.pl.delete (P := Try.prog) (t := 104) Try.underlying104 Try.underlying3 hw 0
      have h3 := h2.trans (h2.1.mapP hm3 hg3)
      obtain ⟨-, d1, d2, -, -, -, dl⟩ := blk5 h1.1.hg
      obtain ⟨-, e1, e2, -, -, -, el⟩ := blk5 h2.1.hg
      exact ⟨d1, d2, dl, w2, fun ty => hr2, e2, el, w3, fun ty => hr3, h3.tk (T := { T with L := T.L.filter fun e => decide (e.p.1 ≠ n) }) (stF_filt T.L n) (plF_filt T.L n) hok'⟩
    clear L1 h hok hE hd e1 hf hxi h0 hok' hde hdl hl hback hx hxn HT
    generalize (T.L.filter fun e => decide (e.p.1 ≠ n)) = L' at *
    generalize (dropT (lkL T.L) n) = tl at *
    go_enter Try.func37, Try.ntmps37
    go_wp2_with (first | (refine wpList_lk rfl 103 (.tmp 15) (.tmp 16) true rfl H1.out ?_; simp only [Act.put]) | (go_at_call 15; refine K.out.mono ?_; rintro e w1 ⟨v, rfl, ho, h1⟩; obtain ⟨A, c, rfl⟩ := ho.form; obtain ⟨d1, d2, dl, w2, hr2, e2, el, w3, hr3, h3⟩ := F.out w1 h1; have R2 := Lib.hid hr2; have R3 := Lib.hid hr3; have X3 := Lib.hid h3; clear hr2 hr3 h3 h1 ho) | (refine wpList_del rfl (.tmp 39) (.tmp 40) 103 3 rfl (R2.out _) ?_; simp only [Act.put]; clear R2) | (refine wpList_del rfl (.tmp 44) (.tmp 45) 104 3 rfl (R3.out _) ?_; simp only [Act.put]))
    go_ret
    exact ⟨rfl, X3.out⟩
/-! Its parts, anew. -/
section
variable {tg ms mp : Nat} {c l : Int} {LT : List Tk} {F G : FI} {w w1 : World}
theorem TkQ.newL (h : TkQ w S g tg ms mp c l LT F G) (hE : Ext w w1) {tg' : Nat} {LT' : List Tk} (hl : (lkOb tg' LT').is w1 (fun i => w.heap.size ≤ i ∧ i < w1.heap.size)) :
    To S w (w1.setRow g #[.pointer (some ⟨tg', 0, none⟩), .map (some ms), .map (some mp), .int .i64 c, .int .i64 l]) (tqOb g tg' ms mp c l LT' F G) := by
  have h1 := h.ext hE
  have hlk : LkAt w1 (fun i => w.heap.size ≤ i ∧ i < w1.heap.size) tg' LT' := hl
  have hsz : (w1.setRow g #[.pointer (some ⟨tg', 0, none⟩), .map (some ms), .map (some mp), .int .i64 c, .int .i64 l]).heap.size = w1.heap.size := by simp [World.setRow]
  refine ⟨{ hg := setRow_heap _ _ _ _ _ _ h1.hg
            lk := (hlk.mutK (mut_setRow (S := fun i => i = g) rfl _) fun i o hi ho hk => ?_).monoS fun i hi => .inr (by rw [hsz]; exact hi)
            st := h1.st.set h1.hg
            pl := h1.pl.set h1.hg
            ne := h1.ne
            sg := .inl h.sg
            sm := .inl h.sm
            sp := .inl h.sp }, (Mut.of_ext hE).trans (mut_setRow h.sg _)⟩
  subst hi
  rw [h1.hg] at ho
  cases ho
  revert hk
  show ¬ (_ ∨ _ ∨ _)
  decide
theorem TkQ.newS (h : TkQ w S g tg ms mp c l LT F G) (hE : Ext w w1) {ms' : Nat} {F' : FI} (hm : MapI w1 ms' F') (hs : w.heap.size ≤ ms') :
    To S w (w1.setRow g #[.pointer (some ⟨tg, 0, none⟩), .map (some ms'), .map (some mp), .int .i64 c, .int .i64 l]) (tqOb g tg ms' mp c l LT F' G) := by
  have h1 := h.ext hE
  have hlt := hm.lt
  have hpl := h.pl.lt
  have hsz : ∀ r, (w1.setRow g r).heap.size = w1.heap.size := fun r => by simp [World.setRow]
  exact ⟨{ hg := setRow_heap _ _ _ _ _ _ h1.hg
           lk := (h1.lk.mutK (mut_setRow (S := fun i => i = g) rfl _) fun i o hi ho hk => by
             subst hi
             rw [h1.hg] at ho
             cases ho
             revert hk
             show ¬ (_ ∨ _ ∨ _)
             decide).monoS fun i hi => .inl hi
           st := hm.set h1.hg
           pl := h1.pl.set h1.hg
           ne := by omega
           sg := .inl h.sg
           sm := .inr ⟨hs, by rw [hsz]; exact hlt⟩
           sp := .inl h.sp }, (Mut.of_ext hE).trans (mut_setRow h.sg _)⟩
theorem TkQ.newP (h : TkQ w S g tg ms mp c l LT F G) (hE : Ext w w1) {mp' : Nat} {G' : FI} (hm : MapI w1 mp' G') (hs : w.heap.size ≤ mp') :
    To S w (w1.setRow g #[.pointer (some ⟨tg, 0, none⟩), .map (some ms), .map (some mp'), .int .i64 c, .int .i64 l]) (tqOb g tg ms mp' c l LT F G') := by
  have h1 := h.ext hE
  have hlt := hm.lt
  have hpl := h.st.lt
  have hsz : ∀ r, (w1.setRow g r).heap.size = w1.heap.size := fun r => by simp [World.setRow]
  exact ⟨{ hg := setRow_heap _ _ _ _ _ _ h1.hg
           lk := (h1.lk.mutK (mut_setRow (S := fun i => i = g) rfl _) fun i o hi ho hk => by
             subst hi
             rw [h1.hg] at ho
             cases ho
             revert hk
             show ¬ (_ ∨ _ ∨ _)
             decide).monoS fun i hi => .inl hi
           st := h1.st.set h1.hg
           pl := hm.set h1.hg
           ne := by omega
           sg := .inl h.sg
           sm := .inl h.sm
           sp := .inr ⟨hs, by rw [hsz]; exact hlt⟩ }, (Mut.of_ext hE).trans (mut_setRow h.sg _)⟩
end
theorem wpList_mm {P : Program} {ops : Array Oper} {rest : List Oper} {o : Oper} {a : Act} {w w' : World} {Q : Exit → Act → World → Prop} (hgd : o.guard = none) (t : TypeId) (ho : o.op = .makeMap t none) {v : Value} (hr : (Instr.makeMap t none).run P w = .ok v w')
    (h : wpList P ops Q rest (a.put o.dst v) w') : wpList P ops Q (o :: rest) a w :=
  wpList_plain hgd fun K hK => by unfold Oper.wp; simp [execOp, ho, hr, Result.andThen]; exact hK _ _ h
theorem Ok_clear {T : TK} (h : T.Ok) : T.clear.Ok := ⟨by simp [TK.clear], by simp [TK.clear], by simp [TK.clear], by simp [TK.clear], by simp [TK.clear], by simp [TK.clear], h.c0, h.l0⟩
set_option maxHeartbeats 2000000 in
theorem Clear_any (w : World) (h : TkAt w S g T) : Calls Try.prog 43 #[.pointer (some ⟨g, 0, none⟩)] w fun e w' => e = .returned (.tuple #[]) ∧ To S w w' (tkOb g T.clear) := by
  obtain ⟨⟨tg, ms, mp, h⟩, hok⟩ := h
  have hok' := Ok_clear hok
  have F : Hid (∀ w1 g1, Below w.heap.size w w1 → (lkOb g1 []).is w1 (fun i => w.heap.size ≤ i ∧ i < w1.heap.size) → (∀ o, w1.frozen? ⟨g, o, none⟩ = false) ∧ (∃ v, w1.cell? ⟨g, 0, none⟩ = some v) ∧ g < w1.heap.size ∧ ∃ w2 w3 w4, w1.setCell ⟨g, 0, none⟩ (.pointer (some ⟨g1, 0, none⟩)) = w2 ∧ (∀ o, (w2.alloc (.map #[] 0)).frozen? ⟨g, o, none⟩ = false) ∧ (∃ v, (w2.alloc (.map #[] 0)).cell? ⟨g, 1, none⟩ = some v) ∧ g < (w2.alloc (.map #[] 0)).heap.size ∧
      (w2.alloc (.map #[] 0)).setCell ⟨g, 1, none⟩ (.map (some w2.heap.size)) = w3 ∧ (∀ o, (w3.alloc (.map #[] 0)).frozen? ⟨g, o, none⟩ = false) ∧ (∃ v, (w3.alloc (.map #[] 0)).cell? ⟨g, 2, none⟩ = some v) ∧ g < (w3.alloc (.map #[] 0)).heap.size ∧
      (w3.alloc (.map #[] 0)).setCell ⟨g, 2, none⟩ (.map (some w3.heap.size)) = w4 ∧ To S w w4 (tkOb g T.clear)) := Lib.hid fun w1 g1 hb hl => by
    have h1 := h.newL hb hl
    have b1 := h.ext hb
    obtain ⟨v1, -, -, -, -, f1, l1⟩ := blk5 b1.hg
    have h2 := h1.trans (h1.1.newS (extAl _ _) (mapI_made _) (Nat.le_refl _))
    have b2 := h1.1.ext (extAl _ (.map #[] 0))
    obtain ⟨-, v2, -, -, -, f2, l2⟩ := blk5 b2.hg
    have h3 := h2.trans (h2.1.newP (extAl _ _) (mapI_made _) (Nat.le_refl _))
    have b3 := h2.1.ext (extAl _ (.map #[] 0))
    obtain ⟨-, -, v3, -, -, f3, l3⟩ := blk5 b3.hg
    exact ⟨f1, ⟨_, v1⟩, l1, _, _, _, set5_0 _ b1.hg, f2, ⟨_, v2⟩, l2, set5_1 _ b2.hg, f3, ⟨_, v3⟩, l3, set5_2 _ b3.hg, To.tk (T := T.clear) h3 (fun a => rfl) (fun a => rfl) hok'⟩
  obtain ⟨-, -, -, -, -, fz, hlt⟩ := blk5 h.hg
  clear h hok hok'
  generalize T.clear = T' at *
  have hmm := @run_makeMap Try.prog
  go_enter Try.func43, Try.ntmps43
  go_wp2_with fail
  refine (locksNew_any _).mono ?_
  rintro e w1 ⟨g1, rfl, -, hl1, hb1⟩
  obtain ⟨f1, ⟨u1, v1⟩, l1, w2, w3, w4, e2, f2, ⟨u2, v2⟩, l2, e3, f3, ⟨u3, v3⟩, l3, e4, h4⟩ := F.out w1 g1 hb1 hl1
  have H4 := Lib.hid h4
  have E2 := Lib.hid e2
  have E3 := Lib.hid e3
  have E4 := Lib.hid e4
  clear h4 e2 e3 e4 F hl1 hb1 fz hlt
  go_wp2_with (first | (rw [E2.out]; refine wpList_mm rfl 103 rfl (run_makeMap _ _) ?_; simp only [Act.put]; clear E2) | (rw [E3.out]; refine wpList_mm rfl 104 rfl (run_makeMap _ _) ?_; simp only [Act.put]; clear E3))
  rw [E4.out]
  go_end0
  exact ⟨rfl, H4.out⟩
end
end Go.Proofs.Ytiihlbaajopllaa
