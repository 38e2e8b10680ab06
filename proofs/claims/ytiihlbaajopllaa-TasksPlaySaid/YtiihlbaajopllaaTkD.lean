/- Walks of tasks: Add. -/
import Derived.Test.YtiihlbaajopllaaTkC
set_option linter.unusedVariables false
set_option maxRecDepth 100000
namespace Go.Proofs.Ytiihlbaajopllaa
open Go.RowKit Go.MapKept

theorem set5_0 {w : World} {g : Nat} {T : TypeId} {a b c d e : Value} (x : Value) (k : w.heap[g]? = some (.cells #[a, b, c, d, e] T (0, 0))) : w.setCell ⟨g, 0, none⟩ x = w.setRow g #[x, b, c, d, e] := by
  rw [setCell_eq_setRow w g 0 _ T (0, 0) _ k]; rfl
theorem set5_1 {w : World} {g : Nat} {T : TypeId} {a b c d e : Value} (x : Value) (k : w.heap[g]? = some (.cells #[a, b, c, d, e] T (0, 0))) : w.setCell ⟨g, 1, none⟩ x = w.setRow g #[a, x, c, d, e] := by
  rw [setCell_eq_setRow w g 1 _ T (0, 0) _ k]; rfl
theorem set5_2 {w : World} {g : Nat} {T : TypeId} {a b c d e : Value} (x : Value) (k : w.heap[g]? = some (.cells #[a, b, c, d, e] T (0, 0))) : w.setCell ⟨g, 2, none⟩ x = w.setRow g #[a, b, x, d, e] := by
  rw [setCell_eq_setRow w g 2 _ T (0, 0) _ k]; rfl
theorem set5_3 {w : World} {g : Nat} {T : TypeId} {a b c d e : Value} (x : Value) (k : w.heap[g]? = some (.cells #[a, b, c, d, e] T (0, 0))) : w.setCell ⟨g, 3, none⟩ x = w.setRow g #[a, b, c, x, e] := by
  rw [setCell_eq_setRow w g 3 _ T (0, 0) _ k]; rfl
theorem set5_4 {w : World} {g : Nat} {T : TypeId} {a b c d e : Value} (x : Value) (k : w.heap[g]? = some (.cells #[a, b, c, d, e] T (0, 0))) : w.setCell ⟨g, 4, none⟩ x = w.setRow g #[a, b, c, d, x] := by
  rw [setCell_eq_setRow w g 4 _ T (0, 0) _ k]; rfl
theorem askE_none {L : List Te} {n : Int} {l : List Wn} (h : askE (lkL L) n l = 0) : findT L n = none ∧ 0 ≤ n ∧ L.length < 16 := by
  unfold askE at h
  split at h
  · cases h
  · rename_i h1
    split at h
    · cases h
    · rename_i h2
      rw [atL_iff] at h2
      split at h
      · cases h
      · rename_i h3
        refine ⟨by simpa using h2, by omega, ?_⟩
        simp only [lkL, List.length_map] at h3
        omega
theorem findT_snoc (L : List Te) (e : Te) (a : Int) (h : findT L e.p.1 = none) : findT (L ++ [e]) a = if a = e.p.1 then some e else findT L a := by
  unfold findT at *
  rw [List.find?_append]
  by_cases k : a = e.p.1
  · subst k
    rw [if_pos rfl, h]
    simp
  · rw [if_neg k]
    simp [Ne.symm k]
theorem stF_snoc (L : List Te) (e : Te) (a : Int) (h : findT L e.p.1 = none) : upd (stF L) e.p.1 (.int .u8 (1 + e.is)) a = stF (L ++ [e]) a := by
  unfold stF upd
  rw [findT_snoc L e a h]
  split
  · rename_i k
    subst k
    simp
  · rfl
theorem plF_snoc (L : List Te) (e : Te) (a : Int) (h : findT L e.p.1 = none) : upd (plF L) e.p.1 (.int .i64 e.pl) a = plF (L ++ [e]) a := by
  unfold plF upd
  rw [findT_snoc L e a h]
  split
  · rename_i k
    subst k
    simp
  · rfl
theorem add_pos {T : TK} {n : Int} {l : List Wn} (h : askE (lkL T.L) n l = 0) : T.add n l = ⟨T.L ++ [⟨(n, l), T.cnt + 1, 0⟩], T.cnt + 1, T.last⟩ := by unfold TK.add; rw [if_pos h]
theorem Ok_add {T : TK} (h : T.Ok) {n : Int} {l : List Wn} (hn : n ≤ 9223372036854775807) : (T.add n l).Ok := by
  by_cases he : askE (lkL T.L) n l = 0
  · rw [add_pos he]
    obtain ⟨h1, h2, h3⟩ := askE_none he
    refine ⟨?_, ?_, ?_, ?_, ?_, by simp; omega, by have := h.c0; show 0 ≤ T.cnt + 1; omega, by have := h.l0; refine ⟨this.1, ?_⟩; show T.last ≤ T.cnt + 1; omega⟩
    · simp only [List.map_append, List.map_cons, List.map_nil, List.nodup_append]
      refine ⟨h.nd, by simp, ?_⟩
      intro a ha b hb
      simp only [List.mem_singleton] at hb
      obtain ⟨e, he', rfl⟩ := List.mem_map.1 ha
      subst hb
      exact findT_none h1 e he'
    · intro e he'
      rcases List.mem_append.1 he' with he' | he'
      · exact h.n0 e he'
      · obtain rfl := List.mem_singleton.1 he'
        exact ⟨h2, hn⟩
    · intro e he'
      rcases List.mem_append.1 he' with he' | he'
      · exact h.is e he'
      · obtain rfl := List.mem_singleton.1 he'
        exact .inl rfl
    · intro e he'
      show 1 ≤ e.pl ∧ e.pl ≤ T.cnt + 1
      rcases List.mem_append.1 he' with he' | he'
      · have := h.pl e he'; omega
      · obtain rfl := List.mem_singleton.1 he'
        have := h.c0
        exact ⟨by show 1 ≤ T.cnt + 1; omega, by show T.cnt + 1 ≤ T.cnt + 1; omega⟩
    · rw [List.pairwise_append]
      refine ⟨h.up, by simp, ?_⟩
      intro a ha b hb
      obtain rfl := List.mem_singleton.1 hb
      have := h.pl a ha
      show a.pl < T.cnt + 1
      omega
  · unfold TK.add
    rw [if_neg he]
    exact h
section
variable {S : Nat → Prop} {g : Nat} {T : TK}
set_option maxHeartbeats 2000000 in
theorem Add_any {v : Value} (n : Int) (l : List Wn) (w : World) (h : TkAt w S g T) (hc : T.cnt ≤ 1000000) (hn0 : -9223372036854775808 ≤ n) (hn1 : n ≤ 9223372036854775807) (hv : RWn w v l) (hll : l.length ≤ 1000000) :
    Calls Try.prog 27 #[.pointer (some ⟨g, 0, none⟩), .int .i64 n, v] w fun e w' => e = .returned (.int .i64 (T.addE n l)) ∧ To S w w' (tkOb g (T.add n l)) := by
  have hw := wf_i64 hn0 hn1
  have hok' := Ok_add h.2 (l := l) hn1
  obtain ⟨⟨tg, ms, mp, h⟩, hok⟩ := h
  obtain ⟨A, c, rfl⟩ := hv.form
  obtain ⟨c0, -, -, -, -, -, hlt⟩ := blk5 h.hg
  obtain ⟨S1, hl, hback⟩ := h.locks
  have K := Lib.hid ((Ask_any n l w hl hv hll).mono fun r w' ⟨hr, hT⟩ => And.intro hr (hback _ _ hT))
  have hE : T.addE n l = askE (lkL T.L) n l := rfl
  rw [hE]
  clear hv hl hback
  by_cases he : askE (lkL T.L) n l = 0
  case neg =>
    have hd : T.add n l = T := by unfold TK.add; rw [if_neg he]
    have hL : askL (lkL T.L) n l = lkL T.L := by unfold askL; rw [if_neg he]
    rw [hd]
    rw [hL] at K
    have F : Hid (∀ w1, To S w w1 (tqOb g tg ms mp T.cnt T.last (lkL T.L) (stF T.L) (plF T.L)) → To S w w1 (tkOb g T)) := Lib.hid fun w1 h1 => h1.tk (fun _ => rfl) (fun _ => rfl) hok
    have hcs : askE (lkL T.L) n l = 1 ∨ askE (lkL T.L) n l = 6 ∨ askE (lkL T.L) n l = 3 := by
      unfold askE at he ⊢
      split
      · exact .inl rfl
      · split
        · exact .inr (.inl rfl)
        · split
          · exact .inr (.inr rfl)
          · rename_i h1 h2 h3
            rw [if_neg h1, if_neg h2, if_neg h3] at he
            exact absurd rfl he
    obtain ⟨B, hB⟩ : ∃ B, B = askB (lkL T.L) n l := ⟨_, rfl⟩
    rw [← hB] at K
    clear hd hL h hok hE hok' hB
    rcases hcs with e | e | e
    · rw [e] at K ⊢
      clear e he
      go_enter Try.func27, Try.ntmps27
      go_wp2_with (go_at_call 13; refine K.out.mono ?_; rintro e w1 ⟨rfl, h1⟩)
      go_ret
      exact ⟨rfl, F.out w1 h1⟩
    · rw [e] at K ⊢
      clear e he
      go_enter Try.func27, Try.ntmps27
      go_wp2_with (go_at_call 13; refine K.out.mono ?_; rintro e w1 ⟨rfl, h1⟩)
      go_ret
      exact ⟨rfl, F.out w1 h1⟩
    · rw [e] at K ⊢
      clear e he
      go_enter Try.func27, Try.ntmps27
      go_wp2_with (go_at_call 13; refine K.out.mono ?_; rintro e w1 ⟨rfl, h1⟩)
      go_ret
      exact ⟨rfl, F.out w1 h1⟩
  obtain ⟨hf, hn, hlen⟩ := askE_none he
  have hL : askL (lkL T.L) n l = lkL T.L ++ [(n, l)] := by unfold askL; rw [if_pos he]
  rw [add_pos he] at hok' ⊢
  rw [he] at K ⊢
  rw [hL] at K
  obtain ⟨B, hB⟩ : ∃ B, B = askB (lkL T.L) n l := ⟨_, rfl⟩
  rw [← hB] at K
  have hc0 := hok.c0
  have Fin : Hid (∀ w5, To S w w5 (tqOb g tg ms mp (T.cnt + 1) T.last (lkL T.L ++ [(n, l)]) (upd (stF T.L) n (.int .u8 1)) (upd (plF T.L) n (.int .i64 (T.cnt + 1)))) → To S w w5 (tkOb g ⟨T.L ++ [⟨(n, l), T.cnt + 1, 0⟩], T.cnt + 1, T.last⟩)) := Lib.hid fun w5 h5 =>
    by
      have p1 := stF_snoc T.L (Te.mk (n, l) (T.cnt + 1) 0)
      have p2 := plF_snoc T.L (Te.mk (n, l) (T.cnt + 1) 0)
      exact To.tk' (T := TK.mk (T.L ++ [Te.mk (n, l) (T.cnt + 1) 0]) (T.cnt + 1) T.last) h5 (by simp [lkL]) (fun a => p1 a hf) (fun a => p2 a hf) hok'
  clear hB hE he hL hf hlen hok' h hok
  obtain ⟨R, hR⟩ : ∃ R : TK, R = ⟨T.L ++ [⟨(n, l), T.cnt + 1, 0⟩], T.cnt + 1, T.last⟩ := ⟨_, rfl⟩
  rw [← hR] at Fin ⊢
  clear hR
  obtain ⟨q, hq⟩ : ∃ q : Int, q = T.cnt := ⟨_, rfl⟩
  rw [← hq] at K Fin hc hc0
  clear hq
  generalize lkL T.L ++ [(n, l)] = LT at *
  generalize stF T.L = F0 at *
  generalize plF T.L = G0 at *
  generalize T.last = la at *
  go_enter Try.func27, Try.ntmps27
  go_wp2_with fail
  refine K.out.mono ?_
  rintro e w1 ⟨rfl, h1⟩
  have hg1 := h1.1.hg
  obtain ⟨d0, d1, d2, d3, d4, df, dlt⟩ := blk5 hg1
  have ST := Lib.hid (set5_3 (.int .i64 (q + 1)) hg1)
  have h2 := h1.trans (h1.1.cells (q + 1) la)
  obtain ⟨f0, f1, f2, f3, f4, ff, flt⟩ := blk5 h2.1.hg
  obtain ⟨w3, hr3, hm3, hg3⟩ := h2.1.st.update (P := Try.prog) (t := 103) Try.underlying103 Try.underlying3 hw (.int .u8 1)
  have h3 := h2.trans (h2.1.mapS hm3 hg3)
  obtain ⟨i0, i1, i2, i3, i4, if_, ilt⟩ := blk5 h3.1.hg
  have R3 := Lib.hid hr3
  have H3 := Lib.hid h3
  clear h1 hg1 h2 hr3 hm3 hg3 h3 K
  have e0 := fun (ψ : World → Prop) (e : ExtP w3.heap.size w3 ψ) => e.cell i2 ilt
  have e1 := fun (ψ : World → Prop) (e : ExtP w3.heap.size w3 ψ) => e.cell i3 ilt
  clear i2 i3 i0 i1 i4
  go_wp2_with (rw [ST.out]; refine wpList_mu rfl 103 (.tmp 34) (.tmp 35) _ rfl R3.out ?_; simp only [Act.put])
  refine wp_region_pieces 9  [(true, [0, 1, 2, 3, 4, 5, 6, 7, 8])] (by kernel_rfl) (by kernel_rfl) ?_; simp only [pick, List.map_cons, List.map_nil, List.flatMap_cons, List.flatMap_nil, Option.toList_some, List.singleton_append, List.drop_succ_cons, List.drop_zero, List.getElem?_cons_zero, List.getElem?_cons_succ]
  refine ⟨by kernel_rfl, ?_⟩; apply Exists.intro; refine ⟨fun ψ hψ hne => (by (repeat (go_big_quiet_step (( fail )))); exact wpQuiet_nil rfl), ?_⟩
  intro w4 hx4
  have h4 := H3.out.then_ext hx4
  obtain ⟨w5, hr5, hm5, hg5⟩ := h4.1.pl.update (P := Try.prog) (t := 104) Try.underlying104 Try.underlying3 hw (.int .i64 (q + 1))
  have H5 := Lib.hid (Fin.out _ (h4.trans (h4.1.mapP hm5 hg5)))
  have R5 := Lib.hid hr5
  clear h4 hr5 hm5 hg5 e0 e1 H3 Fin R3
  go_wp2_with (refine wpList_mu rfl 104 (.tmp 39) (.tmp 40) (.tmp 44) rfl R5.out ?_; simp only [Act.put])
  go_ret
  exact ⟨rfl, H5.out⟩
end
end Go.Proofs.Ytiihlbaajopllaa
