/- Records: the document's reader: Feed, Held. -/
import Derived.Test.YtbbkailmlaffjaaRcR
set_option linter.unusedVariables false
set_option maxRecDepth 100000
namespace Go.Proofs.Ytbbkailmlaffjaa
open Go.RowKit

theorem ext_in {w w' : World} {ψ : World → Prop} (h : ∃ e : ExtP w.heap.size w ψ, w' = e.val) : Ext w w' := by obtain ⟨e, rfl⟩ := h; exact e.ok
theorem blk3_st0 {w : World} {g : Nat} {T : TypeId} {a b c : Value} (x : Value) (h : w.heap[g]? = some (.cells #[a, b, c] T (0, 0))) : w.setCell ⟨g, 0, none⟩ x = w.setRow g #[x, b, c] := by
  rw [setCell_eq_setRow w g 0 _ T (0, 0) _ h]; simp
theorem blk3_st1 {w : World} {g : Nat} {T : TypeId} {a b c : Value} (x : Value) (h : w.heap[g]? = some (.cells #[a, b, c] T (0, 0))) : w.setCell ⟨g, 1, none⟩ x = w.setRow g #[a, x, c] := by
  rw [setCell_eq_setRow w g 1 _ T (0, 0) _ h]; simp
theorem blk3_st2 {w : World} {g : Nat} {T : TypeId} {a b c : Value} (x : Value) (h : w.heap[g]? = some (.cells #[a, b, c] T (0, 0))) : w.setCell ⟨g, 2, none⟩ x = w.setRow g #[a, b, x] := by
  rw [setCell_eq_setRow w g 2 _ T (0, 0) _ h]; simp
/-- A slice of bytes, or one of none. -/
def RZ (w : World) (v : Value) (l : List UInt8) : Prop := RS w v l ∨ ∃ a c, v = .slice (some a) 0 c ∧ l = []
theorem RZ.ext {w w' : World} {v : Value} {l : List UInt8} (h : RZ w v l) (k : Ext w w') : RZ w' v l := h.imp (fun h => h.ext k) id
theorem RZ.form {w : World} {v : Value} {l : List UInt8} (h : RZ w v l) : ∃ A c, v = .slice A l.length c := by
  rcases h with h | ⟨a, c, rfl, rfl⟩
  · exact h.form
  · exact ⟨_, c, rfl⟩
theorem RZ.src {w : World} {v : Value} {l : List UInt8} (h : RZ w v l) : Src Try.prog 1 22 v l.length (bvs l) w := by
  rcases h with h | ⟨a, c, rfl, rfl⟩
  · exact srcS h
  · exact Src.ofSlice w Try.underlying22 a 0 c [] (by simp) (fun j u h => by simp at h) (fun u h => by simp at h)
theorem conv_zero {P : Program} {w : World} {src e dst : TypeId} (a : Addr) (c : Nat) (hs : P.underlying src = some (.slice e)) (he : P.underlying e = some (.int .u8)) (hd : P.underlying dst = some .string) :
    (convert src dst (.slice (some a) 0 c)).run P w = .ok (.string (str [])) w := by
  have h0 : (loadCells a 0).run P w = .ok #[] w := run_loadCells_list (P := P) w a [] fun j v h => by simp at h
  simp [convert, run_underlying hs, run_underlying hd, run_underlying he, str, Conv.bytesToString, h0]
  rfl
theorem RZ.conv {w : World} {v : Value} {l : List UInt8} (h : RZ w v l) : (convert 22 9 v).run Try.prog w = .ok (.string (str l)) w := by
  rcases h with h | ⟨a, c, rfl, rfl⟩
  · exact h.conv Try.underlying22 Try.underlying5 Try.underlying9
  · exact conv_zero a c Try.underlying22 Try.underlying5 Try.underlying9
def rdK (o : Obj) : Prop := match o with
  | .cells _ t _ => t = 45
  | _ => False
/-- The document's reader, that was handed what comes to st; at most m bytes. -/
def rdOb (g : Nat) (st : Rc) (m : Nat) : Ob Zn where
  is := fun w S => (∃ (All : List UInt8) (X : List (List UInt8)), w.heap[g]? = some (.cells #[.string (str All), .int .i64 (X.length : Nat), .bool st.shut] 45 (0, 0)) ∧ feed rc0 All = (st, X) ∧ All.length ≤ m) ∧ S g
  K := rdK
  mutw := fun ⟨⟨A, X, h1, h2⟩, hs⟩ k hd _ => ⟨⟨A, X, (k.block g (heap_lt h1) (hd g hs)).trans h1, h2⟩, hs⟩
  mono := fun ⟨h, hs⟩ k => ⟨h, k _ hs⟩
  trim := fun ⟨⟨A, X, h1, h2⟩, hs⟩ => ⟨⟨A, X, h1, h2⟩, hs, _, h1, rfl⟩
  kz := fun _ _ h => h
theorem own_form3 {w : World} {B : Nat} {T : TypeId} {C : Value → Prop} {A : Option Addr} {n c : Nat} {cs : List Value} (h : OwnR w B T 1 C (.slice A n c) n cs) : (A = none ∧ n = 0 ∧ c = 0) ∨ ∃ b, A = some ⟨b, 0, none⟩ ∧ n ≤ c := by
  obtain ⟨h0, ⟨h1, h2⟩ | ⟨g, c', junk, h1, hB, hg, hc, _⟩⟩ := h
  · simp only [Value.slice.injEq] at h1
    exact .inl ⟨h1.1, h2, h1.2.2⟩
  · simp only [Value.slice.injEq] at h1
    obtain ⟨rfl, -, rfl⟩ := h1
    exact .inr ⟨g, rfl, by omega⟩
theorem own_cut {w : World} {T : TypeId} {b c N : Nat} {l : List (List UInt8)} (h : OwnR w 0 T 1 One (.slice (some ⟨b, 0, none⟩) l.length c) l.length (svs l)) (hN : N ≤ l.length) : RR w 1 (.slice (some ⟨b, N, none⟩) (l.length - N) (c - N)) (l.drop N).length (svs (l.drop N)) := by
  refine ⟨by rw [svs_length]; omega, ?_⟩
  by_cases h0 : l.length - N = 0
  · exact .inl ⟨_, _, by rw [h0], by rw [List.length_drop, h0]⟩
  · obtain ⟨g, hA, -, hl, hc, hj⟩ := h.cells (by omega)
    simp only [Option.some.injEq, Addr.mk.injEq, and_true] at hA
    subst hA
    refine .inr ⟨b, N, c - N, by rw [List.length_drop], hl, by rw [List.length_drop]; have := hc (by decide); omega, fun j hj' => ?_⟩
    rw [hj (N + j) (by rw [svs_length] at hj' ⊢; rw [List.length_drop] at hj'; omega)]
    simp [svs]
theorem rr_zero {w : World} (A : Option Addr) (c : Nat) {l : List (List UInt8)} (h : l.length = 0) : RR w 1 (.slice A 0 c) l.length (svs l) := ⟨by rw [svs_length]; omega, .inl ⟨A, c, rfl, h⟩⟩
set_option maxHeartbeats 4000000 in
theorem rFeed_any {S : Nat → Prop} {g : Nat} {st : Rc} {m : Nat} {v : Value} {ch : List UInt8} (w : World) (q : (rdOb g st m).is w S) (hch : RZ w v ch) (hm : m + ch.length ≤ 500000) :
    Calls Try.prog 20 #[.pointer (some ⟨g, 0, none⟩), v] w fun e w' => ∃ bv tv n cs, e = .returned (.tuple #[bv, .int .i64 (shN (feed st ch).1.shut)]) ∧ OwnR w' w.heap.size 9 1 One tv n cs ∧ To S w w' (rdOb g (feed st ch).1 (m + ch.length)) ∧
      ∀ w'', OwnR w'' 0 9 1 One tv n cs → RR w'' 1 bv (feed st ch).2.length (svs (feed st ch).2) := by
  obtain ⟨⟨All, X, hg, hF, hl⟩, hS⟩ := q
  obtain ⟨A, c, rfl⟩ := hch.form
  cases hsh : st.shut with
  | true =>
    rw [feed_shut hsh]
    have q' : (rdOb g st (m + ch.length)).is w S := ⟨⟨All, X, hg, hF, by omega⟩, hS⟩
    have HT := Lib.hid (To.refl q')
    obtain ⟨c0, c1, c2, f0, f1, f2, gl⟩ := blk3 hg
    rw [hsh] at c2
    have h40 : shN st.shut = 40 := by rw [hsh]; rfl
    rw [h40]
    clear hg hF hl q' hch
    go_enter Try.func20, Try.ntmps20
    go_wp2_with fail
    go_ret2
    exact ⟨_, .slice none 0 0, 0, [], rfl, OwnR.nil, HT.out, fun w'' _ => rr_zero none 0 rfl⟩
  | false =>
    obtain ⟨st', Y, hF2⟩ : ∃ st' Y, feed st ch = (st', Y) := ⟨_, _, rfl⟩
    rw [hF2]
    have hF3 : feed rc0 (All ++ ch) = (st', X ++ Y) := by rw [feed_append, hF, hF2]
    have hsz := str_size All
    have hsc := str_size ch
    have hla : (All.length : Int) + ch.length ≤ 500000 := by omega
    rw [hsh] at hg
    have CV : Hid (∀ w', Ext w w' → (convert 22 9 (.slice A ch.length c)).run Try.prog w' = .ok (.string (str ch)) w') := Lib.hid fun w' k => (hch.ext k).conv
    have hcat : str All ++ str ch = str (All ++ ch) := rfl
    have HG := Lib.hid hg
    have HF := Lib.hid hF
    have HF2 := Lib.hid hF3
    have HSg := Lib.hid hS
    obtain ⟨c0, c1, c2, f0, f1, f2, gl⟩ := blk3 hg
    clear hF hF2 hF3 hS hch hg
    go_enter Try.func20, Try.ntmps20
    go_upto_region 3 with fail
    have e0 := fun (ψ : World → Prop) (e : ExtP w.heap.size w ψ) => e.cell c0 gl
    clear c0 c1 c2 f0 f1 f2
    refine wp_region_pieces 10  [(true, [0, 1, 2, 3, 4, 5, 6, 7, 8, 9])] (by kernel_rfl) (by kernel_rfl) ?_; simp only [pick, List.map_cons, List.map_nil, List.flatMap_cons, List.flatMap_nil, Option.toList_some, List.singleton_append, List.drop_succ_cons, List.drop_zero, List.getElem?_cons_zero, List.getElem?_cons_succ]
    refine ⟨by kernel_rfl, ?_⟩; apply Exists.intro; refine ⟨fun ψ hψ hne => (by (repeat (first | ( first | (go_big_quiet_want; refine quiet_cv 22 9 _ rfl (fun w' hw' => CV.out w' (ext_in hw')) ?_; go_simp; go_big_quiet_on) ) | go_big_quiet_step ((  fail )))); exact wpQuiet_nil rfl), ?_⟩
    intro w1 h1
    clear e0
    have hg1 := Ext.blk h1 HG.out
    obtain ⟨c0, c1, c2, f0, f1, f2, gl⟩ := blk3 hg1
    have s0 := blk3_st0 (.string (str (All ++ ch))) hg1
    have hg1' := setRow_heap w1 g _ #[.string (str (All ++ ch)), .int .i64 (X.length : Nat), .bool false] _ _ hg1
    have hM : Mut S w (w1.setRow g #[.string (str (All ++ ch)), .int .i64 (X.length : Nat), .bool false]) := (Mut.of_ext h1).trans (mut_setRow HSg.out _)
    have S0 := Lib.hid s0
    have HG1 := Lib.hid hg1'
    have HM1 := Lib.hid hM
    clear s0 hg1 hg1' hM h1 HG
    go_upto_region 4 with fail
    rw [S0.out]
    clear S0 c0 c1 c2 f0 f1 f2 gl CV
    generalize w1.setRow g #[.string (str (All ++ ch)), .int .i64 (X.length : Nat), .bool false] = V at *
    obtain ⟨c0, c1, c2, f0, f1, f2, gl⟩ := blk3 HG1.out
    go_wp2_with fail
    refine (rTold_any (All ++ ch) V (by rw [List.length_append]; omega)).mono ?_
    rintro e w2 ⟨tv, xs, whole, shut, rfl, ho2, ht2, hb2⟩
    obtain ⟨st2, hf, hsh2, -, -⟩ := ht2
    rw [HF2.out] at hf
    simp only [Prod.mk.injEq] at hf
    obtain ⟨rfl, rfl⟩ := hf
    subst hsh2
    have HG2 := Lib.hid (Ext.blk hb2 HG1.out)
    have HM := Lib.hid (HM1.out.trans (Mut.of_ext hb2))
    obtain ⟨At, ct, rfl⟩ := ho2.form
    have hform := own_form3 ho2
    have HO := Lib.hid (ho2.mono HM1.out.size)
    clear ho2 hb2 HM1 HG1 c0 c1 c2 f0 f1 f2 gl
    obtain ⟨c0, c1, c2, f0, f1, f2, gl⟩ := blk3 HG2.out
    have hXn : X.length ≤ (X ++ Y).length := by simp
    have hYd : (X ++ Y).drop X.length = Y := List.drop_left
    have hYl : (X ++ Y).length - X.length = Y.length := by simp
    obtain ⟨L, hL⟩ : ∃ L, X ++ Y = L := ⟨_, rfl⟩
    rw [hL] at hXn hYd hYl hform HO HF2
    rw [hL]
    have HYD := Lib.hid hYd
    clear hL hYd
    rcases hform with ⟨rfl, hn, rfl⟩ | ⟨b, rfl, hnc⟩
    · have hX0 : X.length = 0 := by omega
      have hY0 : Y.length = 0 := by omega
      go_upto_region 6 with fail
      obtain ⟨c0, c1, c2, f0, f1, f2, gl⟩ := blk3 HG2.out
      have s1 := blk3_st1 (.int .i64 0) HG2.out
      have hg3 := setRow_heap w2 g _ #[.string (str (All ++ ch)), .int .i64 0, .bool false] _ _ HG2.out
      have S1 := Lib.hid s1
      have HG3 := Lib.hid hg3
      clear s1 hg3
      go_upto_region 7 with fail
      rw [S1.out]
      clear c0 c1 c2 f0 f1 f2 S1
      obtain ⟨c0, c1, c2, f0, f1, f2, gl'⟩ := blk3 HG3.out
      have s2 := blk3_st2 (.bool st'.shut) HG3.out
      rw [setRow_setRow] at s2
      have S2 := Lib.hid s2
      clear s2 gl'
      go_upto_region 8 with fail
      rw [S2.out]
      clear c0 c1 c2 f0 f1 f2 S2 HG3
      have hg4 := setRow_heap w2 g _ #[.string (str (All ++ ch)), .int .i64 0, .bool st'.shut] _ _ HG2.out
      have HEQ : 0 = ((L.length : Nat) : Int) := by omega
      have hT : To S w (w2.setRow g #[.string (str (All ++ ch)), .int .i64 0, .bool st'.shut]) (rdOb g st' (m + ch.length)) := ⟨⟨⟨All ++ ch, L, by rw [← HEQ]; exact hg4, HF2.out, by rw [List.length_append]; omega⟩, .inl HSg.out⟩, HM.out.trans (mut_setRow HSg.out _)⟩
      have hO := HO.out.set (row' := #[.string (str (All ++ ch)), .int .i64 0, .bool st'.shut]) HG2.out (by decide)
      have HT := Lib.hid hT
      have HO' := Lib.hid hO
      clear hg4 HEQ hT hO
      cases hs : st'.shut with
      | true =>
        go_wp2_with fail
        go_ret2
        have HT2 := HT.out
        have HO2 := HO'.out
        rw [hs] at HT2 HO2 ⊢
        exact ⟨_, _, _, _, rfl, HO2, HT2, fun w'' ho => rr_zero _ _ hY0⟩
      | false =>
        go_wp2_with fail
        go_ret2
        have HT2 := HT.out
        have HO2 := HO'.out
        rw [hs] at HT2 HO2 ⊢
        exact ⟨_, _, _, _, rfl, HO2, HT2, fun w'' ho => rr_zero _ _ hY0⟩
    · by_cases hcN : ct = X.length
      · subst hcN
        have hLX : L.length = X.length := by omega
        have hY0 : Y.length = 0 := by omega
        go_upto_region 6 with fail
        obtain ⟨c0, c1, c2, f0, f1, f2, gl⟩ := blk3 HG2.out
        have s1 := blk3_st1 (.int .i64 ((X.length : Nat) : Int)) HG2.out
        have hg3 := setRow_heap w2 g _ #[.string (str (All ++ ch)), .int .i64 ((X.length : Nat) : Int), .bool false] _ _ HG2.out
        have S1 := Lib.hid s1
        have HG3 := Lib.hid hg3
        clear s1 hg3
        go_upto_region 7 with fail
        rw [S1.out]
        clear c0 c1 c2 f0 f1 f2 S1
        obtain ⟨c0, c1, c2, f0, f1, f2, gl'⟩ := blk3 HG3.out
        have s2 := blk3_st2 (.bool st'.shut) HG3.out
        rw [setRow_setRow] at s2
        have S2 := Lib.hid s2
        clear s2 gl'
        go_upto_region 8 with fail
        rw [S2.out]
        clear c0 c1 c2 f0 f1 f2 S2 HG3
        have hg4 := setRow_heap w2 g _ #[.string (str (All ++ ch)), .int .i64 ((X.length : Nat) : Int), .bool st'.shut] _ _ HG2.out
        have HEQ : ((X.length : Nat) : Int) = ((L.length : Nat) : Int) := by omega
        have hT : To S w (w2.setRow g #[.string (str (All ++ ch)), .int .i64 ((X.length : Nat) : Int), .bool st'.shut]) (rdOb g st' (m + ch.length)) := ⟨⟨⟨All ++ ch, L, by rw [← HEQ]; exact hg4, HF2.out, by rw [List.length_append]; omega⟩, .inl HSg.out⟩, HM.out.trans (mut_setRow HSg.out _)⟩
        have hO := HO.out.set (row' := #[.string (str (All ++ ch)), .int .i64 ((X.length : Nat) : Int), .bool st'.shut]) HG2.out (by decide)
        have HT := Lib.hid hT
        have HO' := Lib.hid hO
        clear hg4 HEQ hT hO
        cases hs : st'.shut with
        | true =>
          go_wp2_with fail
          go_ret2
          have HT2 := HT.out
          have HO2 := HO'.out
          rw [hs] at HT2 HO2 ⊢
          exact ⟨_, _, _, _, rfl, HO2, HT2, fun w'' ho => rr_zero _ _ hY0⟩
        | false =>
          go_wp2_with fail
          go_ret2
          have HT2 := HT.out
          have HO2 := HO'.out
          rw [hs] at HT2 HO2 ⊢
          exact ⟨_, _, _, _, rfl, HO2, HT2, fun w'' ho => rr_zero _ _ hY0⟩
      · skip
        go_upto_region 6 with fail
        obtain ⟨c0, c1, c2, f0, f1, f2, gl⟩ := blk3 HG2.out
        have s1 := blk3_st1 (.int .i64 ((L.length : Nat) : Int)) HG2.out
        have hg3 := setRow_heap w2 g _ #[.string (str (All ++ ch)), .int .i64 ((L.length : Nat) : Int), .bool false] _ _ HG2.out
        have S1 := Lib.hid s1
        have HG3 := Lib.hid hg3
        clear s1 hg3
        go_upto_region 7 with fail
        rw [S1.out]
        clear c0 c1 c2 f0 f1 f2 S1
        obtain ⟨c0, c1, c2, f0, f1, f2, gl'⟩ := blk3 HG3.out
        have s2 := blk3_st2 (.bool st'.shut) HG3.out
        rw [setRow_setRow] at s2
        have S2 := Lib.hid s2
        clear s2 gl'
        go_upto_region 8 with fail
        rw [S2.out]
        clear c0 c1 c2 f0 f1 f2 S2 HG3
        have hg4 := setRow_heap w2 g _ #[.string (str (All ++ ch)), .int .i64 ((L.length : Nat) : Int), .bool st'.shut] _ _ HG2.out
        have HEQ : ((L.length : Nat) : Int) = ((L.length : Nat) : Int) := rfl
        have hT : To S w (w2.setRow g #[.string (str (All ++ ch)), .int .i64 ((L.length : Nat) : Int), .bool st'.shut]) (rdOb g st' (m + ch.length)) := ⟨⟨⟨All ++ ch, L, by rw [← HEQ]; exact hg4, HF2.out, by rw [List.length_append]; omega⟩, .inl HSg.out⟩, HM.out.trans (mut_setRow HSg.out _)⟩
        have hO := HO.out.set (row' := #[.string (str (All ++ ch)), .int .i64 ((L.length : Nat) : Int), .bool st'.shut]) HG2.out (by decide)
        have HT := Lib.hid hT
        have HO' := Lib.hid hO
        clear hg4 HEQ hT hO
        cases hs : st'.shut with
        | true =>
          go_wp2_with fail
          go_ret2
          have HT2 := HT.out
          have HO2 := HO'.out
          rw [hs] at HT2 HO2 ⊢
          exact ⟨_, _, _, _, rfl, HO2, HT2, fun w'' ho => by have := own_cut ho hXn; rw [HYD.out, hYl] at this; exact this⟩
        | false =>
          go_wp2_with fail
          go_ret2
          have HT2 := HT.out
          have HO2 := HO'.out
          rw [hs] at HT2 HO2 ⊢
          exact ⟨_, _, _, _, rfl, HO2, HT2, fun w'' ho => by have := own_cut ho hXn; rw [HYD.out, hYl] at this; exact this⟩
end Go.Proofs.Ytbbkailmlaffjaa
