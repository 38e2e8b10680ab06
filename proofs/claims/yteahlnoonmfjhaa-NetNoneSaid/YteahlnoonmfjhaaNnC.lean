/- Net: the map of counts under entries looked for and written; loads out of a row. -/
import Derived.Test.YteahlnoonmfjhaaNnB
import Derived.Test.YteahlnoonmfjhaaMo
import Derived.Test.YteahlnoonmfjhaaCalmR
set_option linter.unusedVariables false
set_option maxRecDepth 100000
namespace Go.Proofs.Yteahlnoonmfjhaa
open Go.RowKit

abbrev mR (mb : Nat) : Rl := mapRl Try.prog 25 pkV mb (.int .i64 0)
theorem zint (u : World) : (zeroValue 3).run Try.prog u = .ok (.int .i64 0) u := by kernel_rfl
theorem cntF_of {F G : Pk → Option Value} {l : List Pk} (h : cntF G l) (e : ∀ q, (F q).getD (.int .i64 0) = (G q).getD (.int .i64 0)) : cntF F l := fun p => (e p).trans (h p)
section
variable {W w : World} {ds : List (Ob Z0)} {mb : Nat} {F : Pk → Option Value}
theorem OSt.mapLook (i : Nat) (h : OSt W ds w) (hi : ds[i]? = some (mapOb mb F)) {l : List Pk} (hF : cntF F l) {p : Pk} (hk : KeyV Try.prog 25 (pkV p)) (w' : World) (hr : (mR mb).r w w') :
    (Instr.lookup 83 (.map (some mb)) (pkV p) false).run Try.prog w' = .ok (.int .i64 (l.count p)) w' := by
  obtain ⟨S, h1, _⟩ := h.pick hi
  obtain ⟨F', hm, hd⟩ := hr.2 F h1.1
  have := hm.look pkV_inj pk_law false Try.underlying83 (z := .int .i64 0) (zint w') hk
  rw [hd, hF] at this
  simpa using this
theorem OSt.mapEnt (i : Nat) (h : OSt W ds w) (hi : ds[i]? = some (mapOb mb F)) {p : Pk} (hk : KeyV Try.prog 25 (pkV p)) (w1 : World) (hr : (mR mb).r w w1) :
    ∃ (v0 : Value) (st : Nat) (w2 : World), (Instr.mapEntry 83 (.map (some mb)) (pkV p)).run Try.prog w1 = .ok (.tuple #[v0, .int .i64 st]) w2 ∧ (mR mb).r w1 w2 ∧
      ∀ (w3 : World) (val : Value), Ext w2 w3 → ∃ w4 F4, (Instr.entryStore 83 (.map (some mb)) (.int .i64 st) val).run Try.prog w3 = .ok () w4 ∧ OSt W (ds.set i (mapOb mb F4)) w4 ∧
        ∀ q, (F4 q).getD (.int .i64 0) = (updK F p val q).getD (.int .i64 0) := by
  obtain ⟨S, h1, _, h3, _⟩ := h.pick hi
  obtain ⟨F1, hm1, hd1⟩ := hr.2 F h1.1
  obtain ⟨v0, st, w2, he, ⟨F2, hm2, hd2⟩, hg, hst⟩ := hm1.entry pkV_inj pk_law Try.underlying83 zint hk
  refine ⟨v0, st, w2, he, ⟨Mut.of_grown hg fun b hb => by simpa using hb.symm, fun F' hF' => ?_⟩, fun w3 val hE => ?_⟩
  · obtain ⟨v0', st', w2', he', ⟨F2', hm2', hd2'⟩, -⟩ := hF'.entry pkV_inj pk_law Try.underlying83 zint hk
    rw [he] at he'
    injection he' with _ e2
    subst e2
    exact ⟨F2', hm2', hd2'⟩
  · obtain ⟨w4, hs, hm4, hg4⟩ := hst w3 val (hE.block mb hm2.lt)
    have hS : ∀ b : Nat, (some mb : Option Nat) = some b → S b := fun b hb => by cases hb; exact h1.2
    refine ⟨w4, updK F1 p val, hs, h3 _ _ ⟨⟨hm4, .inl h1.2⟩, ?_⟩, fun q => ?_⟩
    · exact ((hr.1.mono fun j hj => by rw [hj]; exact h1.2).trans (Mut.of_grown hg hS)).trans ((Mut.of_ext hE).trans (Mut.of_grown hg4 hS))
    · unfold updK
      split
      · rfl
      · exact hd1 q
/-- A packet of a row, loaded where no block but the map's has changed. -/
theorem OSt.rowLd (i j : Nat) (h : OSt W ds w) {vb n c : Nat} {l : List Pk} (hi : ds[i]? = some (ownOb 25 3 (.slice (some ⟨vb, 0, none⟩) n c) n (pkcs l))) (hj : ds[j]? = some (mapOb mb F)) (hn : l.length = n) {k : Nat} {p : Pk} (hk : l[k]? = some p) :
    vb < w.heap.size ∧ n ≤ c ∧ ∀ w', (mR mb).r w w' → (Instr.loadAt 25 (.pointer (some ⟨vb, k * 3, none⟩))).run Try.prog w' = .ok (.agg (pkC p).toArray) w' := by
  have ho := h.own i hi
  obtain ⟨h1, h2, h3, -⟩ := own_flat (enc := pkC) ho pkC_len hn hk
  obtain ⟨cs, hc⟩ := ownR_blk ho (b := vb) (by simp [Value.ownBlock])
  obtain ⟨S, hm, _⟩ := h.pick hj
  obtain ⟨es, ck, hb, _⟩ := hm.1
  have hne : ¬ vb = mb := fun e => by rw [e] at hc; rw [hb] at hc; cases hc
  refine ⟨h1, h2 (by omega), fun w' hr => loadAt_cs (P := Try.prog) Try.underlying25 (by kernel_rfl) fun i hi => ?_⟩
  rw [hr.1.cell h1 hne, h3 i hi]
  exact List.getElem?_eq_getElem hi
theorem OSt.rowAt (i j : Nat) (h : OSt W ds w) {A : Option Addr} {n c : Nat} {l : List Pk} (hi : ds[i]? = some (ownOb 25 3 (.slice A n c) n (pkcs l))) (hj : ds[j]? = some (mapOb mb F)) (hn : l.length = n) {k : Nat} {p : Pk} (hk : l[k]? = some p) :
    ∃ vb, A = some ⟨vb, 0, none⟩ ∧ vb < w.heap.size ∧ n ≤ c ∧ ∀ w', (mR mb).r w w' → (Instr.loadAt 25 (.pointer (some ⟨vb, k * 3, none⟩))).run Try.prog w' = .ok (.agg (pkC p).toArray) w' := by
  have hkl := (List.getElem?_eq_some_iff.1 hk).1
  obtain ⟨g, rfl, -⟩ := (h.own i hi).cells (by omega)
  exact ⟨g, rfl, h.rowLd i j hi hj hn hk⟩
theorem OSt.mapGe (i : Nat) (h : OSt W ds w) (hi : ds[i]? = some (mapOb mb F)) : W.heap.size ≤ mb := by
  obtain ⟨S, h1, h2, _⟩ := h.pick hi
  exact (h2 mb h1.2).1
theorem ldNop {w : World} {b o : Nat} {p : Pk} (h1 : w.cell? ⟨b, o + 1, none⟩ = some (.int .i64 p.c)) (h2 : w.cell? ⟨b, o + 2, none⟩ = some (.bool p.up)) (h3 : w.cell? ⟨b, o + 3, none⟩ = some (.string (str p.b))) :
    (Instr.loadAt 84 (.pointer (some ⟨b, o + 1, none⟩))).run Try.prog w = .ok (.agg (pkC p).toArray) w :=
  loadAt_cs (P := Try.prog) Try.underlying84 (by kernel_rfl) fun j hj => by
    have hj3 : j < 3 := hj
    rcases j with _ | _ | _ | j
    · exact h1
    · exact h2
    · exact h3
    · omega
theorem pk_keyOk {p : Pk} (h : PkOk p) : KeyV Try.prog 25 (pkV p) := by
  obtain ⟨h1, h2, h3⟩ := h
  exact pk_key p ⟨by omega, by omega⟩ (by unfold maxLen; omega)
end
end Go.Proofs.Yteahlnoonmfjhaa
