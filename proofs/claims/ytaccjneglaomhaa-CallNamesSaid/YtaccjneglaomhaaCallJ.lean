/- Plain laws: what is written is read, and the other way round. -/
import Derived.Test.YtaccjneglaomhaaCallI
set_option linter.unusedVariables false
namespace Go.Proofs.Ytaccjneglaomhaa
open Go.RowKit

theorem wordsL_len (ns : List Int) : (wordsL ns).length = 4 * ns.length := by rw [wordsL_length]
theorem wh_iff {l : List UInt8} : wh l = true ↔ l.length % 4 = 0 := by simp [wh]
theorem head_bytes {ns : List Int} {l : List UInt8} (h : wh l = true) : wh (wordsL ns ++ l) = true := by
  rw [wh_iff] at *
  rw [List.length_append, wordsL_len]
  omega

/-- What was written as a call, heard and read. -/
theorem cW_back {c x p : Int} {l : List UInt8} (h : (cW c x p l).2 = 0) : (cH (cW c x p l).1).2 = 4 ∧ (p < 19 → cR (cW c x p l).1 = (⟨c, x, p, l⟩, 0)) ∧ (19 ≤ p → cR (cW c x p l).1 = (⟨c, x, p, []⟩, 62)) := by
  obtain ⟨e1, e2, e3, e4, e5, e6⟩ := cW_ok h
  rw [e1]
  have v0 := wv_words (ns := [x, 0, 284, 3, c, p]) (l := l) (i := 0) (by simp)
  have v1 := wv_words (ns := [x, 0, 284, 3, c, p]) (l := l) (i := 1) (by simp)
  have v2 := wv_words (ns := [x, 0, 284, 3, c, p]) (l := l) (i := 2) (by simp)
  have v3 := wv_words (ns := [x, 0, 284, 3, c, p]) (l := l) (i := 3) (by simp)
  have v4 := wv_words (ns := [x, 0, 284, 3, c, p]) (l := l) (i := 4) (by simp)
  have v5 := wv_words (ns := [x, 0, 284, 3, c, p]) (l := l) (i := 5) (by simp)
  have hd := words_rest [x, 0, 284, 3, c, p] l
  have hw := head_bytes (ns := [x, 0, 284, 3, c, p]) e5
  have hl : (wordsL [x, 0, 284, 3, c, p] ++ l).length = 24 + l.length := by rw [List.length_append, wordsL_len]; rfl
  simp only [List.length_cons, List.length_nil] at hd
  simp only [List.getElem_cons_zero, List.getElem_cons_succ] at v0 v1 v2 v3 v4 v5
  rw [isW_iff] at e3 e4
  generalize wordsL [x, 0, 284, 3, c, p] ++ l = S at *
  have w0 : wv S 0 = x := by omega
  have w1 : wv S 1 = 0 := by omega
  have w2 : wv S 2 = 284 := by omega
  have w3 : wv S 3 = 3 := by omega
  have w4 : wv S 4 = c := by omega
  have w5 : wv S 5 = p := by omega
  have hd' : S.drop 24 = l := hd
  refine ⟨?_, fun hp => ?_, fun hp => ?_⟩
  · unfold cH
    rw [if_neg (by rw [w1]; intro h; exact absurd h.2.1 (by decide))]
  · unfold cR
    rw [if_pos ⟨by omega, hw, by omega, w1, by omega, by omega⟩, if_pos ⟨w2, w3⟩, if_pos (by omega), w4, w0, w5, hd']
  · unfold cR
    rw [if_pos ⟨by omega, hw, by omega, w1, by omega, by omega⟩, if_pos ⟨w2, w3⟩, if_neg (by omega), w4, w0, w5]

/-- What was told, heard and read. -/
theorem cT_back {x e : Int} {l : List UInt8} (h : (cT x e l).2 = 0) : cH (cT x e l).1 = (⟨x, e, l⟩, 0) ∧ (cR (cT x e l).1).2 = 4 := by
  obtain ⟨e1, e2, e3⟩ := cT_ok h
  rw [e1]
  have v0 := wv_words (ns := [x, 1, e]) (l := l) (i := 0) (by simp)
  have v1 := wv_words (ns := [x, 1, e]) (l := l) (i := 1) (by simp)
  have v2 := wv_words (ns := [x, 1, e]) (l := l) (i := 2) (by simp)
  have hd := words_rest [x, 1, e] l
  have hl : (wordsL [x, 1, e] ++ l).length = 12 + l.length := by rw [List.length_append, wordsL_len]; rfl
  simp only [List.length_cons, List.length_nil] at hd
  simp only [List.getElem_cons_zero, List.getElem_cons_succ] at v0 v1 v2
  rw [isW_iff] at e2
  have hm := mayB_e e3
  generalize wordsL [x, 1, e] ++ l = S at *
  have w0 : wv S 0 = x := by omega
  have w1 : wv S 1 = 1 := by omega
  have w2 : wv S 2 = e := by omega
  have hd' : S.drop 12 = l := hd
  refine ⟨?_, ?_⟩
  · unfold cH
    rw [w2, hd', if_pos ⟨by omega, w1, e3⟩, w0]
  · unfold cR
    rw [if_neg (by rw [w1]; intro h; exact absurd h.2.2.2.1 (by decide))]

theorem wvs6 (s : List UInt8) : wvs s 6 = [wv s 0, wv s 1, wv s 2, wv s 3, wv s 4, wv s 5] := rfl
theorem wvs3 (s : List UInt8) : wvs s 3 = [wv s 0, wv s 1, wv s 2] := rfl
theorem cR_ok {s : List UInt8} (h : (cR s).2 = 0) : cR s = (⟨wv s 4, wv s 0, wv s 5, s.drop 24⟩, 0) ∧ s.length ≤ 4096 ∧ wh s = true ∧ 24 ≤ s.length ∧ wv s 1 = 0 ∧ 1 ≤ wv s 4 ∧ wv s 4 ≤ 16 ∧ wv s 2 = 284 ∧ wv s 3 = 3 ∧ wv s 5 < 19 := by
  unfold cR at h ⊢
  split at h
  · rename_i h1
    split at h
    · rename_i h2
      split at h
      · rename_i h3
        rw [if_pos h1, if_pos h2, if_pos h3]
        exact ⟨rfl, h1.1, h1.2.1, h1.2.2.1, h1.2.2.2.1, h1.2.2.2.2.1, h1.2.2.2.2.2, h2.1, h2.2, h3⟩
      · simp at h
    · simp at h
  · simp at h
theorem cH_ok {s : List UInt8} (h : (cH s).2 = 0) : cH s = (⟨wv s 0, wv s 2, s.drop 12⟩, 0) ∧ 12 ≤ s.length ∧ wv s 1 = 1 ∧ mayB (wv s 2) (s.drop 12) = true := by
  unfold cH at h ⊢
  split at h
  · rename_i h1
    rw [if_pos h1]
    exact ⟨rfl, h1⟩
  · simp at h
/-- What was read, written and heard. -/
theorem cR_back {s : List UInt8} (h : (cR s).2 = 0) : cW (cR s).1.c (cR s).1.x (cR s).1.p (cR s).1.l = (s, 0) ∧ (cH s).2 = 4 := by
  obtain ⟨e, e1, e2, e3, e4, e5, e6, e7, e8, e9⟩ := cR_ok h
  have hb := words_back (s := s) 6 (by omega)
  rw [wvs6, e4, e7, e8] at hb
  have b0 := wv_bd s 0
  have b5 := wv_bd s 5
  have hd : (s.drop 24).length = s.length - 24 := List.length_drop
  rw [e]
  refine ⟨?_, ?_⟩
  · unfold cW
    have e2' := wh_iff.1 e2
    rw [if_pos ⟨e5, e6, isW_iff.2 b0, isW_iff.2 b5, wh_iff.2 (by rw [hd]; omega)⟩, if_pos (by simp only; omega)]
    simp only [Prod.mk.injEq, and_true]
    exact hb.symm
  · unfold cH
    rw [if_neg (by rw [e4]; intro h; exact absurd h.2.1 (by decide))]
/-- What was heard, told and read. -/
theorem cH_back {s : List UInt8} (h : (cH s).2 = 0) : cT (cH s).1.x (cH s).1.e (cH s).1.l = (s, 0) ∧ (cR s).2 = 4 := by
  obtain ⟨e, e1, e2, e3⟩ := cH_ok h
  have hb := words_back (s := s) 3 (by omega)
  rw [wvs3, e2] at hb
  have b0 := wv_bd s 0
  rw [e]
  refine ⟨?_, ?_⟩
  · unfold cT
    rw [if_pos ⟨isW_iff.2 b0, e3⟩]
    simp only [Prod.mk.injEq, and_true]
    exact hb.symm
  · unfold cR
    rw [if_neg (by rw [e2]; intro h; exact absurd h.2.2.2.1 (by decide))]
theorem cW_len {c x p : Int} {l : List UInt8} : (cW c x p l).1.length ≤ 4096 := by
  by_cases h : (cW c x p l).2 = 0
  · obtain ⟨e1, -, -, -, -, e6⟩ := cW_ok h
    rw [e1, List.length_append, wordsL_len]
    simp; omega
  · have : (cW c x p l).1 = [] := by
      unfold cW at h ⊢
      split
      · split
        · exact absurd (by rw [if_pos (by assumption), if_pos (by assumption)]) h
        · rfl
      · rfl
    rw [this]; simp
theorem cT_len {x e : Int} {l : List UInt8} : (cT x e l).1.length ≤ 12 + l.length := by
  unfold cT
  split
  · rw [List.length_append, wordsL_len]; simp
  · simp

theorem eql_cans (x e x' e' : Int) (l l' : List UInt8) (w : World) : (binOp .eql 41 (.agg #[.int .i64 x, .int .i64 e, .string (str l)]) (.agg #[.int .i64 x', .int .i64 e', .string (str l')])).run Try.prog w = .ok (.bool (eqAn x e l x' e' l')) w := by
  go_simp
  by_cases h1 : x = x' <;> by_cases h2 : e = e' <;> by_cases h4 : l = l' <;> simp [eqAn, h1, h2, h4, strL]
theorem neq_cans (x e x' e' : Int) (l l' : List UInt8) (w : World) : (binOp .neq 41 (.agg #[.int .i64 x, .int .i64 e, .string (str l)]) (.agg #[.int .i64 x', .int .i64 e', .string (str l')])).run Try.prog w = .ok (.bool (!(eqAn x e l x' e' l'))) w := by
  go_simp
  by_cases h1 : x = x' <;> by_cases h2 : e = e' <;> by_cases h4 : l = l' <;> simp [eqAn, h1, h2, h4, strL]
theorem neq_chead (c x p c' x' p' : Int) (l l' : List UInt8) (w : World) : (binOp .neq 38 (.agg #[.int .i64 c, .int .i64 x, .int .i64 p, .string (str l)]) (.agg #[.int .i64 c', .int .i64 x', .int .i64 p', .string (str l')])).run Try.prog w = .ok (.bool (!(eqHd c x p l c' x' p' l'))) w := by
  go_simp
  by_cases h1 : c = c' <;> by_cases h2 : x = x' <;> by_cases h3 : p = p' <;> by_cases h4 : l = l' <;> simp [eqHd, h1, h2, h3, h4, strL]
theorem eqHd_self (c x p : Int) (l : List UInt8) : eqHd c x p l c x p l = true := by simp [eqHd]
theorem eqAn_self (x e : Int) (l : List UInt8) : eqAn x e l x e l = true := by simp [eqAn]
end Go.Proofs.Ytaccjneglaomhaa
