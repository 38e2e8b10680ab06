/- Plain laws: another word in the place of one of a call's first six. -/
import Derived.Test.YtaccjneglaomhaaCallJ
set_option linter.unusedVariables false
namespace Go.Proofs.Ytaccjneglaomhaa
open Go.RowKit

theorem wordsL_append (a b : List Int) : wordsL (a ++ b) = wordsL a ++ wordsL b := by simp [wordsL]
theorem words_take {ns : List Int} {l : List UInt8} {i : Nat} (h : i ≤ ns.length) : (wordsL ns ++ l).take (4 * i) = wordsL (ns.take i) := by
  have e : wordsL ns = wordsL (ns.take i) ++ wordsL (ns.drop i) := by rw [← wordsL_append, List.take_append_drop]
  rw [e, List.append_assoc, List.take_left' (by rw [wordsL_len, List.length_take]; omega)]
theorem word_set {ns : List Int} {l : List UInt8} {i : Nat} (q : Int) (h : i < ns.length) :
    (wordsL ns ++ l).take (4 * i) ++ wordsL [q] ++ (wordsL ns ++ l).drop (4 * i + 4) = wordsL (ns.set i q) ++ l := by
  rw [words_take (by omega), show 4 * i + 4 = 4 * (i + 1) by omega, words_drop ns l (i + 1) (by omega), List.set_eq_take_append_cons_drop, if_pos h, ← List.append_assoc, ← wordsL_append, ← wordsL_append]
  simp
theorem cR_words {a0 a1 a2 a3 a4 a5 : Int} {l : List UInt8} (h0 : isW a0 = true) (h1 : isW a1 = true) (h2 : isW a2 = true) (h3 : isW a3 = true) (h4 : isW a4 = true) (h5 : isW a5 = true) (hw : wh l = true) (hl : l.length ≤ 4072) :
    cR (wordsL [a0, a1, a2, a3, a4, a5] ++ l) = if a1 = 0 ∧ 1 ≤ a4 ∧ a4 ≤ 16 then if a2 = 284 ∧ a3 = 3 then if a5 < 19 then (⟨a4, a0, a5, l⟩, 0) else (⟨a4, a0, a5, []⟩, 62) else (⟨a4, a0, a5, []⟩, 63) else (⟨0, 0, 0, []⟩, 4) := by
  have v0 := wv_words (ns := [a0, a1, a2, a3, a4, a5]) (l := l) (i := 0) (by simp)
  have v1 := wv_words (ns := [a0, a1, a2, a3, a4, a5]) (l := l) (i := 1) (by simp)
  have v2 := wv_words (ns := [a0, a1, a2, a3, a4, a5]) (l := l) (i := 2) (by simp)
  have v3 := wv_words (ns := [a0, a1, a2, a3, a4, a5]) (l := l) (i := 3) (by simp)
  have v4 := wv_words (ns := [a0, a1, a2, a3, a4, a5]) (l := l) (i := 4) (by simp)
  have v5 := wv_words (ns := [a0, a1, a2, a3, a4, a5]) (l := l) (i := 5) (by simp)
  have hd : (wordsL [a0, a1, a2, a3, a4, a5] ++ l).drop 24 = l := words_rest [a0, a1, a2, a3, a4, a5] l
  have hw' := head_bytes (ns := [a0, a1, a2, a3, a4, a5]) hw
  have hl' : (wordsL [a0, a1, a2, a3, a4, a5] ++ l).length = 24 + l.length := by rw [List.length_append, wordsL_len]; rfl
  simp only [List.getElem_cons_zero, List.getElem_cons_succ] at v0 v1 v2 v3 v4 v5
  rw [isW_mod h0] at v0
  rw [isW_mod h1] at v1
  rw [isW_mod h2] at v2
  rw [isW_mod h3] at v3
  rw [isW_mod h4] at v4
  rw [isW_mod h5] at v5
  generalize wordsL [a0, a1, a2, a3, a4, a5] ++ l = S at *
  have e1 : (S.length ≤ 4096 ∧ wh S = true ∧ 24 ≤ S.length ∧ a1 = 0 ∧ 1 ≤ a4 ∧ a4 ≤ 16) = (a1 = 0 ∧ 1 ≤ a4 ∧ a4 ≤ 16) := by
    apply propext
    exact ⟨fun h => h.2.2.2, fun h => ⟨by omega, hw', by omega, h⟩⟩
  unfold cR
  simp only [v0, v1, v2, v3, v4, v5, hd, e1]
theorem cW_word {c x p : Int} {l : List UInt8} (h : (cW c x p l).2 = 0) (i : Nat) (q : Int) (hi : i < 6) :
    (cW c x p l).1.take (4 * i) ++ wordsL [q] ++ (cW c x p l).1.drop (4 * i + 4) = wordsL ([x, 0, 284, 3, c, p].set i q) ++ l ∧ (cW c x p l).1.length = 24 + l.length := by
  obtain ⟨e1, -⟩ := cW_ok h
  rw [e1]
  exact ⟨word_set q (by simpa using hi), by rw [List.length_append, wordsL_len]; rfl⟩
/-- What is read of a call's bytes with another word in the place i. -/
theorem cW_other {c x p : Int} {l : List UInt8} (h : (cW c x p l).2 = 0) (hp : p < 19) (q : Int) (hq : isW q = true) :
    cR (wordsL [q, 0, 284, 3, c, p] ++ l) = (⟨c, q, p, l⟩, 0) ∧
    ((q = 0 → cR (wordsL [x, q, 284, 3, c, p] ++ l) = (⟨c, x, p, l⟩, 0)) ∧ (q ≠ 0 → (cR (wordsL [x, q, 284, 3, c, p] ++ l)).2 = 4)) ∧
    ((q = 284 → (cR (wordsL [x, 0, q, 3, c, p] ++ l)).2 = 0) ∧ (q ≠ 284 → (cR (wordsL [x, 0, q, 3, c, p] ++ l)).2 = 63)) ∧
    ((q = 3 → (cR (wordsL [x, 0, 284, q, c, p] ++ l)).2 = 0) ∧ (q ≠ 3 → (cR (wordsL [x, 0, 284, q, c, p] ++ l)).2 = 63)) ∧
    ((1 ≤ q ∧ q ≤ 16 → cR (wordsL [x, 0, 284, 3, q, p] ++ l) = (⟨q, x, p, l⟩, 0)) ∧ (¬ (1 ≤ q ∧ q ≤ 16) → (cR (wordsL [x, 0, 284, 3, q, p] ++ l)).2 = 4)) ∧
    ((q < 19 → cR (wordsL [x, 0, 284, 3, c, q] ++ l) = (⟨c, x, q, l⟩, 0)) ∧ (¬ q < 19 → cR (wordsL [x, 0, 284, 3, c, q] ++ l) = (⟨c, x, q, []⟩, 62))) := by
  obtain ⟨-, e2, e3, e4, e5, e6⟩ := cW_ok h
  have ec : isW c = true := by rw [isW_iff]; omega
  have w0 : isW 0 = true := rfl
  have w284 : isW 284 = true := rfl
  have w3 : isW 3 = true := rfl
  rw [cR_words hq w0 w284 w3 ec e4 e5 e6, cR_words e3 hq w284 w3 ec e4 e5 e6, cR_words e3 w0 hq w3 ec e4 e5 e6, cR_words e3 w0 w284 hq ec e4 e5 e6, cR_words e3 w0 w284 w3 hq e4 e5 e6, cR_words e3 w0 w284 w3 ec hq e5 e6]
  refine ⟨?_, ⟨fun h => ?_, fun h => ?_⟩, ⟨fun h => ?_, fun h => ?_⟩, ⟨fun h => ?_, fun h => ?_⟩, ⟨fun h => ?_, fun h => ?_⟩, ⟨fun h => ?_, fun h => ?_⟩⟩ <;> simp [h, hp, e2]
end Go.Proofs.Ytaccjneglaomhaa
