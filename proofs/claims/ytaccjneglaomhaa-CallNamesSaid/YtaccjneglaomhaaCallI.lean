/- Plain laws of calls' and replies' bytes. -/
import Derived.Test.YtaccjneglaomhaaCallW
import Derived.SizedLaws
set_option linter.unusedVariables false
namespace Go.Proofs.Ytaccjneglaomhaa
open Go.RowKit

theorem wordsL_cons (n : Int) (ns : List Int) : wordsL (n :: ns) = beN (n % 4294967296) 4 ++ wordsL ns := by simp only [wordsL, List.flatMap_cons]
theorem words_drop : ∀ (ns : List Int) (l : List UInt8) (i : Nat), i ≤ ns.length → (wordsL ns ++ l).drop (4 * i) = wordsL (ns.drop i) ++ l
  | ns, l, 0, _ => by simp
  | n :: ns, l, i + 1, h => by
    have h4 : (beN (n % 4294967296) 4).length = 4 := beN_length _ _
    rw [wordsL_cons, List.append_assoc, show 4 * (i + 1) = 4 + 4 * i by omega, ← List.drop_drop, List.drop_left' h4, List.drop_succ_cons]
    exact words_drop ns l i (by simpa using h)
  | [], l, i + 1, h => by simp at h
theorem wv_words {ns : List Int} {l : List UInt8} {i : Nat} (h : i < ns.length) : wv (wordsL ns ++ l) i = ns[i] % 4294967296 := by
  unfold wv
  rw [words_drop ns l i (by omega), List.drop_eq_getElem_cons h, wordsL_cons, List.append_assoc, List.take_left' (beN_length _ _)]
  exact beV_beN4 _ (by omega) (by omega)
theorem words_rest (ns : List Int) (l : List UInt8) : (wordsL ns ++ l).drop (4 * ns.length) = l := by
  rw [words_drop ns l ns.length (Nat.le_refl _), List.drop_length]; rfl
theorem words_back {s : List UInt8} : ∀ (n : Nat), 4 * n ≤ s.length → s = wordsL (wvs s n) ++ s.drop (4 * n)
  | 0, _ => by simp [wvs, wordsL]
  | n + 1, h => by
    have ih := words_back (s := s) n (by omega)
    have hb := wv_bd s n
    have e : wordsL (wvs s (n + 1)) = wordsL (wvs s n) ++ beN (wv s n) 4 := by
      rw [wvs_succ, wordsL, List.flatMap_append]
      simp only [List.flatMap_cons, List.flatMap_nil, List.append_nil]
      rw [show wv s n % 4294967296 = wv s n by omega]
      rfl
    rw [e, List.append_assoc]
    have h4 : ((s.drop (4 * n)).take 4).length = 4 := by simp; omega
    have e2 : beN (wv s n) 4 ++ s.drop (4 * (n + 1)) = s.drop (4 * n) := by
      unfold wv
      have : ∀ (l : List UInt8), l.length = 4 → beN (beV l) 4 = l := fun l h => by
        obtain ⟨p, q, r, t, rfl⟩ := four h
        have e : ∀ (x : Int) (b : UInt8), x % 256 = b.toNat → byteOf x = b := fun x b h => by
          apply UInt8.toNat_inj.1
          have := byteOf_toNat x
          omega
        have pb := p.toNat_lt
        have qb := q.toNat_lt
        have rb := r.toNat_lt
        have tb := t.toNat_lt
        simp only [beV, List.foldl_cons, List.foldl_nil, beN, List.cons.injEq, and_true]
        refine ⟨e _ _ ?_, e _ _ ?_, e _ _ ?_, e _ _ ?_⟩ <;> omega
      rw [this _ h4, show 4 * (n + 1) = 4 * n + 4 by omega, ← List.drop_drop, List.take_append_drop]
    rw [e2]
    exact ih
theorem isW_iff {x : Int} : isW x = true ↔ 0 ≤ x ∧ x ≤ 4294967295 := by simp [isW]
theorem isW_mod {x : Int} (h : isW x = true) : x % 4294967296 = x := by rw [isW_iff] at h; omega

/-- What was written as a call. -/
theorem cW_ok {c x p : Int} {l : List UInt8} (h : (cW c x p l).2 = 0) : (cW c x p l).1 = wordsL [x, 0, 284, 3, c, p] ++ l ∧ (1 ≤ c ∧ c ≤ 16) ∧ isW x = true ∧ isW p = true ∧ wh l = true ∧ l.length ≤ 4072 := by
  unfold cW at h ⊢
  split at h
  · rename_i h1
    split at h
    · rename_i h2
      rw [if_pos h1, if_pos h2]
      exact ⟨rfl, ⟨h1.1, h1.2.1⟩, h1.2.2.1, h1.2.2.2.1, h1.2.2.2.2, h2⟩
    · simp at h
  · simp at h
theorem cT_ok {x e : Int} {l : List UInt8} (h : (cT x e l).2 = 0) : (cT x e l).1 = wordsL [x, 1, e] ++ l ∧ isW x = true ∧ mayB e l = true := by
  unfold cT at h ⊢
  split at h
  · rename_i h1
    rw [if_pos h1]
    exact ⟨rfl, h1.1, h1.2⟩
  · simp at h
def eqHd (c x p : Int) (l : List UInt8) (c' x' p' : Int) (l' : List UInt8) : Bool := decide (c = c' ∧ x = x' ∧ p = p' ∧ l = l')
def eqAn (x e : Int) (l : List UInt8) (x' e' : Int) (l' : List UInt8) : Bool := decide (x = x' ∧ e = e' ∧ l = l')
theorem mayB_e {e : Int} {l : List UInt8} (h : mayB e l = true) : e = 0 ∨ e = 4 ∨ e = 62 ∨ e = 63 := by
  unfold mayB at h
  split at h
  · exact .inl ‹_›
  · split at h
    · rename_i h1; rcases h1 with h1 | h1 | h1
      · exact .inr (.inl h1)
      · exact .inr (.inr (.inl h1))
      · exact .inr (.inr (.inr h1))
    · cases h
theorem cW_inj {c x p c' x' p' : Int} {l l' : List UInt8} (h : (cW c x p l).2 = 0) (h' : (cW c' x' p' l').2 = 0) : ((cW c x p l).1 = (cW c' x' p' l').1) ↔ eqHd c x p l c' x' p' l' = true := by
  obtain ⟨e1, e2, e3, e4, e5, e6⟩ := cW_ok h
  obtain ⟨f1, f2, f3, f4, f5, f6⟩ := cW_ok h'
  rw [eqHd, decide_eq_true_eq]
  constructor
  · intro he
    rw [e1, f1] at he
    have a0 := congrArg (wv · 0) he
    have a4 := congrArg (wv · 4) he
    have a5 := congrArg (wv · 5) he
    rw [wv_words (by simp), wv_words (by simp)] at a0 a4 a5
    have b := congrArg (List.drop (4 * 6)) he
    have w1 := words_rest [x, 0, 284, 3, c, p] l
    have w2 := words_rest [x', 0, 284, 3, c', p'] l'
    simp only [List.length_cons, List.length_nil] at w1 w2
    rw [w1, w2] at b
    simp only [List.getElem_cons_zero, List.getElem_cons_succ] at a0 a4 a5
    rw [isW_iff] at e3 e4 f3 f4
    exact ⟨by omega, by omega, by omega, b⟩
  · rintro ⟨rfl, rfl, rfl, rfl⟩; rfl
theorem cT_inj {x e x' e' : Int} {l l' : List UInt8} (h : (cT x e l).2 = 0) (h' : (cT x' e' l').2 = 0) : ((cT x e l).1 = (cT x' e' l').1) ↔ eqAn x e l x' e' l' = true := by
  obtain ⟨e1, e2, e3⟩ := cT_ok h
  obtain ⟨f1, f2, f3⟩ := cT_ok h'
  have g1 := mayB_e e3
  have g2 := mayB_e f3
  rw [eqAn, decide_eq_true_eq]
  constructor
  · intro he
    rw [e1, f1] at he
    have a0 := congrArg (wv · 0) he
    have a2 := congrArg (wv · 2) he
    rw [wv_words (by simp), wv_words (by simp)] at a0 a2
    have b := congrArg (List.drop (4 * 3)) he
    have w1 := words_rest [x, 1, e] l
    have w2 := words_rest [x', 1, e'] l'
    simp only [List.length_cons, List.length_nil] at w1 w2
    rw [w1, w2] at b
    simp only [List.getElem_cons_zero, List.getElem_cons_succ] at a0 a2
    rw [isW_iff] at e2 f2
    exact ⟨by omega, by omega, b⟩
  · rintro ⟨rfl, rfl, rfl⟩; rfl
theorem eql_rhead (c x p c' x' p' : Int) (l l' : List UInt8) (w : World) : (binOp .eql 32 (.agg #[.int .i64 c, .int .i64 x, .int .i64 p, .string (str l)]) (.agg #[.int .i64 c', .int .i64 x', .int .i64 p', .string (str l')])).run Try.prog w = .ok (.bool (eqHd c x p l c' x' p' l')) w := by
  go_simp
  by_cases h1 : c = c' <;> by_cases h2 : x = x' <;> by_cases h3 : p = p' <;> by_cases h4 : l = l' <;> simp [eqHd, h1, h2, h3, h4, strL]
theorem eql_chead (c x p c' x' p' : Int) (l l' : List UInt8) (w : World) : (binOp .eql 38 (.agg #[.int .i64 c, .int .i64 x, .int .i64 p, .string (str l)]) (.agg #[.int .i64 c', .int .i64 x', .int .i64 p', .string (str l')])).run Try.prog w = .ok (.bool (eqHd c x p l c' x' p' l')) w := by
  go_simp
  by_cases h1 : c = c' <;> by_cases h2 : x = x' <;> by_cases h3 : p = p' <;> by_cases h4 : l = l' <;> simp [eqHd, h1, h2, h3, h4, strL]
theorem eql_rans (x e x' e' : Int) (l l' : List UInt8) (w : World) : (binOp .eql 35 (.agg #[.int .i64 x, .int .i64 e, .string (str l)]) (.agg #[.int .i64 x', .int .i64 e', .string (str l')])).run Try.prog w = .ok (.bool (eqAn x e l x' e' l')) w := by
  go_simp
  by_cases h1 : x = x' <;> by_cases h2 : e = e' <;> by_cases h4 : l = l' <;> simp [eqAn, h1, h2, h4, strL]
end Go.Proofs.Ytaccjneglaomhaa
namespace Go.Proofs.Ytaccjneglaomhaa
open Go.RowKit Go.ChangeShapes Go.WideShapes Go.ChangeAt Go.Deep
section
variable {H : Type} {enc : TypeId × Value → H} {W : World} {base : Nat} {b0 : Nat} {spare : Nat → Bool} {held : Bool}
theorem open_headR {v : Value} {d : DataW H} {p : List MemPlace} {r : Reach} (hv : Value.okWide Try.prog W r b0 32 v) (h : DataW.Trod enc Try.prog W base spare held 32 v d p) : ∃ x : HeadT, v = x.v ∧ x.Ok ∧ ∀ k ∈ [x.l.length], k ∈ d.weights Try.prog 32 := by
  obtain ⟨x0, x1, x2, x3, y0, y1, y2, y3, m, rfl, hd, _, hy0, hy1, hy2, hy3⟩ := Joins.open_agg4 Try.underlying32 (by kernel_rfl) (by kernel_rfl) hv h
  obtain ⟨a, e0, q0, wa⟩ := DataW.trod_int Try.underlying3 hy0
  obtain ⟨b, e1, q1, wb⟩ := DataW.trod_int Try.underlying3 hy1
  obtain ⟨c, e2, q2, wc⟩ := DataW.trod_int Try.underlying3 hy2
  obtain ⟨s, e3, q3, ws⟩ := DataW.trod_string Try.underlying9 hy3
  simp at e0 e1 e2 e3
  subst e0 e1 e2 e3 q0 q1 q2 q3
  refine ⟨⟨a, b, c, s.data.toList⟩, rfl, ⟨wa, wb, wc, ws⟩, fun k hk => ?_⟩
  obtain rfl : k = s.data.toList.length := by simpa using hk
  rw [hd]
  simp [DataW.weights, DataW.weightsEach, Try.underlying32]
theorem open_ansR {v : Value} {d : DataW H} {p : List MemPlace} {r : Reach} (hv : Value.okWide Try.prog W r b0 35 v) (h : DataW.Trod enc Try.prog W base spare held 35 v d p) : ∃ x : AnsT, v = x.v ∧ x.Ok ∧ ∀ k ∈ [x.l.length], k ∈ d.weights Try.prog 35 := by
  obtain ⟨x0, x1, x2, y0, y1, y2, m, rfl, hd, _, hy0, hy1, hy2⟩ := Joins.open_agg3 Try.underlying35 (by kernel_rfl) (by kernel_rfl) hv h
  obtain ⟨a, e0, q0, wa⟩ := DataW.trod_int Try.underlying3 hy0
  obtain ⟨b, e1, q1, wb⟩ := DataW.trod_int Try.underlying33 hy1
  obtain ⟨s, e2, q2, ws⟩ := DataW.trod_string Try.underlying9 hy2
  simp at e0 e1 e2
  subst e0 e1 e2 q0 q1 q2
  refine ⟨⟨a, b, s.data.toList⟩, rfl, ⟨wa, wb, ws⟩, fun k hk => ?_⟩
  obtain rfl : k = s.data.toList.length := by simpa using hk
  rw [hd]
  simp [DataW.weights, DataW.weightsEach, Try.underlying35]
end
theorem weights_in {H : Type} {P : Program} : ∀ {ts : List TypeId} {ds : List (DataW H)} {j : Nat} {t : TypeId} {d : DataW H} {k : Nat}, ts[j]? = some t → ds[j]? = some d → k ∈ d.weights P t → k ∈ DataW.weightsEach P ts ds
  | t0 :: ts, d0 :: ds, 0, t, d, k, ht, hd, hk => by
    simp only [List.getElem?_cons_zero, Option.some.injEq] at ht hd
    subst ht hd
    simp only [DataW.weightsEach, List.mem_append]
    exact .inl hk
  | t0 :: ts, d0 :: ds, j + 1, t, d, k, ht, hd, hk => by
    simp only [DataW.weightsEach, List.mem_append]
    exact .inr (weights_in (by simpa using ht) (by simpa using hd) hk)
  | [], _, _, _, _, _, ht, _, _ => by simp at ht
  | _ :: _, [], _, _, _, _, _, hd, _ => by simp at hd
theorem weights_app {H : Type} {P : Program} : ∀ {ts ts' : List TypeId} {ds ds' : List (DataW H)} {k : Nat}, k ∈ DataW.weightsEach P ts ds → k ∈ DataW.weightsEach P (ts ++ ts') (ds ++ ds')
  | t0 :: ts, ts', d0 :: ds, ds', k, hk => by
    simp only [DataW.weightsEach, List.mem_append, List.cons_append] at hk ⊢
    exact hk.imp id weights_app
  | [], _, _, _, _, hk => by simp [DataW.weightsEach] at hk
  | _ :: _, _, [], _, _, hk => by simp [DataW.weightsEach] at hk
end Go.Proofs.Ytaccjneglaomhaa
