/- Walks of locks: Ask. -/
import Derived.Test.YtiihlbaajopllaaLkJ
set_option linter.unusedVariables false
set_option maxRecDepth 100000
namespace Go.Proofs.Ytiihlbaajopllaa
open Go.RowKit

theorem set4_2 {w : World} {g : Nat} {T : TypeId} {a b c d : Value} (x : Value) (k : w.heap[g]? = some (.cells #[a, b, c, d] T (0, 0))) : w.setCell ⟨g, 2, none⟩ x = w.setRow g #[a, b, x, d] := by
  rw [setCell_eq_setRow w g 2 _ T (0, 0) _ k]; rfl
theorem set4_3 {w : World} {g : Nat} {T : TypeId} {a b c d : Value} (x : Value) (k : w.heap[g]? = some (.cells #[a, b, c, d] T (0, 0))) : w.setCell ⟨g, 3, none⟩ x = w.setRow g #[a, b, c, x] := by
  rw [setCell_eq_setRow w g 3 _ T (0, 0) _ k]; rfl
structure NewNd (W : World) (S : Nat → Prop) (ns : List Nd) (nd : Nd) : Prop where
  b : W.heap[nd.a]? = some (.cells #[.int .i64 nd.p.1, nd.wv, .bool nd.has, .pointer none] 95 (0, 0))
  w : OwnR W 0 52 2 One nd.wv nd.p.2.length (wncs nd.p.2)
  s : S nd.a
  sw : ∀ b, nd.wv.ownBlock = some b → S b
  ne : ∀ (i : Nat) (x : Nd), ns[i]? = some x → x.a ≠ nd.a
  len : ns.length < 16
  wl : nd.p.2.length ≤ 4
theorem LkP.push0 {W : World} {S : Nat → Prop} {g : Nat} {nd : Nd} (h : LkP W S g []) (k : NewNd W S [] nd) : LkP (W.setRow g #[.pointer (some ⟨nd.a, 0, none⟩)]) S g [nd] where
  hg := setRow_heap _ _ _ _ _ _ h.hg
  nd := fun i x hx => by
    obtain ⟨rfl, rfl⟩ : i = 0 ∧ x = nd := by
      cases i with
      | zero => simpa using hx.symm
      | succ i => simp at hx
    rw [setRow_other _ _ _ _ (fun e => by have := k.b; rw [e, h.hg] at this; simp at this)]
    exact k.b
  wn := fun i x hx => by
    obtain ⟨rfl, rfl⟩ : i = 0 ∧ x = nd := by
      cases i with
      | zero => simpa using hx.symm
      | succ i => simp at hx
    exact k.w.set h.hg (by decide)
  inj := fun i j x y hx hy _ => by
    have h1 := (List.getElem?_eq_some_iff.1 hx).1
    have h2 := (List.getElem?_eq_some_iff.1 hy).1
    simp at h1 h2
    omega
  sg := h.sg
  sa := fun i x hx => by
    have := List.mem_of_getElem? hx
    simp at this
    subst this
    exact k.s
  sw := fun i x hx => by
    have := List.mem_of_getElem? hx
    simp at this
    subst this
    exact k.sw
  len := by simp
  wl := fun i x hx => by
    have := List.mem_of_getElem? hx
    simp at this
    subst this
    exact k.wl
theorem snoc_cases {ns : List Nd} {nd : Nd} {i : Nat} {x : Nd} (h : (ns ++ [nd])[i]? = some x) : (i < ns.length ∧ ns[i]? = some x) ∨ (i = ns.length ∧ x = nd) := by
  by_cases hi : i < ns.length
  · rw [List.getElem?_append_left hi] at h
    exact .inl ⟨hi, h⟩
  · rw [List.getElem?_append_right (by omega)] at h
    have h2 := (List.getElem?_eq_some_iff.1 h).1
    simp at h2
    obtain rfl : i = ns.length := by omega
    simp at h
    exact .inr ⟨rfl, h.symm⟩
theorem ptrAt_snoc {ns : List Nd} {nd : Nd} {i : Nat} (hi : i < ns.length) : ptrAt (ns ++ [nd]) i = ptrAt ns i := by
  unfold ptrAt
  rw [List.getElem?_append_left hi]
theorem LkP.push1 {W : World} {S : Nat → Prop} {g k : Nat} {ns : List Nd} {z nd : Nd} (h : LkP W S g ns) (hk : ns.length = k + 1) (hz : ns[k]? = some z) (q : NewNd W S ns nd) :
    LkP (W.setRow z.a #[.int .i64 z.p.1, z.wv, .bool z.has, .pointer (some ⟨nd.a, 0, none⟩)]) S g (ns ++ [nd]) where
  hg := by
    rw [ptrAt_snoc (by omega), setRow_other _ _ _ _ (fun e => by have := h.nd k z hz; rw [← e, h.hg] at this; simp at this)]
    exact h.hg
  nd := fun i x hx => by
    rcases snoc_cases hx with ⟨hi, hx'⟩ | ⟨rfl, rfl⟩
    · by_cases hik : i = k
      · subst hik
        rw [hz] at hx'
        cases hx'
        rw [setRow_heap _ _ _ _ _ _ (h.nd _ _ hz)]
        rw [show ptrAt (ns ++ [nd]) (i + 1) = .pointer (some ⟨nd.a, 0, none⟩) from ptrAt_some (by rw [← hk]; simp)]
      · rw [ptrAt_snoc (by omega), setRow_other _ _ _ _ (fun e => hik (h.inj i k x z hx' hz e))]
        exact h.nd i x hx'
    · rw [setRow_other _ _ _ _ (fun e => q.ne k z hz e.symm), ptrAt_none (by simp)]
      exact q.b
  wn := fun i x hx => by
    rcases snoc_cases hx with ⟨hi, hx'⟩ | ⟨rfl, rfl⟩
    · exact (h.wn i x hx').set (h.nd k z hz) (by decide)
    · exact q.w.set (h.nd k z hz) (by decide)
  inj := fun i j x y hx hy e => by
    rcases snoc_cases hx with ⟨hi, hx'⟩ | ⟨rfl, rfl⟩ <;> rcases snoc_cases hy with ⟨hj, hy'⟩ | ⟨rfl, rfl⟩
    · exact h.inj i j x y hx' hy' e
    · exact absurd e (q.ne i x hx')
    · exact absurd e.symm (q.ne j y hy')
    · rfl
  sg := h.sg
  sa := fun i x hx => by
    rcases snoc_cases hx with ⟨hi, hx'⟩ | ⟨rfl, rfl⟩
    · exact h.sa i x hx'
    · exact q.s
  sw := fun i x hx => by
    rcases snoc_cases hx with ⟨hi, hx'⟩ | ⟨rfl, rfl⟩
    · exact h.sw i x hx'
    · exact q.sw
  len := by have := q.len; simp; omega
  wl := fun i x hx => by
    rcases snoc_cases hx with ⟨hi, hx'⟩ | ⟨rfl, rfl⟩
    · exact h.wl i x hx'
    · exact q.wl
theorem has_snoc {ns : List Nd} {L : List Tk} {nd : Nd} (hL : ns.map (·.p) = L) (hh : ∀ (i : Nat) (x : Nd), ns[i]? = some x → x.has = hasAt L i) (hb : nd.has = mayB L nd.p.2) :
    ∀ (i : Nat) (x : Nd), (ns ++ [nd])[i]? = some x → x.has = hasAt (L ++ [nd.p]) i := by
  intro i x hx
  have hlen : ns.length = L.length := by rw [← hL]; simp
  rcases snoc_cases hx with ⟨hi, hx'⟩ | ⟨rfl, rfl⟩
  · rw [hasAt_app _ _ (by omega)]
    exact hh i x hx'
  · rw [hb, hasAt_some (p := x.p) (by rw [hlen]; simp), hlen]
    simp
theorem any_twice (L : List Tk) (n : Int) : (L.any fun q => decide (q.1 = n)) = (atL L n).isSome := by
  rcases atL_spec L n with ⟨h1, h2⟩ | ⟨i, p, h1, h2, h3, _⟩
  · rw [h1]
    exact List.any_eq_false.2 fun q hq => by simpa using h2 q hq
  · rw [h1]
    exact List.any_eq_true.2 ⟨p, List.mem_of_getElem? h2, by simpa using h3⟩
end Go.Proofs.Ytiihlbaajopllaa
