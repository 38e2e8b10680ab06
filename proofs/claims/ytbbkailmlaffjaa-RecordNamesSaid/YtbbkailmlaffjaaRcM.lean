/- Records: rows of texts among the objects. -/
import Derived.Test.YtbbkailmlaffjaaRcL
set_option linter.unusedVariables false
set_option maxRecDepth 100000
namespace Go.Proofs.Ytbbkailmlaffjaa
open Go.RowKit

theorem away_rs {W : World} {ds : List (Ob Zn)} {i : Nat} {v : Value} {l : List UInt8} (h : RS W v l) : Away W ds i v := fun b off n c e => by
  rcases h with ⟨rfl, _⟩ | ⟨b', off', c', rfl, hb, _⟩
  · cases e
  · cases e
    exact .inl hb
theorem feed_count : ∀ (c : List UInt8) (s : Rc), (feed s c).2.length ≤ c.length
  | [], s => by rw [feed_nil]; simp
  | b :: c, s => by
    rw [feed_cons]
    have h1 := feed_count c (s.one b).1
    have h2 : (s.one b).2.length ≤ 1 := by
      unfold Rc.one
      split
      · simp
      · unfold Rc.fin
        split
        · simp
        · split <;> simp
    simp only [List.length_append, List.length_cons]
    omega
theorem feedOk {c : List UInt8} {s : Rc} {xs : List (List UInt8)} (h : feed rc0 c = (s, xs)) : s.Ok := by
  have := feed_ok c rc0_ok
  rw [h] at this
  exact this
theorem feedHeld {c : List UInt8} {s : Rc} {xs : List (List UInt8)} (h : feed rc0 c = (s, xs)) (hn : c.length ≤ 100000000) : s.held ≤ 100000000 := by
  have h1 := feed_held c rc0
  rw [h] at h1
  have h2 : s.held ≤ rc0.held + c.length := h1
  have h3 : rc0.held = 0 := rfl
  omega
theorem feedCount {c : List UInt8} {s s' : Rc} {xs : List (List UInt8)} (h : feed s c = (s', xs)) : xs.length ≤ c.length := by
  have := feed_count c s
  rw [h] at this
  exact this
/-- Some bytes more. -/
theorem feed_to {l : List UInt8} {a t : Nat} {s s' : Rc} {xs ys : List (List UInt8)} (h : feed rc0 (l.take a) = (s, xs)) (hat : a ≤ t) (h2 : feed s ((l.drop a).take (t - a)) = (s', ys)) : feed rc0 (l.take t) = (s', xs ++ ys) := by
  have e : l.take t = l.take a ++ (l.drop a).take (t - a) := by
    rw [← List.take_add, Nat.add_sub_cancel' hat]
  rw [e, feed_append, h, h2]
theorem feed_end {l : List UInt8} {a : Nat} {s s' : Rc} {xs ys : List (List UInt8)} (h : feed rc0 (l.take a) = (s, xs)) (h2 : feed s (l.drop a) = (s', ys)) : feed rc0 l = (s', xs ++ ys) := by
  conv => lhs; rw [← List.take_append_drop a l]
  rw [feed_append, h, h2]
theorem feed_shuts {c : List UInt8} {s s' : Rc} {xs : List (List UInt8)} (h : feed s c = (s', xs)) (hs : s'.shut = false) : s.shut = false := by
  cases hss : s.shut with
  | false => rfl
  | true =>
    rw [feed_shut hss] at h
    simp only [Prod.mk.injEq] at h
    rw [← h.1, hss] at hs
    exact hs
/-- What is left of a slice. -/
theorem rs_drop {w : World} {A : Option Addr} {c : Nat} {l : List UInt8} {a : Nat} (h : RS w (.slice A l.length c) l) (ha : a ≤ l.length) :
    (A = none ∧ a = 0 ∧ c = 0 ∧ l = []) ∨ (∃ b off, A = some ⟨b, off, none⟩ ∧ b < w.heap.size ∧ a = l.length ∧ c = a ∧ ∀ w', Ext w w' → RS w' (.slice (some ⟨b, off, none⟩) 0 0) (l.drop a)) ∨
      ∃ b off, A = some ⟨b, off, none⟩ ∧ b < w.heap.size ∧ a < c ∧ l.length ≤ c ∧ ∀ w', Ext w w' → RS w' (.slice (some ⟨b, off + a, none⟩) (l.length - a) (c - a)) (l.drop a) := by
  rcases h with ⟨h1, h2⟩ | ⟨b, off, c', h1, hb, hc, hj⟩
  · simp only [Value.slice.injEq] at h1
    exact .inl ⟨h1.1, by rw [h2] at ha; simpa using ha, h1.2.2, h2⟩
  · simp only [Value.slice.injEq] at h1
    obtain ⟨rfl, -, rfl⟩ := h1
    by_cases e : c = a
    · refine .inr (.inl ⟨b, off, rfl, hb, by omega, e, fun w' k => .inr ⟨b, off, 0, ?_, Nat.lt_of_lt_of_le hb (Below.size k), ?_, fun j hj' => ?_⟩⟩)
      · simp; omega
      · simp; omega
      · simp at hj'; omega
    · refine .inr (.inr ⟨b, off, rfl, hb, by omega, hc, fun w' k => ?_⟩)
      have h2 : RS w' (.slice (some ⟨b, off, none⟩) l.length c) l := RS.ext (.inr ⟨b, off, c, rfl, hb, hc, hj⟩) k
      have := RS.part h2 a (l.length - a) (c - a) (by omega) (by omega)
      rwa [List.take_of_length_le (by simp)] at this
theorem RS.byte {w : World} {A : Option Addr} {c : Nat} {l : List UInt8} (h : RS w (.slice A l.length c) l) {k : Nat} {x : UInt8} (hk : l[k]? = some x) : ∃ b off, A = some ⟨b, off, none⟩ ∧ b < w.heap.size ∧ l.length ≤ c ∧ w.cell? ⟨b, off + k, none⟩ = some (.int .u8 x.toNat) := by
  have hlt := (List.getElem?_eq_some_iff.1 hk).1
  obtain ⟨b, off, rfl, -, hb, hc, hj⟩ := h.some_of (by intro e; subst e; simp at hlt)
  refine ⟨b, off, rfl, hb, hc, ?_⟩
  rw [hj k hlt]
  simp [bvs, hk]
  rfl
theorem away_own {W w : World} {ds : List (Ob Zn)} {T : TypeId} {sz n m i c : Nat} {A : Option Addr} {cs : List Value} (h : OSt W (ownOb T sz (.slice A n c) m cs :: ds) w) : Away W (ownOb T sz (.slice A n c) m cs :: ds) (i + 1) (.slice A n c) := fun b off n' c' e => by
  have ho := h.own 0 rfl
  simp only [Value.slice.injEq] at e
  obtain ⟨rfl, -, -⟩ := e
  obtain ⟨_, ⟨h1, _⟩ | ⟨g, c2, junk, h1, _⟩⟩ := ho
  · cases h1
  · simp only [Value.slice.injEq, Option.some.injEq, Addr.mk.injEq, and_true] at h1
    exact .inr ⟨0, T, sz, _, m, cs, by omega, rfl, by simp [Value.ownBlock]⟩
section
variable {W w : World} {ds : List (Ob Zn)}
theorem OSt.tell (h : OSt W ds w) (i j : Nat) {v x : Value} {xs ys : List (List UInt8)} {ty : TypeId} (hi : ds[i]? = some (strOb v xs)) (hj : ds[j]? = some (strOb x ys)) (hn : xs.length + ys.length ≤ 10000000) :
    ∃ v' w', (Builtin.append_ #[26, 26] ty #[v, x]).run Try.prog w = .ok v' w' ∧ OSt W (ds.set i (strOb v' (xs ++ ys))) w' := by
  obtain ⟨S, h1, h2, h3, _⟩ := h.pick hi
  obtain ⟨ho, hS⟩ := h1
  have hx := (h.own j hj).rr (by decide)
  obtain ⟨v', w', hr, ho', hb, hg, hs⟩ := app_str (ty := ty) ho (hx.src Try.underlying26 (svs_one _)) (Nat.zero_le _) (svs_one _) (by omega)
  refine ⟨v', w', hr, h3 w' (strOb v' (xs ++ ys)) ⟨⟨?_, fun b hb' => ?_⟩, Mut.of_grown hg fun b hb' => hS b hb'⟩⟩
  · rw [List.length_append, svs_app]; exact ho'
  · rcases hs b hb' with h | h
    · exact .inl (hS b h)
    · exact .inr ⟨h, (own_lt ho' hb').2⟩
end
end Go.Proofs.Ytbbkailmlaffjaa
