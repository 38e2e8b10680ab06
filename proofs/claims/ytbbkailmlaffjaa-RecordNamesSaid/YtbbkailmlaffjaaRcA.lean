/- Plain law of records: a reader's state, what a byte makes of it, what a chunk makes of it and tells. No program in sight. -/
import Derived.Test.YtbbkailmlaffjaaRdE
import Derived.Test.YtbbkailmlaffjaaGen
set_option linter.unusedVariables false
namespace Go.Proofs.Ytbbkailmlaffjaa

structure Rc where
  hd : List UInt8
  left : Nat
  last : Bool
  body : List UInt8
  held : Nat
  shut : Bool
def rc0 : Rc := ⟨[], 0, false, [], 0, false⟩
def rcShut : Rc := ⟨[], 0, false, [], 0, true⟩
/-- The number that bytes are, the greatest first. -/
def bn (l : List UInt8) : Nat := l.foldl (fun n b => n * 256 + b.toNat) 0
def Rc.begin (s : Rc) : Rc := if 4096 < s.body.length + bn s.hd % 2147483648 then rcShut else { s with last := decide (2147483648 ≤ bn s.hd), left := bn s.hd % 2147483648 }
def Rc.fin (s : Rc) : Rc × List (List UInt8) := if s.hd.length < 4 ∨ 0 < s.left then (s, []) else if s.last then ({ s with hd := [], body := [], held := 0 }, [s.body]) else ({ s with hd := [] }, [])
def Rc.eatN (s : Rc) (c : List UInt8) : Nat := if s.hd.length = 4 then min s.left c.length else min (4 - s.hd.length) c.length
def Rc.eatB (s : Rc) (x : List UInt8) : Rc := { s with body := s.body ++ x, left := s.left - x.length, held := s.held + x.length }
def Rc.eatH (s : Rc) (x : List UInt8) : Rc := if s.hd.length + x.length = 4 then Rc.begin { s with hd := s.hd ++ x, held := s.held + x.length } else { s with hd := s.hd ++ x, held := s.held + x.length }
/-- Bytes that belong to one head, or to one fragment. -/
def Rc.eat (s : Rc) (x : List UInt8) : Rc := if s.hd.length = 4 then s.eatB x else s.eatH x
def Rc.one (s : Rc) (b : UInt8) : Rc × List (List UInt8) := if s.shut then (s, []) else (s.eat [b]).fin
def feed : Rc → List UInt8 → Rc × List (List UInt8)
  | s, [] => (s, [])
  | s, b :: c => ((feed (s.one b).1 c).1, (s.one b).2 ++ (feed (s.one b).1 c).2)
structure Rc.Ok (s : Rc) : Prop where
  hl : s.hd.length ≤ 4
  bm : s.hd.length = 4 → 0 < s.left
  hm : s.hd.length < 4 → s.left = 0
  bl : s.body.length + s.left ≤ 4096
  sh : s.shut = true → s = rcShut
theorem rc0_ok : rc0.Ok := ⟨by decide, by decide, by decide, by decide, by simp [rc0]⟩
theorem rcShut_ok : rcShut.Ok := ⟨by decide, by decide, by decide, by decide, fun _ => rfl⟩
theorem feed_nil (s : Rc) : feed s [] = (s, []) := rfl
theorem feed_cons (s : Rc) (b : UInt8) (c : List UInt8) : feed s (b :: c) = ((feed (s.one b).1 c).1, (s.one b).2 ++ (feed (s.one b).1 c).2) := rfl
theorem feed_append (a b : List UInt8) : ∀ s : Rc, feed s (a ++ b) = ((feed (feed s a).1 b).1, (feed s a).2 ++ (feed (feed s a).1 b).2) := by
  induction a with
  | nil => intro s; simp [feed_nil]
  | cons x a ih =>
    intro s
    rw [List.cons_append, feed_cons, feed_cons, ih]
    simp [List.append_assoc]
theorem feed_shut {s : Rc} (h : s.shut = true) : ∀ c, feed s c = (s, [])
  | [] => rfl
  | b :: c => by
    have e : s.one b = (s, []) := by unfold Rc.one; rw [if_pos h]
    rw [feed_cons, e, feed_shut h c]
    rfl
theorem Rc.begin_ok {s : Rc} (h4 : s.hd.length = 4) (hs : s.shut = false) (hn : bn s.hd % 2147483648 ≠ 0 ∨ 4096 < s.body.length + bn s.hd % 2147483648) : s.begin.Ok := by
  unfold Rc.begin
  by_cases h : 4096 < s.body.length + bn s.hd % 2147483648
  · rw [if_pos h]; exact rcShut_ok
  · rw [if_neg h]
    refine ⟨by show s.hd.length ≤ 4; omega, fun _ => ?_, fun hl => ?_, ?_, fun hx => ?_⟩
    · show 0 < bn s.hd % 2147483648
      omega
    · have : s.hd.length < 4 := hl
      omega
    · show s.body.length + bn s.hd % 2147483648 ≤ 4096
      omega
    · have : s.shut = true := hx
      rw [hs] at this
      cases this
/-- What holds ahead of 'fin'. -/
structure Rc.Pre (s : Rc) : Prop where
  hl : s.hd.length ≤ 4
  hm : s.hd.length < 4 → s.left = 0
  bl : s.body.length + s.left ≤ 4096
  sh : s.shut = true → s = rcShut
theorem Rc.Ok.pre {s : Rc} (h : s.Ok) : s.Pre := ⟨h.hl, h.hm, h.bl, h.sh⟩
theorem Rc.Pre.fin {s : Rc} (h : s.Pre) : s.fin.1.Ok := by
  unfold Rc.fin
  by_cases hc : s.hd.length < 4 ∨ 0 < s.left
  · rw [if_pos hc]
    exact ⟨h.hl, fun (h4 : s.hd.length = 4) => by rcases hc with hc | hc <;> omega, h.hm, h.bl, h.sh⟩
  · rw [if_neg hc]
    have hs : s.shut ≠ true := fun e => hc (by rw [h.sh e]; exact .inl (by decide))
    have hl0 : s.left = 0 := by omega
    by_cases hla : s.last = true
    · rw [if_pos hla]
      exact ⟨by simp, fun h4 => by simp at h4, fun _ => hl0, by simp [hl0], fun e => absurd e hs⟩
    · rw [if_neg hla]
      exact ⟨by simp, fun h4 => by simp at h4, fun _ => hl0, h.bl, fun e => absurd e hs⟩
theorem Rc.begin_pre {s : Rc} (h4 : s.hd.length = 4) (hs : s.shut = false) : s.begin.Pre := by
  unfold Rc.begin
  by_cases h : 4096 < s.body.length + bn s.hd % 2147483648
  · rw [if_pos h]; exact rcShut_ok.pre
  · rw [if_neg h]
    refine ⟨by show s.hd.length ≤ 4; omega, fun hl => ?_, by show s.body.length + bn s.hd % 2147483648 ≤ 4096; omega, fun hx => ?_⟩
    · have : s.hd.length < 4 := hl
      omega
    · have : s.shut = true := hx
      rw [hs] at this
      cases this
theorem Rc.eat_pre {s : Rc} (h : s.Ok) (hs : s.shut = false) {x : List UInt8} (hx : x.length ≤ if s.hd.length = 4 then s.left else 4 - s.hd.length) : (s.eat x).Pre := by
  unfold Rc.eat
  by_cases h4 : s.hd.length = 4
  · rw [if_pos h4] at hx ⊢
    refine ⟨h.hl, fun hl => ?_, ?_, fun e => ?_⟩
    · have : s.hd.length < 4 := hl
      omega
    · have := h.bl
      show (s.body ++ x).length + (s.left - x.length) ≤ 4096
      rw [List.length_append]
      omega
    · have : s.shut = true := e
      rw [hs] at this
      cases this
  · rw [if_neg h4] at hx ⊢
    have := h.hl
    unfold Rc.eatH
    by_cases h5 : s.hd.length + x.length = 4
    · rw [if_pos h5]
      exact Rc.begin_pre (by rw [List.length_append]; exact h5) hs
    · rw [if_neg h5]
      refine ⟨?_, fun _ => h.hm (by omega), h.bl, fun e => ?_⟩
      · show (s.hd ++ x).length ≤ 4
        rw [List.length_append]
        omega
      · have : s.shut = true := e
        rw [hs] at this
        cases this
/-- Bytes of one head, or of one fragment, taken in at once, come to them taken in one by one. -/
theorem feed_eat : ∀ {x : List UInt8} {s : Rc}, s.Ok → s.shut = false → x ≠ [] → (x.length ≤ if s.hd.length = 4 then s.left else 4 - s.hd.length) → feed s x = (s.eat x).fin
  | [], _, _, _, h, _ => absurd rfl h
  | [b], s, hok, hs, _, _ => by
    rw [feed_cons, feed_nil]
    unfold Rc.one
    rw [hs]
    simp
  | b :: b2 :: x, s, hok, hs, _, hx => by
    have e1 : s.one b = (s.eat [b]).fin := by unfold Rc.one; rw [hs]; rfl
    by_cases h4 : s.hd.length = 4
    · rw [if_pos h4] at hx
      simp only [List.length_cons] at hx
      have e2 : s.eat [b] = s.eatB [b] := by unfold Rc.eat; rw [if_pos h4]
      have e3 : (s.eatB [b]).fin = (s.eatB [b], []) := by
        unfold Rc.fin
        rw [if_pos (.inr (by show 0 < s.left - [b].length; simp; omega))]
      have hok1 : (s.eatB [b]).Ok := by
        have h5 := (Rc.eat_pre hok hs (x := [b]) (by rw [if_pos h4]; simp; omega)).fin
        rw [e2, e3] at h5
        exact h5
      have ih := feed_eat (x := b2 :: x) hok1 hs (by simp) (by
        have : (s.eatB [b]).hd.length = 4 := h4
        rw [if_pos this]
        show (b2 :: x).length ≤ s.left - [b].length
        simp
        omega)
      rw [feed_cons, e1, e2, e3]
      simp only
      rw [ih]
      have e4 : (s.eatB [b]).eat (b2 :: x) = s.eat (b :: b2 :: x) := by
        unfold Rc.eat
        rw [if_pos h4, if_pos (show (s.eatB [b]).hd.length = 4 from h4)]
        unfold Rc.eatB
        simp [List.append_assoc]
        omega
      rw [e4]
      rfl
    · rw [if_neg h4] at hx
      simp only [List.length_cons] at hx
      have := hok.hl
      have e2 : s.eat [b] = { s with hd := s.hd ++ [b], held := s.held + 1 } := by
        unfold Rc.eat Rc.eatH
        rw [if_neg h4, if_neg (by simp; omega)]
        rfl
      have e3 : (Rc.mk (s.hd ++ [b]) s.left s.last s.body (s.held + 1) s.shut).fin = (⟨s.hd ++ [b], s.left, s.last, s.body, s.held + 1, s.shut⟩, []) := by
        unfold Rc.fin
        rw [if_pos (.inl (by simp; omega))]
      have hok1 : (Rc.mk (s.hd ++ [b]) s.left s.last s.body (s.held + 1) s.shut).Ok := by
        have h5 := (Rc.eat_pre hok hs (x := [b]) (by rw [if_neg h4]; simp; omega)).fin
        rw [e2, e3] at h5
        exact h5
      have hne : ¬ (s.hd ++ [b]).length = 4 := by simp; omega
      have ih := feed_eat (x := b2 :: x) hok1 hs (by simp) (by
        rw [if_neg hne]
        show (b2 :: x).length ≤ 4 - (s.hd ++ [b]).length
        simp
        omega)
      rw [feed_cons, e1, e2]
      show ((feed (Rc.fin _).1 (b2 :: x)).1, (Rc.fin _).2 ++ (feed (Rc.fin _).1 (b2 :: x)).2) = _
      rw [e3]
      simp only
      rw [ih]
      have e4 : (Rc.mk (s.hd ++ [b]) s.left s.last s.body (s.held + 1) s.shut).eat (b2 :: x) = s.eat (b :: b2 :: x) := by
        unfold Rc.eat
        rw [if_neg h4, if_neg hne]
        unfold Rc.eatH
        have e5 : (s.hd ++ [b]).length + (b2 :: x).length = s.hd.length + (b :: b2 :: x).length := by simp; omega
        simp only [e5]
        have e6 : s.hd ++ [b] ++ (b2 :: x) = s.hd ++ (b :: b2 :: x) := by simp
        have e7 : s.held + 1 + (b2 :: x).length = s.held + (b :: b2 :: x).length := by simp; omega
        simp only [e6, e7]
      rw [e4]
      rfl
theorem feed_ok : ∀ (c : List UInt8) {s : Rc}, s.Ok → (feed s c).1.Ok
  | [], _, h => h
  | b :: c, s, h => by
    rw [feed_cons]
    refine feed_ok c ?_
    unfold Rc.one
    cases hs : s.shut with
    | true => exact h
    | false =>
      refine (Rc.eat_pre h hs ?_).fin
      by_cases h4 : s.hd.length = 4
      · rw [if_pos h4]; have := h.bm h4; simp; omega
      · rw [if_neg h4]; have := h.hl; simp; omega
end Go.Proofs.Ytbbkailmlaffjaa
