/- Plain law of records: going through bytes by heads and fragments, as the document does, comes to the reader's own way. No program in sight. -/
import Derived.Test.YtbbkailmlaffjaaRcN
set_option linter.unusedVariables false
namespace Go.Proofs.Ytbbkailmlaffjaa

theorem feed_few {la : Bool} {body x : List UInt8} {held : Nat} (hb : body.length ≤ 4096) (h : x.length < 4) : feed (rdyR la body held) x = (⟨x, 0, la, body, held + x.length, false⟩, []) := by
  by_cases hx : x = []
  · subst hx
    rfl
  · rw [feed_eat (rdy_ok hb) rfl hx (by rw [if_neg (by simp [rdyR])]; simp [rdyR]; omega)]
    have e : (rdyR la body held).eat x = ⟨x, 0, la, body, held + x.length, false⟩ := by
      unfold Rc.eat
      rw [if_neg (by simp [rdyR])]
      unfold Rc.eatH
      rw [if_neg (by simp [rdyR]; omega)]
      rfl
    rw [e]
    unfold Rc.fin
    rw [if_pos (.inl h)]
theorem feed_head {la : Bool} {body h4 : List UInt8} {held : Nat} (hb : body.length ≤ 4096) (h : h4.length = 4) : feed (rdyR la body held) h4 = (Rc.begin ⟨h4, 0, la, body, held + 4, false⟩).fin := by
  have hne : h4 ≠ [] := by intro e; rw [e] at h; simp at h
  rw [feed_eat (rdy_ok hb) rfl hne (by rw [if_neg (by simp [rdyR])]; simp [rdyR]; omega)]
  congr 1
  unfold Rc.eat
  rw [if_neg (by simp [rdyR])]
  unfold Rc.eatH
  rw [if_pos (by simp [rdyR]; omega), h]
  rfl
theorem feed_over {la : Bool} {body h4 x : List UInt8} {held : Nat} (hb : body.length ≤ 4096) (h : h4.length = 4) (hn : 4096 < body.length + bn h4 % 2147483648) : feed (rdyR la body held) (h4 ++ x) = (rcShut, []) := by
  rw [feed_append, feed_head hb h]
  have e : (Rc.begin ⟨h4, 0, la, body, held + 4, false⟩) = rcShut := by unfold Rc.begin; rw [if_pos hn]
  rw [e]
  have e2 : rcShut.fin = (rcShut, []) := rfl
  rw [e2]
  simp only
  rw [feed_shut rfl]
  rfl
theorem feed_part {la : Bool} {body h4 x : List UInt8} {held : Nat} (h : h4.length = 4) (hn : body.length + bn h4 % 2147483648 ≤ 4096) (hx : x.length < bn h4 % 2147483648) :
    feed (rdyR la body held) (h4 ++ x) = (⟨h4, bn h4 % 2147483648 - x.length, decide (2147483648 ≤ bn h4), body ++ x, held + 4 + x.length, false⟩, []) := by
  rw [feed_append, feed_head (by omega) h]
  have e : (Rc.begin ⟨h4, 0, la, body, held + 4, false⟩) = ⟨h4, bn h4 % 2147483648, decide (2147483648 ≤ bn h4), body, held + 4, false⟩ := by
    unfold Rc.begin
    rw [if_neg (show ¬ 4096 < body.length + bn h4 % 2147483648 by omega)]
  rw [e]
  have e2 : (⟨h4, bn h4 % 2147483648, decide (2147483648 ≤ bn h4), body, held + 4, false⟩ : Rc).fin = (⟨h4, bn h4 % 2147483648, decide (2147483648 ≤ bn h4), body, held + 4, false⟩, []) := by
    unfold Rc.fin
    rw [if_pos (.inr (show 0 < bn h4 % 2147483648 by omega))]
  rw [e2]
  simp only
  have hok : (⟨h4, bn h4 % 2147483648, decide (2147483648 ≤ bn h4), body, held + 4, false⟩ : Rc).Ok := ⟨Nat.le_of_eq h, fun _ => by show 0 < bn h4 % 2147483648; omega, fun h5 => by have : h4.length < 4 := h5; omega, hn, fun e => by cases e⟩
  by_cases hx0 : x = []
  · subst hx0
    simp [feed_nil]
  · rw [feed_eat hok rfl hx0 (by rw [if_pos h]; show x.length ≤ bn h4 % 2147483648; omega)]
    have e3 : (⟨h4, bn h4 % 2147483648, decide (2147483648 ≤ bn h4), body, held + 4, false⟩ : Rc).eat x = ⟨h4, bn h4 % 2147483648 - x.length, decide (2147483648 ≤ bn h4), body ++ x, held + 4 + x.length, false⟩ := by
      unfold Rc.eat
      rw [if_pos h]
      rfl
    rw [e3]
    unfold Rc.fin
    rw [if_pos (.inr (show 0 < bn h4 % 2147483648 - x.length by omega))]
    rfl
theorem feed_whole {la : Bool} {body h4 x : List UInt8} {held : Nat} (h : h4.length = 4) (hn : body.length + bn h4 % 2147483648 ≤ 4096) (hx : x.length = bn h4 % 2147483648) :
    feed (rdyR la body held) (h4 ++ x) = if 2147483648 ≤ bn h4 then (rdyR true [] 0, [body ++ x]) else (rdyR false (body ++ x) (held + 4 + x.length), []) := by
  rw [feed_append, feed_head (by omega) h]
  have e : (Rc.begin ⟨h4, 0, la, body, held + 4, false⟩) = ⟨h4, x.length, decide (2147483648 ≤ bn h4), body, held + 4, false⟩ := by
    unfold Rc.begin
    rw [if_neg (show ¬ 4096 < body.length + bn h4 % 2147483648 by omega), hx]
  rw [e]
  obtain ⟨lst, hl⟩ : ∃ lst, decide (2147483648 ≤ bn h4) = lst := ⟨_, rfl⟩
  have hif : ∀ (a b : Rc × List (List UInt8)), (if 2147483648 ≤ bn h4 then a else b) = if lst then a else b := fun a b => by rw [← hl]; simp
  rw [hl, hif]
  by_cases hx0 : x = []
  · subst hx0
    have e2 : (⟨h4, ([] : List UInt8).length, lst, body, held + 4, false⟩ : Rc).fin = if lst then (rdyR true [] 0, [body]) else (rdyR false body (held + 4), []) := by
      unfold Rc.fin
      rw [if_neg (by simp [h])]
      cases lst <;> rfl
    rw [e2]
    cases lst <;> simp [feed_nil]
  · have hxl := List.length_pos_iff.2 hx0
    have e2 : (⟨h4, x.length, lst, body, held + 4, false⟩ : Rc).fin = (⟨h4, x.length, lst, body, held + 4, false⟩, []) := by
      unfold Rc.fin
      rw [if_pos (.inr hxl)]
    rw [e2]
    simp only
    have hok : (⟨h4, x.length, lst, body, held + 4, false⟩ : Rc).Ok := ⟨Nat.le_of_eq h, fun _ => hxl, fun h5 => by have : h4.length < 4 := h5; omega, by show body.length + x.length ≤ 4096; omega, fun e => by cases e⟩
    rw [feed_eat hok rfl hx0 (by rw [if_pos h]; exact Nat.le_refl _)]
    have e3 : (⟨h4, x.length, lst, body, held + 4, false⟩ : Rc).eat x = ⟨h4, 0, lst, body ++ x, held + 4 + x.length, false⟩ := by
      unfold Rc.eat
      rw [if_pos h]
      unfold Rc.eatB
      simp
    rw [e3]
    unfold Rc.fin
    rw [if_neg (by simp [h])]
    cases lst <;> simp [rdyR]
/-- What the document has come to, at a place. -/
def Td (s : List UInt8) (at_ whole : Nat) (rec : List UInt8) (out : List (List UInt8)) : Prop := ∃ la, feed rc0 (s.take at_) = (rdyR la rec (at_ - whole), out) ∧ whole ≤ at_ ∧ at_ ≤ s.length ∧ rec.length ≤ 4096
/-- What it says in the end. -/
def Tell (s : List UInt8) (xs : List (List UInt8)) (whole : Nat) (shut : Bool) : Prop := ∃ st, feed rc0 s = (st, xs) ∧ st.shut = shut ∧ whole ≤ s.length ∧ (shut = false → st.held = s.length - whole)
theorem Td.start (s : List UInt8) : Td s 0 0 [] [] := ⟨false, rfl, Nat.le_refl _, Nat.zero_le _, by simp⟩
def hd4 (s : List UInt8) (a : Nat) : List UInt8 := (s.drop a).take 4
theorem hd4_length {s : List UInt8} {a : Nat} (h : a + 4 ≤ s.length) : (hd4 s a).length = 4 := by simp [hd4]; omega
theorem drop_hd4 (s : List UInt8) (a : Nat) : s.drop a = hd4 s a ++ s.drop (a + 4) := by
  unfold hd4
  conv => lhs; rw [← List.take_append_drop 4 (s.drop a)]
  rw [List.drop_drop]
section
variable {s : List UInt8} {a whole : Nat} {rec : List UInt8} {out : List (List UInt8)}
theorem Td.few (h : Td s a whole rec out) (hl : s.length < a + 4) : Tell s out whole false := by
  obtain ⟨la, h1, h2, h3, h4⟩ := h
  have hx : (s.drop a).length < 4 := by simp; omega
  have e := feed_few (la := la) (held := a - whole) h4 hx
  refine ⟨⟨s.drop a, 0, la, rec, (a - whole) + (s.drop a).length, false⟩, (feed_end h1 e).trans (by simp), rfl, by omega, fun _ => ?_⟩
  show a - whole + (s.drop a).length = _
  simp
  omega
theorem Td.over (h : Td s a whole rec out) (hl : a + 4 ≤ s.length) (hn : 4096 < rec.length + bn (hd4 s a) % 2147483648) : Tell s out whole true := by
  obtain ⟨la, h1, h2, h3, h4⟩ := h
  have e := feed_over (la := la) (held := a - whole) (x := s.drop (a + 4)) h4 (hd4_length hl) hn
  rw [← drop_hd4] at e
  exact ⟨rcShut, (feed_end h1 e).trans (by simp), rfl, by omega, fun h => by cases h⟩
theorem Td.part (h : Td s a whole rec out) (hl : a + 4 ≤ s.length) (hn : rec.length + bn (hd4 s a) % 2147483648 ≤ 4096) (hx : s.length < a + 4 + bn (hd4 s a) % 2147483648) : Tell s out whole false := by
  obtain ⟨la, h1, h2, h3, h4⟩ := h
  have e := feed_part (la := la) (held := a - whole) (x := s.drop (a + 4)) (hd4_length hl) hn (by simp; omega)
  rw [← drop_hd4] at e
  refine ⟨⟨hd4 s a, bn (hd4 s a) % 2147483648 - (s.drop (a + 4)).length, decide (2147483648 ≤ bn (hd4 s a)), rec ++ s.drop (a + 4), (a - whole) + 4 + (s.drop (a + 4)).length, false⟩, (feed_end h1 e).trans (by simp), rfl, by omega, fun _ => ?_⟩
  show a - whole + 4 + (s.drop (a + 4)).length = _
  simp
  omega
theorem Td.all (h : Td s a whole rec out) (hl : a + 4 ≤ s.length) {n : Nat} (hbn : bn (hd4 s a) % 2147483648 = n) (hn : rec.length + n ≤ 4096) (hx : a + 4 + n ≤ s.length) :
    if 2147483648 ≤ bn (hd4 s a) then Td s (a + 4 + n) (a + 4 + n) [] (out ++ [rec ++ (s.drop (a + 4)).take n]) else Td s (a + 4 + n) whole (rec ++ (s.drop (a + 4)).take n) out := by
  obtain ⟨la, h1, h2, h3, h4⟩ := h
  have hxl : ((s.drop (a + 4)).take n).length = n := by simp; omega
  have e := feed_whole (la := la) (held := a - whole) (x := (s.drop (a + 4)).take n) (hd4_length hl) (body := rec) (by omega) (by omega)
  have e2 : hd4 s a ++ (s.drop (a + 4)).take n = (s.drop a).take (a + 4 + n - a) := by
    have : (s.drop a).take (4 + n) = hd4 s a ++ (s.drop (a + 4)).take n := by
      rw [List.take_add, List.drop_drop]; rfl
    rw [← this]
    congr 1
    omega
  rw [e2] at e
  split
  · rename_i hc
    rw [if_pos hc] at e
    have := feed_to h1 (by omega) e
    exact ⟨true, by rw [this]; simp, Nat.le_refl _, hx, by simp⟩
  · rename_i hc
    rw [if_neg hc] at e
    have := feed_to h1 (by omega) e
    refine ⟨false, ?_, by omega, hx, by rw [List.length_append, hxl]; omega⟩
    rw [this, hxl]
    simp
    congr 1
    omega
end
end Go.Proofs.Ytbbkailmlaffjaa
