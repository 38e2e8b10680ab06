/- Plain law of records: what was written is told. -/
import Derived.Test.YtbbkailmlaffjaaRcM
set_option linter.unusedVariables false
namespace Go.Proofs.Ytbbkailmlaffjaa

theorem beV_beN4 (m : Int) (h0 : 0 ≤ m) (h1 : m ≤ 4294967295) : beV (beN m 4) = m := by
  simp only [beV, beN, List.foldl_cons, List.foldl_nil, byteOf_toNat]
  omega
theorem frag_len (s : List UInt8) (b : Bool) : (if b then 2147483648 + (s.length : Int) else (s.length : Int)) = ((if b then 2147483648 + s.length else s.length : Nat) : Int) := by
  cases b <;> simp
theorem beN_bn {n : Nat} (h : n < 4294967296) : bn (beN (n : Int) 4) = n := by
  have h1 := beV_bn (beN (n : Int) 4)
  rw [beV_beN4 n (by omega) (by omega)] at h1
  omega
/-- A reader that is between two fragments. -/
def rdyR (la : Bool) (body : List UInt8) (held : Nat) : Rc := ⟨[], 0, la, body, held, false⟩
theorem rdy_ok {la : Bool} {body : List UInt8} {held : Nat} (h : body.length ≤ 4096) : (rdyR la body held).Ok := ⟨by simp [rdyR], by simp [rdyR], fun _ => rfl, by simpa [rdyR] using h, fun e => by simp [rdyR] at e⟩
theorem feed_frag {la lst : Bool} {body x : List UInt8} {held : Nat} (h : body.length + x.length ≤ 4096) :
    feed (rdyR la body held) (fragB x lst) = if lst then (rdyR true [] 0, [body ++ x]) else (rdyR false (body ++ x) (held + 4 + x.length), []) := by
  obtain ⟨n, hn⟩ : ∃ n : Nat, (if lst then 2147483648 + x.length else x.length) = n := ⟨_, rfl⟩
  have hlt : n < 4294967296 := by rw [← hn]; split <;> omega
  have hm : n % 2147483648 = x.length := by rw [← hn]; cases lst <;> simp <;> omega
  have hd : decide (2147483648 ≤ n) = lst := by rw [← hn]; cases lst <;> simp <;> omega
  have hb : bn (beN (n : Int) 4) = n := beN_bn hlt
  have hl4 : (beN (n : Int) 4).length = 4 := beN_length _ 4
  have hne : beN (n : Int) 4 ≠ [] := by intro e; rw [e] at hl4; simp at hl4
  unfold fragB
  rw [frag_len, hn, feed_append]
  have e1 : feed (rdyR la body held) (beN (n : Int) 4) = (⟨beN (n : Int) 4, x.length, lst, body, held + 4, false⟩ : Rc).fin := by
    rw [feed_eat (rdy_ok (by omega)) rfl hne (by rw [hl4]; simp [rdyR])]
    congr 1
    have : ¬ (rdyR la body held).hd.length = 4 := by simp [rdyR]
    unfold Rc.eat
    rw [if_neg this]
    unfold Rc.eatH
    rw [if_pos (by rw [hl4]; simp [rdyR]), hl4]
    unfold Rc.begin
    simp only [rdyR, List.nil_append, hb, hm, hd]
    rw [if_neg (by omega)]
  rw [e1]
  by_cases hx : x = []
  · subst hx
    have e2 : (⟨beN (n : Int) 4, 0, lst, body, held + 4, false⟩ : Rc).fin = if lst then (rdyR true [] 0, [body]) else (rdyR false body (held + 4), []) := by
      unfold Rc.fin
      rw [if_neg (by simp [hl4])]
      cases lst <;> rfl
    simp only [List.length_nil]
    rw [e2]
    cases lst <;> simp [feed_nil]
  · have hxl := List.length_pos_iff.2 hx
    have e2 : (⟨beN (n : Int) 4, x.length, lst, body, held + 4, false⟩ : Rc).fin = (⟨beN (n : Int) 4, x.length, lst, body, held + 4, false⟩, []) := by
      unfold Rc.fin
      rw [if_pos (.inr hxl)]
    rw [e2]
    simp only
    have hok : (⟨beN (n : Int) 4, x.length, lst, body, held + 4, false⟩ : Rc).Ok := ⟨Nat.le_of_eq hl4, fun _ => hxl, fun h4 => by have : (beN (n : Int) 4).length < 4 := h4; omega, h, fun e => by cases e⟩
    rw [feed_eat hok rfl hx (by rw [if_pos hl4]; exact Nat.le_refl _)]
    have e3 : (⟨beN (n : Int) 4, x.length, lst, body, held + 4, false⟩ : Rc).eat x = ⟨beN (n : Int) 4, 0, lst, body ++ x, held + 4 + x.length, false⟩ := by
      unfold Rc.eat
      rw [if_pos hl4]
      unfold Rc.eatB
      simp
    rw [e3]
    unfold Rc.fin
    rw [if_neg (by simp [hl4])]
    cases lst <;> simp [rdyR]
theorem feed_cut {n : Nat} (h1 : 1 ≤ n) : ∀ (f : Nat) (s : List UInt8) (la : Bool) (body : List UInt8) (held : Nat), s.length ≤ f → body.length + s.length ≤ 4096 → feed (rdyR la body held) (cutB n f s) = (rdyR true [] 0, [body ++ s])
  | 0, s, la, body, held, hf, hb => by
    unfold cutB
    rw [feed_frag hb]
    rfl
  | f + 1, s, la, body, held, hf, hb => by
    unfold cutB
    by_cases hlt : n < s.length
    · rw [if_pos hlt, feed_append, feed_frag (by simp; omega)]
      simp only [Bool.false_eq_true, if_false]
      rw [feed_cut h1 f (s.drop n) _ _ _ (by simp; omega) (by simp; omega)]
      simp
    · rw [if_neg hlt, feed_frag hb]
      rfl
theorem rc0_rdy : rc0 = rdyR false [] 0 := rfl
theorem cut_length {n : Nat} (h1 : 1 ≤ n) : ∀ (f : Nat) (s : List UInt8), s.length ≤ f → (cutB n f s).length ≤ 5 * s.length + 4
  | 0, s, hf => by
    unfold cutB
    rw [fragB_length]
    omega
  | f + 1, s, hf => by
    unfold cutB
    by_cases hlt : n < s.length
    · rw [if_pos hlt, List.length_append, fragB_length]
      have := cut_length h1 f (s.drop n) (by simp; omega)
      simp only [List.length_take, List.length_drop] at this ⊢
      omega
    · rw [if_neg hlt, fragB_length]
      omega
end Go.Proofs.Ytbbkailmlaffjaa
