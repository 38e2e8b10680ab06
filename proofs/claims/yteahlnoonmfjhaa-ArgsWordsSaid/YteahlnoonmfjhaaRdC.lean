/- Walks of readers: take. -/
import Derived.Test.YteahlnoonmfjhaaRdB
set_option linter.unusedVariables false
set_option maxRecDepth 100000
namespace Go.Proofs.Yteahlnoonmfjhaa
open Go.RowKit

theorem take_no (g : Nat) (s : St) (n : Int) (w : World) (h : Rd 192 w g s) (hn : s = none ∨ n < 0 ∨ s.l.length < n) :
    Calls Try.prog 135 #[.pointer (some ⟨g, 0, none⟩), .int .i64 n] w fun e w' => e = .returned (.tuple #[.slice none 0 0, .bool false]) ∧ Rd 192 w' g none ∧ But g w w' := by
  have h0 := h
  obtain ⟨A, c, hg, hr⟩ := h
  obtain ⟨c0, c1, f0, f1, hz⟩ := blk2 hg
  clear hg
  cases s with
  | none =>
    simp only [Option.isNone_none] at c1
    go_enter Try.func135, Try.ntmps135
    go_wp2
    go_ret2
    exact ⟨rfl, h0, But.refl _ _⟩
  | some l =>
    simp only [Option.isNone_some] at c1
    have hl : St.l (some l) = l := rfl
    rw [hl] at c0 hr
    by_cases h1 : n < 0
    · go_enter Try.func135, Try.ntmps135
      go_wp2_with (go_at_call 155; refine (spoil_any _ _ _ h0).mono ?_; rintro e w1 ⟨rfl, r1, b1⟩)
      go_ret2
      exact ⟨rfl, r1, b1⟩
    · have h2 : (l.length : Int) < n := by
        rcases hn with hn | hn | hn
        · cases hn
        · exact absurd hn h1
        · exact hn
      go_enter Try.func135, Try.ntmps135
      go_wp2_with (go_at_call 155; refine (spoil_any _ _ _ h0).mono ?_; rintro e w1 ⟨rfl, r1, b1⟩)
      go_ret2
      exact ⟨rfl, r1, b1⟩

theorem take_ok (g : Nat) (l : List UInt8) (n : Nat) (w : World) (h : Rd 192 w g (some l)) (hn : n ≤ l.length) :
    Calls Try.prog 135 #[.pointer (some ⟨g, 0, none⟩), .int .i64 n] w fun e w' => ∃ A, e = .returned (.tuple #[.slice A n n, .bool true]) ∧ RS w' (.slice A n n) (l.take n) ∧ Rd 192 w' g (some (l.drop n)) ∧ But g w w' := by
  have h0 := h
  obtain ⟨A, c, hg, hr⟩ := h
  obtain ⟨c0, c1, f0, f1, hz⟩ := blk2 hg
  simp only [Option.isNone_some] at c1 hg
  have hl : St.l (some l) = l := rfl
  rw [hl] at c0 hr
  rcases hr with ⟨h1, h2⟩ | ⟨b, off, c', h1, hb, hc, hj⟩
  · subst h2
    obtain ⟨rfl, rfl⟩ : A = none ∧ c = 0 := by simpa using h1
    obtain rfl : n = 0 := by simpa using hn
    have hs := h0.set (s' := some []) (v := .slice none 0 0) (b := false) RS.nil rfl
    rw [← blk2_st0 _ hg] at hs
    have HS := Lib.hid hs
    clear hg hs
    go_enter Try.func135, Try.ntmps135
    go_wp2
    go_ret2
    exact ⟨_, rfl, RS.nil, HS.out.1, HS.out.2⟩
  · obtain ⟨rfl, -, rfl⟩ : A = some ⟨b, off, none⟩ ∧ True ∧ c = c' := by simpa using h1
    have hcut : RS w (.slice (some ⟨b, off, none⟩) n n) (l.take n) := by
      have hlt : (l.take n).length = n := by simp; omega
      refine .inr ⟨b, off, n, by rw [hlt], hb, by omega, fun j hjl => ?_⟩
      rw [hj j (by omega)]
      simp only [bvs, List.getElem?_map, List.getElem?_take, if_pos (show j < n by omega)]
    have hdl : (l.drop n).length = l.length - n := by simp
    by_cases hcn : c = n
    · have hd : l.drop n = [] := List.drop_eq_nil_of_le (by omega)
      have hs := h0.set (s' := some (l.drop n)) (v := .slice (some ⟨b, off, none⟩) (l.length - n) 0) (b := false) (.inr ⟨b, off, 0, by rw [show St.l (some (l.drop n)) = l.drop n from rfl, hdl], hb, by rw [show St.l (some (l.drop n)) = l.drop n from rfl, hdl]; omega, fun j hjl => by
        rw [show St.l (some (l.drop n)) = l.drop n from rfl, hd] at hjl; simp at hjl⟩) rfl
      have hr2 := hcut.but (a := .bool true) hs.2 hg
      rw [← blk2_st0 _ hg] at hs hr2
      have HS := Lib.hid hs
      have HR := Lib.hid hr2
      clear hg hs hr2
      go_enter Try.func135, Try.ntmps135
      go_wp2
      go_ret2
      exact ⟨_, rfl, HR.out, HS.out.1, HS.out.2⟩
    · have hs := h0.set (s' := some (l.drop n)) (v := .slice (some ⟨b, off + n, none⟩) (l.length - n) (c - n)) (b := false) (.inr ⟨b, off + n, c - n, by rw [show St.l (some (l.drop n)) = l.drop n from rfl, hdl], hb, by rw [show St.l (some (l.drop n)) = l.drop n from rfl, hdl]; omega, fun j hjl => by
        rw [show St.l (some (l.drop n)) = l.drop n from rfl] at hjl ⊢
        rw [hdl] at hjl
        rw [Nat.add_assoc, hj (n + j) (by omega)]
        simp [bvs]⟩) rfl
      have hr2 := hcut.but (a := .bool true) hs.2 hg
      rw [← blk2_st0 _ hg] at hs hr2
      have HS := Lib.hid hs
      have HR := Lib.hid hr2
      clear hg hs hr2
      go_enter Try.func135, Try.ntmps135
      go_wp2
      go_ret2
      exact ⟨_, rfl, HR.out, HS.out.1, HS.out.2⟩
end Go.Proofs.Yteahlnoonmfjhaa
