/- Walks of readers: Fixed, Text of package xdr. -/
import Derived.Test.YteahlnoonmfjhaaRdH
set_option linter.unusedVariables false
set_option maxRecDepth 100000
namespace Go.Proofs.Yteahlnoonmfjhaa
open Go.RowKit

/-- Are there n bytes, and 00s behind them to whole words? -/
def fixB (l : List UInt8) (n : Int) : Bool := decide (0 ≤ n) && decide (n.toNat + padN n.toNat ≤ l.length) && ((l.drop n.toNat).take (padN n.toNat)).all (· == 0)
def rdX (s : St) (n : Int) : List UInt8 × St :=
  match s with
  | none => ([], none)
  | some l => if fixB l n then (l.take n.toNat, some (l.drop (n.toNat + padN n.toNat))) else ([], none)

theorem zero_loop (z : List UInt8) (k : Nat) (hk : k < z.length) (h : ∀ j (h : j < z.length), j < k → z[j] = 0) (hz : z[k] = 0) : ∀ j (h : j < z.length), j < k + 1 → z[j] = 0 := by
  intro j hj hlt
  by_cases h1 : j < k
  · exact h j hj h1
  · obtain rfl : j = k := by omega
    exact hz

theorem RS.butR {T : TypeId} {w w' : World} {g : Nat} {v : Value} {l : List UInt8} {s : St} (h : RS w v l) (k : But g w w') (r : Rd T w g s) : RS w' v l := by
  obtain ⟨A, c, hg, _⟩ := r
  exact h.but (a := .bool true) k hg

theorem fixed_any (g : Nat) (s : St) (n : Int) (w : World) (h : Rd 192 w g s) (hl : s.l.length ≤ 900000) :
    Calls Try.prog 150 #[.pointer (some ⟨g, 0, none⟩), .int .i64 n] w fun e w' => e = .returned (.string (str (rdX s n).1)) ∧ Rd 192 w' g (rdX s n).2 ∧ But g w w' := by
  by_cases h1 : s = none ∨ n < 0 ∨ s.l.length < n
  · have hr : rdX s n = ([], none) := by
      cases s with
      | none => rfl
      | some l =>
        have : fixB l n = false := by
          rcases h1 with h1 | h1 | h1
          · cases h1
          · simp [fixB]; omega
          · simp [St.l] at h1; simp [fixB]; omega
        simp [rdX, this]
    rw [hr]
    go_enter Try.func150, Try.ntmps150
    go_wp2_with fail
    refine (take_no g s n _ h h1).mono ?_
    rintro e w1 ⟨rfl, r1, k1⟩
    go_wp2_with fail
    go_ret
    exact ⟨rfl, r1, k1⟩
  · obtain ⟨l, rfl⟩ : ∃ l, s = some l := by cases s with | none => exact absurd (.inl rfl) h1 | some l => exact ⟨l, rfl⟩
    have hll : St.l (some l) = l := rfl
    rw [hll] at h1 hl
    obtain ⟨m, rfl⟩ : ∃ m : Nat, n = m := ⟨n.toNat, by have := fun h => h1 (.inr (.inl h)); omega⟩
    have hm : m ≤ l.length := by have := fun h => h1 (.inr (.inr h)); omega
    have hp := padding_any m
    by_cases h2 : m + padN m ≤ l.length
    case neg =>
      have hr : rdX (some l) m = ([], none) := by
        have : fixB l m = false := by simp [fixB]; omega
        simp [rdX, this]
      rw [hr]
      go_enter Try.func150, Try.ntmps150
      go_wp2_with fail
      refine (take_ok g l m _ h hm).mono ?_
      rintro e w1 ⟨A, rfl, hc, r1, k1⟩
      go_wp2_with fail
      refine (hp _ (by omega)).mono ?_
      rintro e w2 ⟨rfl, k2⟩
      go_wp2_with fail
      refine (take_no g _ _ _ (r1.ext k2) (.inr (.inr (by simp [St.l]; omega)))).mono ?_
      rintro e w3 ⟨rfl, r3, k3⟩
      go_wp2_with fail
      go_ret
      exact ⟨rfl, r3, (k1.trans (But.of k2)).trans k3⟩
    case pos =>
      have hpl := padN_le m
      obtain ⟨p, hpe⟩ : ∃ p, p = padN m := ⟨_, rfl⟩
      obtain ⟨z, hz⟩ : ∃ z, z = (l.drop m).take p := ⟨_, rfl⟩
      have hzl : z.length = p := by rw [hz]; simp; omega
      obtain ⟨R, hR⟩ : ∃ R, R = rdX (some l) m := ⟨_, rfl⟩
      have hR1 : (∀ j (h : j < z.length), z[j] = 0) → R = (l.take m, some (l.drop (m + p))) := by
        intro h0
        have hf : fixB l m = true := by
          have hall : z.all (· == 0) = true := by
            rw [List.all_eq_true]
            intro x hx
            obtain ⟨j, hj, rfl⟩ := List.getElem_of_mem hx
            simp [h0 j hj]
          simp only [fixB, Int.toNat_natCast, ← hpe, ← hz, hall, Bool.and_true, Bool.and_eq_true, decide_eq_true_eq]
          omega
        rw [hR, rdX, if_pos hf, Int.toNat_natCast, ← hpe]
      have hR2 : ∀ j (h : j < z.length), z[j] ≠ 0 → R = ([], none) := by
        intro j hj h0
        have hf : ¬ fixB l m = true := by
          intro hf
          simp only [fixB, Int.toNat_natCast, ← hpe, ← hz, Bool.and_eq_true, List.all_eq_true] at hf
          exact h0 (by simpa using hf.2 z[j] (List.getElem_mem hj))
        rw [hR, rdX, if_neg hf]
      rw [← hR]
      have hp' := hp
      rw [← hpe] at hp'
      rw [← hpe] at hpl h2
      have H1 := Lib.hid hR1
      have H2 := Lib.hid hR2
      have HZ0 := Lib.hid hz
      clear hR hR1 hR2 hp hpe hz
      go_enter Try.func150, Try.ntmps150
      go_wp2_with fail
      refine (take_ok g l m _ h hm).mono ?_
      rintro e w1 ⟨A, rfl, hc, r1, k1⟩
      go_wp2_with fail
      refine (hp' _ (by omega)).mono ?_
      rintro e w2 ⟨rfl, k2⟩
      go_wp2_with fail
      refine (take_ok g _ p _ (r1.ext k2) (by simp; omega)).mono ?_
      rintro e w3 ⟨A', rfl, hc', r3, k3⟩
      have hcc := (hc.ext (Ext.of k2)).butR k3 (r1.ext k2)
      have hcv := hcc.conv (P := Try.prog) Try.underlying47 Try.underlying5 Try.underlying9
      rw [← HZ0.out] at hc'
      rw [List.drop_drop] at r3
      have K := (k1.trans (But.of k2)).trans k3
      go_wp2_with fail
      go_loop [29] (fun i => ∃ k : Nat, k ≤ p ∧ i = .int .i64 k ∧ Hid (∀ j (h : j < z.length), j < k → z[j] = 0)) (fun i => p - (intOf i).toNat)
      case atStart => exact ⟨0, Nat.zero_le _, rfl, fun j _ h => by omega⟩
      case round =>
        obtain ⟨k, hk, rfl, HZ⟩ := hrel
        by_cases hlt : k < p
        · obtain ⟨b, off, rfl, -, hb, -, hj⟩ := hc'.some_of (by intro h0; rw [h0] at hzl; simp at hzl; omega)
          have hkz : k < z.length := by omega
          have hcell : w3.cell? ⟨b, off + k, none⟩ = some (.int .u8 (z[k].toNat : Int)) := by rw [hj k hkz, bvs_get hkz]; rfl
          have hb1 := z[k].toNat_lt
          clear hj
          by_cases h0 : z[k] = 0
          · have h0' : (z[k].toNat : Int) = 0 := by rw [h0]; rfl
            rw [h0'] at hcell
            go_wp2_with fail
            go_round
            case rel => exact ⟨k + 1, by omega, by go_num, zero_loop z k hkz HZ.out h0⟩
            case measure => simp [intOf]; omega
          · have h0' : ¬ (z[k].toNat : Int) = 0 := fun hh => h0 (UInt8.toNat_inj.1 (by simpa using hh))
            have h0b : ((z[k].toNat : Int) != 0) = true := bne_iff_ne.2 h0'
            go_wp2_with (go_at_call 155; refine (spoil_any _ _ _ r3).mono ?_; rintro e w4 ⟨rfl, r4, k4⟩)
            go_ret
            rw [H2.out k hkz h0]
            exact ⟨rfl, r4, K.trans k4⟩
        · obtain rfl : k = p := by omega
          go_wp2_with fail
          go_ret
          rw [H1.out fun j hj => HZ.out j hj (by omega)]
          exact ⟨rfl, r3, K⟩
end Go.Proofs.Yteahlnoonmfjhaa
