/- Walks of readers of jettyref01: Fixed, Text. -/
import Derived.Test.YteahlnoonmfjhaaRdL
set_option linter.unusedVariables false
set_option maxRecDepth 100000
namespace Go.Proofs.Yteahlnoonmfjhaa
open Go.RowKit

set_option maxRecDepth 100000 in
set_option maxHeartbeats 1000000 in
theorem rfixed_any (g : Nat) (s : St) (n : Int) (w : World) (h : Rd 196 w g s) (hl : s.l.length ≤ 900000) :
    Calls Try.prog 130 #[.pointer (some ⟨g, 0, none⟩), .int .i64 n] w fun e w' => e = .returned (.string (str (rdX s n).1)) ∧ Rd 196 w' g (rdX s n).2 ∧ But g w w' := by
  have h0 := h
  obtain ⟨A, c, hg, hr⟩ := h
  obtain ⟨c0, c1, f0, f1, hz⟩ := blk2 hg
  cases s with
  | none =>
    simp only [Option.isNone_none] at c1
    clear hg
    have hr : rdX none n = ([], none) := rfl
    rw [hr]
    go_enter Try.func130, Try.ntmps130
    go_wp2_with (go_at_call 134; refine (fail_any _ _ _ h0).mono ?_; rintro e w1 ⟨rfl, r1, b1⟩)
    go_ret
    exact ⟨rfl, r1, b1⟩
  | some l =>
  have hll : St.l (some l) = l := rfl
  rw [hll] at c0 hr hg hl
  simp only [Option.isNone_some] at c1 hg
  by_cases h1 : n < 0 ∨ l.length < n
  · have hrx : rdX (some l) n = ([], none) := by
      have : fixB l n = false := by rcases h1 with h1 | h1 <;> simp [fixB] <;> omega
      simp [rdX, this]
    rw [hrx]
    clear hg
    rcases h1 with h1 | h1
    · go_enter Try.func130, Try.ntmps130
      go_wp2_with (go_at_call 134; refine (fail_any _ _ _ h0).mono ?_; rintro e w1 ⟨rfl, r1, b1⟩)
      go_ret
      exact ⟨rfl, r1, b1⟩
    · have h2 : ¬ n < 0 := by omega
      go_enter Try.func130, Try.ntmps130
      go_wp2_with (go_at_call 134; refine (fail_any _ _ _ h0).mono ?_; rintro e w1 ⟨rfl, r1, b1⟩)
      go_ret
      exact ⟨rfl, r1, b1⟩
  obtain ⟨m, rfl⟩ : ∃ m : Nat, n = m := ⟨n.toNat, by omega⟩
  have hm : m ≤ l.length := by omega
  clear h1
  obtain ⟨p, hpe⟩ : ∃ p, p = padN m := ⟨_, rfl⟩
  have hpl := padN_le m
  obtain ⟨z, hz0⟩ : ∃ z, z = (l.drop m).take p := ⟨_, rfl⟩
  obtain ⟨R, hR⟩ : ∃ R, R = rdX (some l) m := ⟨_, rfl⟩
  have hR0 : l.length < m + p → R = ([], none) := by
    intro hh
    have : fixB l m = false := by simp [fixB]; omega
    rw [hR]; simp [rdX, this]
  have hR1 : m + p ≤ l.length → (∀ j (h : j < z.length), z[j] = 0) → R = (l.take m, some (l.drop (m + p))) := by
    intro hh h0
    have hf : fixB l m = true := by
      have hall : z.all (· == 0) = true := by
        rw [List.all_eq_true]
        intro x hx
        obtain ⟨j, hj, rfl⟩ := List.getElem_of_mem hx
        simp [h0 j hj]
      simp only [fixB, Int.toNat_natCast, ← hpe, ← hz0, hall, Bool.and_true, Bool.and_eq_true, decide_eq_true_eq]
      omega
    rw [hR, rdX, if_pos hf, Int.toNat_natCast, ← hpe]
  have hR2 : ∀ j (h : j < z.length), z[j] ≠ 0 → R = ([], none) := by
    intro j hj h0
    have hf : ¬ fixB l m = true := by
      intro hf
      simp only [fixB, Int.toNat_natCast, ← hpe, ← hz0, Bool.and_eq_true, List.all_eq_true] at hf
      exact h0 (by simpa using hf.2 z[j] (List.getElem_mem hj))
    rw [hR, rdX, if_neg hf]
  rw [← hR]
  have hmod : ∀ k : Nat, m ≤ k → k < m + p → ¬ (k : Int) % 4 = 0 := by
    intro k h1 h2
    rw [hpe] at h2
    unfold padN at h2
    omega
  have hmod2 : ((m + p : Nat) : Int) % 4 = 0 := by rw [hpe]; unfold padN; omega
  rw [← hpe] at hpl
  have hzc : ∀ k (h : k < z.length), m + k < l.length ∧ l[m + k]? = some z[k] := by
    intro k hk
    subst hz0
    have : m + k < l.length := by simp at hk; omega
    refine ⟨this, ?_⟩
    simp [this]
  have hzl : m + p ≤ l.length → z.length = p := by intro hh; rw [hz0]; simp; omega
  have H0 := Lib.hid hR0
  have H1 := Lib.hid hR1
  have H2 := Lib.hid hR2
  have HM := Lib.hid hmod
  have HM2 := Lib.hid hmod2
  have HZ := Lib.hid hzc
  have HZL := Lib.hid hzl
  have HP := Lib.hid hpe
  have HG := Lib.hid hg
  clear hR hR0 hR1 hR2 hmod hmod2 hzc hzl hpe hg hz0
  go_enter Try.func130, Try.ntmps130
  go_wp2_with fail
  go_loop [5] (fun i => ∃ k : Nat, m ≤ k ∧ k ≤ m + p ∧ i = .int .i64 k) (fun i => m + p - (intOf i).toNat)
  case atStart => exact ⟨m, Nat.le_refl _, by omega, rfl⟩
  case round =>
    obtain ⟨k, hk1, hk2, rfl⟩ := hrel
    by_cases hlt : k < m + p
    · have hx := HM.out k hk1 hlt
      have hxb : ((k : Int) % 4 != 0) = true := bne_iff_ne.2 hx
      go_wp2_with fail
      go_round
      case rel => exact ⟨k + 1, by omega, by omega, by go_num⟩
      case measure => simp [intOf]; omega
    · obtain rfl : k = m + p := by omega
      have hx := HM2.out
      by_cases hle : m + p ≤ l.length
      case neg =>
        go_wp2_with (go_at_call 134; refine (fail_any _ _ _ h0).mono ?_; rintro e w1 ⟨rfl, r1, b1⟩)
        go_ret
        rw [H0.out (by omega)]
        exact ⟨rfl, r1, b1⟩
      have hzl := HZL.out hle
      have hg := HG.out
      rcases hr with ⟨e1, e2⟩ | ⟨b, off, c', e1, hb, hcc, hj⟩
      · subst e2
        obtain ⟨rfl, rfl⟩ : A = none ∧ c = 0 := by simpa using e1
        obtain rfl : m = 0 := by simpa using hm
        obtain rfl : p = 0 := by simpa using hle
        have hs := h0.set (s' := some []) (v := .slice none 0 0) (b := false) RS.nil rfl
        rw [← blk2_st0 _ hg] at hs
        have HS := Lib.hid hs
        have hcv := (RS.nil (w := w)).conv (P := Try.prog) Try.underlying47 Try.underlying5 Try.underlying9
        clear hs hg
        go_wp2_with fail
        refine wp_loop_rounds 1 ?_
        rw [rounds_succ]
        go_wp2_with fail
        go_ret
        rw [H1.out (by simp) (fun j hj => by rw [hzl] at hj; omega)]
        exact ⟨rfl, HS.out.1, HS.out.2⟩
      · obtain ⟨rfl, -, rfl⟩ : A = some ⟨b, off, none⟩ ∧ True ∧ c = c' := by simpa using e1
        have hcv := (conv_bytes (P := Try.prog) (w := w) Try.underlying47 Try.underlying5 Try.underlying9 b off m c (l.take m) (by simp; omega) (fun i hi => by rw [hj i (by omega)]; simp only [bvs, List.getElem?_map, List.getElem?_take, if_pos hi]))
        obtain ⟨C1, C2⟩ := h0.cut hg hb hcc (n := m + p) hle hj
        have K1 := Lib.hid C1
        have K2 := Lib.hid C2
        have HJ := Lib.hid hj
        clear C1 C2 hj hg
        go_wp2_with fail
        go_loop [6] (fun i => ∃ k : Nat, m ≤ k ∧ k ≤ m + p ∧ i = .int .i64 k ∧ Hid (∀ j (h : j < z.length), m + j < k → z[j] = 0)) (fun i => m + p - (intOf i).toNat)
        case atStart => exact ⟨m, Nat.le_refl _, by omega, rfl, fun j _ h => by omega⟩
        case round =>
          obtain ⟨k, hk1, hk2, rfl, HZ0⟩ := hrel
          by_cases hlt : k < m + p
          · obtain ⟨j, rfl⟩ : ∃ j, k = m + j := ⟨k - m, by omega⟩
            have hjz : j < z.length := by omega
            obtain ⟨hkl, hkz⟩ := HZ.out j hjz
            have hcell : w.cell? ⟨b, off + (m + j), none⟩ = some (.int .u8 (z[j].toNat : Int)) := by rw [HJ.out _ hkl]; simp only [bvs, List.getElem?_map, hkz]; rfl
            have hb1 := z[j].toNat_lt
            clear hkz
            by_cases h0' : z[j] = 0
            · have h0' : (z[j].toNat : Int) = 0 := by rw [h0']; rfl
              rw [h0'] at hcell
              go_wp2_with fail
              go_round
              case rel => exact ⟨m + j + 1, by omega, by omega, by go_num, fun i hi hlt => by
                by_cases hij : i = j
                · subst hij; apply UInt8.toNat_inj.1; simpa using h0'
                · exact HZ0.out i hi (by omega)⟩
              case measure => simp [intOf]; omega
            · have h0n : ¬ (z[j].toNat : Int) = 0 := fun hh => h0' (UInt8.toNat_inj.1 (by simpa using hh))
              have h0b : ((z[j].toNat : Int) != 0) = true := bne_iff_ne.2 h0n
              go_wp2_with (go_at_call 134; refine (fail_any _ _ _ h0).mono ?_; rintro e w4 ⟨rfl, r4, k4⟩)
              go_ret
              rw [H2.out j hjz h0']
              exact ⟨rfl, r4, k4⟩
          · obtain rfl : k = m + p := by omega
            by_cases hcn : c = m + p
            · subst hcn
              have S0 := K1.out rfl
              rw [show l.length - (m + p) = 0 by omega] at S0
              have S := Lib.hid S0
              clear K1 K2 S0
              go_wp2_with fail
              go_ret
              rw [H1.out hle (fun j hj => HZ0.out j hj (by omega))]
              exact ⟨rfl, S.out.1, S.out.2⟩
            · have S := Lib.hid (K2.out hcn)
              clear K1 K2
              go_wp2_with fail
              go_ret
              rw [H1.out hle (fun j hj => HZ0.out j hj (by omega))]
              exact ⟨rfl, S.out.1, S.out.2⟩

theorem rtext_any (g : Nat) (s : St) (m : Int) (w : World) (h : Rd 196 w g s) (hl : s.l.length ≤ 900000) :
    Calls Try.prog 78 #[.pointer (some ⟨g, 0, none⟩), .int .i64 m] w fun e w' => e = .returned (.string (str (rdT s m).1)) ∧ Rd 196 w' g (rdT s m).2 ∧ But g w w' := by
  have key : ∀ m' : Int, max m 0 = m' → (m ≤ 0 ∧ m' = 0 ∨ 0 < m ∧ m' = m) → 
    Calls Try.prog 78 #[.pointer (some ⟨g, 0, none⟩), .int .i64 m] w fun e w' => e = .returned (.string (str (rdT s m).1)) ∧ Rd 196 w' g (rdT s m).2 ∧ But g w w' := by
    intro m' hm' hc
    have hlen := rdC_len s m'
    have hb := rdC_bd s m'
    have hr : rdT s m = rdX (rdC s m').2 (rdC s m').1 := by unfold rdT; rw [hm']
    rw [hr]
    cases hq : (rdC s m').2 with
    | none =>
      have hr2 := rdC_none hq
      have hrx : ∀ n, rdX none n = ([], none) := fun _ => rfl
      rw [hrx]
      rcases hc with ⟨h1, rfl⟩ | ⟨h1, rfl⟩
      all_goals
        clear hm'
        go_enter Try.func78, Try.ntmps78
        go_wp2_with fail
        refine (rcount_any g s _ _ h).mono ?_
        rintro e w1 ⟨rfl, r1, k1⟩
        rw [hq] at r1
        obtain ⟨A, c, hg, hrr⟩ := id r1
        obtain ⟨c0, c1, f0, f1, hz⟩ := blk2 hg
        simp only [Option.isNone_none] at c1
        clear hg
        go_wp2_with fail
        go_ret
        exact ⟨rfl, r1, k1⟩
    | some l =>
      rw [hq] at hlen
      rcases hc with ⟨h1, rfl⟩ | ⟨h1, rfl⟩
      all_goals
        clear hm'
        go_enter Try.func78, Try.ntmps78
        go_wp2_with fail
        refine (rcount_any g s _ _ h).mono ?_
        rintro e w1 ⟨rfl, r1, k1⟩
        rw [hq] at r1
        obtain ⟨A, c, hg, hrr⟩ := id r1
        obtain ⟨c0, c1, f0, f1, hz⟩ := blk2 hg
        simp only [Option.isNone_some] at c1
        clear hg
        go_wp2_with fail
        refine (rfixed_any g _ _ _ r1 (by omega)).mono ?_
        rintro e w2 ⟨rfl, r2, k2⟩
        go_wp2_with fail
        go_ret
        exact ⟨rfl, r2, k1.trans k2⟩
  by_cases hm : m ≤ 0
  · exact key 0 (by omega) (.inl ⟨hm, rfl⟩)
  · exact key m (by omega) (.inr ⟨by omega, rfl⟩)
end Go.Proofs.Yteahlnoonmfjhaa
