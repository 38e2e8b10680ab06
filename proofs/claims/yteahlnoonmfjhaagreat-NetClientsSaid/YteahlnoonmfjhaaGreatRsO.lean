/- Results: what is read lies in its bounds (plain). -/
import Derived.Test.YteahlnoonmfjhaaGreatRsK
set_option linter.unusedVariables false
set_option maxRecDepth 100000
namespace Go.Proofs.YteahlnoonmfjhaaGreat
open Go.RowKit

theorem wrap64_I64 (n : Int) : I64 (wrap64 n) := by unfold I64 wrap64; omega
theorem n4_I64 (l : List UInt8) (o : Nat) : I64 (n4 l o) := by
  have := pre_bd l o 4
  unfold I64 n4
  simp only [Int.reducePow] at this
  omega
theorem dec_I64 (l : List UInt8) : I64 ((dec l).getD (0, 0, 0)).1 ∧ I64 ((dec l).getD (0, 0, 0)).2.1 ∧ I64 ((dec l).getD (0, 0, 0)).2.2 := by
  unfold dec
  split
  · exact ⟨n4_I64 _ _, n4_I64 _ _, n4_I64 _ _⟩
  · exact ⟨i64_zero, i64_zero, i64_zero⟩
theorem dec_may {l : List UInt8} {x : Int × Int × Int} (h : dec l = some x) : hmayB x.1 x.2.1 x.2.2 = true := by
  unfold dec at h
  split at h
  · rename_i hc
    simp only [Option.some.injEq] at h
    subst h
    exact hc.2.1
  · cases h
theorem rdX_n (s : St) (n : Int) : (rdX s n).1.length ≤ n.toNat := by
  cases s with
  | none => exact Nat.zero_le _
  | some l =>
    unfold rdX
    simp only
    split
    · simp only [List.length_take]; omega
    · simp
theorem rdT_max (s : St) (m : Int) (hm : 0 ≤ m) : ((rdT s m).1.length : Int) ≤ m := by
  have h1 := rdX_n (rdC s (max m 0)).2 (rdC s (max m 0)).1
  have h2 := rdC_bd s (max m 0)
  have h3 : (rdC s (max m 0)).1 ≤ max m 0 := by
    unfold rdC
    split
    · show (0 : Int) ≤ max m 0; omega
    · omega
  unfold rdT
  omega
theorem rdC_max (s : St) (m : Int) (hm : 0 ≤ m) : (rdC s m).1 ≤ m := by
  unfold rdC
  split
  · exact hm
  · omega
theorem rdE_len64 (s : St) : (rdE s).1.length ≤ 64 := by
  unfold rdE
  rw [rdEn_length]
  have := rdC_max s 64 (by decide)
  omega
theorem rdEn_ok (s : St) : ∀ k, ∀ y ∈ (rdEn k s).1, y.Ok ∧ y.name.length ≤ 255
  | 0 => fun y h => by cases h
  | k + 1 => fun y h => by
    simp only [rdEn, List.mem_append, List.mem_singleton] at h
    rcases h with h | rfl
    · exact rdEn_ok s k y h
    · have := rdT_max (rdEn k s).2 255 (by decide)
      exact ⟨⟨by unfold maxLen; show _ ≤ _; simp only; omega, wrap64_I64 _, wrap64_I64 _⟩, by simp only; omega⟩
theorem atk_ok (s : St) (kd : Int) (h : 0 ≤ kd ∧ kd ≤ 255) : (atk s kd 7).Ok := ⟨h, wrap64_I64 _, wrap64_I64 _, wrap64_I64 _, wrap64_I64 _, wrap64_I64 _, wrap64_I64 _, wrap64_I64 _⟩
theorem gtR_okw {c : UInt8} (s : St) (b : Bool) {x : RsT} (h : x.Okw) : (gtR c s b x).2.2.Okw := by
  have hT := rdT_max s 2048 (by decide)
  have hL := rdL_bd s
  have hE : ∀ y ∈ (rdE s).1, y.Ok ∧ y.name.length ≤ 100000 := fun y hy => by have := rdEn_ok _ _ y hy; exact ⟨this.1, by omega⟩
  have hE2 := rdE_len64 s
  have hA : (rdAt s).2.2.Ok := by
    unfold rdAt
    split
    · rename_i hk
      exact atk_ok _ _ (by have : (rdW s).1 = 1 ∨ (rdW s).1 = 2 ∨ (rdW s).1 = 3 := by simpa [kindB] using hk
                           omega)
    · exact ⟨⟨Int.le_refl _, (by show (0 : Int) ≤ 255; decide)⟩, i64_zero, i64_zero, i64_zero, i64_zero, i64_zero, i64_zero, i64_zero⟩
  unfold gtR
  repeat' split
  all_goals first
    | exact h
    | exact { h with h := dec_I64 _ }
    | exact { h with at_ := hA }
    | exact { h with text := (by simp only; omega) }
    | exact { h with n := wrap64_I64 _ }
    | exact { h with free := wrap64_I64 _ }
    | exact { h with used := hL }
    | exact { h with verf := hL }
    | exact { h with each := hE, ents := (by simp only; omega) }
    | exact { h with }
end Go.Proofs.YteahlnoonmfjhaaGreat
