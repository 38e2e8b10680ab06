/- Two places of roots on a disk. In plain Lean. -/
import Derived.Test.YtobcfocbglkicaaRgG
set_option linter.unusedVariables false
set_option maxRecDepth 100000
namespace Go.Proofs.Ytobcfocbglkicaa
open Go.RowKit

/-- What root stands at a place of the disk (none: of group 0). -/
def PlR (on : List Wr) (p : Int) (r : RoT) : Prop := (r = ⟨0, []⟩ ∧ (lastB on p).getD zB = zB) ∨ (1 ≤ r.t ∧ placeR r.t = p ∧ ∃ S, rkS r.t r.l = (S, 0) ∧ lastB on p = some S)
theorem rkO_zB : (rkO zB).2 ≠ 0 := by decide +kernel
theorem PlR.nil (p : Int) : PlR [] p ⟨0, []⟩ := .inl ⟨rfl, rfl⟩
theorem PlR.put {on : List Wr} {t : Int} {l S : List UInt8} (h1 : 1 ≤ t) (h : rkS t l = (S, 0)) : PlR (on ++ [(placeR t, S)]) (placeR t) ⟨t, l⟩ :=
  .inr ⟨h1, rfl, S, h, by rw [lastB_snoc]; exact if_pos rfl⟩
theorem PlR.other {on : List Wr} {p q : Int} {S : List UInt8} {r : RoT} (h : PlR on q r) (hne : p ≠ q) : PlR (on ++ [(p, S)]) q r := by
  unfold PlR
  rw [lastB_snoc, if_neg hne]
  exact h
theorem PlR.zero {on : List Wr} (p : Int) : PlR (on ++ [(p, zB)]) p ⟨0, []⟩ := .inl ⟨rfl, by rw [lastB_snoc, if_pos rfl]; rfl⟩
theorem PlR.ge {on : List Wr} {p : Int} {r : RoT} (h : PlR on p r) : 0 ≤ r.t := by
  rcases h with ⟨rfl, _⟩ | ⟨h, _⟩
  · exact Int.le_refl _
  · omega
theorem PlR.step {n c : Int} {on wt : List Wr} {keep : List Bool} {p : Int} {r x : RoT} (h : PlR (on ++ wt) p r) (hx : 0 ≤ x.t) : nwStep ⟨n, on, wt, c, keep, false⟩ x p = if x.t < r.t then r else x := by
  have hat : DK.at ⟨n, on, wt, c, keep, false⟩ p = (lastB (on ++ wt) p).getD zB := rfl
  unfold nwStep
  rw [hat]
  rcases h with ⟨rfl, h⟩ | ⟨h1, h2, S, h3, h4⟩
  · rw [h, if_neg (fun e => rkO_zB e.1), if_neg (by simp only; omega)]
  · rw [h4, Option.getD_some, rkO_back h3]
    by_cases e : x.t < r.t
    · rw [if_pos ⟨rfl, h2, e⟩, if_pos e]
    · rw [if_neg (fun h => e h.2.2), if_neg e]
theorem newest_two {n c : Int} {on wt : List Wr} {keep : List Bool} {r0 r1 : RoT} (h0 : PlR (on ++ wt) 0 r0) (h1 : PlR (on ++ wt) 1 r1) : nwN ⟨n, on, wt, c, keep, false⟩ 2 = if r0.t < r1.t then r1 else r0 := by
  have e1 : nwN ⟨n, on, wt, c, keep, false⟩ 1 = r0 := by
    show nwStep _ ⟨0, []⟩ 0 = r0
    rw [h0.step (Int.le_refl _)]
    rcases h0 with ⟨rfl, _⟩ | ⟨h, _⟩
    · rw [if_neg (by simp)]
    · rw [if_pos (by simp only; omega)]
  show nwStep _ (nwN _ 1) 1 = _
  rw [e1, h1.step h0.ge]
/-- The newest is x, if x stands at its place and what stands at the other is older. -/
theorem newest_eq {n c : Int} {on wt : List Wr} {keep : List Bool} {p q : Int} {x a : RoT} (hp : (p = 0 ∧ q = 1) ∨ (p = 1 ∧ q = 0)) (hx : PlR (on ++ wt) p x) (ha : PlR (on ++ wt) q a) (h1 : 1 ≤ x.t) (h2 : a.t < x.t) : DK.newest ⟨n, on, wt, c, keep, false⟩ = (x, 0) := by
  have hn : nwN ⟨n, on, wt, c, keep, false⟩ 2 = x := by
    rcases hp with ⟨rfl, rfl⟩ | ⟨rfl, rfl⟩
    · rw [newest_two hx ha, if_neg (by omega)]
    · rw [newest_two ha hx, if_pos h2]
  unfold DK.newest
  rw [hn, if_neg (by simp), if_neg (by omega)]
theorem nw_true {n c : Int} {on wt : List Wr} {keep : List Bool} {p q : Int} {x a : RoT} (hp : (p = 0 ∧ q = 1) ∨ (p = 1 ∧ q = 0)) (hx : PlR (on ++ wt) p x) (ha : PlR (on ++ wt) q a) (h1 : 1 ≤ x.t) (h2 : a.t < x.t) : nwV ⟨n, on, wt, c, keep, false⟩ x.t x.l = true := by
  unfold nwV
  rw [newest_eq hp hx ha h1 h2]
  simp [eqRo]
theorem nw_false {n c t : Int} {on wt : List Wr} {keep : List Bool} {p q : Int} {x a : RoT} {l : List UInt8} (hp : (p = 0 ∧ q = 1) ∨ (p = 1 ∧ q = 0)) (hx : PlR (on ++ wt) p x) (ha : PlR (on ++ wt) q a) (h1 : 1 ≤ x.t) (h2 : a.t < x.t) (ht : x.t ≠ t) : nwV ⟨n, on, wt, c, keep, false⟩ t l = false := by
  unfold nwV
  rw [newest_eq hp hx ha h1 h2]
  simp [eqRo, ht]
theorem placeR_pos {t : Int} (h : 0 ≤ t) : placeR t = t % 2 := by unfold placeR; rw [if_neg (by omega)]
theorem rkS_go {t : Int} {l : List UInt8} (h0 : 1 ≤ t) (h1 : t ≤ 2147483647) (h2 : l.length ≤ 492) : ∃ S, rkS t l = (S, 0) := by
  unfold rkS
  rw [if_pos ⟨h0, h1⟩, if_pos h2]
  unfold sealR
  rw [if_pos ⟨by omega, h1⟩, if_pos (by rw [List.length_append, beN_length]; omega)]
  exact ⟨_, rfl⟩
section
variable {n c t : Int} {on wt : List Wr} {keep : List Bool} {l S : List UInt8}
theorem DK.put_eq {D : DK} (h : rkS t l = (S, 0)) : D.put t l = D.write (placeR t) S := by unfold DK.put; rw [h, if_pos rfl]
end
theorem kept_one (keep : List Bool) (p : Wr) : kept keep [p] = if keep.getD 0 false then [p] else [] := by
  have := kept_snoc keep [] p
  simpa [kept] using this
end Go.Proofs.Ytobcfocbglkicaa
