/- A disk and the document's: what ties them stays. In plain Lean. -/
import Derived.Test.YtobcfocbglkicaaRfA
import Derived.Test.YtobcfocbglkicaaDkO
set_option linter.unusedVariables false
set_option maxRecDepth 100000
namespace Go.Proofs.Ytobcfocbglkicaa
open Go.RowKit

theorem keptR_wt (keep : List Bool) : ∀ (l : List Wr) (k : Nat), keptR keep k (wtR l) = onR (((l.zipIdx k).filter fun p => keep.getD p.2 false).map (·.1))
  | [], _ => rfl
  | p :: l, k => by
    have ih := keptR_wt keep l (k + 1)
    show (if keep.getD k false then [(p.1, p.2, true)] else []) ++ keptR keep (k + 1) (wtR l) = _
    rw [ih, List.zipIdx_cons, List.filter_cons]
    by_cases h : keep.getD k false = true
    · rw [if_pos h, if_pos h]; rfl
    · rw [if_neg h, if_neg h]; rfl
theorem keptR_all (D : DK) (keep : List Bool) : keptR keep 0 (onR D.on ++ wtR D.wt) = onR (D.on ++ kept keep D.wt) := by
  rw [keptR_on, keptR_wt]
  unfold onR kept
  rw [List.map_append]
theorem Tie.Fail {D : DK} {R : RF} (h : Tie D R) (keep : List Bool) : Tie (D.Fail keep).1 (R.Fail keep).1 ∧ (D.Fail keep).2 = (R.Fail keep).2 := by
  cases hd : D.dead with
  | true =>
    have e1 : D.Fail keep = (D, 51) := by simp [DK.Fail, DK.ask, hd]
    have e2 : R.Fail keep = (R, 51) := by unfold RF.Fail; rw [if_pos (h.dead.trans hd)]
    rw [e1, e2]
    exact ⟨h, rfl⟩
  | false =>
    have e1 : D.Fail keep = (D.fail keep, 0) := by simp [DK.Fail, DK.ask, hd]
    have e2 : R.Fail keep = (⟨R.n, keptR keep 0 R.L, 0, [], true⟩, 0) := by unfold RF.Fail; rw [if_neg (by rw [h.dead, hd]; simp)]
    rw [e1, e2]
    refine ⟨⟨h.n, ?_, rfl, rfl, fun h => by simp [DK.fail] at h, fun _ => rfl⟩, rfl⟩
    show keptR keep 0 R.L = onR (D.on ++ kept keep D.wt) ++ wtR []
    rw [h.L, keptR_all]
    simp [wtR]
theorem Tie.say {D : DK} {R : RF} (h : Tie D R) (n : Int) (keep : List Bool) : Tie (D.say n keep).1 (R.say n keep).1 ∧ (D.say n keep).2 = (R.say n keep).2 := by
  cases hd : D.dead with
  | true =>
    have e1 : D.say n keep = (D, 51) := by simp [DK.say, DK.ask, hd]
    have e2 : R.say n keep = (R, 51) := by unfold RF.say; rw [if_pos (h.dead.trans hd)]
    rw [e1, e2]
    exact ⟨h, rfl⟩
  | false =>
    by_cases hn : 0 ≤ n
    · have e1 : D.say n keep = ({ D with cut := n, keep := if 0 < n then keep else [] }, 0) := by simp [DK.say, DK.ask, hd, hn]
      have e2 : R.say n keep = ({ R with cut := n, keep := keep }, 0) := by unfold RF.say; rw [if_neg (by rw [h.dead, hd]; simp), if_pos hn]
      rw [e1, e2]
      exact ⟨⟨h.n, h.L, h.dead, rfl, fun hc => (if_pos hc).symm, h.wt0⟩, rfl⟩
    · have e1 : D.say n keep = (D, 1) := by simp [DK.say, DK.ask, hd, hn]
      have e2 : R.say n keep = (R, 1) := by unfold RF.say; rw [if_neg (by rw [h.dead, hd]; simp), if_neg hn]
      rw [e1, e2]
      exact ⟨h, rfl⟩
theorem Tie.read {D : DK} {R : RF} (h : Tie D R) (z : Int) : R.read z = D.read z := by
  unfold RF.read DK.read DK.askAt
  rw [h.dead, h.n, h.L, lastR_tie]
  cases D.dead with
  | true => simp
  | false =>
    by_cases hz : 0 ≤ z ∧ z < D.n
    · simp [hz, DK.at]
    · simp [hz]
theorem onR_app (l m : List Wr) : onR (l ++ m) = onR l ++ onR m := by simp [onR]
theorem wtR_app (l m : List Wr) : wtR (l ++ m) = wtR l ++ wtR m := by simp [wtR]
/-- A write or a flush is counted. -/
theorem Tie.count {D : DK} {R : RF} (h : Tie D R) (hd : D.dead = false) (hc : 0 ≤ D.cut) : (R.fails.2 = false ∧ D.count.2 = 0 ∧ Tie D.count.1 R.fails.1) ∨ (R.fails.2 = true ∧ D.count.2 = 51 ∧ Tie D.count.1 (R.fails.1.Fail R.fails.1.keep).1) := by
  have e : R.cut = D.cut := h.cut
  by_cases h0 : D.cut = 0
  · left
    have e1 : R.fails = (R, false) := by unfold RF.fails; rw [if_pos (by omega)]
    have e2 : D.count = (D, 0) := by unfold DK.count; rw [if_pos h0]
    rw [e1, e2]
    exact ⟨rfl, rfl, h⟩
  · by_cases h1 : D.cut = 1
    · right
      have e1 : R.fails = ({ R with cut := 0 }, true) := by
        unfold RF.fails
        rw [if_neg (by omega), show R.cut - 1 = 0 by omega]
        rfl
      have e2 : D.count = (D.fail D.keep, 51) := by unfold DK.count; rw [if_neg h0, if_neg (by omega)]
      have e3 := (h.Fail R.keep).1
      have e4 : D.Fail R.keep = (D.fail R.keep, 0) := by simp [DK.Fail, DK.ask, hd]
      rw [e4, h.keep (by omega)] at e3
      rw [e1, e2]
      refine ⟨rfl, rfl, ?_⟩
      have e5 : (({ R with cut := 0 } : RF).Fail R.keep).1 = (R.Fail R.keep).1 := by
        unfold RF.Fail
        rw [if_neg (by simp [h.dead, hd]), if_neg (by simp [h.dead, hd])]
      show Tie (D.fail D.keep) (({ R with cut := 0 } : RF).Fail R.keep).1
      rw [e5, h.keep (by omega)]
      exact e3
    · left
      have e1 : R.fails = ({ R with cut := R.cut - 1 }, false) := by
        unfold RF.fails
        rw [if_neg (by omega), decide_eq_false (by omega)]
      have e2 : D.count = ({ D with cut := D.cut - 1 }, 0) := by unfold DK.count; rw [if_neg h0, if_pos (by omega)]
      rw [e1, e2]
      exact ⟨rfl, rfl, ⟨h.n, h.L, h.dead, by show R.cut - 1 = D.cut - 1; omega, fun _ => h.keep (by omega), h.wt0⟩⟩
theorem Tie.write {D : DK} {R : RF} (h : Tie D R) (hc : 0 ≤ D.cut) (z : Int) (b : List UInt8) : Tie (D.write z b).1 (R.write z b).1 ∧ (D.write z b).2 = (R.write z b).2 := by
  cases hd : D.dead with
  | true =>
    have e1 : D.write z b = (D, 51) := by simp [DK.write, DK.askAt, hd]
    have e2 : R.write z b = (R, 51) := by unfold RF.write; rw [if_pos (h.dead.trans hd)]
    rw [e1, e2]
    exact ⟨h, rfl⟩
  | false =>
    by_cases hz : 0 ≤ z ∧ z < D.n
    · have h1 : Tie { D with wt := D.wt ++ [(z, b)] } { R with L := R.L ++ [(z, b, false)] } :=
        ⟨h.n, by show R.L ++ [(z, b, false)] = onR D.on ++ wtR (D.wt ++ [(z, b)]); rw [h.L, wtR_app, List.append_assoc]; rfl, h.dead, h.cut, h.keep, fun hh => by rw [hd] at hh; cases hh⟩
      have e1 : D.write z b = DK.count { D with wt := D.wt ++ [(z, b)] } := by
        have : D.askAt z = 0 := by simp [DK.askAt, hd, hz]
        unfold DK.write
        rw [if_pos this]
      have e2 : R.write z b = if (({ R with L := R.L ++ [(z, b, false)] } : RF).fails).2 then (((({ R with L := R.L ++ [(z, b, false)] } : RF).fails).1.Fail (({ R with L := R.L ++ [(z, b, false)] } : RF).fails).1.keep).1, 51) else ((({ R with L := R.L ++ [(z, b, false)] } : RF).fails).1, 0) := by
        unfold RF.write
        rw [if_neg (by rw [h.dead, hd]; simp), if_pos (by rw [h.n]; exact hz)]
      rw [e1, e2]
      rcases h1.count hd hc with ⟨c1, c2, c3⟩ | ⟨c1, c2, c3⟩
      · rw [c1]; exact ⟨c3, c2⟩
      · rw [c1]; exact ⟨c3, c2⟩
    · have e1 : D.write z b = (D, 1) := by simp [DK.write, DK.askAt, hd, hz]
      have e2 : R.write z b = (R, 1) := by unfold RF.write; rw [if_neg (by rw [h.dead, hd]; simp), if_neg (by rw [h.n]; exact hz)]
      rw [e1, e2]
      exact ⟨h, rfl⟩
theorem flushed_L (on wt : List Wr) : ((onR on ++ wtR wt).map fun p : RW => (p.1, p.2.1, true)) = onR (on ++ wt) := by
  simp [onR, wtR, Function.comp_def]
theorem Tie.flush {D : DK} {R : RF} (h : Tie D R) (hc : 0 ≤ D.cut) : Tie D.flush.1 R.flush.1 ∧ D.flush.2 = R.flush.2 := by
  cases hd : D.dead with
  | true =>
    have e1 : D.flush = (D, 51) := DK.flush_no (by simp [DK.ask, hd])
    have e2 : R.flush = (R, 51) := by unfold RF.flush; rw [if_pos (h.dead.trans hd)]
    rw [e1, e2]
    exact ⟨h, rfl⟩
  | false =>
    have ha : D.ask = 0 := by simp [DK.ask, hd]
    have e2 : R.flush = if R.fails.2 then ((R.fails.1.Fail R.fails.1.keep).1, 51) else ({ R.fails.1 with L := R.fails.1.L.map fun p => (p.1, p.2.1, true) }, 0) := by
      unfold RF.flush
      rw [if_neg (by rw [h.dead, hd]; simp)]
    rcases h.count hd hc with ⟨c1, c2, c3⟩ | ⟨c1, c2, c3⟩
    · rw [e2, c1, DK.flush_ok ha c2]
      refine ⟨⟨c3.n, ?_, c3.dead, c3.cut, c3.keep, fun _ => rfl⟩, rfl⟩
      show R.fails.1.L.map _ = onR (D.on ++ D.wt) ++ wtR []
      rw [c3.L, flushed_L]
      rcases count_cases D with ⟨_, h1, h2, _⟩ | ⟨h1, _⟩
      · rw [h1, h2]; simp [wtR]
      · rw [c2] at h1; cases h1
    · rw [e2, c1, DK.flush_cut ha c2]
      exact ⟨c3, rfl⟩
theorem Tie.new (n : Int) : Tie (newD n []) ⟨n, [], 0, [], false⟩ := ⟨rfl, rfl, rfl, rfl, fun _ => rfl, fun _ => rfl⟩
theorem Tie.boot {D : DK} {R : RF} (h : Tie D R) (hd : D.dead = true) : Tie (newD D.n D.on) ⟨R.n, R.L, 0, [], false⟩ := by
  refine ⟨h.n, ?_, rfl, rfl, fun hh => by simp [newD] at hh, fun _ => rfl⟩
  show R.L = onR D.on ++ wtR []
  rw [h.L, h.wt0 hd]
/-- How many wait. -/
def RF.waiting (R : RF) : Nat := (R.L.filter fun p => !p.2.2).length
theorem Tie.waiting {D : DK} {R : RF} (h : Tie D R) : R.waiting = D.wt.length := by
  unfold RF.waiting
  rw [h.L, List.filter_append, List.length_append]
  have e1 : ((onR D.on).filter fun p : RW => !p.2.2) = [] := by simp [onR, List.filter_eq_nil_iff]
  have e2 : ((wtR D.wt).filter fun p : RW => !p.2.2) = wtR D.wt := by simp [wtR, List.filter_eq_self]
  rw [e1, e2]
  simp [wtR]
end Go.Proofs.Ytobcfocbglkicaa
