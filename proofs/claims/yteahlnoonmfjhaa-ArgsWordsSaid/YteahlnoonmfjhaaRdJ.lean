/- Walks of readers: Text of package xdr; lengths. -/
import Derived.Test.YteahlnoonmfjhaaRdI
set_option linter.unusedVariables false
set_option maxRecDepth 100000
namespace Go.Proofs.Yteahlnoonmfjhaa
open Go.RowKit

theorem rdW_len (s : St) : (rdW s).2.l.length ≤ s.l.length := by
  cases s with
  | none => simp [rdW, St.l]
  | some l => simp only [rdW]; split <;> simp [St.l]
theorem rdC_len (s : St) (m : Int) : (rdC s m).2.l.length ≤ s.l.length := by
  unfold rdC
  split
  · simp [St.l]
  · exact rdW_len s
theorem rdL_len (s : St) : (rdL s).2.l.length ≤ s.l.length := by
  unfold rdL
  split
  · simp [St.l]
  · exact Nat.le_trans (rdW_len _) (rdW_len s)
theorem rdF_len (s : St) : (rdF s).2.l.length ≤ s.l.length := by
  unfold rdF
  split
  · simp [St.l]
  · exact rdW_len s
theorem rdX_len (s : St) (n : Int) : (rdX s n).2.l.length ≤ s.l.length := by
  cases s with
  | none => simp [rdX, St.l]
  | some l => simp only [rdX]; split <;> simp [St.l]

def rdT (s : St) (m : Int) : List UInt8 × St := rdX (rdC s (max m 0)).2 (rdC s (max m 0)).1
theorem rdT_len (s : St) (m : Int) : (rdT s m).2.l.length ≤ s.l.length := Nat.le_trans (rdX_len _ _) (rdC_len _ _)

theorem text_any (g : Nat) (s : St) (m : Int) (w : World) (h : Rd 192 w g s) (hl : s.l.length ≤ 900000) :
    Calls Try.prog 125 #[.pointer (some ⟨g, 0, none⟩), .int .i64 m] w fun e w' => e = .returned (.string (str (rdT s m).1)) ∧ Rd 192 w' g (rdT s m).2 ∧ But g w w' := by
  by_cases hm : m < 0
  · have hlen := rdC_len s 0
    have hb := rdC_bd s 0
    have hr : rdT s m = rdX (rdC s 0).2 (rdC s 0).1 := by unfold rdT; rw [show max m 0 = 0 by omega]
    rw [hr]
    go_enter Try.func125, Try.ntmps125
    go_wp2_with fail
    refine (count_any g s 0 _ h).mono ?_
    rintro e w1 ⟨rfl, r1, k1⟩
    go_wp2_with fail
    refine (fixed_any g _ _ _ r1 (by omega)).mono ?_
    rintro e w2 ⟨rfl, r2, k2⟩
    go_wp2_with fail
    go_ret
    exact ⟨rfl, r2, k1.trans k2⟩
  · have hlen := rdC_len s m
    have hb := rdC_bd s m
    have hr : rdT s m = rdX (rdC s m).2 (rdC s m).1 := by unfold rdT; rw [show max m 0 = m by omega]
    rw [hr]
    go_enter Try.func125, Try.ntmps125
    go_wp2_with fail
    refine (count_any g s m _ h).mono ?_
    rintro e w1 ⟨rfl, r1, k1⟩
    go_wp2_with fail
    refine (fixed_any g _ _ _ r1 (by omega)).mono ?_
    rintro e w2 ⟨rfl, r2, k2⟩
    go_wp2_with fail
    go_ret
    exact ⟨rfl, r2, k1.trans k2⟩

/-- The first n bytes cut off a reader's rest. -/
theorem Rd.cut {T : TypeId} {w : World} {g b off c n : Nat} {l : List UInt8} (h : Rd T w g (some l)) (hg : w.heap[g]? = some (.cells #[.slice (some ⟨b, off, none⟩) l.length c, .bool false] T (0, 0)))
    (hb : b < w.heap.size) (hcl : l.length ≤ c) (hn : n ≤ l.length) (hj : ∀ j, j < l.length → w.cell? ⟨b, off + j, none⟩ = (bvs l)[j]?) :
    (c = n → Rd T (w.setCell ⟨g, 0, none⟩ (.slice (some ⟨b, off, none⟩) (l.length - n) 0)) g (some (l.drop n)) ∧ But g w (w.setCell ⟨g, 0, none⟩ (.slice (some ⟨b, off, none⟩) (l.length - n) 0))) ∧
    (c ≠ n → Rd T (w.setCell ⟨g, 0, none⟩ (.slice (some ⟨b, off + n, none⟩) (l.length - n) (c - n))) g (some (l.drop n)) ∧ But g w (w.setCell ⟨g, 0, none⟩ (.slice (some ⟨b, off + n, none⟩) (l.length - n) (c - n)))) := by
  have hdl : (l.drop n).length = l.length - n := by simp
  have hs : St.l (some (l.drop n)) = l.drop n := rfl
  constructor
  · intro hcn
    have hd : l.drop n = [] := List.drop_eq_nil_of_le (by omega)
    rw [blk2_st0 _ hg]
    exact h.set (s' := some (l.drop n)) (v := .slice (some ⟨b, off, none⟩) (l.length - n) 0) (b := false) (.inr ⟨b, off, 0, by rw [hs, hdl], hb, by rw [hs, hdl]; omega, fun j hjl => by
        rw [hs, hd] at hjl; simp at hjl⟩) rfl
  · intro hcn
    rw [blk2_st0 _ hg]
    exact h.set (s' := some (l.drop n)) (v := .slice (some ⟨b, off + n, none⟩) (l.length - n) (c - n)) (b := false) (.inr ⟨b, off + n, c - n, by rw [hs, hdl], hb, by rw [hs, hdl]; omega, fun j hjl => by
        rw [hs] at hjl ⊢
        rw [hdl] at hjl
        rw [Nat.add_assoc, hj (n + j) (by omega)]
        simp [bvs]⟩) rfl
end Go.Proofs.Yteahlnoonmfjhaa
