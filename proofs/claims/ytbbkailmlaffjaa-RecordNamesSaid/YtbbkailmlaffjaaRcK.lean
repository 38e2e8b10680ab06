/- Records: the first example in two chunks (awake). -/
import Derived.Test.YtbbkailmlaffjaaRcJ
set_option linter.unusedVariables false
set_option maxRecDepth 100000
namespace Go.Proofs.Ytbbkailmlaffjaa
open Go.RowKit

theorem RS.part {w : World} {b off c : Nat} {l : List UInt8} (h : RS w (.slice (some ⟨b, off, none⟩) l.length c) l) (i k c' : Nat) (hi : i + k ≤ l.length) (hc : k ≤ c') : RS w (.slice (some ⟨b, off + i, none⟩) k c') ((l.drop i).take k) := by
  rcases h with ⟨h, _⟩ | ⟨b', off', c2, h, hb, hc, hj⟩
  · simp at h
  · simp only [Value.slice.injEq, Option.some.injEq, Addr.mk.injEq, and_true] at h
    obtain ⟨⟨rfl, rfl⟩, -, rfl⟩ := h
    have hl : ((l.drop i).take k).length = k := by simp; omega
    refine .inr ⟨b, off + i, c', by rw [hl], hb, by omega, fun j hj' => ?_⟩
    rw [hl] at hj'
    rw [show off + i + j = off + (i + j) by omega, hj (i + j) (by omega)]
    simp only [bvs, List.getElem?_map, List.getElem?_take, List.getElem?_drop]
    rw [if_pos hj']
theorem away_arg {W : World} {ds : List (Ob Zn)} {i b off n c : Nat} (h : b < W.heap.size) : Away W ds i (.slice (some ⟨b, off, none⟩) n c) := fun b' off' n' c' e => by cases e; exact .inl h
theorem awake_any (w : World) : Calls Try.prog 8 #[] w fun e w' => e = .returned (.bool true) ∧ Below w.heap.size w w' := by
  have KW := Lib.hid (recWrite_yes [97, 98] w (by decide))
  have hw : fragB [97, 98] true = [128, 0, 0, 2, 97, 98] := by kernel_rfl
  rw [hw] at KW
  clear hw
  have f1 : feed rc0 [128, 0, 0, 2, 97] = (⟨[128, 0, 0, 2], 1, true, [97], 5, false⟩, []) := by kernel_rfl
  have f2 : feed ⟨[128, 0, 0, 2], 1, true, [97], 5, false⟩ [98] = (⟨[], 0, true, [], 0, false⟩, [[97, 98]]) := by kernel_rfl
  have F1 := Lib.hid f1
  have F2 := Lib.hid f2
  clear f1 f2
  go_enter Try.func8, Try.ntmps8
  go_wp2_with fail
  refine KW.out.mono ?_
  rintro e w1 ⟨v1, rfl, o1, hb1⟩
  clear KW
  obtain ⟨g, c, junk, rfl, hgB, hg, hc, -⟩ : ∃ g c junk, v1 = .slice (some ⟨g, 0, none⟩) 6 c ∧ w.heap.size ≤ g ∧ w1.heap[g]? = some (.cells (bvs [128, 0, 0, 2, 97, 98] ++ junk).toArray 5 (0, 0)) ∧ 6 + junk.length = c ∧ True := by
    obtain ⟨-, ⟨-, h⟩ | ⟨g, c, junk, rfl, hB, hg, hc, -⟩⟩ := ownZ_row o1
    · simp at h
    · exact ⟨g, c, junk, rfl, hB, hg, by simpa [bvs] using hc, trivial⟩
  have R1 := Lib.hid o1.rs
  have O1 := OSt.start (Z := Zn) w1
  have K1 := Lib.hid (newO O1)
  have HB1 := Lib.hid hb1
  have hgl := heap_lt hg
  clear o1 O1 hb1 hg
  go_wp2_with fail
  refine K1.out.mono ?_
  rintro e w2 ⟨gr, rfl, O2⟩
  clear K1
  have R2 := Lib.hid (R1.out.ext O2.bel)
  have cvt : (convert 22 9 (.slice (some ⟨g, 0, none⟩) 6 c)).run Try.prog w2 = .ok (.string (str [128, 0, 0, 2, 97, 98])) w2 := R2.out.conv Try.underlying22 Try.underlying5 Try.underlying9
  have hlit := strL [128, 0, 0, 2, 97, 98]
  have K2 := Lib.hid (feedO O2 0 (g := gr) (s := rc0) (v := .slice (some ⟨g, 0, none⟩) 5 c) (ch := [128, 0, 0, 2, 97]) rfl rc0_ok (RS.part (l := [128, 0, 0, 2, 97, 98]) R2.out 0 5 c (by decide) (by omega)) (away_arg hgl) (by decide) (by decide))
  rw [F1.out, show shN false = 0 from rfl] at K2
  have HO2 := Lib.hid O2
  clear O2
  have hcap : (5 : Int) ≤ c := by omega
  go_upto_region 5 with fail
  clear cvt hlit
  go_wp2_with fail
  refine K2.out.mono ?_
  rintro e w3 ⟨tv, rfl, O3⟩
  have O3' := O3
  have R3 := Lib.hid (R1.out.ext O3.bel)
  have K3 := Lib.hid (feedO O3 1 (g := gr) (v := .slice (some ⟨g, 0 + 5, none⟩) 1 (c - 5)) (ch := [98]) rfl (by have := feed_ok [128, 0, 0, 2, 97] rc0_ok; rw [F1.out] at this; exact this) (RS.part (l := [128, 0, 0, 2, 97, 98]) R3.out 5 1 (c - 5) (by decide) (by omega)) (away_arg hgl) (by decide) (by decide))
  rw [F2.out, show shN false = 0 from rfl] at K3
  have HO3 := Lib.hid O3
  clear O3 O3' K2 HO2
  go_wp2_with fail
  refine K3.out.mono ?_
  rintro e w4 ⟨tv4, rfl, O4⟩
  have o3 : OwnR w3 0 9 1 One tv 0 [] := HO3.out.own 0 rfl
  obtain ⟨A3, c3, rfl⟩ := o3.form
  have o4 : OwnR w4 0 9 1 One tv4 1 [.string (str [97, 98])] := O4.own 0 rfl
  obtain ⟨A4, c4, rfl⟩ := o4.form
  obtain ⟨g4, rfl, -, hl4, hc4, hj4⟩ := o4.cells (by decide)
  have e4 : w4.cell? ⟨g4, 0, none⟩ = some (.string (str [97, 98])) := hj4 0 (by decide)
  have hlit2 := strL [97, 98]
  have KH := Lib.hid (heldO O4 2 rfl)
  have KS := Lib.hid (shutO O4 2 rfl)
  have hcc := hc4 (by decide)
  have HB4 := Lib.hid (HB1.out.trans (Below.mono O4.bel HB1.out.size))
  clear o3 o4 hj4 hc4 HO3 K3 O4 R2 R3 R1
  go_wp2_with (first | (go_at_call 12; refine KH.out.mono ?_; rintro e w5 ⟨rfl, rfl⟩) | (go_at_call 13; refine KS.out.mono ?_; rintro e w5 ⟨rfl, rfl⟩))
  go_ret
  exact ⟨rfl, HB4.out⟩
end Go.Proofs.Ytbbkailmlaffjaa
