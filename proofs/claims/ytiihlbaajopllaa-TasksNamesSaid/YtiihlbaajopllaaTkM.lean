/- The law of tasks: its example. (Printed by gtask.py.) -/
import Derived.Test.YtiihlbaajopllaaTkL
set_option linter.unusedVariables false
set_option maxRecDepth 100000
namespace Go.Proofs.Ytiihlbaajopllaa
open Go.RowKit

deriving instance DecidableEq for TK
theorem in_cell {w : World} {b j : Nat} {l : List Int} {junk : List Value} {n : Int} (h : w.heap[b]? = some (inC l junk)) (hj : l[j]? = some n) : w.cell? ⟨b, j, none⟩ = some (.int .i64 n) := by
  obtain ⟨hk, rfl⟩ := List.getElem?_eq_some_iff.1 hj
  unfold inC at h
  rw [cell_of_row _ _ _ _ _ _ h]
  rw [List.getElem?_toArray, List.getElem?_append_left (by rw [ics_length]; exact hk)]
  simp [ics, hk]
theorem trowK {W w : World} {ds : List (Ob Zf)} {g : Nat} {T : TK} (i : Nat) (h : OSt W ds w) (hi : ds[i]? = some (tkOb g T)) (l : List Int) (hl : T.L.map (·.p.1) = l) (n : Nat) (hn : l.length = n) (h0 : 0 < n) :
    Calls Try.prog 33 #[.pointer (some ⟨g, 0, none⟩)] w fun r w' => ∃ b c junk, r = .returned (.slice (some ⟨b, 0, none⟩) n c) ∧ n ≤ c ∧ OSt W (inOb b l junk :: ds) w' := by
  refine (trowO i h hi l hl).mono ?_
  rintro r w' ⟨v, hr, hv, hx⟩
  subst hn
  obtain ⟨hl, ⟨_, hz⟩ | ⟨b, c, junk, rfl, hB, hb, hcl, _⟩⟩ := hv
  · omega
  · refine ⟨b, c, junk, hr, by omega, h.push hx (D := inOb b l junk) (R := fun i => i = b) ⟨hb, rfl⟩ fun k hk => ?_⟩
    subst hk
    exact hB
def ns0 : TK := ⟨[⟨(7, [(5, true)]), 1, 0⟩], 1, 0⟩
def ns1 : TK := ⟨[⟨(7, [(5, true)]), 1, 0⟩, ⟨(8, [(5, true)]), 2, 0⟩], 2, 0⟩
def ns2 : TK := ⟨[⟨(7, [(5, true)]), 1, 0⟩, ⟨(8, [(5, true)]), 2, 0⟩, ⟨(9, [(6, false)]), 3, 0⟩], 3, 0⟩
def ns3 : TK := ⟨[⟨(7, [(5, true)]), 1, 1⟩, ⟨(8, [(5, true)]), 2, 0⟩, ⟨(9, [(6, false)]), 3, 0⟩], 3, 0⟩
def ns4 : TK := ⟨[⟨(7, [(5, true)]), 1, 2⟩, ⟨(8, [(5, true)]), 2, 0⟩, ⟨(9, [(6, false)]), 3, 0⟩], 3, 0⟩
def ns5 : TK := ⟨[⟨(7, [(5, true)]), 1, 2⟩, ⟨(8, [(5, true)]), 2, 0⟩, ⟨(9, [(6, false)]), 3, 0⟩], 3, 1⟩
def ns6 : TK := ⟨[⟨(8, [(5, true)]), 2, 0⟩, ⟨(9, [(6, false)]), 3, 0⟩], 3, 1⟩
def ns7 : TK := ⟨[⟨(8, [(5, true)]), 2, 0⟩, ⟨(9, [(6, false)]), 3, 0⟩], 3, 2⟩
def ns8 : TK := ⟨[⟨(8, [(5, true)]), 2, 2⟩, ⟨(9, [(6, false)]), 3, 0⟩], 3, 2⟩
set_option maxHeartbeats 8000000 in
theorem works_any (w : World) : Calls Try.prog 24 #[] w fun e w' => e = .returned (.bool true) ∧ Below w.heap.size w w' := by
  go_enter Try.func24, Try.ntmps24
  have H0 : Hid (OSt (Z := Zf) w [] w) := Lib.hid (OSt.start w)
  go_wp2_with fail
  refine (tnewO H0.out).mono ?_
  rintro e w1 ⟨g, rfl, h⟩
  have H1 : Hid (OSt w [tkOb g T0] w1) := Lib.hid (h)
  clear h H0
  go_wp2_with fail
  refine (wantO H1.out 5 true).mono ?_
  rintro e w2 ⟨k, rfl, h⟩
  have HA := Lib.hid h
  clear h H1
  go_wp2_with fail
  refine (taddO 1 HA.out rfl 7 [(5, true)] (rwn_row (l := [(5, true)]) (HA.out.get 0 rfl)) (by decide) (by decide) (by decide) (by decide +kernel) 0 (by decide +kernel) (T' := ns0) (by decide +kernel)).mono ?_
  rintro e w3 ⟨rfl, h⟩
  have H3 : Hid (OSt w [tkOb g ns0] w3) := Lib.hid (h.dropI 0)
  clear h HA
  go_wp2_with fail
  refine (wantO H3.out 5 true).mono ?_
  rintro e w4 ⟨k, rfl, h⟩
  have HA := Lib.hid h
  clear h H3
  go_wp2_with fail
  refine (taddO 1 HA.out rfl 8 [(5, true)] (rwn_row (l := [(5, true)]) (HA.out.get 0 rfl)) (by decide) (by decide) (by decide) (by decide +kernel) 0 (by decide +kernel) (T' := ns1) (by decide +kernel)).mono ?_
  rintro e w5 ⟨rfl, h⟩
  have H5 : Hid (OSt w [tkOb g ns1] w5) := Lib.hid (h.dropI 0)
  clear h HA
  go_wp2_with fail
  refine (wantO H5.out 6 false).mono ?_
  rintro e w6 ⟨k, rfl, h⟩
  have HA := Lib.hid h
  clear h H5
  go_wp2_with fail
  refine (taddO 1 HA.out rfl 9 [(6, false)] (rwn_row (l := [(6, false)]) (HA.out.get 0 rfl)) (by decide) (by decide) (by decide) (by decide +kernel) 0 (by decide +kernel) (T' := ns2) (by decide +kernel)).mono ?_
  rintro e w7 ⟨rfl, h⟩
  have H7 : Hid (OSt w [tkOb g ns2] w7) := Lib.hid (h.dropI 0)
  clear h HA
  have hA := H7.out.alloc (.cells #[.int .i64 7, .int .i64 1, .int .i64 9, .int .i64 1] 3 (0, 0)) (nz (by decide))
  have X := Lib.hid (canLaw_t 1 hA rfl [(7, 1), (9, 1)] (by decide +kernel) (rin_row (l := flat2 [(7, 1), (9, 1)]) (c := 4) (junk := []) (hA.get 0 rfl) (by decide)) (by decide) (by decide))
  have HA := Lib.hid hA
  clear hA H7
  go_wp2_with fail
  refine (X.out).mono ?_
  rintro e w8 ⟨rfl, h⟩
  have H8 : Hid (OSt w [tkOb g ns2] w8) := Lib.hid ((HA.out.ext h).dropI 0)
  clear h HA
  clear X
  go_wp2_with fail
  refine (tdidO 0 H8.out rfl 7 true (by decide) (by decide) 0 (by decide +kernel) (T' := ns3) (by decide +kernel)).mono ?_
  rintro e w9 ⟨rfl, h⟩
  have H9 : Hid (OSt w [tkOb g ns3] w9) := Lib.hid (h)
  clear h H8
  have hA := H9.out.alloc (.cells #[.int .i64 9, .int .i64 1, .int .i64 (-1), .int .i64 2] 3 (0, 0)) (nz (by decide))
  have X := Lib.hid (canLaw_t 1 hA rfl [(9, 1), ((-1), 2)] (by decide +kernel) (rin_row (l := flat2 [(9, 1), ((-1), 2)]) (c := 4) (junk := []) (hA.get 0 rfl) (by decide)) (by decide) (by decide))
  have HA := Lib.hid hA
  clear hA H9
  go_wp2_with fail
  refine (X.out).mono ?_
  rintro e w10 ⟨rfl, h⟩
  have H10 : Hid (OSt w [tkOb g ns3] w10) := Lib.hid ((HA.out.ext h).dropI 0)
  clear h HA
  clear X
  go_wp2_with fail
  refine (pickedO 0 H10.out rfl 3 (by decide) (by decide) ((-1), 2) (T' := ns3) (by decide +kernel)).mono ?_
  rintro e w11 ⟨rfl, h⟩
  have H11 : Hid (OSt w [tkOb g ns3] w11) := Lib.hid (h)
  clear h H10
  go_wp2_with fail
  refine (tsync1 0 H11.out rfl [7] (by decide +kernel) (by decide) (T' := ns4) (by decide +kernel)).mono ?_
  rintro e w12 ⟨b, c, junk, rfl, hc, h⟩
  have hA := h.alloc (.cells #[.int .i64 7] 3 (0, 0)) (nz (by decide))
  have X := Lib.hid (ints_t [7] _ (rin_row (c := c) (hA.get 1 rfl) hc) (rin_row (l := [7]) (c := 1) (junk := []) (hA.get 0 rfl) (Nat.le_refl _)) (by decide))
  have HA := Lib.hid hA
  clear hA h H11
  go_wp2_with fail
  refine (X.out).mono ?_
  rintro e w13 ⟨rfl, h⟩
  have H13 : Hid (OSt w [tkOb g ns4] w13) := Lib.hid (((HA.out.ext h).dropI 0).dropI 0)
  clear h HA
  clear X hc
  have hA := H13.out.alloc (.cells #[.int .i64 7, .int .i64 3, .int .i64 9, .int .i64 1] 3 (0, 0)) (nz (by decide))
  have X := Lib.hid (canLaw_t 1 hA rfl [(7, 3), (9, 1)] (by decide +kernel) (rin_row (l := flat2 [(7, 3), (9, 1)]) (c := 4) (junk := []) (hA.get 0 rfl) (by decide)) (by decide) (by decide))
  have HA := Lib.hid hA
  clear hA H13
  go_wp2_with fail
  refine (X.out).mono ?_
  rintro e w14 ⟨rfl, h⟩
  have H14 : Hid (OSt w [tkOb g ns4] w14) := Lib.hid ((HA.out.ext h).dropI 0)
  clear h HA
  clear X
  go_wp2_with fail
  refine (nextO 0 H14.out rfl (7, 3) (T' := ns5) (by decide +kernel)).mono ?_
  rintro e w15 ⟨rfl, h⟩
  have H15 : Hid (OSt w [tkOb g ns5] w15) := Lib.hid (h)
  clear h H14
  go_wp2_with fail
  refine (treplO 0 H15.out rfl 7 (by decide) (by decide) 0 (by decide +kernel) (T' := ns6) (by decide +kernel)).mono ?_
  rintro e w16 ⟨rfl, h⟩
  have H16 : Hid (OSt w [tkOb g ns6] w16) := Lib.hid (h)
  clear h H15
  have hA := H16.out.alloc (.cells #[.int .i64 8, .int .i64 1, .int .i64 9, .int .i64 1] 3 (0, 0)) (nz (by decide))
  have X := Lib.hid (canLaw_t 1 hA rfl [(8, 1), (9, 1)] (by decide +kernel) (rin_row (l := flat2 [(8, 1), (9, 1)]) (c := 4) (junk := []) (hA.get 0 rfl) (by decide)) (by decide) (by decide))
  have HA := Lib.hid hA
  clear hA H16
  go_wp2_with fail
  refine (X.out).mono ?_
  rintro e w17 ⟨rfl, h⟩
  have H17 : Hid (OSt w [tkOb g ns6] w17) := Lib.hid ((HA.out.ext h).dropI 0)
  clear h HA
  clear X
  go_wp2_with fail
  refine (nextO 0 H17.out rfl (8, 1) (T' := ns7) (by decide +kernel)).mono ?_
  rintro e w18 ⟨rfl, h⟩
  have H18 : Hid (OSt w [tkOb g ns7] w18) := Lib.hid (h)
  clear h H17
  go_wp2_with fail
  refine (tdidO 0 H18.out rfl 8 false (by decide) (by decide) 0 (by decide +kernel) (T' := ns8) (by decide +kernel)).mono ?_
  rintro e w19 ⟨rfl, h⟩
  have H19 : Hid (OSt w [tkOb g ns8] w19) := Lib.hid (h)
  clear h H18
  have hA := H19.out.alloc (.cells #[.int .i64 8, .int .i64 3, .int .i64 9, .int .i64 1] 3 (0, 0)) (nz (by decide))
  have X := Lib.hid (canLaw_t 1 hA rfl [(8, 3), (9, 1)] (by decide +kernel) (rin_row (l := flat2 [(8, 3), (9, 1)]) (c := 4) (junk := []) (hA.get 0 rfl) (by decide)) (by decide) (by decide))
  have HA := Lib.hid hA
  clear hA H19
  go_wp2_with fail
  refine (X.out).mono ?_
  rintro e w20 ⟨rfl, h⟩
  have H20 : Hid (OSt w [tkOb g ns8] w20) := Lib.hid ((HA.out.ext h).dropI 0)
  clear h HA
  clear X
  have HF := Lib.hid H20.out.bel
  clear H20
  go_wp2
  go_ret
  exact ⟨rfl, HF.out⟩
end Go.Proofs.Ytiihlbaajopllaa
