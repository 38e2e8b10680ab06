/- Contracts of locks over objects side by side; the example of the law of locks. -/
import Derived.Test.YtiihlbaajopllaaLkS
set_option linter.unusedVariables false
set_option maxRecDepth 100000
namespace Go.Proofs.Ytiihlbaajopllaa
open Go.RowKit

theorem nz {cs : Array Value} {t : TypeId} {fr : Nat × Nat} (h : t ≠ 98) : ¬ Zf (.cells cs t fr) := h
abbrev wnOb (b : Nat) (l : List Wn) : Ob Zf := rowOb b (.cells (wncs l).toArray 52 (0, 0)) (nz (by decide))
def inC (T : List Int) (junk : List Value) : Obj := .cells (ics T ++ junk).toArray 3 (0, 0)
abbrev inOb (b : Nat) (T : List Int) (junk : List Value) : Ob Zf := rowOb b (inC T junk) (nz (by decide))
theorem rwn_row {w : World} {b : Nat} {l : List Wn} {T : TypeId} {fr : Nat × Nat} (h : w.heap[b]? = some (.cells (wncs l).toArray T fr)) : RWn w (.slice (some ⟨b, 0, none⟩) l.length l.length) l :=
  ⟨wncs_length l, .inr ⟨b, 0, l.length, rfl, heap_lt h, Nat.le_refl _, fun j hj => by rw [cell_of_row _ _ _ _ _ _ h, Nat.zero_add]; simp [hj]⟩⟩
theorem rin_row {w : World} {b c : Nat} {l : List Int} {junk : List Value} {T : TypeId} {fr : Nat × Nat} (h : w.heap[b]? = some (.cells (ics l ++ junk).toArray T fr)) (hc : l.length ≤ c) : RIn w (.slice (some ⟨b, 0, none⟩) l.length c) l :=
  ⟨by rw [ics_length]; omega, .inr ⟨b, 0, c, rfl, heap_lt h, hc, fun j hj => by
    rw [cell_of_row _ _ _ _ _ _ h, Nat.zero_add]
    simp only [List.getElem?_toArray]
    rw [List.getElem?_append_left hj, List.getElem?_eq_getElem hj]⟩⟩
theorem rin_nil {w : World} (A : Option Addr) (c : Nat) : RIn w (.slice A 0 c) [] := ⟨rfl, .inl ⟨A, c, rfl, rfl⟩⟩
section
variable {W w : World} {ds : List (Ob Zf)} {g : Nat} {L : List Tk}
theorem newO (h : OSt W ds w) : Calls Try.prog 12 #[] w fun r w' => ∃ g, r = .returned (.pointer (some ⟨g, 0, none⟩)) ∧ OSt W (lkOb g [] :: ds) w' :=
  (locksNew_any w).mono fun r w' ⟨g, hr, _, hd, hb⟩ => ⟨g, hr, h.pushN hb hd⟩
theorem askO (i : Nat) (h : OSt W ds w) (hi : ds[i]? = some (lkOb g L)) (n : Int) (l : List Wn) {v : Value} (hv : RWn w v l) (hl : l.length ≤ 1000000) (b : Bool) (e : Int) (L' : List Tk) (hb : askB L n l = b) (he : askE L n l = e) (hL : askL L n l = L') :
    Calls Try.prog 13 #[.pointer (some ⟨g, 0, none⟩), .int .i64 n, v] w fun r w' => r = .returned (.tuple #[.bool b, .int .i64 e]) ∧ OSt W (ds.set i (lkOb g L')) w' := by
  obtain ⟨S, h1, _, h3, _⟩ := h.pick hi
  subst hb he hL
  exact (Ask_any n l w h1 hv hl).mono fun r w' ⟨hr, hT⟩ => ⟨hr, h3 _ _ hT⟩
theorem hasO (i : Nat) (h : OSt W ds w) (hi : ds[i]? = some (lkOb g L)) (n : Int) (b : Bool) (hb : hasL L n = b) :
    Calls Try.prog 17 #[.pointer (some ⟨g, 0, none⟩), .int .i64 n] w fun r w' => r = .returned (.bool b) ∧ Ext w w' := by
  obtain ⟨S, h1, _⟩ := h.pick hi
  subst hb
  exact has_any n w h1
theorem rowO (i : Nat) (h : OSt W ds w) (hi : ds[i]? = some (lkOb g L)) :
    Calls Try.prog 18 #[.pointer (some ⟨g, 0, none⟩)] w fun r w' => ∃ v, r = .returned v ∧ OwnR w' w.heap.size 3 1 One v (L.map (·.1)).length (ics (L.map (·.1))) ∧ Ext w w' := by
  obtain ⟨S, h1, _⟩ := h.pick hi
  rw [List.length_map]
  exact row_any w h1
theorem copyO (i : Nat) (h : OSt W ds w) (hi : ds[i]? = some (lkOb g L)) :
    Calls Try.prog 19 #[.pointer (some ⟨g, 0, none⟩)] w fun r w' => ∃ g', r = .returned (.pointer (some ⟨g', 0, none⟩)) ∧ OSt W (lkOb g' L :: ds) w' := by
  obtain ⟨S, h1, _⟩ := h.pick hi
  exact (Copy_any w h1).mono fun r w' ⟨g', hr, hd, hb⟩ => ⟨g', hr, h.pushN hb hd⟩
theorem drop0 (i : Nat) (h : OSt W ds w) (hi : ds[i]? = some (lkOb g L)) (n : Int) (e : Int) (L' : List Tk) (ht : dropT L n = []) (he : dropE L n = e) (hL : dropL L n = L') :
    Calls Try.prog 15 #[.pointer (some ⟨g, 0, none⟩), .int .i64 n] w fun r w' => ∃ A c, r = .returned (.tuple #[.slice A 0 c, .int .i64 e]) ∧ OSt W (ds.set i (lkOb g L')) w' := by
  obtain ⟨S, h1, _, h3, _⟩ := h.pick hi
  subst he hL
  refine (Drop_any n w h1).mono ?_
  rintro r w' ⟨v, hr, hv, hT⟩
  rw [ht] at hv
  obtain ⟨A, c, rfl⟩ := hv.form
  exact ⟨A, c, hr, h3 _ _ hT⟩
theorem drop1 (i : Nat) (h : OSt W ds w) (hi : ds[i]? = some (lkOb g L)) (n : Int) (T : List Int) (e : Int) (L' : List Tk) (hT : dropT L n = T) (h0 : 0 < T.length) (he : dropE L n = e) (hL : dropL L n = L') :
    Calls Try.prog 15 #[.pointer (some ⟨g, 0, none⟩), .int .i64 n] w fun r w' => ∃ b c junk, r = .returned (.tuple #[.slice (some ⟨b, 0, none⟩) T.length c, .int .i64 e]) ∧ T.length ≤ c ∧ OSt W (inOb b T junk :: ds.set i (lkOb g L')) w' := by
  obtain ⟨S, h1, _, _, h3⟩ := h.pick hi
  subst he hL hT
  refine (Drop_any n w h1).mono ?_
  rintro r w' ⟨v, hr, hv, hT⟩
  obtain ⟨hl, ⟨_, hz⟩ | ⟨b, c, junk, rfl, hB, hb, hcl, _⟩⟩ := hv
  · omega
  · refine ⟨b, c, junk, hr, by omega, h3 _ _ (inOb b (dropT L n) junk) (fun i => i = b) hT ⟨hb, rfl⟩ fun k hk => ?_⟩
    subst hk
    refine ⟨hB, _, hb, rfl, fun h => ?_⟩
    revert h
    show ¬ (_ ∨ _ ∨ _)
    decide
end
theorem Same_t {va vb : Value} (a : List Int) (w : World) (ha : RIn w va a) (hb : RIn w vb a) (hal : a.length ≤ 1000000) : Calls Try.prog 23 #[va, vb] w fun e w' => e = .returned (.bool true) ∧ Below w.heap.size w w' := by
  have := Same_any a a w ha hb hal hal
  rwa [show sameB a a = true by simp [sameB]] at this
set_option maxHeartbeats 4000000 in
theorem awake_any (w : World) : Calls Try.prog 11 #[] w fun e w' => e = .returned (.bool true) ∧ Below w.heap.size w w' := by
  have h0 : OSt (Z := Zf) w [] w := OSt.start w
  go_enter Try.func11, Try.ntmps11
  go_wp2_with fail
  refine (newO h0).mono ?_
  rintro e w1 ⟨g, rfl, h1⟩
  have h2 := (h1.alloc (.cells #[.int .i64 5, .bool false] 52 (0, 0)) (nz (by decide))).alloc (.cells #[.int .i64 5, .bool true] 52 (0, 0)) (nz (by decide))
  simp only [World.size_alloc] at h2
  replace h2 : OSt w [wnOb (w1.heap.size + 1) [(5, true)], wnOb w1.heap.size [(5, false)], lkOb g []] _ := h2
  have H2 := Lib.hid h2
  clear h0 h1 h2
  go_wp2_with fail
  refine (askO 2 H2.out rfl 1 [(5, false)] (rwn_row (l := [(5, false)]) (H2.out.get 1 rfl)) (by decide) true 0 [(1, [(5, false)])] (by decide +kernel) (by decide +kernel) (by decide +kernel)).mono ?_
  rintro e w3 ⟨rfl, h3⟩
  replace h3 : OSt w [wnOb (w1.heap.size + 1) [(5, true)], wnOb w1.heap.size [(5, false)], lkOb g [(1, [(5, false)])]] _ := h3
  have H3 := Lib.hid h3
  clear h3 H2
  go_wp2_with fail
  refine (askO 2 H3.out rfl 2 [(5, false)] (rwn_row (l := [(5, false)]) (H3.out.get 1 rfl)) (by decide) true 0 [(1, [(5, false)]), (2, [(5, false)])] (by decide +kernel) (by decide +kernel) (by decide +kernel)).mono ?_
  rintro e w4 ⟨rfl, h4⟩
  replace h4 : OSt w [wnOb (w1.heap.size + 1) [(5, true)], wnOb w1.heap.size [(5, false)], lkOb g [(1, [(5, false)]), (2, [(5, false)])]] _ := h4
  have H4 := Lib.hid h4
  clear h4 H3
  go_wp2_with fail
  refine (askO 2 H4.out rfl 3 [(5, true)] (rwn_row (l := [(5, true)]) (H4.out.get 0 rfl)) (by decide) false 0 [(1, [(5, false)]), (2, [(5, false)]), (3, [(5, true)])] (by decide +kernel) (by decide +kernel) (by decide +kernel)).mono ?_
  rintro e w5 ⟨rfl, h5⟩
  replace h5 : OSt w [wnOb (w1.heap.size + 1) [(5, true)], wnOb w1.heap.size [(5, false)], lkOb g [(1, [(5, false)]), (2, [(5, false)]), (3, [(5, true)])]] _ := h5
  have H5 := Lib.hid h5
  clear h5 H4
  go_wp2_with fail
  refine (askO 2 H5.out rfl 4 [(5, false)] (rwn_row (l := [(5, false)]) (H5.out.get 1 rfl)) (by decide) false 0 [(1, [(5, false)]), (2, [(5, false)]), (3, [(5, true)]), (4, [(5, false)])] (by decide +kernel) (by decide +kernel) (by decide +kernel)).mono ?_
  rintro e w6 ⟨rfl, h6⟩
  replace h6 : OSt w [wnOb (w1.heap.size + 1) [(5, true)], wnOb w1.heap.size [(5, false)], lkOb g [(1, [(5, false)]), (2, [(5, false)]), (3, [(5, true)]), (4, [(5, false)])]] _ := h6
  have h7 := ((h6.dropI 0).dropI 0).alloc (.cells #[.int .i64 6, .bool true] 52 (0, 0)) (nz (by decide))
  replace h7 : OSt w [wnOb w6.heap.size [(6, true)], lkOb g [(1, [(5, false)]), (2, [(5, false)]), (3, [(5, true)]), (4, [(5, false)])]] _ := h7
  have H7 := Lib.hid h7
  clear h6 h7 H5
  go_wp2_with fail
  refine (askO 1 H7.out rfl 5 [(6, true)] (rwn_row (l := [(6, true)]) (H7.out.get 0 rfl)) (by decide) true 0 [(1, [(5, false)]), (2, [(5, false)]), (3, [(5, true)]), (4, [(5, false)]), (5, [(6, true)])] (by decide +kernel) (by decide +kernel) (by decide +kernel)).mono ?_
  rintro e w8 ⟨rfl, h8⟩
  replace h8 : OSt w [lkOb g [(1, [(5, false)]), (2, [(5, false)]), (3, [(5, true)]), (4, [(5, false)]), (5, [(6, true)])]] _ := h8.dropI 0
  have H8 := Lib.hid h8
  clear h8 H7
  go_wp2_with fail
  refine (drop0 0 H8.out rfl 1 0 [(2, [(5, false)]), (3, [(5, true)]), (4, [(5, false)]), (5, [(6, true)])] (by decide +kernel) (by decide +kernel) (by decide +kernel)).mono ?_
  rintro e w9 ⟨A9, c9, rfl, h9⟩
  replace h9 : OSt w [lkOb g [(2, [(5, false)]), (3, [(5, true)]), (4, [(5, false)]), (5, [(6, true)])]] _ := h9
  have H9 := Lib.hid h9
  clear h9 H8
  go_wp2_with fail
  refine (drop1 0 H9.out rfl 2 [3] 0 [(3, [(5, true)]), (4, [(5, false)]), (5, [(6, true)])] (by decide +kernel) (by decide) (by decide +kernel) (by decide +kernel)).mono ?_
  rintro e w10 ⟨b1, c1, j1, rfl, hc1, h10⟩
  replace h10 : OSt w [inOb b1 [3] j1, lkOb g [(3, [(5, true)]), (4, [(5, false)]), (5, [(6, true)])]] _ := h10
  have H10 := Lib.hid h10
  clear h10 H9
  go_wp2_with fail
  refine (drop1 1 H10.out rfl 3 [4] 0 [(4, [(5, false)]), (5, [(6, true)])] (by decide +kernel) (by decide) (by decide +kernel) (by decide +kernel)).mono ?_
  rintro e w11 ⟨b2, c2, j2, rfl, hc2, h11⟩
  replace h11 : OSt w [inOb b2 [4] j2, inOb b1 [3] j1, lkOb g [(4, [(5, false)]), (5, [(6, true)])]] _ := h11
  have H11 := Lib.hid h11
  have a11 := extAl w11 (.cells #[.int .i64 3] 3)
  have X3 := Lib.hid (Same_t [3] _ (rin_row (c := c1) ((h11.ext a11).get 1 rfl) hc1) (rin_row (l := [3]) (c := 1) (junk := []) (heap_alloc_last w11 (.cells #[.int .i64 3] 3)) (Nat.le_refl _)) (by decide))
  clear h11 H10
  go_wp2_with fail
  refine X3.out.mono ?_
  rintro e w12 ⟨rfl, h12⟩
  have H12 := Lib.hid ((H11.out.ext a11).ext h12)
  clear X3 H11 a11 h12
  have a12 := extAl w12 (.cells #[.int .i64 4] 3)
  have X4 := Lib.hid (Same_t [4] _ (rin_row (c := c2) ((H12.out.ext a12).get 0 rfl) hc2) (rin_row (l := [4]) (c := 1) (junk := []) (heap_alloc_last w12 (.cells #[.int .i64 4] 3)) (Nat.le_refl _)) (by decide))
  go_wp2_with fail
  refine X4.out.mono ?_
  rintro e w13 ⟨rfl, h13⟩
  have H13 := Lib.hid ((H12.out.ext a12).ext h13)
  clear X4 H12 a12 h13
  go_wp2_with fail
  refine (hasO 2 H13.out rfl 4 true (by decide +kernel)).mono ?_
  rintro e w14 ⟨rfl, h14⟩
  have H14 := Lib.hid (H13.out.ext h14)
  clear H13 h14
  go_wp2_with fail
  refine (rowO 2 H14.out rfl).mono ?_
  rintro e w15 ⟨v, rfl, hv, h15⟩
  have H15 := Lib.hid (H14.out.ext h15)
  have a15 := extAl w15 (.cells #[.int .i64 4, .int .i64 5] 3)
  have X5 := Lib.hid (Same_t [4, 5] _ ((hv.ext a15).rr (by decide)) (rin_row (l := [4, 5]) (c := 2) (junk := []) (heap_alloc_last w15 (.cells #[.int .i64 4, .int .i64 5] 3)) (Nat.le_refl _)) (by decide))
  clear hv H14 h15
  go_wp2_with fail
  refine X5.out.mono ?_
  rintro e w16 ⟨rfl, h16⟩
  have F := Lib.hid ((H15.out.ext a15).ext h16).bel
  clear X5 H15 a15 h16
  go_wp2
  go_ret
  exact ⟨rfl, F.out⟩
end Go.Proofs.Ytiihlbaajopllaa
