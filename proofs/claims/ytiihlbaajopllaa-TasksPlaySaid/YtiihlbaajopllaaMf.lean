/- Texts of mine in one: TkK, TkL, TkM, TkN, TkO, TkP. No statement of its own. -/
import Derived.Test.YtiihlbaajopllaaTkJ
import Derived.Test.YtiihlbaajopllaaLkT
import Derived.BigQuiet
import Derived.Test.YtiihlbaajopllaaLkS
import Derived.Test.YtiihlbaajopllaaOwn
set_option linter.unusedVariables false
set_option maxRecDepth 100000
namespace Go.Proofs.Ytiihlbaajopllaa
section
set_option linter.unusedVariables false
set_option maxRecDepth 100000
open Go.RowKit

section
variable {W w : World} {ds : List (Ob Zf)} {g : Nat} {T T' : TK}
theorem tnewO (h : OSt W ds w) : Calls Try.prog 26 #[] w fun r w' => ∃ g, r = .returned (.pointer (some ⟨g, 0, none⟩)) ∧ OSt W (tkOb g T0 :: ds) w' :=
  (tnew_any w).mono fun r w' ⟨g, hr, hd, hb⟩ => ⟨g, hr, h.pushN hb hd⟩
theorem taddO (i : Nat) (h : OSt W ds w) (hi : ds[i]? = some (tkOb g T)) (n : Int) (l : List Wn) {v : Value} (hv : RWn w v l) (hl : l.length ≤ 1000000) (hn0 : -9223372036854775808 ≤ n) (hn1 : n ≤ 9223372036854775807) (hc : T.cnt ≤ 1000000) (e : Int) (he : T.addE n l = e) (hT : T.add n l = T') :
    Calls Try.prog 27 #[.pointer (some ⟨g, 0, none⟩), .int .i64 n, v] w fun r w' => r = .returned (.int .i64 e) ∧ OSt W (ds.set i (tkOb g T')) w' := by
  obtain ⟨S, h1, _, h3, _⟩ := h.pick hi
  subst he hT
  exact (Add_any n l w h1 hc hn0 hn1 hv hl).mono fun r w' ⟨hr, hT⟩ => ⟨hr, h3 _ _ hT⟩
theorem tdidO (i : Nat) (h : OSt W ds w) (hi : ds[i]? = some (tkOb g T)) (n : Int) (b : Bool) (hn0 : -9223372036854775808 ≤ n) (hn1 : n ≤ 9223372036854775807) (e : Int) (he : T.didE n = e) (hT : T.did n b = T') :
    Calls Try.prog 29 #[.pointer (some ⟨g, 0, none⟩), .int .i64 n, .bool b] w fun r w' => r = .returned (.int .i64 e) ∧ OSt W (ds.set i (tkOb g T')) w' := by
  obtain ⟨S, h1, _, h3, _⟩ := h.pick hi
  subst he hT
  exact (Did_any n b w h1 (wf_i64 hn0 hn1)).mono fun r w' ⟨hr, hT⟩ => ⟨hr, h3 _ _ hT⟩
theorem treplO (i : Nat) (h : OSt W ds w) (hi : ds[i]? = some (tkOb g T)) (n : Int) (hn0 : -9223372036854775808 ≤ n) (hn1 : n ≤ 9223372036854775807) (e : Int) (he : T.replE n = e) (hT : T.repl n = T') :
    Calls Try.prog 37 #[.pointer (some ⟨g, 0, none⟩), .int .i64 n] w fun r w' => r = .returned (.int .i64 e) ∧ OSt W (ds.set i (tkOb g T')) w' := by
  obtain ⟨S, h1, _, h3, _⟩ := h.pick hi
  subst he hT
  exact (Replied_any n w h1 (wf_i64 hn0 hn1)).mono fun r w' ⟨hr, hT⟩ => ⟨hr, h3 _ _ hT⟩
theorem tclearO (i : Nat) (h : OSt W ds w) (hi : ds[i]? = some (tkOb g T)) (hT : T.clear = T') :
    Calls Try.prog 43 #[.pointer (some ⟨g, 0, none⟩)] w fun r w' => r = .returned (.tuple #[]) ∧ OSt W (ds.set i (tkOb g T')) w' := by
  obtain ⟨S, h1, _, h3, _⟩ := h.pick hi
  subst hT
  exact (Clear_any w h1).mono fun r w' ⟨hr, hT⟩ => ⟨hr, h3 _ _ hT⟩
theorem tcopyO (i : Nat) (h : OSt W ds w) (hi : ds[i]? = some (tkOb g T)) :
    Calls Try.prog 41 #[.pointer (some ⟨g, 0, none⟩)] w fun r w' => ∃ g', r = .returned (.pointer (some ⟨g', 0, none⟩)) ∧ OSt W (tkOb g' T :: ds) w' := by
  obtain ⟨S, h1, _⟩ := h.pick hi
  exact (tCopy_any w h1).mono fun r w' ⟨g', hr, hd, hb⟩ => ⟨g', hr, h.pushN hb hd⟩
theorem tpickO (i : Nat) (h : OSt W ds w) (hi : ds[i]? = some (tkOb g T)) (n : Int) (hn0 : -9223372036854775808 ≤ n) (hn1 : n ≤ 9223372036854775807) (x : Tn) (e : Int) (hT : T.pick n = (T', x, e)) :
    Calls Try.prog 30 #[.pointer (some ⟨g, 0, none⟩), .int .i64 n] w fun r w' => r = .returned (.tuple #[.agg #[.int .i64 x.1, .int .u8 x.2], .int .i64 e]) ∧ OSt W (ds.set i (tkOb g T')) w' := by
  obtain ⟨S, h1, _, h3, _⟩ := h.pick hi
  have K := Pick_any n w h1 hn0 hn1
  rw [hT] at K
  exact K.mono fun r w' ⟨hr, hT⟩ => ⟨hr, h3 _ _ hT⟩
theorem tnextO (i : Nat) (h : OSt W ds w) (hi : ds[i]? = some (tkOb g T)) (x : Tn) (e : Int) (hT : T.next = (T', x, e)) :
    Calls Try.prog 32 #[.pointer (some ⟨g, 0, none⟩)] w fun r w' => r = .returned (.tuple #[.agg #[.int .i64 x.1, .int .u8 x.2], .int .i64 e]) ∧ OSt W (ds.set i (tkOb g T')) w' := by
  obtain ⟨S, h1, _, h3, _⟩ := h.pick hi
  have K := Next_any w h1
  rw [hT] at K
  exact K.mono fun r w' ⟨hr, hT⟩ => ⟨hr, h3 _ _ hT⟩
theorem trowO (i : Nat) (h : OSt W ds w) (hi : ds[i]? = some (tkOb g T)) (l : List Int) (hl : T.L.map (·.p.1) = l) :
    Calls Try.prog 33 #[.pointer (some ⟨g, 0, none⟩)] w fun r w' => ∃ v, r = .returned v ∧ OwnR w' w.heap.size 3 1 One v l.length (ics l) ∧ Ext w w' := by
  obtain ⟨S, h1, _⟩ := h.pick hi
  have := trow_any w h1
  subst hl
  rw [List.length_map]
  exact this
theorem tcanO (i : Nat) (h : OSt W ds w) (hi : ds[i]? = some (tkOb g T)) (l : List Tn) (hl : canT T = l) :
    Calls Try.prog 31 #[.pointer (some ⟨g, 0, none⟩)] w fun r w' => ∃ v, r = .returned v ∧ OwnR w' w.heap.size 64 2 One v l.length (tncs l) ∧ Ext w w' := by
  obtain ⟨S, h1, _⟩ := h.pick hi
  have := Can_any w h1
  rw [hl] at this
  exact this
theorem tsync0 (i : Nat) (h : OSt W ds w) (hi : ds[i]? = some (tkOb g T)) (hl : syncL T.L = []) (hT : T.sync = T') :
    Calls Try.prog 36 #[.pointer (some ⟨g, 0, none⟩)] w fun r w' => ∃ A c, r = .returned (.tuple #[.slice A 0 c, .int .i64 5]) ∧ OSt W (ds.set i (tkOb g T')) w' := by
  obtain ⟨S, h1, _, h3, _⟩ := h.pick hi
  subst hT
  refine (Synced_any w h1).mono ?_
  rintro r w' ⟨v, hr, hv, hT⟩
  rw [show T.syncE = 5 by unfold TK.syncE; rw [if_pos hl]] at hr
  rw [hl] at hv
  obtain ⟨A, c, rfl⟩ := hv.form
  exact ⟨A, c, hr, h3 _ _ hT⟩
theorem tsync1 (i : Nat) (h : OSt W ds w) (hi : ds[i]? = some (tkOb g T)) (l : List Int) (hl : syncL T.L = l) (h0 : 0 < l.length) (hT : T.sync = T') :
    Calls Try.prog 36 #[.pointer (some ⟨g, 0, none⟩)] w fun r w' => ∃ b c junk, r = .returned (.tuple #[.slice (some ⟨b, 0, none⟩) l.length c, .int .i64 0]) ∧ l.length ≤ c ∧ OSt W (inOb b l junk :: ds.set i (tkOb g T')) w' := by
  obtain ⟨S, h1, _, _, h3⟩ := h.pick hi
  subst hT
  refine (Synced_any w h1).mono ?_
  rintro r w' ⟨v, hr, hv, hT⟩
  rw [show T.syncE = 0 by unfold TK.syncE; rw [if_neg (by rw [hl]; rintro rfl; simp at h0)]] at hr
  rw [hl] at hv
  obtain ⟨hl, ⟨_, hz⟩ | ⟨b, c, junk, rfl, hB, hb, hcl, _⟩⟩ := hv
  · omega
  · refine ⟨b, c, junk, hr, by omega, h3 _ _ (inOb b l junk) (fun i => i = b) hT ⟨hb, rfl⟩ fun k hk => ?_⟩
    subst hk
    refine ⟨hB, _, hb, rfl, fun h => ?_⟩
    revert h
    show ¬ (_ ∨ _ ∨ _ ∨ _)
    decide
theorem wantO (h : OSt W ds w) (n : Int) (b : Bool) : Calls Try.prog 38 #[.int .i64 n, .bool b] w fun r w' => ∃ k, r = .returned (.slice (some ⟨k, 0, none⟩) 1 1) ∧ OSt W (wnOb k [(n, b)] :: ds) w' := by
  have F := Lib.hid (h.alloc (.cells #[.int .i64 n, .bool b] 52 (0, 0)) (nz (by decide)))
  clear h
  go_enter Try.func38, Try.ntmps38
  go_wp2
  go_ret
  exact ⟨_, rfl, F.out⟩
theorem nextO (i : Nat) (h : OSt W ds w) (hi : ds[i]? = some (tkOb g T)) (x : Tn) (hT : T.next = (T', x, 0)) :
    Calls Try.prog 39 #[.pointer (some ⟨g, 0, none⟩), .int .i64 x.1, .int .u8 x.2] w fun r w' => r = .returned (.bool true) ∧ OSt W (ds.set i (tkOb g T')) w' := by
  have K := Lib.hid (tnextO i h hi x 0 hT)
  clear h hi hT
  obtain ⟨x1, x2⟩ := x
  go_enter Try.func39, Try.ntmps39
  go_wp2_with (go_at_call 32; refine K.out.mono ?_; rintro e w1 ⟨rfl, h1⟩; have H1 := Lib.hid h1; clear h1)
  go_ret
  exact ⟨rfl, H1.out.ext (extAl _ _)⟩
theorem pickedO (i : Nat) (h : OSt W ds w) (hi : ds[i]? = some (tkOb g T)) (n : Int) (hn0 : -9223372036854775808 ≤ n) (hn1 : n ≤ 9223372036854775807) (x : Tn) (hT : T.pick n = (T', x, 0)) :
    Calls Try.prog 40 #[.pointer (some ⟨g, 0, none⟩), .int .i64 n, .int .i64 x.1, .int .u8 x.2] w fun r w' => r = .returned (.bool true) ∧ OSt W (ds.set i (tkOb g T')) w' := by
  have K := Lib.hid (tpickO i h hi n hn0 hn1 x 0 hT)
  clear h hi hT
  obtain ⟨x1, x2⟩ := x
  go_enter Try.func40, Try.ntmps40
  go_wp2_with (go_at_call 30; refine K.out.mono ?_; rintro e w1 ⟨rfl, h1⟩; have H1 := Lib.hid h1; clear h1)
  go_ret
  exact ⟨rfl, H1.out.ext (extAl _ _)⟩
end
end

section
set_option linter.unusedVariables false
set_option maxRecDepth 100000
open Go.RowKit

set_option maxHeartbeats 2000000 in
theorem ints_t {va vb : Value} (a : List Int) (w : World) (ha : RIn w va a) (hb : RIn w vb a) (hl : a.length ≤ 1000000) : Calls Try.prog 42 #[va, vb] w fun e w' => e = .returned (.bool true) ∧ Below w.heap.size w w' := by
  obtain ⟨A, c, rfl⟩ := ha.form
  obtain ⟨B, d, rfl⟩ := hb.form
  have HA := Lib.hid ha
  have HB := Lib.hid hb
  clear ha hb
  go_enter Try.func42, Try.ntmps42
  go_wp2
  go_loopg [5] a.length (fun gg s wr => ∃ k : Nat, k ≤ a.length ∧ a.length - k ≤ gg ∧ s = .int .i64 k ∧ Hid (Ext w wr))
  case atStart => exact ⟨0, Nat.zero_le _, by omega, rfl, Lib.hid (Ext.refl w)⟩
  case round =>
    obtain ⟨k, hk, hg, rfl, HW⟩ := hrel
    by_cases hlt : k < a.length
    · obtain ⟨ab, ao, rfl, hba, hca, -⟩ := HA.out.at (by omega)
      obtain ⟨bb, bo, rfl, hbb, hcb, -⟩ := HB.out.at (by omega)
      obtain ⟨n, hn⟩ : ∃ n, a[k]? = some n := ⟨_, List.getElem?_eq_getElem hlt⟩
      have x0 := RIn.num (HA.out.ext HW.out) hn
      have y0 := RIn.num (HB.out.ext HW.out) hn
      have z0 := Below.size HW.out
      clear hn
      go_wp2
      go_quiet (fail)
      go_wp2
      go_roundg (a.length - (k + 1))
      case measure => omega
      case rel => exact ⟨k + 1, by omega, by omega, by go_num, Lib.hid (below_drewN HW.out _)⟩
    · obtain rfl : k = a.length := by omega
      go_wp2
      go_ret
      exact ⟨rfl, HW.out⟩
def flat2 (l : List Tn) : List Int := l.flatMap fun x => [x.1, x.2]
theorem flat2_len (l : List Tn) : (flat2 l).length = l.length * 2 := by
  unfold flat2
  induction l with
  | nil => rfl
  | cons a l ih => rw [List.flatMap_cons, List.length_append, ih, List.length_cons]; simp; omega
theorem flat2_at : ∀ {l : List Tn} {k : Nat} {x : Tn}, l[k]? = some x → (flat2 l)[2 * k]? = some x.1 ∧ (flat2 l)[2 * k + 1]? = some x.2
  | [], k, x, h => by simp at h
  | a :: l, 0, x, h => by
    simp only [List.getElem?_cons_zero, Option.some.injEq] at h
    subst h
    exact ⟨rfl, rfl⟩
  | a :: l, k + 1, x, h => by
    simp only [List.getElem?_cons_succ] at h
    have ih := flat2_at h
    have e : flat2 (a :: l) = a.1 :: a.2 :: flat2 l := rfl
    rw [e, show 2 * (k + 1) = 2 * k + 1 + 1 by omega, show 2 * k + 1 + 1 + 1 = (2 * k + 1) + 1 + 1 by omega, List.getElem?_cons_succ, List.getElem?_cons_succ, List.getElem?_cons_succ, List.getElem?_cons_succ]
    exact ih
set_option maxHeartbeats 4000000 in
theorem canLaw_t {W w : World} {ds : List (Ob Zf)} {g : Nat} {T : TK} {vb : Value} (i : Nat) (h : OSt W ds w) (hi : ds[i]? = some (tkOb g T)) (l : List Tn) (hl : canT T = l) (hb : RIn w vb (flat2 l)) (hu : ∀ x ∈ l, x.2 = 1 ∨ x.2 = 2 ∨ x.2 = 3) (hll : l.length ≤ 1000) :
    Calls Try.prog 44 #[.pointer (some ⟨g, 0, none⟩), vb] w fun e w' => e = .returned (.bool true) ∧ Ext w w' := by
  have K := Lib.hid (tcanO i h hi l hl)
  obtain ⟨B, d, rfl⟩ := hb.form
  rw [flat2_len] at hb ⊢
  have HB := Lib.hid hb
  have HU := Lib.hid hu
  clear h hi hl hb hu
  go_enter Try.func44, Try.ntmps44
  go_wp2_with fail
  refine K.out.mono ?_
  rintro e w1 ⟨v, rfl, ho, hx⟩
  obtain ⟨A, c, rfl⟩ := ho.form
  have HA := Lib.hid (OwnR.rr ho (by omega))
  have HX := Lib.hid hx
  have HB1 := Lib.hid (HB.out.ext hx)
  clear ho hx K HB
  go_wp2
  have hq : (2 * (l.length : Int) != (l.length : Int) * 2) = false := by simp; omega
  rw [hq]
  clear hq
  go_loopg [6] l.length (fun gg s wr => ∃ k : Nat, k ≤ l.length ∧ l.length - k ≤ gg ∧ s = .int .i64 k ∧ Hid (Ext w1 wr))
  case atStart => exact ⟨0, Nat.zero_le _, by omega, rfl, Lib.hid (Ext.refl _)⟩
  case round =>
    obtain ⟨k, hk, hg, rfl, HW⟩ := hrel
    by_cases hlt : k < l.length
    · obtain ⟨x, hx⟩ : ∃ x, l[k]? = some x := ⟨_, List.getElem?_eq_getElem hlt⟩
      obtain ⟨b, off, rfl, hba, hca, -⟩ := HA.out.at (by omega)
      have hxu := HU.out x (List.mem_of_getElem? hx)
      have x0 := RR.cellAt (HA.out.ext HW.out) tnC_length hx (i := 0) (v := .int .i64 x.1) rfl
      have x1 := RR.cellAt (HA.out.ext HW.out) tnC_length hx (i := 1) (v := .int .u8 x.2) rfl
      have hb2 := HB1.out.ext HW.out
      rw [← flat2_len] at hb2
      obtain ⟨b2, off2, hA, hbb, hcb, -⟩ := hb2.at (by rw [flat2_len]; omega)
      subst hA
      rw [flat2_len] at hcb
      have y0 := RIn.num hb2 (flat2_at hx).1
      have y1 := RIn.num hb2 (flat2_at hx).2
      have z0 := Below.size HW.out
      clear hx hb2
      simp only [Nat.add_zero] at x0
      have n0 : (2 * (k : Int)).toNat = 2 * k := by omega
      have n1 : (2 * (k : Int) + 1).toNat = 2 * k + 1 := by omega
      rw [← Nat.add_assoc] at x1
      go_wp2
      go_quiet (fail)
      go_wp2
      go_roundg (l.length - (k + 1))
      case measure => omega
      case rel => exact ⟨k + 1, by omega, by omega, by go_num, Lib.hid (below_drewN HW.out _)⟩
    · obtain rfl : k = l.length := by omega
      go_wp2
      go_ret
      exact ⟨rfl, Ext.trans HX.out HW.out⟩
end

section
set_option linter.unusedVariables false
set_option maxRecDepth 100000
open Go.RowKit

deriving instance DecidableEq for TK
theorem in_cell {w : World} {b j : Nat} {l : List Int} {junk : List Value} {n : Int} (h : w.heap[b]? = some (inC l junk)) (hj : l[j]? = some n) : w.cell? ⟨b, j, none⟩ = some (.int .i64 n) := by
  obtain ⟨hk, rfl⟩ := List.getElem?_eq_some_iff.1 hj
  unfold inC at h
  rw [cell_of_row _ _ _ _ _ _ h]
  rw [List.getElem?_toArray, List.getElem?_append_left (by rw [ics_length]; exact hk)]
  simp [ics, hk]
theorem trowK {W w : World} {ds : List (Ob Zf)} {g : Nat} {T : TK} (i : Nat) (h : OSt W ds w) (hi : ds[i]? = some (tkOb g T)) (l : List Int) (hl : T.L.map (·.p.1) = l) (n : Nat) (hn : l.length = n) (h0 : 0 < n) :
    Calls Try.prog 33 #[.pointer (some ⟨g, 0, none⟩)] w fun r w' => ∃ b c junk, r = .returned (.slice (some ⟨b, 0, none⟩) n c) ∧ n ≤ c ∧ OSt W (inOb b l junk :: ds) w' := by
  refine (trowO i h hi l hl).mono ?_
  rintro r w' ⟨v, hr, hv, hx⟩
  subst hn
  obtain ⟨hl, ⟨_, hz⟩ | ⟨b, c, junk, rfl, hB, hb, hcl, _⟩⟩ := hv
  · omega
  · refine ⟨b, c, junk, hr, by omega, h.push hx (D := inOb b l junk) (R := fun i => i = b) ⟨hb, rfl⟩ fun k hk => ?_⟩
    subst hk
    exact hB
def ns0 : TK := ⟨[⟨(7, [(5, true)]), 1, 0⟩], 1, 0⟩
def ns1 : TK := ⟨[⟨(7, [(5, true)]), 1, 0⟩, ⟨(8, [(5, true)]), 2, 0⟩], 2, 0⟩
def ns2 : TK := ⟨[⟨(7, [(5, true)]), 1, 0⟩, ⟨(8, [(5, true)]), 2, 0⟩, ⟨(9, [(6, false)]), 3, 0⟩], 3, 0⟩
def ns3 : TK := ⟨[⟨(7, [(5, true)]), 1, 1⟩, ⟨(8, [(5, true)]), 2, 0⟩, ⟨(9, [(6, false)]), 3, 0⟩], 3, 0⟩
def ns4 : TK := ⟨[⟨(7, [(5, true)]), 1, 2⟩, ⟨(8, [(5, true)]), 2, 0⟩, ⟨(9, [(6, false)]), 3, 0⟩], 3, 0⟩
def ns5 : TK := ⟨[⟨(7, [(5, true)]), 1, 2⟩, ⟨(8, [(5, true)]), 2, 0⟩, ⟨(9, [(6, false)]), 3, 0⟩], 3, 1⟩
def ns6 : TK := ⟨[⟨(8, [(5, true)]), 2, 0⟩, ⟨(9, [(6, false)]), 3, 0⟩], 3, 1⟩
def ns7 : TK := ⟨[⟨(8, [(5, true)]), 2, 0⟩, ⟨(9, [(6, false)]), 3, 0⟩], 3, 2⟩
def ns8 : TK := ⟨[⟨(8, [(5, true)]), 2, 2⟩, ⟨(9, [(6, false)]), 3, 0⟩], 3, 2⟩
set_option maxHeartbeats 8000000 in
theorem works_any (w : World) : Calls Try.prog 24 #[] w fun e w' => e = .returned (.bool true) ∧ Below w.heap.size w w' := by
  go_enter Try.func24, Try.ntmps24
  have H0 : Hid (OSt (Z := Zf) w [] w) := Lib.hid (OSt.start w)
  go_wp2_with fail
  refine (tnewO H0.out).mono ?_
  rintro e w1 ⟨g, rfl, h⟩
  have H1 : Hid (OSt w [tkOb g T0] w1) := Lib.hid (h)
  clear h H0
  go_wp2_with fail
  refine (wantO H1.out 5 true).mono ?_
  rintro e w2 ⟨k, rfl, h⟩
  have HA := Lib.hid h
  clear h H1
  go_wp2_with fail
  refine (taddO 1 HA.out rfl 7 [(5, true)] (rwn_row (l := [(5, true)]) (HA.out.get 0 rfl)) (by decide) (by decide) (by decide) (by decide +kernel) 0 (by decide +kernel) (T' := ns0) (by decide +kernel)).mono ?_
  rintro e w3 ⟨rfl, h⟩
  have H3 : Hid (OSt w [tkOb g ns0] w3) := Lib.hid (h.dropI 0)
  clear h HA
  go_wp2_with fail
  refine (wantO H3.out 5 true).mono ?_
  rintro e w4 ⟨k, rfl, h⟩
  have HA := Lib.hid h
  clear h H3
  go_wp2_with fail
  refine (taddO 1 HA.out rfl 8 [(5, true)] (rwn_row (l := [(5, true)]) (HA.out.get 0 rfl)) (by decide) (by decide) (by decide) (by decide +kernel) 0 (by decide +kernel) (T' := ns1) (by decide +kernel)).mono ?_
  rintro e w5 ⟨rfl, h⟩
  have H5 : Hid (OSt w [tkOb g ns1] w5) := Lib.hid (h.dropI 0)
  clear h HA
  go_wp2_with fail
  refine (wantO H5.out 6 false).mono ?_
  rintro e w6 ⟨k, rfl, h⟩
  have HA := Lib.hid h
  clear h H5
  go_wp2_with fail
  refine (taddO 1 HA.out rfl 9 [(6, false)] (rwn_row (l := [(6, false)]) (HA.out.get 0 rfl)) (by decide) (by decide) (by decide) (by decide +kernel) 0 (by decide +kernel) (T' := ns2) (by decide +kernel)).mono ?_
  rintro e w7 ⟨rfl, h⟩
  have H7 : Hid (OSt w [tkOb g ns2] w7) := Lib.hid (h.dropI 0)
  clear h HA
  have hA := H7.out.alloc (.cells #[.int .i64 7, .int .i64 1, .int .i64 9, .int .i64 1] 3 (0, 0)) (nz (by decide))
  have X := Lib.hid (canLaw_t 1 hA rfl [(7, 1), (9, 1)] (by decide +kernel) (rin_row (l := flat2 [(7, 1), (9, 1)]) (c := 4) (junk := []) (hA.get 0 rfl) (by decide)) (by decide) (by decide))
  have HA := Lib.hid hA
  clear hA H7
  go_wp2_with fail
  refine (X.out).mono ?_
  rintro e w8 ⟨rfl, h⟩
  have H8 : Hid (OSt w [tkOb g ns2] w8) := Lib.hid ((HA.out.ext h).dropI 0)
  clear h HA
  clear X
  go_wp2_with fail
  refine (tdidO 0 H8.out rfl 7 true (by decide) (by decide) 0 (by decide +kernel) (T' := ns3) (by decide +kernel)).mono ?_
  rintro e w9 ⟨rfl, h⟩
  have H9 : Hid (OSt w [tkOb g ns3] w9) := Lib.hid (h)
  clear h H8
  have hA := H9.out.alloc (.cells #[.int .i64 9, .int .i64 1, .int .i64 (-1), .int .i64 2] 3 (0, 0)) (nz (by decide))
  have X := Lib.hid (canLaw_t 1 hA rfl [(9, 1), ((-1), 2)] (by decide +kernel) (rin_row (l := flat2 [(9, 1), ((-1), 2)]) (c := 4) (junk := []) (hA.get 0 rfl) (by decide)) (by decide) (by decide))
  have HA := Lib.hid hA
  clear hA H9
  go_wp2_with fail
  refine (X.out).mono ?_
  rintro e w10 ⟨rfl, h⟩
  have H10 : Hid (OSt w [tkOb g ns3] w10) := Lib.hid ((HA.out.ext h).dropI 0)
  clear h HA
  clear X
  go_wp2_with fail
  refine (pickedO 0 H10.out rfl 3 (by decide) (by decide) ((-1), 2) (T' := ns3) (by decide +kernel)).mono ?_
  rintro e w11 ⟨rfl, h⟩
  have H11 : Hid (OSt w [tkOb g ns3] w11) := Lib.hid (h)
  clear h H10
  go_wp2_with fail
  refine (tsync1 0 H11.out rfl [7] (by decide +kernel) (by decide) (T' := ns4) (by decide +kernel)).mono ?_
  rintro e w12 ⟨b, c, junk, rfl, hc, h⟩
  have hA := h.alloc (.cells #[.int .i64 7] 3 (0, 0)) (nz (by decide))
  have X := Lib.hid (ints_t [7] _ (rin_row (c := c) (hA.get 1 rfl) hc) (rin_row (l := [7]) (c := 1) (junk := []) (hA.get 0 rfl) (Nat.le_refl _)) (by decide))
  have HA := Lib.hid hA
  clear hA h H11
  go_wp2_with fail
  refine (X.out).mono ?_
  rintro e w13 ⟨rfl, h⟩
  have H13 : Hid (OSt w [tkOb g ns4] w13) := Lib.hid (((HA.out.ext h).dropI 0).dropI 0)
  clear h HA
  clear X hc
  have hA := H13.out.alloc (.cells #[.int .i64 7, .int .i64 3, .int .i64 9, .int .i64 1] 3 (0, 0)) (nz (by decide))
  have X := Lib.hid (canLaw_t 1 hA rfl [(7, 3), (9, 1)] (by decide +kernel) (rin_row (l := flat2 [(7, 3), (9, 1)]) (c := 4) (junk := []) (hA.get 0 rfl) (by decide)) (by decide) (by decide))
  have HA := Lib.hid hA
  clear hA H13
  go_wp2_with fail
  refine (X.out).mono ?_
  rintro e w14 ⟨rfl, h⟩
  have H14 : Hid (OSt w [tkOb g ns4] w14) := Lib.hid ((HA.out.ext h).dropI 0)
  clear h HA
  clear X
  go_wp2_with fail
  refine (nextO 0 H14.out rfl (7, 3) (T' := ns5) (by decide +kernel)).mono ?_
  rintro e w15 ⟨rfl, h⟩
  have H15 : Hid (OSt w [tkOb g ns5] w15) := Lib.hid (h)
  clear h H14
  go_wp2_with fail
  refine (treplO 0 H15.out rfl 7 (by decide) (by decide) 0 (by decide +kernel) (T' := ns6) (by decide +kernel)).mono ?_
  rintro e w16 ⟨rfl, h⟩
  have H16 : Hid (OSt w [tkOb g ns6] w16) := Lib.hid (h)
  clear h H15
  have hA := H16.out.alloc (.cells #[.int .i64 8, .int .i64 1, .int .i64 9, .int .i64 1] 3 (0, 0)) (nz (by decide))
  have X := Lib.hid (canLaw_t 1 hA rfl [(8, 1), (9, 1)] (by decide +kernel) (rin_row (l := flat2 [(8, 1), (9, 1)]) (c := 4) (junk := []) (hA.get 0 rfl) (by decide)) (by decide) (by decide))
  have HA := Lib.hid hA
  clear hA H16
  go_wp2_with fail
  refine (X.out).mono ?_
  rintro e w17 ⟨rfl, h⟩
  have H17 : Hid (OSt w [tkOb g ns6] w17) := Lib.hid ((HA.out.ext h).dropI 0)
  clear h HA
  clear X
  go_wp2_with fail
  refine (nextO 0 H17.out rfl (8, 1) (T' := ns7) (by decide +kernel)).mono ?_
  rintro e w18 ⟨rfl, h⟩
  have H18 : Hid (OSt w [tkOb g ns7] w18) := Lib.hid (h)
  clear h H17
  go_wp2_with fail
  refine (tdidO 0 H18.out rfl 8 false (by decide) (by decide) 0 (by decide +kernel) (T' := ns8) (by decide +kernel)).mono ?_
  rintro e w19 ⟨rfl, h⟩
  have H19 : Hid (OSt w [tkOb g ns8] w19) := Lib.hid (h)
  clear h H18
  have hA := H19.out.alloc (.cells #[.int .i64 8, .int .i64 3, .int .i64 9, .int .i64 1] 3 (0, 0)) (nz (by decide))
  have X := Lib.hid (canLaw_t 1 hA rfl [(8, 3), (9, 1)] (by decide +kernel) (rin_row (l := flat2 [(8, 3), (9, 1)]) (c := 4) (junk := []) (hA.get 0 rfl) (by decide)) (by decide) (by decide))
  have HA := Lib.hid hA
  clear hA H19
  go_wp2_with fail
  refine (X.out).mono ?_
  rintro e w20 ⟨rfl, h⟩
  have H20 : Hid (OSt w [tkOb g ns8] w20) := Lib.hid ((HA.out.ext h).dropI 0)
  clear h HA
  clear X
  have HF := Lib.hid H20.out.bel
  clear H20
  go_wp2
  go_ret
  exact ⟨rfl, HF.out⟩
end

section
set_option linter.unusedVariables false
set_option maxRecDepth 100000
open Go.RowKit

structure StE where
  k : Int
  t : Int
  n : Int
  b : Bool
  wv : Value
  l : List Wn
def stC (x : StE) : List Value := [.int .u8 x.k, .int .i64 x.t, .int .i64 x.n, .bool x.b, x.wv]
theorem stC_length (x : StE) : (stC x).length = 5 := rfl
structure StE.Ok (w : World) (x : StE) : Prop where
  r : RWn w x.wv x.l
  ll : x.l.length ≤ maxLen
  k : (Lit.int .u8 x.k).wf = true
  t : (Lit.int .i64 x.t).wf = true
  n : (Lit.int .i64 x.n).wf = true
structure StsT where
  v : Value
  l : List StE
structure StsT.Ok (w : World) (x : StsT) : Prop where
  r : RR w 5 x.v x.l.length (x.l.flatMap stC)
  e : ∀ y ∈ x.l, y.Ok w
  len : x.l.length ≤ maxLen
section
open Go.ChangeShapes Go.WideShapes Go.ChangeAt Go.Deep
variable {H : Type} {enc : TypeId × Value → H} {W : World} {base : Nat} {b0 : Nat} {spare : Nat → Bool} {held : Bool}
theorem open_Wsteps {v : Value} {d : DataW H} {p : List MemPlace} {r : Reach} (hv : Value.okWide Try.prog W r b0 54 v) (h : DataW.Trod enc Try.prog W base spare held 54 v d p) : ∃ x : StsT, v = x.v ∧ x.Ok W := by
  obtain ⟨a0, len, cap, rfl⟩ := okWide_slice Try.underlying54 hv
  obtain ⟨m, hm⟩ := h
  obtain ⟨l, h1, h2, h3⟩ := open_rows (enc := stC) (R := fun x => x.Ok W) Try.underlying54 Try.underlying61 (by kernel_rfl) (by kernel_rfl) (by decide) stC_length (fun cell hc => by
    obtain ⟨y0, n0, t0⟩ := hc 0 _ rfl
    obtain ⟨y1, n1, t1⟩ := hc 1 _ rfl
    obtain ⟨y2, n2, t2⟩ := hc 2 _ rfl
    obtain ⟨y3, n3, t3⟩ := hc 3 _ rfl
    obtain ⟨y4, n4, t4⟩ := hc 4 _ rfl
    obtain ⟨a, e0, _, w0⟩ := DataW.trod_int Try.underlying5 t0
    obtain ⟨b, e1, _, w1⟩ := DataW.trod_int Try.underlying3 t1
    obtain ⟨c, e2, _, w2⟩ := DataW.trod_int Try.underlying3 t2
    obtain ⟨q, e3, _⟩ := DataW.trod_bool Try.underlying4 t3
    obtain ⟨l, r, hl⟩ := open_wants t4
    simp only [List.cons.injEq, and_true] at e0 e1 e2 e3
    refine ⟨⟨a, b, c, q, cell 4, l⟩, fun j hj => ?_, ⟨r, hl, w0, w1, w2⟩⟩
    have hj2 : j < 5 := hj
    rcases j with _ | _ | _ | _ | _ | j
    · exact congrArg some e0.symm
    · exact congrArg some e1.symm
    · exact congrArg some e2.symm
    · exact congrArg some e3.symm
    · rfl
    · omega) (v := .slice a0 len cap) (by simpa [Value.cells] using hm)
  exact ⟨⟨_, l⟩, rfl, h1, h2, h3⟩
end
theorem RSt.st {w : World} {b off c k : Nat} {l : List StE} {x : StE} (h : RR w 5 (.slice (some ⟨b, off, none⟩) l.length c) l.length (l.flatMap stC)) (hk : l[k]? = some x) :
    w.cell? ⟨b, off + k * 5, none⟩ = some (.int .u8 x.k) ∧ w.cell? ⟨b, off + k * 5 + 1, none⟩ = some (.int .i64 x.t) ∧ w.cell? ⟨b, off + k * 5 + 2, none⟩ = some (.int .i64 x.n) ∧ w.cell? ⟨b, off + k * 5 + 3, none⟩ = some (.bool x.b) ∧ w.cell? ⟨b, off + k * 5 + 4, none⟩ = some x.wv := by
  have h0 := RR.cellAt (enc := stC) h stC_length hk (i := 0) rfl
  have h1 := RR.cellAt (enc := stC) h stC_length hk (i := 1) rfl
  have h2 := RR.cellAt (enc := stC) h stC_length hk (i := 2) rfl
  have h3 := RR.cellAt (enc := stC) h stC_length hk (i := 3) rfl
  have h4 := RR.cellAt (enc := stC) h stC_length hk (i := 4) rfl
  rw [← Nat.add_assoc] at h0 h1 h2 h3 h4
  exact ⟨h0, h1, h2, h3, h4⟩
set_option maxHeartbeats 2000000 in
theorem large_any {v : Value} (l : List StE) (w : World) (h : RR w 5 v l.length (l.flatMap stC)) (he : ∀ x ∈ l, x.Ok w) (hll : l.length ≤ maxLen) :
    Calls Try.prog 25 #[v] w fun e w' => ∃ B, e = .returned (.bool B) ∧ (B = false → l.length ≤ 150 ∧ ∀ x ∈ l, x.l.length ≤ 20) ∧ Below w.heap.size w w' := by
  obtain ⟨A, c, rfl⟩ := h.form
  unfold maxLen at hll
  have H := Lib.hid h
  have HE := Lib.hid he
  clear h he
  go_enter Try.func25, Try.ntmps25
  go_wp2
  go_loopg [3] l.length (fun gg s wr => ∃ k : Nat, k ≤ l.length ∧ l.length - k ≤ gg ∧ s = .int .i64 k ∧ Hid (Ext w wr) ∧ Hid (∀ j y, j < k → l[j]? = some y → y.l.length ≤ 20) ∧ k ≤ 151)
  case atStart => exact ⟨0, Nat.zero_le _, by omega, rfl, Lib.hid (Ext.refl w), Lib.hid fun j x hj => absurd hj (Nat.not_lt_zero _), by omega⟩
  case round =>
    obtain ⟨k, hk, hg, rfl, HW, HA, h151⟩ := hrel
    by_cases hlt : k < l.length
    · by_cases h150 : k ≤ 150
      · obtain ⟨b, off, rfl, hb, hc, -⟩ := H.out.at (by omega)
        obtain ⟨x, hx⟩ : ∃ x, l[k]? = some x := ⟨_, List.getElem?_eq_getElem hlt⟩
        have hok := HE.out x (List.mem_of_getElem? hx)
        obtain ⟨A2, c2, hwv⟩ := hok.r.form
        obtain ⟨-, -, -, -, x4⟩ := RSt.st (H.out.ext HW.out) hx
        rw [hwv] at x4
        have hxl := hok.ll
        unfold maxLen at hxl
        have HX := Lib.hid hx
        have h150' : (k : Int) ≤ 150 := by omega
        clear hx hok hwv
        by_cases h5 : 20 < x.l.length
        · have h5' : (20 : Int) < (x.l.length : Int) := by omega
          go_wp2
          go_ret
          exact ⟨true, rfl, (by simp), HW.out⟩
        · have h5' : (x.l.length : Int) ≤ 20 := by omega
          go_wp2
          go_roundg (l.length - (k + 1))
          case measure => omega
          case rel =>
            refine ⟨k + 1, by omega, by omega, by go_num, HW, Lib.hid fun j y hj hy => ?_, by omega⟩
            by_cases e : j = k
            · subst e
              rw [HX.out] at hy
              cases hy
              omega
            · exact HA.out j y (by omega) hy
      · have h150' : (150 : Int) < (k : Int) := by omega
        have h8 : (150 : Int) < (l.length : Int) := by omega
        go_wp2
        go_ret
        exact ⟨true, rfl, (by simp), HW.out⟩
    · obtain rfl : k = l.length := by omega
      have E : Hid (∀ x ∈ l, x.l.length ≤ 20) := Lib.hid fun x hx => by
        obtain ⟨j, hj, rfl⟩ := List.getElem_of_mem hx
        exact HA.out j _ hj (List.getElem?_eq_getElem hj)
      by_cases h8 : 150 < l.length
      · have h8' : (150 : Int) < (l.length : Int) := by omega
        go_wp2
        go_ret
        exact ⟨true, rfl, (by simp), HW.out⟩
      · have h8' : (l.length : Int) ≤ 150 := by omega
        go_wp2
        go_ret
        exact ⟨_, rfl, fun _ => ⟨by omega, E.out⟩, HW.out⟩
end

section
set_option linter.unusedVariables false

theorem place_mem {L : List Te} (hnd : (L.map (·.p.1)).Nodup) {e : Te} (he : e ∈ L) : placeT L e.p.1 = e.pl := by
  unfold placeT
  rw [findT_mem hnd he]
theorem canK_place {T : TK} (hok : T.Ok) {k : Nat} {x : Tn} (h : x ∈ canK T.L k) : ∃ e, T.L[k]? = some e ∧ placeT T.L x.1 = e.pl := by
  unfold canK at h
  split at h
  · rename_i e he
    refine ⟨e, he, ?_⟩
    have hx : x.1 = e.p.1 := by
      split at h
      · split at h
        · obtain rfl := List.mem_singleton.1 h; rfl
        · cases h
      · split at h
        · obtain rfl := List.mem_singleton.1 h; rfl
        · cases h
    rw [hx]
    exact place_mem hok.nd (List.mem_of_getElem? he)
  · cases h
theorem canP_up {T : TK} (hok : T.Ok) : ∀ k, (canP T.L k).Pairwise (fun x y => placeT T.L x.1 < placeT T.L y.1) ∧ ∀ x ∈ canP T.L k, ∃ j e, j < k ∧ T.L[j]? = some e ∧ placeT T.L x.1 = e.pl
  | 0 => ⟨by simp [canP], by simp [canP]⟩
  | k + 1 => by
    obtain ⟨h1, h2⟩ := canP_up hok k
    rw [canP_succ]
    refine ⟨?_, ?_⟩
    · rw [List.pairwise_append]
      refine ⟨h1, ?_, ?_⟩
      · have := canK_len T.L k
        match hc : canK T.L k, this with
        | [], _ => exact List.Pairwise.nil
        | [a], _ => exact List.pairwise_singleton _ _
      · intro x hx y hy
        obtain ⟨j, e, hj, he, hp⟩ := h2 x hx
        obtain ⟨f, hf, hq⟩ := canK_place hok hy
        rw [hp, hq]
        obtain ⟨hjl, rfl⟩ := List.getElem?_eq_some_iff.1 he
        obtain ⟨hkl, rfl⟩ := List.getElem?_eq_some_iff.1 hf
        exact List.pairwise_iff_getElem.1 hok.up j k hjl hkl hj
    · intro x hx
      rcases List.mem_append.1 hx with hx | hx
      · obtain ⟨j, e, hj, he, hp⟩ := h2 x hx
        exact ⟨j, e, by omega, he, hp⟩
      · obtain ⟨f, hf, hq⟩ := canK_place hok hx
        exact ⟨k, f, by omega, hf, hq⟩
theorem place_sync {T : TK} (hok : T.Ok) : placeT T.L (-1) = 0 := by
  unfold placeT
  split
  · rename_i e he
    obtain ⟨h1, h2⟩ := findT_some he
    have := hok.n0 e h1
    omega
  · rfl
theorem rot_up {T : TK} (hok : T.Ok) : (rotT T.L).Pairwise (fun x y => placeT T.L x.1 < placeT T.L y.1) := by
  obtain ⟨h1, h2⟩ := canP_up hok T.L.length
  have hc : canR T.L = canP T.L T.L.length := rfl
  unfold rotT
  rw [hc, List.pairwise_append]
  refine ⟨by split <;> simp, h1, ?_⟩
  intro x hx y hy
  split at hx
  · obtain rfl := List.mem_singleton.1 hx
    obtain ⟨j, e, _, he, hp⟩ := h2 y hy
    have := hok.pl e (List.mem_of_getElem? he)
    rw [hp]
    show placeT T.L (-1) < _
    rw [place_sync hok]
    omega
  · cases hx
/-- Which one stands behind in the round. -/
def ixT (n j i : Nat) : Nat := if j + i < n then j + i else j + i - n
theorem next_from {T : TK} (hok : T.Ok) {j : Nat} (hj : j < (rotT T.L).length) (hl : T.last = placeT T.L (rotT T.L)[j].1) :
    ∃ x, (rotT T.L)[if j + 1 < (rotT T.L).length then j + 1 else 0]? = some x ∧ T.next = ({ T with last := placeT T.L x.1 }, x, 0) := by
  have hup := List.pairwise_iff_getElem.1 (rot_up hok)
  obtain ⟨x0, tl, hR⟩ : ∃ x0 tl, rotT T.L = x0 :: tl := by
    cases h : rotT T.L with
    | nil => rw [h] at hj; simp at hj
    | cons a l => exact ⟨a, l, rfl⟩
  by_cases h1 : j + 1 < (rotT T.L).length
  · rw [if_pos h1]
    refine ⟨_, List.getElem?_eq_getElem h1, next_at hR ?_⟩
    rw [← hR, find_take (k := j + 1) (List.getElem?_eq_getElem h1) (by rw [hl]; simpa using hup j (j + 1) hj h1 (by omega))]
    · rfl
    · intro y hy
      obtain ⟨i, hi, rfl⟩ := List.getElem_of_mem hy
      rw [List.getElem_take, hl]
      have hi' : i < j + 1 := by simp at hi; omega
      simp only [decide_eq_false_iff_not, Int.not_lt]
      by_cases e : i = j
      · subst e; exact Int.le_refl _
      · exact Int.le_of_lt (hup i j (by omega) hj (by omega))
  · rw [if_neg h1]
    refine ⟨x0, by rw [hR]; rfl, next_at hR ?_⟩
    rw [← hR, List.find?_eq_none.2]
    · rfl
    · intro y hy
      obtain ⟨i, hi, rfl⟩ := List.getElem_of_mem hy
      rw [hl]
      simp only [decide_eq_true_eq, Int.not_lt]
      by_cases e : i = j
      · subst e; exact Int.le_refl _
      · exact Int.le_of_lt (hup i j hi hj (by omega))
theorem next_some {T : TK} (hne : 0 < (rotT T.L).length) : ∃ (j : Nat) (x : Tn), (rotT T.L)[j]? = some x ∧ T.next = ({ T with last := placeT T.L x.1 }, x, 0) := by
  obtain ⟨x0, tl, hR⟩ : ∃ x0 tl, rotT T.L = x0 :: tl := by
    cases h : rotT T.L with
    | nil => rw [h] at hne; simp at hne
    | cons a l => exact ⟨a, l, rfl⟩
  obtain ⟨y, hy⟩ : ∃ y, ((x0 :: tl).find? fun x => decide (T.last < placeT T.L x.1)).getD x0 = y := ⟨_, rfl⟩
  have hyr : y ∈ x0 :: tl := by
    subst hy
    cases hf : (x0 :: tl).find? fun x => decide (T.last < placeT T.L x.1) with
    | none => exact List.mem_cons_self ..
    | some z => exact List.mem_of_find?_eq_some hf
  rw [← hR] at hyr
  obtain ⟨j, hj⟩ := List.getElem?_of_mem hyr
  exact ⟨j, y, hj, next_at hR hy⟩
def turnS (T : TK) : Nat → TK
  | 0 => T
  | i + 1 => (turnS T i).next.1
theorem Ok_next {T : TK} (hok : T.Ok) : T.next.1.Ok := by
  unfold TK.next
  split
  · exact hok
  · exact Ok_last hok _
theorem next_L (T : TK) : T.next.1.L = T.L := by
  unfold TK.next
  split <;> rfl
theorem turnS_ok {T : TK} (hok : T.Ok) : ∀ i, (turnS T i).Ok ∧ (turnS T i).L = T.L
  | 0 => ⟨hok, rfl⟩
  | i + 1 => by
    obtain ⟨h1, h2⟩ := turnS_ok hok i
    exact ⟨Ok_next h1, (next_L _).trans h2⟩
theorem turns_at {T : TK} (hok : T.Ok) (hne : 0 < (rotT T.L).length) : ∃ j, j < (rotT T.L).length ∧ ∀ i, i < (rotT T.L).length →
    ∃ x, (rotT T.L)[ixT (rotT T.L).length j i]? = some x ∧ (turnS T i).next = (turnS T (i + 1), x, 0) ∧ (turnS T (i + 1)).last = placeT T.L x.1 := by
  obtain ⟨j, x, hj, hx⟩ := next_some hne
  have hjl := (List.getElem?_eq_some_iff.1 hj).1
  refine ⟨j, hjl, fun i => ?_⟩
  induction i with
  | zero =>
    intro _
    refine ⟨x, by unfold ixT; rw [Nat.add_zero, if_pos hjl]; exact hj, ?_, ?_⟩
    · show T.next = (T.next.1, x, 0)
      rw [hx]
    · show T.next.1.last = _
      rw [hx]
  | succ i ih =>
    intro hi
    obtain ⟨y, h1, h2, h3⟩ := ih (by omega)
    obtain ⟨hok', hL⟩ := turnS_ok hok (i + 1)
    obtain ⟨hk, hky⟩ := List.getElem?_eq_some_iff.1 h1
    obtain ⟨z, k1, k2⟩ := next_from hok' (j := ixT (rotT T.L).length j i) (by rw [hL]; exact hk) (by
      rw [h3]
      simp only [hL]
      rw [hky])
    rw [hL] at k1 k2
    refine ⟨z, ?_, ?_, ?_⟩
    · rw [← k1]
      congr 1
      unfold ixT
      unfold ixT at hk
      split <;> split <;> (try split) <;> split at hk <;> omega
    · show _ = ((turnS T (i + 1)).next.1, z, 0)
      rw [k2]
    · show (turnS T (i + 1)).next.1.last = _
      rw [k2]
theorem ixT_ne {n j i m : Nat} (hj : j < n) (hi : i < n) (hm : m < i) : ixT n j m ≠ ixT n j i := by
  unfold ixT
  split <;> split <;> omega
theorem rot_who {T : TK} (hok : T.Ok) {a b : Nat} {x y : Tn} (ha : (rotT T.L)[a]? = some x) (hb : (rotT T.L)[b]? = some y) (hne : a ≠ b) : x.1 ≠ y.1 := by
  have hup := List.pairwise_iff_getElem.1 (rot_up hok)
  obtain ⟨hal, rfl⟩ := List.getElem?_eq_some_iff.1 ha
  obtain ⟨hbl, rfl⟩ := List.getElem?_eq_some_iff.1 hb
  intro e
  rcases Nat.lt_or_gt_of_ne hne with h | h
  · have := hup a b hal hbl h
    rw [e] at this
    omega
  · have := hup b a hbl hal h
    rw [e] at this
    omega
end

section
set_option linter.unusedVariables false
set_option maxRecDepth 100000
open Go.RowKit

section
variable {W w : World} {ds : List (Ob Zf)}
theorem OSt.appInt {n : Nat} {v : Value} {cs : List Value} (h : OSt W ds w) (i : Nat) (hi : ds[i]? = some (ownOb 3 (by decide) 1 v n cs)) (x : Int) (hn : n ≤ 1000000) :
    ∃ v' w', (Builtin.append_ #[28, 28] 28 #[v, .slice (some ⟨w.heap.size, 0, none⟩) 1 1]).run Try.prog (w.alloc (.cells #[.int .i64 x] 3)) = .ok v' w' ∧ OSt W (ds.set i (ownOb 3 (by decide) 1 v' (n + 1) (cs ++ [.int .i64 x]))) w' := by
  have a := extAl w (.cells #[.int .i64 x] 3)
  obtain ⟨S, h1, _, h3, _⟩ := (h.ext a).pick hi
  have hsrc : Src Try.prog 1 28 (.slice (some ⟨w.heap.size, 0, none⟩) 1 1) 1 [.int .i64 x] (w.alloc (.cells #[.int .i64 x] 3)) := src_row Try.underlying28 (heap_alloc_last w _) rfl (by intro u hu; simp at hu; subst hu; rfl)
  obtain ⟨v', w', hr, ho2, hb2, hg2, hs2⟩ := app_int (ty := 28) h1.1 hsrc (Nat.zero_le _) (by intro u hu; simp at hu; subst hu; rfl) (by omega)
  refine ⟨v', w', hr, h3 _ _ ⟨⟨ho2, fun b hb => ?_⟩, Mut.of_grown hg2 h1.2⟩⟩
  rcases hs2 b hb with e | e
  · exact .inl (h1.2 b e)
  · exact .inr ⟨e, (own_lt ho2 hb).2⟩
end
end
end Go.Proofs.Ytiihlbaajopllaa
