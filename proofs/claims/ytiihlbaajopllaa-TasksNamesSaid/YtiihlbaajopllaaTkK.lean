/- Contracts of tasks over objects side by side; the small functions of the law of tasks. -/
import Derived.Test.YtiihlbaajopllaaTkJ
import Derived.Test.YtiihlbaajopllaaLkT
import Derived.BigQuiet
set_option linter.unusedVariables false
set_option maxRecDepth 100000
namespace Go.Proofs.Ytiihlbaajopllaa
open Go.RowKit

section
variable {W w : World} {ds : List (Ob Zf)} {g : Nat} {T T' : TK}
theorem tnewO (h : OSt W ds w) : Calls Try.prog 26 #[] w fun r w' => ∃ g, r = .returned (.pointer (some ⟨g, 0, none⟩)) ∧ OSt W (tkOb g T0 :: ds) w' :=
  (tnew_any w).mono fun r w' ⟨g, hr, hd, hb⟩ => ⟨g, hr, h.pushN hb hd⟩
theorem taddO (i : Nat) (h : OSt W ds w) (hi : ds[i]? = some (tkOb g T)) (n : Int) (l : List Wn) {v : Value} (hv : RWn w v l) (hl : l.length ≤ 1000000) (hn0 : -9223372036854775808 ≤ n) (hn1 : n ≤ 9223372036854775807) (hc : T.cnt ≤ 1000000) (e : Int) (he : T.addE n l = e) (hT : T.add n l = T') :
    Calls Try.prog 27 #[.pointer (some ⟨g, 0, none⟩), .int .i64 n, v] w fun r w' => r = .returned (.int .i64 e) ∧ OSt W (ds.set i (tkOb g T')) w' := by
  obtain ⟨S, h1, _, h3, _⟩ := h.pick hi
  subst he hT
  exact (Add_any n l w h1 hc hn0 hn1 hv hl).mono fun r w' ⟨hr, hT⟩ => ⟨hr, h3 _ _ hT⟩
theorem tdidO (i : Nat) (h : OSt W ds w) (hi : ds[i]? = some (tkOb g T)) (n : Int) (b : Bool) (hn0 : -9223372036854775808 ≤ n) (hn1 : n ≤ 9223372036854775807) (e : Int) (he : T.didE n = e) (hT : T.did n b = T') :
    Calls Try.prog 29 #[.pointer (some ⟨g, 0, none⟩), .int .i64 n, .bool b] w fun r w' => r = .returned (.int .i64 e) ∧ OSt W (ds.set i (tkOb g T')) w' := by
  obtain ⟨S, h1, _, h3, _⟩ := h.pick hi
  subst he hT
  exact (Did_any n b w h1 (wf_i64 hn0 hn1)).mono fun r w' ⟨hr, hT⟩ => ⟨hr, h3 _ _ hT⟩
theorem treplO (i : Nat) (h : OSt W ds w) (hi : ds[i]? = some (tkOb g T)) (n : Int) (hn0 : -9223372036854775808 ≤ n) (hn1 : n ≤ 9223372036854775807) (e : Int) (he : T.replE n = e) (hT : T.repl n = T') :
    Calls Try.prog 37 #[.pointer (some ⟨g, 0, none⟩), .int .i64 n] w fun r w' => r = .returned (.int .i64 e) ∧ OSt W (ds.set i (tkOb g T')) w' := by
  obtain ⟨S, h1, _, h3, _⟩ := h.pick hi
  subst he hT
  exact (Replied_any n w h1 (wf_i64 hn0 hn1)).mono fun r w' ⟨hr, hT⟩ => ⟨hr, h3 _ _ hT⟩
theorem tclearO (i : Nat) (h : OSt W ds w) (hi : ds[i]? = some (tkOb g T)) (hT : T.clear = T') :
    Calls Try.prog 43 #[.pointer (some ⟨g, 0, none⟩)] w fun r w' => r = .returned (.tuple #[]) ∧ OSt W (ds.set i (tkOb g T')) w' := by
  obtain ⟨S, h1, _, h3, _⟩ := h.pick hi
  subst hT
  exact (Clear_any w h1).mono fun r w' ⟨hr, hT⟩ => ⟨hr, h3 _ _ hT⟩
theorem tcopyO (i : Nat) (h : OSt W ds w) (hi : ds[i]? = some (tkOb g T)) :
    Calls Try.prog 41 #[.pointer (some ⟨g, 0, none⟩)] w fun r w' => ∃ g', r = .returned (.pointer (some ⟨g', 0, none⟩)) ∧ OSt W (tkOb g' T :: ds) w' := by
  obtain ⟨S, h1, _⟩ := h.pick hi
  exact (tCopy_any w h1).mono fun r w' ⟨g', hr, hd, hb⟩ => ⟨g', hr, h.pushN hb hd⟩
theorem tpickO (i : Nat) (h : OSt W ds w) (hi : ds[i]? = some (tkOb g T)) (n : Int) (hn0 : -9223372036854775808 ≤ n) (hn1 : n ≤ 9223372036854775807) (x : Tn) (e : Int) (hT : T.pick n = (T', x, e)) :
    Calls Try.prog 30 #[.pointer (some ⟨g, 0, none⟩), .int .i64 n] w fun r w' => r = .returned (.tuple #[.agg #[.int .i64 x.1, .int .u8 x.2], .int .i64 e]) ∧ OSt W (ds.set i (tkOb g T')) w' := by
  obtain ⟨S, h1, _, h3, _⟩ := h.pick hi
  have K := Pick_any n w h1 hn0 hn1
  rw [hT] at K
  exact K.mono fun r w' ⟨hr, hT⟩ => ⟨hr, h3 _ _ hT⟩
theorem tnextO (i : Nat) (h : OSt W ds w) (hi : ds[i]? = some (tkOb g T)) (x : Tn) (e : Int) (hT : T.next = (T', x, e)) :
    Calls Try.prog 32 #[.pointer (some ⟨g, 0, none⟩)] w fun r w' => r = .returned (.tuple #[.agg #[.int .i64 x.1, .int .u8 x.2], .int .i64 e]) ∧ OSt W (ds.set i (tkOb g T')) w' := by
  obtain ⟨S, h1, _, h3, _⟩ := h.pick hi
  have K := Next_any w h1
  rw [hT] at K
  exact K.mono fun r w' ⟨hr, hT⟩ => ⟨hr, h3 _ _ hT⟩
theorem trowO (i : Nat) (h : OSt W ds w) (hi : ds[i]? = some (tkOb g T)) (l : List Int) (hl : T.L.map (·.p.1) = l) :
    Calls Try.prog 33 #[.pointer (some ⟨g, 0, none⟩)] w fun r w' => ∃ v, r = .returned v ∧ OwnR w' w.heap.size 3 1 One v l.length (ics l) ∧ Ext w w' := by
  obtain ⟨S, h1, _⟩ := h.pick hi
  have := trow_any w h1
  subst hl
  rw [List.length_map]
  exact this
theorem tcanO (i : Nat) (h : OSt W ds w) (hi : ds[i]? = some (tkOb g T)) (l : List Tn) (hl : canT T = l) :
    Calls Try.prog 31 #[.pointer (some ⟨g, 0, none⟩)] w fun r w' => ∃ v, r = .returned v ∧ OwnR w' w.heap.size 64 2 One v l.length (tncs l) ∧ Ext w w' := by
  obtain ⟨S, h1, _⟩ := h.pick hi
  have := Can_any w h1
  rw [hl] at this
  exact this
theorem tsync0 (i : Nat) (h : OSt W ds w) (hi : ds[i]? = some (tkOb g T)) (hl : syncL T.L = []) (hT : T.sync = T') :
    Calls Try.prog 36 #[.pointer (some ⟨g, 0, none⟩)] w fun r w' => ∃ A c, r = .returned (.tuple #[.slice A 0 c, .int .i64 5]) ∧ OSt W (ds.set i (tkOb g T')) w' := by
  obtain ⟨S, h1, _, h3, _⟩ := h.pick hi
  subst hT
  refine (Synced_any w h1).mono ?_
  rintro r w' ⟨v, hr, hv, hT⟩
  rw [show T.syncE = 5 by unfold TK.syncE; rw [if_pos hl]] at hr
  rw [hl] at hv
  obtain ⟨A, c, rfl⟩ := hv.form
  exact ⟨A, c, hr, h3 _ _ hT⟩
theorem tsync1 (i : Nat) (h : OSt W ds w) (hi : ds[i]? = some (tkOb g T)) (l : List Int) (hl : syncL T.L = l) (h0 : 0 < l.length) (hT : T.sync = T') :
    Calls Try.prog 36 #[.pointer (some ⟨g, 0, none⟩)] w fun r w' => ∃ b c junk, r = .returned (.tuple #[.slice (some ⟨b, 0, none⟩) l.length c, .int .i64 0]) ∧ l.length ≤ c ∧ OSt W (inOb b l junk :: ds.set i (tkOb g T')) w' := by
  obtain ⟨S, h1, _, _, h3⟩ := h.pick hi
  subst hT
  refine (Synced_any w h1).mono ?_
  rintro r w' ⟨v, hr, hv, hT⟩
  rw [show T.syncE = 0 by unfold TK.syncE; rw [if_neg (by rw [hl]; rintro rfl; simp at h0)]] at hr
  rw [hl] at hv
  obtain ⟨hl, ⟨_, hz⟩ | ⟨b, c, junk, rfl, hB, hb, hcl, _⟩⟩ := hv
  · omega
  · refine ⟨b, c, junk, hr, by omega, h3 _ _ (inOb b l junk) (fun i => i = b) hT ⟨hb, rfl⟩ fun k hk => ?_⟩
    subst hk
    refine ⟨hB, _, hb, rfl, fun h => ?_⟩
    revert h
    show ¬ (_ ∨ _ ∨ _ ∨ _)
    decide
theorem wantO (h : OSt W ds w) (n : Int) (b : Bool) : Calls Try.prog 38 #[.int .i64 n, .bool b] w fun r w' => ∃ k, r = .returned (.slice (some ⟨k, 0, none⟩) 1 1) ∧ OSt W (wnOb k [(n, b)] :: ds) w' := by
  have F := Lib.hid (h.alloc (.cells #[.int .i64 n, .bool b] 52 (0, 0)) (nz (by decide)))
  clear h
  go_enter Try.func38, Try.ntmps38
  go_wp2
  go_ret
  exact ⟨_, rfl, F.out⟩
theorem nextO (i : Nat) (h : OSt W ds w) (hi : ds[i]? = some (tkOb g T)) (x : Tn) (hT : T.next = (T', x, 0)) :
    Calls Try.prog 39 #[.pointer (some ⟨g, 0, none⟩), .int .i64 x.1, .int .u8 x.2] w fun r w' => r = .returned (.bool true) ∧ OSt W (ds.set i (tkOb g T')) w' := by
  have K := Lib.hid (tnextO i h hi x 0 hT)
  clear h hi hT
  obtain ⟨x1, x2⟩ := x
  go_enter Try.func39, Try.ntmps39
  go_wp2_with (go_at_call 32; refine K.out.mono ?_; rintro e w1 ⟨rfl, h1⟩; have H1 := Lib.hid h1; clear h1)
  go_ret
  exact ⟨rfl, H1.out.ext (extAl _ _)⟩
theorem pickedO (i : Nat) (h : OSt W ds w) (hi : ds[i]? = some (tkOb g T)) (n : Int) (hn0 : -9223372036854775808 ≤ n) (hn1 : n ≤ 9223372036854775807) (x : Tn) (hT : T.pick n = (T', x, 0)) :
    Calls Try.prog 40 #[.pointer (some ⟨g, 0, none⟩), .int .i64 n, .int .i64 x.1, .int .u8 x.2] w fun r w' => r = .returned (.bool true) ∧ OSt W (ds.set i (tkOb g T')) w' := by
  have K := Lib.hid (tpickO i h hi n hn0 hn1 x 0 hT)
  clear h hi hT
  obtain ⟨x1, x2⟩ := x
  go_enter Try.func40, Try.ntmps40
  go_wp2_with (go_at_call 30; refine K.out.mono ?_; rintro e w1 ⟨rfl, h1⟩; have H1 := Lib.hid h1; clear h1)
  go_ret
  exact ⟨rfl, H1.out.ext (extAl _ _)⟩
end
end Go.Proofs.Ytiihlbaajopllaa
