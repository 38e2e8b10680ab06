/- Walks of locks: slices.IndexFunc and ContainsFunc at wants, wants that clash, the walk over the row. -/
import Derived.Test.YtiihlbaajopllaaGen
import Derived.Test.YtiihlbaajopllaaLkA
import Derived.Test.YtiihlbaajopllaaRows
import Derived.Shelf.Abstract
set_option linter.unusedVariables false
set_option maxRecDepth 100000
namespace Go.Proofs.Ytiihlbaajopllaa
open Go.RowKit

/-- Rows of the document's wants are never written again. -/
def Zf (o : Obj) : Prop := match o with
  | .cells _ t _ => t = 98
  | _ => False
def wnC (p : Wn) : List Value := [.int .i64 p.1, .bool p.2]
def wncs (l : List Wn) : List Value := l.flatMap wnC
abbrev wnV (p : Wn) : Value := .agg #[.int .i64 p.1, .bool p.2]
theorem wnC_length (p : Wn) : (wnC p).length = 2 := rfl
theorem wncs_length (l : List Wn) : (wncs l).length = l.length * 2 := flat_length wnC_length l
theorem wncs_one (l : List Wn) : ∀ u ∈ wncs l, One u := by
  intro u hu
  obtain ⟨p, _, hp⟩ := List.mem_flatMap.1 hu
  simp only [wnC, List.mem_cons, List.not_mem_nil, or_false] at hp
  rcases hp with rfl | rfl <;> rfl
abbrev RWn (w : World) (v : Value) (l : List Wn) : Prop := RR w 2 v l.length (wncs l)
/-- The k-th want. -/
theorem RWn.want {w : World} {b off c k : Nat} {l : List Wn} {p : Wn} (h : RWn w (.slice (some ⟨b, off, none⟩) l.length c) l) (hk : l[k]? = some p) :
    w.cell? ⟨b, off + k * 2, none⟩ = some (.int .i64 p.1) ∧ w.cell? ⟨b, off + k * 2 + 1, none⟩ = some (.bool p.2) := by
  have h0 := RR.cellAt (enc := wnC) h wnC_length hk (i := 0) rfl
  have h1 := RR.cellAt (enc := wnC) h wnC_length hk (i := 1) rfl
  rw [← Nat.add_assoc] at h0 h1
  exact ⟨h0, h1⟩
/-- What is asked of a predicate on wants, which may lay blocks of its own. -/
def WnP (f : FuncId) (args : Value → Array Value) (p : Wn → Bool) (w : World) : Prop :=
  ∀ (W : World) (x : Wn), Ext w W → Calls Try.prog f (args (wnV x)) W fun e w' => e = .returned (.bool (p x)) ∧ Below W.heap.size W w'
/-- Where the first one is; none: -1. -/
def ixP (l : List Wn) (p : Wn → Bool) : Int := match l.findIdx? p with
  | some i => i
  | none => -1
theorem ixP_hit {l : List Wn} {p : Wn → Bool} {k : Nat} {x : Wn} (hx : l[k]? = some x) (hp : p x = true) (h : ∀ j y, j < k → l[j]? = some y → p y = false) : ixP l p = k := by
  have : l.findIdx? p = some k := by
    rw [List.findIdx?_eq_some_iff_getElem]
    obtain ⟨hk, rfl⟩ := List.getElem?_eq_some_iff.1 hx
    refine ⟨hk, hp, fun j hj => ?_⟩
    rw [h j _ hj (List.getElem?_eq_getElem (by omega))]
    simp
  unfold ixP
  rw [this]
theorem ixP_miss {l : List Wn} {p : Wn → Bool} (h : ∀ j y, j < l.length → l[j]? = some y → p y = false) : ixP l p = -1 := by
  have : l.findIdx? p = none := by
    rw [List.findIdx?_eq_none_iff]
    intro y hy
    obtain ⟨j, hj, rfl⟩ := List.getElem_of_mem hy
    exact h j _ hj (List.getElem?_eq_getElem hj)
  unfold ixP
  rw [this]
theorem ixP_any (l : List Wn) (p : Wn → Bool) : decide (0 ≤ ixP l p) = l.any p := by
  unfold ixP
  cases h : l.findIdx? p with
  | none =>
    rw [List.findIdx?_eq_none_iff] at h
    have : l.any p = false := by
      rw [List.any_eq_false]
      intro x hx
      rw [h x hx]
      simp
    rw [this]
    rfl
  | some i =>
    rw [List.findIdx?_eq_some_iff_getElem] at h
    obtain ⟨hi, h1, _⟩ := h
    have : l.any p = true := List.any_eq_true.2 ⟨_, List.getElem_mem hi, h1⟩
    rw [this]
    simp
set_option maxHeartbeats 2000000 in
theorem IndexFunc_fn {f : FuncId} {p : Wn → Bool} (ef : Go.Proofs.Enters Try.prog f) {lb : Array Value} {v : Value} {l : List Wn} (w : World) (hp : WnP f (fun x => #[x] ++ lb) p w) (hl : RWn w v l) (hll : l.length ≤ 1000000) :
    Calls Try.prog 85 #[v, .func (.func f) #[] lb] w fun e w' => e = .returned (.int .i64 (ixP l p)) ∧ Below w.heap.size w w' := by
  obtain ⟨A, c, rfl⟩ := hl.form
  unfold Go.Proofs.Enters at ef
  have HP := Lib.hid hp
  have HL := Lib.hid hl
  clear hp hl
  go_enter Try.func85, Try.ntmps85
  go_wp2
  go_loopg [5, 8] l.length (fun gg _ s8 wr => ∃ k : Nat, k ≤ l.length ∧ l.length - k ≤ gg ∧ s8 = .int .i64 k ∧ Hid (Ext w wr) ∧ Hid (∀ j y, j < k → l[j]? = some y → p y = false))
  case atStart => exact ⟨0, Nat.zero_le _, by omega, rfl, Lib.hid (Ext.refl w), Lib.hid fun j y hj => absurd hj (Nat.not_lt_zero _)⟩
  case round =>
    obtain ⟨k, hk, hg, rfl, HW, HA⟩ := hrel
    by_cases hlt : k < l.length
    · obtain ⟨b, off, rfl, hb, hc, -⟩ := HL.out.at (by omega)
      obtain ⟨x, hx⟩ : ∃ x, l[k]? = some x := ⟨_, List.getElem?_eq_getElem hlt⟩
      obtain ⟨h0, h1⟩ := RWn.want (HL.out.ext HW.out) hx
      have hcall := HP.out wr x HW.out
      have HX := Lib.hid hx
      clear hx
      cases hq : p x with
      | true =>
        rw [hq] at hcall
        go_wp2_with (go_at_fn f; refine hcall.mono ?_; rintro e w' ⟨rfl, hb'⟩)
        go_ret
        exact ⟨by rw [ixP_hit HX.out hq HA.out]; rfl, Ext.trans HW.out hb'⟩
      | false =>
        rw [hq] at hcall
        go_wp2_with (go_at_fn f; refine hcall.mono ?_; rintro e w' ⟨rfl, hb'⟩)
        go_roundg (l.length - (k + 1))
        case measure => omega
        case rel =>
          refine ⟨k + 1, by omega, by omega, by go_num, Lib.hid (Ext.trans HW.out hb'), Lib.hid fun j y hj hy => ?_⟩
          by_cases e : j = k
          · subst e
            rw [HX.out] at hy
            cases hy
            exact hq
          · exact HA.out j y (by omega) hy
    · obtain rfl : k = l.length := by omega
      go_wp2
      go_ret
      exact ⟨by rw [ixP_miss HA.out]; rfl, HW.out⟩
set_option maxHeartbeats 2000000 in
theorem IndexFunc_mv {f : FuncId} {p : Wn → Bool} (ef : Go.Proofs.Enters Try.prog f) (r : Value) {v : Value} {l : List Wn} (w : World) (hp : WnP f (fun x => #[r, x]) p w) (hl : RWn w v l) (hll : l.length ≤ 1000000) :
    Calls Try.prog 85 #[v, .func (.func f) #[r] #[]] w fun e w' => e = .returned (.int .i64 (ixP l p)) ∧ Below w.heap.size w w' := by
  obtain ⟨A, c, rfl⟩ := hl.form
  unfold Go.Proofs.Enters at ef
  have HP := Lib.hid hp
  have HL := Lib.hid hl
  clear hp hl
  go_enter Try.func85, Try.ntmps85
  go_wp2
  go_loopg [5, 8] l.length (fun gg _ s8 wr => ∃ k : Nat, k ≤ l.length ∧ l.length - k ≤ gg ∧ s8 = .int .i64 k ∧ Hid (Ext w wr) ∧ Hid (∀ j y, j < k → l[j]? = some y → p y = false))
  case atStart => exact ⟨0, Nat.zero_le _, by omega, rfl, Lib.hid (Ext.refl w), Lib.hid fun j y hj => absurd hj (Nat.not_lt_zero _)⟩
  case round =>
    obtain ⟨k, hk, hg, rfl, HW, HA⟩ := hrel
    by_cases hlt : k < l.length
    · obtain ⟨b, off, rfl, hb, hc, -⟩ := HL.out.at (by omega)
      obtain ⟨x, hx⟩ : ∃ x, l[k]? = some x := ⟨_, List.getElem?_eq_getElem hlt⟩
      obtain ⟨h0, h1⟩ := RWn.want (HL.out.ext HW.out) hx
      have hcall := HP.out wr x HW.out
      have HX := Lib.hid hx
      clear hx
      cases hq : p x with
      | true =>
        rw [hq] at hcall
        go_wp2_with (go_at_fn f; refine hcall.mono ?_; rintro e w' ⟨rfl, hb'⟩)
        go_ret
        exact ⟨by rw [ixP_hit HX.out hq HA.out]; rfl, Ext.trans HW.out hb'⟩
      | false =>
        rw [hq] at hcall
        go_wp2_with (go_at_fn f; refine hcall.mono ?_; rintro e w' ⟨rfl, hb'⟩)
        go_roundg (l.length - (k + 1))
        case measure => omega
        case rel =>
          refine ⟨k + 1, by omega, by omega, by go_num, Lib.hid (Ext.trans HW.out hb'), Lib.hid fun j y hj hy => ?_⟩
          by_cases e : j = k
          · subst e
            rw [HX.out] at hy
            cases hy
            exact hq
          · exact HA.out j y (by omega) hy
    · obtain rfl : k = l.length := by omega
      go_wp2
      go_ret
      exact ⟨by rw [ixP_miss HA.out]; rfl, HW.out⟩
theorem ContainsFunc_fn {f : FuncId} {p : Wn → Bool} (ef : Go.Proofs.Enters Try.prog f) {lb : Array Value} {v : Value} {l : List Wn} (w : World) (hp : WnP f (fun x => #[x] ++ lb) p w) (hl : RWn w v l) (hll : l.length ≤ 1000000) :
    Calls Try.prog 75 #[v, .func (.func f) #[] lb] w fun e w' => e = .returned (.bool (l.any p)) ∧ Below w.heap.size w w' := by
  have K := Lib.hid (IndexFunc_fn ef  w hp hl hll)
  rw [← ixP_any]
  clear hp hl
  go_enter Try.func75, Try.ntmps75
  go_wp2_with (go_at_call 85; refine K.out.mono ?_; rintro e w' ⟨rfl, hb'⟩)
  go_ret
  exact ⟨rfl, hb'⟩
theorem ContainsFunc_mv {f : FuncId} {p : Wn → Bool} (ef : Go.Proofs.Enters Try.prog f) (r : Value) {v : Value} {l : List Wn} (w : World) (hp : WnP f (fun x => #[r, x]) p w) (hl : RWn w v l) (hll : l.length ≤ 1000000) :
    Calls Try.prog 75 #[v, .func (.func f) #[r] #[]] w fun e w' => e = .returned (.bool (l.any p)) ∧ Below w.heap.size w w' := by
  have K := Lib.hid (IndexFunc_mv ef r w hp hl hll)
  rw [← ixP_any]
  clear hp hl
  go_enter Try.func75, Try.ntmps75
  go_wp2_with (go_at_call 85; refine K.out.mono ?_; rintro e w' ⟨rfl, hb'⟩)
  go_ret
  exact ⟨rfl, hb'⟩
end Go.Proofs.Ytiihlbaajopllaa
