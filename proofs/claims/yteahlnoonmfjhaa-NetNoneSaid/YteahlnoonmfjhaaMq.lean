/- Texts of mine in one: NtH, NtI, NtJ, NtK, NtQ, NaA, NaB. No statement of its own. -/
import Derived.Test.YteahlnoonmfjhaaMn
import Derived.Test.YteahlnoonmfjhaaAbB
import Derived.Test.YteahlnoonmfjhaaAgE
import Derived.Test.YteahlnoonmfjhaaMz
import Derived.Test.YteahlnoonmfjhaaMv
import Derived.Test.YteahlnoonmfjhaaRsF
set_option linter.unusedVariables false
set_option maxRecDepth 100000
namespace Go.Proofs.Yteahlnoonmfjhaa
section
set_option linter.unusedVariables false
set_option maxRecDepth 100000
open Go.RowKit

abbrev clO (g : Nat) (N L : Int) (l : List Cl) : Ob Z0 := ntOb 112 118 [.int .i64 N, .int .i64 L] [] g l.length (clcs l)
def ixC (l : List Cl) (n : Int) : Int := match l.findIdx? (fun o => decide (o.x = n)) with
  | some i => i
  | none => -1
theorem ixC_hit {l : List Cl} {n : Int} {k : Nat} {x : Cl} (hx : l[k]? = some x) (hp : x.x = n) (h : ∀ j y, j < k → l[j]? = some y → y.x ≠ n) : ixC l n = k := by
  have : l.findIdx? (fun o => decide (o.x = n)) = some k := by
    rw [List.findIdx?_eq_some_iff_getElem]
    obtain ⟨hk, rfl⟩ := List.getElem?_eq_some_iff.1 hx
    refine ⟨hk, by simpa using hp, fun j hj => ?_⟩
    have := h j _ hj (List.getElem?_eq_getElem (by omega))
    simpa using this
  unfold ixC
  rw [this]
theorem ixC_miss {l : List Cl} {n : Int} (h : ∀ j y, j < l.length → l[j]? = some y → y.x ≠ n) : ixC l n = -1 := by
  have : l.findIdx? (fun o => decide (o.x = n)) = none := by
    rw [List.findIdx?_eq_none_iff]
    intro y hy
    obtain ⟨j, hj, rfl⟩ := List.getElem_of_mem hy
    have := h j _ hj (List.getElem?_eq_getElem hj)
    simpa using this
  unfold ixC
  rw [this]
theorem ixC_cases (l : List Cl) (n : Int) : (ixC l n = -1 ∧ ∀ o ∈ l, o.x ≠ n) ∨ ∃ (i : Nat) (o : Cl), ixC l n = i ∧ l[i]? = some o ∧ o.x = n ∧ i < l.length := by
  unfold ixC
  cases h : l.findIdx? (fun o => decide (o.x = n)) with
  | none =>
    left
    rw [List.findIdx?_eq_none_iff] at h
    exact ⟨rfl, fun o ho => by simpa using h o ho⟩
  | some i =>
    right
    rw [List.findIdx?_eq_some_iff_getElem] at h
    obtain ⟨hi, h1, _⟩ := h
    exact ⟨i, l[i], rfl, List.getElem?_eq_getElem hi, by simpa using h1, hi⟩
theorem newClient_yes (n : Int) (h : ¬ (n < 1 ∨ 16 < n)) (w : World) : Calls Try.prog 19 #[.int .i64 n] w fun e w' => ∃ g, e = .returned (.tuple #[.pointer (some ⟨g, 0, none⟩), .int .i64 0]) ∧ (clO g n 0 []).is w' (fun i => w.heap.size ≤ i ∧ i < w'.heap.size) ∧ Ext w w' := by
  have hb : (!decide (n < 1 ∨ 16 < n)) = true := by simp only [h]; rfl
  have F : Hid (∀ w : World, (clO w.heap.size n 0 []).is (w.alloc (.cells #[.int .i64 n, .int .i64 0, .slice none 0 0] 112)) (fun i => w.heap.size ≤ i ∧ i < (w.alloc (.cells #[.int .i64 n, .int .i64 0, .slice none 0 0] 112)).heap.size)) := Lib.hid fun w =>
    ⟨.slice none 0 0, heap_alloc_last w _, OwnR.nil, ⟨Nat.le_refl _, by simp⟩, fun b hb => by simp [Value.ownBlock] at hb⟩
  have K := Lib.hid (isClient_any n w)
  rw [hb] at K
  clear hb h
  go_enter Try.func19, Try.ntmps19
  go_wp2_with fail
  refine K.out.mono ?_
  rintro e w1 ⟨rfl, k1⟩
  have HF := Lib.hid (F.out w1)
  have HX := Lib.hid (Ext.trans k1 (extAl w1 (.cells #[.int .i64 n, .int .i64 0, .slice none 0 0] 112)))
  have hz := Below.size k1
  clear F K k1
  go_wp2_with fail
  go_ret2
  exact ⟨_, rfl, (clO _ n 0 []).mono HF.out fun i hi => ⟨by omega, hi.2⟩, HX.out⟩
theorem newClient_no (n : Int) (h : n < 1 ∨ 16 < n) (w : World) : Calls Try.prog 19 #[.int .i64 n] w fun e w' => e = .returned (.tuple #[.pointer none, .int .i64 1]) ∧ Ext w w' := by
  have hb : (!decide (n < 1 ∨ 16 < n)) = false := by simp [h]
  have K := Lib.hid (isClient_any n w)
  rw [hb] at K
  clear hb h
  go_enter Try.func19, Try.ntmps19
  go_wp2_with fail
  refine K.out.mono ?_
  rintro e w1 ⟨rfl, k1⟩
  have HX := Lib.hid k1
  clear K k1
  go_wp2_with fail
  go_ret2
  exact ⟨rfl, HX.out⟩
theorem cliAt1_any (o : Cl) (n : Int) (gx : Nat) (w : World) (h : w.heap[gx]? = some (.cells #[.int .i64 n] 3 (0, 0))) :
    Calls Try.prog 110 #[.agg #[.int .i64 o.x, .int .i64 o.p, .string (str o.b)], .pointer (some ⟨gx, 0, none⟩)] w fun e w' => e = .returned (.bool (decide (o.x = n))) ∧ Ext w w' := by
  have hx := extAl w (.cells #[.int .i64 o.x, .int .i64 o.p, .string (str o.b)] 118)
  obtain ⟨c0, -, -⟩ := nt_c0 ((Below.block hx gx (heap_lt h)).trans h)
  obtain ⟨d0, -, -, -, -⟩ := nt_c2 (l := []) (heap_alloc_last w (.cells #[.int .i64 o.x, .int .i64 o.p, .string (str o.b)] 118))
  have HX := Lib.hid hx
  clear hx h
  by_cases e : o.x = n
  · have hd : decide (o.x = n) = true := by simp [e]
    rw [hd]
    have hq : (o.x == n) = true := by simp [e]
    clear e
    go_enter Try.func110, Try.ntmps110
    go_upto_region 1 with fail
    generalize w.alloc (.cells #[.int .i64 o.x, .int .i64 o.p, .string (str o.b)] 118) = w1 at *
    go_wp2_with fail
    go_ret
    exact ⟨by simp, HX.out⟩
  · have hd : decide (o.x = n) = false := by simp [e]
    rw [hd]
    have hq : (o.x == n) = false := by rw [beq_eq_false_iff_ne]; exact e
    clear e
    go_enter Try.func110, Try.ntmps110
    go_upto_region 1 with fail
    generalize w.alloc (.cells #[.int .i64 o.x, .int .i64 o.p, .string (str o.b)] 118) = w1 at *
    go_wp2_with fail
    go_ret
    exact ⟨by simp, HX.out⟩
set_option maxHeartbeats 2000000 in
theorem ixOpen_any {l : List Cl} {v : Value} (n : Int) (gx : Nat) (w : World) (hl : RR w 3 v l.length (clcs l)) (hx : w.heap[gx]? = some (.cells #[.int .i64 n] 3 (0, 0))) (hll : l.length ≤ 1000000) :
    Calls Try.prog 146 #[v, .func (.func 110) #[] #[.pointer (some ⟨gx, 0, none⟩)]] w fun e w' => e = .returned (.int .i64 (ixC l n)) ∧ Ext w w' := by
  obtain ⟨A, c, rfl⟩ := hl.form
  have HL := Lib.hid hl
  have HX := Lib.hid hx
  clear hl hx
  go_enter Try.func146, Try.ntmps146
  go_wp2
  go_loopg [5, 8] l.length (fun gg _ s8 wr => ∃ k : Nat, k ≤ l.length ∧ l.length - k ≤ gg ∧ s8 = .int .i64 k ∧ Hid (Ext w wr) ∧ Hid (∀ j y, j < k → l[j]? = some y → y.x ≠ n))
  case atStart => exact ⟨0, Nat.zero_le _, by omega, rfl, Lib.hid (Ext.refl w), Lib.hid fun j y hj => absurd hj (Nat.not_lt_zero _)⟩
  case round =>
    obtain ⟨k, hk, hg, rfl, HW, HA⟩ := hrel
    by_cases hlt : k < l.length
    · obtain ⟨b, off, rfl, hb, hc, -⟩ := HL.out.at (by omega)
      obtain ⟨x, hx⟩ : ∃ x, l[k]? = some x := ⟨_, List.getElem?_eq_getElem hlt⟩
      have hr := HL.out.ext HW.out
      have h0 := RR.cellAt (enc := clC) hr clC_len hx (i := 0) rfl
      have h1 := RR.cellAt (enc := clC) hr clC_len hx (i := 1) rfl
      have h2 := RR.cellAt (enc := clC) hr clC_len hx (i := 2) rfl
      rw [← Nat.add_assoc] at h0 h1 h2
      simp only [Nat.add_zero] at h0
      have hcall := cliAt1_any x n gx wr ((Below.block HW.out gx (heap_lt HX.out)).trans HX.out)
      have HXK := Lib.hid hx
      clear hx hr
      by_cases hq : x.x = n
      · have hd : decide (x.x = n) = true := by simp [hq]
        rw [hd] at hcall
        have HQ := Lib.hid hq
        have KC := Lib.hid hcall
        clear hq hd hcall
        go_wp2_with (go_at_call 110; refine KC.out.mono ?_; rintro e w' ⟨rfl, hb'⟩)
        go_ret
        exact ⟨by rw [ixC_hit HXK.out HQ.out HA.out]; rfl, Ext.trans HW.out hb'⟩
      · have hd : decide (x.x = n) = false := by simp [hq]
        rw [hd] at hcall
        have HQ := Lib.hid hq
        have KC := Lib.hid hcall
        clear hq hd hcall
        go_wp2_with (go_at_call 110; refine KC.out.mono ?_; rintro e w' ⟨rfl, hb'⟩)
        go_roundg (l.length - (k + 1))
        case measure => omega
        case rel =>
          refine ⟨k + 1, by omega, by omega, by go_num, Lib.hid (Ext.trans HW.out hb'), Lib.hid fun j y hj hy => ?_⟩
          by_cases e : j = k
          · subst e
            rw [HXK.out] at hy
            cases hy
            exact HQ.out
          · exact HA.out j y (by omega) hy
    · obtain rfl : k = l.length := by omega
      go_wp2
      go_ret
      exact ⟨by rw [ixC_miss HA.out]; rfl, HW.out⟩
theorem cliAt_any {S : Nat → Prop} {g : Nat} {N L : Int} {l : List Cl} (n : Int) (w : World) (h : (clO g N L l).is w S) (hn : l.length ≤ 1000) :
    Calls Try.prog 54 #[.pointer (some ⟨g, 0, none⟩), .int .i64 n] w fun e w' => e = .returned (.int .i64 (ixC l n)) ∧ Ext w w' := by
  obtain ⟨v, h⟩ := h
  obtain ⟨A, c, rfl⟩ := h.row.form
  have hx := extAl w (.cells #[.int .i64 n] 3)
  have h1 := h.ext hx
  obtain ⟨-, -, c2, -, gl⟩ := nt_c2 h1.hg
  have KI := ixOpen_any n w.heap.size _ (h1.row.rr (by decide)) (heap_alloc_last w (.cells #[.int .i64 n] 3)) (by omega)
  have HX := Lib.hid hx
  have K := Lib.hid KI
  clear h h1 hx KI
  generalize ixC l n = r at *
  generalize l.length = m at *
  have KF : Hid (Calls Try.prog 109 #[.pointer (some ⟨g, 2, none⟩), .func (.func 110) #[] #[.pointer (some ⟨w.heap.size, 0, none⟩)]] (w.alloc (.cells #[.int .i64 n] 3)) fun e w' => e = .returned (.int .i64 r) ∧ Ext (w.alloc (.cells #[.int .i64 n] 3)) w') := Lib.hid (by
    generalize w.alloc (.cells #[.int .i64 n] 3) = w1 at *
    go_enter Try.func109, Try.ntmps109
    go_wp2_with (go_at_call 146; refine K.out.mono ?_; rintro e w' ⟨rfl, hb'⟩)
    go_ret
    exact ⟨rfl, hb'⟩)
  clear K c2
  go_enter Try.func54, Try.ntmps54
  go_upto_region 1 with fail
  generalize w.alloc (.cells #[.int .i64 n] 3) = w1 at *
  go_wp2_with fail
  refine KF.out.mono ?_
  rintro e w2 ⟨rfl, k2⟩
  have HE := Lib.hid (Ext.trans HX.out k2)
  clear k2 KF
  go_wp2_with fail
  go_ret
  exact ⟨rfl, HE.out⟩
def againC (l : List Cl) (n : Int) : List UInt8 × Int := match l.find? (fun o => decide (o.x = n)) with
  | some o => (o.b, 0)
  | none => ([], 5)
end

section
set_option linter.unusedVariables false
set_option maxRecDepth 100000
open Go.RowKit

def againR (l : List Cl) (n : Int) : List UInt8 × Int := match l[(ixC l n).toNat]? with
  | none => ([], 5)
  | some o => if ixC l n < 0 then ([], 5) else (o.b, 0)
theorem againR_none {l : List Cl} {n : Int} (h : ixC l n = -1) : againR l n = ([], 5) := by
  unfold againR
  rw [h]
  split
  · rfl
  · rw [if_pos (by decide)]
theorem againR_some {l : List Cl} {n : Int} {i : Nat} {o : Cl} (h : ixC l n = i) (ho : l[i]? = some o) : againR l n = (o.b, 0) := by
  unfold againR
  rw [h, Int.toNat_natCast, ho]
  simp only
  rw [if_neg (by omega)]
theorem cliAgain_any {S : Nat → Prop} {g : Nat} {N L : Int} {l : List Cl} (n : Int) (w : World) (h : (clO g N L l).is w S) (hn : l.length ≤ 1000) :
    Calls Try.prog 13 #[.pointer (some ⟨g, 0, none⟩), .int .i64 n] w fun e w' => e = .returned (.tuple #[.string (str (againR l n).1), .int .i64 (againR l n).2]) ∧ Ext w w' := by
  have KA := cliAt_any n w h hn
  obtain ⟨v, h⟩ := h
  obtain ⟨A, c, rfl⟩ := h.row.form
  rcases ixC_cases l n with ⟨e1, -⟩ | ⟨i, o, e1, ho, -, hi⟩
  · rw [againR_none e1]
    rw [e1] at KA
    have K := Lib.hid KA
    clear KA e1 h
    go_enter Try.func13, Try.ntmps13
    go_wp2_with fail
    refine K.out.mono ?_
    rintro e w1 ⟨rfl, k1⟩
    have HE := Lib.hid k1
    clear k1 K
    go_wp2_with fail
    go_ret2
    exact ⟨rfl, HE.out⟩
  · rw [againR_some e1 ho]
    rw [e1] at KA
    have K := Lib.hid KA
    have H := Lib.hid h
    obtain ⟨gs, rfl, -, hsl, hnc, -⟩ := h.row.cells (by omega)
    have z2 := Lib.hid (RR.cellAt (enc := clC) (h.row.rr (by decide)) clC_len ho (i := 2) rfl)
    have hnc' := hnc (by decide)
    clear KA e1 h ho hnc
    obtain ⟨m, hm⟩ : ∃ m, l.length = m := ⟨_, rfl⟩
    have HG : Hid (w.heap[g]? = some (.cells #[.int .i64 N, .int .i64 L, .slice (some ⟨gs, 0, none⟩) m c] 112 (0, 0))) := Lib.hid (by rw [← hm]; exact H.out.hg)
    rw [hm] at hi hnc'
    clear H hm hn
    go_enter Try.func13, Try.ntmps13
    go_wp2_with fail
    refine K.out.mono ?_
    rintro e w1 ⟨rfl, k1⟩
    obtain ⟨-, -, c2, -, gl⟩ := nt_c2 (l := []) ((Below.block k1 g (heap_lt HG.out)).trans HG.out)
    have y2 := (Below.cell (p := ⟨gs, 0 + (i * 3 + 2), none⟩) k1 hsl).trans z2.out
    simp only [Nat.zero_add] at y2
    have hs1 : gs < w1.heap.size := Nat.lt_of_lt_of_le hsl (Below.size k1)
    have hi0 : ¬ ((i : Int) < 0) := by omega
    have HE := Lib.hid k1
    clear k1 K z2 HG
    go_wp2_with fail
    go_ret2
    exact ⟨rfl, HE.out⟩
structure CallT where
  r : List UInt8 × Int
  L : Int
  l : List Cl
def callR (N L : Int) (l : List Cl) (p : Int) (a : AgT) : CallT :=
  if (aW p a).2 ≠ 0 then ⟨([], (aW p a).2), L, l⟩ else if 8 ≤ l.length then ⟨([], 3), L, l⟩ else if (cW N (L + 1) p (aW p a).1).2 ≠ 0 then ⟨([], (cW N (L + 1) p (aW p a).1).2), L, l⟩
  else ⟨((cW N (L + 1) p (aW p a).1).1, 0), L + 1, l ++ [⟨L + 1, p, (cW N (L + 1) p (aW p a).1).1⟩]⟩
set_option maxHeartbeats 8000000 in
theorem cliCall_any {S : Nat → Prop} {g : Nat} {N L : Int} {l : List Cl} (p : Int) (a : AgT) (w : World) (h : (clO g N L l).is w S) (hn : l.length ≤ 1000) (hp : I64 p) (hk : a.Ok) (hL : 0 ≤ L ∧ L ≤ 1000000) :
    Calls Try.prog 12 #[.pointer (some ⟨g, 0, none⟩), .int .i64 p, .agg (agC a).toArray] w fun e w' => e = .returned (.tuple #[.string (str (callR N L l p a).r.1), .int .i64 (callR N L l p a).r.2]) ∧ To S w w' (clO g N (callR N L l p a).L (callR N L l p a).l) := by
  have hh := Lib.hid h
  obtain ⟨v, h⟩ := h
  obtain ⟨A, c, rfl⟩ := h.row.form
  obtain ⟨m, hm⟩ : ∃ m, l.length = m := ⟨_, rfl⟩
  have H : Hid (NtP w S 112 118 [.int .i64 N, .int .i64 L] [] g m (clcs l) (.slice A m c)) := Lib.hid (by rw [hm] at h; exact h)
  rw [hm] at h
  have KW := Lib.hid (fun w : World => aWrite_any p a w hp hk)
  have HX := Lib.hid (extAl w (.cells (agC a).toArray 35))
  have HB := Lib.hid (heap_alloc_last w (.cells (agC a).toArray 35))
  have HN : Hid (l.length = m) := Lib.hid hm
  have hlen := fun h => (aR_aW (p := p) hk h).2.2
  obtain ⟨R, hR⟩ : ∃ R, callR N L l p a = R := ⟨_, rfl⟩
  rw [hR]
  unfold callR at hR
  generalize aW p a = X at *
  obtain ⟨X1, X2⟩ := X
  simp only at hR KW hlen
  rw [hm] at hR hn
  have hL1 : L + 1 ≤ 1000001 := by omega
  have hL0 : 0 ≤ L + 1 := by omega
  clear h hm hp hk
  by_cases h1 : X2 = 0
  · subst h1
    rw [if_neg (by simp)] at hR
    have hl4 := hlen rfl
    by_cases h2 : 8 ≤ m
    · rw [if_pos h2] at hR
      subst hR
      clear hlen hl4
      go_enter Try.func12, Try.ntmps12
      go_upto_region 3 with fail
      generalize w.alloc (.cells (agC a).toArray 35) = w1 at *
      have HLa := Lib.hid (ldAg HB.out)
      go_wp2_with (refine wpList_ld rfl 35 (.tmp 5) rfl HLa.out ?_; simp only [Act.put])
      refine (KW.out _).mono ?_
      rintro e w2 ⟨rfl, k2⟩
      have HX2 := Lib.hid (Ext.trans HX.out k2)
      have H2 := Lib.hid (H.out.ext HX2.out)
      obtain ⟨c0, c1, c2, -, gl⟩ := nt_c2 H2.out.hg
      clear HX HB k2 KW HLa
      have FF := Lib.hid (To.of_ext hh.out HX2.out)
      go_wp2_with fail
      go_ret2
      exact ⟨rfl, FF.out⟩
    · rw [if_neg h2] at hR
      have KC := Lib.hid (fun w : World => cWrite_any N (L + 1) p X1 w (by omega))
      unfold headV seV at KC
      generalize cW N (L + 1) p X1 = Y at *
      obtain ⟨Y1, Y2⟩ := Y
      simp only at hR KC
      clear hlen hl4
      by_cases h3 : Y2 = 0
      · subst h3
        rw [if_neg (by simp)] at hR
        subst hR
        simp only
        go_enter Try.func12, Try.ntmps12
        go_upto_region 3 with fail
        generalize w.alloc (.cells (agC a).toArray 35) = w1 at *
        have HLa := Lib.hid (ldAg HB.out)
        go_wp2_with (refine wpList_ld rfl 35 (.tmp 5) rfl HLa.out ?_; simp only [Act.put])
        refine (KW.out _).mono ?_
        rintro e w2 ⟨rfl, k2⟩
        have HX2 := Lib.hid (Ext.trans HX.out k2)
        have H2 := Lib.hid (H.out.ext HX2.out)
        obtain ⟨c0, c1, c2, -, gl⟩ := nt_c2 H2.out.hg
        clear HX HB k2 KW HLa
        go_upto_region 8 with fail
        have q0 := fun (ψ : World → Prop) (e : ExtP w2.heap.size w2 ψ) => e.cell c0 gl
        have q1 := fun (ψ : World → Prop) (e : ExtP w2.heap.size w2 ψ) => e.cell c1 gl
        clear c0 c1 c2
        refine wp_region_pieces 18  [(true, [0, 1, 2, 3, 4, 5, 6, 7, 8, 9, 10, 11]), (false, [12]), (true, [13, 14, 15, 16, 17])] (by kernel_rfl) (by kernel_rfl) ?_; simp only [pick, List.map_cons, List.map_nil, List.flatMap_cons, List.flatMap_nil, Option.toList_some, List.singleton_append, List.drop_succ_cons, List.drop_zero, List.getElem?_cons_zero, List.getElem?_cons_succ]
        refine ⟨by kernel_rfl, ?_⟩; apply Exists.intro; refine ⟨fun ψ hψ hne => (by (repeat (go_big_quiet_step (( fail )))); exact wpQuiet_nil rfl), ?_⟩
        clear q0 q1
        intro w3 h3 K hK
        go_wp2_with (go_at_call 52; refine (KC.out _).mono ?_; rintro e w4 ⟨rfl, k4⟩)
        refine hK _ _ k4 ?_
        have HX4 := Lib.hid (Ext.trans HX2.out (Ext.trans (a := w2) h3 k4))
        clear hK K h3 k4 KC
        refine ⟨by kernel_rfl, ?_⟩; apply Exists.intro; refine ⟨fun ψ hψ hne => (by (repeat (go_big_quiet_step (( fail )))); exact wpQuiet_nil rfl), ?_⟩
        intro w5 h5
        have HX5 := Lib.hid (Ext.trans HX4.out h5)
        have H5 := Lib.hid (H.out.ext HX5.out)
        obtain ⟨c0, c1, c2, cf, gl⟩ := nt_c2 H5.out.hg
        clear h5 HX4 H2
        have hst := setCell_eq_setRow w5 g 1 _ 112 (0, 0) (.int .i64 (L + 1)) H5.out.hg
        have hst' : w5.setCell ⟨g, 1, none⟩ (.int .i64 (L + 1)) = w5.setRow g #[.int .i64 N, .int .i64 (L + 1), .slice A m c] := hst
        have hg6 := setRow_heap w5 g _ #[.int .i64 N, .int .i64 (L + 1), .slice A m c] _ _ H5.out.hg
        have F6 : To S w (w5.setRow g #[.int .i64 N, .int .i64 (L + 1), .slice A m c]) (clO g N (L + 1) l) := by
          show To S w _ (ntOb _ _ _ _ g l.length (clcs l))
          rw [HN.out]
          exact H.out.fin (pre' := [.int .i64 N, .int .i64 (L + 1)]) (post' := []) (v' := .slice A m c) (by decide) (Mut.of_ext HX5.out) H5.out.hg H5.out.row fun b hb => .inl (H5.out.sv b hb)
        have ST := Lib.hid hst'
        have HG6 := Lib.hid hg6
        have HF6 := Lib.hid F6
        have hw1 : wrap64 (L + 1) = L + 1 := by unfold wrap64; omega
        clear hst hst' hg6 F6 H5 HX5 H
        go_upto_region 12 with fail
        rw [ST.out]
        generalize w5.setRow g #[.int .i64 N, .int .i64 (L + 1), .slice A m c] = w6 at *
        clear c0 c1 c2 cf gl ST
        obtain ⟨c0, c1, c2, cf, gl⟩ := nt_c2 (l := []) HG6.out
        have q1 := fun (ψ : World → Prop) (e : ExtP w6.heap.size w6 ψ) => e.cell c1 gl
        clear c0 c1 c2 cf
        refine wp_region_pieces 10  [(true, [0, 1, 2, 3, 4, 5, 6, 7, 8, 9])] (by kernel_rfl) (by kernel_rfl) ?_; simp only [pick, List.map_cons, List.map_nil, List.flatMap_cons, List.flatMap_nil, Option.toList_some, List.singleton_append, List.drop_succ_cons, List.drop_zero, List.getElem?_cons_zero, List.getElem?_cons_succ]
        refine ⟨by kernel_rfl, ?_⟩; apply Exists.intro; refine ⟨fun ψ hψ hne => (by (repeat (go_big_quiet_step (( fail )))); exact wpQuiet_nil rfl), ?_⟩
        clear q1
        intro w7 h7
        have KP := cliPut_row (N := N) (L := L + 1) ⟨L + 1, p, Y1⟩ w7 ((clO g N (L + 1) l).ext HF6.out.1 h7) (by rw [HN.out]; omega)
        have KP' := Lib.hid KP
        have HX7 := Lib.hid h7
        clear KP h7
        go_wp2_with fail
        refine KP'.out.mono ?_
        rintro e w8 ⟨rfl, h8⟩
        have hF : To S w w8 (clO g N (L + 1) (l ++ [⟨L + 1, p, Y1⟩])) := by
          have := To.trans HF6.out (To.after_ext HX7.out h8)
          show To S w w8 (ntOb _ _ _ [] g (l ++ [_]).length (clcs (l ++ [_])))
          rw [clcs_snoc, List.length_append]
          exact this
        have FF := Lib.hid hF
        clear h8 hF KP'
        go_wp2_with fail
        go_ret2
        exact ⟨rfl, FF.out⟩
      · rw [if_pos h3] at hR
        subst hR
        have z1 : (Y2 == 0) = false := beq_eq_false_iff_ne.2 h3
        simp only
        go_enter Try.func12, Try.ntmps12
        go_upto_region 3 with fail
        generalize w.alloc (.cells (agC a).toArray 35) = w1 at *
        have HLa := Lib.hid (ldAg HB.out)
        go_wp2_with (refine wpList_ld rfl 35 (.tmp 5) rfl HLa.out ?_; simp only [Act.put])
        refine (KW.out _).mono ?_
        rintro e w2 ⟨rfl, k2⟩
        have HX2 := Lib.hid (Ext.trans HX.out k2)
        have H2 := Lib.hid (H.out.ext HX2.out)
        obtain ⟨c0, c1, c2, -, gl⟩ := nt_c2 H2.out.hg
        clear HX HB k2 KW HLa
        go_upto_region 8 with fail
        have q0 := fun (ψ : World → Prop) (e : ExtP w2.heap.size w2 ψ) => e.cell c0 gl
        have q1 := fun (ψ : World → Prop) (e : ExtP w2.heap.size w2 ψ) => e.cell c1 gl
        clear c0 c1 c2
        refine wp_region_pieces 18  [(true, [0, 1, 2, 3, 4, 5, 6, 7, 8, 9, 10, 11]), (false, [12]), (true, [13, 14, 15, 16, 17])] (by kernel_rfl) (by kernel_rfl) ?_; simp only [pick, List.map_cons, List.map_nil, List.flatMap_cons, List.flatMap_nil, Option.toList_some, List.singleton_append, List.drop_succ_cons, List.drop_zero, List.getElem?_cons_zero, List.getElem?_cons_succ]
        refine ⟨by kernel_rfl, ?_⟩; apply Exists.intro; refine ⟨fun ψ hψ hne => (by (repeat (go_big_quiet_step (( fail )))); exact wpQuiet_nil rfl), ?_⟩
        clear q0 q1
        intro w3 h3 K hK
        go_wp2_with (go_at_call 52; refine (KC.out _).mono ?_; rintro e w4 ⟨rfl, k4⟩)
        refine hK _ _ k4 ?_
        have HX4 := Lib.hid (Ext.trans HX2.out (Ext.trans (a := w2) h3 k4))
        clear hK K h3 k4 KC
        refine ⟨by kernel_rfl, ?_⟩; apply Exists.intro; refine ⟨fun ψ hψ hne => (by (repeat (go_big_quiet_step (( fail )))); exact wpQuiet_nil rfl), ?_⟩
        intro w5 h5
        have HX5 := Lib.hid (Ext.trans HX4.out h5)
        have H5 := Lib.hid (H.out.ext HX5.out)
        obtain ⟨c0, c1, c2, cf, gl⟩ := nt_c2 H5.out.hg
        clear h5 HX4 H2
        have FF := Lib.hid (To.of_ext hh.out HX5.out)
        go_wp2_with fail
        go_ret2
        exact ⟨rfl, FF.out⟩
  · rw [if_pos h1] at hR
    subst hR
    have z1 : (X2 == 0) = false := beq_eq_false_iff_ne.2 h1
    clear hlen
    go_enter Try.func12, Try.ntmps12
    go_upto_region 3 with fail
    generalize w.alloc (.cells (agC a).toArray 35) = w1 at *
    have HLa := Lib.hid (ldAg HB.out)
    go_wp2_with (refine wpList_ld rfl 35 (.tmp 5) rfl HLa.out ?_; simp only [Act.put])
    refine (KW.out _).mono ?_
    rintro e w2 ⟨rfl, k2⟩
    have HX2 := Lib.hid (Ext.trans HX.out k2)
    have H2 := Lib.hid (H.out.ext HX2.out)
    obtain ⟨c0, c1, c2, -, gl⟩ := nt_c2 H2.out.hg
    clear HX HB k2 KW HLa
    have FF := Lib.hid (To.of_ext hh.out HX2.out)
    go_wp2_with fail
    go_ret2
    exact ⟨rfl, FF.out⟩
end

section
set_option linter.unusedVariables false
set_option maxRecDepth 100000
open Go.RowKit

theorem app_intN {w : World} {B n : Nat} {v x : Value} {cs : List Value} {m : Nat} {new : List Value} {tx ty : TypeId} (ho : OwnR w B 3 1 One v n cs) (hs : Src Try.prog 1 tx x m new w) (hB : B ≤ w.heap.size) (hn : ∀ u ∈ new, One u) (hc : n + m ≤ 100000000) :
    ∃ v' w', (Builtin.append_ #[52, tx] ty #[v, x]).run Try.prog w = .ok v' w' ∧ OwnR w' B 3 1 One v' (n + m) (cs ++ new) ∧ Below B w w' ∧ w.grownBy w' v.ownBlock ∧ (∀ b, v'.ownBlock = some b → v.ownBlock = some b ∨ w.heap.size ≤ b) := by
  have h : (Try.prog.info? 3).map (fun i => (i.zero, i.size, i.bytes)) = some (some (.int .i64 0), 1, 8) := by kernel_rfl
  obtain ⟨i, hi, hz0, hz1, hz2⟩ := info_prt h
  exact appG2 (ty := ty) Try.underlying52 hi hz1 hz0 rfl ho hs hB (by omega) hn (by intro u hu; simp [Value.cells] at hu; subst hu; rfl) (by rw [hz2]; omega) (by omega)
set_option maxHeartbeats 4000000 in
theorem cliOpen_any {S : Nat → Prop} {g : Nat} {N L : Int} {l : List Cl} (w : World) (h : (clO g N L l).is w S) (hn : l.length ≤ 1000) :
    Calls Try.prog 22 #[.pointer (some ⟨g, 0, none⟩)] w fun e w' => ∃ v', e = .returned v' ∧ OwnR w' w.heap.size 3 1 One v' l.length (ics (l.map (·.x))) ∧ Ext w w' := by
  obtain ⟨v, h⟩ := h
  have hr := h.row.rr (by decide)
  obtain ⟨A, c, rfl⟩ := h.row.form
  obtain ⟨-, -, c2, -, gl⟩ := nt_c2 h.hg
  have HR := Lib.hid hr
  obtain ⟨n, hnn⟩ : ∃ n, l.length = n := ⟨_, rfl⟩
  have HN := Lib.hid hnn
  rw [hnn] at HR c2 hn ⊢
  clear h hr hnn
  go_enter Try.func22, Try.ntmps22
  go_wp2
  go_loopw [3, 5, 14] (fun sv _ iv wr => ∃ (k : Nat) (A2 : Option Addr) (c3 : Nat), k ≤ n ∧ iv = .int .i64 k ∧ sv = .slice A2 k c3 ∧ Hid (Ext w wr) ∧ Hid (OwnR wr w.heap.size 3 1 One (.slice A2 k c3) k (ics ((l.take k).map (·.x))))) (fun _ _ iv _ => n - (intOf iv).toNat)
  case atStart => exact ⟨0, none, 0, Nat.zero_le _, rfl, rfl, Lib.hid (Ext.refl w), Lib.hid (by rw [List.take_zero]; exact OwnR.nil)⟩
  case round =>
    obtain ⟨k, A2, c3, hk, rfl, rfl, HW, HO⟩ := hrel
    by_cases hlt : k < n
    · obtain ⟨b, off, rfl, hb, hc, -⟩ := HR.out.at (by omega)
      obtain ⟨x, hx⟩ : ∃ x, l[k]? = some x := ⟨_, List.getElem?_eq_getElem (by rw [HN.out]; exact hlt)⟩
      have hr := HR.out.ext HW.out
      have hr' : RR wr 3 (.slice (some ⟨b, off, none⟩) l.length c) l.length (l.flatMap clC) := by rw [HN.out]; exact hr
      have h0 := RR.cellAt (enc := clC) hr' clC_len hx (i := 0) rfl
      have h1 := RR.cellAt (enc := clC) hr' clC_len hx (i := 1) rfl
      have h2 := RR.cellAt (enc := clC) hr' clC_len hx (i := 2) rfl
      rw [← Nat.add_assoc] at h0 h1 h2
      simp only [Nat.add_zero] at h0
      have hxa := extAl wr (.cells #[.int .i64 x.x, .int .i64 x.p, .string (str x.b)] 118)
      have hba := heap_alloc_last wr (.cells #[.int .i64 x.x, .int .i64 x.p, .string (str x.b)] 118)
      have HX1 := Lib.hid (Ext.trans HW.out hxa)
      have HO1 := Lib.hid (HO.out.ext hxa)
      have HB1 := Lib.hid hba
      have HXK := Lib.hid hx
      clear hx hr hr' hxa hba
      go_upto_region 7 with fail
      generalize wr.alloc (.cells #[.int .i64 x.x, .int .i64 x.p, .string (str x.b)] 118) = w1 at *
      obtain ⟨d0, -, -, -, dl⟩ := nt_c2 (l := []) HB1.out
      have hx2 := extAl w1 (.cells #[.int .i64 x.x] 3)
      have hb2 := heap_alloc_last w1 (.cells #[.int .i64 x.x] 3)
      have hsrc := src_row (P := Try.prog) (sz := 1) (tx := 52) (n := 1) (c := 1) (cs := [.int .i64 x.x]) Try.underlying52 hb2 rfl (by intro u hu; simp at hu; subst hu; rfl)
      obtain ⟨v', w', hr, ho, hbl, -, -⟩ := app_intN (ty := 52) (HO1.out.ext hx2) hsrc (Ext.trans HX1.out hx2).size (by intro u hu; simp at hu; subst hu; rfl) (by omega)
      obtain ⟨A4, c4, rfl⟩ := ho.form
      have Hr := Lib.hid hr
      have HO2 : Hid (OwnR w' w.heap.size 3 1 One (.slice A4 (k + 1) c4) (k + 1) (ics ((l.take (k + 1)).map (·.x)))) := Lib.hid (by
        rw [List.take_add_one, HXK.out, List.map_append, ics_app]
        exact ho)
      have HX2 : Hid (Ext w w') := Lib.hid (Below.trans (Ext.trans HX1.out hx2) hbl)
      clear hx2 hb2 hsrc hr ho hbl HO1 HX1 HW HO h0 h1 h2
      go_wp2_with (at_builtin; refine wpList_app rfl (.tmp 18) (.tmp 21) 52 52 rfl Hr.out ?_; simp only [Act.put])
      refine ⟨⟨k + 1, A4, c4, by omega, by simp, by simp, HX2, HO2⟩, ?_⟩
      simp only [intOf]
      omega
    · obtain rfl : k = n := by omega
      have HO2 : Hid (OwnR wr w.heap.size 3 1 One (.slice A2 k c3) k (ics (l.map (·.x)))) := Lib.hid (by
        have := HO.out
        rw [List.take_of_length_le (by rw [HN.out]; exact Nat.le_refl _)] at this
        exact this)
      go_wp2
      go_ret
      exact ⟨_, rfl, HO2.out, HW.out⟩
set_option maxHeartbeats 4000000 in
theorem cliCopy_any {S : Nat → Prop} {g : Nat} {N L : Int} {l : List Cl} (w : World) (h : (clO g N L l).is w S) (hn : l.length ≤ 1000) :
    Calls Try.prog 23 #[.pointer (some ⟨g, 0, none⟩)] w fun e w' => ∃ g', e = .returned (.pointer (some ⟨g', 0, none⟩)) ∧ (clO g' N L l).is w' (fun i => w.heap.size ≤ i ∧ i < w'.heap.size) ∧ Ext w w' := by
  have KK := Lib.hid (fun (w1 : World) (k : Ext w w1) => cliCopied_row w1 ((clO g N L l).ext h k) (clcs_one l) hn)
  obtain ⟨v, h⟩ := h
  obtain ⟨A, c, rfl⟩ := h.row.form
  obtain ⟨n, hnn⟩ : ∃ n, l.length = n := ⟨_, rfl⟩
  rw [hnn] at KK
  have hg : w.heap[g]? = some (.cells #[.int .i64 N, .int .i64 L, .slice A n c] 112 (0, 0)) := by rw [← hnn]; exact h.hg
  obtain ⟨c0, c1, c2, -, gl⟩ := nt_c2 (l := []) hg
  have HN := Lib.hid hnn
  clear hnn hn h hg
  go_enter Try.func23, Try.ntmps23
  go_upto_region 3 with fail
  have q0 := fun (ψ : World → Prop) (e : ExtP w.heap.size w ψ) => e.cell c0 gl
  have q1 := fun (ψ : World → Prop) (e : ExtP w.heap.size w ψ) => e.cell c1 gl
  clear c0 c1 c2
  refine wp_region_pieces 12  [(true, [0, 1, 2, 3, 4, 5, 6, 7, 8, 9, 10]), (false, [11])] (by kernel_rfl) (by kernel_rfl) ?_; simp only [pick, List.map_cons, List.map_nil, List.flatMap_cons, List.flatMap_nil, Option.toList_some, List.singleton_append, List.drop_succ_cons, List.drop_zero, List.getElem?_cons_zero, List.getElem?_cons_succ]
  refine ⟨by kernel_rfl, ?_⟩; apply Exists.intro; refine ⟨fun ψ hψ hne => (by (repeat (go_big_quiet_step (( fail )))); exact wpQuiet_nil rfl), ?_⟩
  clear q0 q1
  intro w3 h3 K hK
  have K3 := Lib.hid (KK.out w3 h3)
  have H3 := Lib.hid h3
  clear h3
  go_wp2_with (go_at_call 61; refine K3.out.mono ?_; rintro e w4 ⟨v', rfl, o4, k4⟩)
  refine hK _ _ k4 ?_
  clear hK K
  obtain ⟨A', c', rfl⟩ := o4.form
  have HX4 := Lib.hid (Ext.trans (a := w) H3.out k4)
  have HO4 := Lib.hid (o4.mono H3.out.size)
  clear o4 k4 K3 H3 KK
  intro w5 h5
  have hx := extAl w5 (.cells #[.int .i64 N, .int .i64 L, .slice A' n c'] 112)
  have hb := heap_alloc_last w5 (.cells #[.int .i64 N, .int .i64 L, .slice A' n c'] 112)
  have h05 := Ext.trans HX4.out h5
  have hz := h05.size
  have hlt := heap_lt hb
  have HF : Hid ((clO w5.heap.size N L l).is (w5.alloc (.cells #[.int .i64 N, .int .i64 L, .slice A' n c'] 112)) (fun i => w.heap.size ≤ i ∧ i < (w5.alloc (.cells #[.int .i64 N, .int .i64 L, .slice A' n c'] 112)).heap.size)) := Lib.hid
    ⟨.slice A' n c', hb, by
      have := (HO4.out.ext (Ext.trans h5 hx)).mono (Nat.zero_le _)
      rw [HN.out]
      exact this, ⟨hz, hlt⟩, fun b hb => by
      have := own_lt (HO4.out.ext h5) hb
      have h2 := hx.size
      exact ⟨by omega, by omega⟩⟩
  have HE : Hid (Ext w (w5.alloc (.cells #[.int .i64 N, .int .i64 L, .slice A' n c'] 112))) := Lib.hid (Ext.trans h05 hx)
  clear hx hb hz hlt h05 h5 HO4 HX4
  go_wp2_with fail
  go_ret
  exact ⟨_, rfl, HF.out, HE.out⟩
end

section
set_option linter.unusedVariables false
set_option maxRecDepth 100000
open Go.RowKit

theorem results_tct {P : Program} {fn : Func} {q p u : Tmp} {ty : TypeId} (h : fn.results = #[.tmp q, .cell p ty, .tmp u]) (tmps : Array Value) (w : World) (g : Nat) (t : TypeId) (cs : Array Value) (fr : Nat × Nat) (d : TypeDesc)
    (hp : tmps.getD p undef = .pointer (some ⟨g, 0, none⟩)) (hg : w.heap[g]? = some (.cells cs t fr)) (hu : P.underlying ty = some d) (hd : (match d with | .struct _ | .array _ _ => true | _ => false) = true) (hi : (P.info? ty).map (·.size) = some cs.size) :
    (results fn tmps).run P w = .ok (.tuple #[tmps.getD q undef, .agg cs, tmps.getD u undef]) w := by
  have hp' : tmps[p]?.getD undef = .pointer (some ⟨g, 0, none⟩) := by simpa using hp
  simp [results, h, hp', asAddr, run_loadVar_row w g t ty cs fr d hg hu hd hi]
structure HrT where
  n : Int
  x : RsT
  e : Int
  l : List Cl
def hearB (l : List Cl) (x : Int) (A : AnsT) (i : Nat) (o : Cl) : HrT :=
  if A.e = 0 then (if (aH o.p A.l).2 = 0 then ⟨x, (aH o.p A.l).1, 0, l.eraseIdx i⟩ else ⟨0, rs0, (aH o.p A.l).2, l⟩) else ⟨x, { rs0 with e := A.e }, 0, l.eraseIdx i⟩
def hearR (l : List Cl) (s : List UInt8) : HrT :=
  if (cH s).2 ≠ 0 then ⟨0, rs0, (cH s).2, l⟩ else match l[(ixC l (cH s).1.x).toNat]? with
  | none => ⟨0, rs0, 5, l⟩
  | some o => if ixC l (cH s).1.x < 0 then ⟨0, rs0, 5, l⟩ else hearB l (cH s).1.x (cH s).1 (ixC l (cH s).1.x).toNat o
/-- What Hear comes to. -/
def HearC (w : World) (S : Nat → Prop) (g : Nat) (N L : Int) (R : HrT) (e : Ending) (w' : World) : Prop :=
  ∃ rv, e = .returned (.tuple #[.int .i64 R.n, .agg (rsC R.x rv).toArray, .int .i64 R.e]) ∧ EnO w' w.heap.size rv R.x.ents ∧ To S w w' (clO g N L R.l)
theorem new_rs3 (w : World) (x e : Int) (l : List UInt8) : (Instr.storeAt 121 (.pointer (some ⟨w.heap.size, 0, none⟩)) (.agg #[.int .i64 x, .int .i64 e, .string (str l)])).run Try.prog (w.alloc (.cells #[.int .i64 0, .int .i64 0, .string ⟨#[]⟩] 121)) = .ok () (w.alloc (.cells #[.int .i64 x, .int .i64 e, .string (str l)] 121)) := by
  have := storeAt_row (P := Try.prog) (ty := 121) (cs := #[.int .i64 x, .int .i64 e, .string (str l)]) (heap_alloc_last w (.cells #[.int .i64 0, .int .i64 0, .string ⟨#[]⟩] 121)) (by kernel_rfl) rfl (by simp [Value.oneCell'])
  rw [World.setRow_alloc_new] at this
  exact this
set_option maxHeartbeats 16000000 in
theorem cliHear_any {S : Nat → Prop} {g : Nat} {N L : Int} {l : List Cl} (s : List UInt8) (w : World) (h : (clO g N L l).is w S) (hn : l.length ≤ 1000) (hs : s.length ≤ 10000) (hpo : ∀ o ∈ l, I64 o.p) :
    Calls Try.prog 14 #[.pointer (some ⟨g, 0, none⟩), .string (str s)] w (HearC w S g N L (hearR l s)) := by
  have hh := Lib.hid h
  have HT := Lib.hid ((clO g N L l).trim h)
  have KS := Lib.hid (fun w : World => cHear_any s w (by omega))
  have KA := Lib.hid (fun (w' : World) (k : Ext w w') => cliAt_any (cH s).1.x w' ((clO g N L l).ext h k) hn)
  have HB := Lib.hid (heap_alloc_last w (.cells (rsC rs0 (.slice none 0 0)).toArray 41))
  have HX := Lib.hid (extAl w (.cells (rsC rs0 (.slice none 0 0)).toArray 41))
  have HW1 : Hid (w.alloc (.cells (rsC rs0 (.slice none 0 0)).toArray 41) = w.alloc (.cells #[.int .i64 0, .int .i64 0, .int .i64 0, .int .i64 0, .int .u8 0, .int .i64 0, .int .i64 0, .int .i64 0, .int .i64 0, .int .i64 0, .int .i64 0, .int .i64 0, .string ⟨#[]⟩, .int .i64 0, .int .i64 0, .int .u64 0, .bool false, .slice none 0 0, .int .u64 0] 41)) := Lib.hid rfl
  have hlen : (cH s).1.l.length ≤ 10000 := by
    unfold cH
    split
    · show (s.drop 12).length ≤ 10000
      rw [List.length_drop]
      omega
    · exact Nat.zero_le _
  obtain ⟨R, hR⟩ : ∃ R, hearR l s = R := ⟨_, rfl⟩
  rw [hR]
  unfold hearR at hR
  unfold aeV AnsT.v ansV at KS
  generalize cH s = Y at *
  obtain ⟨⟨AX, AE, AL⟩, Y2⟩ := Y
  simp only at hR KS KA hlen
  clear h
  by_cases h1 : Y2 = 0
  case neg =>
    rw [if_pos h1] at hR
    subst hR
    have z1 : (Y2 == 0) = false := beq_eq_false_iff_ne.2 h1
    go_enter Try.func14, Try.ntmps14
    go_upto_region 3 with fail
    rw [← HW1.out]
    generalize w.alloc (.cells (rsC rs0 (.slice none 0 0)).toArray 41) = w1 at *
    have KS1 := Lib.hid (KS.out w1)
    go_upto_region 4 with (first | (go_at_call 55; refine KS1.out.mono ?_; rintro e w2 ⟨rfl, k2⟩) | (refine wpList_st rfl 121 (.tmp 7) (.tmp 17) rfl (new_rs3 _ _ _ _) ?_; simp only [Act.put]))
    have hx2 := extAl w2 (.cells #[.int .i64 AX, .int .i64 AE, .string (str AL)] 121)
    have hb7 := heap_alloc_last w2 (.cells #[.int .i64 AX, .int .i64 AE, .string (str AL)] 121)
    have k02 := Ext.trans (Ext.trans HX.out k2) hx2
    have HX3 := Lib.hid k02
    have HB7 := Lib.hid hb7
    have HB5 := Lib.hid ((Below.block (Ext.trans (a := w1) k2 hx2) _ (heap_lt HB.out)).trans HB.out)
    have hz7 : w.heap.size < w2.heap.size := Nat.lt_of_lt_of_le (heap_lt HB.out) (Below.size k2)
    clear hx2 hb7 k02 k2 KS KS1 HW1 HX HB
    generalize w2.alloc (.cells #[.int .i64 AX, .int .i64 AE, .string (str AL)] 121) = w3 at *
    generalize w2.heap.size = g7 at *
    have hs5 := storeRsZ (HB5.out)
    have HS := Lib.hid hs5
    have HF := Lib.hid (setRow_heap w3 w.heap.size _ (rsC rs0 (.slice none 0 0)).toArray _ _ (HB5.out))
    have HE : Hid (Ext w (w3.setRow w.heap.size (rsC rs0 (.slice none 0 0)).toArray)) := Lib.hid (below_setRow (HX3.out) (Nat.le_refl _) _)
    have FF := Lib.hid (To.of_ext hh.out HE.out)
    clear hs5 HE
    go_wp2_with (refine wpList_st rfl 41 (.tmp 5) (.tmp 21) rfl HS.out ?_; simp only [Act.put])
    (try simp only [Exit.inBlock, Exit.then])
    exact bodyPost_ret (results_tct Try.results14 _ _ _ _ _ _ _ rfl HF.out Try.underlying41 rfl (by kernel_rfl)) rfl ⟨.slice none 0 0, rfl, OwnR.nil, FF.out⟩
  subst h1
  rw [if_neg (by simp)] at hR
  rcases ixC_cases l AX with ⟨e1, -⟩ | ⟨i, o, e1, ho, -, hi⟩
  · have hR' : R = ⟨0, rs0, 5, l⟩ := by
      rw [← hR, e1]
      split
      · rfl
      · rw [if_pos (by decide)]
    subst hR'
    rw [e1] at KA
    clear hR e1
    go_enter Try.func14, Try.ntmps14
    go_upto_region 3 with fail
    rw [← HW1.out]
    generalize w.alloc (.cells (rsC rs0 (.slice none 0 0)).toArray 41) = w1 at *
    have KS1 := Lib.hid (KS.out w1)
    go_upto_region 4 with (first | (go_at_call 55; refine KS1.out.mono ?_; rintro e w2 ⟨rfl, k2⟩) | (refine wpList_st rfl 121 (.tmp 7) (.tmp 17) rfl (new_rs3 _ _ _ _) ?_; simp only [Act.put]))
    have hx2 := extAl w2 (.cells #[.int .i64 AX, .int .i64 AE, .string (str AL)] 121)
    have hb7 := heap_alloc_last w2 (.cells #[.int .i64 AX, .int .i64 AE, .string (str AL)] 121)
    have k02 := Ext.trans (Ext.trans HX.out k2) hx2
    have HX3 := Lib.hid k02
    have HB7 := Lib.hid hb7
    have HB5 := Lib.hid ((Below.block (Ext.trans (a := w1) k2 hx2) _ (heap_lt HB.out)).trans HB.out)
    have hz7 : w.heap.size < w2.heap.size := Nat.lt_of_lt_of_le (heap_lt HB.out) (Below.size k2)
    clear hx2 hb7 k02 k2 KS KS1 HW1 HX HB
    generalize w2.alloc (.cells #[.int .i64 AX, .int .i64 AE, .string (str AL)] 121) = w3 at *
    generalize w2.heap.size = g7 at *
    obtain ⟨d0, d1, d2, -, dl⟩ := nt_c2 (l := []) HB7.out
    have KA3 := Lib.hid (KA.out w3 HX3.out)
    go_wp2_with fail
    refine KA3.out.mono ?_
    rintro e w4 ⟨rfl, k4⟩
    have HX4 := Lib.hid (Ext.trans HX3.out k4)
    have HB74 := Lib.hid ((Below.block k4 _ dl).trans HB7.out)
    have HB54 := Lib.hid ((Below.block k4 _ (heap_lt HB5.out)).trans HB5.out)
    clear d0 d1 d2 dl KA KA3 k4 HB7 HB5 HX3
    have hs5 := storeRsZ (HB54.out)
    have HS := Lib.hid hs5
    have HF := Lib.hid (setRow_heap w4 w.heap.size _ (rsC rs0 (.slice none 0 0)).toArray _ _ (HB54.out))
    have HE : Hid (Ext w (w4.setRow w.heap.size (rsC rs0 (.slice none 0 0)).toArray)) := Lib.hid (below_setRow (HX4.out) (Nat.le_refl _) _)
    have FF := Lib.hid (To.of_ext hh.out HE.out)
    clear hs5 HE
    go_wp2_with (refine wpList_st rfl 41 (.tmp 5) (.tmp 29) rfl HS.out ?_; simp only [Act.put])
    (try simp only [Exit.inBlock, Exit.then])
    exact bodyPost_ret (results_tct Try.results14 _ _ _ _ _ _ _ rfl HF.out Try.underlying41 rfl (by kernel_rfl)) rfl ⟨.slice none 0 0, rfl, OwnR.nil, FF.out⟩
  rw [e1, Int.toNat_natCast, ho] at hR
  simp only at hR
  rw [if_neg (by omega)] at hR
  have hop := hpo o (List.mem_of_getElem? ho)
  have KC := Lib.hid (fun (w' : World) (k : Ext w w') => cliCut_row w' ((clO g N L l).ext HT.out k) ho (by omega))
  have HLE : Hid ((l.eraseIdx i).length = l.length - 1) := Lib.hid (by rw [List.length_eraseIdx, if_pos hi])
  rw [e1] at KA
  unfold hearB at hR
  simp only at hR
  have hi0 : ¬ ((i : Int) < 0) := by omega
  by_cases hE : AE = 0
  case neg =>
    rw [if_neg hE] at hR
    subst hR
    have z1 : (AE == 0) = false := beq_eq_false_iff_ne.2 hE
    go_enter Try.func14, Try.ntmps14
    go_upto_region 3 with fail
    rw [← HW1.out]
    generalize w.alloc (.cells (rsC rs0 (.slice none 0 0)).toArray 41) = w1 at *
    have KS1 := Lib.hid (KS.out w1)
    go_upto_region 4 with (first | (go_at_call 55; refine KS1.out.mono ?_; rintro e w2 ⟨rfl, k2⟩) | (refine wpList_st rfl 121 (.tmp 7) (.tmp 17) rfl (new_rs3 _ _ _ _) ?_; simp only [Act.put]))
    have hx2 := extAl w2 (.cells #[.int .i64 AX, .int .i64 AE, .string (str AL)] 121)
    have hb7 := heap_alloc_last w2 (.cells #[.int .i64 AX, .int .i64 AE, .string (str AL)] 121)
    have k02 := Ext.trans (Ext.trans HX.out k2) hx2
    have HX3 := Lib.hid k02
    have HB7 := Lib.hid hb7
    have HB5 := Lib.hid ((Below.block (Ext.trans (a := w1) k2 hx2) _ (heap_lt HB.out)).trans HB.out)
    have hz7 : w.heap.size < w2.heap.size := Nat.lt_of_lt_of_le (heap_lt HB.out) (Below.size k2)
    clear hx2 hb7 k02 k2 KS KS1 HW1 HX HB
    generalize w2.alloc (.cells #[.int .i64 AX, .int .i64 AE, .string (str AL)] 121) = w3 at *
    generalize w2.heap.size = g7 at *
    obtain ⟨d0, d1, d2, -, dl⟩ := nt_c2 (l := []) HB7.out
    have KA3 := Lib.hid (KA.out w3 HX3.out)
    go_wp2_with fail
    refine KA3.out.mono ?_
    rintro e w4 ⟨rfl, k4⟩
    have HX4 := Lib.hid (Ext.trans HX3.out k4)
    have HB74 := Lib.hid ((Below.block k4 _ dl).trans HB7.out)
    have HB54 := Lib.hid ((Below.block k4 _ (heap_lt HB5.out)).trans HB5.out)
    clear d0 d1 d2 dl KA KA3 k4 HB7 HB5 HX3
    obtain ⟨d0, d1, d2, -, dl⟩ := nt_c2 (l := []) HB74.out
    have HNE := Lib.hid (new_rsE w4 AE)
    have hxA := extAl w4 (.cells (rsC { rs0 with e := AE } (.slice none 0 0)).toArray 41)
    have HXA := Lib.hid (Ext.trans HX4.out hxA)
    have HBA := Lib.hid (heap_alloc_last w4 (.cells (rsC { rs0 with e := AE } (.slice none 0 0)).toArray 41))
    have HB7A := Lib.hid ((Below.block hxA _ (heap_lt HB74.out)).trans HB74.out)
    have HB5A := Lib.hid ((Below.block hxA _ (heap_lt HB54.out)).trans HB54.out)
    have hz10 : w.heap.size < w4.heap.size := heap_lt HB54.out
    go_upto_region 10 with (refine wpList_st rfl 41 (.tmp 10) (.tmp 32) rfl HNE.out ?_; simp only [Act.put]; clear HNE)
    clear d0 d1 d2 dl hxA HX4 HB74 HB54
    generalize w4.alloc (.cells (rsC { rs0 with e := AE } (.slice none 0 0)).toArray 41) = wA at *
    generalize w4.heap.size = g10 at *
    obtain ⟨d0, d1, d2, -, dl⟩ := nt_c2 (l := []) HB7A.out
    have HEN0 : Hid (EnO wA w.heap.size (.slice none 0 0) []) := Lib.hid OwnR.nil
    have KC8 := Lib.hid (KC.out wA (HXA.out))
    go_upto_region 15 with (go_at_call 56; refine KC8.out.mono ?_; rintro e w9 ⟨rfl, k9⟩)
    have HB79 := Lib.hid ((k9.2.block g7 (heap_lt (HB7A.out)) (fun ⟨_, o', ho', _⟩ => by have := heap_lt ho'; omega)).trans (HB7A.out))
    have HB59 := Lib.hid ((k9.2.block w.heap.size (heap_lt (HB5A.out)) (fun ⟨_, o', ho', _⟩ => by have := heap_lt ho'; omega)).trans (HB5A.out))
    have HBA9 := Lib.hid ((k9.2.block g10 (heap_lt (HBA.out)) (fun ⟨_, o', ho', _⟩ => by have := heap_lt ho'; omega)).trans (HBA.out))
    have HEN9 := Lib.hid (OwnR.mutO (HEN0.out) k9.2 (fun b hb ⟨_, o', ho', _⟩ => by have h1 := heap_lt ho'; have h2 := own_lt (HEN0.out) hb; omega))
    have K9 := Lib.hid k9
    have HX8 := Lib.hid (HXA.out)
    have hz8 := heap_lt (HB5A.out)
    clear k9 KC KC8
    obtain ⟨d0, -, -, -, dl⟩ := nt_c2 (l := []) HB79.out
    have q0 := fun (ψ : World → Prop) (e : ExtP w9.heap.size w9 ψ) => e.cell d0 dl
    have hla := heap_lt HBA9.out
    have LB := Lib.hid fun (w' : World) (k : Ext w9 w') => ldRs ((Below.block k g10 hla).trans HBA9.out)
    clear d0
    refine wp_region_pieces 4  [(true, [0, 1, 2, 3])] (by kernel_rfl) (by kernel_rfl) ?_; simp only [pick, List.map_cons, List.map_nil, List.flatMap_cons, List.flatMap_nil, Option.toList_some, List.singleton_append, List.drop_succ_cons, List.drop_zero, List.getElem?_cons_zero, List.getElem?_cons_succ]
    refine ⟨by kernel_rfl, ?_⟩; apply Exists.intro; refine ⟨fun ψ hψ hne => ?_, ?_⟩
    · iterate 2 (go_big_quiet_step (fail))
      go_big_quiet_want; refine quiet_ld 41 (.tmp 10) rfl (fun w' hw' => LB.out w' (by obtain ⟨e, rfl⟩ := hw'; exact e.ok)) ?_; go_simp; go_big_quiet_on
      go_big_quiet_step (fail)
      exact wpQuiet_nil rfl
    intro wz hz
    have hb5z := (Below.block hz _ (heap_lt HB59.out)).trans HB59.out
    have hs5 := storeRs (y := ({ rs0 with e := AE } : RsT)) (A := none) (n := 0) (c := 0) hb5z
    have HS := Lib.hid hs5
    have HF := Lib.hid (setRow_heap wz w.heap.size _ (rsC (({ rs0 with e := AE } : RsT)) (.slice none 0 0)).toArray _ _ hb5z)
    have hF : To S w (wz.setRow w.heap.size (rsC (({ rs0 with e := AE } : RsT)) (.slice none 0 0)).toArray) (clO g N L (l.eraseIdx i)) := by
      have h1 := To.beside (To.then_ext K9.out hz) HX8.out trim_lt (Nat.le_refl _) hz8 (mut_setRow (S := fun j => j = w.heap.size) rfl (rsC (({ rs0 with e := AE } : RsT)) (.slice none 0 0)).toArray)
      show To S w _ (ntOb _ _ _ [] g (l.eraseIdx i).length _)
      rw [HLE.out]
      exact h1
    have FF := Lib.hid hF
    have HEN : Hid (EnO (wz.setRow w.heap.size (rsC (({ rs0 with e := AE } : RsT)) (.slice none 0 0)).toArray) w.heap.size (.slice none 0 0) (({ rs0 with e := AE } : RsT)).ents) := Lib.hid ((HEN9.out.ext hz).set hb5z (by decide))
    clear hs5 hb5z hF hz q0 LB
    go_wp2_with (refine wpList_st rfl 41 (.tmp 5) (.tmp 62) rfl HS.out ?_; simp only [Act.put])
    (try simp only [Exit.inBlock, Exit.then])
    exact bodyPost_ret (results_tct Try.results14 _ _ _ _ _ _ _ rfl HF.out Try.underlying41 rfl (by kernel_rfl)) rfl ⟨_, rfl, HEN.out, FF.out⟩
  subst hE
  rw [if_pos rfl] at hR
  obtain ⟨v, hnt⟩ := hh.out
  obtain ⟨A, c, rfl⟩ := hnt.row.form
  obtain ⟨gs, rfl, -, hsl, hnc, -⟩ := hnt.row.cells (by omega)
  have hnc' := hnc (by decide)
  have Z1 := Lib.hid (RR.cellAt (enc := clC) (hnt.row.rr (by decide)) clC_len ho (i := 1) rfl)
  obtain ⟨m, hm⟩ : ∃ m, l.length = m := ⟨_, rfl⟩
  have HG : Hid (w.heap[g]? = some (.cells #[.int .i64 N, .int .i64 L, .slice (some ⟨gs, 0, none⟩) m c] 112 (0, 0))) := Lib.hid (by rw [← hm]; exact hnt.hg)
  rw [hm] at hi hnc'
  have KH := Lib.hid (fun w' : World => aHear_any o.p AL w' hop (by omega))
  generalize aH o.p AL = Z at *
  obtain ⟨X, EX⟩ := Z
  simp only at hR
  obtain ⟨op, hopx⟩ : ∃ z, o.p = z := ⟨_, rfl⟩
  rw [hopx] at Z1 KH
  have hz1 : (0 : Int) = 0 := rfl
  clear hnt hnc hm hpo hop hopx ho e1 hlen hn hz1
  go_enter Try.func14, Try.ntmps14
  go_upto_region 3 with fail
  rw [← HW1.out]
  generalize w.alloc (.cells (rsC rs0 (.slice none 0 0)).toArray 41) = w1 at *
  have KS1 := Lib.hid (KS.out w1)
  go_upto_region 4 with (first | (go_at_call 55; refine KS1.out.mono ?_; rintro e w2 ⟨rfl, k2⟩) | (refine wpList_st rfl 121 (.tmp 7) (.tmp 17) rfl (new_rs3 _ _ _ _) ?_; simp only [Act.put]))
  have hx2 := extAl w2 (.cells #[.int .i64 AX, .int .i64 0, .string (str AL)] 121)
  have hb7 := heap_alloc_last w2 (.cells #[.int .i64 AX, .int .i64 0, .string (str AL)] 121)
  have k02 := Ext.trans (Ext.trans HX.out k2) hx2
  have HX3 := Lib.hid k02
  have HB7 := Lib.hid hb7
  have HB5 := Lib.hid ((Below.block (Ext.trans (a := w1) k2 hx2) _ (heap_lt HB.out)).trans HB.out)
  have hz7 : w.heap.size < w2.heap.size := Nat.lt_of_lt_of_le (heap_lt HB.out) (Below.size k2)
  clear hx2 hb7 k02 k2 KS KS1 HW1 HX HB
  generalize w2.alloc (.cells #[.int .i64 AX, .int .i64 0, .string (str AL)] 121) = w3 at *
  generalize w2.heap.size = g7 at *
  obtain ⟨d0, d1, d2, -, dl⟩ := nt_c2 (l := []) HB7.out
  have KA3 := Lib.hid (KA.out w3 HX3.out)
  go_wp2_with fail
  refine KA3.out.mono ?_
  rintro e w4 ⟨rfl, k4⟩
  have HX4 := Lib.hid (Ext.trans HX3.out k4)
  have HB74 := Lib.hid ((Below.block k4 _ dl).trans HB7.out)
  have HB54 := Lib.hid ((Below.block k4 _ (heap_lt HB5.out)).trans HB5.out)
  clear d0 d1 d2 dl KA KA3 k4 HB7 HB5 HX3
  obtain ⟨d0, d1, d2, -, dl⟩ := nt_c2 (l := []) HB74.out
  have HNE := Lib.hid (new_rsE w4 0)
  have hxA := extAl w4 (.cells (rsC { rs0 with e := 0 } (.slice none 0 0)).toArray 41)
  have HXA := Lib.hid (Ext.trans HX4.out hxA)
  have HBA := Lib.hid (heap_alloc_last w4 (.cells (rsC { rs0 with e := 0 } (.slice none 0 0)).toArray 41))
  have HB7A := Lib.hid ((Below.block hxA _ (heap_lt HB74.out)).trans HB74.out)
  have HB5A := Lib.hid ((Below.block hxA _ (heap_lt HB54.out)).trans HB54.out)
  have hz10 : w.heap.size < w4.heap.size := heap_lt HB54.out
  go_upto_region 10 with (refine wpList_st rfl 41 (.tmp 10) (.tmp 32) rfl HNE.out ?_; simp only [Act.put]; clear HNE)
  clear d0 d1 d2 dl hxA HX4 HB74 HB54
  generalize w4.alloc (.cells (rsC { rs0 with e := 0 } (.slice none 0 0)).toArray 41) = wA at *
  generalize w4.heap.size = g10 at *
  obtain ⟨d0, d1, d2, -, dl⟩ := nt_c2 (l := []) HB7A.out
  have glt : g < wA.heap.size := Nat.lt_of_lt_of_le (heap_lt HG.out) (Below.size HXA.out)
  obtain ⟨-, -, cr, -, -⟩ := nt_c2 (l := []) ((Below.block HXA.out g (heap_lt HG.out)).trans HG.out)
  have y1 := (Below.cell (p := ⟨gs, 0 + (i * 3 + 1), none⟩) HXA.out hsl).trans Z1.out
  simp only [Nat.zero_add] at y1
  have hsA : gs < wA.heap.size := Nat.lt_of_lt_of_le hsl (Below.size HXA.out)
  go_upto_region 11 with fail
  obtain ⟨So, HSo⟩ : ∃ So : Nat → Prop, Hid (So = fun j => j = g10) := ⟨_, Lib.hid rfl⟩
  have hne7 : g7 ≠ g10 := fun e => by subst e; have h1 := HBA.out; rw [HB7A.out] at h1; simp at h1
  have hn7 : ¬ So g7 := by rw [HSo.out]; exact hne7
  have hng : ¬ So g := by rw [HSo.out]; exact fun e => by have := heap_lt HG.out; omega
  have hngs : ¬ So gs := by rw [HSo.out]; exact fun e => by omega
  have q0 : ∀ (ψ : World → Prop) (e : ExtS So wA ψ), e.val.cell? ⟨g7, 2, none⟩ = _ := fun ψ e => e.cell d2 dl hn7
  have q1 : ∀ (ψ : World → Prop) (e : ExtS So wA ψ), e.val.cell? ⟨g, 2, none⟩ = _ := fun ψ e => e.cell cr glt hng
  have q2 : ∀ (ψ : World → Prop) (e : ExtS So wA ψ), e.val.cell? ⟨gs, i * 3 + 1, none⟩ = _ := fun ψ e => e.cell y1 hsA hngs
  clear d0 d1 d2 cr y1
  refine wp_region_piecesS So 16 [(true, [0, 1, 2, 3, 4, 5, 6, 7, 8, 9, 10]), (false, [11]), (true, [12, 13, 14]), (false, [15])] (by kernel_rfl) (by kernel_rfl) ?_
  simp only [pick, List.map_cons, List.map_nil, List.flatMap_cons, List.flatMap_nil, Option.toList_some, List.singleton_append, List.drop_succ_cons, List.drop_zero, List.getElem?_cons_zero, List.getElem?_cons_succ]
  refine ⟨by kernel_rfl, ?_⟩; apply Exists.intro; refine ⟨fun ψ hψ hne => (by (repeat (go_big_quiet_step (( fail )))); exact wpQuiet_nil rfl), ?_⟩
  clear q0 q1 q2
  intro wb hb K hK
  go_wp2_with (go_at_call 35; refine (KH.out _).mono ?_; rintro e w5 ⟨rv, rfl, ho5, k5⟩)
  refine hK _ _ (Mut.of_ext k5) ?_
  clear hK K KH
  refine ⟨by kernel_rfl, ?_⟩; apply Exists.intro; refine ⟨fun ψ hψ hne => (by (repeat (go_big_quiet_step (( fail )))); exact wpQuiet_nil rfl), ?_⟩
  intro w6 h6 K hK
  obtain ⟨A5, c5, rfl⟩ := ho5.form
  have hx6 : Ext wA w6 := Ext.trans (Ext.trans (a := wA) hb k5) h6
  have hb10 := (Below.block hx6 _ (heap_lt HBA.out)).trans HBA.out
  have hs10 := storeRs (y := X) (A := A5) (n := X.ents.length) (c := c5) hb10
  have HS10 := Lib.hid hs10
  have HMS : Hid (Mut So w6 (w6.setRow g10 (rsC X (.slice A5 X.ents.length c5)).toArray)) := Lib.hid (mut_setRow (by rw [HSo.out]) _)
  have hz6 : w.heap.size ≤ wb.heap.size := Nat.le_trans (Below.size HXA.out) (Below.size hb)
  have HEN8 : Hid (EnO (w6.setRow g10 (rsC X (.slice A5 X.ents.length c5)).toArray) w.heap.size (.slice A5 X.ents.length c5) X.ents) := Lib.hid (((ho5.ext h6).mono hz6).set hb10 (by decide))
  have HX8 : Hid (Ext w (w6.setRow g10 (rsC X (.slice A5 X.ents.length c5)).toArray)) := Lib.hid (below_setRow (Ext.trans HXA.out hx6) (by omega) _)
  have HBA8 := Lib.hid (setRow_heap w6 g10 _ (rsC X (.slice A5 X.ents.length c5)).toArray _ _ hb10)
  have HB78 := Lib.hid ((setRow_other w6 g10 g7 (rsC X (.slice A5 X.ents.length c5)).toArray hne7).trans ((Below.block hx6 _ (heap_lt HB7A.out)).trans HB7A.out))
  have HB58 := Lib.hid ((setRow_other w6 g10 w.heap.size (rsC X (.slice A5 X.ents.length c5)).toArray (by omega)).trans ((Below.block hx6 _ (heap_lt HB5A.out)).trans HB5A.out))
  go_wp2_with (refine wpList_st rfl 41 (.tmp 10) (.tmp 49) rfl HS10.out ?_; simp only [Act.put])
  refine hK _ _ HMS.out ?_
  clear hs10 hb10 hx6 h6 k5 ho5 hb HXA HBA HB7A HB5A hK K HS10 HMS
  generalize w6.setRow g10 (rsC X (.slice A5 X.ents.length c5)).toArray = w8 at *
  (try simp only [List.setIfInBounds_toArray, List.set_cons_zero, List.set_cons_succ])
  intro w7 h7
  have HX7 := Lib.hid (Ext.trans HX8.out h7)
  have HEN7 := Lib.hid (HEN8.out.ext h7)
  have HBA7 := Lib.hid (Ext.blk h7 HBA8.out)
  have HB77 := Lib.hid (Ext.blk h7 HB78.out)
  have HB57 := Lib.hid (Ext.blk h7 HB58.out)
  clear h7 HX8 HEN8 HBA8 HB78 HB58
  by_cases hz : EX = 0
  · subst hz
    rw [if_pos rfl] at hR
    subst hR
    have KC8 := Lib.hid (KC.out w7 (HX7.out))
    go_upto_region 15 with (go_at_call 56; refine KC8.out.mono ?_; rintro e w9 ⟨rfl, k9⟩)
    have HB79 := Lib.hid ((k9.2.block g7 (heap_lt (HB77.out)) (fun ⟨_, o', ho', _⟩ => by have := heap_lt ho'; omega)).trans (HB77.out))
    have HB59 := Lib.hid ((k9.2.block w.heap.size (heap_lt (HB57.out)) (fun ⟨_, o', ho', _⟩ => by have := heap_lt ho'; omega)).trans (HB57.out))
    have HBA9 := Lib.hid ((k9.2.block g10 (heap_lt (HBA7.out)) (fun ⟨_, o', ho', _⟩ => by have := heap_lt ho'; omega)).trans (HBA7.out))
    have HEN9 := Lib.hid (OwnR.mutO (HEN7.out) k9.2 (fun b hb ⟨_, o', ho', _⟩ => by have h1 := heap_lt ho'; have h2 := own_lt (HEN7.out) hb; omega))
    have K9 := Lib.hid k9
    have HX8 := Lib.hid (HX7.out)
    have hz8 := heap_lt (HB57.out)
    clear k9 KC KC8
    obtain ⟨d0, -, -, -, dl⟩ := nt_c2 (l := []) HB79.out
    have q0 := fun (ψ : World → Prop) (e : ExtP w9.heap.size w9 ψ) => e.cell d0 dl
    have hla := heap_lt HBA9.out
    have LB := Lib.hid fun (w' : World) (k : Ext w9 w') => ldRs ((Below.block k g10 hla).trans HBA9.out)
    clear d0
    refine wp_region_pieces 4  [(true, [0, 1, 2, 3])] (by kernel_rfl) (by kernel_rfl) ?_; simp only [pick, List.map_cons, List.map_nil, List.flatMap_cons, List.flatMap_nil, Option.toList_some, List.singleton_append, List.drop_succ_cons, List.drop_zero, List.getElem?_cons_zero, List.getElem?_cons_succ]
    refine ⟨by kernel_rfl, ?_⟩; apply Exists.intro; refine ⟨fun ψ hψ hne => ?_, ?_⟩
    · iterate 2 (go_big_quiet_step (fail))
      go_big_quiet_want; refine quiet_ld 41 (.tmp 10) rfl (fun w' hw' => LB.out w' (by obtain ⟨e, rfl⟩ := hw'; exact e.ok)) ?_; go_simp; go_big_quiet_on
      go_big_quiet_step (fail)
      exact wpQuiet_nil rfl
    intro wz hz
    have hb5z := (Below.block hz _ (heap_lt HB59.out)).trans HB59.out
    have hs5 := storeRs (y := X) (A := A5) (n := X.ents.length) (c := c5) hb5z
    have HS := Lib.hid hs5
    have HF := Lib.hid (setRow_heap wz w.heap.size _ (rsC (X) (.slice A5 X.ents.length c5)).toArray _ _ hb5z)
    have hF : To S w (wz.setRow w.heap.size (rsC (X) (.slice A5 X.ents.length c5)).toArray) (clO g N L (l.eraseIdx i)) := by
      have h1 := To.beside (To.then_ext K9.out hz) HX8.out trim_lt (Nat.le_refl _) hz8 (mut_setRow (S := fun j => j = w.heap.size) rfl (rsC (X) (.slice A5 X.ents.length c5)).toArray)
      show To S w _ (ntOb _ _ _ [] g (l.eraseIdx i).length _)
      rw [HLE.out]
      exact h1
    have FF := Lib.hid hF
    have HEN : Hid (EnO (wz.setRow w.heap.size (rsC (X) (.slice A5 X.ents.length c5)).toArray) w.heap.size (.slice A5 X.ents.length c5) (X).ents) := Lib.hid ((HEN9.out.ext hz).set hb5z (by decide))
    clear hs5 hb5z hF hz q0 LB
    go_wp2_with (refine wpList_st rfl 41 (.tmp 5) (.tmp 62) rfl HS.out ?_; simp only [Act.put])
    (try simp only [Exit.inBlock, Exit.then])
    exact bodyPost_ret (results_tct Try.results14 _ _ _ _ _ _ _ rfl HF.out Try.underlying41 rfl (by kernel_rfl)) rfl ⟨_, rfl, HEN.out, FF.out⟩
  · rw [if_neg hz] at hR
    subst hR
    have z1 : (EX == 0) = false := beq_eq_false_iff_ne.2 hz
    have hs5 := storeRsZ (HB57.out)
    have HS := Lib.hid hs5
    have HF := Lib.hid (setRow_heap w7 w.heap.size _ (rsC rs0 (.slice none 0 0)).toArray _ _ (HB57.out))
    have HE : Hid (Ext w (w7.setRow w.heap.size (rsC rs0 (.slice none 0 0)).toArray)) := Lib.hid (below_setRow (HX7.out) (Nat.le_refl _) _)
    have FF := Lib.hid (To.of_ext hh.out HE.out)
    clear hs5 HE
    go_wp2_with (refine wpList_st rfl 41 (.tmp 5) (.tmp 53) rfl HS.out ?_; simp only [Act.put])
    (try simp only [Exit.inBlock, Exit.then])
    exact bodyPost_ret (results_tct Try.results14 _ _ _ _ _ _ _ rfl HF.out Try.underlying41 rfl (by kernel_rfl)) rfl ⟨.slice none 0 0, rfl, OwnR.nil, FF.out⟩
end

section
set_option linter.unusedVariables false
set_option maxRecDepth 100000
open Go.RowKit

theorem OwnR.toC {w : World} {B : Nat} {T : TypeId} {sz n : Nat} {C C' : Value → Prop} {v : Value} {cs : List Value} (h : OwnR w B T sz C v n cs) (k : ∀ u, C u → C' u) : OwnR w B T sz C' v n cs := by
  obtain ⟨h0, h1 | ⟨g, c, junk, hv, hB, hg, hc, ho⟩⟩ := h
  · exact ⟨h0, .inl h1⟩
  · exact ⟨h0, .inr ⟨g, c, junk, hv, hB, hg, hc, fun u hu => k u (ho u hu)⟩⟩
theorem own_nt {w : World} {B b : Nat} {T T1 E : TypeId} {sz n : Nat} {v : Value} {cs : List Value} (h : OwnR w B T sz One v n cs) (hb : v.ownBlock = some b) (h1 : T ≠ T1) (h2 : T ≠ E) : ∃ o, w.heap[b]? = some o ∧ ownK T o ∧ ¬ ntK T1 E o := by
  obtain ⟨cs', hc⟩ := ownR_blk h hb
  exact ⟨_, hc, rfl, fun hk => hk.elim (fun e => h1 e) fun e => h2 e⟩
section
variable {W w : World} {ds : List (Ob Z0)} {g : Nat} {N L : Int} {l : List Cl}
theorem cNewO_yes (h : OSt W ds w) (n : Int) (hn : ¬ (n < 1 ∨ 16 < n)) : Calls Try.prog 19 #[.int .i64 n] w fun e w' => ∃ g, e = .returned (.tuple #[.pointer (some ⟨g, 0, none⟩), .int .i64 0]) ∧ OSt W (clO g n 0 [] :: ds) w' :=
  (newClient_yes n hn w).mono fun e w' ⟨g, he, hi, hx⟩ => ⟨g, he, h.pushN hx hi⟩
theorem cNewO_no (h : OSt W ds w) (n : Int) (hn : n < 1 ∨ 16 < n) : Calls Try.prog 19 #[.int .i64 n] w fun e w' => e = .returned (.tuple #[.pointer none, .int .i64 1]) ∧ OSt W ds w' :=
  (newClient_no n hn w).mono fun e w' ⟨he, hx⟩ => ⟨he, h.ext hx⟩
theorem cCallO (i : Nat) (h : OSt W ds w) (hi : ds[i]? = some (clO g N L l)) (p : Int) (a : AgT) (hn : l.length ≤ 1000) (hp : I64 p) (hk : a.Ok) (hL : 0 ≤ L ∧ L ≤ 1000000) :
    Calls Try.prog 12 #[.pointer (some ⟨g, 0, none⟩), .int .i64 p, .agg (agC a).toArray] w fun e w' => e = .returned (.tuple #[.string (str (callR N L l p a).r.1), .int .i64 (callR N L l p a).r.2]) ∧ OSt W (ds.set i (clO g N (callR N L l p a).L (callR N L l p a).l)) w' := by
  obtain ⟨S, h1, _, h3, _⟩ := h.pick hi
  exact (cliCall_any p a w h1 hn hp hk hL).mono fun e w' ⟨he, hT⟩ => ⟨he, h3 w' _ hT⟩
theorem cAgainO (i : Nat) (h : OSt W ds w) (hi : ds[i]? = some (clO g N L l)) (n : Int) (hn : l.length ≤ 1000) :
    Calls Try.prog 13 #[.pointer (some ⟨g, 0, none⟩), .int .i64 n] w fun e w' => e = .returned (.tuple #[.string (str (againR l n).1), .int .i64 (againR l n).2]) ∧ OSt W ds w' := by
  obtain ⟨S, h1, _⟩ := h.pick hi
  exact (cliAgain_any n w h1 hn).mono fun e w' ⟨he, hx⟩ => ⟨he, h.ext hx⟩
theorem cHearO (i : Nat) (h : OSt W ds w) (hi : ds[i]? = some (clO g N L l)) (s : List UInt8) (hn : l.length ≤ 1000) (hs : s.length ≤ 10000) (hpo : ∀ o ∈ l, I64 o.p) :
    Calls Try.prog 14 #[.pointer (some ⟨g, 0, none⟩), .string (str s)] w fun e w' => ∃ rv, e = .returned (.tuple #[.int .i64 (hearR l s).n, .agg (rsC (hearR l s).x rv).toArray, .int .i64 (hearR l s).e]) ∧
      OSt W (ownOb 66 3 rv (hearR l s).x.ents.length ((hearR l s).x.ents.flatMap enC) :: ds.set i (clO g N L (hearR l s).l)) w' := by
  obtain ⟨S, h1, _, _, h4⟩ := h.pick hi
  refine (cliHear_any s w h1 hn hs hpo).mono ?_
  rintro e w' ⟨rv, he, ho, hT⟩
  have ho' : OwnR w' w.heap.size 66 3 One rv (hearR l s).x.ents.length ((hearR l s).x.ents.flatMap enC) := OwnR.toC ho fun u hu => hu.2
  exact ⟨rv, he, h4 w' _ (ownOb 66 3 rv (hearR l s).x.ents.length ((hearR l s).x.ents.flatMap enC)) (fun b => rv.ownBlock = some b) hT ⟨ho'.mono (Nat.zero_le _), fun b hb => hb⟩ fun k hk => ⟨(own_lt ho' hk).1, own_nt ho' hk (by decide) (by decide)⟩⟩
theorem cOpenO (i : Nat) (h : OSt W ds w) (hi : ds[i]? = some (clO g N L l)) (hn : l.length ≤ 1000) :
    Calls Try.prog 22 #[.pointer (some ⟨g, 0, none⟩)] w fun e w' => ∃ v, e = .returned v ∧ OSt W (ownOb 3 1 v l.length (ics (l.map (·.x))) :: ds) w' := by
  obtain ⟨S, h1, _⟩ := h.pick hi
  exact (cliOpen_any w h1 hn).mono fun e w' ⟨v, he, ho, hx⟩ => ⟨v, he, h.pushOwn hx ho⟩
theorem cCopyO (i : Nat) (h : OSt W ds w) (hi : ds[i]? = some (clO g N L l)) (hn : l.length ≤ 1000) : Calls Try.prog 23 #[.pointer (some ⟨g, 0, none⟩)] w fun e w' => ∃ g', e = .returned (.pointer (some ⟨g', 0, none⟩)) ∧ OSt W (clO g' N L l :: ds) w' := by
  obtain ⟨S, h1, _⟩ := h.pick hi
  exact (cliCopy_any w h1 hn).mono fun e w' ⟨g', he, hi, hx⟩ => ⟨g', he, h.pushN hx hi⟩
end
end

section
set_option linter.unusedVariables false
set_option maxRecDepth 100000
open Go.RowKit

theorem own_none1 {w : World} {T : TypeId} : Own (w.alloc (.cells #[] T)) w.heap.size T (.slice (some ⟨w.heap.size, 0, none⟩) 0 0) [] 0 :=
  ⟨w.heap.size, [], rfl, Nat.le_refl _, heap_alloc_last w _, rfl⟩
def w4L (ns : List Int) : List UInt8 := ns.flatMap fun n => beN n 4
theorem w4L_length (ns : List Int) : (w4L ns).length = 4 * ns.length := by
  induction ns with
  | nil => rfl
  | cons n ns ih => rw [w4L, List.flatMap_cons, List.length_append, beN_length, List.length_cons]; unfold w4L at ih; omega
set_option maxHeartbeats 4000000 in
theorem nwords_any (ns : List Int) (v : Value) (w : World) (hv : RR w 1 v ns.length (ics ns)) (hl : ns.length ≤ 20) (hb : ∀ n ∈ ns, 0 ≤ n ∧ n ≤ 4294967295) :
    Calls Try.prog 62 #[v] w fun e w' => e = .returned (.string (str (w4L ns))) ∧ Ext w w' := by
  obtain ⟨A, c, rfl⟩ := hv.form
  have HV := Lib.hid hv
  have HBD := Lib.hid hb
  have HI : Hid (OwnZ w w.heap.size 5 (.slice none 0 0) (w4L (ns.take 0)) ∧ Ext w w) := ⟨OwnZ.nil, Ext.refl _⟩
  clear hv hb
  go_enter Try.func62, Try.ntmps62
  go_wp2_with fail
  go_loopw [3, 4] (fun b i wr => ∃ k : Nat, k ≤ ns.length ∧ i = .int .i64 k ∧ Hid (OwnZ wr w.heap.size 5 b (w4L (ns.take k)) ∧ Ext w wr)) (fun _ i _ => ns.length - (intOf i).toNat)
  case atStart => exact ⟨0, by omega, rfl, HI⟩
  case round =>
    obtain ⟨k, hk, rfl, HK⟩ := hrel
    by_cases hlt : k < ns.length
    · obtain ⟨b, off, rfl, hbl, hcc, hj⟩ := (HV.out.ext HK.out.2).at (by omega)
      have hcell : wr.cell? ⟨b, off + k, none⟩ = some (.int .i64 ns[k]) := by
        rw [hj k (by simp [ics]; exact hlt)]; simp [ics]
      clear hj
      have e0 := fun (ψ : World → Prop) (e : ExtP wr.heap.size wr ψ) => e.cell hcell hbl
      clear hcell
      go_wp2_with fail
      refine wp_region_pieces 25  [(true, [0, 1, 2, 3, 4, 5, 6, 7, 8, 9, 10, 11, 12, 13, 14, 15, 16, 17, 18, 19, 20, 21, 22, 23]), (false, [24])] (by kernel_rfl) (by kernel_rfl) ?_; simp only [pick, List.map_cons, List.map_nil, List.flatMap_cons, List.flatMap_nil, Option.toList_some, List.singleton_append, List.drop_succ_cons, List.drop_zero, List.getElem?_cons_zero, List.getElem?_cons_succ]
      refine ⟨by kernel_rfl, ?_⟩; apply Exists.intro; refine ⟨fun ψ hψ hne => (by (repeat (go_big_quiet_step (( fail )))); exact wpQuiet_nil rfl), ?_⟩
      intro wa ha K hK
      have hbd := HBD.out ns[k] (List.getElem_mem _)
      have hq : (#[Value.int .u8 (ns[k] / 16777216 % 256), Value.int .u8 (ns[k] / 65536 % 256), Value.int .u8 (ns[k] / 256 % 256), Value.int .u8 (ns[k] % 256)] : Array Value) = (bvs (beN ns[k] 4)).toArray := by
        simp [bvs, beN, bv_byteOf]
      have HQ := Lib.hid hq
      have BS := heap_alloc_last wa (.cells (bvs (beN ns[k] 4)).toArray 5)
      have Hx := Lib.hid (extAl wa (.cells (bvs (beN ns[k] 4)).toArray 5))
      have Ha := Lib.hid (Ext.trans (a := wr) ha (extAl wa (.cells (bvs (beN ns[k] 4)).toArray 5)))
      clear hq hbd
      go_wp2_with fail
      rw [HQ.out]
      refine hK _ _ Hx.out ?_
      clear hK K ha Hx HQ
      generalize wa.alloc (.cells (bvs (beN ns[k] 4)).toArray 5) = wA at *
      generalize wa.heap.size = g9 at *
      intro wb hb
      have hbs := (Below.block hb g9 (heap_lt BS)).trans BS
      have hsrc := srcS (rs_block (l := beN ns[k] 4) (off := 0) (c := 4) hbs (by simp) (by simp [beN_length]))
      have hxb : Ext wr wb := Ext.trans Ha.out hb
      obtain ⟨v', wc, hr, ho, hbl'⟩ := appZ (ty := 47) (HK.out.1.ext hxb) hsrc (Ext.trans HK.out.2 hxb).size (by rw [w4L_length, beN_length, List.length_take]; omega)
      simp only [beN_length] at hr
      have e4 : w4L (ns.take k) ++ beN ns[k] 4 = w4L (ns.take (k + 1)) := by
        unfold w4L
        rw [List.take_add_one, List.getElem?_eq_getElem hlt, List.flatMap_append]
        simp
      rw [e4] at ho
      have H2 : Hid (OwnZ wc w.heap.size 5 v' (w4L (ns.take (k + 1))) ∧ Ext w wc) := Lib.hid ⟨ho, Below.trans (Ext.trans HK.out.2 hxb) hbl'⟩
      have Hr := Lib.hid hr
      clear hr ho hbl' e4 hsrc hbs hxb hb BS Ha HK
      go_wp2_with (at_builtin; refine wpList_app rfl (.tmp 11) (.tmp 35) 47 47 rfl Hr.out ?_; simp only [Act.put])
      go_roundw
      case rel => exact ⟨k + 1, by omega, by go_num, H2⟩
      case measure => simp [intOf]; omega
    · obtain rfl : k = ns.length := by omega
      obtain ⟨wo, rfl⟩ : ∃ wo : World, wo = wr := ⟨_, rfl⟩
      obtain ⟨ho, hx⟩ := HK.out
      rw [List.take_length] at ho
      have hcv := RS.conv ho.rs Try.underlying47 Try.underlying5 Try.underlying9
      go_wp2_with fail
      go_ret
      exact ⟨rfl, hx⟩
end

section
set_option linter.unusedVariables false
set_option maxRecDepth 100000
open Go.RowKit

section
variable {W w : World} {ds : List (Ob Z0)} {g : Nat} {N L : Int} {l : List Cl} {nl : List Pk}
theorem nPut_k (i : Nat) (h : OSt W ds w) (hi : ds[i]? = some (netO g nl)) (p : Pk) (V : Value) (E : Int) (m : List Pk) (hV : V = .agg (pkC p).toArray) (hE : putE nl p = E) (hm : putN nl p = m) (hn : nl.length ≤ 1000) :
    Calls Try.prog 18 #[.pointer (some ⟨g, 0, none⟩), V] w fun e w' => e = .returned (.int .i64 E) ∧ OSt W (ds.set i (netO g m)) w' := by
  subst hV hE hm
  exact nPutO i h hi p hn
theorem nTake_k (i : Nat) (h : OSt W ds w) (hi : ds[i]? = some (netO g nl)) (a : Int) (V : Value) (E : Int) (m : List Pk) (hV : .agg (pkC (takeN nl a).1).toArray = V) (hE : (takeN nl a).2.1 = E) (hm : (takeN nl a).2.2 = m) (hn : nl.length ≤ 1000) :
    Calls Try.prog 11 #[.pointer (some ⟨g, 0, none⟩), .int .i64 a] w fun e w' => e = .returned (.tuple #[V, .int .i64 E]) ∧ OSt W (ds.set i (netO g m)) w' := by
  subst hV hE hm
  exact nTakeO i h hi a hn
theorem nLose_k (i : Nat) (h : OSt W ds w) (hi : ds[i]? = some (netO g nl)) (a : Int) (E : Int) (m : List Pk) (hE : (takeN nl a).2.1 = E) (hm : (takeN nl a).2.2 = m) (hn : nl.length ≤ 1000) :
    Calls Try.prog 16 #[.pointer (some ⟨g, 0, none⟩), .int .i64 a] w fun e w' => e = .returned (.int .i64 E) ∧ OSt W (ds.set i (netO g m)) w' := by
  subst hE hm
  exact nLoseO i h hi a hn
theorem nDouble_k (i : Nat) (h : OSt W ds w) (hi : ds[i]? = some (netO g nl)) (a : Int) (E : Int) (m : List Pk) (hE : (dblN nl a).1 = E) (hm : (dblN nl a).2 = m) (hn : nl.length ≤ 1000) :
    Calls Try.prog 17 #[.pointer (some ⟨g, 0, none⟩), .int .i64 a] w fun e w' => e = .returned (.int .i64 E) ∧ OSt W (ds.set i (netO g m)) w' := by
  subst hE hm
  exact nDoubleO i h hi a hn
theorem cCall_k (i : Nat) (h : OSt W ds w) (hi : ds[i]? = some (clO g N L l)) (p : Int) (a : AgT) (V : Value) (S : ByteArray) (E L' : Int) (l' : List Cl) (hV : V = .agg (agC a).toArray) (hS : S = str (callR N L l p a).r.1) (hE : (callR N L l p a).r.2 = E) (hL' : (callR N L l p a).L = L') (hl' : (callR N L l p a).l = l') (hn : l.length ≤ 1000) (hp : I64 p) (hk : a.Ok) (hL : 0 ≤ L ∧ L ≤ 1000000) :
    Calls Try.prog 12 #[.pointer (some ⟨g, 0, none⟩), .int .i64 p, V] w fun e w' => e = .returned (.tuple #[.string S, .int .i64 E]) ∧ OSt W (ds.set i (clO g N L' l')) w' := by
  subst hV hS hE hL' hl'
  exact cCallO i h hi p a hn hp hk hL
theorem cAgain_k (i : Nat) (h : OSt W ds w) (hi : ds[i]? = some (clO g N L l)) (n : Int) (S : ByteArray) (E : Int) (hS : S = str (againR l n).1) (hE : (againR l n).2 = E) (hn : l.length ≤ 1000) :
    Calls Try.prog 13 #[.pointer (some ⟨g, 0, none⟩), .int .i64 n] w fun e w' => e = .returned (.tuple #[.string S, .int .i64 E]) ∧ OSt W ds w' := by
  subst hS hE
  exact cAgainO i h hi n hn
theorem cHear_k (i : Nat) (h : OSt W ds w) (hi : ds[i]? = some (clO g N L l)) (s : List UInt8) (S : ByteArray) (n E : Int) (x : RsT) (l' : List Cl) (hS : S = str s) (hnn : (hearR l s).n = n) (hx : (hearR l s).x = x) (hE : (hearR l s).e = E) (hl' : (hearR l s).l = l') (hn : l.length ≤ 1000) (hs : s.length ≤ 10000) (hpo : ∀ o ∈ l, I64 o.p) :
    Calls Try.prog 14 #[.pointer (some ⟨g, 0, none⟩), .string S] w fun e w' => ∃ A c, e = .returned (.tuple #[.int .i64 n, .agg (rsC x (.slice A x.ents.length c)).toArray, .int .i64 E]) ∧
      OSt W (ownOb 66 3 (.slice A x.ents.length c) x.ents.length (x.ents.flatMap enC) :: ds.set i (clO g N L l')) w' := by
  subst hS hnn hx hE hl'
  refine (cHearO i h hi s hn hs hpo).mono ?_
  rintro e w' ⟨rv, he, ho⟩
  obtain ⟨A, c, hf⟩ := (ho.own 0 rfl).form
  rw [hf] at he ho
  exact ⟨A, c, he, ho⟩
theorem nw_e {w : World} (ns : List Int) (S : ByteArray) (m : Nat) (hm : ns.length = m) (hl : ns.length ≤ 20) (hb : ∀ n ∈ ns, 0 ≤ n ∧ n ≤ 4294967295) (hS : S = str (w4L ns)) :
    Calls Try.prog 62 #[.slice (some ⟨w.heap.size, 0, none⟩) m m] (w.alloc (.cells (ns.map (Value.int .i64)).toArray 3)) fun e w' => e = .returned (.string S) ∧ Ext w w' := by
  subst hm hS
  refine (nwords_any ns _ _ ?_ hl hb).mono fun e w' ⟨h1, h2⟩ => ⟨h1, Ext.trans (extAl w _) h2⟩
  refine ⟨by simp [ics], .inr ⟨w.heap.size, 0, ns.length, rfl, by simp, Nat.le_refl _, fun j hj => ?_⟩⟩
  rw [Nat.zero_add, cell_of_row _ _ _ _ _ _ (heap_alloc_last w _), List.getElem?_toArray]
  exact List.getElem?_eq_getElem hj
end
theorem new_rsA (w : World) (x : RsT) (A : Option Addr) (n c : Nat) : (Instr.storeAt 41 (.pointer (some ⟨w.heap.size, 0, none⟩)) (.agg (rsC x (.slice A n c)).toArray)).run Try.prog (w.alloc (.cells #[.int .i64 0, .int .i64 0, .int .i64 0, .int .i64 0, .int .u8 0, .int .i64 0, .int .i64 0, .int .i64 0, .int .i64 0, .int .i64 0, .int .i64 0, .int .i64 0, .string ⟨#[]⟩, .int .i64 0, .int .i64 0, .int .u64 0, .bool false, .slice none 0 0, .int .u64 0] 41)) = .ok () (w.alloc (.cells (rsC x (.slice A n c)).toArray 41)) := by
  have h : (w.alloc (.cells (rsC rs0 (.slice none 0 0)).toArray 41)).heap[w.heap.size]? = some (.cells (rsC rs0 (.slice none 0 0)).toArray 41 (0, 0)) := heap_alloc_last w _
  have := storeRs (y := x) (A := A) (n := n) (c := c) h
  rw [World.setRow_alloc_new] at this
  exact this
theorem ag0_ok : ag0.Ok := by
  constructor <;> (unfold ag0; (try unfold I64); decide)
theorem nz0 {o : Obj} : ¬ Z0 o := fun h => h
def b30a : List UInt8 := w4L [1, 0, 284, 3, 1, 0]
def b30b : List UInt8 := w4L [1, 1, 0, 0]
theorem aw1 : (callR 1 0 [] 0 ag0).r = (b30a, 0) ∧ (callR 1 0 [] 0 ag0).L = 1 ∧ (callR 1 0 [] 0 ag0).l = [⟨1, 0, b30a⟩] := by decide +kernel
theorem aw2 : againR [⟨1, 0, b30a⟩] 1 = (b30a, 0) := by decide +kernel
theorem aw3 : (hearR [⟨1, 0, b30a⟩] b30b).n = 1 ∧ (hearR [⟨1, 0, b30a⟩] b30b).x = rs0 ∧ (hearR [⟨1, 0, b30a⟩] b30b).e = 0 ∧ (hearR [⟨1, 0, b30a⟩] b30b).l = [] := by decide +kernel
theorem aw4 : (hearR [] b30b).n = 0 ∧ (hearR [] b30b).x = rs0 ∧ (hearR [] b30b).e = 5 ∧ (hearR [] b30b).l = [] := by decide +kernel
def pA : Pk := ⟨2, false, [97]⟩
def pB : Pk := ⟨2, false, [98]⟩
def pC : Pk := ⟨2, false, [99]⟩
set_option maxHeartbeats 16000000 in
theorem awake30 (W : World) : Calls Try.prog 24 #[] W fun e w' => e = .returned (.bool true) ∧ Ext W w' := by
  obtain ⟨Sa, HSa⟩ : ∃ S : ByteArray, Hid (S = str b30a) := ⟨_, Lib.hid rfl⟩
  obtain ⟨Sb, HSb⟩ : ∃ S : ByteArray, Hid (S = str b30b) := ⟨_, Lib.hid rfl⟩
  go_enter Try.func24, Try.ntmps24
  go_wp2_with fail
  refine (nNewO (OSt.start W)).mono ?_
  rintro e w1 ⟨g, rfl, h1⟩
  have H1 := Lib.hid h1
  clear h1
  go_wp2_with fail
  refine (cNewO_yes H1.out 1 (by decide)).mono ?_
  rintro e w2 ⟨gc, rfl, h2⟩
  have H2 := Lib.hid h2
  clear h2 H1
  go_wp2_with fail
  have H3 := Lib.hid (H2.out.alloc (.cells #[.string ⟨#[97]⟩, .string ⟨#[98]⟩, .string ⟨#[99]⟩] 9 (0, 0)) nz0)
  clear H2
  generalize w2.alloc (.cells #[.string ⟨#[97]⟩, .string ⟨#[98]⟩, .string ⟨#[99]⟩] 9) = w3 at *
  generalize w2.heap.size = ga at *
  go_loopg [5, 38] 3 (fun gg _ s wr => ∃ (k : Nat) (l : List Pk), l = [pA, pB, pC].take k ∧ k ≤ 3 ∧ 3 - k ≤ gg ∧ s = .int .i64 k ∧ Hid (OSt W [rowOb ga (.cells #[.string ⟨#[97]⟩, .string ⟨#[98]⟩, .string ⟨#[99]⟩] 9 (0, 0)) nz0, clO gc 1 0 [], netO g l] wr))
  case atStart => exact ⟨0, [], rfl, by omega, by omega, rfl, H3⟩
  case round =>
    clear H3
    obtain ⟨k, l, rfl, hk, hg, rfl, H⟩ := hrel
    have hk' : k = 0 ∨ k = 1 ∨ k = 2 ∨ k = 3 := by omega
    rcases hk' with rfl | rfl | rfl | rfl
    · skip
      have KP := Lib.hid (nPut_k 2 H.out rfl pA (.agg #[.int .i64 2, .bool false, .string ⟨#[97]⟩]) 0 [pA] rfl (by decide) (by decide) (by decide))
      obtain ⟨c0, c1, c2, -, gl⟩ := nt_c2 (l := []) (H.out.get 0 rfl)
      clear H
      go_wp2_with fail
      refine KP.out.mono ?_
      rintro e w4 ⟨rfl, h4⟩
      have H4 := Lib.hid h4
      clear h4 KP c0 c1 c2 gl
      go_wp2_with fail
      go_roundg (2)
      case measure => omega
      case rel => exact ⟨1, [pA], rfl, by omega, by omega, rfl, H4⟩
    · skip
      have KP := Lib.hid (nPut_k 2 H.out rfl pB (.agg #[.int .i64 2, .bool false, .string ⟨#[98]⟩]) 0 [pA, pB] rfl (by decide) (by decide) (by decide))
      obtain ⟨c0, c1, c2, -, gl⟩ := nt_c2 (l := []) (H.out.get 0 rfl)
      clear H
      go_wp2_with fail
      refine KP.out.mono ?_
      rintro e w4 ⟨rfl, h4⟩
      have H4 := Lib.hid h4
      clear h4 KP c0 c1 c2 gl
      go_wp2_with fail
      go_roundg (1)
      case measure => omega
      case rel => exact ⟨2, [pA, pB], rfl, by omega, by omega, rfl, H4⟩
    · skip
      have KP := Lib.hid (nPut_k 2 H.out rfl pC (.agg #[.int .i64 2, .bool false, .string ⟨#[99]⟩]) 0 [pA, pB, pC] rfl (by decide) (by decide) (by decide))
      obtain ⟨c0, c1, c2, -, gl⟩ := nt_c2 (l := []) (H.out.get 0 rfl)
      clear H
      go_wp2_with fail
      refine KP.out.mono ?_
      rintro e w4 ⟨rfl, h4⟩
      have H4 := Lib.hid h4
      clear h4 KP c0 c1 c2 gl
      go_wp2_with fail
      go_roundg (0)
      case measure => omega
      case rel => exact ⟨3, [pA, pB, pC], rfl, by omega, by omega, rfl, H4⟩
    · obtain ⟨wo, rfl⟩ : ∃ wo : World, wo = wr := ⟨_, rfl⟩
      have KT := Lib.hid (nTake_k 2 H.out rfl 4 (.agg #[.int .i64 2, .bool false, .string ⟨#[98]⟩]) 0 [pA, pC] (by rw [show (takeN (List.take 3 [pA, pB, pC]) 4).1 = pB by decide +kernel]; rfl) (by decide +kernel) (by decide +kernel) (by decide))
      clear H
      go_wp2_with fail
      refine KT.out.mono ?_
      rintro e w5 ⟨rfl, h5⟩
      have H50 : Hid (OSt W [rowOb ga (.cells #[.string ⟨#[97]⟩, .string ⟨#[98]⟩, .string ⟨#[99]⟩] 9 (0, 0)) nz0, clO gc 1 0 [], netO g [pA, pC]] w5) := Lib.hid h5
      have H5 := Lib.hid (H50.out.alloc (.cells #[.int .i64 2, .bool false, .string ⟨#[98]⟩] 25 (0, 0)) nz0)
      clear h5 KT H50
      go_upto_region 12 with fail
      generalize w5.alloc (.cells #[.int .i64 2, .bool false, .string ⟨#[98]⟩] 25) = w6 at *
      generalize w5.heap.size = gp at *
      go_wp2_with fail
      refine (nDouble_k 3 H5.out rfl 0 0 [pA, pC, pA] (by decide +kernel) (by decide +kernel) (by decide)).mono ?_
      rintro e w7 ⟨rfl, h7⟩
      have H7 : Hid (OSt W [rowOb gp (.cells #[.int .i64 2, .bool false, .string ⟨#[98]⟩] 25 (0, 0)) nz0, rowOb ga (.cells #[.string ⟨#[97]⟩, .string ⟨#[98]⟩, .string ⟨#[99]⟩] 9 (0, 0)) nz0, clO gc 1 0 [], netO g [pA, pC, pA]] w7) := Lib.hid h7
      clear h7 H5
      go_wp2_with fail
      refine (nLose_k 3 H7.out rfl 1 0 [pA, pA] (by decide +kernel) (by decide +kernel) (by decide)).mono ?_
      rintro e w8 ⟨rfl, h8⟩
      have H8 : Hid (OSt W [rowOb gp (.cells #[.int .i64 2, .bool false, .string ⟨#[98]⟩] 25 (0, 0)) nz0, rowOb ga (.cells #[.string ⟨#[97]⟩, .string ⟨#[98]⟩, .string ⟨#[99]⟩] 9 (0, 0)) nz0, clO gc 1 0 [], netO g [pA, pA]] w8) := Lib.hid h8
      clear h8 H7
      go_wp2_with fail
      refine (nRowO 3 H8.out rfl (by decide)).mono ?_
      rintro e w9 ⟨vl, rfl, h9, -⟩
      obtain ⟨Al, cl, hvl⟩ := (h9.own 0 rfl).form
      rw [hvl] at h9 ⊢
      have H9 : Hid (OSt W [ownOb 25 3 (.slice Al 2 cl) 2 (pkcs [pA, pA]), rowOb gp (.cells #[.int .i64 2, .bool false, .string ⟨#[98]⟩] 25 (0, 0)) nz0, rowOb ga (.cells #[.string ⟨#[97]⟩, .string ⟨#[98]⟩, .string ⟨#[99]⟩] 9 (0, 0)) nz0, clO gc 1 0 [], netO g [pA, pA]] w9) := Lib.hid h9
      clear h9 H8 hvl
      go_wp2_with fail
      refine (cCall_k 3 H9.out rfl 0 ag0 (.agg #[.int .i64 0, .int .i64 0, .int .i64 0, .int .i64 0, .int .i64 0, .int .i64 0, .string ⟨#[]⟩, .string ⟨#[]⟩, .string ⟨#[]⟩, .int .i64 0, .int .i64 0, .int .i64 0, .int .i64 0, .int .i64 0, .int .i64 0, .int .u64 0]) Sa 0 1 [⟨1, 0, b30a⟩] rfl (by rw [HSa.out, aw1.1]) (by rw [aw1.1]) aw1.2.1 aw1.2.2 (by decide) ⟨by decide, by decide⟩ ag0_ok (by decide)).mono ?_
      rintro e w10 ⟨rfl, h10⟩
      have H10 : Hid (OSt W [ownOb 25 3 (.slice Al 2 cl) 2 (pkcs [pA, pA]), rowOb gp (.cells #[.int .i64 2, .bool false, .string ⟨#[98]⟩] 25 (0, 0)) nz0, rowOb ga (.cells #[.string ⟨#[97]⟩, .string ⟨#[98]⟩, .string ⟨#[99]⟩] 9 (0, 0)) nz0, clO gc 1 1 [⟨1, 0, b30a⟩], netO g [pA, pA]] w10) := Lib.hid h10
      clear h10 H9
      go_wp2_with fail
      refine (cAgain_k 3 H10.out rfl 1 Sa 0 (by rw [HSa.out, aw2]) (by rw [aw2]) (by decide)).mono ?_
      rintro e w11 ⟨rfl, h11⟩
      have H11 : Hid (OSt W [ownOb 25 3 (.slice Al 2 cl) 2 (pkcs [pA, pA]), rowOb gp (.cells #[.int .i64 2, .bool false, .string ⟨#[98]⟩] 25 (0, 0)) nz0, rowOb ga (.cells #[.string ⟨#[97]⟩, .string ⟨#[98]⟩, .string ⟨#[99]⟩] 9 (0, 0)) nz0, clO gc 1 1 [⟨1, 0, b30a⟩], netO g [pA, pA]] w11) := Lib.hid h11
      clear h11 H10
      go_wp2_with fail
      refine (nw_e [1, 1, 0, 0] Sb 4 rfl (by decide) (by decide) HSb.out).mono ?_
      rintro e w12 ⟨rfl, h12⟩
      have H12 : Hid (OSt W [ownOb 25 3 (.slice Al 2 cl) 2 (pkcs [pA, pA]), rowOb gp (.cells #[.int .i64 2, .bool false, .string ⟨#[98]⟩] 25 (0, 0)) nz0, rowOb ga (.cells #[.string ⟨#[97]⟩, .string ⟨#[98]⟩, .string ⟨#[99]⟩] 9 (0, 0)) nz0, clO gc 1 1 [⟨1, 0, b30a⟩], netO g [pA, pA]] w12) := Lib.hid (H11.out.ext h12)
      clear h12 H11
      go_wp2_with fail
      refine (cHear_k 3 H12.out rfl b30b Sb 1 0 rs0 [] HSb.out aw3.1 aw3.2.1 aw3.2.2.1 aw3.2.2.2 (by decide) (by decide) (by intro o ho; simp at ho; subst ho; exact ⟨by decide, by decide⟩)).mono ?_
      rintro e w13 ⟨A1, c1, rfl, h13⟩
      have H130 : Hid (OSt W [ownOb 66 3 (.slice A1 0 c1) 0 [], ownOb 25 3 (.slice Al 2 cl) 2 (pkcs [pA, pA]), rowOb gp (.cells #[.int .i64 2, .bool false, .string ⟨#[98]⟩] 25 (0, 0)) nz0, rowOb ga (.cells #[.string ⟨#[97]⟩, .string ⟨#[98]⟩, .string ⟨#[99]⟩] 9 (0, 0)) nz0, clO gc 1 1 [], netO g [pA, pA]] w13) := Lib.hid h13
      have H13 := Lib.hid (H130.out.alloc (.cells (rsC rs0 (.slice A1 0 c1)).toArray 41 (0, 0)) nz0)
      have HS13 := Lib.hid (new_rsA w13 rs0 A1 0 c1)
      clear h13 H12 H130
      go_upto_region 18 with (refine wpList_st rfl 41 (.tmp 16) (.tmp 76) rfl HS13.out ?_; simp only [Act.put]; clear HS13)
      generalize w13.alloc (.cells (rsC rs0 (.slice A1 0 c1)).toArray 41) = w14 at *
      generalize w13.heap.size = gr1 at *
      go_wp2_with fail
      refine (nw_e [1, 1, 0, 0] Sb 4 rfl (by decide) (by decide) HSb.out).mono ?_
      rintro e w15 ⟨rfl, h15⟩
      have H15 : Hid (OSt W [rowOb gr1 (.cells (rsC rs0 (.slice A1 0 c1)).toArray 41 (0, 0)) nz0, ownOb 66 3 (.slice A1 0 c1) 0 [], ownOb 25 3 (.slice Al 2 cl) 2 (pkcs [pA, pA]), rowOb gp (.cells #[.int .i64 2, .bool false, .string ⟨#[98]⟩] 25 (0, 0)) nz0, rowOb ga (.cells #[.string ⟨#[97]⟩, .string ⟨#[98]⟩, .string ⟨#[99]⟩] 9 (0, 0)) nz0, clO gc 1 1 [], netO g [pA, pA]] w15) := Lib.hid (H13.out.ext h15)
      clear h15 H13
      go_wp2_with fail
      refine (cHear_k 5 H15.out rfl b30b Sb 0 5 rs0 [] HSb.out aw4.1 aw4.2.1 aw4.2.2.1 aw4.2.2.2 (by decide) (by decide) (by intro o ho; simp at ho)).mono ?_
      rintro e w16 ⟨A2, c2, rfl, h16⟩
      have H160 : Hid (OSt W [ownOb 66 3 (.slice A2 0 c2) 0 [], rowOb gr1 (.cells (rsC rs0 (.slice A1 0 c1)).toArray 41 (0, 0)) nz0, ownOb 66 3 (.slice A1 0 c1) 0 [], ownOb 25 3 (.slice Al 2 cl) 2 (pkcs [pA, pA]), rowOb gp (.cells #[.int .i64 2, .bool false, .string ⟨#[98]⟩] 25 (0, 0)) nz0, rowOb ga (.cells #[.string ⟨#[97]⟩, .string ⟨#[98]⟩, .string ⟨#[99]⟩] 9 (0, 0)) nz0, clO gc 1 1 [], netO g [pA, pA]] w16) := Lib.hid h16
      have H16 := Lib.hid (H160.out.alloc (.cells (rsC rs0 (.slice A2 0 c2)).toArray 41 (0, 0)) nz0)
      have HS16 := Lib.hid (new_rsA w16 rs0 A2 0 c2)
      clear h16 H15 H160
      go_upto_region 19 with (refine wpList_st rfl 41 (.tmp 19) (.tmp 84) rfl HS16.out ?_; simp only [Act.put]; clear HS16)
      generalize w16.alloc (.cells (rsC rs0 (.slice A2 0 c2)).toArray 41) = w17 at *
      generalize w16.heap.size = gr2 at *
      have hpb := H16.out.get 5 rfl
      obtain ⟨-, -, p2, -, pl⟩ := nt_c2 (l := []) hpb
      have hrb := H16.out.get 2 rfl
      obtain ⟨r0, -, rl⟩ := nt_c0 (l := (rsC rs0 (.slice A1 0 c1)).tail) hrb
      have hlo := H16.out.own 4 rfl
      obtain ⟨bl, rfl, -⟩ := hlo.cells (by decide)
      obtain ⟨hbl, hbc, hb0, -⟩ := own_flat hlo pkC_len rfl (k := 0) (x := pA) rfl
      obtain ⟨-, -, hb1, -⟩ := own_flat hlo pkC_len rfl (k := 1) (x := pA) rfl
      have y0 : w17.cell? ⟨bl, 2, none⟩ = some (.string ⟨#[97]⟩) := hb0 2 (by decide)
      have y1 : w17.cell? ⟨bl, 5, none⟩ = some (.string ⟨#[97]⟩) := hb1 2 (by decide)
      have hbc' : 2 ≤ cl := hbc (by decide)
      have r0' : w17.cell? ⟨gr1, 0, none⟩ = some (.int .i64 0) := r0
      clear hpb hrb hlo hb0 hb1 hbc r0
      simp only [List.append_eq, List.cons_append, List.nil_append]
      go_wp2_with (first | (go_at_call 62; go_loud (refine (nw_e [1, 0, 284, 3, 1, 0] Sa 6 rfl (by decide) (by decide) HSa.out).mono ?_; rintro e w18 ⟨rfl, h18⟩; have H18 := Lib.hid (H16.out.ext h18); clear h18 H16 y0 y1 hbl p2 pl r0' rl; obtain ⟨r1, -, rl1⟩ := nt_c0 (l := (rsC rs0 (.slice A1 0 c1)).tail) (H18.out.get 2 rfl); replace r1 : w18.cell? ⟨gr1, 0, none⟩ = some (.int .i64 0) := r1)) | (go_at_call 22; go_loud (refine (cOpenO (l := ([] : List Cl)) 7 H18.out rfl (by decide)).mono ?_; rintro e w19 ⟨vo, rfl, h19⟩; obtain ⟨Ao, co, hvo⟩ := (h19.own 0 rfl).form; rw [hvo] at h19 ⊢; have H19 := Lib.hid h19.bel; clear h19 H18 hvo r1 rl1)))
      go_ret
      exact ⟨rfl, H19.out⟩
end
end Go.Proofs.Yteahlnoonmfjhaa
