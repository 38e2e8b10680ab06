/- Plain law of arguments: what is written is read as it was; what is read is written by just these bytes. -/
import Derived.Test.YteahlnoonmfjhaaAbA
import Derived.Test.YteahlnoonmfjhaaAfC
import Derived.Test.YteahlnoonmfjhaaAgJ
set_option linter.unusedVariables false
set_option maxRecDepth 100000
namespace Go.Proofs.Yteahlnoonmfjhaa
open Go.RowKit

def setA (c : UInt8) (a b : AgT) : AgT :=
  if c = 72 then { b with h := a.h } else if c = 84 then { b with t := a.t } else if c = 110 then { b with name := a.name } else if c = 111 then { b with other := a.other } else if c = 120 then { b with text := a.text }
  else if c = 112 then { b with at_ := a.at_ } else if c = 78 then { b with n := a.n } else if c = 109 then { b with mode := a.mode } else if c = 115 then { b with size := a.size } else if c = 98 then { b with stable := a.stable }
  else if c = 103 then { b with guard := a.guard } else if c = 118 then { b with verf := a.verf } else b
theorem gtA_fwd {c : UInt8} (hc : c ∈ lettersA) {a : AgT} (b : AgT) (hk : a.Ok) {x : List UInt8} (h : putA c a = some x) (r : List UInt8) : gtA c (some (x ++ r)) false b = (some r, false, setA c a b) := by
  have hH : ∀ y, hB y = some x → (rdX (some (x ++ r)) 24).2 = some r ∧ (false || (dec (rdX (some (x ++ r)) 24).1).isNone) = false ∧ (dec (rdX (some (x ++ r)) 24).1).getD (0, 0, 0) = y := fun y hy => by
    obtain ⟨e1, e2⟩ := hB_fwd hy r
    rw [e1]
    simp [e2]
  have hI : ∀ n, I64 n → some (intL n) = some x → wrap64 (rdL (some (x ++ r))).1 = n ∧ (rdL (some (x ++ r))).2 = some r := fun n hn hx => by
    simp only [Option.some.injEq] at hx
    rw [← hx]
    exact rdI_be n r hn
  simp only [lettersA, List.mem_cons, List.not_mem_nil, or_false] at hc
  rcases hc with rfl | rfl | rfl | rfl | rfl | rfl | rfl | rfl | rfl | rfl | rfl | rfl
  · obtain ⟨e1, e2, e3⟩ := hH a.h h
    show ((rdX (some (x ++ r)) 24).2, (false || (dec (rdX (some (x ++ r)) 24).1).isNone), { b with h := (dec (rdX (some (x ++ r)) 24).1).getD (0, 0, 0) }) = (some r, false, { b with h := a.h })
    rw [e1, e2, e3]
  · obtain ⟨e1, e2, e3⟩ := hH a.t h
    show ((rdX (some (x ++ r)) 24).2, (false || (dec (rdX (some (x ++ r)) 24).1).isNone), { b with t := (dec (rdX (some (x ++ r)) 24).1).getD (0, 0, 0) }) = (some r, false, { b with t := a.t })
    rw [e1, e2, e3]
  · show ((rdT (some (x ++ r)) 255).2, false, { b with name := (rdT (some (x ++ r)) 255).1 }) = (some r, false, { b with name := a.name })
    rw [tB_fwd (M := 255) h rfl (by decide) r]
  · show ((rdT (some (x ++ r)) 255).2, false, { b with other := (rdT (some (x ++ r)) 255).1 }) = (some r, false, { b with other := a.other })
    rw [tB_fwd (M := 255) h rfl (by decide) r]
  · show ((rdT (some (x ++ r)) 2048).2, false, { b with text := (rdT (some (x ++ r)) 2048).1 }) = (some r, false, { b with text := a.text })
    rw [tB_fwd (M := 2048) h rfl (by decide) r]
  · obtain ⟨e1, e2⟩ := hI _ hk.at_ h
    show ((rdL (some (x ++ r))).2, false, { b with at_ := wrap64 (rdL (some (x ++ r))).1 }) = (some r, false, { b with at_ := a.at_ })
    rw [e1, e2]
  · obtain ⟨e1, e2⟩ := hI _ hk.n h
    show ((rdL (some (x ++ r))).2, false, { b with n := wrap64 (rdL (some (x ++ r))).1 }) = (some r, false, { b with n := a.n })
    rw [e1, e2]
  · obtain ⟨e1, e2⟩ := hI _ hk.mode h
    show ((rdL (some (x ++ r))).2, false, { b with mode := wrap64 (rdL (some (x ++ r))).1 }) = (some r, false, { b with mode := a.mode })
    rw [e1, e2]
  · obtain ⟨e1, e2⟩ := hI _ hk.size h
    show ((rdL (some (x ++ r))).2, false, { b with size := wrap64 (rdL (some (x ++ r))).1 }) = (some r, false, { b with size := a.size })
    rw [e1, e2]
  · obtain ⟨e1, e2⟩ := hI _ hk.stable h
    show ((rdL (some (x ++ r))).2, false, { b with stable := wrap64 (rdL (some (x ++ r))).1 }) = (some r, false, { b with stable := a.stable })
    rw [e1, e2]
  · obtain ⟨e1, e2⟩ := hI _ hk.guard h
    show ((rdL (some (x ++ r))).2, false, { b with guard := wrap64 (rdL (some (x ++ r))).1 }) = (some r, false, { b with guard := a.guard })
    rw [e1, e2]
  · have hx : some (beL a.verf) = some x := h
    simp only [Option.some.injEq] at hx
    show ((rdL (some (x ++ r))).2, false, { b with verf := (rdL (some (x ++ r))).1 }) = (some r, false, { b with verf := a.verf })
    rw [← hx, rdL_be a.verf r hk.verf.1 hk.verf.2]
theorem gtAll_fwd : ∀ (l : List UInt8) (a b : AgT), (∀ c ∈ l, c ∈ lettersA) → a.Ok → l.all (okA a) = true → gtAll l (some (l.flatMap (encA a))) b = some (some [], l.foldl (fun b c => setA c a b) b)
  | [], a, b, _, _, _ => rfl
  | c :: l, a, b, hm, hk, ho => by
    rw [List.all_cons, Bool.and_eq_true] at ho
    obtain ⟨x, hx⟩ : ∃ x, putA c a = some x := Option.isSome_iff_exists.1 ho.1
    have hc := hm c List.mem_cons_self
    have e : encA a c = x := by unfold encA; rw [hx]; rfl
    have h := gtA_fwd hc b hk hx (l.flatMap (encA a))
    rw [List.flatMap_cons, e]
    unfold gtAll
    rw [h]
    simp only [Option.isSome_some, and_self, if_true, List.foldl_cons]
    exact gtAll_fwd l a _ (fun d hd => hm d (List.mem_cons_of_mem _ hd)) hk ho.2
def lenB (c : UInt8) : Nat := if c = 72 then 24 else if c = 84 then 24 else if c = 110 then 260 else if c = 111 then 260 else if c = 120 then 2052 else 8
theorem encA_len {c : UInt8} (hc : c ∈ lettersA) (a : AgT) (h : okA a c = true) : (encA a c).length % 4 = 0 ∧ (encA a c).length ≤ lenB c := by
  obtain ⟨x, hx⟩ : ∃ x, putA c a = some x := Option.isSome_iff_exists.1 h
  have e : encA a c = x := by unfold encA; rw [hx]; rfl
  rw [e]
  have hH : ∀ y : Int × Int × Int, hB y = some x → x.length = 24 := fun y hy => by
    unfold hB at hy
    split at hy
    · simp only [Option.some.injEq] at hy; rw [← hy]; exact hbytes_length _ _ _
    · cases hy
  have hT : ∀ (s : List UInt8) (m : Nat), m % 4 = 3 ∨ m % 4 = 0 → tB s m = some x → x.length % 4 = 0 ∧ x.length ≤ m + 5 ∧ (m % 4 = 0 → x.length ≤ m + 4) := fun s m hm4 hy => by
    unfold tB at hy
    split at hy
    · cases hy
    · rename_i hm
      simp only [Option.some.injEq] at hy
      have h1 := textL_mod s
      rw [← hy]
      refine ⟨h1, ?_, fun h4 => textL_max s m (by omega) h4⟩
      rcases hm4 with h4 | h4
      · have := textL_max s (m + 1) (by omega) (by omega); omega
      · have := textL_max s m (by omega) h4; omega
  have hI : ∀ n : Int, some (intL n) = some x → x.length = 8 := fun n hy => by cases hy; exact intL_length n
  simp only [lettersA, List.mem_cons, List.not_mem_nil, or_false] at hc
  rcases hc with rfl | rfl | rfl | rfl | rfl | rfl | rfl | rfl | rfl | rfl | rfl | rfl
  · have := hH _ hx; exact ⟨by omega, by rw [this]; decide⟩
  · have := hH _ hx; exact ⟨by omega, by rw [this]; decide⟩
  · have := hT a.name 255 (by decide) hx; exact ⟨this.1, by show x.length ≤ 260; omega⟩
  · have := hT a.other 255 (by decide) hx; exact ⟨this.1, by show x.length ≤ 260; omega⟩
  · have := hT a.text 2048 (by decide) hx; exact ⟨this.1, by show x.length ≤ 2052; omega⟩
  · have := hI _ hx; exact ⟨by omega, by rw [this]; decide⟩
  · have := hI _ hx; exact ⟨by omega, by rw [this]; decide⟩
  · have := hI _ hx; exact ⟨by omega, by rw [this]; decide⟩
  · have := hI _ hx; exact ⟨by omega, by rw [this]; decide⟩
  · have := hI _ hx; exact ⟨by omega, by rw [this]; decide⟩
  · have := hI _ hx; exact ⟨by omega, by rw [this]; decide⟩
  · have h8 : x.length = 8 := by
      have hy : some (beL a.verf) = some x := hx
      cases hy
      exact beL_length _
    exact ⟨by omega, by rw [h8]; decide⟩
theorem encAll_len (a : AgT) : ∀ (l : List UInt8), (∀ c ∈ l, c ∈ lettersA) → l.all (okA a) = true → (l.flatMap (encA a)).length % 4 = 0 ∧ (l.flatMap (encA a)).length ≤ (l.map lenB).sum
  | [], _, _ => by simp
  | c :: l, hm, ho => by
    rw [List.all_cons, Bool.and_eq_true] at ho
    have h1 := encA_len (hm c List.mem_cons_self) a ho.1
    have h2 := encAll_len a l (fun d hd => hm d (List.mem_cons_of_mem _ hd)) ho.2
    rw [List.flatMap_cons, List.length_append, List.map_cons, List.sum_cons]
    omega
theorem ask_sum {p : Int} {l : List UInt8} (h : askedL p = some l) : (l.map lenB).sum ≤ 4072 ∧ ∀ a : AgT, lettersA.all (fun c => l.contains c || zA a c) = true → l.foldl (fun b c => setA c a b) ag0 = a := by
  have key : ∀ i : Nat, i < 19 → ∀ l, askedL (i : Int) = some l → (l.map lenB).sum ≤ 4072 ∧ ∀ a : AgT, lettersA.all (fun c => l.contains c || zA a c) = true → l.foldl (fun b c => setA c a b) ag0 = a := by
    intro i hi l hl
    have : i = 0 ∨ i = 1 ∨ i = 2 ∨ i = 3 ∨ i = 4 ∨ i = 5 ∨ i = 6 ∨ i = 7 ∨ i = 8 ∨ i = 9 ∨ i = 10 ∨ i = 11 ∨ i = 12 ∨ i = 13 ∨ i = 14 ∨ i = 15 ∨ i = 16 ∨ i = 17 ∨ i = 18 := by omega
    rcases this with rfl | rfl | rfl | rfl | rfl | rfl | rfl | rfl | rfl | rfl | rfl | rfl | rfl | rfl | rfl | rfl | rfl | rfl | rfl <;> as_aux_lemma =>
    (cases hl; refine ⟨by decide, fun a ha => ?_⟩
     obtain ⟨y1, y2, y3, y4, y5, y6, y7, y8, y9, y10, y11, y12⟩ := zA_spec a
     simp only [lettersA, List.all_cons, List.all_nil, y1, y2, y3, y4, y5, y6, y7, y8, y9, y10, y11, y12] at ha
     obtain ⟨h, t, n, o, x, p, N, m, s, b, g, v⟩ := a
     simp [z3, zS, zI] at ha
     simp [setA, ag0, ha])
  by_cases hp : 0 ≤ p ∧ p < 19
  · obtain ⟨i, rfl⟩ : ∃ i : Nat, p = i := ⟨p.toNat, by omega⟩
    exact key i (by omega) l h
  · exfalso
    have : askedL p = none := by
      unfold askedL
      repeat (rw [if_neg (by omega)])
    rw [this] at h
    cases h
/-- What is written is read as it was. -/
theorem aR_aW {p : Int} {a : AgT} (hk : a.Ok) (h : (aW p a).2 = 0) : aR p (aW p a).1 = (a, 0) ∧ (aW p a).1.length % 4 = 0 ∧ (aW p a).1.length ≤ 4072 := by
  cases hl : askedL p with
  | none =>
    exfalso
    unfold aW at h
    rw [hl] at h
    have h' : (62 : Int) = 0 := h
    omega
  | some l =>
    obtain ⟨h1, h2, h3, h4⟩ := nd_ask hl
    obtain ⟨hm, -⟩ := askedL_mem hl
    obtain ⟨g1, g2⟩ := ask_sum hl
    have e : aW p a = finA (putAll l a []) := by unfold aW; rw [hl]; rfl
    rw [finA_eq l a h1 hm] at e
    by_cases hr : (l.all (okA a) && lettersA.all (fun c => l.contains c || zA a c)) = true
    · rw [if_pos hr] at e
      rw [Bool.and_eq_true] at hr
      have e2 := encAll_len a l hm hr.1
      rw [e]
      refine ⟨?_, e2.1, Nat.le_trans e2.2 g1⟩
      unfold aR
      rw [hl]
      show endA (gtAll l (some (l.flatMap (encA a))) ag0) = _
      rw [gtAll_fwd l a ag0 hm hk hr.1, g2 a hr.2]
      rfl
    · rw [if_neg hr] at e
      rw [e] at h
      exact absurd h (by decide)
theorem gtA_back {c : UInt8} (hc : c ∈ lettersA) {a : AgT} {l r : List UInt8} (h1 : (gtA c (some l) false a).1 = some r) (h2 : (gtA c (some l) false a).2.1 = false) : ∃ x, putA c (gtA c (some l) false a).2.2 = some x ∧ l = x ++ r := by
  simp only [lettersA, List.mem_cons, List.not_mem_nil, or_false] at hc
  rcases hc with rfl | rfl | rfl | rfl | rfl | rfl | rfl | rfl | rfl | rfl | rfl | rfl
  · exact ⟨_, hB_back h1 (by have h3 : (false || (dec (rdX (some l) 24).1).isNone) = false := h2; simpa only [Bool.false_or] using h3)⟩
  · exact ⟨_, hB_back h1 (by have h3 : (false || (dec (rdX (some l) 24).1).isNone) = false := h2; simpa only [Bool.false_or] using h3)⟩
  · exact ⟨_, tB_back (m := 255) h1 rfl⟩
  · exact ⟨_, tB_back (m := 255) h1 rfl⟩
  · exact ⟨_, tB_back (m := 2048) h1 rfl⟩
  · exact ⟨_, rfl, rdI_back h1⟩
  · exact ⟨_, rfl, rdI_back h1⟩
  · exact ⟨_, rfl, rdI_back h1⟩
  · exact ⟨_, rfl, rdI_back h1⟩
  · exact ⟨_, rfl, rdI_back h1⟩
  · exact ⟨_, rfl, rdI_back h1⟩
  · exact ⟨_, rfl, rdL_back h1⟩
theorem gtA_set {c : UInt8} (hc : c ∈ lettersA) (s : St) (b : Bool) (a : AgT) : (gtA c s b a).2.2 = setA c (gtA c s b a).2.2 a := by
  simp only [lettersA, List.mem_cons, List.not_mem_nil, or_false] at hc
  rcases hc with rfl | rfl | rfl | rfl | rfl | rfl | rfl | rfl | rfl | rfl | rfl | rfl <;> rfl
theorem putA_set {c d : UInt8} (hc : c ∈ lettersA) (hd : d ∈ lettersA) (hne : c ≠ d) (x a : AgT) : putA c (setA d x a) = putA c a := by
  simp only [lettersA, List.mem_cons, List.not_mem_nil, or_false] at hc hd
  rcases hd with rfl | rfl | rfl | rfl | rfl | rfl | rfl | rfl | rfl | rfl | rfl | rfl <;> as_aux_lemma =>
  (rcases hc with rfl | rfl | rfl | rfl | rfl | rfl | rfl | rfl | rfl | rfl | rfl | rfl <;> first | exact absurd rfl hne | simp [putA, setA])
theorem zA_set {c d : UInt8} (hc : c ∈ lettersA) (hd : d ∈ lettersA) (hne : c ≠ d) (x a : AgT) : zA (setA d x a) c = zA a c := by
  obtain ⟨z1, z2, z3, z4, z5, z6, z7, z8, z9, z10, z11, z12⟩ := zA_spec a
  obtain ⟨y1, y2, y3, y4, y5, y6, y7, y8, y9, y10, y11, y12⟩ := zA_spec (setA d x a)
  simp only [lettersA, List.mem_cons, List.not_mem_nil, or_false] at hc hd
  rcases hc with rfl | rfl | rfl | rfl | rfl | rfl | rfl | rfl | rfl | rfl | rfl | rfl
  · rw [z1, y1]; rcases hd with rfl | rfl | rfl | rfl | rfl | rfl | rfl | rfl | rfl | rfl | rfl | rfl <;> first | rfl | exact absurd rfl hne
  · rw [z2, y2]; rcases hd with rfl | rfl | rfl | rfl | rfl | rfl | rfl | rfl | rfl | rfl | rfl | rfl <;> first | rfl | exact absurd rfl hne
  · rw [z3, y3]; rcases hd with rfl | rfl | rfl | rfl | rfl | rfl | rfl | rfl | rfl | rfl | rfl | rfl <;> first | rfl | exact absurd rfl hne
  · rw [z4, y4]; rcases hd with rfl | rfl | rfl | rfl | rfl | rfl | rfl | rfl | rfl | rfl | rfl | rfl <;> first | rfl | exact absurd rfl hne
  · rw [z5, y5]; rcases hd with rfl | rfl | rfl | rfl | rfl | rfl | rfl | rfl | rfl | rfl | rfl | rfl <;> first | rfl | exact absurd rfl hne
  · rw [z6, y6]; rcases hd with rfl | rfl | rfl | rfl | rfl | rfl | rfl | rfl | rfl | rfl | rfl | rfl <;> first | rfl | exact absurd rfl hne
  · rw [z7, y7]; rcases hd with rfl | rfl | rfl | rfl | rfl | rfl | rfl | rfl | rfl | rfl | rfl | rfl <;> first | rfl | exact absurd rfl hne
  · rw [z8, y8]; rcases hd with rfl | rfl | rfl | rfl | rfl | rfl | rfl | rfl | rfl | rfl | rfl | rfl <;> first | rfl | exact absurd rfl hne
  · rw [z9, y9]; rcases hd with rfl | rfl | rfl | rfl | rfl | rfl | rfl | rfl | rfl | rfl | rfl | rfl <;> first | rfl | exact absurd rfl hne
  · rw [z10, y10]; rcases hd with rfl | rfl | rfl | rfl | rfl | rfl | rfl | rfl | rfl | rfl | rfl | rfl <;> first | rfl | exact absurd rfl hne
  · rw [z11, y11]; rcases hd with rfl | rfl | rfl | rfl | rfl | rfl | rfl | rfl | rfl | rfl | rfl | rfl <;> first | rfl | exact absurd rfl hne
  · rw [z12, y12]; rcases hd with rfl | rfl | rfl | rfl | rfl | rfl | rfl | rfl | rfl | rfl | rfl | rfl <;> first | rfl | exact absurd rfl hne
theorem gtA_other {c d : UInt8} (hc : c ∈ lettersA) (hd : d ∈ lettersA) (hne : c ≠ d) (s : St) (b : Bool) (a : AgT) : putA d (gtA c s b a).2.2 = putA d a ∧ zA (gtA c s b a).2.2 d = zA a d := by
  rw [gtA_set hc s b a]
  exact ⟨putA_set hd hc (Ne.symm hne) _ _, zA_set hd hc (Ne.symm hne) _ _⟩
theorem gtAll_back : ∀ (l : List UInt8) (s s' : List UInt8) (a a' : AgT), l.Nodup → (∀ c ∈ l, c ∈ lettersA) → gtAll l (some s) a = some (some s', a') →
    l.all (okA a') = true ∧ s = l.flatMap (encA a') ++ s' ∧ ∀ d ∈ lettersA, d ∉ l → putA d a' = putA d a ∧ zA a' d = zA a d
  | [], s, s', a, a', _, _, h => by
    simp only [gtAll, Option.some.injEq, Prod.mk.injEq] at h
    obtain ⟨rfl, rfl⟩ := h
    exact ⟨rfl, by simp, fun d _ _ => ⟨rfl, rfl⟩⟩
  | c :: l, s, s', a, a', hn, hm, h => by
    have hn' := List.nodup_cons.1 hn
    have hc := hm c List.mem_cons_self
    unfold gtAll at h
    split at h
    · rename_i hg
      obtain ⟨r, hr⟩ := Option.isSome_iff_exists.1 hg.2
      obtain ⟨x, hx, hs⟩ := gtA_back hc hr hg.1
      rw [hr] at h
      obtain ⟨i1, i2, i3⟩ := gtAll_back l r s' _ a' hn'.2 (fun d hd => hm d (List.mem_cons_of_mem _ hd)) h
      have hcx : putA c a' = some x := ((i3 c hc hn'.1).1).trans hx
      refine ⟨?_, ?_, fun d hd hdl => ?_⟩
      · rw [List.all_cons, i1, Bool.and_true]
        unfold okA
        rw [hcx]
        rfl
      · rw [List.flatMap_cons, List.append_assoc, ← i2]
        have : encA a' c = x := by unfold encA; rw [hcx]; rfl
        rw [this]
        exact hs
      · have hdc : c ≠ d := fun e => hdl (e ▸ List.mem_cons_self)
        have k := gtA_other hc hd hdc (some s) false a
        have k2 := i3 d hd fun hh => hdl (List.mem_cons_of_mem _ hh)
        exact ⟨k2.1.trans k.1, k2.2.trans k.2⟩
    · cases h
theorem zA_ag0 {c : UInt8} (hc : c ∈ lettersA) : zA ag0 c = true := by
  have := (ag0_iff ag0).1 rfl
  exact List.all_eq_true.1 this c hc
/-- What is read is written by just these bytes. -/
theorem aW_aR {p : Int} {s : List UInt8} (h : (aR p s).2 = 0) : aW p (aR p s).1 = (s, 0) := by
  cases hl : askedL p with
  | none =>
    exfalso
    unfold aR at h
    rw [hl] at h
    have h' : (62 : Int) = 0 := h
    omega
  | some l =>
    obtain ⟨h1, -, -, -⟩ := nd_ask hl
    obtain ⟨hm, -⟩ := askedL_mem hl
    have e : aR p s = endA (gtAll l (some s) ag0) := by unfold aR; rw [hl]
    rw [e] at h ⊢
    cases hg : gtAll l (some s) ag0 with
    | none => rw [hg] at h; exact absurd h (by decide)
    | some y =>
      obtain ⟨st, b⟩ := y
      rw [hg] at h
      simp only [endA] at h ⊢
      split at h
      · rename_i hd
        rw [if_pos hd]
        have hst : st = some [] := by simpa [doneB] using hd
        subst hst
        obtain ⟨i1, i2, i3⟩ := gtAll_back l s [] ag0 b h1 hm hg
        have e2 : aW p b = finA (putAll l b []) := by unfold aW; rw [hl]; rfl
        show aW p b = _
        rw [e2, finA_eq l b h1 hm, if_pos]
        · rw [i2, List.append_nil]
        · rw [i1, Bool.true_and, List.all_eq_true]
          intro c hc
          by_cases hcl : c ∈ l
          · simp [hcl]
          · rw [(i3 c hc hcl).2, zA_ag0 hc, Bool.or_true]
      · exact absurd h (by decide)
end Go.Proofs.Yteahlnoonmfjhaa
