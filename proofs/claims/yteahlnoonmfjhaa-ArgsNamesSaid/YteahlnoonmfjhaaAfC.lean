/- Plain law of arguments: the words by the program's way are the document's. No program in sight but the models' defs. -/
import Derived.Test.YteahlnoonmfjhaaAfP
set_option linter.unusedVariables false
set_option maxRecDepth 100000
namespace Go.Proofs.Yteahlnoonmfjhaa

def okA (a : AgT) (c : UInt8) : Bool := (putA c a).isSome
def encA (a : AgT) (c : UInt8) : List UInt8 := (putA c a).getD []
def zA (a : AgT) (c : UInt8) : Bool := decide (clrA c a = a)
theorem putA_clr {c d : UInt8} (hc : c ∈ lettersA) (hd : d ∈ lettersA) (hne : c ≠ d) (a : AgT) : putA c (clrA d a) = putA c a := by
  simp only [lettersA, List.mem_cons, List.not_mem_nil, or_false] at hc hd
  rcases hd with rfl | rfl | rfl | rfl | rfl | rfl | rfl | rfl | rfl | rfl | rfl | rfl <;> as_aux_lemma =>
  (rcases hc with rfl | rfl | rfl | rfl | rfl | rfl | rfl | rfl | rfl | rfl | rfl | rfl <;> first | exact absurd rfl hne | simp [putA, clrA])
theorem putAll_eq : ∀ (l : List UInt8) (a : AgT) (b : List UInt8), l.Nodup → (∀ c ∈ l, c ∈ lettersA) → putAll l a b = if l.all (okA a) then some (b ++ l.flatMap (encA a), l.foldl (fun a c => clrA c a) a) else none
  | [], a, b, _, _ => by simp [putAll]
  | c :: l, a, b, hn, hm => by
    have hn' := List.nodup_cons.1 hn
    have hml : ∀ d ∈ l, d ∈ lettersA := fun d hd => hm d (List.mem_cons_of_mem _ hd)
    have hc := hm c List.mem_cons_self
    unfold putAll
    cases h : putA c a with
    | none => simp [okA, h]
    | some x =>
      simp only
      rw [putAll_eq l (clrA c a) (b ++ x) hn'.2 hml]
      have hne : ∀ d ∈ l, d ≠ c := fun d hd e => hn'.1 (e ▸ hd)
      have e1 : l.all (okA (clrA c a)) = l.all (okA a) := by
        rw [Bool.eq_iff_iff]
        simp only [List.all_eq_true]
        constructor <;> intro k d hd <;> have := k d hd <;> simpa [okA, putA_clr (hml d hd) hc (hne d hd)] using this
      have e2 : l.flatMap (encA (clrA c a)) = l.flatMap (encA a) := by
        have : ∀ d ∈ l, encA (clrA c a) d = encA a d := fun d hd => by unfold encA; rw [putA_clr (hml d hd) hc (hne d hd)]
        rw [List.flatMap_def, List.flatMap_def, List.map_congr_left this]
      rw [e1, e2]
      have e3 : okA a c = true := by unfold okA; rw [h]; rfl
      have e4 : encA a c = x := by unfold encA; rw [h]; rfl
      simp [e3, e4]
theorem clr_self {c : UInt8} (hc : c ∈ lettersA) (a : AgT) : zA (clrA c a) c = true := by
  simp only [lettersA, List.mem_cons, List.not_mem_nil, or_false] at hc
  rcases hc with rfl | rfl | rfl | rfl | rfl | rfl | rfl | rfl | rfl | rfl | rfl | rfl <;> exact decide_eq_true rfl
theorem zA_spec (a : AgT) : zA a 72 = z3 a.h ∧ zA a 84 = z3 a.t ∧ zA a 110 = zS a.name ∧ zA a 111 = zS a.other ∧ zA a 120 = zS a.text ∧ zA a 112 = zI a.at_ ∧ zA a 78 = zI a.n ∧ zA a 109 = zI a.mode ∧ zA a 115 = zI a.size ∧ zA a 98 = zI a.stable ∧ zA a 103 = zI a.guard ∧ zA a 118 = zI a.verf := by
  obtain ⟨h, t, n, o, x, p, N, m, s, b, g, v⟩ := a
  refine ⟨?_, ?_, ?_, ?_, ?_, ?_, ?_, ?_, ?_, ?_, ?_, ?_⟩ <;> (unfold zA; simp [clrA, z3, zS, zI, eq_comm])
theorem zA_clr {c d : UInt8} (hc : c ∈ lettersA) (hd : d ∈ lettersA) (hne : c ≠ d) (a : AgT) : zA (clrA d a) c = zA a c := by
  obtain ⟨z1, z2, z3, z4, z5, z6, z7, z8, z9, z10, z11, z12⟩ := zA_spec a
  obtain ⟨y1, y2, y3, y4, y5, y6, y7, y8, y9, y10, y11, y12⟩ := zA_spec (clrA d a)
  simp only [lettersA, List.mem_cons, List.not_mem_nil, or_false] at hc hd
  rcases hc with rfl | rfl | rfl | rfl | rfl | rfl | rfl | rfl | rfl | rfl | rfl | rfl
  · rw [z1, y1]; rcases hd with rfl | rfl | rfl | rfl | rfl | rfl | rfl | rfl | rfl | rfl | rfl | rfl <;> first | rfl | exact absurd rfl hne
  · rw [z2, y2]; rcases hd with rfl | rfl | rfl | rfl | rfl | rfl | rfl | rfl | rfl | rfl | rfl | rfl <;> first | rfl | exact absurd rfl hne
  · rw [z3, y3]; rcases hd with rfl | rfl | rfl | rfl | rfl | rfl | rfl | rfl | rfl | rfl | rfl | rfl <;> first | rfl | exact absurd rfl hne
  · rw [z4, y4]; rcases hd with rfl | rfl | rfl | rfl | rfl | rfl | rfl | rfl | rfl | rfl | rfl | rfl <;> first | rfl | exact absurd rfl hne
  · rw [z5, y5]; rcases hd with rfl | rfl | rfl | rfl | rfl | rfl | rfl | rfl | rfl | rfl | rfl | rfl <;> first | rfl | exact absurd rfl hne
  · rw [z6, y6]; rcases hd with rfl | rfl | rfl | rfl | rfl | rfl | rfl | rfl | rfl | rfl | rfl | rfl <;> first | rfl | exact absurd rfl hne
  · rw [z7, y7]; rcases hd with rfl | rfl | rfl | rfl | rfl | rfl | rfl | rfl | rfl | rfl | rfl | rfl <;> first | rfl | exact absurd rfl hne
  · rw [z8, y8]; rcases hd with rfl | rfl | rfl | rfl | rfl | rfl | rfl | rfl | rfl | rfl | rfl | rfl <;> first | rfl | exact absurd rfl hne
  · rw [z9, y9]; rcases hd with rfl | rfl | rfl | rfl | rfl | rfl | rfl | rfl | rfl | rfl | rfl | rfl <;> first | rfl | exact absurd rfl hne
  · rw [z10, y10]; rcases hd with rfl | rfl | rfl | rfl | rfl | rfl | rfl | rfl | rfl | rfl | rfl | rfl <;> first | rfl | exact absurd rfl hne
  · rw [z11, y11]; rcases hd with rfl | rfl | rfl | rfl | rfl | rfl | rfl | rfl | rfl | rfl | rfl | rfl <;> first | rfl | exact absurd rfl hne
  · rw [z12, y12]; rcases hd with rfl | rfl | rfl | rfl | rfl | rfl | rfl | rfl | rfl | rfl | rfl | rfl <;> first | rfl | exact absurd rfl hne
theorem zA_fold {c : UInt8} (hc : c ∈ lettersA) : ∀ (l : List UInt8) (a : AgT), (∀ d ∈ l, d ∈ lettersA) → zA (l.foldl (fun a c => clrA c a) a) c = (l.contains c || zA a c)
  | [], a, _ => by simp
  | d :: l, a, hm => by
    have hml : ∀ e ∈ l, e ∈ lettersA := fun e he => hm e (List.mem_cons_of_mem _ he)
    have hd := hm d List.mem_cons_self
    rw [List.foldl_cons, zA_fold hc l (clrA d a) hml]
    by_cases e : c = d
    · subst e
      rw [clr_self hc]
      simp
    · rw [zA_clr hc hd e]
      simp [e]
theorem ag0_iff (a : AgT) : a = ag0 ↔ lettersA.all (zA a) = true := by
  obtain ⟨y1, y2, y3, y4, y5, y6, y7, y8, y9, y10, y11, y12⟩ := zA_spec a
  simp only [lettersA, List.all_cons, List.all_nil, y1, y2, y3, y4, y5, y6, y7, y8, y9, y10, y11, y12]
  obtain ⟨h, t, n, o, x, p, N, m, s, b, g, v⟩ := a
  simp [ag0, z3, zS, zI]
/-- The program's way, told by letters. -/
theorem finA_eq (l : List UInt8) (a : AgT) (hn : l.Nodup) (hm : ∀ c ∈ l, c ∈ lettersA) :
    finA (putAll l a []) = if (l.all (okA a) && lettersA.all (fun c => l.contains c || zA a c)) = true then (l.flatMap (encA a), 0) else ([], 4) := by
  rw [putAll_eq l a [] hn hm]
  have key : (l.foldl (fun a c => clrA c a) a = ag0) ↔ lettersA.all (fun c => l.contains c || zA a c) = true := by
    rw [ag0_iff]
    simp only [List.all_eq_true]
    constructor
    · intro h c hc; rw [← zA_fold hc l a hm]; exact h c hc
    · intro h c hc; rw [zA_fold hc l a hm]; exact h c hc
  by_cases h1 : l.all (okA a) = true
  · rw [if_pos h1]
    by_cases h2 : lettersA.all (fun c => l.contains c || zA a c) = true
    · rw [if_pos (by rw [h1, h2]; rfl)]
      show (if _ = ag0 then _ else _) = _
      rw [if_pos (key.2 h2)]
      simp
    · rw [if_neg (by rw [h1]; simpa using h2)]
      show (if _ = ag0 then _ else _) = _
      rw [if_neg (fun h => h2 (key.1 h))]
  · rw [if_neg h1, if_neg (by intro h; exact h1 (Bool.and_eq_true _ _ ▸ h).1)]
    rfl
/-- The document's words of a letter. -/
def numR (a : AgT) (c : UInt8) : Int := if c = 97 then a.at_ else if c = 78 then a.n else if c = 109 then a.mode else if c = 115 then a.size else if c = 83 then a.stable else a.guard
def rPut (a : AgT) (c : UInt8) : List UInt8 :=
  if c = 72 then hbytes a.h.1 a.h.2.1 a.h.2.2 else if c = 84 then hbytes a.t.1 a.t.2.1 a.t.2.2 else if c = 110 then textL a.name else if c = 111 then textL a.other else if c = 116 then textL a.text
  else if c = 118 then beL a.verf else intL (numR a c)
def rW (p : Int) (a : AgT) : List UInt8 × Int := if p < 0 ∨ 19 ≤ p then ([], 62) else if rMay (rAskL p) a then ((rAskL p).flatMap (rPut a), 0) else ([], 4)
/-- The program's letter of the document's. -/
def trA (c : UInt8) : UInt8 := if c = 116 then 120 else if c = 97 then 112 else if c = 83 then 98 else c
def lettersR : List UInt8 := [72, 84, 110, 111, 116, 97, 78, 109, 115, 83, 103, 118]
theorem enc_tr {c : UInt8} (hc : c ∈ lettersR) (a : AgT) (h : okA a (trA c) = true) : encA a (trA c) = rPut a c := by
  simp only [lettersR, List.mem_cons, List.not_mem_nil, or_false] at hc
  have hH : ∀ x : Int × Int × Int, (hB x).isSome = true → (hB x).getD [] = hbytes x.1 x.2.1 x.2.2 := fun x hx => by
    unfold hB at hx ⊢
    split at hx <;> simp_all
  have hT : ∀ (s : List UInt8) m, (tB s m).isSome = true → (tB s m).getD [] = textL s := fun s m hx => by
    unfold tB at hx ⊢
    by_cases hm : m < s.length
    · rw [if_pos hm] at hx; cases hx
    · rw [if_neg hm]; rfl
  rcases hc with rfl | rfl | rfl | rfl | rfl | rfl | rfl | rfl | rfl | rfl | rfl | rfl
  · exact hH _ h
  · exact hH _ h
  · exact hT _ _ h
  · exact hT _ _ h
  · exact hT _ _ h
  all_goals rfl
theorem ok_spec (a : AgT) : okA a 72 = hmayB a.h.1 a.h.2.1 a.h.2.2 ∧ okA a 84 = hmayB a.t.1 a.t.2.1 a.t.2.2 ∧ okA a 110 = decide (a.name.length ≤ 255) ∧ okA a 111 = decide (a.other.length ≤ 255) ∧ okA a 120 = decide (a.text.length ≤ 2048) := by
  have hH : ∀ x : Int × Int × Int, (hB x).isSome = hmayB x.1 x.2.1 x.2.2 := fun x => by
    unfold hB
    cases hmayB x.1 x.2.1 x.2.2 <;> rfl
  have hT : ∀ (s : List UInt8) (m : Nat), (tB s m).isSome = decide (s.length ≤ m) := fun s m => by
    unfold tB
    by_cases h : m < s.length
    · rw [if_pos h, decide_eq_false (by omega)]; rfl
    · rw [if_neg h, decide_eq_true (by omega)]; rfl
  exact ⟨hH _, hH _, hT _ _, hT _ _, hT _ _⟩
theorem boolMay {q1 q2 q3 r1 r2 r3 q4 q5 q6 q7 i1 i2 i3 i4 i5 i6 i7 b1 b2 b3 b4 b5 b6 b7 b8 b9 b10 b11 b12 : Bool} (n0 : q1 = true → r1 = true) (n1 : q2 = true → r2 = true) (n2 : q3 = true → r3 = true) :
    ((!b1 || q6) && (!b2 || q7) && (!b3 || r1) && (!b4 || r2) && (!b5 || r3) && ((b1 || q4) && ((b2 || q5) && ((b3 || q1) && ((b4 || q2) && ((b5 || q3) && ((b6 || i1) && ((b7 || i2) && ((b8 || i3) && ((b9 || i4) && ((b10 || i5) && ((b11 || i6) && ((b12 || i7) && true))))))))))))) =
    (!(b1 && !q6 || !b1 && !q4 || b2 && !q7 || !b2 && !q5) && !(!b3 && !q1 || !b4 && !q2 || !b5 && !q3 || !b6 && !i1 || !b7 && !i2 || !b8 && !i3) && !(!b9 && !i4 || !b10 && !i5 || !b11 && !i6 || !b12 && !i7) && (r1 && r2 && r3)) := by
  have u : ∀ b z : Bool, (b || z) = true → (!b && !z) = false := by decide
  have v : ∀ b q : Bool, (!b || q) = true → (b && !q) = false := by decide
  have u' : ∀ b z : Bool, (!b && !z) = false → (b || z) = true := by decide
  have v' : ∀ b q : Bool, (b && !q) = false → (!b || q) = true := by decide
  have x : ∀ b r : Bool, r = true → (!b || r) = true := by decide
  have y : ∀ b r z : Bool, (z = true → r = true) → (!b || r) = true → (b || z) = true → r = true := by decide
  rw [Bool.eq_iff_iff]
  constructor
  · intro h
    simp only [Bool.and_eq_true] at h
    obtain ⟨⟨⟨⟨⟨e1, e2⟩, e3⟩, e4⟩, e5⟩, f1, f2, f3, f4, f5, f6, f7, f8, f9, f10, f11, f12, -⟩ := h
    rw [v _ _ e1, v _ _ e2, u _ _ f1, u _ _ f2, u _ _ f3, u _ _ f4, u _ _ f5, u _ _ f6, u _ _ f7, u _ _ f8, u _ _ f9, u _ _ f10, u _ _ f11, u _ _ f12, y _ _ _ n0 e3 f3, y _ _ _ n1 e4 f4, y _ _ _ n2 e5 f5]
    rfl
  · intro h
    simp only [Bool.and_eq_true, Bool.not_eq_true', Bool.or_eq_false_iff] at h
    obtain ⟨⟨⟨⟨⟨⟨g1, g2⟩, g3⟩, g4⟩, ⟨⟨⟨⟨g5, g6⟩, g7⟩, g8⟩, g9⟩, g10⟩, ⟨⟨g11, g12⟩, g13⟩, g14⟩, ⟨k1, k2⟩, k3⟩ := h
    rw [v' _ _ g1, v' _ _ g3, x _ _ k1, x _ _ k2, x _ _ k3, u' _ _ g2, u' _ _ g4, u' _ _ g5, u' _ _ g6, u' _ _ g7, u' _ _ g8, u' _ _ g9, u' _ _ g10, u' _ _ g11, u' _ _ g12, u' _ _ g13, u' _ _ g14]
    rfl
theorem may_eq (l L : List UInt8) (a : AgT) (hl : l = L.map trA) (hL : ∀ c ∈ L, c ∈ lettersR) :
    (l.all (okA a) && lettersA.all (fun c => l.contains c || zA a c)) = rMay L a := by
  obtain ⟨y1, y2, y3, y4, y5, y6, y7, y8, y9, y10, y11, y12⟩ := zA_spec a
  obtain ⟨k1, k2, k3, k4, k5⟩ := ok_spec a
  have hc : ∀ c ∈ lettersR, l.contains (trA c) = hasL L c := fun c hcm => by
    rw [Bool.eq_iff_iff, hl]
    simp only [List.contains_iff_mem, List.mem_map, hasL, decide_eq_true_eq]
    constructor
    · rintro ⟨d, hd, he⟩
      have hdm := hL d hd
      have : d = c := by
        simp only [lettersR, List.mem_cons, List.not_mem_nil, or_false] at hcm hdm
        rcases hcm with rfl | rfl | rfl | rfl | rfl | rfl | rfl | rfl | rfl | rfl | rfl | rfl <;>
        (rcases hdm with rfl | rfl | rfl | rfl | rfl | rfl | rfl | rfl | rfl | rfl | rfl | rfl <;> first | rfl | exact absurd he (by decide))
      exact this ▸ hd
    · intro h; exact ⟨c, h, rfl⟩
  have h1 : l.all (okA a) = ((!hasL L 72 || okA a 72) && (!hasL L 84 || okA a 84) && (!hasL L 110 || okA a 110) && (!hasL L 111 || okA a 111) && (!hasL L 116 || okA a 120)) := by
    rw [Bool.eq_iff_iff]
    simp only [List.all_eq_true, Bool.and_eq_true, Bool.or_eq_true, Bool.not_eq_true', hasL, decide_eq_false_iff_not, hl, List.mem_map]
    constructor
    · intro h
      have g : ∀ c, c ∉ L ∨ okA a (trA c) = true := fun c => by
        by_cases hh : c ∈ L
        · exact .inr (h _ ⟨_, hh, rfl⟩)
        · exact .inl hh
      exact ⟨⟨⟨⟨g 72, g 84⟩, g 110⟩, g 111⟩, g 116⟩
    · rintro ⟨⟨⟨⟨e1, e2⟩, e3⟩, e4⟩, e5⟩ x ⟨d, hd, rfl⟩
      have hdm := hL d hd
      simp only [lettersR, List.mem_cons, List.not_mem_nil, or_false] at hdm
      rcases hdm with rfl | rfl | rfl | rfl | rfl | rfl | rfl | rfl | rfl | rfl | rfl | rfl
      · exact e1.resolve_left (fun h => h hd)
      · exact e2.resolve_left (fun h => h hd)
      · exact e3.resolve_left (fun h => h hd)
      · exact e4.resolve_left (fun h => h hd)
      · exact e5.resolve_left (fun h => h hd)
      all_goals rfl
  rw [h1]
  have c1 : l.contains 72 = hasL L 72 := hc 72 (by decide)
  have c2 : l.contains 84 = hasL L 84 := hc 84 (by decide)
  have c3 : l.contains 110 = hasL L 110 := hc 110 (by decide)
  have c4 : l.contains 111 = hasL L 111 := hc 111 (by decide)
  have c5 : l.contains 120 = hasL L 116 := hc 116 (by decide)
  have c6 : l.contains 112 = hasL L 97 := hc 97 (by decide)
  have c7 : l.contains 78 = hasL L 78 := hc 78 (by decide)
  have c8 : l.contains 109 = hasL L 109 := hc 109 (by decide)
  have c9 : l.contains 115 = hasL L 115 := hc 115 (by decide)
  have c10 : l.contains 98 = hasL L 83 := hc 83 (by decide)
  have c11 : l.contains 103 = hasL L 103 := hc 103 (by decide)
  have c12 : l.contains 118 = hasL L 118 := hc 118 (by decide)
  simp only [lettersA, List.all_cons, List.all_nil, c1, c2, c3, c4, c5, c6, c7, c8, c9, c10, c11, c12, y1, y2, y3, y4, y5, y6, y7, y8, y9, y10, y11, y12, k1, k2, k3, k4, k5]
  unfold rMay mD1 mD2 mD3 mD4
  have n0 : zS a.name = true → decide (a.name.length ≤ 255) = true := fun h => by have : a.name = [] := of_decide_eq_true h; rw [this]; rfl
  have n1 : zS a.other = true → decide (a.other.length ≤ 255) = true := fun h => by have : a.other = [] := of_decide_eq_true h; rw [this]; rfl
  have n2 : zS a.text = true → decide (a.text.length ≤ 2048) = true := fun h => by have : a.text = [] := of_decide_eq_true h; rw [this]; rfl
  generalize zS a.name = q1 at *
  generalize zS a.other = q2 at *
  generalize zS a.text = q3 at *
  generalize decide (a.name.length ≤ 255) = r1 at *
  generalize decide (a.other.length ≤ 255) = r2 at *
  generalize decide (a.text.length ≤ 2048) = r3 at *
  generalize z3 a.h = q4
  generalize z3 a.t = q5
  generalize hmayB a.h.1 a.h.2.1 a.h.2.2 = q6
  generalize hmayB a.t.1 a.t.2.1 a.t.2.2 = q7
  generalize zI a.at_ = i1
  generalize zI a.n = i2
  generalize zI a.mode = i3
  generalize zI a.size = i4
  generalize zI a.stable = i5
  generalize zI a.guard = i6
  generalize zI a.verf = i7
  generalize hasL L 72 = b1
  generalize hasL L 84 = b2
  generalize hasL L 110 = b3
  generalize hasL L 111 = b4
  generalize hasL L 116 = b5
  generalize hasL L 97 = b6
  generalize hasL L 78 = b7
  generalize hasL L 109 = b8
  generalize hasL L 115 = b9
  generalize hasL L 83 = b10
  generalize hasL L 103 = b11
  generalize hasL L 118 = b12
  exact boolMay n0 n1 n2
theorem nd_ask {p : Int} {l : List UInt8} (h : askedL p = some l) : l.Nodup ∧ l = (rAskL p).map trA ∧ (∀ c ∈ rAskL p, c ∈ lettersR) ∧ ¬ (p < 0 ∨ 19 ≤ p) := by
  have key : ∀ i : Nat, i < 19 → ∀ l, askedL (i : Int) = some l → l.Nodup ∧ l = (rAskL (i : Int)).map trA ∧ (∀ c ∈ rAskL (i : Int), c ∈ lettersR) := by
    intro i hi l hl
    have : i = 0 ∨ i = 1 ∨ i = 2 ∨ i = 3 ∨ i = 4 ∨ i = 5 ∨ i = 6 ∨ i = 7 ∨ i = 8 ∨ i = 9 ∨ i = 10 ∨ i = 11 ∨ i = 12 ∨ i = 13 ∨ i = 14 ∨ i = 15 ∨ i = 16 ∨ i = 17 ∨ i = 18 := by omega
    rcases this with rfl | rfl | rfl | rfl | rfl | rfl | rfl | rfl | rfl | rfl | rfl | rfl | rfl | rfl | rfl | rfl | rfl | rfl | rfl <;> (cases hl; decide)
  by_cases hp : 0 ≤ p ∧ p < 19
  · obtain ⟨i, rfl⟩ : ∃ i : Nat, p = i := ⟨p.toNat, by omega⟩
    obtain ⟨h1, h2, h3⟩ := key i (by omega) l h
    exact ⟨h1, h2, h3, by omega⟩
  · exfalso
    have : askedL p = none := by
      unfold askedL
      repeat (rw [if_neg (by omega)])
    rw [this] at h
    cases h
theorem ask_none {p : Int} (h : askedL p = none) : p < 0 ∨ 19 ≤ p := by
  by_cases hp : 0 ≤ p ∧ p < 19
  · exfalso
    have key : ∀ i : Nat, i < 19 → askedL (i : Int) ≠ none := by
      intro i hi
      have : i = 0 ∨ i = 1 ∨ i = 2 ∨ i = 3 ∨ i = 4 ∨ i = 5 ∨ i = 6 ∨ i = 7 ∨ i = 8 ∨ i = 9 ∨ i = 10 ∨ i = 11 ∨ i = 12 ∨ i = 13 ∨ i = 14 ∨ i = 15 ∨ i = 16 ∨ i = 17 ∨ i = 18 := by omega
      rcases this with rfl | rfl | rfl | rfl | rfl | rfl | rfl | rfl | rfl | rfl | rfl | rfl | rfl | rfl | rfl | rfl | rfl | rfl | rfl <;> decide
    obtain ⟨i, rfl⟩ : ∃ i : Nat, p = i := ⟨p.toNat, by omega⟩
    exact key i (by omega) h
  · omega
/-- The words of arguments are the document's. -/
theorem aW_rW (p : Int) (a : AgT) : aW p a = rW p a := by
  unfold aW
  cases h : askedL p with
  | none =>
    have hp := ask_none h
    show _ = rW p a
    unfold rW
    rw [if_pos hp]
  | some l =>
    obtain ⟨h1, h2, h3, h4⟩ := nd_ask h
    obtain ⟨hm, -⟩ := askedL_mem h
    show finA (putAll l a []) = _
    rw [finA_eq l a h1 hm, may_eq l (rAskL p) a h2 h3]
    unfold rW
    rw [if_neg h4]
    by_cases hr : rMay (rAskL p) a = true
    · rw [if_pos hr, if_pos hr]
      congr 1
      have hok := hr
      rw [← may_eq l (rAskL p) a h2 h3, Bool.and_eq_true, List.all_eq_true] at hok
      have : ∀ c ∈ rAskL p, encA a (trA c) = rPut a c := fun c hc => enc_tr (h3 c hc) a (hok.1 _ (by rw [h2]; exact List.mem_map_of_mem hc))
      rw [h2, List.flatMap_map, List.flatMap_def, List.flatMap_def, List.map_congr_left this]
    · rw [if_neg hr, if_neg hr]
end Go.Proofs.Yteahlnoonmfjhaa
