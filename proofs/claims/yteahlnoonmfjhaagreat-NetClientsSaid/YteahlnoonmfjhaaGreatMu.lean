/- Texts of mine in one: RsW, RsT, RsU. No statement of its own. -/
import Derived.Test.YteahlnoonmfjhaaGreatRsF
import Derived.Test.YteahlnoonmfjhaaGreatMs
set_option linter.unusedVariables false
set_option maxRecDepth 100000
namespace Go.Proofs.YteahlnoonmfjhaaGreat
section
set_option linter.unusedVariables false
set_option maxRecDepth 100000

def okR (x : RsT) (c : UInt8) : Bool := (putR c x).isSome
def encR (x : RsT) (c : UInt8) : List UInt8 := (putR c x).getD []
def zR (x : RsT) (c : UInt8) : Bool := decide (clrR c x = x)
theorem putR_clr {c d : UInt8} (hc : c ∈ lettersT) (hd : d ∈ lettersT) (hne : c ≠ d) (x : RsT) : putR c (clrR d x) = putR c x := by
  simp only [lettersT, List.mem_cons, List.not_mem_nil, or_false] at hc hd
  rcases hd with rfl | rfl | rfl | rfl | rfl | rfl | rfl | rfl | rfl <;>
  (rcases hc with rfl | rfl | rfl | rfl | rfl | rfl | rfl | rfl | rfl <;> first | exact absurd rfl hne | simp [putR, clrR])
theorem putAllR_eq : ∀ (l : List UInt8) (x : RsT) (b : List UInt8), l.Nodup → (∀ c ∈ l, c ∈ lettersT) → putAllR l x b = if l.all (okR x) then some (b ++ l.flatMap (encR x), l.foldl (fun x c => clrR c x) x) else none
  | [], x, b, _, _ => by simp [putAllR]
  | c :: l, x, b, hn, hm => by
    have hn' := List.nodup_cons.1 hn
    have hml : ∀ d ∈ l, d ∈ lettersT := fun d hd => hm d (List.mem_cons_of_mem _ hd)
    have hc := hm c List.mem_cons_self
    unfold putAllR
    cases h : putR c x with
    | none => simp [okR, h]
    | some y =>
      simp only
      rw [putAllR_eq l (clrR c x) (b ++ y) hn'.2 hml]
      have hne : ∀ d ∈ l, d ≠ c := fun d hd e => hn'.1 (e ▸ hd)
      have e1 : l.all (okR (clrR c x)) = l.all (okR x) := by
        rw [Bool.eq_iff_iff]
        simp only [List.all_eq_true]
        constructor <;> intro k d hd <;> have := k d hd <;> simpa [okR, putR_clr (hml d hd) hc (hne d hd)] using this
      have e2 : l.flatMap (encR (clrR c x)) = l.flatMap (encR x) := by
        have : ∀ d ∈ l, encR (clrR c x) d = encR x d := fun d hd => by unfold encR; rw [putR_clr (hml d hd) hc (hne d hd)]
        rw [List.flatMap_def, List.flatMap_def, List.map_congr_left this]
      rw [e1, e2]
      have e3 : okR x c = true := by unfold okR; rw [h]; rfl
      have e4 : encR x c = y := by unfold encR; rw [h]; rfl
      simp [e3, e4]
/-- The words and the error of one procedure's letters, told at once. -/
theorem finT_eq (l : List UInt8) (x : RsT) (b : List UInt8) (hn : l.Nodup) (hm : ∀ c ∈ l, c ∈ lettersT) :
    finT (putAllR l x b) = if l.all (okR x) = true ∧ l.foldl (fun x c => clrR c x) x = rs0 then (b ++ l.flatMap (encR x), 0) else ([], 4) := by
  rw [putAllR_eq l x b hn hm]
  by_cases h1 : l.all (okR x) = true
  · rw [if_pos h1]
    by_cases h2 : l.foldl (fun x c => clrR c x) x = rs0
    · rw [if_pos ⟨h1, h2⟩]
      show (if _ = rs0 then _ else _) = _
      rw [if_pos h2]
    · rw [if_neg (fun h => h2 h.2)]
      show (if _ = rs0 then _ else _) = _
      rw [if_neg h2]
  · rw [if_neg h1, if_neg (fun h => h1 h.1)]
    rfl
end

section
set_option linter.unusedVariables false
set_option maxRecDepth 100000

/-- A result that may be, by the letters: all are in order, and what no letter tells is zero. -/
def MayOk (l : List UInt8) (x : RsT) : Prop := l.all (okR x) = true ∧ l.foldl (fun x c => clrR c x) x = rs0
theorem kindB_not (k : Int) : (decide (k < 1) || decide (3 < k)) = !kindB k := by
  rw [Bool.eq_iff_iff]
  simp [kindB]
  omega
theorem mayEq (L l : List UInt8) (h : (L, l) ∈ [([], []), ([65], [65]), ([72, 65], [72, 65]), ([116], [120]), ([116, 101, 65], [120, 101, 65]), ([78, 118, 65], [78, 118, 65]), ([69, 101, 118], [69, 101, 118]), ([78, 102, 117], [78, 102, 117]), ([118], [118]), (([72] : List UInt8), ([72] : List UInt8))]) (x : RsT) (he : x.e = 0) : rTmay L x = true ↔ MayOk l x := by
  obtain ⟨e, h1, at_, text, n, free, used, end_, ents, verf⟩ := x
  simp only at he
  subst he
  simp only [List.mem_cons, Prod.mk.injEq, List.not_mem_nil, or_false] at h
  unfold rTmay tD1
  rw [kindB_not]
  rcases h with ⟨rfl, rfl⟩ | ⟨rfl, rfl⟩ | ⟨rfl, rfl⟩ | ⟨rfl, rfl⟩ | ⟨rfl, rfl⟩ | ⟨rfl, rfl⟩ | ⟨rfl, rfl⟩ | ⟨rfl, rfl⟩ | ⟨rfl, rfl⟩ | ⟨rfl, rfl⟩
  all_goals
    simp [MayOk, tD2, tD4, hasL, okR, putR, clrR, rs0, z3, zS, zI, hB, tB]
    constructor
    · intro h
      (try simp_all)
      (try omega)
    · intro h
      (try simp_all [longE])
      (try omega)
      try
        obtain ⟨h, -⟩ := h
        by_cases hl : 64 < ents.length
        · rw [if_pos hl] at h; cases h
        rw [if_neg hl] at h
        by_cases hq : ∃ x, x ∈ ents ∧ 255 < x.name.length
        · rw [if_pos hq] at h; cases h
        · exact ⟨fun y hy => Nat.le_of_not_lt fun hy2 => hq ⟨y, hy, hy2⟩, by omega⟩
/-- The document's letters and the program's, of each procedure. -/
theorem tell_pair (p : Nat) (hp : p < 19) : ∃ l, toldL (p : Int) = some l ∧ (rTellL (p : Int), l) ∈ [([], []), ([65], [65]), ([72, 65], [72, 65]), ([116], [120]), ([116, 101, 65], [120, 101, 65]), ([78, 118, 65], [78, 118, 65]), ([69, 101, 118], [69, 101, 118]), ([78, 102, 117], [78, 102, 117]), ([118], [118]), (([72] : List UInt8), ([72] : List UInt8))] := by
  have h : p = 0 ∨ p = 1 ∨ p = 2 ∨ p = 3 ∨ p = 4 ∨ p = 5 ∨ p = 6 ∨ p = 7 ∨ p = 8 ∨ p = 9 ∨ p = 10 ∨ p = 11 ∨ p = 12 ∨ p = 13 ∨ p = 14 ∨ p = 15 ∨ p = 16 ∨ p = 17 ∨ p = 18 := by omega
  rcases h with rfl | rfl | rfl | rfl | rfl | rfl | rfl | rfl | rfl | rfl | rfl | rfl | rfl | rfl | rfl | rfl | rfl | rfl | rfl <;> exact ⟨_, rfl, by decide⟩
theorem pair_nd {L l : List UInt8} (h : (L, l) ∈ [([], []), ([65], [65]), ([72, 65], [72, 65]), ([116], [120]), ([116, 101, 65], [120, 101, 65]), ([78, 118, 65], [78, 118, 65]), ([69, 101, 118], [69, 101, 118]), ([78, 102, 117], [78, 102, 117]), ([118], [118]), (([72] : List UInt8), ([72] : List UInt8))]) : l.Nodup ∧ (∀ c ∈ l, c ∈ lettersT) ∧ L.map trT = l ∧ (∀ c ∈ L, c ∈ lettersRT) := by
  simp only [List.mem_cons, Prod.mk.injEq, List.not_mem_nil, or_false] at h
  rcases h with ⟨rfl, rfl⟩ | ⟨rfl, rfl⟩ | ⟨rfl, rfl⟩ | ⟨rfl, rfl⟩ | ⟨rfl, rfl⟩ | ⟨rfl, rfl⟩ | ⟨rfl, rfl⟩ | ⟨rfl, rfl⟩ | ⟨rfl, rfl⟩ | ⟨rfl, rfl⟩ <;> decide
theorem told_none' {p : Int} (h : p < 0 ∨ 19 ≤ p) : toldL p = none := by
  unfold toldL
  repeat (rw [if_neg (by omega)])
theorem encR_tr {c : UInt8} (hc : c ∈ lettersRT) (x : RsT) (h : okR x (trT c) = true) : encR x (trT c) = rPutT x c := by
  simp only [lettersRT, List.mem_cons, List.not_mem_nil, or_false] at hc
  rcases hc with rfl | rfl | rfl | rfl | rfl | rfl | rfl | rfl | rfl
  · have h : (hB x.h).isSome = true := h
    show (hB x.h).getD [] = hbytes x.h.1 x.h.2.1 x.h.2.2
    unfold hB at h ⊢
    split at h <;> simp_all
  · have h : (if kindB x.at_.kind = true then some (attrB x.at_) else none).isSome = true := h
    show (if kindB x.at_.kind = true then some (attrB x.at_) else none).getD [] = attrB x.at_
    split at h <;> simp_all
  · have h : (tB x.text 2048).isSome = true := h
    show (tB x.text 2048).getD [] = textL x.text
    unfold tB at h ⊢
    by_cases hl : 2048 < x.text.length
    · rw [if_pos hl] at h; cases h
    · rw [if_neg hl]; rfl
  · rfl
  · rfl
  · rfl
  · rfl
  · rfl
  · have h : (if 64 < x.ents.length then none else if longE x.ents = true then none else some (entsB x.ents)).isSome = true := h
    show (if 64 < x.ents.length then none else if longE x.ents = true then none else some (entsB x.ents)).getD [] = entsB x.ents
    split at h
    · cases h
    · split at h
      · cases h
      · rename_i h1 h2
        rw [if_neg h1, if_neg h2]
        rfl
theorem putR_e (x : RsT) (e : Int) (c : UInt8) : putR c { x with e := e } = putR c x := by
  unfold putR
  rfl
theorem rTmay_e (L : List UInt8) (x : RsT) (e : Int) : rTmay L { x with e := e } = rTmay L x := rfl
/-- The words of a result are the document's. -/
theorem aT_rT (p : Int) (x : RsT) : aT p x = rT p x := by
  unfold aT rT
  by_cases hp : p < 0 ∨ 19 ≤ p
  · rw [told_none' hp, if_pos hp]
  rw [if_neg hp]
  obtain ⟨q, rfl⟩ : ∃ q : Nat, p = q := ⟨p.toNat, by omega⟩
  obtain ⟨l, hl, hpair⟩ := tell_pair q (by omega)
  rw [hl]
  simp only
  by_cases he : x.e < 0 ∨ 63 < x.e
  · rw [if_pos he]
    unfold rMayT
    rw [if_pos he]
    rfl
  rw [if_neg he]
  unfold rMayT
  rw [if_neg he]
  unfold tellL
  have key : ∀ (L l : List UInt8) (h : (L, l) ∈ [([], []), ([65], [65]), ([72, 65], [72, 65]), ([116], [120]), ([116, 101, 65], [120, 101, 65]), ([78, 118, 65], [78, 118, 65]), ([69, 101, 118], [69, 101, 118]), ([78, 102, 117], [78, 102, 117]), ([118], [118]), (([72] : List UInt8), ([72] : List UInt8))]), finT (putAllR l { x with e := 0 } (beN x.e 4)) = if rTmay L x = true then (beN x.e 4 ++ L.flatMap (rPutT x), 0) else ([], 4) := by
    intro L l h
    obtain ⟨h1, h2, h3, h4⟩ := pair_nd h
    rw [finT_eq l _ _ h1 h2]
    have hm := mayEq L l h { x with e := 0 } rfl
    rw [rTmay_e] at hm
    unfold MayOk at hm
    by_cases hr : rTmay L x = true
    · have hmm := hm.1 hr
      rw [if_pos hmm, if_pos hr]
      congr 2
      rw [← h3, List.flatMap_map]
      have hall := hmm.1
      rw [← h3, List.all_map, List.all_eq_true] at hall
      rw [List.flatMap_def, List.flatMap_def]
      congr 1
      refine List.map_congr_left fun c hc => ?_
      have := encR_tr (h4 c hc) { x with e := 0 } (hall c hc)
      exact this
    · rw [if_neg (fun h => hr (hm.2 h)), if_neg hr]
  by_cases h0 : x.e = 0
  · rw [if_pos h0, if_pos h0]
    exact key _ _ hpair
  · rw [if_neg h0, if_neg h0]
    exact key [] [] (by simp)
end

section
set_option linter.unusedVariables false
set_option maxRecDepth 100000

theorem ats_none : ∀ k, ats none k = none
  | 0 => rfl
  | k + 1 => by unfold ats; rw [ats_none k]; rfl
theorem gtR_none {c : UInt8} (hc : c ∈ lettersT) (b : Bool) (x : RsT) : (gtR c none b x).1 = none := by
  simp only [lettersT, List.mem_cons, List.not_mem_nil, or_false] at hc
  rcases hc with rfl | rfl | rfl | rfl | rfl | rfl | rfl | rfl | rfl <;> rfl
theorem trT_mem {c : UInt8} (hc : c ∈ lettersRT) : trT c ∈ lettersT := by
  simp only [lettersRT, List.mem_cons, List.not_mem_nil, or_false] at hc
  rcases hc with rfl | rfl | rfl | rfl | rfl | rfl | rfl | rfl | rfl <;> decide
theorem gtD_none {c : UInt8} (hc : c ∈ lettersRT) (ok : Bool) (x : RsT) : (gtD c none ok x).1 = none := by
  unfold gtD
  split
  · rfl
  · split
    · exact ats_none 7
    · exact gtR_none (trT_mem hc) _ _
theorem rAllT_none : ∀ (L : List UInt8) (ok : Bool) (x : RsT), (∀ c ∈ L, c ∈ lettersRT) → (rAllT L none ok x).1 = none
  | [], _, _, _ => rfl
  | c :: L, ok, x, hm => by
    unfold rAllT
    rw [gtD_none (hm c List.mem_cons_self)]
    exact rAllT_none L _ _ fun d hd => hm d (List.mem_cons_of_mem _ hd)
theorem rAllT_ok : ∀ (L : List UInt8) (s : St) (ok : Bool) (x : RsT), 72 ∉ L → (rAllT L s ok x).2.1 = ok
  | [], _, _, _, _ => rfl
  | c :: L, s, ok, x, hm => by
    unfold rAllT
    rw [rAllT_ok L _ _ _ (fun h => hm (List.mem_cons_of_mem _ h))]
    have h72 : c ≠ 72 := fun e => hm (e ▸ List.mem_cons_self)
    unfold gtD
    rw [if_neg h72]
    split <;> rfl
theorem gtR_bad {c : UInt8} (h1 : c ≠ 72) (h2 : c ≠ 65) (s : St) (x : RsT) : (gtR c s false x).2.1 = false := by
  unfold gtR
  rw [if_neg h1, if_neg h2]
  repeat' split
  all_goals rfl
theorem kindB_min (n : Int) : kindB (min n 99) = kindB n := by
  unfold kindB
  rw [decide_eq_decide]
  omega
theorem kindB_min' {n : Int} (h : kindB n = true) : min n 99 = n := by
  have : n = 1 ∨ n = 2 ∨ n = 3 := by simpa [kindB] using h
  omega
/-- What the program reads the document reads; where the program stops, the document's is bad, or empty, or of no kind. -/
theorem hear_all : ∀ (L : List UInt8) (s : St) (x : RsT), (∀ c ∈ L, c ∈ lettersRT) → L.Nodup → (∀ k : Nat, L[k]? = some 65 → k + 1 = L.length) →
    (∀ s' x', gtRAll (L.map trT) s x = some (s', x') → rAllT L s true x = (s', true, x')) ∧ (gtRAll (L.map trT) s x = none → (rAllT L s true x).2.1 = false ∨ (rAllT L s true x).1 = none ∨ (65 ∈ L ∧ kindB (rAllT L s true x).2.2.at_.kind = false))
  | [], s, x, _, _, _ => ⟨fun s' x' h => (by simp only [List.map_nil, gtRAll, Option.some.injEq, Prod.mk.injEq] at h; obtain ⟨rfl, rfl⟩ := h; rfl), fun h => by simp [gtRAll] at h⟩
  | c :: L, s, x, hm, hn, h65 => by
    have hml : ∀ d ∈ L, d ∈ lettersRT := fun d hd => hm d (List.mem_cons_of_mem _ hd)
    have hn' := List.nodup_cons.1 hn
    have h65' : ∀ k : Nat, L[k]? = some 65 → k + 1 = L.length := fun k hk => by
      have := h65 (k + 1) (by simpa using hk)
      simpa using this
    rw [List.map_cons]
    unfold gtRAll rAllT
    by_cases e72 : c = 72
    · subst e72
      have g1 : gtR (trT 72) s false x = ((rdX s 24).2, (dec (rdX s 24).1).isNone, { x with h := (dec (rdX s 24).1).getD (0, 0, 0) }) := by show (_, false || _, _) = _; rw [Bool.false_or]
      have g2 : gtD 72 s true x = ((rdX s 24).2, (dec (rdX s 24).1).isSome, { x with h := (dec (rdX s 24).1).getD (0, 0, 0) }) := rfl
      rw [g1, g2]
      simp only
      by_cases hd : (dec (rdX s 24).1).isNone = false
      · have hs : (dec (rdX s 24).1).isSome = true := by cases h : dec (rdX s 24).1 <;> simp_all
        rw [hs]
        by_cases hr : (rdX s 24).2.isSome = true
        · rw [if_pos ⟨hd, hr⟩]
          have := hear_all L (rdX s 24).2 { x with h := (dec (rdX s 24).1).getD (0, 0, 0) } hml hn'.2 h65'
          exact ⟨this.1, fun h => (this.2 h).imp_right (fun h => h.imp_right (fun h => ⟨List.mem_cons_of_mem _ h.1, h.2⟩))⟩
        · rw [if_neg (fun h => hr h.2)]
          have h3 : (rdX s 24).2 = none := by simpa using hr
          rw [h3]
          exact ⟨fun s' x' h => (by cases h), fun _ => .inr (.inl (rAllT_none L _ _ hml))⟩
      · have hs : (dec (rdX s 24).1).isSome = false := by cases h : dec (rdX s 24).1 <;> simp_all
        rw [if_neg (fun h => hd h.1), hs]
        exact ⟨fun s' x' h => (by cases h), fun _ => .inl (rAllT_ok L _ _ _ hn'.1)⟩
    by_cases e65 : c = 65
    · subst e65
      have hL : L = [] := by
        have := h65 0 rfl
        exact List.length_eq_zero_iff.1 (by simpa using this.symm)
      subst hL
      have g1 : gtR (trT 65) s false x = ((rdAt s).1, (rdAt s).2.1, { x with at_ := (rdAt s).2.2 }) := by show (_, false || _, _) = _; rw [Bool.false_or]
      have g2 : gtD 65 s true x = ((rdAtD s).1, true, { x with at_ := (rdAtD s).2 }) := rfl
      rw [g1, g2]
      simp only [List.map_nil, gtRAll, rAllT]
      by_cases hk : kindB (rdW s).1 = true
      · have e1 : rdAt s = (ats (rdW s).2 7, false, atk (rdW s).2 (rdW s).1 7) := by unfold rdAt; rw [if_pos hk]
        have e2 : rdAtD s = (ats (rdW s).2 7, atk (rdW s).2 (rdW s).1 7) := by unfold rdAtD; rw [kindB_min' hk]
        rw [e1, e2]
        simp only
        by_cases hr : (ats (rdW s).2 7).isSome = true
        · rw [if_pos ⟨trivial, hr⟩]
          exact ⟨fun s' x' h => (by simp only [Option.some.injEq, Prod.mk.injEq] at h; obtain ⟨rfl, rfl⟩ := h; rfl), fun h => by cases h⟩
        · rw [if_neg (fun h => hr h.2)]
          have h3 : ats (rdW s).2 7 = none := by simpa using hr
          exact ⟨fun s' x' h => (by cases h), fun _ => .inr (.inl h3)⟩
      · have e1 : (rdAt s).2.1 = true := by unfold rdAt; rw [if_neg hk]
        rw [e1, if_neg (fun h => by cases h.1)]
        refine ⟨fun s' x' h => (by cases h), fun _ => .inr (.inr ⟨List.mem_cons_self, ?_⟩)⟩
        show kindB (min (rdW s).1 99) = false
        rw [kindB_min]
        simpa using hk
    have ht72 : trT c ≠ 72 := by unfold trT; split; decide; exact e72
    have ht65 : trT c ≠ 65 := by unfold trT; split; decide; exact e65
    have g2 : gtD c s true x = ((gtR (trT c) s false x).1, true, (gtR (trT c) s false x).2.2) := by unfold gtD; rw [if_neg e72, if_neg e65]
    rw [g2, gtR_bad ht72 ht65]
    simp only
    by_cases hr : (gtR (trT c) s false x).1.isSome = true
    · rw [if_pos ⟨trivial, hr⟩]
      have := hear_all L (gtR (trT c) s false x).1 (gtR (trT c) s false x).2.2 hml hn'.2 h65'
      exact ⟨this.1, fun h => (this.2 h).imp_right (fun h => h.imp_right (fun h => ⟨List.mem_cons_of_mem _ h.1, h.2⟩))⟩
    · rw [if_neg (fun h => hr h.2)]
      have h3 : (gtR (trT c) s false x).1 = none := by simpa using hr
      rw [h3]
      exact ⟨fun s' x' h => (by cases h), fun _ => .inr (.inl (rAllT_none L _ _ hml))⟩
theorem kindB_okR {x : RsT} (h : kindB x.at_.kind = true) : okR x 65 = true := by
  show (if kindB x.at_.kind = true then some (attrB x.at_) else none).isSome = true
  rw [if_pos h]; rfl
theorem hand_okR {x : RsT} (h : hmayB x.h.1 x.h.2.1 x.h.2.2 = true) : okR x 72 = true := by
  show (hB x.h).isSome = true
  unfold hB
  rw [if_pos h]; rfl
theorem text_okR {x : RsT} (h : x.text.length ≤ 2048) : okR x 120 = true := by
  show (tB x.text 2048).isSome = true
  unfold tB
  rw [if_neg (by omega)]; rfl
theorem ents_okR {x : RsT} (h : x.ents.length ≤ 64) (h2 : longE x.ents = false) : okR x 69 = true := by
  show (if 64 < x.ents.length then none else if longE x.ents = true then none else some (entsB x.ents)).isSome = true
  rw [if_neg (by omega), h2]; rfl
theorem longE_rd (s : St) : longE (rdE s).1 = false := by
  unfold longE
  rw [List.any_eq_false]
  intro y hy
  have := (rdEn_ok _ _ y hy).2
  simp only [decide_eq_true_eq]
  omega
theorem rdAt_kind {s : St} (h : (rdAt s).2.1 = false) : kindB (rdAt s).2.2.kind = true := by
  unfold rdAt at h ⊢
  by_cases hk : kindB (rdW s).1 = true
  · rw [if_pos hk]; exact hk
  · rw [if_neg hk] at h; cases h
theorem dec_h {l : List UInt8} (h : (dec l).isNone = false) : hmayB ((dec l).getD (0, 0, 0)).1 ((dec l).getD (0, 0, 0)).2.1 ((dec l).getD (0, 0, 0)).2.2 = true := by
  cases hd : dec l with
  | none => rw [hd] at h; cases h
  | some x => exact dec_may hd
theorem rdT_2048 (s : St) : (rdT s 2048).1.length ≤ 2048 := by have := rdT_max s 2048 (by decide); omega
/-- What was read to the end may be. -/
theorem hear_may (L l : List UInt8) (h : (L, l) ∈ [([], []), ([65], [65]), ([72, 65], [72, 65]), ([116], [120]), ([116, 101, 65], [120, 101, 65]), ([78, 118, 65], [78, 118, 65]), ([69, 101, 118], [69, 101, 118]), ([78, 102, 117], [78, 102, 117]), ([118], [118]), (([72] : List UInt8), ([72] : List UInt8))]) (s s' : St) (x' : RsT) (hg : gtRAll l s rs0 = some (s', x')) : MayOk l x' ∧ x'.e = 0 := by
  simp only [List.mem_cons, Prod.mk.injEq, List.not_mem_nil, or_false] at h
  rcases h with ⟨rfl, rfl⟩ | ⟨rfl, rfl⟩ | ⟨rfl, rfl⟩ | ⟨rfl, rfl⟩ | ⟨rfl, rfl⟩ | ⟨rfl, rfl⟩ | ⟨rfl, rfl⟩ | ⟨rfl, rfl⟩ | ⟨rfl, rfl⟩ | ⟨rfl, rfl⟩
  all_goals
    simp only [gtRAll] at hg
    (repeat' split at hg)
    all_goals first | cases hg | skip
  all_goals
    refine ⟨⟨?_, rfl⟩, rfl⟩
    simp only [List.all_cons, List.all_nil, Bool.and_true, Bool.and_eq_true]
  · rename_i h1
    exact kindB_okR (rdAt_kind h1.1)
  · rename_i h1 h2
    exact ⟨hand_okR (dec_h (l := (rdX s 24).1) h1.1), kindB_okR (rdAt_kind h2.1)⟩
  · exact text_okR (rdT_2048 _)
  · rename_i h1 h2 h3
    exact ⟨text_okR (rdT_2048 _), rfl, kindB_okR (rdAt_kind h3.1)⟩
  · rename_i h1 h2 h3
    exact ⟨rfl, rfl, kindB_okR (rdAt_kind h3.1)⟩
  · exact ⟨ents_okR (rdE_len64 _) (longE_rd _), rfl, rfl⟩
  · exact ⟨rfl, rfl, rfl⟩
  · rfl
  · rename_i h1
    exact hand_okR (dec_h (l := (rdX s 24).1) h1.1)
theorem gtD_e (c : UInt8) (s : St) (ok : Bool) (x : RsT) : (gtD c s ok x).2.2.e = x.e := by
  have hR : ∀ d b, (gtR d s b x).2.2.e = x.e := fun d b => by
    unfold gtR
    repeat' split
    all_goals rfl
  unfold gtD
  split
  · rfl
  · split
    · rfl
    · exact hR _ _
theorem rAllT_e : ∀ (L : List UInt8) (s : St) (ok : Bool) (x : RsT), (rAllT L s ok x).2.2.e = x.e
  | [], _, _, _ => rfl
  | c :: L, s, ok, x => by
    unfold rAllT
    rw [rAllT_e L, gtD_e]
/-- What is heard is the document's. -/
theorem aH_rH (p : Int) (s : List UInt8) : aH p s = rH p s := by
  unfold aH rH
  by_cases hp : p < 0 ∨ 19 ≤ p
  · rw [told_none' hp, if_pos hp]
  rw [if_neg hp]
  obtain ⟨q, rfl⟩ : ∃ q : Nat, p = q := ⟨p.toNat, by omega⟩
  have hq : q < 19 := by omega
  obtain ⟨l, hl, hpair⟩ := tell_pair q hq
  obtain ⟨hnd, hml, hmap, hmL⟩ := pair_nd hpair
  rw [hl]
  simp only
  have hbw := rdW_bd (some s)
  obtain ⟨kw, hkw⟩ : ∃ kw, (rdW (some s)).1 = kw := ⟨_, rfl⟩
  obtain ⟨s1, hs1⟩ : ∃ s1, (rdW (some s)).2 = s1 := ⟨_, rfl⟩
  rw [hkw] at hbw
  rw [hkw, hs1]
  have bad : ∀ X : St × Bool × RsT, (X.2.1 = false ∨ X.1 = none ∨ rMayT q X.2.2 = false) → finH q X = (rs0, 4) := by
    intro X h
    unfold finH
    rcases h with h | h | h
    · rw [h]; simp
    · rw [h]; simp [doneB]
    · rw [h]; simp
  have hmt : ∀ c ∈ tellL (q : Int) kw, c ∈ lettersRT := by
    unfold tellL
    split
    · exact hmL
    · intro c hc; cases hc
  by_cases hn : s1 = none
  · rw [if_pos (.inl hn), hn]
    exact (bad _ (.inr (.inl (rAllT_none _ _ _ hmt)))).symm
  by_cases h63 : 63 < kw
  · rw [if_pos (.inr h63)]
    have e : tellL (q : Int) kw = [] := by unfold tellL; rw [if_neg (by omega)]
    rw [e]
    refine (bad _ (.inr (.inr ?_))).symm
    unfold rAllT rMayT
    rw [if_pos (.inr h63)]
  rw [if_neg (by rintro (h | h) <;> contradiction)]
  by_cases h0 : kw = 0
  · subst h0
    have e : tellL (q : Int) 0 = rTellL (q : Int) := if_pos rfl
    rw [if_pos rfl, e]
    have h65 : ∀ k : Nat, (rTellL (q : Int))[k]? = some 65 → k + 1 = (rTellL (q : Int)).length := by
      intro k hk
      simp only [List.mem_cons, Prod.mk.injEq, List.not_mem_nil, or_false] at hpair
      rcases hpair with ⟨e, -⟩ | ⟨e, -⟩ | ⟨e, -⟩ | ⟨e, -⟩ | ⟨e, -⟩ | ⟨e, -⟩ | ⟨e, -⟩ | ⟨e, -⟩ | ⟨e, -⟩ | ⟨e, -⟩ <;> (rw [e] at hk ⊢; match k, hk with
        | 0, hk => revert hk; decide
        | 1, hk => revert hk; decide
        | 2, hk => revert hk; decide
        | k + 3, hk => simp at hk)
    have hndL : (rTellL (q : Int)).Nodup := by
      simp only [List.mem_cons, Prod.mk.injEq, List.not_mem_nil, or_false] at hpair
      rcases hpair with ⟨e, -⟩ | ⟨e, -⟩ | ⟨e, -⟩ | ⟨e, -⟩ | ⟨e, -⟩ | ⟨e, -⟩ | ⟨e, -⟩ | ⟨e, -⟩ | ⟨e, -⟩ | ⟨e, -⟩ <;> (rw [e]; decide)
    have ha := hear_all (rTellL (q : Int)) s1 rs0 hmL hndL h65
    rw [hmap] at ha
    show endH (gtRAll l s1 rs0) = finH q (rAllT (rTellL (q : Int)) s1 true rs0)
    cases hg : gtRAll l s1 rs0 with
    | none =>
      show (rs0, (4 : Int)) = _
      refine (bad _ ?_).symm
      rcases ha.2 hg with h | h | ⟨h1, h2⟩
      · exact .inl h
      · exact .inr (.inl h)
      · refine .inr (.inr ?_)
        unfold rMayT
        split
        · rfl
        · rename_i he
          have hxe : (rAllT (rTellL (q : Int)) s1 true rs0).2.2.e = 0 := rAllT_e _ _ _ _
          · have e2 : tellL (q : Int) (rAllT (rTellL (q : Int)) s1 true rs0).2.2.e = rTellL (q : Int) := if_pos hxe
            rw [e2]
            by_cases hr : rTmay (rTellL (q : Int)) (rAllT (rTellL (q : Int)) s1 true rs0).2.2 = true
            · exfalso
              unfold rTmay tD1 at hr
              rw [kindB_not, h2] at hr
              have : hasL (rTellL (q : Int)) 65 = true := decide_eq_true h1
              rw [this] at hr
              simp at hr
            · simpa using hr
    | some y =>
      obtain ⟨s', x'⟩ := y
      rw [ha.1 s' x' hg]
      obtain ⟨hm, hxe⟩ := hear_may _ _ hpair s1 s' x' hg
      have hmay : rMayT q x' = true := by
        unfold rMayT
        rw [if_neg (by rw [hxe]; omega), hxe]
        rw [e]
        exact (mayEq _ _ hpair x' hxe).2 hm
      unfold finH
      show (if doneB s' = true then (x', (0 : Int)) else (rs0, 4)) = _
      simp only
      rw [hmay]
      simp
  · have e : tellL (q : Int) kw = [] := by unfold tellL; rw [if_neg h0]
    rw [if_neg h0, e]
    have hmay : rMayT q { rs0 with e := kw } = true := by
      unfold rMayT
      rw [if_neg (by simp only; omega)]
      show rTmay (tellL (q : Int) kw) _ = true
      rw [e, rTmay_e]
      decide
    show (if doneB s1 = true then (({ rs0 with e := kw } : RsT), (0 : Int)) else (rs0, 4)) = _
    unfold finH rAllT
    simp only
    rw [hmay]
    simp
/-- What is heard has 64 entries at most. -/
theorem rH_ents (p : Int) (s : List UInt8) : (rH p s).1.ents.length ≤ 64 := by
  have fin : ∀ X : St × Bool × RsT, (finH p X).1.ents.length ≤ 64 := by
    intro X
    unfold finH
    split
    · rename_i h
      have hm : rMayT p X.2.2 = true := (Bool.and_eq_true _ _ ▸ h).2
      exact (rMayT_spec hm).2.2.2.1
    · exact Nat.zero_le _
  unfold rH
  split
  · exact Nat.zero_le _
  · exact fin _
end
end Go.Proofs.YteahlnoonmfjhaaGreat
