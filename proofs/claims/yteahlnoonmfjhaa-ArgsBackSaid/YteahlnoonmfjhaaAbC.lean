/- Plain law of results: what is told is heard as it was; what is heard is told by just these bytes. -/
import Derived.Test.YteahlnoonmfjhaaAbA
import Derived.Test.YteahlnoonmfjhaaRsW
import Derived.Test.YteahlnoonmfjhaaRsO
set_option linter.unusedVariables false
set_option maxRecDepth 100000
namespace Go.Proofs.Yteahlnoonmfjhaa
open Go.RowKit

theorem rdL_step {s : St} {r : List UInt8} (h : (rdL s).2 = some r) : s = some (intL (wrap64 (rdL s).1) ++ r) := by
  cases s with
  | none => exact absurd h (by simp [rdL, rdW])
  | some l => rw [Option.some.injEq]; exact rdI_back h
theorem rdT_step {s : St} {M : Int} {r : List UInt8} (h : (rdT s M).2 = some r) : s = some (textL (rdT s M).1 ++ r) := by
  cases s with
  | none =>
    have hn : (rdC none (max M 0)).2 = none := by
      unfold rdC
      split
      · rfl
      · rfl
    unfold rdT at h
    rw [hn] at h
    cases h
  | some l => rw [Option.some.injEq]; exact rdT_back h
theorem atk7 (s : St) (kd : Int) : atk s kd 7 = ⟨kd, atn s 0, atn s 1, atn s 2, atn s 3, atn s 4, atn s 5, atn s 6⟩ := by
  unfold atk
  simp
theorem ats_be {n1 n2 n3 n4 n5 n6 n7 : Int} (h1 : I64 n1) (h2 : I64 n2) (h3 : I64 n3) (h4 : I64 n4) (h5 : I64 n5) (h6 : I64 n6) (h7 : I64 n7) (kd : Int) (r : List UInt8) :
    ats (some (intL n1 ++ (intL n2 ++ (intL n3 ++ (intL n4 ++ (intL n5 ++ (intL n6 ++ (intL n7 ++ r)))))))) 7 = some r ∧ atk (some (intL n1 ++ (intL n2 ++ (intL n3 ++ (intL n4 ++ (intL n5 ++ (intL n6 ++ (intL n7 ++ r)))))))) kd 7 = ⟨kd, n1, n2, n3, n4, n5, n6, n7⟩ := by
  generalize hS : (some (intL n1 ++ (intL n2 ++ (intL n3 ++ (intL n4 ++ (intL n5 ++ (intL n6 ++ (intL n7 ++ r))))))) : St) = S
  have e0 : ats S 0 = some (intL n1 ++ (intL n2 ++ (intL n3 ++ (intL n4 ++ (intL n5 ++ (intL n6 ++ (intL n7 ++ r))))))) := hS.symm
  have st : ∀ (k : Nat) (n : Int) (t : List UInt8), I64 n → ats S k = some (intL n ++ t) → ats S (k + 1) = some t ∧ atn S k = n := fun k n t hn h => by
    obtain ⟨a, b⟩ := rdI_be n t hn
    exact ⟨by show (rdL (ats S k)).2 = _; rw [h]; exact b, by show wrap64 (rdL (ats S k)).1 = _; rw [h]; exact a⟩
  obtain ⟨e1, f1⟩ := st 0 n1 _ h1 e0
  obtain ⟨e2, f2⟩ := st 1 n2 _ h2 e1
  obtain ⟨e3, f3⟩ := st 2 n3 _ h3 e2
  obtain ⟨e4, f4⟩ := st 3 n4 _ h4 e3
  obtain ⟨e5, f5⟩ := st 4 n5 _ h5 e4
  obtain ⟨e6, f6⟩ := st 5 n6 _ h6 e5
  obtain ⟨e7, f7⟩ := st 6 n7 _ h7 e6
  refine ⟨e7, ?_⟩
  rw [atk7, f1, f2, f3, f4, f5, f6, f7]
theorem attrB_eq (a : AtT) (r : List UInt8) : attrB a ++ r = beN a.kind 4 ++ (intL a.mode ++ (intL a.links ++ (intL a.size ++ (intL a.mtime ++ (intL a.ctime ++ (intL a.ino ++ (intL a.gen ++ r))))))) := by
  simp [attrB, numsL]
theorem rdAt_be {a : AtT} (hk : kindB a.kind = true) (h : a.Ok) (r : List UInt8) : rdAt (some (attrB a ++ r)) = (some r, false, a) := by
  have hb := h.kind
  rw [attrB_eq]
  have e := rdW_be a.kind (intL a.mode ++ (intL a.links ++ (intL a.size ++ (intL a.mtime ++ (intL a.ctime ++ (intL a.ino ++ (intL a.gen ++ r))))))) (by omega) (by omega)
  obtain ⟨f, g⟩ := ats_be h.mode h.links h.size h.mtime h.ctime h.ino h.gen a.kind r
  unfold rdAt
  rw [e]
  rw [show kindB (a.kind, (some (intL a.mode ++ (intL a.links ++ (intL a.size ++ (intL a.mtime ++ (intL a.ctime ++ (intL a.ino ++ (intL a.gen ++ r)))))) ) : St)).1 = true from hk, if_pos rfl]
  show (ats (some _) 7, false, atk (some _) a.kind 7) = _
  rw [f, g]
theorem ats_back {s : St} {r : List UInt8} (h : ats s 7 = some r) : s = some (intL (atn s 0) ++ (intL (atn s 1) ++ (intL (atn s 2) ++ (intL (atn s 3) ++ (intL (atn s 4) ++ (intL (atn s 5) ++ (intL (atn s 6) ++ r))))))) := by
  have e6 := rdL_step (s := ats s 6) h
  have e5 := rdL_step (s := ats s 5) e6
  have e4 := rdL_step (s := ats s 4) e5
  have e3 := rdL_step (s := ats s 3) e4
  have e2 := rdL_step (s := ats s 2) e3
  have e1 := rdL_step (s := ats s 1) e2
  exact rdL_step (s := ats s 0) e1
theorem rdAt_back {l r : List UInt8} (h : (rdAt (some l)).1 = some r) (h2 : (rdAt (some l)).2.1 = false) : kindB (rdAt (some l)).2.2.kind = true ∧ l = attrB (rdAt (some l)).2.2 ++ r := by
  unfold rdAt at h h2 ⊢
  split at h
  · rename_i hk
    rw [if_pos hk] at h2 ⊢
    refine ⟨hk, ?_⟩
    simp only at h
    have e := rdW_back (ats_back h)
    simp only [atk7]
    rw [attrB_eq]
    exact e
  · rename_i hk
    rw [if_neg hk] at h2
    cases h2
theorem rdEn_be (l : List EnT) (r : List UInt8) (hl : ∀ y ∈ l, y.Ok ∧ y.name.length ≤ 255) : ∀ k, k ≤ l.length → rdEn k (some (l.flatMap enB ++ r)) = (l.take k, some ((l.drop k).flatMap enB ++ r))
  | 0, _ => by simp [rdEn]
  | k + 1, h => by
    obtain ⟨y, hy⟩ : ∃ y, l[k]? = some y := ⟨_, List.getElem?_eq_getElem h⟩
    have hym := hl y (List.mem_of_getElem? hy)
    have hd : l.drop k = y :: l.drop (k + 1) := by
      obtain ⟨h1, h2⟩ := List.getElem?_eq_some_iff.1 hy
      rw [List.drop_eq_getElem_cons h1, h2]
    have e0 := rdEn_be l r hl k (by omega)
    have eb : (l.drop k).flatMap enB ++ r = textL y.name ++ (intL y.ino ++ (intL y.cookie ++ ((l.drop (k + 1)).flatMap enB ++ r))) := by
      rw [hd]; simp [enB]
    have e1 := rdT_be (s := y.name) (m := 255) (r := intL y.ino ++ (intL y.cookie ++ ((l.drop (k + 1)).flatMap enB ++ r))) (by omega) (by omega)
    obtain ⟨e2, e3⟩ := rdI_be y.ino (intL y.cookie ++ ((l.drop (k + 1)).flatMap enB ++ r)) hym.1.ino
    obtain ⟨e4, e5⟩ := rdI_be y.cookie ((l.drop (k + 1)).flatMap enB ++ r) hym.1.cookie
    simp only [rdEn]
    rw [e0]
    simp only
    rw [eb, e1]
    simp only
    rw [e2, e3]
    rw [e4, e5]
    rw [List.take_add_one, hy]
    rfl
theorem longE_iff {l : List EnT} (h : longE l = false) : ∀ y ∈ l, y.name.length ≤ 255 := fun y hy => by
  unfold longE at h
  have := List.any_eq_false.1 h y hy
  simp only [decide_eq_true_eq] at this
  omega
theorem rdE_be {l : List EnT} (h1 : l.length ≤ 64) (h2 : longE l = false) (h3 : ∀ y ∈ l, y.Ok) (r : List UInt8) : rdE (some (entsB l ++ r)) = (l, some r) := by
  have e := rdW_be l.length (l.flatMap enB ++ r) (by omega) (by omega)
  have hc : rdC (some (entsB l ++ r)) 64 = ((l.length : Int), some (l.flatMap enB ++ r)) := by
    unfold rdC entsB
    rw [List.append_assoc, e]
    simp only
    rw [if_neg (by omega)]
  unfold rdE
  rw [hc]
  simp only [Int.toNat_natCast]
  rw [rdEn_be l r (fun y hy => ⟨h3 y hy, longE_iff h2 y hy⟩) l.length (Nat.le_refl _)]
  simp
theorem rdEn_back (s : St) : ∀ (k : Nat) (r : List UInt8), (rdEn k s).2 = some r → s = some ((rdEn k s).1.flatMap enB ++ r)
  | 0, r, h => by simpa [rdEn] using h
  | k + 1, r, h => by
    simp only [rdEn] at h ⊢
    have e3 := rdL_step h
    have e2 := rdL_step e3
    have e1 := rdT_step e2
    have e0 := rdEn_back s k _ e1
    simp only [List.flatMap_append, List.flatMap_cons, List.flatMap_nil, List.append_nil, enB, List.append_assoc]
    exact e0
theorem rdE_back {l r : List UInt8} (h : (rdE (some l)).2 = some r) : l = entsB (rdE (some l)).1 ++ r := by
  have hb := rdC_bd (some l) 64
  unfold rdE at h ⊢
  cases h2 : (rdC (some l) 64).2 with
  | none =>
    have := rdEn_back _ _ _ h
    rw [h2] at this
    cases this
  | some m =>
    have e1 := rdC_back h2
    have e2 := rdEn_back _ _ _ h
    have hn := rdEn_length (rdC (some l) 64).2 (rdC (some l) 64).1.toNat
    rw [h2] at e2 hn
    rw [Option.some.injEq] at e2
    unfold entsB
    rw [hn, List.append_assoc, ← e2]
    rw [show (((rdC (some l) 64).1.toNat : Nat) : Int) = (rdC (some l) 64).1 by omega]
    exact e1
def setR (c : UInt8) (x b : RsT) : RsT :=
  if c = 72 then { b with h := x.h } else if c = 65 then { b with at_ := x.at_ } else if c = 120 then { b with text := x.text } else if c = 78 then { b with n := x.n } else if c = 102 then { b with free := x.free } else if c = 117 then { b with used := x.used }
  else if c = 101 then { b with end_ := x.end_ } else if c = 69 then { b with ents := x.ents } else if c = 118 then { b with verf := x.verf } else b
theorem gtR_fwd {c : UInt8} (hc : c ∈ lettersT) {x : RsT} (b : RsT) (hk : x.Okw) {y : List UInt8} (h : putR c x = some y) (r : List UInt8) : gtR c (some (y ++ r)) false b = (some r, false, setR c x b) := by
  have hI : ∀ n, I64 n → some (intL n) = some y → wrap64 (rdL (some (y ++ r))).1 = n ∧ (rdL (some (y ++ r))).2 = some r := fun n hn hx => by
    simp only [Option.some.injEq] at hx
    rw [← hx]
    exact rdI_be n r hn
  have hU : ∀ n, 0 ≤ n ∧ n ≤ 18446744073709551615 → some (beL n) = some y → rdL (some (y ++ r)) = (n, some r) := fun n hn hx => by
    simp only [Option.some.injEq] at hx
    rw [← hx]
    exact rdL_be n r hn.1 hn.2
  simp only [lettersT, List.mem_cons, List.not_mem_nil, or_false] at hc
  rcases hc with rfl | rfl | rfl | rfl | rfl | rfl | rfl | rfl | rfl
  · obtain ⟨e1, e2⟩ := hB_fwd (y := x.h) h r
    show ((rdX (some (y ++ r)) 24).2, (false || (dec (rdX (some (y ++ r)) 24).1).isNone), { b with h := (dec (rdX (some (y ++ r)) 24).1).getD (0, 0, 0) }) = (some r, false, { b with h := x.h })
    rw [e1]
    simp [e2]
  · have hy : (if kindB x.at_.kind = true then some (attrB x.at_) else none) = some y := h
    split at hy
    · rename_i hkd
      simp only [Option.some.injEq] at hy
      show ((rdAt (some (y ++ r))).1, (false || (rdAt (some (y ++ r))).2.1), { b with at_ := (rdAt (some (y ++ r))).2.2 }) = (some r, false, { b with at_ := x.at_ })
      rw [← hy, rdAt_be hkd hk.at_ r]
      rfl
    · cases hy
  · show ((rdT (some (y ++ r)) 2048).2, false, { b with text := (rdT (some (y ++ r)) 2048).1 }) = (some r, false, { b with text := x.text })
    rw [tB_fwd (M := 2048) h rfl (by decide) r]
  · obtain ⟨e1, e2⟩ := hI _ hk.n h
    show ((rdL (some (y ++ r))).2, false, { b with n := wrap64 (rdL (some (y ++ r))).1 }) = (some r, false, { b with n := x.n })
    rw [e1, e2]
  · obtain ⟨e1, e2⟩ := hI _ hk.free h
    show ((rdL (some (y ++ r))).2, false, { b with free := wrap64 (rdL (some (y ++ r))).1 }) = (some r, false, { b with free := x.free })
    rw [e1, e2]
  · show ((rdL (some (y ++ r))).2, false, { b with used := (rdL (some (y ++ r))).1 }) = (some r, false, { b with used := x.used })
    rw [hU _ hk.used h]
  · show ((rdF (some (y ++ r))).2, false, { b with end_ := (rdF (some (y ++ r))).1 }) = (some r, false, { b with end_ := x.end_ })
    have hy : some (beN (b2i x.end_) 4) = some y := h
    simp only [Option.some.injEq] at hy
    rw [← hy, rdF_be]
  · have hy : (if 64 < x.ents.length then none else if longE x.ents = true then none else some (entsB x.ents)) = some y := h
    split at hy
    · cases hy
    · rename_i h64
      split at hy
      · cases hy
      · rename_i hlo
        simp only [Option.some.injEq] at hy
        show ((rdE (some (y ++ r))).2, false, { b with ents := (rdE (some (y ++ r))).1 }) = (some r, false, { b with ents := x.ents })
        rw [← hy, rdE_be (by omega) (by simpa using hlo) (fun z hz => (hk.each z hz).1) r]
  · show ((rdL (some (y ++ r))).2, false, { b with verf := (rdL (some (y ++ r))).1 }) = (some r, false, { b with verf := x.verf })
    rw [hU _ hk.verf h]
theorem gtRAll_fwd : ∀ (l : List UInt8) (x b : RsT), (∀ c ∈ l, c ∈ lettersT) → x.Okw → l.all (okR x) = true → gtRAll l (some (l.flatMap (encR x))) b = some (some [], l.foldl (fun b c => setR c x b) b)
  | [], x, b, _, _, _ => rfl
  | c :: l, x, b, hm, hk, ho => by
    rw [List.all_cons, Bool.and_eq_true] at ho
    obtain ⟨y, hy⟩ : ∃ y, putR c x = some y := Option.isSome_iff_exists.1 ho.1
    have hc := hm c List.mem_cons_self
    have e : encR x c = y := by unfold encR; rw [hy]; rfl
    have h := gtR_fwd hc b hk hy (l.flatMap (encR x))
    rw [List.flatMap_cons, e]
    unfold gtRAll
    rw [h]
    simp only [Option.isSome_some, and_self, if_true, List.foldl_cons]
    exact gtRAll_fwd l x _ (fun d hd => hm d (List.mem_cons_of_mem _ hd)) hk ho.2
theorem enB_mod (y : EnT) : (enB y).length % 4 = 0 := by
  have := textL_mod y.name
  simp only [enB, List.length_append, intL_length]
  omega
theorem entsB_mod : ∀ l : List EnT, (l.flatMap enB).length % 4 = 0
  | [] => rfl
  | y :: l => by
    have h1 := enB_mod y
    have h2 := entsB_mod l
    rw [List.flatMap_cons, List.length_append]
    omega
theorem encR_mod {c : UInt8} (hc : c ∈ lettersT) (x : RsT) : (encR x c).length % 4 = 0 := by
  unfold encR
  cases h : putR c x with
  | none => rfl
  | some y =>
    show y.length % 4 = 0
    have hI : ∀ n : Int, some (intL n) = some y → y.length = 8 := fun n hy => by cases hy; exact intL_length n
    have hU : ∀ n : Int, some (beL n) = some y → y.length = 8 := fun n hy => by cases hy; exact beL_length n
    simp only [lettersT, List.mem_cons, List.not_mem_nil, or_false] at hc
    rcases hc with rfl | rfl | rfl | rfl | rfl | rfl | rfl | rfl | rfl
    · have hy : hB x.h = some y := h
      unfold hB at hy
      split at hy
      · simp only [Option.some.injEq] at hy; rw [← hy, hbytes_length]
      · cases hy
    · have hy : (if kindB x.at_.kind = true then some (attrB x.at_) else none) = some y := h
      split at hy
      · simp only [Option.some.injEq] at hy
        rw [← hy]
        simp [attrB, numsL, beN_length, intL_length]
      · cases hy
    · have hy : tB x.text 2048 = some y := h
      unfold tB at hy
      split at hy
      · cases hy
      · simp only [Option.some.injEq] at hy; rw [← hy]; exact textL_mod _
    · have := hI _ h; omega
    · have := hI _ h; omega
    · have := hU _ h; omega
    · have hy : some (beN (b2i x.end_) 4) = some y := h
      cases hy
      rw [beN_length]
    · have hy : (if 64 < x.ents.length then none else if longE x.ents = true then none else some (entsB x.ents)) = some y := h
      split at hy
      · cases hy
      · split at hy
        · cases hy
        · simp only [Option.some.injEq] at hy
          have := entsB_mod x.ents
          rw [← hy]
          simp only [entsB, List.length_append, beN_length]
          omega
    · have := hU _ h; omega
theorem encRAll_mod (x : RsT) : ∀ (l : List UInt8), (∀ c ∈ l, c ∈ lettersT) → (l.flatMap (encR x)).length % 4 = 0
  | [], _ => rfl
  | c :: l, hm => by
    have h1 := encR_mod (hm c List.mem_cons_self) x
    have h2 := encRAll_mod x l fun d hd => hm d (List.mem_cons_of_mem _ hd)
    rw [List.flatMap_cons, List.length_append]
    omega
theorem told_set {p : Int} {l : List UInt8} (h : toldL p = some l) : l.Nodup ∧ (∀ x : RsT, x.e = 0 → l.foldl (fun x c => clrR c x) x = rs0 → l.foldl (fun b c => setR c x b) rs0 = x) ∧ ∀ x : RsT, x.e = 0 → l.foldl (fun b c => setR c x b) rs0 = x → l.foldl (fun x c => clrR c x) x = rs0 := by
  have key : ∀ i : Nat, i < 19 → ∀ l, toldL (i : Int) = some l → l.Nodup ∧ (∀ x : RsT, x.e = 0 → l.foldl (fun x c => clrR c x) x = rs0 → l.foldl (fun b c => setR c x b) rs0 = x) ∧ ∀ x : RsT, x.e = 0 → l.foldl (fun b c => setR c x b) rs0 = x → l.foldl (fun x c => clrR c x) x = rs0 := by
    intro i hi l hl
    have : i = 0 ∨ i = 1 ∨ i = 2 ∨ i = 3 ∨ i = 4 ∨ i = 5 ∨ i = 6 ∨ i = 7 ∨ i = 8 ∨ i = 9 ∨ i = 10 ∨ i = 11 ∨ i = 12 ∨ i = 13 ∨ i = 14 ∨ i = 15 ∨ i = 16 ∨ i = 17 ∨ i = 18 := by omega
    rcases this with rfl | rfl | rfl | rfl | rfl | rfl | rfl | rfl | rfl | rfl | rfl | rfl | rfl | rfl | rfl | rfl | rfl | rfl | rfl <;> as_aux_lemma =>
    (cases hl; refine ⟨by decide, fun x h0 hx => ?_, fun x h0 hx => ?_⟩
     · obtain ⟨e, h, a, t, n, f, u, en, es, v⟩ := x
       simp [clrR, rs0] at hx
       simp only at h0
       simp [setR, rs0, hx]
     · obtain ⟨e, h, a, t, n, f, u, en, es, v⟩ := x
       simp only at h0
       simp [setR, rs0, h0] at hx
       (try obtain ⟨_, _, _, _, _, _, _, _, _⟩ := hx)
       (try obtain ⟨_, _, _, _, _, _, _, _⟩ := hx)
       (try obtain ⟨_, _, _, _, _, _, _⟩ := hx)
       (try obtain ⟨_, _, _, _, _, _⟩ := hx)
       subst_vars
       rfl)
  by_cases hp : 0 ≤ p ∧ p < 19
  · obtain ⟨i, rfl⟩ : ∃ i : Nat, p = i := ⟨p.toNat, by omega⟩
    exact key i (by omega) l h
  · exfalso
    have : toldL p = none := by
      unfold toldL
      repeat (rw [if_neg (by omega)])
    rw [this] at h
    cases h
theorem setR_e {c : UInt8} (hc : c ∈ lettersT) (x b : RsT) (e : Int) : setR c { x with e := e } b = setR c x b := by
  simp only [lettersT, List.mem_cons, List.not_mem_nil, or_false] at hc
  rcases hc with rfl | rfl | rfl | rfl | rfl | rfl | rfl | rfl | rfl <;> rfl
theorem setR_eb {c : UInt8} (hc : c ∈ lettersT) (x b : RsT) (e : Int) : setR c x { b with e := e } = { setR c x b with e := e } := by
  simp only [lettersT, List.mem_cons, List.not_mem_nil, or_false] at hc
  rcases hc with rfl | rfl | rfl | rfl | rfl | rfl | rfl | rfl | rfl <;> rfl
theorem putR_e' (c : UInt8) (x : RsT) (e : Int) : putR c { x with e := e } = putR c x := rfl
theorem fold_e {l : List UInt8} (hm : ∀ c ∈ l, c ∈ lettersT) (x : RsT) (e : Int) : ∀ b, l.foldl (fun b c => setR c { x with e := e } b) b = l.foldl (fun b c => setR c x b) b := by
  induction l with
  | nil => intro b; rfl
  | cons c l ih =>
    intro b
    rw [List.foldl_cons, List.foldl_cons, setR_e (hm c List.mem_cons_self), ih fun d hd => hm d (List.mem_cons_of_mem _ hd)]
theorem rs_e0 {x : RsT} (h : x.e = 0) : { x with e := 0 } = x := by
  obtain ⟨e, h, a, t, n, f, u, en, es, v⟩ := x
  simp only at h
  subst h
  rfl
theorem okw_e {x : RsT} (h : x.Okw) (e : Int) : RsT.Okw { x with e := e } := { h with }
/-- What is told is heard as it was. -/
theorem aH_aT {p : Int} {x : RsT} (hk : x.Okw) (h : (aT p x).2 = 0) : aH p (aT p x).1 = (x, 0) ∧ (aT p x).1.length % 4 = 0 := by
  cases hl : toldL p with
  | none =>
    exfalso
    unfold aT at h
    rw [hl] at h
    have h' : (62 : Int) = 0 := h
    omega
  | some l =>
    obtain ⟨hn, f1, -⟩ := told_set hl
    have hm := (toldL_mem hl).1
    by_cases he : x.e < 0 ∨ 63 < x.e
    · exfalso
      unfold aT at h
      rw [hl] at h
      simp only at h
      rw [if_pos he] at h
      have h' : (4 : Int) = 0 := h
      omega
    · have e : aT p x = finT (putAllR (if x.e = 0 then l else []) { x with e := 0 } (beN x.e 4)) := by
        unfold aT
        rw [hl]
        simp only
        rw [if_neg he]
        rfl
      obtain ⟨L, hL⟩ : ∃ L, (if x.e = 0 then l else []) = L := ⟨_, rfl⟩
      have hLn : L.Nodup := by rw [← hL]; split; exact hn; exact List.nodup_nil
      have hLm : ∀ c ∈ L, c ∈ lettersT := by
        rw [← hL]
        split
        · exact hm
        · intro c hc; cases hc
      rw [hL, finT_eq L _ _ hLn hLm] at e
      by_cases hr : L.all (okR { x with e := 0 }) = true ∧ L.foldl (fun x c => clrR c x) { x with e := 0 } = rs0
      · rw [if_pos hr] at e
        rw [e]
        refine ⟨?_, by have := encRAll_mod { x with e := 0 } L hLm; rw [List.length_append, beN_length]; omega⟩
        have hw := rdW_be x.e (L.flatMap (encR { x with e := 0 })) (by omega) (by omega)
        unfold aH
        rw [hl]
        simp only
        rw [hw]
        simp only
        rw [if_neg (by simp; omega), hL, gtRAll_fwd L { x with e := 0 } { rs0 with e := x.e } hLm (okw_e hk 0) hr.1, fold_e hLm]
        show (_, (0 : Int)) = _
        congr 1
        by_cases h0 : x.e = 0
        · rw [if_pos h0] at hL
          subst hL
          rw [rs_e0 h0] at hr
          have : ({ rs0 with e := x.e } : RsT) = rs0 := by rw [h0]; rfl
          rw [this]
          exact f1 x h0 hr.2
        · rw [if_neg h0] at hL
          subst hL
          have h2 : { x with e := 0 } = rs0 := hr.2
          obtain ⟨e, hh, a, t, n, f, u, en, es, v⟩ := x
          simp [rs0] at h2
          simp [rs0, h2]
      · rw [if_neg hr] at e
        rw [e] at h
        have h' : (4 : Int) = 0 := h
        omega
theorem gtR_back {c : UInt8} (hc : c ∈ lettersT) {a : RsT} {l r : List UInt8} (h1 : (gtR c (some l) false a).1 = some r) (h2 : (gtR c (some l) false a).2.1 = false) : ∃ x, putR c (gtR c (some l) false a).2.2 = some x ∧ l = x ++ r := by
  simp only [lettersT, List.mem_cons, List.not_mem_nil, or_false] at hc
  rcases hc with rfl | rfl | rfl | rfl | rfl | rfl | rfl | rfl | rfl
  · exact ⟨_, hB_back h1 (by have h3 : (false || (dec (rdX (some l) 24).1).isNone) = false := h2; simpa only [Bool.false_or] using h3)⟩
  · have h3 : (false || (rdAt (some l)).2.1) = false := h2
    rw [Bool.false_or] at h3
    obtain ⟨hk, e⟩ := rdAt_back h1 h3
    refine ⟨_, ?_, e⟩
    show (if kindB (rdAt (some l)).2.2.kind = true then some (attrB (rdAt (some l)).2.2) else none) = _
    rw [if_pos hk]
  · exact ⟨_, tB_back (m := 2048) h1 rfl⟩
  · exact ⟨_, rfl, rdI_back h1⟩
  · exact ⟨_, rfl, rdI_back h1⟩
  · exact ⟨_, rfl, rdL_back h1⟩
  · exact ⟨_, rfl, rdF_back h1⟩
  · refine ⟨_, ?_, rdE_back h1⟩
    have h64 := rdE_len64 (some l)
    have hlo : longE (rdE (some l)).1 = false := by
      unfold longE
      rw [List.any_eq_false]
      intro y hy
      have := rdEn_ok _ _ y hy
      simp only [decide_eq_true_eq]
      omega
    show (if 64 < (rdE (some l)).1.length then none else if longE (rdE (some l)).1 = true then none else some (entsB (rdE (some l)).1)) = _
    rw [if_neg (by omega), if_neg (by rw [hlo]; decide)]
  · exact ⟨_, rfl, rdL_back h1⟩
theorem gtR_set {c : UInt8} (hc : c ∈ lettersT) (s : St) (b : Bool) (a : RsT) : (gtR c s b a).2.2 = setR c (gtR c s b a).2.2 a ∧ (gtR c s b a).2.2.e = a.e := by
  simp only [lettersT, List.mem_cons, List.not_mem_nil, or_false] at hc
  rcases hc with rfl | rfl | rfl | rfl | rfl | rfl | rfl | rfl | rfl <;> exact ⟨rfl, rfl⟩
theorem putR_set {c d : UInt8} (hc : c ∈ lettersT) (hd : d ∈ lettersT) (hne : c ≠ d) (x a : RsT) : putR c (setR d x a) = putR c a := by
  simp only [lettersT, List.mem_cons, List.not_mem_nil, or_false] at hc hd
  rcases hd with rfl | rfl | rfl | rfl | rfl | rfl | rfl | rfl | rfl <;> as_aux_lemma =>
  (rcases hc with rfl | rfl | rfl | rfl | rfl | rfl | rfl | rfl | rfl <;> first | exact absurd rfl hne | simp [putR, setR])
theorem setR_set {c d : UInt8} (hc : c ∈ lettersT) (hd : d ∈ lettersT) (hne : c ≠ d) (x a z : RsT) : setR c (setR d x a) z = setR c a z := by
  simp only [lettersT, List.mem_cons, List.not_mem_nil, or_false] at hc hd
  rcases hd with rfl | rfl | rfl | rfl | rfl | rfl | rfl | rfl | rfl <;> as_aux_lemma =>
  (rcases hc with rfl | rfl | rfl | rfl | rfl | rfl | rfl | rfl | rfl <;> first | exact absurd rfl hne | simp [setR])
theorem gtRAll_back : ∀ (l : List UInt8) (s s' : List UInt8) (a a' : RsT), l.Nodup → (∀ c ∈ l, c ∈ lettersT) → gtRAll l (some s) a = some (some s', a') →
    l.all (okR a') = true ∧ s = l.flatMap (encR a') ++ s' ∧ (∀ d ∈ lettersT, d ∉ l → putR d a' = putR d a ∧ ∀ z, setR d a' z = setR d a z) ∧ l.foldl (fun b c => setR c a' b) a = a' ∧ a'.e = a.e
  | [], s, s', a, a', _, _, h => by
    simp only [gtRAll, Option.some.injEq, Prod.mk.injEq] at h
    obtain ⟨rfl, rfl⟩ := h
    exact ⟨rfl, by simp, fun d _ _ => ⟨rfl, fun _ => rfl⟩, rfl, rfl⟩
  | c :: l, s, s', a, a', hn, hm, h => by
    have hn' := List.nodup_cons.1 hn
    have hc := hm c List.mem_cons_self
    unfold gtRAll at h
    split at h
    · rename_i hg
      obtain ⟨r, hr⟩ := Option.isSome_iff_exists.1 hg.2
      obtain ⟨x, hx, hs⟩ := gtR_back hc hr hg.1
      obtain ⟨k1, k2⟩ := gtR_set hc (some s) false a
      rw [hr] at h
      generalize (gtR c (some s) false a).2.2 = a1 at *
      obtain ⟨i1, i2, i3, i4, i5⟩ := gtRAll_back l r s' _ a' hn'.2 (fun d hd => hm d (List.mem_cons_of_mem _ hd)) h
      have hcx : putR c a' = some x := ((i3 c hc hn'.1).1).trans hx
      refine ⟨?_, ?_, fun d hd hdl => ?_, ?_, i5.trans k2⟩
      · rw [List.all_cons, i1, Bool.and_true]
        unfold okR
        rw [hcx]
        rfl
      · rw [List.flatMap_cons, List.append_assoc, ← i2]
        have : encR a' c = x := by unfold encR; rw [hcx]; rfl
        rw [this]
        exact hs
      · have hdc : d ≠ c := fun e => hdl (e ▸ List.mem_cons_self)
        have j := i3 d hd fun hh => hdl (List.mem_cons_of_mem _ hh)
        refine ⟨j.1.trans ?_, fun z => (j.2 z).trans ?_⟩
        · rw [k1, putR_set hd hc hdc]
        · rw [k1, setR_set hd hc hdc]
      · rw [List.foldl_cons, (i3 c hc hn'.1).2 a, ← k1]
        exact i4
    · cases h
theorem gtRAll_okw : ∀ (l : List UInt8) (s : St) (a : RsT) (y : St × RsT), a.Okw → gtRAll l s a = some y → y.2.Okw
  | [], s, a, y, h, e => by
    simp only [gtRAll, Option.some.injEq] at e
    subst e
    exact h
  | c :: l, s, a, y, h, e => by
    unfold gtRAll at e
    split at e
    · exact gtRAll_okw l _ _ y (gtR_okw s false h) e
    · cases e
theorem rs0_okw (e : Int) : RsT.Okw { rs0 with e := e } :=
  ⟨⟨i64_zero, i64_zero, i64_zero⟩, ⟨⟨Int.le_refl _, (by show (0 : Int) ≤ 255; decide)⟩, i64_zero, i64_zero, i64_zero, i64_zero, i64_zero, i64_zero, i64_zero⟩, Nat.zero_le _, i64_zero, i64_zero, ⟨Int.le_refl _, (by show (0 : Int) ≤ 18446744073709551615; decide)⟩, ⟨Int.le_refl _, (by show (0 : Int) ≤ 18446744073709551615; decide)⟩, fun y hy => (by cases hy), Nat.zero_le _⟩
/-- What is heard is told by just these bytes. -/
theorem aT_aH {p : Int} {s : List UInt8} (h : (aH p s).2 = 0) : aT p (aH p s).1 = (s, 0) ∧ (aH p s).1.Okw ∧ I64 (aH p s).1.e := by
  cases hl : toldL p with
  | none =>
    exfalso
    unfold aH at h
    rw [hl] at h
    have h' : (62 : Int) = 0 := h
    omega
  | some l =>
    obtain ⟨hn, -, f2⟩ := told_set hl
    have hm := (toldL_mem hl).1
    by_cases hq : (rdW (some s)).2 = none ∨ 63 < (rdW (some s)).1
    · exfalso
      unfold aH at h
      rw [hl] at h
      simp only at h
      rw [if_pos hq] at h
      have h' : (4 : Int) = 0 := h
      omega
    · have e : aH p s = endH (gtRAll (if (rdW (some s)).1 = 0 then l else []) (rdW (some s)).2 { rs0 with e := (rdW (some s)).1 }) := by
        unfold aH
        rw [hl]
        simp only
        rw [if_neg hq]
      have hwb := rdW_bd (some s)
      rw [not_or] at hq
      obtain ⟨T, hT⟩ : ∃ T, (rdW (some s)).2 = some T := Option.ne_none_iff_exists'.1 hq.1
      have hs := rdW_back hT
      rw [hT] at e
      generalize (rdW (some s)).1 = E at *
      obtain ⟨L, hL⟩ : ∃ L, (if E = 0 then l else []) = L := ⟨_, rfl⟩
      have hLn : L.Nodup := by rw [← hL]; split; exact hn; exact List.nodup_nil
      have hLm : ∀ c ∈ L, c ∈ lettersT := by
        rw [← hL]
        split
        · exact hm
        · intro c hc; cases hc
      rw [hL] at e
      rw [e] at h ⊢
      clear e
      cases hg : gtRAll L (some T) { rs0 with e := E } with
      | none =>
        rw [hg] at h
        have h' : (4 : Int) = 0 := h
        omega
      | some y =>
        obtain ⟨st, x⟩ := y
        have hko := gtRAll_okw L _ _ _ (rs0_okw E) hg
        rw [hg] at h
        simp only [endH] at h ⊢
        split at h
        · rename_i hd
          rw [if_pos hd]
          have hst : st = some [] := by simpa [doneB] using hd
          subst hst
          obtain ⟨i1, i2, i3, i4, i5⟩ := gtRAll_back L T [] _ x hLn hLm hg
          have hxe : x.e = E := i5
          simp only at hko
          refine ⟨?_, hko, by rw [hxe]; unfold I64; omega⟩
          have e2 : aT p x = finT (putAllR (if x.e = 0 then l else []) { x with e := 0 } (beN x.e 4)) := by
            unfold aT
            rw [hl]
            simp only
            rw [if_neg (by omega)]
            rfl
          show aT p x = _
          rw [e2, hxe, hL, finT_eq L _ _ hLn hLm, if_pos]
          · rw [hs, i2, List.append_nil]
            rfl
          · refine ⟨i1, ?_⟩
            by_cases h0 : E = 0
            · rw [if_pos h0] at hL
              subst hL
              have h0' : x.e = 0 := hxe.trans h0
              rw [rs_e0 h0']
              refine f2 x h0' ?_
              have : ({ rs0 with e := E } : RsT) = rs0 := by rw [h0]; rfl
              rw [this] at i4
              exact i4
            · rw [if_neg h0] at hL
              subst hL
              have h2 : ({ rs0 with e := E } : RsT) = x := i4
              rw [← h2]
              rfl
        · have h' : (4 : Int) = 0 := h
          omega
end Go.Proofs.Yteahlnoonmfjhaa
