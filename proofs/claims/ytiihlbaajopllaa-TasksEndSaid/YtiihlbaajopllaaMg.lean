/- Texts of mine in one: TkR, TkS, TkT. No statement of its own. -/
import Derived.Test.YtiihlbaajopllaaMf
set_option linter.unusedVariables false
set_option maxRecDepth 100000
namespace Go.Proofs.Ytiihlbaajopllaa
section
set_option linter.unusedVariables false

/-- A task that was added: what became of it (0 asks, 1 waits, 2 may be replied to, 3 was replied to). -/
structure Aw where
  n : Int
  v : Value
  l : List Wn
  st : Int
  b : Bool
  pl : Int
def liveB (a : Aw) : Bool := decide (a.st ≠ 3)
def toTe (a : Aw) : Te := ⟨(a.n, a.l), a.pl, a.st⟩
def toL (A : List Aw) : List Te := (A.filter liveB).map toTe
def isC (a : Aw) : Int := if a.st = 0 then 0 else if a.st = 3 then 2 else 1
def awC (a : Aw) : List Value := [.int .i64 a.n, a.v, .int .i64 (isC a), .bool a.b]
theorem awC_length (a : Aw) : (awC a).length = 4 := rfl
def muA : List Aw → Nat
  | [] => 0
  | a :: A => (3 - a.st).toNat + muA A
def upA (A : List Aw) (n s : Int) : List Aw := A.map fun a => if a.n = n ∧ a.st ≠ 3 then { a with st := s } else a
def syA (A : List Aw) : List Aw := A.map fun a => if a.st = 1 then { a with st := 2 } else a
def stOk (A : List Aw) : Prop := ∀ a ∈ A, a.st = 0 ∨ a.st = 1 ∨ a.st = 2 ∨ a.st = 3
theorem toL_cons (a : Aw) (A : List Aw) : toL (a :: A) = if a.st ≠ 3 then toTe a :: toL A else toL A := by
  unfold toL
  rw [List.filter_cons]
  unfold liveB
  by_cases h : a.st = 3 <;> simp [h]
theorem toL_app (A B : List Aw) : toL (A ++ B) = toL A ++ toL B := by
  unfold toL
  rw [List.filter_append, List.map_append]
theorem toL_sync (A : List Aw) : toL (syA A) = (toL A).map fun e => if e.is = 1 then { e with is := 2 } else e := by
  induction A with
  | nil => rfl
  | cons a A ih =>
    show toL ((if a.st = 1 then { a with st := 2 } else a) :: syA A) = _
    rw [toL_cons, toL_cons, ih]
    by_cases h3 : a.st = 3
    · simp [h3]
    · by_cases h1 : a.st = 1
      · simp [h1, toTe]
      · simp [h1, h3, toTe]
theorem toL_set (A : List Aw) (n s : Int) (hs : s ≠ 3) : toL (upA A n s) = setIs (toL A) n s := by
  induction A with
  | nil => rfl
  | cons a A ih =>
    show toL ((if a.n = n ∧ a.st ≠ 3 then { a with st := s } else a) :: upA A n s) = _
    rw [toL_cons, toL_cons, ih]
    by_cases h3 : a.st = 3
    · simp [h3]
    · by_cases h1 : a.n = n
      · simp [h1, h3, hs, setIs, toTe]
      · simp [h1, h3, setIs, toTe]
theorem toL_repl (A : List Aw) (n : Int) : toL (upA A n 3) = (toL A).filter fun e => decide (e.p.1 ≠ n) := by
  induction A with
  | nil => rfl
  | cons a A ih =>
    show toL ((if a.n = n ∧ a.st ≠ 3 then { a with st := 3 } else a) :: upA A n 3) = _
    rw [toL_cons, toL_cons, ih]
    by_cases h3 : a.st = 3
    · simp [h3]
    · by_cases h1 : a.n = n
      · simp [h1, h3, toTe]
      · simp [h1, h3, toTe]
theorem upA_set {A : List Aw} {n s : Int} {i : Nat} {a : Aw} (hnd : (A.map (·.n)).Nodup) (hi : A[i]? = some a) (hn : a.n = n) (h3 : a.st ≠ 3) : upA A n s = A.set i { a with st := s } := by
  apply List.ext_getElem?
  intro j
  unfold upA
  rw [List.getElem?_map, List.getElem?_set]
  obtain ⟨hil, rfl⟩ := List.getElem?_eq_some_iff.1 hi
  by_cases e : i = j
  · subst e
    simp [hil, hn, h3]
  · rw [if_neg e]
    by_cases hj : j < A.length
    · rw [List.getElem?_eq_getElem hj]
      rw [List.Nodup, List.pairwise_map, List.pairwise_iff_getElem] at hnd
      have : A[j].n ≠ n := by
        intro h
        rcases Nat.lt_or_gt_of_ne e with h' | h'
        · exact hnd i j hil hj h' (hn.trans h.symm)
        · exact hnd j i hj hil h' (h.trans hn.symm)
      simp [this]
    · rw [List.getElem?_eq_none (by omega)]
      rfl
theorem muA_set {A : List Aw} {i : Nat} {a b : Aw} (hi : A[i]? = some a) : muA (A.set i b) + (3 - a.st).toNat = muA A + (3 - b.st).toNat := by
  induction A generalizing i with
  | nil => simp at hi
  | cons c A ih =>
    cases i with
    | zero =>
      simp only [List.getElem?_cons_zero, Option.some.injEq] at hi
      subst hi
      simp only [List.set_cons_zero, muA]
      omega
    | succ i =>
      simp only [List.getElem?_cons_succ] at hi
      have := ih hi
      simp only [List.set_cons_succ, muA]
      omega
theorem muA_sync_le (A : List Aw) : muA (syA A) ≤ muA A := by
  induction A with
  | nil => exact Nat.le_refl _
  | cons a A ih =>
    show (3 - (if a.st = 1 then { a with st := 2 } else a).st).toNat + muA (syA A) ≤ (3 - a.st).toNat + muA A
    by_cases h : a.st = 1
    · rw [if_pos h, h]
      simp only
      omega
    · rw [if_neg h]
      omega
theorem muA_sync {A : List Aw} {a : Aw} (ha : a ∈ A) (h1 : a.st = 1) : muA (syA A) + 1 ≤ muA A := by
  induction A with
  | nil => cases ha
  | cons c A ih =>
    show (3 - (if c.st = 1 then { c with st := 2 } else c).st).toNat + muA (syA A) + 1 ≤ (3 - c.st).toNat + muA A
    rcases List.mem_cons.1 ha with rfl | ha
    · have := muA_sync_le A
      rw [if_pos h1, h1]
      show (3 - 2 : Int).toNat + _ + 1 ≤ (3 - 1 : Int).toNat + _
      have e1 : (3 - 2 : Int).toNat = 1 := rfl
      have e2 : (3 - 1 : Int).toNat = 2 := rfl
      omega
    · have := ih ha
      by_cases h : c.st = 1
      · rw [if_pos h, h]
        simp only
        omega
      · rw [if_neg h]
        omega
theorem muA_pos {A : List Aw} (hok : stOk A) (hne : toL A ≠ []) : 0 < muA A := by
  induction A with
  | nil => exact absurd rfl hne
  | cons a A ih =>
    rw [toL_cons] at hne
    by_cases h : a.st = 3
    · rw [if_neg (by simp [h])] at hne
      have := ih (fun b hb => hok b (List.mem_cons_of_mem _ hb)) hne
      simp only [muA]
      omega
    · have := hok a (List.mem_cons_self ..)
      simp only [muA]
      omega
theorem muA_le (A : List Aw) (h : ∀ a ∈ A, a.st = 0) : muA A = 3 * A.length := by
  induction A with
  | nil => rfl
  | cons a A ih =>
    have h1 := ih fun b hb => h b (List.mem_cons_of_mem _ hb)
    have h2 := h a (List.mem_cons_self ..)
    simp only [muA, List.length_cons, h2]
    omega
theorem filter_at {α : Type} (p : α → Bool) : ∀ (A : List α) (k : Nat) (a : α), (A.filter p)[k]? = some a → ∃ i, A[i]? = some a ∧ (A.take i).filter p = (A.filter p).take k ∧ p a = true
  | [], k, a, h => by simp at h
  | c :: A, k, a, h => by
    rw [List.filter_cons] at h ⊢
    by_cases hc : p c = true
    · rw [if_pos hc] at h ⊢
      cases k with
      | zero =>
        simp only [List.getElem?_cons_zero, Option.some.injEq] at h
        subst h
        exact ⟨0, rfl, rfl, hc⟩
      | succ k =>
        simp only [List.getElem?_cons_succ] at h
        obtain ⟨i, h1, h2, h3⟩ := filter_at p A k a h
        exact ⟨i + 1, h1, by rw [List.take_succ_cons, List.filter_cons, if_pos hc, h2, List.take_succ_cons], h3⟩
    · rw [if_neg hc] at h ⊢
      obtain ⟨i, h1, h2, h3⟩ := filter_at p A k a h
      exact ⟨i + 1, h1, by rw [List.take_succ_cons, List.filter_cons, if_neg hc, h2], h3⟩
theorem lkL_toL (A : List Aw) : lkL (toL A) = (A.filter liveB).map fun a => (a.n, a.l) := by
  unfold lkL toL
  rw [List.map_map]
  rfl
/-- What a turn is. -/
theorem turn_of {A : List Aw} {x : Tn} {cnt last : Int} (h : x ∈ canT ⟨toL A, cnt, last⟩) :
    (x = (-1, 2) ∧ ∃ a ∈ A, a.st = 1) ∨ ∃ i a, A[i]? = some a ∧ a.n = x.1 ∧ ((x.2 = 3 ∧ a.st = 2) ∨ (x.2 = 1 ∧ a.st = 0 ∧ hasAt (lkL (toL A)) ((A.take i).filter liveB).length = true ∧ (toL A)[((A.take i).filter liveB).length]? = some (toTe a) ∧ ∀ k b, k < i → A[k]? = some b → b.st ≠ 3 → clashL b.l a.l = false)) := by
  unfold canT at h
  simp only at h
  rcases List.mem_append.1 h with h | h
  · right
    unfold canR at h
    obtain ⟨k, hk, hx⟩ := List.mem_flatMap.1 h
    have hk' : k < (toL A).length := List.mem_range.1 hk
    unfold canK at hx
    rw [List.getElem?_eq_getElem hk'] at hx
    simp only at hx
    have hkf : k < (A.filter liveB).length := by simpa [toL] using hk'
    obtain ⟨i, h1, h2, h3⟩ := filter_at liveB A k _ (List.getElem?_eq_getElem hkf)
    have ha : (toL A)[k] = toTe (A.filter liveB)[k] := by simp [toL]
    have hlen : ((A.take i).filter liveB).length = k := by rw [h2, List.length_take]; omega
    rw [ha] at hx
    refine ⟨i, _, h1, ?_⟩
    rw [hlen]
    split at hx
    · rename_i h0
      split at hx
      · rename_i hh
        obtain rfl := List.mem_singleton.1 hx
        refine ⟨rfl, .inr ⟨rfl, h0, hh, by rw [List.getElem?_eq_getElem hk', ha], fun m b hm hb hb3 => ?_⟩⟩
        have hp : (lkL (toL A))[k]? = some ((A.filter liveB)[k].n, (A.filter liveB)[k].l) := by
          rw [lkL_toL, List.getElem?_map, List.getElem?_eq_getElem hkf]
          rfl
        rw [hasAt_some hp] at hh
        unfold mayB at hh
        simp only [Bool.not_eq_true', List.any_eq_false] at hh
        have hbm : b ∈ (A.filter liveB).take k := by
          rw [← h2, List.mem_filter]
          exact ⟨List.mem_of_getElem? (i := m) (by rw [List.getElem?_take, if_pos hm]; exact hb), by simp [liveB, hb3]⟩
        have := hh (b.n, b.l) (by rw [lkL_toL, ← List.map_take]; exact List.mem_map.2 ⟨b, hbm, rfl⟩)
        simpa using this
      · cases hx
    · split at hx
      · rename_i h2'
        obtain rfl := List.mem_singleton.1 hx
        exact ⟨rfl, .inl ⟨rfl, h2'⟩⟩
      · cases hx
  · left
    split at h
    · rename_i hw
      refine ⟨List.mem_singleton.1 h, ?_⟩
      unfold waitsB at hw
      obtain ⟨e, he, h1⟩ := List.any_eq_true.1 hw
      obtain ⟨a, ha, rfl⟩ := List.mem_map.1 he
      exact ⟨a, (List.mem_filter.1 ha).1, of_decide_eq_true h1⟩
    · cases h
theorem can_some {T : TK} (hok : T.Ok) (hne : T.L ≠ []) : canT T ≠ [] := by
  cases hL : T.L with
  | nil => exact absurd hL hne
  | cons e L =>
    have hm : e ∈ T.L := by rw [hL]; exact List.mem_cons_self ..
    have hin : ∀ x, x ∈ canK T.L 0 → canT T ≠ [] := fun x hx h => by
      have : x ∈ canT T := List.mem_append_left _ (List.mem_flatMap.2 ⟨0, List.mem_range.2 (by rw [hL]; simp), hx⟩)
      rw [h] at this
      cases this
    rcases hok.is e hm with h | h | h
    · refine hin (e.p.1, 1) ?_
      unfold canK
      have hh : hasAt (lkL T.L) 0 = true := by
        rw [hL]
        unfold hasAt lkL
        simp [mayB]
      rw [hh, hL]
      simp [h]
    · intro hc
      have : ((-1 : Int), (2 : Int)) ∈ canT T := List.mem_append_right _ (by
        have : waitsB T.L = true := List.any_eq_true.2 ⟨e, hm, by simp [h]⟩
        rw [this]
        simp)
      rw [hc] at this
      cases this
    · refine hin (e.p.1, 3) ?_
      unfold canK
      rw [hL]
      simp [h]
theorem rot_memC {T : TK} {x : Tn} (h : x ∈ rotT T.L) : x ∈ canT T := by
  unfold rotT at h
  unfold canT
  rcases List.mem_append.1 h with h | h
  · exact List.mem_append_right _ h
  · exact List.mem_append_left _ h
theorem next_can {T : TK} (hne : canT T ≠ []) : ∃ x last, x ∈ canT T ∧ T.next = ({ T with last := last }, x, 0) := by
  have h0 : 0 < (rotT T.L).length := by
    have hl : (rotT T.L).length = (canT T).length := rot_len
    rw [hl]
    exact List.length_pos_iff.2 hne
  obtain ⟨j, x, h1, h2⟩ := next_some h0
  exact ⟨x, _, rot_memC (List.mem_of_getElem? h1), h2⟩
theorem pick_can {T : TK} (hne : canT T ≠ []) (n : Int) : ∃ x last, x ∈ canT T ∧ T.pick n = ({ T with last := last }, x, 0) := by
  have h0 : 0 < (canT T).length := List.length_pos_iff.2 hne
  have hi : pickI (canT T) n < (canT T).length := by
    unfold pickI
    have := Int.emod_lt_of_pos (n % 18446744073709551616) (by omega : (0 : Int) < ((canT T).length : Int))
    have := Int.emod_nonneg (n % 18446744073709551616) (by omega : ((canT T).length : Int) ≠ 0)
    omega
  refine ⟨(canT T)[pickI (canT T) n], placeT T.L (canT T)[pickI (canT T) n].1, List.getElem_mem hi, ?_⟩
  unfold TK.pick
  rw [List.getElem?_eq_getElem hi]
structure AInv (A : List Aw) (T : TK) : Prop where
  L : T.L = toL A
  nd : (A.map (·.n)).Nodup
  ok : stOk A
theorem toL_mem {A : List Aw} {a : Aw} {i : Nat} (hi : A[i]? = some a) (h3 : a.st ≠ 3) : toTe a ∈ toL A :=
  List.mem_map.2 ⟨a, List.mem_filter.2 ⟨List.mem_of_getElem? hi, by simp [liveB, h3]⟩, rfl⟩
theorem set_inv {A : List Aw} {a : Aw} {i : Nat} {s : Int} (hnd : (A.map (·.n)).Nodup) (hok : stOk A) (hi : A[i]? = some a) (hs : s = 0 ∨ s = 1 ∨ s = 2 ∨ s = 3) : ((A.set i { a with st := s }).map (·.n)).Nodup ∧ stOk (A.set i { a with st := s }) := by
  obtain ⟨hil, rfl⟩ := List.getElem?_eq_some_iff.1 hi
  refine ⟨?_, fun b hb => ?_⟩
  · have : (A.set i { A[i] with st := s }).map (·.n) = A.map (·.n) := by
      rw [List.map_set]
      apply List.ext_getElem?
      intro j
      rw [List.getElem?_set]
      by_cases e : i = j
      · subst e
        simp [hil]
      · rw [if_neg e]
    rw [this]
    exact hnd
  · rcases List.mem_or_eq_of_mem_set hb with h | rfl
    · exact hok b h
    · exact hs
theorem inv_sync {A : List Aw} {T : TK} {a : Aw} (h : AInv A T) (ha : a ∈ A) (h1 : a.st = 1) : AInv (syA A) T.sync ∧ muA (syA A) + 1 ≤ muA A ∧ (syA A).flatMap awC = A.flatMap awC ∧ 0 < (syncL T.L).length := by
  refine ⟨⟨?_, ?_, ?_⟩, muA_sync ha h1, ?_, ?_⟩
  · show (T.L.map _) = _
    rw [h.L, toL_sync]
  · have : (syA A).map (·.n) = A.map (·.n) := by
      unfold syA
      rw [List.map_map]
      apply List.map_congr_left
      intro b _
      simp only [Function.comp_apply]
      split <;> rfl
    rw [this]
    exact h.nd
  · intro b hb
    obtain ⟨c, hc, rfl⟩ := List.mem_map.1 hb
    split
    · exact .inr (.inr (.inl rfl))
    · exact h.ok c hc
  · unfold syA
    rw [List.flatMap_map]
    congr 1
    funext b
    split
    · rename_i hb
      unfold awC isC
      simp [hb]
    · rfl
  · obtain ⟨i, hi⟩ := List.getElem?_of_mem ha
    have hm := toL_mem hi (by omega)
    rw [← h.L] at hm
    unfold syncL
    rw [List.length_map]
    exact List.length_pos_of_mem (List.mem_filter.2 ⟨hm, by simp [toTe, h1]⟩)
theorem inv_repl {A : List Aw} {T : TK} {a : Aw} {i : Nat} (h : AInv A T) (hok : T.Ok) (hi : A[i]? = some a) (h2 : a.st = 2) : T.replE a.n = 0 ∧ AInv (A.set i { a with st := 3 }) (T.repl a.n) ∧ muA (A.set i { a with st := 3 }) + 1 ≤ muA A := by
  have h3 : a.st ≠ 3 := by omega
  have hm := toL_mem hi h3
  rw [← h.L] at hm
  have hE : T.replE a.n = 0 := by
    unfold TK.replE
    have := findT_mem hok.nd hm
    rw [show (toTe a).p.1 = a.n from rfl] at this
    rw [this]
    simp [toTe, h2]
  obtain ⟨k1, k2⟩ := set_inv h.nd h.ok hi (s := 3) (.inr (.inr (.inr rfl)))
  refine ⟨hE, ⟨?_, k1, k2⟩, ?_⟩
  · unfold TK.repl
    rw [if_pos hE, ← upA_set h.nd hi rfl h3, toL_repl, h.L]
  · have := muA_set (b := { a with st := 3 }) hi
    rw [h2] at this
    have e1 : (3 - 2 : Int).toNat = 1 := rfl
    have e2 : (3 - 3 : Int).toNat = 0 := rfl
    simp only [e1, e2] at this
    omega
theorem inv_did {A : List Aw} {T : TK} {a : Aw} {i k : Nat} (b : Bool) (h : AInv A T) (hok : T.Ok) (hi : A[i]? = some a) (h0 : a.st = 0) (hk : (toL A)[k]? = some (toTe a)) (hh : hasAt (lkL (toL A)) k = true) : T.didE a.n = 0 ∧ AInv (A.set i { a with st := if b then 1 else 2 }) (T.did a.n b) ∧ muA (A.set i { a with st := if b then 1 else 2 }) + 1 ≤ muA A := by
  have h3 : a.st ≠ 3 := by omega
  have hm := toL_mem hi h3
  rw [← h.L] at hm hk hh
  have hE : T.didE a.n = 0 := by
    unfold TK.didE
    have := findT_mem hok.nd hm
    rw [show (toTe a).p.1 = a.n from rfl] at this
    rw [this]
    have hl := hasL_of hok.nd hk
    rw [show (toTe a).p.1 = a.n from rfl] at hl
    rw [hl, hh]
    simp [toTe, h0]
  have hs : (if b then (1 : Int) else 2) ≠ 3 := by split <;> omega
  obtain ⟨k1, k2⟩ := set_inv h.nd h.ok hi (s := if b then 1 else 2) (by split <;> simp)
  refine ⟨hE, ⟨?_, k1, k2⟩, ?_⟩
  · unfold TK.did
    rw [if_pos hE, ← upA_set h.nd hi rfl h3, toL_set _ _ _ hs, h.L]
  · have := muA_set (b := { a with st := if b then 1 else 2 }) hi
    rw [h0] at this
    have e1 : (3 - 0 : Int).toNat = 3 := rfl
    have e2 : (3 - (if b then 1 else 2) : Int).toNat ≤ 2 := by split <;> decide
    simp only [e1] at this
    omega
theorem inv_add {A : List Aw} {T : TK} (h0 : ∀ a ∈ A, a.st = 0) (hL : T.L = toL A) (n : Int) (v : Value) (l : List Wn) (b : Bool) : (T.addE n l = 0 → (T.add n l).L = toL (A ++ [⟨n, v, l, 0, b, T.cnt + 1⟩])) ∧ (T.addE n l ≠ 0 → T.add n l = T) := by
  refine ⟨fun h => ?_, fun h => ?_⟩
  · unfold TK.addE at h
    unfold TK.add
    rw [if_pos h, toL_app, hL]
    rfl
  · unfold TK.addE at h
    unfold TK.add
    rw [if_neg h]
theorem toL_all {A : List Aw} (h0 : ∀ a ∈ A, a.st = 0) : toL A = A.map toTe := by
  unfold toL
  rw [List.filter_eq_self.2]
  intro a ha
  simp [liveB, h0 a ha]
theorem inv_start {A : List Aw} {T : TK} (hok : T.Ok) (h0 : ∀ a ∈ A, a.st = 0) (hL : T.L = toL A) : AInv A T ∧ A.length ≤ 16 ∧ muA A = 3 * A.length := by
  refine ⟨⟨hL, ?_, fun a ha => .inl (h0 a ha)⟩, ?_, muA_le A h0⟩
  · have := hok.nd
    rw [hL, toL_all h0, List.map_map] at this
    exact this
  · have := hok.len
    rw [hL, toL_all h0, List.length_map] at this
    exact this
theorem end_all {A : List Aw} (h : toL A = []) : ∀ a ∈ A, isC a = 2 := by
  intro a ha
  by_cases h3 : a.st = 3
  · unfold isC
    rw [h3]
    rfl
  · obtain ⟨i, hi⟩ := List.getElem?_of_mem ha
    have := toL_mem hi h3
    rw [h] at this
    cases this
theorem isC_live {a : Aw} (h : a.st = 0 ∨ a.st = 1 ∨ a.st = 2 ∨ a.st = 3) : (a.st = 3 → isC a = 2) ∧ (a.st ≠ 3 → isC a < 2 ∧ 0 ≤ isC a) := by
  unfold isC
  rcases h with h | h | h | h <;> rw [h] <;> decide
end

section
set_option linter.unusedVariables false
set_option maxRecDepth 100000
open Go.RowKit

theorem OwnR.setC {w : World} {B : Nat} {T : TypeId} {sz : Nat} {n b c j : Nat} {cs : List Value} {x : Value} (h : OwnR w B T sz One (.slice (some ⟨b, 0, none⟩) n c) n cs) (hj : j < cs.length) (hx : One x) :
    ∃ row', w.setCell ⟨b, j, none⟩ x = w.setRow b row' ∧ OwnR (w.setRow b row') B T sz One (.slice (some ⟨b, 0, none⟩) n c) n (cs.set j x) := by
  obtain ⟨h0, ⟨hv, _⟩ | ⟨g, c', junk, hv, hB, hg, hc, hC⟩⟩ := h
  · cases hv
  · simp only [Value.slice.injEq, Option.some.injEq, Addr.mk.injEq, and_true, true_and] at hv
    obtain ⟨rfl, rfl⟩ := hv
    refine ⟨_, setCell_eq_setRow w b j _ T (0, 0) x hg, by rw [List.length_set]; exact h0, .inr ⟨b, c, junk, rfl, hB, ?_, by rw [List.length_set]; exact hc, fun u hu => ?_⟩⟩
    · rw [setRow_heap w b _ _ _ _ hg]
      congr 2
      apply Array.ext'
      simp [List.set_append_left _ _ hj]
    · rcases List.mem_append.1 hu with hu | hu
      · rcases List.mem_or_eq_of_mem_set hu with hu | rfl
        · exact hC u (List.mem_append_left _ hu)
        · exact hx
      · exact hC u (List.mem_append_right _ hu)
section
variable {W w : World} {ds : List (Ob Zf)}
theorem OSt.setOwn {T : TypeId} {hT : T ≠ 98} {sz n b c j : Nat} {cs : List Value} {x : Value} (h : OSt W ds w) (i : Nat) (hi : ds[i]? = some (ownOb T hT sz (.slice (some ⟨b, 0, none⟩) n c) n cs)) (hj : j < cs.length) (hx : One x) :
    OSt W (ds.set i (ownOb T hT sz (.slice (some ⟨b, 0, none⟩) n c) n (cs.set j x))) (w.setCell ⟨b, j, none⟩ x) := by
  obtain ⟨S, h1, _, h3, _⟩ := h.pick hi
  obtain ⟨row', e, ho⟩ := OwnR.setC h1.1 hj hx
  rw [e]
  have hb : S b := h1.2 b (by simp [Value.ownBlock])
  exact h3 _ _ ⟨⟨ho, fun b' hb' => .inl (h1.2 b' hb')⟩, mut_setRow hb _⟩
theorem own_flat {w : World} {T : TypeId} {α : Type} {enc : α → List Value} {sz n c b : Nat} {l : List α} (h : OwnR w 0 T sz One (.slice (some ⟨b, 0, none⟩) n c) n (l.flatMap enc)) (he : ∀ x, (enc x).length = sz) (hl : l.length = n) {k : Nat} {x : α} (hk : l[k]? = some x) :
    b < w.heap.size ∧ (0 < sz → n ≤ c) ∧ (∀ i (hi : i < sz), w.cell? ⟨b, k * sz + i, none⟩ = (enc x)[i]?) ∧ (∀ o, w.frozen? ⟨b, o, none⟩ = false) := by
  have hkl := (List.getElem?_eq_some_iff.1 hk).1
  have h' := h
  obtain ⟨g, hg, -, hlt, hc, hj⟩ := h.cells (by omega)
  simp only [Option.some.injEq, Addr.mk.injEq, and_true] at hg
  subst hg
  refine ⟨hlt, hc, fun i hi => ?_, fun o => ?_⟩
  · have h1 := flat_at he l k i x hk hi
    have h2 : k * sz + i < (l.flatMap enc).length := by
      rw [flat_length he]
      have : (k + 1) * sz ≤ l.length * sz := Nat.mul_le_mul_right _ hkl
      rw [Nat.add_mul] at this
      omega
    rw [hj _ h2, ← h1, List.getElem?_eq_getElem h2]
  · obtain ⟨_, ⟨hv, _⟩ | ⟨g, c', junk, hv, hB, hg, _⟩⟩ := h'
    · cases hv
    · simp only [Value.slice.injEq, Option.some.injEq, Addr.mk.injEq, and_true, true_and] at hv
      obtain ⟨rfl, rfl⟩ := hv
      simp [World.frozen?, hg]
theorem app_aw {w : World} {B n : Nat} {v x : Value} {cs : List Value} {m : Nat} {new : List Value} {tx ty : TypeId} (ho : OwnR w B 73 4 One v n cs) (hs : Src Try.prog 4 tx x m new w) (hB : B ≤ w.heap.size) (hn : ∀ u ∈ new, One u) (hc : n + m ≤ 100000000) :
    ∃ v' w', (Builtin.append_ #[71, tx] ty #[v, x]).run Try.prog w = .ok v' w' ∧ OwnR w' B 73 4 One v' (n + m) (cs ++ new) ∧ Below B w w' ∧ w.grownBy w' v.ownBlock ∧ (∀ b, v'.ownBlock = some b → v.ownBlock = some b ∨ w.heap.size ≤ b) := by
  have h : (Try.prog.info? 73).map (fun i => (i.zero, i.size, i.bytes)) = some (some (.agg #[.int .i64 0, .slice none 0 0, .int .i64 0, .bool false]), 4, 48) := by kernel_rfl
  obtain ⟨i, hi, hz0, hz1, hz2⟩ := info_prt h
  exact appG2 (ty := ty) Try.underlying71 hi hz1 hz0 rfl ho hs hB (by omega) hn (by intro u hu; simp [Value.cells] at hu; rcases hu with rfl | rfl | rfl | rfl <;> rfl) (by rw [hz2]; omega) (by omega)
theorem awC_one (a : Aw) (h : One a.v) : ∀ u ∈ awC a, One u := by intro u hu; simp [awC] at hu; rcases hu with rfl | rfl | rfl | rfl <;> first | exact h | rfl
theorem OSt.appAw {n g : Nat} {v : Value} {cs : List Value} (h : OSt W ds w) (i : Nat) (hi : ds[i]? = some (ownOb 73 (by decide) 4 v n cs)) (a : Aw) (ha : One a.v) (hn : n ≤ 1000000) (hg : w.heap[g]? = some (.cells (awC a).toArray 73 (0, 0))) :
    ∃ v' w', (Builtin.append_ #[71, 71] 71 #[v, .slice (some ⟨g, 0, none⟩) 1 1]).run Try.prog w = .ok v' w' ∧ OSt W (ds.set i (ownOb 73 (by decide) 4 v' (n + 1) (cs ++ awC a))) w' := by
  obtain ⟨S, h1, _, h3, _⟩ := h.pick hi
  have hsrc : Src Try.prog 4 71 (.slice (some ⟨g, 0, none⟩) 1 1) 1 (awC a) w := src_row Try.underlying71 hg rfl (awC_one a ha)
  obtain ⟨v', w', hr, ho2, hb2, hg2, hs2⟩ := app_aw (ty := 71) h1.1 hsrc (Nat.zero_le _) (awC_one a ha) (by omega)
  refine ⟨v', w', hr, h3 _ _ ⟨⟨ho2, fun b hb => ?_⟩, Mut.of_grown hg2 h1.2⟩⟩
  rcases hs2 b hb with e | e
  · exact .inl (h1.2 b e)
  · exact .inr ⟨e, (own_lt ho2 hb).2⟩
theorem flat_set {A : List Aw} {i : Nat} {a : Aw} {s : Int} (hi : A[i]? = some a) : (A.set i { a with st := s }).flatMap awC = (A.flatMap awC).set (i * 4 + 2) (.int .i64 (isC { a with st := s })) := by
  induction A generalizing i with
  | nil => simp at hi
  | cons c A ih =>
    cases i with
    | zero =>
      simp only [List.getElem?_cons_zero, Option.some.injEq] at hi
      subst hi
      simp [awC, List.set_cons_zero]
    | succ i =>
      simp only [List.getElem?_cons_succ] at hi
      have e : (i + 1) * 4 + 2 = 4 + (i * 4 + 2) := by omega
      rw [List.set_cons_succ, List.flatMap_cons, List.flatMap_cons, ih hi, e]
      rw [List.set_append_right _ _ (by simp [awC])]
      congr 2
      simp [awC]
end
end

section
set_option linter.unusedVariables false
set_option maxRecDepth 100000
open Go.RowKit

theorem i64_wf {a : Int} (h : (Lit.int .i64 a).wf = true) : -9223372036854775808 ≤ a ∧ a ≤ 9223372036854775807 := by
  simp [Lit.wf, IntKind.min, IntKind.max, IntKind.signed, IntKind.bits] at h
  omega
structure IntsE where
  v : Value
  l : List Int
structure IntsE.Ok (w : World) (x : IntsE) : Prop where
  r : RIn w x.v x.l
  len : x.l.length ≤ maxLen
  wf : ∀ n ∈ x.l, (Lit.int .i64 n).wf = true
section
open Go.ChangeShapes Go.WideShapes Go.ChangeAt Go.Deep
variable {H : Type} {enc : TypeId × Value → H} {W : World} {base : Nat} {b0 : Nat} {spare : Nat → Bool} {held : Bool}
theorem open_Wints {v : Value} {d : DataW H} {p : List MemPlace} {r : Reach} (hv : Value.okWide Try.prog W r b0 28 v) (h : DataW.Trod enc Try.prog W base spare held 28 v d p) : ∃ x : IntsE, v = x.v ∧ x.Ok W := by
  obtain ⟨a0, len, cap, rfl⟩ := okWide_slice Try.underlying28 hv
  obtain ⟨m, hm⟩ := h
  rcases open_ints Try.underlying28 Try.underlying3 (by kernel_rfl) hm with ⟨h0, _⟩ | ⟨a, len', cap', zs, h0, hb, hl, hcap, hz, _, hcell, hw⟩
  · obtain ⟨rfl, rfl, rfl⟩ : a0 = none ∧ len = 0 ∧ cap = 0 := by simpa [Value.cells] using h0
    exact ⟨⟨_, []⟩, rfl, ⟨rfl, .inl ⟨none, 0, rfl, rfl⟩⟩, Nat.zero_le _, fun _ h => by cases h⟩
  · obtain ⟨rfl, rfl, rfl⟩ : a0 = some a ∧ len = len' ∧ cap = cap' := by simpa [Value.cells] using h0
    obtain ⟨hs, hlt⟩ := has_slice Try.underlying28 hv
    obtain ⟨b, off, spot⟩ := a
    simp only at hs
    subst hs
    have hlz : len ≤ zs.length := by rw [hz]; split <;> omega
    have hlen : (zs.take len).length = len := by simp; omega
    refine ⟨⟨_, zs.take len⟩, rfl, ⟨by rw [ics_length, Nat.mul_one], .inr ⟨b, off, cap, by rw [hlen], hlt, by rw [hlen]; omega, fun j hj => ?_⟩⟩, by rw [hlen]; omega, fun n hn => hw n (List.mem_of_mem_take hn)⟩
    have hj' : j < len := by rw [ics_length, hlen] at hj; exact hj
    have hc' := hcell j (by omega)
    rw [Addr.add_lit] at hc'
    rw [hc']
    simp [ics, List.getElem?_eq_getElem (show j < zs.length by omega)]
end
theorem live_nd {A : List Aw} {i j : Nat} {a b : Aw} (hnd : (A.map (·.n)).Nodup) (hi : A[i]? = some a) (hj : A[j]? = some b) (h : i ≠ j) : a.n ≠ b.n := by
  obtain ⟨hil, rfl⟩ := List.getElem?_eq_some_iff.1 hi
  obtain ⟨hjl, rfl⟩ := List.getElem?_eq_some_iff.1 hj
  rw [List.Nodup, List.pairwise_map, List.pairwise_iff_getElem] at hnd
  intro e
  rcases Nat.lt_or_gt_of_ne h with h' | h'
  · exact hnd i j hil hjl h' e
  · exact hnd j i hjl hil h' e.symm
section
variable {W w : World} {g n : Nat} {v : Value} {T : TK} {A : List Aw}
set_option maxHeartbeats 8000000 in
theorem afterO (x : Tn) (h : OSt W [ownOb 73 (by decide) 4 v n (A.flatMap awC), tkOb g T] w) (hA : AInv A T) (hn : A.length = n) (hn16 : n ≤ 16) (hx : x ∈ canT T) (hR : ∀ a ∈ A, RWn W a.v a.l ∧ a.l.length ≤ 20) :
    Calls Try.prog 35 #[.pointer (some ⟨g, 0, none⟩), v, .agg #[.int .i64 x.1, .int .u8 x.2]] w fun r w' => ∃ A' T', r = .returned (.bool true) ∧ OSt W [ownOb 73 (by decide) 4 v n (A'.flatMap awC), tkOb g T'] w' ∧ AInv A' T' ∧ A'.length = n ∧ muA A' + 1 ≤ muA A ∧ (∀ a ∈ A', RWn W a.v a.l ∧ a.l.length ≤ 20) := by
  have hok : T.Ok := by obtain ⟨S, h1, _⟩ := h.pick (i := 1) rfl; exact h1.2
  obtain ⟨L, cnt, last⟩ := T
  obtain rfl : L = toL A := hA.L
  rcases turn_of hx with ⟨rfl, a, ha, h1⟩ | ⟨i, a, hi, hn1, hc⟩
  · obtain ⟨k1, k2, k3, k4⟩ := inv_sync hA ha h1
    have HN : Hid (OSt W [ownOb 73 (by decide) 4 v n (A.flatMap awC), tkOb g ⟨toL A, cnt, last⟩] (w.alloc (.cells #[.int .i64 (-1), .int .u8 2] 64))) := Lib.hid (h.ext (extAl _ _))
    have KS := Lib.hid (tsync1 1 HN.out rfl _ rfl k4 rfl)
    have k4' : (0 : Int) < ((syncL (toL A)).length : Int) := by have := k4; simp only at this; omega
    have k5 : 0 < (syncL (toL A)).length := k4
    have F : Hid (AInv (syA A) (TK.sync ⟨toL A, cnt, last⟩) ∧ (syA A).length = n ∧ muA (syA A) + 1 ≤ muA A ∧ (∀ a ∈ syA A, RWn W a.v a.l ∧ a.l.length ≤ 20)) := Lib.hid ⟨k1, by unfold syA; rw [List.length_map]; exact hn, k2, fun b hb => by
      obtain ⟨c, hc, rfl⟩ := List.mem_map.1 hb
      have := hR c hc
      split <;> exact this⟩
    have HC := Lib.hid k3
    clear h hA hR hx ha h1 k1 k2 k3 k4 hok hn hn16
    go_enter Try.func35, Try.ntmps35
    go_wp2_with fail
    refine KS.out.mono ?_
    rintro e w1 ⟨b, c, junk, rfl, hc, h1⟩
    have H1 := Lib.hid (h1.dropI 0)
    clear h1 KS HN
    go_wp2
    go_ret
    exact ⟨_, _, rfl, by rw [HC.out]; exact H1.out, F.out⟩
  · obtain ⟨x1, x2⟩ := x
    simp only at hn1 hc
    subst hn1
    have h3 : a.st ≠ 3 := by rcases hc with ⟨_, h⟩ | ⟨_, h, _⟩ <;> omega
    have hm := hok.n0 _ (toL_mem hi h3)
    have hn0 : 0 ≤ a.n := hm.1
    have hn9 : a.n ≤ 9223372036854775807 := hm.2
    have hne : (a.n == -1) = false := by rw [beq_eq_false_iff_ne]; omega
    have hil := (List.getElem?_eq_some_iff.1 hi).1
    obtain ⟨Av, c, rfl⟩ := (h.own 0 rfl).form
    obtain ⟨b, rfl, -⟩ := (h.own 0 rfl).cells (by omega)
    have HN : Hid (OSt W [ownOb 73 (by decide) 4 (.slice (some ⟨b, 0, none⟩) n c) n (A.flatMap awC), tkOb g ⟨toL A, cnt, last⟩] (w.alloc (.cells #[.int .i64 a.n, .int .u8 x2] 64))) := Lib.hid (h.ext (extAl _ _))
    have HX0 := Lib.hid (heap_alloc_last w (.cells #[.int .i64 a.n, .int .u8 x2] 64))
    have HI := Lib.hid hi
    have HA := Lib.hid hA
    have HRR := Lib.hid hR
    have HOK := Lib.hid hok
    have HC := Lib.hid hc
    have HAN := Lib.hid hn
    have hx2 : x2 = 3 ∨ x2 = 1 := by rcases hc with ⟨h, _⟩ | ⟨h, _⟩ <;> omega
    clear h hi hA hR hx hok hc hm hn
    go_enter Try.func35, Try.ntmps35
    go_wp2
    generalize w.alloc (.cells #[.int .i64 a.n, .int .u8 x2] 64) = wb at *
    generalize w.heap.size = rb at *
    go_loopg [9] i (fun gg s wr => ∃ k : Nat, k ≤ i ∧ i - k ≤ gg ∧ s = .int .i64 k ∧ Hid (Ext wb wr))
    case atStart => exact ⟨0, Nat.zero_le _, by omega, rfl, Lib.hid (Ext.refl wb)⟩
    case round =>
      obtain ⟨k, hk, hg2, rfl, HW⟩ := hrel
      have HK := Lib.hid (HN.out.ext HW.out)
      obtain ⟨u0, u1, uf, ul⟩ := blk2 (Ext.blk HW.out HX0.out)
      have hAl := HAN.out
      have hkn : k < n := by omega
      obtain ⟨y, hy⟩ : ∃ y, A[k]? = some y := ⟨_, List.getElem?_eq_getElem (by omega)⟩
      obtain ⟨hbl, hbc, hbj, hbf⟩ := own_flat (HK.out.own 0 rfl) awC_length HAN.out hy
      have hbc := hbc (by omega)
      have y0 := hbj 0 (by omega)
      have y2 := hbj 2 (by omega)
      simp only [awC, Nat.add_zero, List.getElem?_cons_zero, List.getElem?_cons_succ] at y0 y2
      clear hbj hAl
      by_cases hki : k = i
      · subst hki
        obtain rfl : y = a := Option.some.inj (hy.symm.trans HI.out)
        clear hy hg2 hk
        have HY2 := Lib.hid y2
        have e0 := fun (ψ : World → Prop) (e : ExtP wr.heap.size wr ψ) => e.cell y0 hbl
        have e1 := fun (ψ : World → Prop) (e : ExtP wr.heap.size wr ψ) => e.cell u0 ul
        clear y0 y2 u0 u1 uf hbf
        rcases HC.out with ⟨rfl, hst⟩ | ⟨rfl, hst, hh, hke, hcl⟩
        · have e1c : isC y = 1 := by unfold isC; rw [hst]; rfl
          obtain ⟨q1, q2, q3⟩ := inv_repl HA.out HOK.out HI.out hst
          have HQ1 := Lib.hid q1
          have HQ2 := Lib.hid (And.intro q2 q3)
          have y2 := HY2.out
          have HE1 := Lib.hid e1c
          rw [e1c] at y2
          have e2 := fun (ψ : World → Prop) (e : ExtP wr.heap.size wr ψ) => e.cell y2 hbl
          clear y2 hst e1c q1 q2 q3 HC hx2
          go_wp2
          refine wp_region_pieces 16  [(true, [0, 1, 2, 3, 4, 5, 6, 7, 8, 9, 10, 11, 12, 13, 14, 15])] (by kernel_rfl) (by kernel_rfl) ?_; simp only [pick, List.map_cons, List.map_nil, List.flatMap_cons, List.flatMap_nil, Option.toList_some, List.singleton_append, List.drop_succ_cons, List.drop_zero, List.getElem?_cons_zero, List.getElem?_cons_succ]
          refine ⟨by kernel_rfl, ?_⟩; apply Exists.intro; refine ⟨fun ψ hψ hne => (by (repeat (go_big_quiet_step (( fail )))); exact wpQuiet_nil rfl), ?_⟩
          intro w1 h1
          clear e0 e1 e2
          have HW1 := Lib.hid (Ext.trans HW.out h1)
          have HK1 := Lib.hid (HK.out.ext h1)
          have KR := Lib.hid (treplO 1 HK1.out rfl y.n (by omega) hn9 0 HQ1.out rfl)
          obtain ⟨hbl1, -, hbj1, -⟩ := own_flat (HK1.out.own 0 rfl) awC_length HAN.out HI.out
          have y2 := hbj1 2 (by omega)
          simp only [awC, List.getElem?_cons_zero, List.getElem?_cons_succ] at y2
          rw [HE1.out] at y2
          obtain ⟨u0, u1, uf, ul⟩ := blk2 (Ext.blk HW1.out HX0.out)
          clear h1 HK HW hbl hbj1
          go_wp2_with fail
          refine KR.out.mono ?_
          rintro e w2 ⟨rfl, h2⟩
          replace h2 : OSt W [ownOb 73 (by decide) 4 (.slice (some ⟨b, 0, none⟩) n c) n (A.flatMap awC), tkOb g (TK.repl ⟨toL A, cnt, last⟩ y.n)] w2 := h2
          have hjl : k * 4 + 2 < (A.flatMap awC).length := by rw [flat_length awC_length, HAN.out]; omega
          have HS := Lib.hid (h2.setOwn 0 rfl (j := k * 4 + 2) (x := .int .i64 2) hjl rfl)
          obtain ⟨hbl2, -, hbj2, hbf2⟩ := own_flat (h2.own 0 rfl) awC_length HAN.out HI.out
          have y2' := hbj2 2 (by omega)
          simp only [awC, List.getElem?_cons_zero, List.getElem?_cons_succ] at y2'
          rw [HE1.out] at y2'
          have f2 := hbf2 (k * 4 + 2)
          clear y2 u0 u1 uf ul hbl1 HK1 KR h2 hjl hbj2 hbf2
          go_wp2
          go_ret
          refine ⟨A.set k { y with st := 3 }, _, rfl, by rw [flat_set HI.out]; exact HS.out, HQ2.out.1, by rw [List.length_set]; exact HAN.out, HQ2.out.2, fun z hz => ?_⟩
          rcases List.mem_or_eq_of_mem_set hz with h | rfl
          · exact HRR.out z h
          · exact HRR.out y (List.mem_of_getElem? HI.out)
        · have e1c : isC y = 0 := by unfold isC; rw [hst]; rfl
          obtain ⟨q1, q2, q3⟩ := inv_did y.b HA.out HOK.out HI.out hst hke hh
          have HQ1 := Lib.hid q1
          have HQ2 := Lib.hid (And.intro q2 q3)
          have HCL := Lib.hid hcl
          have y2 := HY2.out
          have HE1 := Lib.hid e1c
          rw [e1c] at y2
          have e2 := fun (ψ : World → Prop) (e : ExtP wr.heap.size wr ψ) => e.cell y2 hbl
          clear y2 hst e1c q1 q2 q3 HC hx2 hh hke hcl
          go_wp2
          refine wp_region_pieces 16  [(true, [0, 1, 2, 3, 4, 5, 6, 7, 8, 9, 10, 11, 12, 13, 14, 15])] (by kernel_rfl) (by kernel_rfl) ?_; simp only [pick, List.map_cons, List.map_nil, List.flatMap_cons, List.flatMap_nil, Option.toList_some, List.singleton_append, List.drop_succ_cons, List.drop_zero, List.getElem?_cons_zero, List.getElem?_cons_succ]
          refine ⟨by kernel_rfl, ?_⟩; apply Exists.intro; refine ⟨fun ψ hψ hne => (by (repeat (go_big_quiet_step (( fail )))); exact wpQuiet_nil rfl), ?_⟩
          intro w1 h1
          clear e0 e1 e2
          have HW1 := Lib.hid (Ext.trans HW.out h1)
          have HK1 := Lib.hid (HK.out.ext h1)
          obtain ⟨u0, u1, uf, ul⟩ := blk2 (Ext.blk HW1.out HX0.out)
          clear h1 HK HW hbl HY2
          go_wp2
          clear u0 u1 uf ul
          go_loopg [10] k (fun gg s wr => ∃ m : Nat, m ≤ k ∧ k - m ≤ gg ∧ s = .int .i64 m ∧ Hid (Ext w1 wr))
          case atStart => exact ⟨0, Nat.zero_le _, by omega, rfl, Lib.hid (Ext.refl w1)⟩
          case round =>
            obtain ⟨m, hm, hg3, rfl, HW2⟩ := hrel
            have HK2 := Lib.hid (HK1.out.ext HW2.out)
            obtain ⟨hbl, -, hbj, -⟩ := own_flat (HK2.out.own 0 rfl) awC_length HAN.out HI.out
            by_cases hlt : m < k
            · obtain ⟨z, hz⟩ : ∃ z, A[m]? = some z := ⟨_, List.getElem?_eq_getElem (by have := HAN.out; omega)⟩
              obtain ⟨-, -, hzj, -⟩ := own_flat (HK2.out.own 0 rfl) awC_length HAN.out hz
              have y1 := hbj 1 (by omega)
              have z1 := hzj 1 (by omega)
              have z2 := hzj 2 (by omega)
              simp only [awC, List.getElem?_cons_zero, List.getElem?_cons_succ] at y1 z1 z2
              obtain ⟨hr1, hl1⟩ := HRR.out z (List.mem_of_getElem? hz)
              obtain ⟨hr2, hl2⟩ := HRR.out y (List.mem_of_getElem? HI.out)
              obtain ⟨Az, cz, ez⟩ := hr1.form
              obtain ⟨Ay, cy, ey⟩ := hr2.form
              rw [ez] at z1 hr1
              rw [ey] at y1 hr2
              have hst := HA.out.ok z (List.mem_of_getElem? hz)
              have hmn : m < n := by omega
              by_cases hz3 : z.st = 3
              · rw [(isC_live hst).1 hz3] at z2
                have e0 := fun (ψ : World → Prop) (e : ExtP wr.heap.size wr ψ) => e.cell z2 hbl
                clear hz hzj hbj y1 z1 z2 hr1 hr2 hl1 hl2 ez ey hst hz3
                go_wp2
                refine wp_region_pieces 19  [(true, [0, 1, 2, 3, 4, 5, 6, 7, 8, 9, 10, 11, 12, 13, 14, 15, 16, 17, 18])] (by kernel_rfl) (by kernel_rfl) ?_; simp only [pick, List.map_cons, List.map_nil, List.flatMap_cons, List.flatMap_nil, Option.toList_some, List.singleton_append, List.drop_succ_cons, List.drop_zero, List.getElem?_cons_zero, List.getElem?_cons_succ]
                refine ⟨by kernel_rfl, ?_⟩; apply Exists.intro; refine ⟨fun ψ hψ hne => (by (repeat (go_big_quiet_step (( fail )))); exact wpQuiet_nil rfl), ?_⟩
                intro w3 h3
                have HW3 := Lib.hid (Ext.trans HW2.out h3)
                clear e0 h3 HW2 HK2
                go_wp2
                go_roundg (k - (m + 1))
                case measure => omega
                case rel => exact ⟨m + 1, by omega, by omega, by go_num, HW3⟩
              · obtain ⟨hq2, hq0⟩ := (isC_live hst).2 hz3
                have hcl : clashL z.l y.l = false := HCL.out m z hlt hz hz3
                generalize isC z = q at z2 hq2 hq0
                have KC : Hid (∀ (ψ : World → Prop) (e : ExtP wr.heap.size wr ψ), Calls Try.prog 16 #[.slice Az z.l.length cz, .slice Ay y.l.length cy] e.val fun r w' => r = .returned (.bool false) ∧ Below e.val.heap.size e.val w') := Lib.hid fun ψ e => by
                  have hx : Ext W e.val := Ext.trans HK2.out.bel e.ok
                  have := Clash_any z.l y.l e.val (hr1.ext hx) (hr2.ext hx) (by omega) (by omega)
                  rw [hcl] at this
                  exact this
                have e0 := fun (ψ : World → Prop) (e : ExtP wr.heap.size wr ψ) => e.cell z2 hbl
                have e1 := fun (ψ : World → Prop) (e : ExtP wr.heap.size wr ψ) => e.cell z1 hbl
                have e2 := fun (ψ : World → Prop) (e : ExtP wr.heap.size wr ψ) => e.cell y1 hbl
                clear hz hzj hbj y1 z1 z2 hr1 hr2 hl1 hl2 ez ey hst hz3 hcl
                go_wp2
                refine wp_region_pieces 19  [(true, [0, 1, 2, 3, 4, 5, 6, 7, 8, 9, 10, 11, 12, 13, 14, 15, 16, 17, 18])] (by kernel_rfl) (by kernel_rfl) ?_; simp only [pick, List.map_cons, List.map_nil, List.flatMap_cons, List.flatMap_nil, Option.toList_some, List.singleton_append, List.drop_succ_cons, List.drop_zero, List.getElem?_cons_zero, List.getElem?_cons_succ]
                refine ⟨by kernel_rfl, ?_⟩; apply Exists.intro; refine ⟨fun ψ hψ hne => (by (repeat (go_big_quiet_step (( go_at_call 16; exact extP_of hψ (Nat.le_refl _) (KC.out _ _) )))); exact wpQuiet_nil rfl), ?_⟩
                intro w3 h3
                have HW3 := Lib.hid (Ext.trans HW2.out h3)
                clear e0 e1 e2 h3 HW2 HK2 KC
                go_wp2
                go_roundg (k - (m + 1))
                case measure => omega
                case rel => exact ⟨m + 1, by omega, by omega, by go_num, HW3⟩
            · obtain rfl : m = k := by omega
              obtain ⟨u0, u1, uf, ul⟩ := blk2 (Ext.blk (Ext.trans HW1.out HW2.out) HX0.out)
              have y2 := hbj 2 (by omega)
              have y3 := hbj 3 (by omega)
              simp only [awC, List.getElem?_cons_zero, List.getElem?_cons_succ] at y2 y3
              rw [HE1.out] at y2
              have e0 := fun (ψ : World → Prop) (e : ExtP wr.heap.size wr ψ) => e.cell y2 hbl
              have e1 := fun (ψ : World → Prop) (e : ExtP wr.heap.size wr ψ) => e.cell y3 hbl
              have e2 := fun (ψ : World → Prop) (e : ExtP wr.heap.size wr ψ) => e.cell u0 ul
              clear y2 y3 u0 u1 uf hbj
              go_wp2
              refine wp_region_pieces 15  [(true, [0, 1, 2, 3, 4, 5, 6, 7, 8, 9, 10, 11, 12, 13, 14])] (by kernel_rfl) (by kernel_rfl) ?_; simp only [pick, List.map_cons, List.map_nil, List.flatMap_cons, List.flatMap_nil, Option.toList_some, List.singleton_append, List.drop_succ_cons, List.drop_zero, List.getElem?_cons_zero, List.getElem?_cons_succ]
              refine ⟨by kernel_rfl, ?_⟩; apply Exists.intro; refine ⟨fun ψ hψ hne => (by (repeat (go_big_quiet_step (( fail )))); exact wpQuiet_nil rfl), ?_⟩
              intro w5 h5
              clear e0 e1 e2
              have HK5 := Lib.hid (HK2.out.ext h5)
              have KD := Lib.hid (tdidO 1 HK5.out rfl y.n y.b (by omega) hn9 0 HQ1.out rfl)
              clear h5 HK2 HK1 HW2 HW1
              go_wp2_with fail
              refine KD.out.mono ?_
              rintro e w2 ⟨rfl, h2⟩
              replace h2 : OSt W [ownOb 73 (by decide) 4 (.slice (some ⟨b, 0, none⟩) n c) n (A.flatMap awC), tkOb g (TK.did ⟨toL A, cnt, last⟩ y.n y.b)] w2 := h2
              have hjl : m * 4 + 2 < (A.flatMap awC).length := by rw [flat_length awC_length, HAN.out]; omega
              have HS := Lib.hid (h2.setOwn 0 rfl (j := m * 4 + 2) (x := .int .i64 1) hjl rfl)
              obtain ⟨hbl2, -, hbj2, hbf2⟩ := own_flat (h2.own 0 rfl) awC_length HAN.out HI.out
              have y2' := hbj2 2 (by omega)
              simp only [awC, List.getElem?_cons_zero, List.getElem?_cons_succ] at y2'
              rw [HE1.out] at y2'
              have f2 := hbf2 (m * 4 + 2)
              clear ul hbl HK5 KD h2 hjl hbj2 hbf2
              go_wp2
              go_ret
              refine ⟨A.set m { y with st := if y.b then 1 else 2 }, _, rfl, ?_, HQ2.out.1, by rw [List.length_set]; exact HAN.out, HQ2.out.2, fun z hz => ?_⟩
              · rw [flat_set HI.out, show isC { y with st := if y.b then 1 else 2 } = 1 by cases y.b <;> rfl]
                exact HS.out
              · rcases List.mem_or_eq_of_mem_set hz with h | rfl
                · exact HRR.out z h
                · exact HRR.out y (List.mem_of_getElem? HI.out)
      · have hyn : y.n ≠ a.n := live_nd HA.out.nd hy HI.out hki
        have hyn' : (y.n == a.n) = false := by rw [beq_eq_false_iff_ne]; exact hyn
        have hyn2 : (y.n != a.n) = true := by rw [bne, hyn']; rfl
        clear hy y2 u1 uf hbf
        have e0 := fun (ψ : World → Prop) (e : ExtP wr.heap.size wr ψ) => e.cell y0 hbl
        have e1 := fun (ψ : World → Prop) (e : ExtP wr.heap.size wr ψ) => e.cell u0 ul
        clear y0 u0
        go_wp2
        refine wp_region_pieces 16  [(true, [0, 1, 2, 3, 4, 5, 6, 7, 8, 9, 10, 11, 12, 13, 14, 15])] (by kernel_rfl) (by kernel_rfl) ?_; simp only [pick, List.map_cons, List.map_nil, List.flatMap_cons, List.flatMap_nil, Option.toList_some, List.singleton_append, List.drop_succ_cons, List.drop_zero, List.getElem?_cons_zero, List.getElem?_cons_succ]
        refine ⟨by kernel_rfl, ?_⟩; apply Exists.intro; refine ⟨fun ψ hψ hne => (by (repeat (go_big_quiet_step (( fail )))); exact wpQuiet_nil rfl), ?_⟩
        intro w1 h1
        clear e0 e1
        have HW1 := Lib.hid (Ext.trans HW.out h1)
        clear h1 HW HK
        go_wp2
        go_roundg (i - (k + 1))
        case measure => omega
        case rel => exact ⟨k + 1, by omega, by omega, by go_num, HW1⟩
theorem turnO {ds : List (Ob Zf)} {A : Option Addr} {c k : Nat} {l : List Int} (j : Nat) (h : OSt W ds w) (hj : ds[j]? = some (tkOb g T)) (hne : canT T ≠ []) (hp : RIn w (.slice A l.length c) l) (hw : ∀ n ∈ l, (Lit.int .i64 n).wf = true) :
    Calls Try.prog 34 #[.pointer (some ⟨g, 0, none⟩), .slice A l.length c, .int .i64 k] w fun r w' => ∃ x last, x ∈ canT T ∧ r = .returned (.tuple #[.agg #[.int .i64 x.1, .int .u8 x.2], .int .i64 0]) ∧ OSt W (ds.set j (tkOb g { T with last := last })) w' := by
  have HB := Lib.hid (h.alloc (.cells #[.int .i64 0, .int .u8 0] 64 (0, 0)) (nz (by decide)))
  have HP := Lib.hid (hp.ext (extAl w (.cells #[.int .i64 0, .int .u8 0] 64)))
  have HJ : Hid ((rowOb w.heap.size (.cells #[.int .i64 0, .int .u8 0] 64 (0, 0)) (nz (by decide)) :: ds)[j + 1]? = some (tkOb g T)) := Lib.hid hj
  by_cases hk : k < l.length
  · obtain ⟨z, hz⟩ : ∃ z, l[k]? = some z := ⟨_, List.getElem?_eq_getElem hk⟩
    obtain ⟨x, last, hx, hpk⟩ := pick_can hne z
    obtain ⟨z0, z1⟩ := i64_wf (hw z (List.mem_of_getElem? hz))
    have KP := Lib.hid (tpickO (j + 1) HB.out HJ.out z z0 z1 x 0 hpk)
    obtain ⟨b, off, rfl, hba, hbc, -⟩ := HP.out.at (by omega)
    have x0 := RIn.num HP.out hz
    have HX := Lib.hid hx
    clear h hj hne hp hw hz hx hpk HP
    go_enter Try.func34, Try.ntmps34
    go_wp2_with (go_at_call 30; refine KP.out.mono ?_; rintro e w1 ⟨rfl, h1⟩; replace h1 : OSt W (rowOb w.heap.size (.cells #[.int .i64 0, .int .u8 0] 64 (0, 0)) (nz (by decide)) :: ds.set j (tkOb g { T with last := last })) w1 := h1; have hr1 := h1.get 0 rfl; have ST := Lib.hid (set2_01 (.int .i64 x.1) (.int .u8 x.2) hr1); have HS := Lib.hid (h1.row 0 rfl #[.int .i64 x.1, .int .u8 x.2] (nz (by decide))); obtain ⟨u0, u1, uf, ul⟩ := blk2 hr1; obtain ⟨v0, v1, -, -⟩ := blk2 (setRow_heap _ _ _ #[.int .i64 x.1, .int .u8 x.2] _ _ hr1); have V0 := Lib.hid v0; have V1 := Lib.hid v1; clear v0 v1 h1 KP HB hr1)
    rw [ST.out]
    have v0 := V0.out
    have v1 := V1.out
    exact bodyPost_ret (v := .tuple #[tnV x, .int .i64 0]) (by simp [results, Try.results34, go_sem, v0, v1, tnV]) rfl ⟨x, last, HX.out, rfl, HS.out.dropI 0⟩
  · obtain ⟨x, last, hx, hpk⟩ := next_can hne
    have KP := Lib.hid (tnextO (j + 1) HB.out HJ.out x 0 hpk)
    have HX := Lib.hid hx
    have hk' : (l.length : Int) ≤ (k : Int) := by omega
    clear h hj hne hp hw hx hpk HP hk
    go_enter Try.func34, Try.ntmps34
    go_wp2_with (go_at_call 32; refine KP.out.mono ?_; rintro e w1 ⟨rfl, h1⟩; replace h1 : OSt W (rowOb w.heap.size (.cells #[.int .i64 0, .int .u8 0] 64 (0, 0)) (nz (by decide)) :: ds.set j (tkOb g { T with last := last })) w1 := h1; have hr1 := h1.get 0 rfl; have ST := Lib.hid (set2_01 (.int .i64 x.1) (.int .u8 x.2) hr1); have HS := Lib.hid (h1.row 0 rfl #[.int .i64 x.1, .int .u8 x.2] (nz (by decide))); obtain ⟨u0, u1, uf, ul⟩ := blk2 hr1; obtain ⟨v0, v1, -, -⟩ := blk2 (setRow_heap _ _ _ #[.int .i64 x.1, .int .u8 x.2] _ _ hr1); have V0 := Lib.hid v0; have V1 := Lib.hid v1; clear v0 v1 h1 KP HB hr1)
    rw [ST.out]
    have v0 := V0.out
    have v1 := V1.out
    exact bodyPost_ret (v := .tuple #[tnV x, .int .i64 0]) (by simp [results, Try.results34, go_sem, v0, v1, tnV]) rfl ⟨x, last, HX.out, rfl, HS.out.dropI 0⟩
end
end
end Go.Proofs.Ytiihlbaajopllaa
