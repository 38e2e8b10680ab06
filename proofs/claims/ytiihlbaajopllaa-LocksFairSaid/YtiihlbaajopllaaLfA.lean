/- LocksFair: plain law of those that stand in the row; what was told, as an object that is read from its front; the row as one's own. -/
import Derived.Test.YtiihlbaajopllaaOwn
import Derived.Test.YtiihlbaajopllaaLkS
import Derived.Test.YtiihlbaajopllaaRtE
set_option linter.unusedVariables false
set_option maxRecDepth 100000
namespace Go.Proofs.Ytiihlbaajopllaa
open Go.RowKit

structure Sd where
  n : Int
  v : Value
  l : List Wn
  h : Bool
def sdC (s : Sd) : List Value := [.int .i64 s.n, s.v, .bool s.h]
theorem sdC_length (s : Sd) : (sdC s).length = 3 := rfl
theorem sdC_one (a : Sd) (h : One a.v) : ∀ u ∈ sdC a, One u := by intro u hu; simp [sdC] at hu; rcases hu with rfl | rfl | rfl <;> first | exact h | rfl
def lkS (R : List Sd) : List Tk := R.map fun s => (s.n, s.l)
def gotG (L : List Tk) : List Sd → Nat → List Int
  | [], _ => []
  | s :: R, k => (if !s.h && hasAt L k then [s.n] else []) ++ gotG L R (k + 1)
theorem gotG_eq (L : List Tk) (f : Nat → List Int) : ∀ (R : List Sd) (k : Nat), (∀ j s, R[j]? = some s → f (k + j) = if !s.h && hasAt L (k + j) then [s.n] else []) → gotG L R k = (List.range' k R.length).flatMap f
  | [], k, _ => rfl
  | s :: R, k, h => by
    have h0 := h 0 s rfl
    rw [Nat.add_zero] at h0
    unfold gotG
    rw [gotG_eq L f R (k + 1) (fun j t hj => by have := h (j + 1) t hj; rw [show k + (j + 1) = k + 1 + j by omega] at this; exact this), List.length_cons, List.range'_succ, List.flatMap_cons, h0]
theorem gotG_nil (L : List Tk) : ∀ (R : List Sd) (k : Nat), (∀ j s, R[j]? = some s → s.h = hasAt L (k + j)) → gotG L R k = []
  | [], _, _ => rfl
  | s :: R, k, h => by
    have h0 := h 0 s rfl
    rw [Nat.add_zero] at h0
    unfold gotG
    rw [gotG_nil L R (k + 1) (fun j t hj => by have := h (j + 1) t hj; rw [show k + (j + 1) = k + 1 + j by omega] at this; exact this), h0]
    simp
theorem lkS_at {R : List Sd} {k : Nat} {s : Sd} (h : R[k]? = some s) : (lkS R)[k]? = some (s.n, s.l) := by
  unfold lkS
  rw [List.getElem?_map, h]
  rfl
theorem hasL_nd {R : List Sd} (hnd : (R.map (·.n)).Nodup) {i : Nat} {s : Sd} (hi : R[i]? = some s) : hasL (lkS R) s.n = hasAt (lkS R) i := by
  have : atL (lkS R) s.n = some i := by
    rcases atL_spec (lkS R) s.n with ⟨_, h⟩ | ⟨j, p, h1, h2, h3, _⟩
    · exact absurd rfl (h (s.n, s.l) (List.mem_of_getElem? (lkS_at hi)))
    · rw [h1]
      congr 1
      have hj : j < R.length := by simpa [lkS] using (List.getElem?_eq_some_iff.1 h2).1
      have hjs : R[j]? = some R[j] := List.getElem?_eq_getElem hj
      have hp := lkS_at hjs
      rw [h2] at hp
      cases hp
      simp only at h3
      by_cases e : i = j
      · exact e.symm
      · exfalso
        obtain ⟨hil, rfl⟩ := List.getElem?_eq_some_iff.1 hi
        rw [List.Nodup, List.pairwise_map, List.pairwise_iff_getElem] at hnd
        rcases Nat.lt_or_gt_of_ne e with h | h
        · exact hnd i j hil hj h h3.symm
        · exact hnd j i hj hil h h3
  unfold hasL
  rw [this]
theorem hasAt_first {L : List Tk} {p : Tk} (h : L[0]? = some p) : hasAt L 0 = true := by
  rw [hasAt_some h, List.take_zero, mayB_nil]
def upS (L : List Tk) (k : Nat) (R : List Sd) : List Sd := R.mapIdx fun j s => if j < k then { s with h := hasAt L j } else s
theorem upS_at (L : List Tk) (k : Nat) (R : List Sd) (j : Nat) : (upS L k R)[j]? = R[j]?.map fun s => if j < k then { s with h := hasAt L j } else s := by
  unfold upS
  rw [List.getElem?_mapIdx]
theorem upS_length (L : List Tk) (k : Nat) (R : List Sd) : (upS L k R).length = R.length := by unfold upS; simp
theorem upS_zero (L : List Tk) (R : List Sd) : upS L 0 R = R := by
  apply List.ext_getElem?
  intro j
  rw [upS_at]
  cases R[j]? <;> simp
theorem upS_lk (L : List Tk) (k : Nat) (R : List Sd) : lkS (upS L k R) = lkS R := by
  apply List.ext_getElem?
  intro j
  unfold lkS
  rw [List.getElem?_map, List.getElem?_map, upS_at]
  cases R[j]? with
  | none => rfl
  | some s => simp only [Option.map_some]; split <;> rfl
theorem upS_nm (L : List Tk) (k : Nat) (R : List Sd) : (upS L k R).map (·.n) = R.map (·.n) := by
  apply List.ext_getElem?
  intro j
  rw [List.getElem?_map, List.getElem?_map, upS_at]
  cases R[j]? with
  | none => rfl
  | some s => simp only [Option.map_some]; split <;> rfl
theorem upS_here {L : List Tk} {k : Nat} {R : List Sd} {s : Sd} (h : R[k]? = some s) : (upS L k R)[k]? = some s := by
  rw [upS_at, h, Option.map_some, if_neg (Nat.lt_irrefl k)]
theorem upS_succ {L : List Tk} {k : Nat} {R : List Sd} {s : Sd} (h : R[k]? = some s) : upS L (k + 1) R = (upS L k R).set k { s with h := hasAt L k } := by
  have hk := (List.getElem?_eq_some_iff.1 h).1
  apply List.ext_getElem?
  intro j
  rw [upS_at, List.getElem?_set, upS_at, upS_length]
  by_cases e : k = j
  · subst e
    rw [if_pos rfl, if_pos hk, h, Option.map_some, if_pos (by omega)]
  · rw [if_neg e]
    cases R[j]? with
    | none => rfl
    | some t =>
      simp only [Option.map_some]
      by_cases h1 : j < k
      · rw [if_pos h1, if_pos (by omega)]
      · rw [if_neg h1, if_neg (by omega)]
theorem upS_all {L : List Tk} {R : List Sd} {j : Nat} {s : Sd} (h : (upS L R.length R)[j]? = some s) : s.h = hasAt L j := by
  rw [upS_at] at h
  cases hr : R[j]? with
  | none => rw [hr] at h; cases h
  | some t =>
    have hj := (List.getElem?_eq_some_iff.1 hr).1
    rw [hr, Option.map_some, if_pos hj, Option.some.injEq] at h
    rw [← h]
theorem upS_mem {L : List Tk} {k : Nat} {R : List Sd} {s : Sd} (h : s ∈ upS L k R) : ∃ t ∈ R, s.v = t.v ∧ s.l = t.l := by
  obtain ⟨j, hj⟩ := List.getElem?_of_mem h
  rw [upS_at] at hj
  cases hr : R[j]? with
  | none => rw [hr] at hj; cases hj
  | some t =>
    rw [hr, Option.map_some, Option.some.injEq] at hj
    refine ⟨t, List.mem_of_getElem? hr, ?_⟩
    split at hj <;> (subst hj; exact ⟨rfl, rfl⟩)
theorem sd_set {A : List Sd} {i : Nat} {a : Sd} {b : Bool} (hi : A[i]? = some a) : (A.set i { a with h := b }).flatMap sdC = (A.flatMap sdC).set (i * 3 + 2) (.bool b) := by
  induction A generalizing i with
  | nil => simp at hi
  | cons c A ih =>
    cases i with
    | zero =>
      simp only [List.getElem?_cons_zero, Option.some.injEq] at hi
      subst hi
      simp [sdC, List.set_cons_zero]
    | succ i =>
      simp only [List.getElem?_cons_succ] at hi
      have e : (i + 1) * 3 + 2 = 3 + (i * 3 + 2) := by omega
      rw [List.set_cons_succ, List.flatMap_cons, List.flatMap_cons, ih hi, e]
      rw [List.set_append_right _ _ (by simp [sdC])]
      congr 2
      simp [sdC]
/-- What holds between two steps: those in the row, each told truly whether it has its wants. -/
structure SIn (L : List Tk) (R : List Sd) : Prop where
  l : lkS R = L
  nd : (R.map (·.n)).Nodup
  h : ∀ j s, R[j]? = some s → s.h = hasAt L j
/-- What holds behind a step, before the row is gone through. -/
structure SMid (L : List Tk) (R : List Sd) (T : List Int) : Prop where
  l : lkS R = L
  nd : (R.map (·.n)).Nodup
  h : ∀ j s, R[j]? = some s → s.h = true → hasAt L j = true
  t : gotG L R 0 = T
theorem SIn.mid {L : List Tk} {R : List Sd} (h : SIn L R) : SMid L R [] :=
  ⟨h.l, h.nd, fun j s hj hs => by rw [← h.h j s hj]; exact hs, gotG_nil L R 0 (fun j s hj => by rw [Nat.zero_add]; exact h.h j s hj)⟩
theorem SIn.ask {L : List Tk} {R : List Sd} (h : SIn L R) (n : Int) (l : List Wn) (v : Value) (he : askE L n l = 0) : SIn (askL L n l) (R ++ [⟨n, v, l, askB L n l⟩]) := by
  have e1 : askL L n l = L ++ [(n, l)] := by unfold askL; rw [if_pos he]
  have e2 : askB L n l = mayB L l := by unfold askB; rw [if_pos he]
  have hnot : ∀ s ∈ R, s.n ≠ n := by
    intro s hs hn
    obtain ⟨j, hj⟩ := List.getElem?_of_mem hs
    unfold askE at he
    split at he
    · cases he
    · split at he
      · cases he
      · rename_i _ hat
        rcases atL_spec L n with ⟨_, hh⟩ | ⟨i, p, h1, _⟩
        · have := lkS_at hj
          rw [h.l] at this
          exact hh _ (List.mem_of_getElem? this) hn
        · rw [h1] at hat
          exact hat rfl
  have hlen : R.length = L.length := by rw [← h.l]; simp [lkS]
  rw [e1, e2]
  refine ⟨?_, ?_, fun j s hj => ?_⟩
  · unfold lkS
    rw [List.map_append]
    exact congrArg (· ++ _) h.l
  · rw [List.map_append, List.nodup_append]
    refine ⟨h.nd, by simp, ?_⟩
    intro a ha b hb
    obtain ⟨s, hs, rfl⟩ := List.mem_map.1 ha
    simp only [List.map_cons, List.map_nil, List.mem_singleton] at hb
    subst hb
    exact hnot s hs
  · by_cases hjr : j < R.length
    · rw [List.getElem?_append_left hjr] at hj
      rw [h.h j s hj, hasAt_app _ _ (by omega)]
    · rw [List.getElem?_append_right (by omega)] at hj
      have hj0 := (List.getElem?_eq_some_iff.1 hj).1
      have hjz : j - R.length = 0 := by simp at hj0; omega
      rw [hjz] at hj
      simp only [List.getElem?_cons_zero, Option.some.injEq] at hj
      subst hj
      have hjl : j = L.length := by omega
      subst hjl
      rw [hasAt_some (p := (n, l)) (by simp)]
      simp
theorem SIn.no_ask {L : List Tk} {n : Int} {l : List Wn} (he : askE L n l ≠ 0) : askL L n l = L := by unfold askL; rw [if_neg he]
theorem SIn.drop {L : List Tk} {R : List Sd} (h : SIn L R) {n : Int} {i : Nat} (hat : atL L n = some i) : SMid (L.eraseIdx i) (R.eraseIdx i) (dropT L n) ∧ dropL L n = L.eraseIdx i ∧ dropE L n = 0 ∧ ∃ s, R[i]? = some s ∧ s.n = n := by
  have hlen : R.length = L.length := by rw [← h.l]; simp [lkS]
  obtain ⟨p, hp, hpn⟩ : ∃ p, L[i]? = some p ∧ p.1 = n := by
    rcases atL_spec L n with ⟨h1, _⟩ | ⟨j, p, h1, h2, h3, _⟩
    · rw [h1] at hat; cases hat
    · rw [h1] at hat; cases hat; exact ⟨p, h2, h3⟩
  have hi := (List.getElem?_eq_some_iff.1 hp).1
  have hl : lkS (R.eraseIdx i) = L.eraseIdx i := by
    rw [← h.l]
    apply List.ext_getElem?
    intro k
    unfold lkS
    rw [List.getElem?_map, List.getElem?_eraseIdx, List.getElem?_eraseIdx]
    split <;> simp
  have hR' : ∀ j s, (R.eraseIdx i)[j]? = some s → s.h = hasAt L (if j < i then j else j + 1) := by
    intro j s hj
    rw [List.getElem?_eraseIdx] at hj
    split at hj
    · rename_i hji
      rw [if_pos hji]
      exact h.h _ _ hj
    · rename_i hji
      rw [if_neg hji]
      exact h.h _ _ hj
  refine ⟨⟨hl, ?_, fun j s hj hs => ?_, ?_⟩, by unfold dropL; rw [hat], by unfold dropE; rw [hat]; rfl, ?_⟩
  · exact h.nd.sublist ((List.eraseIdx_sublist R i).map _)
  · refine hasAt_erase L hi ?_
    rw [← hR' j s hj]
    exact hs
  · unfold dropT
    rw [hat]
    unfold toldL
    rw [gotG_eq (L.eraseIdx i) (toldK L (L.eraseIdx i) i) (R.eraseIdx i) 0 ?_]
    · rw [← List.range_eq_range']
      congr 2
      rw [List.length_eraseIdx, List.length_eraseIdx, hlen]
    · intro j s hj
      rw [Nat.zero_add]
      unfold toldK
      rw [← hR' j s hj]
      have := lkS_at hj
      rw [hl] at this
      rw [this]
      rfl
  · have : R[i]? = some R[i] := List.getElem?_eq_getElem (by omega)
    refine ⟨R[i], this, ?_⟩
    have := lkS_at this
    rw [h.l, hp] at this
    rw [Option.some.inj this] at hpn
    exact hpn
theorem SIn.no_drop {L : List Tk} {R : List Sd} (h : SIn L R) {n : Int} (hat : atL L n = none) : dropT L n = [] ∧ dropL L n = L ∧ dropE L n = 5 ∧ ∀ (j : Nat) (s : Sd), R[j]? = some s → s.n ≠ n := by
  refine ⟨by unfold dropT; rw [hat], by unfold dropL; rw [hat], by unfold dropE; rw [hat]; rfl, fun j s hj => ?_⟩
  rcases atL_spec L n with ⟨_, h1⟩ | ⟨i, p, h1, _⟩
  · have := lkS_at hj
    rw [h.l] at this
    exact h1 _ (List.mem_of_getElem? this)
  · rw [h1] at hat; cases hat
theorem SIn.of_up {L : List Tk} {R : List Sd} {T : List Int} (h : SMid L R T) : SIn L (upS L R.length R) :=
  ⟨by rw [upS_lk]; exact h.l, by rw [upS_nm]; exact h.nd, fun j s hj => upS_all hj⟩

/-! What was told, read from its front. -/
def rdOb (v : Value) (l : List Int) : Ob Zf where
  is := fun w S => (l = [] ∧ ∃ A c, v = .slice A 0 c) ∨ ∃ b off c row, v = .slice (some ⟨b, off, none⟩) l.length c ∧ l.length ≤ c ∧ w.heap[b]? = some (.cells row 3 (0, 0)) ∧ S b ∧ ∀ j (h : j < l.length), row[off + j]? = some (.int .i64 l[j])
  K := ownK 3
  mutw := fun h k hd _ => by
    rcases h with h | ⟨b, off, c, row, h1, h2, h3, h4, h5⟩
    · exact .inl h
    · exact .inr ⟨b, off, c, row, h1, h2, (k.block b (heap_lt h3) (hd b h4)).trans h3, h4, h5⟩
  mono := fun h k => by
    rcases h with h | ⟨b, off, c, row, h1, h2, h3, h4, h5⟩
    · exact .inl h
    · exact .inr ⟨b, off, c, row, h1, h2, h3, k _ h4, h5⟩
  trim := fun h => by
    rcases h with h | ⟨b, off, c, row, h1, h2, h3, h4, h5⟩
    · exact .inl h
    · exact .inr ⟨b, off, c, row, h1, h2, h3, ⟨h4, _, h3, rfl⟩, h5⟩
  kz := fun o h hz => by
    cases o <;> simp only [ownK, Zf] at h hz
    exact absurd (h.symm.trans hz) (by decide)
section
variable {W w : World} {ds : List (Ob Zf)} {g : Nat} {L : List Tk}
theorem OSt.conv {D D' : Ob Zf} (h : OSt W ds w) (i : Nat) (hi : ds[i]? = some D) (hc : ∀ S, D.is w S → D'.is w S) : OSt W (ds.set i D') w := by
  obtain ⟨S, h1, _, h3, _⟩ := h.pick hi
  exact h3 w D' (To.refl (hc S h1))
theorem OSt.swap {w' : World} {D D' : Ob Zf} (h : OSt W ds w) (k : Ext w w') (i : Nat) (hi : ds[i]? = some D) (hd : D'.is w' (fun j => w.heap.size ≤ j ∧ j < w'.heap.size)) : OSt W (ds.set i D') w' := by
  obtain ⟨S, h1, _, h3, _⟩ := h.pick hi
  exact h3 w' D' ⟨D'.mono hd fun j hj => .inr hj, Mut.of_ext k⟩
theorem sd_nd {R : List Sd} {i j : Nat} {a b : Sd} (hnd : (R.map (·.n)).Nodup) (hi : R[i]? = some a) (hj : R[j]? = some b) (h : i ≠ j) : a.n ≠ b.n := by
  obtain ⟨hil, rfl⟩ := List.getElem?_eq_some_iff.1 hi
  obtain ⟨hjl, rfl⟩ := List.getElem?_eq_some_iff.1 hj
  rw [List.Nodup, List.pairwise_map, List.pairwise_iff_getElem] at hnd
  intro e
  rcases Nat.lt_or_gt_of_ne h with h' | h'
  · exact hnd i j hil hjl h' e
  · exact hnd j i hjl hil h' e.symm
theorem sds_one {R : List Sd} (h : ∀ s ∈ R, One s.v) : ∀ u ∈ R.flatMap sdC, One u := by
  intro u hu
  obtain ⟨s, hs, hu⟩ := List.mem_flatMap.1 hu
  exact sdC_one s (h s hs) u hu
theorem rwn_one {w : World} {v : Value} {l : List Wn} (h : RWn w v l) : One v := by
  obtain ⟨A, c, rfl⟩ := h.form
  rfl
theorem askOM (i : Nat) (h : OSt W ds w) (hi : ds[i]? = some (lkOb g L)) (n : Int) (l : List Wn) {v : Value} (hv : RWn w v l) (hl : l.length ≤ 1000000) (b : Bool) (e : Int) (L' : List Tk) (hb : askB L n l = b) (he : askE L n l = e) (hL : askL L n l = L') :
    Calls Try.prog 13 #[.pointer (some ⟨g, 0, none⟩), .int .i64 n, v] w fun r w' => r = .returned (.tuple #[.bool b, .int .i64 e]) ∧ OSt W (ds.set i (lkOb g L')) w' ∧ Mut (fun j => W.heap.size ≤ j) w w' := by
  obtain ⟨S, h1, h2, h3, _⟩ := h.pick hi
  subst hb he hL
  exact (Ask_any n l w h1 hv hl).mono fun r w' ⟨hr, hT⟩ => ⟨hr, h3 _ _ hT, hT.2.mono fun j hj => (h2 j hj).1⟩
theorem dropO (i : Nat) (h : OSt W ds w) (hi : ds[i]? = some (lkOb g L)) (n : Int) (T : List Int) (e : Int) (L' : List Tk) (hT : dropT L n = T) (he : dropE L n = e) (hL : dropL L n = L') :
    Calls Try.prog 15 #[.pointer (some ⟨g, 0, none⟩), .int .i64 n] w fun r w' => ∃ A c, r = .returned (.tuple #[.slice A T.length c, .int .i64 e]) ∧ OSt W (rdOb (.slice A T.length c) T :: ds.set i (lkOb g L')) w' := by
  by_cases h0 : 0 < T.length
  · refine (drop1 i h hi n T e L' hT h0 he hL).mono ?_
    rintro r w' ⟨b, c, junk, hr, hc, ho⟩
    refine ⟨_, c, hr, ?_⟩
    refine ho.conv 0 rfl fun S hs => .inr ⟨b, 0, c, _, rfl, hc, hs.1, hs.2, fun j hj => ?_⟩
    have hjl : j < (ics T).length := by rw [ics_length]; exact hj
    rw [Nat.zero_add, List.getElem?_toArray, List.getElem?_append_left hjl, List.getElem?_eq_getElem hjl]
    simp [ics]
  · have hz : T = [] := List.length_eq_zero_iff.1 (by omega)
    subst hz
    refine (drop0 i h hi n e L' hT he hL).mono ?_
    rintro r w' ⟨A, c, hr, ho⟩
    exact ⟨A, c, hr, ho.push (Ext.refl _) (D := rdOb (.slice A 0 c) []) (R := fun _ => False) (.inl ⟨rfl, A, c, rfl⟩) fun _ h => h.elim⟩
theorem OSt.rdNil (h : OSt W ds w) : OSt W (rdOb (.slice none 0 0) [] :: ds) w :=
  h.push (Ext.refl _) (R := fun _ => False) (.inl ⟨rfl, none, 0, rfl⟩) fun _ h => h.elim
theorem OSt.rdForm {v : Value} {l : List Int} (h : OSt W ds w) (i : Nat) (hi : ds[i]? = some (rdOb v l)) : ∃ A c, v = .slice A l.length c := by
  obtain ⟨S, h1, _⟩ := h.pick hi
  rcases h1 with ⟨rfl, A, c, rfl⟩ | ⟨b, off, c, row, rfl, _⟩
  · exact ⟨A, c, rfl⟩
  · exact ⟨_, c, rfl⟩
theorem OSt.rdCons {A : Option Addr} {m c : Nat} {x : Int} {l : List Int} (h : OSt W ds w) (i : Nat) (hi : ds[i]? = some (rdOb (.slice A m c) (x :: l))) :
    ∃ b off, A = some ⟨b, off, none⟩ ∧ m = l.length + 1 ∧ m ≤ c ∧ b < w.heap.size ∧ w.cell? ⟨b, off, none⟩ = some (.int .i64 x) ∧
      (l.length + 1 < c → OSt W (ds.set i (rdOb (.slice (some ⟨b, off + 1, none⟩) l.length (c - 1)) l)) w) ∧ (c = 1 → l = [] ∧ OSt W (ds.set i (rdOb (.slice (some ⟨b, off, none⟩) 0 0) [])) w) ∧ (1 < c → OSt W (ds.set i (rdOb (.slice (some ⟨b, off + 1, none⟩) l.length (c - 1)) l)) w) := by
  obtain ⟨S, h1, _⟩ := h.pick hi
  rcases h1 with ⟨h2, _⟩ | ⟨b, off, c', row, h2, h3, h4, h5, h6⟩
  · cases h2
  · simp only [Value.slice.injEq] at h2
    obtain ⟨rfl, rfl, rfl⟩ := h2
    have h60 := h6 0 (by simp)
    have key : 1 < c → OSt W (ds.set i (rdOb (.slice (some ⟨b, off + 1, none⟩) l.length (c - 1)) l)) w := fun hc => h.conv i hi fun S hs => by
      rcases hs with ⟨h2, _⟩ | ⟨b', off', c', row', h2, h3, h4, h5, h6⟩
      · cases h2
      · simp only [Value.slice.injEq, Option.some.injEq, Addr.mk.injEq, and_true] at h2
        obtain ⟨⟨rfl, rfl⟩, -, rfl⟩ := h2
        refine .inr ⟨b, off + 1, c - 1, row', rfl, by simp at h3; omega, h4, h5, fun j hj => ?_⟩
        have := h6 (j + 1) (by simp; omega)
        rw [show off + 1 + j = off + (j + 1) by omega, this]
        simp
    refine ⟨b, off, rfl, by simp, h3, heap_lt h4, ?_, fun hc => key (by omega), fun hc => ?_, key⟩
    · simp only [World.cell?, h4]
      simpa using h60
    · subst hc
      have hl : l = [] := List.length_eq_zero_iff.1 (by simp only [List.length_cons] at h3; omega)
      subst hl
      exact ⟨rfl, h.conv i hi fun S hs => .inl ⟨rfl, _, _, rfl⟩⟩
theorem app_sd {w : World} {B n : Nat} {v x : Value} {cs : List Value} {m : Nat} {new : List Value} {tx ty : TypeId} (ho : OwnR w B 38 3 One v n cs) (hs : Src Try.prog 3 tx x m new w) (hB : B ≤ w.heap.size) (hn : ∀ u ∈ new, One u) (hc : n + m ≤ 100000000) :
    ∃ v' w', (Builtin.append_ #[27, tx] ty #[v, x]).run Try.prog w = .ok v' w' ∧ OwnR w' B 38 3 One v' (n + m) (cs ++ new) ∧ Below B w w' ∧ w.grownBy w' v.ownBlock ∧ (∀ b, v'.ownBlock = some b → v.ownBlock = some b ∨ w.heap.size ≤ b) := by
  have h : (Try.prog.info? 38).map (fun i => (i.zero, i.size, i.bytes)) = some (some (.agg #[.int .i64 0, .slice none 0 0, .bool false]), 3, 40) := by kernel_rfl
  obtain ⟨i, hi, hz0, hz1, hz2⟩ := info_prt h
  exact appG2 (ty := ty) Try.underlying27 hi hz1 hz0 rfl ho hs hB (by omega) hn (by intro u hu; simp [Value.cells] at hu; rcases hu with rfl | rfl | rfl <;> rfl) (by rw [hz2]; omega) (by omega)
abbrev sdOb (v : Value) (n : Nat) (R : List Sd) : Ob Zf := ownOb 38 (by decide) 3 v n (R.flatMap sdC)
theorem OSt.appSd {n g : Nat} {v : Value} {R : List Sd} (h : OSt W ds w) (i : Nat) (hi : ds[i]? = some (sdOb v n R)) (a : Sd) (ha : One a.v) (hn : n ≤ 1000000) (hg : w.heap[g]? = some (.cells (sdC a).toArray 38 (0, 0))) :
    ∃ v' w', (Builtin.append_ #[27, 27] 27 #[v, .slice (some ⟨g, 0, none⟩) 1 1]).run Try.prog w = .ok v' w' ∧ OSt W (ds.set i (sdOb v' (n + 1) (R ++ [a]))) w' := by
  obtain ⟨S, h1, _, h3, _⟩ := h.pick hi
  have hsrc : Src Try.prog 3 27 (.slice (some ⟨g, 0, none⟩) 1 1) 1 (sdC a) w := src_row Try.underlying27 hg rfl (sdC_one a ha)
  obtain ⟨v', w', hr, ho2, hb2, hg2, hs2⟩ := app_sd (ty := 27) h1.1 hsrc (Nat.zero_le _) (sdC_one a ha) (by omega)
  refine ⟨v', w', hr, h3 _ _ ⟨⟨?_, fun b hb => ?_⟩, Mut.of_grown hg2 h1.2⟩⟩
  · rw [List.flatMap_append, List.flatMap_cons, List.flatMap_nil, List.append_nil]
    exact ho2
  · rcases hs2 b hb with e | e
    · exact .inl (h1.2 b e)
    · exact .inr ⟨e, (own_lt ho2 hb).2⟩
end
end Go.Proofs.Ytiihlbaajopllaa
