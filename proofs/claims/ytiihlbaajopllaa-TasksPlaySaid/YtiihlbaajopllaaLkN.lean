/- Walks of locks: Drop. -/
import Derived.Test.YtiihlbaajopllaaLkM
set_option linter.unusedVariables false
set_option maxRecDepth 100000
namespace Go.Proofs.Ytiihlbaajopllaa
open Go.RowKit

theorem ptrAt_erase (ns : List Nd) (i k : Nat) : ptrAt (ns.eraseIdx i) k = if k < i then ptrAt ns k else ptrAt ns (k + 1) := by
  unfold ptrAt
  rw [List.getElem?_eraseIdx]
  split <;> rfl
theorem erase_at {ns : List Nd} {i k : Nat} {x : Nd} (h : (ns.eraseIdx i)[k]? = some x) : ns[if k < i then k else k + 1]? = some x := by
  rw [List.getElem?_eraseIdx] at h
  split at h <;> rename_i hk
  · rw [if_pos hk]; exact h
  · rw [if_neg hk]; exact h
theorem LkP.erase {W W' : World} {S : Nat → Prop} {g i : Nat} {ns : List Nd} (h : LkP W S g ns) (hi : i < ns.length) (hg : W'.heap[g]? = some (.cells #[ptrAt (ns.eraseIdx i) 0] 91 (0, 0)))
    (hn : ∀ (k : Nat) (x : Nd), (ns.eraseIdx i)[k]? = some x → W'.heap[x.a]? = some (.cells #[.int .i64 x.p.1, x.wv, .bool x.has, ptrAt (ns.eraseIdx i) (k + 1)] 95 (0, 0)))
    (hw : ∀ (k : Nat) (x : Nd), ns[k]? = some x → OwnR W' 0 52 2 One x.wv x.p.2.length (wncs x.p.2)) : LkP W' S g (ns.eraseIdx i) where
  hg := hg
  nd := hn
  wn := fun k x hx => hw _ x (erase_at hx)
  inj := fun j k x y hx hy e => by
    have := h.inj _ _ x y (erase_at hx) (erase_at hy) e
    split at this <;> split at this <;> omega
  sg := h.sg
  sa := fun k x hx => h.sa _ x (erase_at hx)
  sw := fun k x hx => h.sw _ x (erase_at hx)
  len := by have := h.len; rw [List.length_eraseIdx]; split <;> omega
  wl := fun k x hx => h.wl _ x (erase_at hx)
theorem LkP.erase0 {W : World} {S : Nat → Prop} {g : Nat} {ns : List Nd} (h : LkP W S g ns) (hi : 0 < ns.length) : LkP (W.setRow g #[ptrAt ns 1]) S g (ns.eraseIdx 0) := by
  refine h.erase hi ?_ (fun k x hx => ?_) (fun k x hx => (h.wn k x hx).set h.hg (by decide))
  · rw [ptrAt_erase, if_neg (by omega)]
    exact setRow_heap _ _ _ _ _ _ h.hg
  · have hx' := erase_at hx
    rw [if_neg (by omega)] at hx'
    rw [ptrAt_erase, if_neg (by omega), setRow_other _ _ _ _ (fun e => by have := h.nd _ x hx'; rw [e, h.hg] at this; simp at this)]
    exact h.nd _ x hx'
theorem LkP.erase1 {W : World} {S : Nat → Prop} {g j : Nat} {ns : List Nd} {z : Nd} (h : LkP W S g ns) (hz : ns[j]? = some z) (hi : j + 1 < ns.length) : LkP (W.setRow z.a #[.int .i64 z.p.1, z.wv, .bool z.has, ptrAt ns (j + 1 + 1)]) S g (ns.eraseIdx (j + 1)) := by
  refine h.erase hi ?_ (fun k x hx => ?_) (fun k x hx => (h.wn k x hx).set (h.nd j z hz) (by decide))
  · rw [ptrAt_erase, if_pos (by omega), setRow_other _ _ _ _ (fun e => by have := h.nd _ z hz; rw [← e, h.hg] at this; simp at this)]
    exact h.hg
  · have hx' := erase_at hx
    by_cases hk : k < j + 1
    · rw [if_pos hk] at hx'
      by_cases e : k = j
      · subst e
        rw [hz] at hx'
        cases hx'
        rw [ptrAt_erase, if_neg (by omega)]
        exact setRow_heap _ _ _ _ _ _ (h.nd _ _ hz)
      · rw [ptrAt_erase, if_pos (by omega), setRow_other _ _ _ _ (fun e2 => e (h.inj k j x z hx' hz e2))]
        exact h.nd _ x hx'
    · rw [if_neg hk] at hx'
      rw [ptrAt_erase, if_neg (by omega), setRow_other _ _ _ _ (fun e2 => by have := h.inj (k + 1) j x z hx' hz e2; omega)]
      exact h.nd _ x hx'
theorem mut_new {S : Nat → Prop} {w w' : World} (h : Mut (fun i => S i ∨ w.heap.size ≤ i) w w') : Mut S w w' :=
  ⟨h.os, h.tape, h.output, h.size, fun i hi hn => h.block i hi (by rintro (h1 | h1); exact hn h1; omega)⟩
/-- The flags as they are when those ahead of k were looked at. -/
structure Mid (ns ms : List Nd) (L' : List Tk) (k : Nat) : Prop where
  len : ms.length = ns.length
  at' : ∀ (j : Nat) (y : Nd), ns[j]? = some y → ms[j]? = some { y with has := if j < k then hasAt L' j else y.has }
theorem Mid.ptr {ns ms : List Nd} {L' : List Tk} {k : Nat} (h : Mid ns ms L' k) (i : Nat) : ptrAt ms i = ptrAt ns i := by
  unfold ptrAt
  cases hx : ns[i]? with
  | some y => rw [h.at' i y hx]; rfl
  | none =>
    have := h.len
    rw [List.getElem?_eq_none_iff] at hx
    rw [List.getElem?_eq_none (by omega)]
theorem Mid.map {ns ms : List Nd} {L' : List Tk} {k : Nat} (h : Mid ns ms L' k) : ms.map (·.p) = ns.map (·.p) := by
  apply List.ext_getElem?
  intro i
  rw [List.getElem?_map, List.getElem?_map]
  cases hx : ns[i]? with
  | some y => rw [h.at' i y hx]; rfl
  | none =>
    have := h.len
    rw [List.getElem?_eq_none_iff] at hx
    rw [List.getElem?_eq_none (by omega)]
theorem Mid.step {ns ms : List Nd} {L' : List Tk} {k : Nat} {x : Nd} (h : Mid ns ms L' k) (hx : ns[k]? = some x) (hb : hasAt L' k = x.has) : Mid ns ms L' (k + 1) := ⟨h.len, fun j y hy => by
  rw [h.at' j y hy]
  by_cases e : j = k
  · subst e
    rw [hx] at hy
    cases hy
    rw [if_neg (by omega), if_pos (by omega), hb]
  · by_cases hj : j < k
    · rw [if_pos hj, if_pos (by omega)]
    · rw [if_neg hj, if_neg (by omega)]⟩
theorem Mid.stepT {ns ms : List Nd} {L' : List Tk} {k : Nat} {x : Nd} (h : Mid ns ms L' k) (hx : ns[k]? = some x) (hb : hasAt L' k = true) : Mid ns (ms.set k { x with has := true }) L' (k + 1) := ⟨by simpa using h.len, fun j y hy => by
  by_cases e : k = j
  · subst e
    rw [hx] at hy
    cases hy
    rw [List.getElem?_set_self (by rw [h.len]; exact (List.getElem?_eq_some_iff.1 hx).1), if_pos (by omega), hb]
  · rw [List.getElem?_set_ne e, h.at' j y hy]
    by_cases hj : j < k
    · rw [if_pos hj, if_pos (by omega)]
    · rw [if_neg hj, if_neg (by omega)]⟩
set_option maxHeartbeats 1000000 in
/-- The walk over the row: who has its wants now? -/
theorem dropOver {S : Nat → Prop} {g tb lb B i : Nat} {ns : List Nd} {L : List Tk} (w w3 : World) (h : LkP w3 S g ns) (hL : ns.map (·.p) = L.eraseIdx i) (hi : i < L.length) (hh : ∀ (k : Nat) (x : Nd), ns[k]? = some x → x.has = hasAt L (if k < i then k else k + 1))
    (hM : Mut (fun i => S i ∨ B ≤ i) w w3) (hB : B ≤ w3.heap.size) (hlB : B ≤ lb)
    (ht : w3.heap[tb]? = some (.cells #[.pointer (some ⟨g, 0, none⟩)] 25 (0, 0))) (hl : w3.heap[lb]? = some (.cells #[.slice none 0 0] 28 (0, 0))) :
    Calls Try.prog 51 #[.pointer (some ⟨g, 0, none⟩), .func (.func 56) #[] #[.pointer (some ⟨tb, 0, none⟩), .pointer (some ⟨lb, 0, none⟩)]] w3 fun e W =>
      e = .returned (.tuple #[]) ∧ LkAt W S g (L.eraseIdx i) ∧ Mut (fun i => S i ∨ B ≤ i) w W ∧ ∃ v, W.heap[lb]? = some (.cells #[v] 28 (0, 0)) ∧ OwnR W B 3 1 One v (toldL L i).length (ics (toldL L i)) := by
  have hlen := h.len
  have hln : ns.length = (L.eraseIdx i).length := by rw [← hL]; simp
  refine over_any (enters_of Try.func56 (by kernel_rfl) rfl)
    (fun k W => ∃ ms v, LkP W S g ms ∧ Mid ns ms (L.eraseIdx i) k ∧ Mut (fun i => S i ∨ B ≤ i) w W ∧ B ≤ W.heap.size ∧ W.heap[tb]? = some (.cells #[.pointer (some ⟨g, 0, none⟩)] 25 (0, 0)) ∧ W.heap[lb]? = some (.cells #[v] 28 (0, 0)) ∧
      OwnR W B 3 1 One v ((List.range k).flatMap (toldK L (L.eraseIdx i) i)).length (ics ((List.range k).flatMap (toldK L (L.eraseIdx i) i))) ∧ ((List.range k).flatMap (toldK L (L.eraseIdx i) i)).length ≤ k)
    (fun W => LkAt W S g (L.eraseIdx i) ∧ Mut (fun i => S i ∨ B ≤ i) w W ∧ ∃ v, W.heap[lb]? = some (.cells #[v] 28 (0, 0)) ∧ OwnR W B 3 1 One v (toldL L i).length (ics (toldL L i))) w3
    ⟨ns, _, h, ⟨rfl, fun j y hy => by rw [if_neg (by omega)]; exact hy⟩, hM, hB, ht, hl, OwnR.nil, Nat.le_refl _⟩ (blk1 h.hg).1 ?_ ?_
  · rintro k x W hx ⟨ms, v, hp, hm, hM, hB, htb, hlb, hv, hvl⟩
    have hkl := (List.getElem?_eq_some_iff.1 hx).1
    have hmx := hm.at' k x hx
    rw [if_neg (by omega)] at hmx
    have hL'k : (L.eraseIdx i)[k]? = some x.p := by rw [← hL]; simp [hx]
    have hx3 : ∀ W' ms', LkP W' S g ms' → Mid ns ms' (L.eraseIdx i) (k + 1) → W'.cell? ⟨x.a, 3, none⟩ = some (ptrAt ns (k + 1)) := fun W' ms' h1 h2 => by
      have h3 := h2.at' k x hx
      have := (blk4 (h1.nd k _ h3)).2.2.2.1
      rw [h2.ptr] at this
      exact this
    have hr : (List.range (k + 1)).flatMap (toldK L (L.eraseIdx i) i) = (List.range k).flatMap (toldK L (L.eraseIdx i) i) ++ toldK L (L.eraseIdx i) i k := by
      rw [List.range_succ, List.flatMap_append]; simp
    have hflag := hh k x hx
    cases hxh : x.has with
    | true =>
      have hb : hasAt (L.eraseIdx i) k = true := hasAt_erase L hi (by rw [← hflag, hxh])
      have hm' := hm.step hx (by rw [hb, hxh])
      have ht0 : toldK L (L.eraseIdx i) i k = [] := by unfold toldK; rw [← hflag, hxh]; rfl
      refine (drop1_has W hp hmx (by simpa using hxh)).mono ?_
      rintro e W' ⟨rfl, rfl⟩
      refine .inl ⟨rfl, ⟨ms, v, hp, hm', hM, hB, htb, hlb, ?_, ?_⟩, hx3 _ _ hp hm'⟩
      · rw [hr, ht0, List.append_nil]; exact hv
      · rw [hr, ht0, List.append_nil]; omega
    | false =>
      have hmay : mayB ((ms.map (·.p)).take k) x.p.2 = hasAt (L.eraseIdx i) k := by rw [hm.map, hL, hasAt_some hL'k]
      cases hb : hasAt (L.eraseIdx i) k with
      | false =>
        have hm' := hm.step hx (by rw [hb, hxh])
        have ht0 : toldK L (L.eraseIdx i) i k = [] := by unfold toldK; rw [hb]; simp
        refine (drop1_not W hp hmx (by simpa using hxh) (by rw [← hb]; exact hmay) htb).mono ?_
        rintro e W' ⟨rfl, h1⟩
        have hp' := hp.ext h1
        refine .inl ⟨rfl, ⟨ms, v, hp', hm', hM.trans (Mut.of_ext h1), Nat.le_trans hB (Below.size h1), Ext.blk h1 htb, Ext.blk h1 hlb, ?_, ?_⟩, hx3 _ _ hp' hm'⟩
        · rw [hr, ht0, List.append_nil]; exact hv.ext h1
        · rw [hr, ht0, List.append_nil]; omega
      | true =>
        have hm' := hm.stepT hx hb
        have ht0 : toldK L (L.eraseIdx i) i k = [x.p.1] := by unfold toldK; rw [hb, ← hflag, hxh, hL'k]; rfl
        refine (drop1_told W hp hmx (by simpa using hxh) (by rw [← hb]; exact hmay) htb hlb hv hB hlB (by omega)).mono ?_
        rintro e W' ⟨rfl, hp', htb', hM', v', hlb', hv'⟩
        refine .inl ⟨rfl, ⟨_, v', hp', hm', hM.trans (hM'.mono fun j hj => ?_), Nat.le_trans hB hM'.size, htb', hlb', ?_, ?_⟩, hx3 _ _ hp' hm'⟩
        · rcases hj with rfl | hj
          · exact .inl (hp.sa k _ hmx :)
          · exact .inr hj
        · rw [hr, ht0, ics_app, List.length_append]; exact hv'
        · rw [hr, ht0, List.length_append, List.length_singleton]; omega
  · rintro W ⟨ms, v, hp, hm, hM, hB, htb, hlb, hv, hvl⟩
    refine ⟨⟨ms, hp, by rw [hm.map, hL], fun j y hy => ?_⟩, hM, v, hlb, ?_⟩
    · have hj := (List.getElem?_eq_some_iff.1 hy).1
      rw [hm.len] at hj
      have h1 := hm.at' j ns[j] (List.getElem?_eq_getElem hj)
      rw [hy] at h1
      simp only [Option.some.injEq] at h1
      rw [h1]
      simp [hj]
    · unfold toldL
      rw [← hln]
      exact hv
end Go.Proofs.Ytiihlbaajopllaa
