/- The document's table (jettyref18): how it lies in memory; at, may, Has. -/
import Derived.Test.YtiihlbaajopllaaLkT
set_option linter.unusedVariables false
set_option maxRecDepth 100000
namespace Go.Proofs.Ytiihlbaajopllaa
open Go.RowKit

structure Rn where
  wv : Value
  p : Tk
def rnC (r : Rn) : List Value := [.int .i64 r.p.1, r.wv]
def rncs (l : List Rn) : List Value := l.flatMap rnC
theorem rnC_length (r : Rn) : (rnC r).length = 2 := rfl
structure RtP (w : World) (S : Nat → Prop) (g : Nat) (v : Value) (ls : List Rn) : Prop where
  hg : w.heap[g]? = some (.cells #[v] 47 (0, 0))
  row : OwnR w 0 126 2 One v ls.length (rncs ls)
  wn : ∀ r ∈ ls, OwnR w 0 98 2 One r.wv r.p.2.length (wncs r.p.2)
  sg : S g
  sv : ∀ b, v.ownBlock = some b → S b
  len : ls.length ≤ 16
  wl : ∀ r ∈ ls, r.p.2.length ≤ 4
def RtAt (w : World) (S : Nat → Prop) (g : Nat) (L : List Tk) : Prop := ∃ v ls, RtP w S g v ls ∧ ls.map (·.p) = L
theorem RtP.mutw {w w' : World} {S T : Nat → Prop} {g : Nat} {v : Value} {ls : List Rn} (h : RtP w S g v ls) (k : Mut T w w') (hd : ∀ i, S i → ¬ T i) (hz : ∀ i o, T i → w.heap[i]? = some o → ¬ Zf o) : RtP w' S g v ls :=
  { h with
    hg := (k.block g (heap_lt h.hg) (hd _ h.sg)).trans h.hg
    row := h.row.mutO k fun b hb => hd _ (h.sv b hb)
    wn := fun r hr => (h.wn r hr).mutO k fun b hb ht => by obtain ⟨cs, hc⟩ := own_blk (h.wn r hr) hb; exact hz b _ ht hc rfl }
def rtK (o : Obj) : Prop := match o with
  | .cells _ t _ => t = 47 ∨ t = 126
  | _ => False
def rtOb (g : Nat) (L : List Tk) : Ob Zf where
  is := fun w S => RtAt w S g L
  K := rtK
  mutw := fun ⟨v, ls, h, h2⟩ k hd hz => ⟨v, ls, h.mutw k hd hz, h2⟩
  mono := fun ⟨v, ls, h, h2⟩ k => ⟨v, ls, { h with sg := k _ h.sg, sv := fun b hb => k _ (h.sv b hb) }, h2⟩
  trim := fun ⟨v, ls, h, h2⟩ => ⟨v, ls, { h with
    sg := ⟨h.sg, _, h.hg, .inl rfl⟩
    sv := fun b hb => ⟨h.sv b hb, by obtain ⟨cs, hc⟩ := own_blk h.row hb; exact ⟨_, hc, .inr rfl⟩⟩ }, h2⟩
  kz := fun o h hz => by
    cases o <;> simp only [rtK, Zf] at h hz
    rw [hz] at h
    revert h
    decide
theorem RtP.ext {w w' : World} {S : Nat → Prop} {g : Nat} {v : Value} {ls : List Rn} (h : RtP w S g v ls) (k : Ext w w') : RtP w' S g v ls := h.mutw (T := fun _ => False) (Mut.of_ext k) (fun _ _ h => h) fun _ _ h => h.elim
theorem rncs_at {l : List Rn} {k : Nat} {r : Rn} (h : l[k]? = some r) : (rncs l)[k * 2]? = some (.int .i64 r.p.1) ∧ (rncs l)[k * 2 + 1]? = some r.wv :=
  ⟨flat_at rnC_length l k 0 r h (by omega), flat_at rnC_length l k 1 r h (by omega)⟩
/-- The k-th task. -/
theorem RtP.task {w : World} {S : Nat → Prop} {g : Nat} {A : Option Addr} {n c : Nat} {ls : List Rn} (h : RtP w S g (.slice A n c) ls) {k : Nat} {r : Rn} (hk : ls[k]? = some r) :
    ∃ gs, A = some ⟨gs, 0, none⟩ ∧ gs < w.heap.size ∧ ls.length ≤ c ∧ w.cell? ⟨gs, k * 2, none⟩ = some (.int .i64 r.p.1) ∧ w.cell? ⟨gs, k * 2 + 1, none⟩ = some r.wv := by
  have hkl := (List.getElem?_eq_some_iff.1 hk).1
  have hrow := h.row
  obtain ⟨A', c', hv⟩ := hrow.form
  simp only [Value.slice.injEq] at hv
  obtain ⟨-, rfl, rfl⟩ := hv
  obtain ⟨gs, rfl, _, hlt, hc, hj⟩ := hrow.cells (by omega)
  obtain ⟨q0, q1⟩ := rncs_at hk
  obtain ⟨l0, e0⟩ := List.getElem?_eq_some_iff.1 q0
  obtain ⟨l1, e1⟩ := List.getElem?_eq_some_iff.1 q1
  exact ⟨gs, rfl, hlt, hc (by omega), by rw [hj _ l0, e0], by rw [hj _ l1, e1]⟩
def atI (L : List Tk) (n : Int) : Int := match atL L n with
  | some i => i
  | none => -1
theorem atL_miss {L : List Tk} {n : Int} (h : ∀ p ∈ L, p.1 ≠ n) : atL L n = none := by
  rcases atL_spec L n with ⟨h1, _⟩ | ⟨i, p, _, h2, h3, _⟩
  · exact h1
  · exact absurd h3 (h p (List.mem_of_getElem? h2))
theorem atL_hit {L : List Tk} {n : Int} {i : Nat} {p : Tk} (hp : L[i]? = some p) (hn : p.1 = n) (h : ∀ j q, j < i → L[j]? = some q → q.1 ≠ n) : atL L n = some i := by
  rcases atL_spec L n with ⟨_, h2⟩ | ⟨j, q, h1, h2, h3, h4⟩
  · exact absurd hn (h2 p (List.mem_of_getElem? hp))
  · rw [h1]
    congr 1
    rcases Nat.lt_trichotomy i j with hij | hij | hij
    · exact absurd hn (h4 i p hij hp)
    · exact hij.symm
    · exact absurd h3 (h j q hij h2)
set_option maxHeartbeats 1000000 in
theorem rat_any {S : Nat → Prop} {g : Nat} {L : List Tk} (n : Int) (w : World) (h : RtAt w S g L) :
    Calls Try.prog 79 #[.pointer (some ⟨g, 0, none⟩), .int .i64 n] w fun e w' => e = .returned (.int .i64 (atI L n)) ∧ w = w' := by
  obtain ⟨v, ls, h, rfl⟩ := h
  obtain ⟨A, c, hv⟩ := h.row.form
  subst hv
  have hlen := h.len
  obtain ⟨c0, -, gl⟩ := blk1 h.hg
  have H := Lib.hid h
  clear h
  go_enter Try.func79, Try.ntmps79
  go_wp2
  go_loop [5] (fun s => ∃ k : Nat, k ≤ ls.length ∧ s = .int .i64 k ∧ Hid (∀ j q, j < k → (ls.map (·.p))[j]? = some q → q.1 ≠ n)) (fun s => ls.length - (intOf s).toNat)
  case atStart => exact ⟨0, Nat.zero_le _, rfl, Lib.hid fun j q hj => absurd hj (Nat.not_lt_zero _)⟩
  case round =>
    obtain ⟨k, hk, rfl, HA⟩ := hrel
    by_cases hlt : k < ls.length
    · obtain ⟨r, hr⟩ : ∃ r, ls[k]? = some r := ⟨_, List.getElem?_eq_getElem hlt⟩
      obtain ⟨gs, rfl, hgs, hc, t0, t1⟩ := H.out.task hr
      have hq : (ls.map (·.p))[k]? = some r.p := by simp [hr]
      have HR := Lib.hid hq
      clear hr hq
      by_cases hn : r.p.1 = n
      · have E : Hid (atI (ls.map (·.p)) n = k) := Lib.hid (by unfold atI; rw [atL_hit HR.out hn HA.out])
        go_wp2
        go_ret
        exact ⟨by rw [E.out]; rfl, rfl⟩
      · have hb : (r.p.1 == n) = false := by rw [beq_eq_false_iff_ne]; exact hn
        have HN := Lib.hid hn
        clear hn
        go_wp2
        go_round
        case rel =>
          refine ⟨k + 1, by omega, by go_num, Lib.hid fun j q hj hq => ?_⟩
          by_cases e : j = k
          · subst e
            rw [HR.out] at hq
            cases hq
            exact HN.out
          · exact HA.out j q (by omega) hq
        case measure => simp [intOf]; omega
    · obtain rfl : k = ls.length := by omega
      have E : Hid (atI (ls.map (·.p)) n = -1) := Lib.hid (by
        unfold atI
        rw [atL_miss fun p hp => by
          obtain ⟨j, hj, rfl⟩ := List.getElem_of_mem hp
          exact HA.out j _ (by simpa using hj) (List.getElem?_eq_getElem hj)])
      go_wp2
      go_ret
      exact ⟨by rw [E.out]; rfl, rfl⟩
set_option maxHeartbeats 1000000 in
theorem rmay_any {S : Nat → Prop} {g i : Nat} {L : List Tk} (w : World) (h : RtAt w S g L) (hi : i < L.length) :
    Calls Try.prog 80 #[.pointer (some ⟨g, 0, none⟩), .int .i64 i] w fun e w' => e = .returned (.bool (hasAt L i)) ∧ Below w.heap.size w w' := by
  obtain ⟨v, ls, h, rfl⟩ := h
  obtain ⟨A, c, hv⟩ := h.row.form
  subst hv
  have hlen := h.len
  simp only [List.length_map] at hi
  obtain ⟨ri, hri⟩ : ∃ r, ls[i]? = some r := ⟨_, List.getElem?_eq_getElem hi⟩
  have hmi := List.mem_of_getElem? hri
  obtain ⟨gs, rfl, hgs, hc, i0, i1⟩ := h.task hri
  obtain ⟨Ai, ci, hwi⟩ := (h.wn ri hmi).form
  have rri := (h.wn ri hmi).rr (by omega)
  have wli := h.wl ri hmi
  have hhas : hasAt (ls.map (·.p)) i = mayB ((ls.map (·.p)).take i) ri.p.2 := hasAt_some (by simp [hri])
  rw [hhas]
  rw [hwi] at i1 rri
  obtain ⟨c0, -, gl⟩ := blk1 h.hg
  have H := Lib.hid h
  have RI := Lib.hid rri
  clear h hri hmi hwi rri hhas
  go_enter Try.func80, Try.ntmps80
  go_wp2
  go_loopg [5] i (fun gg s wr => ∃ k : Nat, k ≤ i ∧ i - k ≤ gg ∧ s = .int .i64 k ∧ Hid (Ext w wr) ∧ Hid (mayB ((ls.map (·.p)).take k) ri.p.2 = true))
  case atStart => exact ⟨0, Nat.zero_le _, by omega, rfl, Lib.hid (Ext.refl w), Lib.hid rfl⟩
  case round =>
    obtain ⟨k, hk, hg, rfl, HW, HM⟩ := hrel
    by_cases hlt : k < i
    · obtain ⟨r, hr⟩ : ∃ r, ls[k]? = some r := ⟨_, List.getElem?_eq_getElem (by omega)⟩
      have hm := List.mem_of_getElem? hr
      obtain ⟨gs', hA, -, -, k0, k1⟩ := H.out.task hr
      simp only [Option.some.injEq, Addr.mk.injEq, and_true] at hA
      subst hA
      obtain ⟨Ak, ck, hwk⟩ := (H.out.wn r hm).form
      have rrk := (H.out.wn r hm).rr (by omega)
      have wlk := H.out.wl r hm
      rw [hwk] at k1 rrk
      have hstep := mayB_succ (L := ls.map (·.p)) (k := k) (q := r.p) (by simp [hr]) ri.p.2
      rw [HM.out, Bool.true_and] at hstep
      have HS := Lib.hid hstep
      have RK := Lib.hid rrk
      have f0 := HW.out.cells1 gl c0
      have fi := HW.out.cells1 hgs i1
      have fk := HW.out.cells1 hgs k1
      have gl' := Nat.lt_of_lt_of_le gl (Below.size HW.out)
      have hgs' := Nat.lt_of_lt_of_le hgs (Below.size HW.out)
      clear hr hm hwk hstep rrk k0 k1
      go_wp2
      have e0 := fun (ψ : World → Prop) (e : ExtP wr.heap.size wr ψ) => e.cell f0 gl'
      have e1 := fun (ψ : World → Prop) (e : ExtP wr.heap.size wr ψ) => e.cell fi hgs'
      have e2 := fun (ψ : World → Prop) (e : ExtP wr.heap.size wr ψ) => e.cell fk hgs'
      clear f0 fi fk
      refine wp_region_pieces 16  [(true, [0, 1, 2, 3, 4, 5, 6, 7, 8, 9, 10, 11, 12, 13, 14, 15])] (by kernel_rfl) (by kernel_rfl) ?_; simp only [pick, List.map_cons, List.map_nil, List.flatMap_cons, List.flatMap_nil, Option.toList_some, List.singleton_append, List.drop_succ_cons, List.drop_zero, List.getElem?_cons_zero, List.getElem?_cons_succ]
      refine ⟨by kernel_rfl, ?_⟩; apply Exists.intro; refine ⟨fun ψ hψ hne => (by (repeat (go_big_quiet_step (( fail )))); exact wpQuiet_nil rfl), ?_⟩
      intro w1 h1
      clear e0 e1 e2
      have hE := Ext.trans HW.out h1
      have K := Lib.hid (Clash_any _ _ w1 (RK.out.ext hE) (RI.out.ext hE) (by omega) (by omega))
      have HE := Lib.hid hE
      cases hq : clashL r.p.2 ri.p.2 with
      | true =>
        rw [hq] at HS K
        have E : Hid (mayB ((ls.map (·.p)).take i) ri.p.2 = false) := Lib.hid (by
          cases hb : mayB ((ls.map (·.p)).take i) ri.p.2 with
          | false => rfl
          | true =>
            have := mayB_sub (a := (ls.map (·.p)).take (k + 1)) (fun q hq => by
              rw [show (ls.map (·.p)).take (k + 1) = ((ls.map (·.p)).take i).take (k + 1) by rw [List.take_take, Nat.min_eq_left (by omega)]] at hq
              exact List.mem_of_mem_take hq) hb
            rw [HS.out] at this
            cases this)
        clear hq h1 hE
        go_wp2_with fail
        refine K.out.mono ?_
        rintro e w2 ⟨rfl, h2⟩
        go_wp2
        go_ret
        exact ⟨by rw [E.out]; rfl, Ext.trans HE.out h2⟩
      | false =>
        rw [hq] at HS K
        clear hq h1 hE
        go_wp2_with fail
        refine K.out.mono ?_
        rintro e w2 ⟨rfl, h2⟩
        go_wp2
        go_roundg (i - (k + 1))
        case measure => omega
        case rel => exact ⟨k + 1, by omega, by omega, by go_num, Lib.hid (Ext.trans HE.out h2), HS⟩
    · obtain rfl : k = i := by omega
      go_wp2
      go_ret
      exact ⟨by rw [HM.out]; rfl, HW.out⟩
theorem rhas_any {S : Nat → Prop} {g : Nat} {L : List Tk} (n : Int) (w : World) (h : RtAt w S g L) :
    Calls Try.prog 62 #[.pointer (some ⟨g, 0, none⟩), .int .i64 n] w fun e w' => e = .returned (.bool (hasL L n)) ∧ Below w.heap.size w w' := by
  have K := Lib.hid (rat_any n w h)
  rcases atL_spec L n with ⟨h1, _⟩ | ⟨i, p, h1, h2, _⟩
  · have e : hasL L n = false := by unfold hasL; rw [h1]
    have e2 : atI L n = -1 := by unfold atI; rw [h1]
    rw [e]
    rw [e2] at K
    clear e e2 h1
    go_enter Try.func62, Try.ntmps62
    go_wp2_with (go_at_call 79; refine K.out.mono ?_; rintro e w1 ⟨rfl, rfl⟩)
    go_ret
    exact ⟨rfl, Below.refl _ _⟩
  · have e : hasL L n = hasAt L i := by unfold hasL; rw [h1]
    have e2 : atI L n = i := by unfold atI; rw [h1]
    have M := Lib.hid (rmay_any w h (List.getElem?_eq_some_iff.1 h2).1)
    rw [e]
    rw [e2] at K
    clear e e2 h1 h2
    go_enter Try.func62, Try.ntmps62
    go_wp2_with (first | (go_at_call 79; refine K.out.mono ?_; rintro e w1 ⟨rfl, rfl⟩) | (go_at_call 80; refine M.out.mono ?_; rintro e w2 ⟨rfl, h2⟩))
    go_ret
    exact ⟨rfl, h2⟩
end Go.Proofs.Ytiihlbaajopllaa
