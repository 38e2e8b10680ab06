/- Records: the document's reader: Held; among the objects; slices of slices of bytes. -/
import Derived.Test.YtbbkailmlaffjaaRcS
import Derived.Test.YtbbkailmlaffjaaOpen
import Derived.Deep.Matrix
set_option linter.unusedVariables false
set_option maxRecDepth 100000
namespace Go.Proofs.Ytbbkailmlaffjaa
open Go.RowKit

theorem rHeld_any {S : Nat → Prop} {g : Nat} {st : Rc} {m : Nat} (w : World) (q : (rdOb g st m).is w S) (hm : m ≤ 500000) :
    Calls Try.prog 21 #[.pointer (some ⟨g, 0, none⟩)] w fun e w' => e = .returned (.int .i64 st.held) ∧ Below w.heap.size w w' := by
  obtain ⟨⟨All, X, hg, hF, hl⟩, hS⟩ := q
  obtain ⟨c0, c1, c2, f0, f1, f2, gl⟩ := blk3 hg
  cases hsh : st.shut with
  | true =>
    rw [hsh] at c2
    have h0 : st.held = 0 := by rw [(feedOk hF).sh hsh]; rfl
    rw [h0]
    clear hg hF hl
    go_enter Try.func21, Try.ntmps21
    go_wp2_with fail
    go_ret
    exact ⟨rfl, Below.refl _ _⟩
  | false =>
    rw [hsh] at c2
    have hsz := str_size All
    have HF := Lib.hid hF
    have HG := Lib.hid hg
    clear hg hF
    go_enter Try.func21, Try.ntmps21
    go_wp2_with fail
    refine (rTold_any All w (by omega)).mono ?_
    rintro e w2 ⟨tv, xs, whole, shut, rfl, ho2, ht2, hb2⟩
    obtain ⟨st2, hf, hsh2, hwl, hhd⟩ := ht2
    rw [HF.out] at hf
    simp only [Prod.mk.injEq] at hf
    obtain ⟨rfl, rfl⟩ := hf
    have hh := hhd (by rw [← hsh2]; exact hsh)
    obtain ⟨c0, c1, c2, f0, f1, f2, gl⟩ := blk3 (Ext.blk hb2 HG.out)
    have hdiff : (All.length : Int) - whole = st.held := by omega
    have HB := Lib.hid hb2
    clear ho2 hb2 hhd hh hsh2
    go_wp2_with fail
    go_ret
    exact ⟨rfl, HB.out⟩
section
variable {W w : World} {ds : List (Ob Zn)}
theorem rHeldO (h : OSt W ds w) (i : Nat) {g m : Nat} {st : Rc} (hi : ds[i]? = some (rdOb g st m)) (hm : m ≤ 500000) : Calls Try.prog 21 #[.pointer (some ⟨g, 0, none⟩)] w fun e w' => e = .returned (.int .i64 st.held) ∧ Below w.heap.size w w' := by
  obtain ⟨S, h1, _⟩ := h.pick hi
  exact rHeld_any w h1 hm
theorem rCellO (h : OSt W ds w) (i : Nat) {g m : Nat} {st : Rc} (hi : ds[i]? = some (rdOb g st m)) : w.cell? ⟨g, 2, none⟩ = some (.bool st.shut) ∧ g < w.heap.size := by
  obtain ⟨S, ⟨⟨All, X, hg, _, _⟩, _⟩, _⟩ := h.pick hi
  obtain ⟨c0, c1, c2, f0, f1, f2, gl⟩ := blk3 hg
  exact ⟨c2, gl⟩
theorem rFeedO (h : OSt W ds w) (i : Nat) {g m : Nat} {st : Rc} {v : Value} {ch : List UInt8} (hi : ds[i]? = some (rdOb g st m)) (hch : RZ w v ch) (hm : m + ch.length ≤ 500000) :
    Calls Try.prog 20 #[.pointer (some ⟨g, 0, none⟩), v] w fun e w' => ∃ bv tv n cs, e = .returned (.tuple #[bv, .int .i64 (shN (feed st ch).1.shut)]) ∧ OSt W (ownOb 9 1 tv n cs :: ds.set i (rdOb g (feed st ch).1 (m + ch.length))) w' ∧
      ∀ w'', OwnR w'' 0 9 1 One tv n cs → RR w'' 1 bv (feed st ch).2.length (svs (feed st ch).2) := by
  obtain ⟨S, h1, h2, h3, h4⟩ := h.pick hi
  refine (rFeed_any w h1 hch hm).mono ?_
  rintro e w' ⟨bv, tv, n, cs, rfl, ho, hT, hr⟩
  refine ⟨bv, tv, n, cs, rfl, h4 w' _ (ownOb 9 1 tv n cs) (fun b => tv.ownBlock = some b) hT ⟨ho.mono (Nat.zero_le _), fun b hb => hb⟩ (fun k hk => ⟨(own_lt ho hk).1, ?_⟩), hr⟩
  obtain ⟨cs', hc⟩ := own_blk ho hk
  exact ⟨_, hc, rfl, fun h => absurd (show 9 = 45 from h) (by decide)⟩
theorem OSt.newRd (h : OSt W ds w) : OSt W (rdOb w.heap.size rc0 0 :: ds) (w.alloc (.cells #[.string ⟨#[]⟩, .int .i64 0, .bool false] 45)) :=
  h.push (extAl w _) (R := fun i => i = w.heap.size) ⟨⟨[], [], heap_alloc_last _ _, rfl, Nat.le_refl _⟩, rfl⟩ fun i hi => Nat.le_of_eq hi.symm
end
theorem away_at {W w : World} {ds : List (Ob Zn)} {T : TypeId} {sz n m i j c : Nat} {A : Option Addr} {cs : List Value} (h : OSt W ds w) (hj : ds[j]? = some (ownOb T sz (.slice A n c) m cs)) (hij : j ≠ i) : Away W ds i (.slice A n c) := fun b off n' c' e => by
  have ho := h.own j hj
  simp only [Value.slice.injEq] at e
  obtain ⟨rfl, -, -⟩ := e
  obtain ⟨_, ⟨h1, _⟩ | ⟨g, c2, junk, h1, _⟩⟩ := ho
  · cases h1
  · simp only [Value.slice.injEq, Option.some.injEq, Addr.mk.injEq, and_true] at h1
    exact .inr ⟨j, T, sz, _, m, cs, hij, hj, by simp [Value.ownBlock]⟩
structure BssT where
  v : Value
  l : List (Value × List UInt8)
structure BssT.Ok (w : World) (x : BssT) : Prop where
  rr : RR w 1 x.v x.l.length (x.l.map (·.1))
  each : ∀ p ∈ x.l, RZ w p.1 p.2 ∧ p.2.length ≤ maxLen
  len : x.l.length ≤ maxLen
end Go.Proofs.Ytbbkailmlaffjaa
namespace Go.Proofs.Ytbbkailmlaffjaa
open Go.RowKit Go.ChangeShapes Go.WideShapes Go.ChangeAt Go.Deep
section
variable {H : Type} {enc : TypeId × Value → H} {W : World} {base : Nat} {b0 : Nat} {held : Bool}
theorem open_Wbss {v : Value} {d : DataW H} {p : List MemPlace} {r : Reach} (hv : Value.okWide Try.prog W r b0 41 v) (h : DataW.Trod enc Try.prog W base (fun _ => true) held 41 v d p) : ∃ x : BssT, v = x.v ∧ x.Ok W := by
  obtain ⟨a0, len, cap, rfl⟩ := okWide_slice Try.underlying41 hv
  obtain ⟨m, hm⟩ := h
  rcases open_int_rows Try.underlying41 Try.underlying22 Try.underlying5 (by kernel_rfl) (by kernel_rfl) hm with ⟨h0, _⟩ | ⟨a, len', cap', A, L, C, Z, h0, hb, hl, hcap, _, hx⟩
  · obtain ⟨rfl, rfl, rfl⟩ : a0 = none ∧ len = 0 ∧ cap = 0 := by simpa [Value.cells] using h0
    exact ⟨⟨_, []⟩, rfl, RR.nil, fun _ h => (by cases h), Nat.zero_le _⟩
  · obtain ⟨rfl, rfl, rfl⟩ : a0 = some a ∧ len = len' ∧ cap = cap' := by simpa [Value.cells] using h0
    obtain ⟨hs, hlt⟩ := has_slice Try.underlying41 hv
    obtain ⟨b, off, spot⟩ := a
    simp only at hs
    subst hs
    obtain ⟨l, hll, hq⟩ := list_of (Q := fun i (x : Value × List UInt8) => W.cell? ⟨b, off + i, none⟩ = some x.1 ∧ RZ W x.1 x.2 ∧ x.2.length ≤ maxLen) len fun i hi => by
      obtain ⟨h1, h2, h3, h4, h5, h6, h7⟩ := hx i (by omega)
      rw [Addr.add_lit] at h1
      have hzl : ((Z i).take (L i)).length = L i := by simp; omega
      have hml : (((Z i).take (L i)).map byteOf).length ≤ maxLen := by simp; omega
      refine ⟨(.slice (A i) (L i) (C i), ((Z i).take (L i)).map byteOf), h1, ?_, hml⟩
      cases hA : A i with
      | none =>
        have hc := h6 hA
        have hl0 : L i = 0 := by omega
        rw [hc, hl0]
        exact .inl (.inl ⟨rfl, rfl⟩)
      | some a' =>
        by_cases hl0 : L i = 0
        · rw [hl0]
          exact .inr ⟨a', C i, rfl, rfl⟩
        · obtain ⟨-, hcell⟩ := h7 a' hA
          have hc0 := hcell 0 (by omega)
          obtain ⟨b', off', spot'⟩ := a'
          have hs : spot' = none := by simpa [Addr.add] using World.cell?_spot hc0
          subst hs
          rw [Addr.add_lit] at hc0
          have hlt' : b' < W.heap.size := by
            unfold World.cell? at hc0
            cases hb : W.heap[b']? with
            | none => simp [hb] at hc0
            | some o => exact (Array.getElem?_eq_some_iff.1 hb).1
          refine .inl (.inr ⟨b', off', C i, by rw [List.length_map, hzl], hlt', by rw [List.length_map, hzl]; exact h2, fun j hj => ?_⟩)
          rw [List.length_map, hzl] at hj
          have hc' := hcell j (by omega)
          rw [Addr.add_lit] at hc'
          rw [hc']
          have hj' : j < (Z i).length := by omega
          have hwf := h5 (Z i)[j] (by simp)
          have hb : 0 ≤ (Z i)[j] ∧ (Z i)[j] ≤ 255 := by simpa [Lit.wf, IntKind.has, IntKind.min, IntKind.max, IntKind.signed, IntKind.bits] using hwf
          simp only [bvs, List.map_map, List.getElem?_map, List.getElem?_take, if_pos hj, List.getElem?_eq_getElem hj', Option.map_some, Function.comp, bv_byteOf, List.getD, Option.getD_some]
          rw [Int.emod_eq_of_lt hb.1 (by omega)]
    subst hll
    refine ⟨⟨_, l⟩, rfl, ⟨by simp, .inr ⟨b, off, cap, rfl, hlt, hl, fun j hj => ?_⟩⟩, fun p hp => ?_, Nat.le_trans hl hcap⟩
    · rw [List.length_map] at hj
      rw [(hq j _ (List.getElem?_eq_getElem hj)).1]
      simp
    · obtain ⟨i, hil, rfl⟩ := List.getElem_of_mem hp
      exact (hq i _ (List.getElem?_eq_getElem hil)).2
end
end Go.Proofs.Ytbbkailmlaffjaa
