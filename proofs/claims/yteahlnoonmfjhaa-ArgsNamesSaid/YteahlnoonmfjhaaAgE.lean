/- Arguments: Write. -/
import Derived.Test.YteahlnoonmfjhaaAgD
set_option linter.unusedVariables false
set_option maxRecDepth 100000
namespace Go.Proofs.Yteahlnoonmfjhaa
open Go.RowKit

theorem askedL_mem {p : Int} {l : List UInt8} (h : askedL p = some l) : (∀ c ∈ l, c ∈ lettersA) ∧ l.length ≤ 4 := by
  have key : ∀ i : Nat, i < 19 → ∀ l, askedL (i : Int) = some l → (∀ c ∈ l, c ∈ lettersA) ∧ l.length ≤ 4 := by
    intro i hi l hl
    have : i = 0 ∨ i = 1 ∨ i = 2 ∨ i = 3 ∨ i = 4 ∨ i = 5 ∨ i = 6 ∨ i = 7 ∨ i = 8 ∨ i = 9 ∨ i = 10 ∨ i = 11 ∨ i = 12 ∨ i = 13 ∨ i = 14 ∨ i = 15 ∨ i = 16 ∨ i = 17 ∨ i = 18 := by omega
    rcases this with rfl | rfl | rfl | rfl | rfl | rfl | rfl | rfl | rfl | rfl | rfl | rfl | rfl | rfl | rfl | rfl | rfl | rfl | rfl <;> (cases hl; decide)
  by_cases hp : 0 ≤ p ∧ p < 19
  · obtain ⟨i, rfl⟩ : ∃ i : Nat, p = i := ⟨p.toNat, by omega⟩
    exact key i (by omega) l h
  · exfalso
    have : askedL p = none := by
      unfold askedL
      repeat (rw [if_neg (by omega)])
    rw [this] at h
    cases h
theorem textL_length (s : List UInt8) : (textL s).length ≤ s.length + 7 := by
  have := padN_le s.length
  simp only [textL, List.length_append, beN_length, fixL_length]
  omega
theorem intL_length (n : Int) : (intL n).length = 8 := beL_length _
theorem putA_length {c : UInt8} {a : AgT} {x : List UInt8} (hc : c ∈ lettersA) (hk : a.Ok) (h : putA c a = some x) : x.length ≤ 21000 := by
  have h1 := textL_length a.name
  have h2 := textL_length a.other
  have h3 := textL_length a.text
  have k1 := hk.name
  have k2 := hk.other
  have k3 := hk.text
  simp only [lettersA, List.mem_cons, List.not_mem_nil, or_false] at hc
  have hH : ∀ y : Int × Int × Int, hB y = some x → x.length ≤ 21000 := fun y hy => by
    unfold hB at hy
    split at hy
    · cases hy; rw [hbytes_length]; omega
    · cases hy
  have hT : ∀ (s : List UInt8) m, s.length ≤ 20000 → tB s m = some x → x.length ≤ 21000 := fun s m hs hy => by
    unfold tB at hy
    split at hy
    · cases hy
    · cases hy; have := textL_length s; omega
  have hI : ∀ n : Int, some (intL n) = some x → x.length ≤ 21000 := fun n hy => by cases hy; rw [intL_length]; omega
  rcases hc with rfl | rfl | rfl | rfl | rfl | rfl | rfl | rfl | rfl | rfl | rfl | rfl
  · exact hH _ h
  · exact hH _ h
  · exact hT _ _ k1 h
  · exact hT _ _ k2 h
  · exact hT _ _ k3 h
  · exact hI _ h
  · exact hI _ h
  · exact hI _ h
  · exact hI _ h
  · exact hI _ h
  · exact hI _ h
  · have h : some (beL a.verf) = some x := h
    cases h; rw [beL_length]; omega
theorem i64_zero : I64 0 := ⟨by decide, by decide⟩
theorem clrA_ok {c : UInt8} {a : AgT} (hk : a.Ok) : (clrA c a).Ok := by
  unfold clrA
  have z := i64_zero
  by_cases e72 : c = 72
  · rw [if_pos e72]; exact { hk with h := ⟨z, z, z⟩ }
  rw [if_neg e72]
  by_cases e84 : c = 84
  · rw [if_pos e84]; exact { hk with t := ⟨z, z, z⟩ }
  rw [if_neg e84]
  by_cases e110 : c = 110
  · rw [if_pos e110]; exact { hk with name := Nat.zero_le _ }
  rw [if_neg e110]
  by_cases e111 : c = 111
  · rw [if_pos e111]; exact { hk with other := Nat.zero_le _ }
  rw [if_neg e111]
  by_cases e120 : c = 120
  · rw [if_pos e120]; exact { hk with text := Nat.zero_le _ }
  rw [if_neg e120]
  by_cases e112 : c = 112
  · rw [if_pos e112]; exact { hk with at_ := z }
  rw [if_neg e112]
  by_cases e78 : c = 78
  · rw [if_pos e78]; exact { hk with n := z }
  rw [if_neg e78]
  by_cases e109 : c = 109
  · rw [if_pos e109]; exact { hk with mode := z }
  rw [if_neg e109]
  by_cases e115 : c = 115
  · rw [if_pos e115]; exact { hk with size := z }
  rw [if_neg e115]
  by_cases e98 : c = 98
  · rw [if_pos e98]; exact { hk with stable := z }
  rw [if_neg e98]
  by_cases e103 : c = 103
  · rw [if_pos e103]; exact { hk with guard := z }
  rw [if_neg e103]
  by_cases e118 : c = 118
  · rw [if_pos e118]; exact { hk with verf := ⟨Int.le_refl 0, by show (0 : Int) ≤ 18446744073709551615; omega⟩ }
  rw [if_neg e118]
  exact hk
theorem ldAg {w : World} {g : Nat} {a : AgT} (h : w.heap[g]? = some (.cells (agC a).toArray 35 (0, 0))) : (Instr.loadAt 35 (.pointer (some ⟨g, 0, none⟩))).run Try.prog w = .ok (.agg (agC a).toArray) w :=
  loadAt_cs (P := Try.prog) Try.underlying35 (by kernel_rfl) fun j hj => by
    rw [cell_of_row _ _ _ _ _ _ h, Nat.zero_add, List.getElem?_toArray, List.getElem?_eq_getElem hj]
theorem neq_ag (a : AgT) (w : World) : (binOp .neq 35 (.agg (agC a).toArray) (.agg #[.int .i64 0, .int .i64 0, .int .i64 0, .int .i64 0, .int .i64 0, .int .i64 0, .string ⟨#[]⟩, .string ⟨#[]⟩, .string ⟨#[]⟩, .int .i64 0, .int .i64 0, .int .i64 0, .int .i64 0, .int .i64 0, .int .i64 0, .int .u64 0])).run Try.prog w = .ok (.bool (!decide (a = ag0))) w := by
  unfold agC
  go_simp
  by_cases e0 : ¬ (a.h.1 = 0)
  · rw [if_neg e0]
    have : a ≠ ag0 := fun h => e0 (by rw [h]; rfl)
    simp [this]
  replace e0 := Decidable.not_not.1 e0
  rw [if_pos e0]
  by_cases e1 : ¬ (a.h.2.1 = 0)
  · rw [if_neg e1]
    have : a ≠ ag0 := fun h => e1 (by rw [h]; rfl)
    simp [this]
  replace e1 := Decidable.not_not.1 e1
  rw [if_pos e1]
  by_cases e2 : ¬ (a.h.2.2 = 0)
  · rw [if_neg e2]
    have : a ≠ ag0 := fun h => e2 (by rw [h]; rfl)
    simp [this]
  replace e2 := Decidable.not_not.1 e2
  rw [if_pos e2]
  by_cases e3 : ¬ (a.t.1 = 0)
  · rw [if_neg e3]
    have : a ≠ ag0 := fun h => e3 (by rw [h]; rfl)
    simp [this]
  replace e3 := Decidable.not_not.1 e3
  rw [if_pos e3]
  by_cases e4 : ¬ (a.t.2.1 = 0)
  · rw [if_neg e4]
    have : a ≠ ag0 := fun h => e4 (by rw [h]; rfl)
    simp [this]
  replace e4 := Decidable.not_not.1 e4
  rw [if_pos e4]
  by_cases e5 : ¬ (a.t.2.2 = 0)
  · rw [if_neg e5]
    have : a ≠ ag0 := fun h => e5 (by rw [h]; rfl)
    simp [this]
  replace e5 := Decidable.not_not.1 e5
  rw [if_pos e5]
  by_cases e6 : ¬ ((str a.name).toList = [])
  · rw [if_neg e6]
    have : a ≠ ag0 := fun h => e6 (by rw [h]; rw [strL]; rfl)
    simp [this]
  replace e6 := Decidable.not_not.1 e6
  rw [if_pos e6]
  by_cases e7 : ¬ ((str a.other).toList = [])
  · rw [if_neg e7]
    have : a ≠ ag0 := fun h => e7 (by rw [h]; rw [strL]; rfl)
    simp [this]
  replace e7 := Decidable.not_not.1 e7
  rw [if_pos e7]
  by_cases e8 : ¬ ((str a.text).toList = [])
  · rw [if_neg e8]
    have : a ≠ ag0 := fun h => e8 (by rw [h]; rw [strL]; rfl)
    simp [this]
  replace e8 := Decidable.not_not.1 e8
  rw [if_pos e8]
  by_cases e9 : ¬ (a.at_ = 0)
  · rw [if_neg e9]
    have : a ≠ ag0 := fun h => e9 (by rw [h]; rfl)
    simp [this]
  replace e9 := Decidable.not_not.1 e9
  rw [if_pos e9]
  by_cases e10 : ¬ (a.n = 0)
  · rw [if_neg e10]
    have : a ≠ ag0 := fun h => e10 (by rw [h]; rfl)
    simp [this]
  replace e10 := Decidable.not_not.1 e10
  rw [if_pos e10]
  by_cases e11 : ¬ (a.mode = 0)
  · rw [if_neg e11]
    have : a ≠ ag0 := fun h => e11 (by rw [h]; rfl)
    simp [this]
  replace e11 := Decidable.not_not.1 e11
  rw [if_pos e11]
  by_cases e12 : ¬ (a.size = 0)
  · rw [if_neg e12]
    have : a ≠ ag0 := fun h => e12 (by rw [h]; rfl)
    simp [this]
  replace e12 := Decidable.not_not.1 e12
  rw [if_pos e12]
  by_cases e13 : ¬ (a.stable = 0)
  · rw [if_neg e13]
    have : a ≠ ag0 := fun h => e13 (by rw [h]; rfl)
    simp [this]
  replace e13 := Decidable.not_not.1 e13
  rw [if_pos e13]
  by_cases e14 : ¬ (a.guard = 0)
  · rw [if_neg e14]
    have : a ≠ ag0 := fun h => e14 (by rw [h]; rfl)
    simp [this]
  replace e14 := Decidable.not_not.1 e14
  rw [if_pos e14]
  by_cases e15 : ¬ (a.verf = 0)
  · rw [if_neg e15]
    have : a ≠ ag0 := fun h => e15 (by rw [h]; rfl)
    simp [this]
  replace e15 := Decidable.not_not.1 e15
  rw [if_pos e15]
  rw [strL] at e6 e7 e8
  have : a = ag0 := by
    obtain ⟨⟨h1, h2, h3⟩, ⟨t1, t2, t3⟩, _, _, _, _, _, _, _, _, _, _⟩ := a
    simp only at e0 e1 e2 e3 e4 e5 e6 e7 e8 e9 e10 e11 e12 e13 e14 e15
    subst e0 e1 e2 e3 e4 e5 e6 e7 e8 e9 e10 e11 e12 e13 e14 e15
    rfl
  simp [this]
/-- What comes of the bytes and of what is left. -/
def finA (x : Option (List UInt8 × AgT)) : List UInt8 × Int := match x with
  | none => ([], 4)
  | some y => if y.2 = ag0 then (y.1, 0) else ([], 4)
theorem RS.mutF {S : Nat → Prop} {w w' : World} {v : Value} {l : List UInt8} (h : RS w v l) (k : Mut S w w') (hn : ∀ b off n c, v = .slice (some ⟨b, off, none⟩) n c → ¬ S b) : RS w' v l := by
  rcases h with h | ⟨b, off, c, rfl, hb, hc, hj⟩
  · exact .inl h
  · exact .inr ⟨b, off, c, rfl, Nat.lt_of_lt_of_le hb k.size, hc, fun j hjl => (k.cell hb (hn b off _ c rfl)).trans (hj j hjl)⟩
theorem RS.letter {w : World} {A : Option Addr} {c : Nat} {l : List UInt8} (h : RS w (.slice A l.length c) l) {k : Nat} {x : UInt8} (hk : l[k]? = some x) : ∃ b off, A = some ⟨b, off, none⟩ ∧ b < w.heap.size ∧ l.length ≤ c ∧ w.cell? ⟨b, off + k, none⟩ = some (.int .u8 x.toNat) := by
  have hlt := (List.getElem?_eq_some_iff.1 hk).1
  obtain ⟨b, off, rfl, -, hb, hc, hj⟩ := h.some_of (by intro e; subst e; simp at hlt)
  refine ⟨b, off, rfl, hb, hc, ?_⟩
  rw [hj k hlt]
  simp [bvs, hk]
  rfl
attribute [local go_sem ↓] neq_ag
set_option maxHeartbeats 4000000 in
theorem aWrite_any (p : Int) (a : AgT) (w : World) (hp : I64 p) (hk : a.Ok) :
    Calls Try.prog 26 #[.int .i64 p, .agg (agC a).toArray] w fun e w' => e = .returned (.tuple #[.string (str (aW p a).1), .int .i64 (aW p a).2]) ∧ Below w.heap.size w w' := by
  have KA := Lib.hid (fun w : World => asked_any w)
  have hpw : (Lit.int .i64 p).wf = true := by
    obtain ⟨h1, h2⟩ := hp
    simp [Lit.wf, IntKind.min, IntKind.max, IntKind.signed, IntKind.bits]
    omega
  have HP := Lib.hid hpw
  have HK := Lib.hid hk
  clear hp hk hpw
  obtain ⟨R, hR⟩ : ∃ R, aW p a = R := ⟨_, rfl⟩
  rw [hR]
  have HR := Lib.hid hR
  clear hR
  go_enter Try.func26, Try.ntmps26
  go_wp2_with fail
  obtain ⟨W1, hW1⟩ : ∃ W1, w.alloc (.cells (agC a).toArray 35) = W1 := ⟨_, rfl⟩
  have hx1 := extAl w (.cells (agC a).toArray 35)
  have hga : W1.heap[w.heap.size]? = some (.cells (agC a).toArray 35 (0, 0)) := by rw [← hW1]; exact heap_alloc_last _ _
  rw [hW1] at hx1 ⊢
  have hs1 : W1.heap.size = w.heap.size + 1 := by rw [← hW1]; simp
  clear hW1
  refine (KA.out W1).mono ?_
  rintro e w2 ⟨g, rfl, hm⟩
  obtain ⟨v, hl, hv, hfr⟩ := hm.look HP.out
  have hx2 : Ext w w2 := Ext.trans hx1 (Below.mono hm.bel (Nat.le_refl _))
  have hga2 := Ext.blk (w' := w2) hm.bel hga
  have HX := Lib.hid hx2
  have HG := Lib.hid hga2
  have hs2 : w.heap.size < w2.heap.size := by have := Below.size hm.bel; omega
  have hfr2 : ∀ b off n c, v = .slice (some ⟨b, off, none⟩) n c → w.heap.size < b := fun b off n c e => by have := hfr b off n c e; omega
  clear hga hx1 hga2 hx2 hm hs1 KA hfr
  cases hL : askedL p with
  | none =>
    rw [hL] at hl hv
    have hR0 : R = ([], 62) := by rw [← HR.out]; unfold aW; rw [hL]
    subst hR0
    clear HR
    go_wp2_with fail
    go_ret2
    exact ⟨rfl, HX.out⟩
  | some l =>
    rw [hL] at hl hv
    obtain ⟨hlm, hl4⟩ := askedL_mem hL
    have HLM := Lib.hid hlm
    simp only [Option.isSome, Option.getD] at hl hv
    obtain ⟨A, c, rfl⟩ := hv.form
    have HV := Lib.hid hv
    have HE : Hid (finA (putAll l a []) = R) := Lib.hid (by rw [← HR.out]; unfold aW; rw [hL]; rfl)
    clear hlm hv HR hL HP
    go_upto_region 6 with fail
    have HFR := Lib.hid hfr2
    have hw3 := heap_alloc_last w2 (.cells #[.slice none 0 0, .bool false] 134)
    have hx3 := extAl w2 (.cells #[.slice none 0 0, .bool false] 134)
    have hs3 : (w2.alloc (.cells #[.slice none 0 0, .bool false] 134)).heap.size = w2.heap.size + 1 := by simp
    have HV3 := Lib.hid (HV.out.ext hx3)
    have HX3 := Lib.hid (Ext.trans HX.out hx3)
    have hga3 := Ext.blk hx3 HG.out
    have hlb : ∀ b off n c1, Value.slice A l.length c = .slice (some ⟨b, off, none⟩) n c1 → b < w2.heap.size := fun b off n c1 e => by
      rcases HV.out with ⟨e2, _⟩ | ⟨b', off', c', e2, hb, _⟩
      · rw [e2] at e; cases e
      · rw [e2] at e; cases e; exact hb
    have HLB := Lib.hid hlb
    generalize w2.alloc (.cells #[.slice none 0 0, .bool false] 134) = w3 at *
    have hWr : Wr w3 w3 w3.heap.size w2.heap.size w.heap.size 35 [] (agC a).toArray := ⟨⟨_, hw3, OwnZ.nil, offNil, offNil⟩, hga3, by omega, Mut.of_ext (Ext.refl _), Nat.le_refl _⟩
    have HWR := Lib.hid hWr
    obtain ⟨gw, hgw⟩ : ∃ gw, w2.heap.size = gw := ⟨_, rfl⟩
    obtain ⟨ga, hga⟩ : ∃ ga, w.heap.size = ga := ⟨_, rfl⟩
    rw [hgw] at HWR HLB ⊢
    rw [hga] at HWR HFR ⊢
    have hgg : w.heap.size ≤ gw ∧ w.heap.size ≤ ga := by omega
    have HGG := Lib.hid hgg
    clear hw3 hx3 hga3 hlb hWr hs3 HV HX hgw hga hgg hs2 hl hfr2 HG
    go_loopw [10, 21] (fun cv iv wr => ∃ (k : Nat) (bs : List UInt8) (a' : AgT), k ≤ l.length ∧ iv = .int .i64 k ∧ bs.length ≤ k * 21000 ∧ Hid (Wr w3 wr w3.heap.size gw ga 35 bs (agC a').toArray) ∧ Hid (finA (putAll (l.drop k) a' bs) = R) ∧ Hid a'.Ok) (fun _ iv _ => l.length - (intOf iv).toNat)
    case atStart => exact ⟨0, [], a, Nat.zero_le _, rfl, Nat.zero_le _, HWR, HE, HK⟩
    case round =>
      obtain ⟨k, bs, a', hk, rfl, hbs, HW, HF, HO⟩ := hrel
      clear HWR HE HK
      by_cases hkl : k < l.length
      · obtain ⟨x, hx⟩ : ∃ x, l[k]? = some x := ⟨_, List.getElem?_eq_getElem hkl⟩
        have hrs := HV3.out.mutF HW.out.mu (fun b off n c e => by
          have h1 := HFR.out b off n c e
          have h2 := HLB.out b off n c e
          omega)
        obtain ⟨b, off, rfl, hb, hc, cell⟩ := hrs.letter hx
        have hxm := HLM.out x (List.mem_of_getElem? hx)
        have hdr : l.drop k = x :: l.drop (k + 1) := by
          rw [List.drop_eq_getElem_cons hkl]
          congr 1
          exact (List.getElem?_eq_some_iff.1 hx).2
        have hF := HF.out
        rw [hdr] at hF
        have K := Lib.hid (putArg_any x hxm wr HW.out HO.out (by have : k * 21000 ≤ 3 * 21000 := Nat.mul_le_mul_right _ (by omega); omega))
        obtain ⟨xn, hxn⟩ : ∃ xn : Int, (x.toNat : Int) = xn := ⟨_, rfl⟩
        rw [hxn] at cell K
        clear hrs hdr hx hxn
        go_upto_region 8 with fail
        clear cell hb hc
        go_wp2_with fail
        refine K.out.mono ?_
        rintro e w4 ⟨rfl, h4⟩
        clear K HW
        cases hp : putA x a' with
        | none =>
          rw [hp] at h4
          have h4 : WrBad w3 w4 gw ga := h4
          have hR0 : R = ([], 4) := by rw [← hF]; unfold putAll; rw [hp]; rfl
          obtain ⟨⟨vb, hwb⟩, hmu⟩ := h4
          obtain ⟨c0, c1, f0, f1, gl⟩ := blk2 hwb
          have HB := Lib.hid (Below.trans HX3.out (hmu.below (B := w.heap.size) (fun i hi => by have := HGG.out; omega) (Below.size HX3.out)))
          subst hR0
          clear hwb hmu hF HF h4 hp
          go_wp2_with fail
          go_ret2
          exact ⟨rfl, HB.out⟩
        | some y =>
          rw [hp] at h4
          have h4 : Wr w3 w4 w3.heap.size gw ga 35 (bs ++ y) (agC (clrA x a')).toArray := h4
          have hyl := putA_length hxm HO.out hp
          have HF2 : Hid (finA (putAll (l.drop (k + 1)) (clrA x a') (bs ++ y)) = R) := Lib.hid (by rw [← hF]; conv => rhs; unfold putAll; rw [hp])
          obtain ⟨vb, hwb, -⟩ := h4.hw
          obtain ⟨c0, c1, f0, f1, gl⟩ := blk2 hwb
          have H4 := Lib.hid h4
          clear hwb hF HF h4 hp
          go_wp2_with fail
          go_roundw
          case rel => exact ⟨k + 1, bs ++ y, clrA x a', by omega, by go_num, by rw [List.length_append]; omega, H4, HF2, Lib.hid (clrA_ok HO.out)⟩
          case measure => simp only [intOf]; omega
      · obtain rfl : k = l.length := by omega
        have hF := HF.out
        rw [List.drop_length] at hF
        have hF : finA (some (bs, a')) = R := hF
        obtain ⟨vb, hwb, hov, -⟩ := HW.out.hw
        obtain ⟨Ab, cb, rfl⟩ := hov.rs.form
        obtain ⟨c0, c1, f0, f1, gl⟩ := blk2 hwb
        have HLD := Lib.hid (ldAg HW.out.ha)
        have HB := Lib.hid (Below.trans HX3.out (HW.out.mu.below (B := w.heap.size) (fun i hi => by have := HGG.out; omega) (Below.size HX3.out)))
        have cvt : (convert 47 9 (.slice Ab bs.length cb)).run Try.prog wr = .ok (.string (str bs)) wr := hov.rs.conv Try.underlying47 Try.underlying5 Try.underlying9
        clear hwb hov HF HW
        by_cases ha0 : a' = ag0
        · have hR0 : R = (bs, 0) := by rw [← hF]; unfold finA; exact if_pos ha0
          have hz : decide (a' = ag0) = true := decide_eq_true ha0
          subst hR0
          clear hF ha0
          go_wp2_with (refine wpList_ld rfl 35 (.tmp 3) rfl HLD.out ?_; simp only [Act.put])
          go_ret2
          exact ⟨rfl, HB.out⟩
        · have hR0 : R = ([], 4) := by rw [← hF]; unfold finA; exact if_neg ha0
          have hz : decide (a' = ag0) = false := decide_eq_false ha0
          subst hR0
          clear hF ha0 cvt
          go_wp2_with (refine wpList_ld rfl 35 (.tmp 3) rfl HLD.out ?_; simp only [Act.put])
          go_ret2
          exact ⟨rfl, HB.out⟩
end Go.Proofs.Yteahlnoonmfjhaa
