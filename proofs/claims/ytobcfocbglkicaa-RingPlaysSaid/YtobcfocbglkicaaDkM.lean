/- Contracts of package disk at known states, for closed walks; of nobody's disk. -/
import Derived.Test.YtobcfocbglkicaaDkL
set_option linter.unusedVariables false
set_option maxRecDepth 100000
namespace Go.Proofs.Ytobcfocbglkicaa
open Go.RowKit

section
variable {W w : World} {loc : List (Nat × Obj)} {ds : List (Nat × DK)} {g : Nat} {D : DK}
theorem DSt.rb (h : DSt W loc ds w) (i : Nat) {gb : Nat} {l : List Bool} {T : TypeId} (hi : loc[i]? = some (gb, .cells (bcs l).toArray T (0, 0))) : RBo w (.slice (some ⟨gb, 0, none⟩) l.length l.length) l := by
  have hg := h.get i hi
  refine .inr ⟨gb, 0, l.length, rfl, (Array.getElem?_eq_some_iff.1 hg).1, Nat.le_refl _, fun j hj => ?_⟩
  rw [cell_of_row _ _ _ _ _ _ hg]
  simp [bcs, hj]
theorem write_k (i : Nat) (h : DSt W loc ds w) (hi : ds[i]? = some (g, D)) (z : Int) {b : List UInt8} (hb : b.length = 512) (D' : DK) (e : Int) (he : D.write z b = (D', e)) (hkl : D.keep.length ≤ 1000000) (hwl : D.wt.length ≤ 100000) :
    Calls Try.prog 26 #[.pointer (some ⟨g, 0, none⟩), .int .i64 z, .agg (bvs b).toArray] w fun r w' => r = .returned (.int .i64 e) ∧ DSt W loc (ds.set i (g, D')) w' := by
  have h1 : (D.write z b).1 = D' := by rw [he]
  have h2 : (D.write z b).2 = e := by rw [he]
  rw [← h1, ← h2]
  exact write_l i h hi z hb hkl hwl
theorem flush_k (i : Nat) (h : DSt W loc ds w) (hi : ds[i]? = some (g, D)) (D' : DK) (e : Int) (he : D.flush = (D', e)) (hkl : D.keep.length ≤ 1000000) (hwl : D.wt.length ≤ 1000000) :
    Calls Try.prog 25 #[.pointer (some ⟨g, 0, none⟩)] w fun r w' => r = .returned (.int .i64 e) ∧ DSt W loc (ds.set i (g, D')) w' := by
  have h1 : D.flush.1 = D' := by rw [he]
  have h2 : D.flush.2 = e := by rw [he]
  rw [← h1, ← h2]
  exact flush_l i h hi hkl hwl
theorem fail_k (i : Nat) (h : DSt W loc ds w) (hi : ds[i]? = some (g, D)) {vk : Value} (keep : List Bool) (hk : RBo w vk keep) (D' : DK) (e : Int) (he : D.Fail keep = (D', e)) (hkl : keep.length ≤ 1000000) (hwl : D.wt.length ≤ 1000000) :
    Calls Try.prog 28 #[.pointer (some ⟨g, 0, none⟩), vk] w fun r w' => r = .returned (.int .i64 e) ∧ DSt W loc (ds.set i (g, D')) w' := by
  have h1 : (D.Fail keep).1 = D' := by rw [he]
  have h2 : (D.Fail keep).2 = e := by rw [he]
  rw [← h1, ← h2]
  exact fail_l i h hi keep hk hkl hwl
theorem cut_k (i : Nat) (h : DSt W loc ds w) (hi : ds[i]? = some (g, D)) (n : Int) {vk : Value} (keep : List Bool) (hk : RBo w vk keep) (D' : DK) (e : Int) (he : D.say n keep = (D', e)) (hkl : keep.length ≤ 1000000) (hn1 : n ≤ 9223372036854775807) (hv : ∀ b off m c, vk = .slice (some ⟨b, off, none⟩) m c → b < W.heap.size ∨ ∃ o, (b, o) ∈ loc) :
    Calls Try.prog 24 #[.pointer (some ⟨g, 0, none⟩), .int .i64 n, vk] w fun r w' => r = .returned (.int .i64 e) ∧ DSt W loc (ds.set i (g, D')) w' := by
  have h1 : (D.say n keep).1 = D' := by rw [he]
  have h2 : (D.say n keep).2 = e := by rw [he]
  rw [← h1, ← h2]
  exact cut_l i h hi n keep hk hkl hn1 hv
theorem is_k (i : Nat) (h : DSt W loc ds w) (hi : ds[i]? = some (g, D)) (z : Int) (c : UInt8) (n : Int) (v : Bool) (hn : n = c.toNat) (hv : isV D z c = v) (hwl : D.wt.length ≤ 1000000) :
    Calls Try.prog 34 #[.pointer (some ⟨g, 0, none⟩), .int .i64 z, .int .u8 n] w fun e w' => e = .returned (.bool v) ∧ DSt W loc ds w' :=
  (is_l i h hi z c n hn hwl).mono fun e w' ⟨he, h, _⟩ => ⟨by rw [he, hv], h⟩
theorem dead_k (i : Nat) (h : DSt W loc ds w) (hi : ds[i]? = some (g, D)) (v : Bool) (hv : D.dead = v) : Calls Try.prog 29 #[.pointer (some ⟨g, 0, none⟩)] w fun e w' => e = .returned (.bool v) ∧ DSt W loc ds w' := by
  subst hv; exact dead_l i h hi
theorem waiting_k (i : Nat) (h : DSt W loc ds w) (hi : ds[i]? = some (g, D)) (v : Int) (hv : (D.wt.length : Int) = v) : Calls Try.prog 32 #[.pointer (some ⟨g, 0, none⟩)] w fun e w' => e = .returned (.int .i64 v) ∧ DSt W loc ds w' := by
  subst hv; exact waiting_l i h hi
theorem block_k (h : DSt W loc ds w) (c : UInt8) (n : Int) (hn : n = c.toNat) :
    Calls Try.prog 27 #[.int .u8 n] w fun e w' => e = .returned (.agg (bvs (blkC c)).toArray) ∧ DSt W loc ds w' :=
  (block_any c n hn w).mono fun e w' ⟨he, k⟩ => ⟨he, h.ext k⟩
theorem booted_l (i : Nat) (h : DSt W loc ds w) (hi : ds[i]? = some (g, D)) (hd : D.dead = true) :
    Calls Try.prog 30 #[.pointer (some ⟨g, 0, none⟩)] w fun e w' => ∃ g', e = .returned (.pointer (some ⟨g', 0, none⟩)) ∧ DSt W loc ((g', newD D.n D.on) :: ds) w' := by
  have K := Lib.hid (boot_l i h hi hd)
  go_enter Try.func30, Try.ntmps30
  go_wp2_with fail
  refine K.out.mono ?_
  rintro e w1 ⟨g1, rfl, h1⟩
  go_wp2
  go_ret
  exact ⟨g1, rfl, h1⟩
/-- A disk less. -/
theorem DksF.eraseIdx : ∀ {l : List (Nat × DK)} {L : Nat → Prop} {w : World} (i : Nat), DksF L w l → DksF L w (l.eraseIdx i)
  | [], _, _, _, _ => trivial
  | (g, D) :: l, L, w, 0, ⟨S, _, _, h3⟩ => h3.mono fun _ hk => .inl (.inl hk)
  | (g, D) :: l, L, w, i + 1, ⟨S, h1, h2, h3⟩ => ⟨S, h1, h2, h3.eraseIdx i⟩
theorem DSt.dropI (h : DSt W loc ds w) (i : Nat) : DSt W loc (ds.eraseIdx i) w := ⟨h.bel, h.cel, h.nod, h.dks.eraseIdx i⟩
end

/-! Nobody's disk. -/
theorem blocks_nil (w : World) : Calls Try.prog 36 #[.pointer none] w fun e w' => e = .returned (.int .i64 0) ∧ Below w.heap.size w w' := by
  go_enter Try.func36, Try.ntmps36
  go_wp2
  go_ret
  exact ⟨rfl, by (repeat' (first | (with_reducible assumption) | (with_reducible exact Below.refl _ _) | (with_reducible refine below_sc ?_ ?_) | ((with_reducible show (_ : Nat) ≤ _); omega) | refine Below.setCell ?_ (by first | omega | (simp; done) | (simp; omega)) _ | refine Below.alloc ?_ (by first | omega | (simp; done) | (simp; omega)) _ | refine Below.drew ?_ | refine below_drewN ?_ _ | refine Below.trans ?_ (Below.mono (by assumption) (by first | omega | (simp; done) | (simp; omega)))))⟩
theorem dead_nil (w : World) : Calls Try.prog 29 #[.pointer none] w fun e w' => e = .returned (.bool false) ∧ Below w.heap.size w w' := by
  go_enter Try.func29, Try.ntmps29
  go_wp2
  go_ret
  exact ⟨rfl, by (repeat' (first | (with_reducible assumption) | (with_reducible exact Below.refl _ _) | (with_reducible refine below_sc ?_ ?_) | ((with_reducible show (_ : Nat) ≤ _); omega) | refine Below.setCell ?_ (by first | omega | (simp; done) | (simp; omega)) _ | refine Below.alloc ?_ (by first | omega | (simp; done) | (simp; omega)) _ | refine Below.drew ?_ | refine below_drewN ?_ _ | refine Below.trans ?_ (Below.mono (by assumption) (by first | omega | (simp; done) | (simp; omega)))))⟩
theorem waiting_nil (w : World) : Calls Try.prog 32 #[.pointer none] w fun e w' => e = .returned (.int .i64 0) ∧ Below w.heap.size w w' := by
  go_enter Try.func32, Try.ntmps32
  go_wp2
  go_ret
  exact ⟨rfl, by (repeat' (first | (with_reducible assumption) | (with_reducible exact Below.refl _ _) | (with_reducible refine below_sc ?_ ?_) | ((with_reducible show (_ : Nat) ≤ _); omega) | refine Below.setCell ?_ (by first | omega | (simp; done) | (simp; omega)) _ | refine Below.alloc ?_ (by first | omega | (simp; done) | (simp; omega)) _ | refine Below.drew ?_ | refine below_drewN ?_ _ | refine Below.trans ?_ (Below.mono (by assumption) (by first | omega | (simp; done) | (simp; omega)))))⟩
theorem ask_nil (w : World) : Calls Try.prog 66 #[.pointer none] w fun e w' => e = .returned (.int .i64 2) ∧ Below w.heap.size w w' := by
  go_enter Try.func66, Try.ntmps66
  go_wp2
  go_ret
  exact ⟨rfl, by (repeat' (first | (with_reducible assumption) | (with_reducible exact Below.refl _ _) | (with_reducible refine below_sc ?_ ?_) | ((with_reducible show (_ : Nat) ≤ _); omega) | refine Below.setCell ?_ (by first | omega | (simp; done) | (simp; omega)) _ | refine Below.alloc ?_ (by first | omega | (simp; done) | (simp; omega)) _ | refine Below.drew ?_ | refine below_drewN ?_ _ | refine Below.trans ?_ (Below.mono (by assumption) (by first | omega | (simp; done) | (simp; omega)))))⟩
theorem copy_nil (w : World) : Calls Try.prog 33 #[.pointer none] w fun e w' => e = .returned (.pointer none) ∧ Below w.heap.size w w' := by
  go_enter Try.func33, Try.ntmps33
  go_wp2
  go_ret
  exact ⟨rfl, by (repeat' (first | (with_reducible assumption) | (with_reducible exact Below.refl _ _) | (with_reducible refine below_sc ?_ ?_) | ((with_reducible show (_ : Nat) ≤ _); omega) | refine Below.setCell ?_ (by first | omega | (simp; done) | (simp; omega)) _ | refine Below.alloc ?_ (by first | omega | (simp; done) | (simp; omega)) _ | refine Below.drew ?_ | refine below_drewN ?_ _ | refine Below.trans ?_ (Below.mono (by assumption) (by first | omega | (simp; done) | (simp; omega)))))⟩
end Go.Proofs.Ytobcfocbglkicaa
