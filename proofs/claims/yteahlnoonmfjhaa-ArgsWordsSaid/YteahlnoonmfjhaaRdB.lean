/- Walks of readers: Clone, NewReader, spoil, take, fail. -/
import Derived.Test.YteahlnoonmfjhaaRdA
set_option linter.unusedVariables false
set_option maxRecDepth 100000
namespace Go.Proofs.Yteahlnoonmfjhaa
open Go.RowKit

theorem eq_nil (a : Option Addr) (n c : Nat) (w : World) : (binOp .eql 47 (.slice a n c) (.slice none 0 0)).run Try.prog w = .ok (.bool a.isNone) w := Lib.run_eql_slice_nil w _ _ a n c 0 0 Try.underlying47
theorem clone_any (v : Value) (l : List UInt8) (w : World) (hv : RS w v l) (h : l.length ≤ 900000) :
    Calls Try.prog 122 #[v] w fun e w' => ∃ v', e = .returned v' ∧ OwnZ w' w.heap.size 5 v' l ∧ Below w.heap.size w w' := by
  have e1 := eq_nil
  rcases hv with ⟨rfl, rfl⟩ | hv'
  · go_enter Try.func122, Try.ntmps122
    go_wp2
    go_ret
    exact ⟨_, rfl, OwnZ.nil, by (repeat' (first | (with_reducible assumption) | (with_reducible exact Below.refl _ _) | (with_reducible refine below_sc ?_ ?_) | ((with_reducible show (_ : Nat) ≤ _); omega) | refine Below.setCell ?_ (by first | omega | (simp; done) | (simp; omega)) _ | refine Below.alloc ?_ (by first | omega | (simp; done) | (simp; omega)) _ | refine Below.drew ?_ | refine below_drewN ?_ _ | refine Below.trans ?_ (Below.mono (by assumption) (by first | omega | (simp; done) | (simp; omega)))))⟩
  · have hv : RS w v l := .inr hv'
    obtain ⟨b, off, c, rfl, -⟩ := hv'
    obtain ⟨v0, w0, hr0, ho0, hb0⟩ := appZ (ty := 47) (own_none (w := w) (T := 5)).z (srcS (hv.ext (ext_alloc w _))) (by simp) (by simp; omega)
    go_enter Try.func122, Try.ntmps122
    go_wp2_with (at_builtin; refine wpList_app rfl _ _ _ _ rfl hr0 ?_)
    go_ret
    exact ⟨_, rfl, ho0, Below.trans (ext_alloc w _) hb0⟩

theorem newReader_any (v : Value) (l : List UInt8) (w : World) (hv : RS w v l) (h : l.length ≤ 900000) :
    Calls Try.prog 72 #[v] w fun e w' => ∃ g, e = .returned (.pointer (some ⟨g, 0, none⟩)) ∧ Rd 192 w' g (some l) ∧ w.heap.size ≤ g ∧ Below w.heap.size w w' := by
  go_enter Try.func72, Try.ntmps72
  go_wp2_with fail
  refine (clone_any v l w hv h).mono ?_
  rintro e w1 ⟨v1, rfl, o1, b1⟩
  obtain ⟨A, c, rfl⟩ := o1.rs.form
  go_wp2_with fail
  go_ret
  exact ⟨_, rfl, ⟨A, c, heap_alloc_last _ _, o1.rs.ext (ext_alloc _ _)⟩, b1.size, Below.trans b1 ((ext_alloc w1 _ : Ext _ _).mono b1.size)⟩

theorem spoil_any (g : Nat) (s : St) (w : World) (h : Rd 192 w g s) :
    Calls Try.prog 155 #[.pointer (some ⟨g, 0, none⟩)] w fun e w' => e = .returned (.tuple #[]) ∧ Rd 192 w' g none ∧ But g w w' := by
  obtain ⟨h1, h2⟩ := h.set (s' := none) (b := true) RS.nil rfl
  obtain ⟨A, c, hg, hr⟩ := h
  obtain ⟨c0, c1, f0, f1, hz⟩ := blk2 hg
  rw [← blk2_st10 _ _ hg] at h1 h2
  clear hg
  go_enter Try.func155, Try.ntmps155
  go_wp2
  go_end0
  exact ⟨rfl, h1, h2⟩

theorem fail_any (g : Nat) (s : St) (w : World) (h : Rd 196 w g s) :
    Calls Try.prog 134 #[.pointer (some ⟨g, 0, none⟩)] w fun e w' => e = .returned (.tuple #[]) ∧ Rd 196 w' g none ∧ But g w w' := by
  obtain ⟨h1, h2⟩ := h.set (s' := none) (b := true) RS.nil rfl
  obtain ⟨A, c, hg, hr⟩ := h
  obtain ⟨c0, c1, f0, f1, hz⟩ := blk2 hg
  rw [← blk2_st10 _ _ hg] at h1 h2
  clear hg
  go_enter Try.func134, Try.ntmps134
  go_wp2
  go_end0
  exact ⟨rfl, h1, h2⟩
end Go.Proofs.Yteahlnoonmfjhaa
