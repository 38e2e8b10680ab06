/- Walks of locks: do wants clash? -/
import Derived.Test.YtiihlbaajopllaaLkB
set_option linter.unusedVariables false
set_option maxRecDepth 100000
namespace Go.Proofs.Ytiihlbaajopllaa
open Go.RowKit

theorem wclash_any (a b : Wn) (w : World) : Calls Try.prog 87 #[wnV a, wnV b] w fun e w' => e = .returned (.bool (clashW a b)) ∧ Below w.heap.size w w' := by
  obtain ⟨i, x⟩ := a
  obtain ⟨j, y⟩ := b
  unfold clashW wnV
  simp only
  by_cases h : i = j
  · subst h
    rw [decide_eq_true rfl]
    cases x <;> cases y <;> (
      go_enter Try.func87, Try.ntmps87
      go_wp2
      go_ret
      exact ⟨rfl, by (repeat' (first | (with_reducible assumption) | (with_reducible exact Below.refl _ _) | (with_reducible refine below_sc ?_ ?_) | ((with_reducible show (_ : Nat) ≤ _); omega) | refine Below.setCell ?_ (by first | omega | (simp; done) | (simp; omega)) _ | refine Below.alloc ?_ (by first | omega | (simp; done) | (simp; omega)) _ | refine Below.drew ?_ | refine below_drewN ?_ _ | refine Below.trans ?_ (Below.mono (by assumption) (by first | omega | (simp; done) | (simp; omega)))))⟩)
  · have h1 : (i == j) = false := by rw [beq_eq_false_iff_ne]; exact h
    rw [decide_eq_false h]
    go_enter Try.func87, Try.ntmps87
    go_wp2
    go_ret
    exact ⟨rfl, by (repeat' (first | (with_reducible assumption) | (with_reducible exact Below.refl _ _) | (with_reducible refine below_sc ?_ ?_) | ((with_reducible show (_ : Nat) ≤ _); omega) | refine Below.setCell ?_ (by first | omega | (simp; done) | (simp; omega)) _ | refine Below.alloc ?_ (by first | omega | (simp; done) | (simp; omega)) _ | refine Below.drew ?_ | refine below_drewN ?_ _ | refine Below.trans ?_ (Below.mono (by assumption) (by first | omega | (simp; done) | (simp; omega)))))⟩
/-- A part of the row, as far as its wants go. -/
structure PtAt (w : World) (a : Nat) (l : List Wn) (wv : Value) : Prop where
  c : w.cell? ⟨a, 1, none⟩ = some wv
  r : RWn w wv l
  b : ∃ cs, w.heap[a]? = some (.cells cs 95 (0, 0))
theorem PtAt.lt {w : World} {a : Nat} {l : List Wn} {wv : Value} (h : PtAt w a l wv) : a < w.heap.size := by obtain ⟨cs, hb⟩ := h.b; exact (Array.getElem?_eq_some_iff.1 hb).1
theorem PtAt.ext {w w' : World} {a : Nat} {l : List Wn} {wv : Value} (h : PtAt w a l wv) (k : Ext w w') : PtAt w' a l wv :=
  ⟨(k.cell (p := ⟨a, 1, none⟩) h.lt).trans h.c, h.r.ext k, h.b.imp fun _ hb => (k.block a h.lt).trans hb⟩
theorem clash1_any {g a : Nat} {l : List Wn} {wv : Value} (hll : l.length ≤ 1000000) (x : Wn) (w : World) (hg : g < w.heap.size) (hc : w.cell? ⟨g, 0, none⟩ = some (.pointer (some ⟨a, 0, none⟩))) (h : PtAt w a l wv) :
    Calls Try.prog 86 #[wnV x, .pointer (some ⟨g, 0, none⟩)] w fun e w' => e = .returned (.bool (l.any fun y => clashW x y)) ∧ Below w.heap.size w w' := by
  obtain ⟨A, c, rfl⟩ := h.r.form
  have h' := h.ext (extAl w (.cells #[.int .i64 x.1, .bool x.2] 52))
  have hc' := ((extAl w (.cells #[.int .i64 x.1, .bool x.2] 52)).cell (p := ⟨g, 0, none⟩) hg).trans hc
  have h1 := h'.c
  have hlt := h'.lt
  have hB := heap_alloc_last w (.cells #[.int .i64 x.1, .bool x.2] 52)
  have b0 : (w.alloc (.cells #[.int .i64 x.1, .bool x.2] 52)).cell? ⟨w.heap.size, 0, none⟩ = some (.int .i64 x.1) := by rw [cell_of_row _ _ _ _ _ _ hB]; rfl
  have b1 : (w.alloc (.cells #[.int .i64 x.1, .bool x.2] 52)).cell? ⟨w.heap.size, 1, none⟩ = some (.bool x.2) := by rw [cell_of_row _ _ _ _ _ _ hB]; rfl
  have hs : w.heap.size < (w.alloc (.cells #[.int .i64 x.1, .bool x.2] 52)).heap.size := by simp
  have hg' : g < (w.alloc (.cells #[.int .i64 x.1, .bool x.2] 52)).heap.size := by simp; omega
  have H := Lib.hid h'
  have hE := extAl w (.cells #[.int .i64 x.1, .bool x.2] 52)
  clear h h' hB hg hc
  go_enter Try.func86, Try.ntmps86
  go_wp2
  generalize w.alloc (.cells #[.int .i64 x.1, .bool x.2] 52) = V at *
  generalize w.heap.size = gb at *
  have e0 : ∀ ψ (e : ExtP V.heap.size V ψ), e.val.cell? ⟨g, 0, none⟩ = some (.pointer (some ⟨a, 0, none⟩)) := fun ψ e => e.cell hc' hg'
  have e1 : ∀ ψ (e : ExtP V.heap.size V ψ), e.val.cell? ⟨a, 1, none⟩ = some (.slice A l.length c) := fun ψ e => e.cell h1 hlt
  have e2 : ∀ ψ (e : ExtP V.heap.size V ψ), e.val.cell? ⟨gb, 0, none⟩ = some (.int .i64 x.1) := fun ψ e => e.cell b0 hs
  have e3 : ∀ ψ (e : ExtP V.heap.size V ψ), e.val.cell? ⟨gb, 1, none⟩ = some (.bool x.2) := fun ψ e => e.cell b1 hs
  refine wp_region_pieces 6  [(true, [0, 1, 2, 3, 4, 5])] (by kernel_rfl) (by kernel_rfl) ?_; simp only [pick, List.map_cons, List.map_nil, List.flatMap_cons, List.flatMap_nil, Option.toList_some, List.singleton_append, List.drop_succ_cons, List.drop_zero, List.getElem?_cons_zero, List.getElem?_cons_succ]
  refine ⟨by kernel_rfl, ?_⟩; apply Exists.intro; refine ⟨fun ψ hψ hne => (by (repeat (go_big_quiet_step (( fail )))); exact wpQuiet_nil rfl), ?_⟩
  intro w1 hb1
  go_wp2_with fail
  refine (ContainsFunc_mv (p := fun y => clashW x y) (enters_of Try.func87 (by kernel_rfl) rfl) _ _ (fun W y hW => wclash_any x y W) (H.out.r.ext hb1) hll).mono ?_
  rintro e w2 ⟨rfl, hb2⟩
  go_wp2
  go_ret
  exact ⟨rfl, hE.trans (hb1.trans hb2)⟩
theorem clashes_any {a b : Nat} {l m : List Wn} {wa wb : Value} (hl : l.length ≤ 1000000) (hm : m.length ≤ 1000000) (w : World) (ha : PtAt w a l wa) (hb : PtAt w b m wb) :
    Calls Try.prog 77 #[.pointer (some ⟨a, 0, none⟩), .pointer (some ⟨b, 0, none⟩)] w fun e w' => e = .returned (.bool (clashL l m)) ∧ Below w.heap.size w w' := by
  obtain ⟨A, c, rfl⟩ := ha.r.form
  have hE := extAl w (.cells #[.pointer (some ⟨b, 0, none⟩)] 89)
  have ha' := ha.ext hE
  have hb' := hb.ext hE
  have hB := heap_alloc_last w (.cells #[.pointer (some ⟨b, 0, none⟩)] 89)
  have b0 : (w.alloc (.cells #[.pointer (some ⟨b, 0, none⟩)] 89)).cell? ⟨w.heap.size, 0, none⟩ = some (.pointer (some ⟨b, 0, none⟩)) := by rw [cell_of_row _ _ _ _ _ _ hB]; rfl
  have hs : w.heap.size < (w.alloc (.cells #[.pointer (some ⟨b, 0, none⟩)] 89)).heap.size := by simp
  have K := ContainsFunc_fn (lb := #[.pointer (some ⟨w.heap.size, 0, none⟩)]) (p := fun x => m.any fun y => clashW x y) (enters_of Try.func86 (by kernel_rfl) rfl) _
    (fun W x hW => clash1_any hm x W (Nat.lt_of_lt_of_le hs hW.size) ((hW.cell (p := ⟨w.heap.size, 0, none⟩) hs).trans b0) (hb'.ext hW)) ha'.r hl
  have c1 := ha'.c
  have KK := Lib.hid K
  have HE := Lib.hid hE
  clear K hE ha' hb' hB b0 hs ha hb
  go_enter Try.func77, Try.ntmps77
  go_wp2_with fail
  refine KK.out.mono ?_
  rintro e w2 ⟨rfl, hb2⟩
  go_wp2
  go_ret
  exact ⟨rfl, HE.out.trans hb2⟩
end Go.Proofs.Ytiihlbaajopllaa
