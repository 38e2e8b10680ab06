/- Walks of locks: Row, Copy. -/
import Derived.Test.YtiihlbaajopllaaLkG
set_option linter.unusedVariables false
set_option maxRecDepth 100000
namespace Go.Proofs.Ytiihlbaajopllaa
open Go.RowKit

theorem Ext.cells1 {w w' : World} {g o : Nat} {v : Value} (h : Ext w w') (hg : g < w.heap.size) (k : w.cell? ⟨g, o, none⟩ = some v) : w'.cell? ⟨g, o, none⟩ = some v := (h.cell (p := ⟨g, o, none⟩) hg).trans k
set_option maxHeartbeats 1000000 in
theorem row1_any {a lb B k : Nat} {n : Int} {v : Value} {cs : List Value} (W : World) (hB : B ≤ W.heap.size) (hlB : B ≤ lb) (hk : k ≤ 1000000) (hn : W.cell? ⟨a, 0, none⟩ = some (.int .i64 n)) (hal : a < W.heap.size)
    (hl : W.heap[lb]? = some (.cells #[v] 28 (0, 0))) (ho : OwnR W B 3 1 One v k cs) :
    Calls Try.prog 57 #[.pointer (some ⟨a, 0, none⟩), .pointer (some ⟨lb, 0, none⟩)] W fun e W' =>
      e = .returned (.bool true) ∧ Below B W W' ∧ ∃ v', W'.heap[lb]? = some (.cells #[v'] 28 (0, 0)) ∧ OwnR W' B 3 1 One v' (k + 1) (cs ++ [.int .i64 n]) := by
  obtain ⟨A, c, rfl⟩ := ho.form
  obtain ⟨cl, fl, ll⟩ := blk1 hl
  have HO := Lib.hid ho
  have HL := Lib.hid hl
  clear hl ho
  go_enter Try.func57, Try.ntmps57
  go_wp2
  have e0 : ∀ ψ (e : ExtP W.heap.size W ψ), e.val.cell? ⟨a, 0, none⟩ = some (.int .i64 n) := fun ψ e => e.cell hn hal
  have e1 : ∀ ψ (e : ExtP W.heap.size W ψ), e.val.cell? ⟨lb, 0, none⟩ = some (.slice A k c) := fun ψ e => e.cell cl ll
  refine wp_region_pieces 6  [(true, [0, 1, 2, 3, 4]), (false, [5])] (by kernel_rfl) (by kernel_rfl) ?_; simp only [pick, List.map_cons, List.map_nil, List.flatMap_cons, List.flatMap_nil, Option.toList_some, List.singleton_append, List.drop_succ_cons, List.drop_zero, List.getElem?_cons_zero, List.getElem?_cons_succ]
  refine ⟨by kernel_rfl, ?_⟩; apply Exists.intro; refine ⟨fun ψ hψ hne => (by (repeat (go_big_quiet_step (( fail )))); exact wpQuiet_nil rfl), ?_⟩
  intro W0 h0 K hK
  clear e0 e1
  go_wp2_with fail
  refine hK _ _ (extAl _ _) ?_
  intro W1 h01
  have hx := extAl W0 (.cells #[.int .i64 n] 3)
  have h1 : Ext W W1 := Ext.trans (Ext.trans h0 hx) h01
  have hw1 := Below.size h1
  have hw0 := Below.size h0
  have hgn := Ext.blk h01 (heap_alloc_last W0 (.cells #[.int .i64 n] 3))
  have hsrc : Src Try.prog 1 28 (.slice (some ⟨W0.heap.size, 0, none⟩) 1 1) 1 [.int .i64 n] W1 := src_row Try.underlying28 hgn rfl (by intro u hu; simp at hu; subst hu; rfl)
  obtain ⟨v', W2, hr, ho2, hb2, hg2, -⟩ := app_int (ty := 28) (HO.out.ext h1) hsrc (by omega) (by intro u hu; simp at hu; subst hu; rfl) (by omega)
  have hl1 := Ext.blk h1 HL.out
  have hl2 : W2.heap[lb]? = some (.cells #[.slice A k c] 28 (0, 0)) := (hg2.block lb (by omega) (Ne.symm (own_ne (HO.out.ext h1) hl1 (by decide)))).trans hl1
  obtain ⟨A2, c2, rfl⟩ := ho2.form
  have st := set1_0 (.slice A2 (k + 1) c2) hl2
  have h3 := setRow_heap W2 lb _ #[.slice A2 (k + 1) c2] _ _ hl2
  have hB3 : Below B W (W2.setRow lb #[.slice A2 (k + 1) c2]) := below_setRow (Below.trans (Below.mono h1 hB) hb2) hlB _
  have ho3 := ho2.set (row' := #[.slice A2 (k + 1) c2]) hl2 (by decide)
  obtain ⟨cl2, fl2, ll2⟩ := blk1 hl2
  have Hr := Lib.hid hr
  have ST := Lib.hid st
  have H3 := Lib.hid h3
  have HB3 := Lib.hid hB3
  have HO3 := Lib.hid ho3
  clear hr st h3 hB3 ho3 hb2 hg2 hx hsrc hl1 hl2 ho2 HL HO hgn h01 h0 h1
  go_wp2_with (refine wpList_app rfl (.tmp 4) (.tmp 9) 28 28 rfl Hr.out ?_; simp only [Act.put])
  rw [ST.out]
  go_ret
  exact ⟨rfl, HB3.out, _, H3.out, HO3.out⟩
theorem row_any {S : Nat → Prop} {g : Nat} {L : List Tk} (w : World) (h : LkAt w S g L) :
    Calls Try.prog 18 #[.pointer (some ⟨g, 0, none⟩)] w fun e w' => ∃ v, e = .returned v ∧ OwnR w' w.heap.size 3 1 One v L.length (ics (L.map (·.1))) ∧ Below w.heap.size w w' := by
  obtain ⟨ns, h, rfl, hh⟩ := h
  have hE : Ext w (w.alloc (.cells #[.slice none 0 0] 28)) := extAl _ _
  have lb := heap_alloc_last w (.cells #[.slice none 0 0] 28)
  have g0 := ((hE.cell (p := ⟨g, 0, none⟩) (blk1 h.hg).2.2).trans (blk1 h.hg).1)
  have hlen := h.len
  have OV := Lib.hid (over_any (lb := #[.pointer (some ⟨w.heap.size, 0, none⟩)]) (enters_of Try.func57 (by kernel_rfl) rfl)
    (fun k W => Ext w W ∧ ∃ v, W.heap[w.heap.size]? = some (.cells #[v] 28 (0, 0)) ∧ OwnR W w.heap.size 3 1 One v k (ics (((ns.map (·.p)).take k).map (·.1))))
    (fun W => Ext w W ∧ ∃ v, W.heap[w.heap.size]? = some (.cells #[v] 28 (0, 0)) ∧ OwnR W w.heap.size 3 1 One v ns.length (ics ((ns.map (·.p)).map (·.1)))) _ ⟨hE, _, lb, OwnR.nil⟩ g0
    (fun k x W hx ⟨hW, v, hlb, hv⟩ => by
      obtain ⟨c0, _, _, c3, _, hxl⟩ := blk4 (h.nd k x hx)
      have hkl := (List.getElem?_eq_some_iff.1 hx).1
      refine (row1_any W hW.size (Nat.le_refl _) (by omega) (hW.cells1 hxl c0) (Nat.lt_of_lt_of_le hxl hW.size) hlb hv).mono ?_
      rintro e W' ⟨rfl, hB, v', h1, h2⟩
      have hW' : Ext w W' := Below.trans hW hB
      refine .inl ⟨rfl, ⟨hW', v', h1, ?_⟩, hW'.cells1 hxl c3⟩
      rw [List.take_add_one, List.map_append, ics_app]
      simpa [hx, ics] using h2)
    (fun W ⟨hW, v, h1, h2⟩ => ⟨hW, v, h1, by rw [List.take_of_length_le (by simp)] at h2; exact h2⟩))
  clear h hE lb g0 hh
  go_enter Try.func18, Try.ntmps18
  go_wp2_with fail
  refine OV.out.mono ?_
  rintro e w2 ⟨rfl, h2, v, hb, hv⟩
  have c0 := (blk1 hb).1
  have HV := Lib.hid hv
  have H2 := Lib.hid h2
  clear h2 hb hv
  go_wp2
  go_ret
  exact ⟨_, rfl, by simpa using HV.out, H2.out⟩
end Go.Proofs.Ytiihlbaajopllaa
