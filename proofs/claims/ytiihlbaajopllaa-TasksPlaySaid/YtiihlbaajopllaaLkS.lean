/- Walks of the law of locks: given, long. Steps among the arguments. -/
import Derived.Test.YtiihlbaajopllaaLkR
import Derived.Test.YtiihlbaajopllaaOpen
set_option linter.unusedVariables false
set_option maxRecDepth 100000
namespace Go.Proofs.Ytiihlbaajopllaa
open Go.RowKit

set_option maxHeartbeats 2000000 in
theorem given_any {v : Value} (l : List Wn) (w : World) (h : RWn w v l) (hll : l.length ≤ 1000000) :
    Calls Try.prog 14 #[v] w fun e w' => ∃ v', e = .returned v' ∧ OwnR w' w.heap.size 52 2 One v' l.length (wncs l) ∧ Below w.heap.size w w' := by
  obtain ⟨A, c, rfl⟩ := h.form
  have H := Lib.hid h
  clear h
  go_enter Try.func14, Try.ntmps14
  go_wp2
  go_loopg [3, 4] l.length (fun gg u s wr => ∃ k : Nat, k ≤ l.length ∧ l.length - k ≤ gg ∧ s = .int .i64 k ∧ Hid (Ext w wr) ∧ Hid (OwnR wr w.heap.size 52 2 One u k (wncs (l.take k))))
  case atStart => exact ⟨0, Nat.zero_le _, by omega, rfl, Lib.hid (Ext.refl w), Lib.hid OwnR.nil⟩
  case round =>
    obtain ⟨k, hk, hg, rfl, HW, HO⟩ := hrel
    obtain ⟨A2, c2, rfl⟩ := HO.out.form
    by_cases hlt : k < l.length
    · obtain ⟨b, off, rfl, hb, hc, -⟩ := H.out.at (by omega)
      obtain ⟨x, hx⟩ : ∃ x, l[k]? = some x := ⟨_, List.getElem?_eq_getElem hlt⟩
      obtain ⟨x0, x1⟩ := RWn.want (H.out.ext HW.out) hx
      have ba : b < wr.heap.size := Nat.lt_of_lt_of_le hb (Below.size HW.out)
      have HX := Lib.hid hx
      clear hx
      go_wp2
      have e0 := fun (ψ : World → Prop) (e : ExtP wr.heap.size wr ψ) => e.cell x0 ba
      have e1 := fun (ψ : World → Prop) (e : ExtP wr.heap.size wr ψ) => e.cell x1 ba
      clear x0 x1
      refine wp_region_pieces 13  [(true, [0, 1, 2, 3, 4, 5, 6, 7, 8, 9, 10, 11]), (false, [12])] (by kernel_rfl) (by kernel_rfl) ?_; simp only [pick, List.map_cons, List.map_nil, List.flatMap_cons, List.flatMap_nil, Option.toList_some, List.singleton_append, List.drop_succ_cons, List.drop_zero, List.getElem?_cons_zero, List.getElem?_cons_succ]
      refine ⟨by kernel_rfl, ?_⟩; apply Exists.intro; refine ⟨fun ψ hψ hne => (by (repeat (go_big_quiet_step (( fail )))); exact wpQuiet_nil rfl), ?_⟩
      intro W0 h0 K hK
      clear e0 e1
      go_wp2_with fail
      refine hK _ _ (extAl _ _) ?_
      intro W1 h01
      have hx := extAl W0 (.cells #[.int .i64 x.1, .bool x.2] 52)
      have h1 : Ext wr W1 := Ext.trans (Ext.trans h0 hx) h01
      have hgn := Ext.blk h01 (heap_alloc_last W0 (.cells #[.int .i64 x.1, .bool x.2] 52))
      have hsrc : Src Try.prog 2 35 (.slice (some ⟨W0.heap.size, 0, none⟩) 1 1) 1 (wnC x) W1 := src_row Try.underlying35 hgn rfl (by intro u hu; simp [wnC] at hu; rcases hu with rfl | rfl <;> rfl)
      have hwz := Below.size HW.out
      have hwz1 := Below.size h1
      obtain ⟨v', W2, hr, ho2, hb2, -, -⟩ := app_want (ty := 35) (HO.out.ext h1) hsrc (by omega) (by intro u hu; simp [wnC] at hu; rcases hu with rfl | rfl <;> rfl) (by omega)
      have Hr := Lib.hid hr
      have HO2 := Lib.hid ho2
      have HW2 := Lib.hid (Below.trans HW.out (Below.trans (h1.mono hwz) hb2))
      clear hr ho2 hb2 hsrc hgn h1 hx h01 h0
      go_wp2_with (refine wpList_app rfl (.tmp 11) (.tmp 23) 35 35 rfl Hr.out ?_; simp only [Act.put])
      go_roundg (l.length - (k + 1))
      case measure => omega
      case rel =>
        refine ⟨k + 1, by omega, by omega, by go_num, HW2, Lib.hid ?_⟩
        have e : wncs (l.take (k + 1)) = wncs (l.take k) ++ wnC x := by
          rw [List.take_add_one, HX.out]
          simp [wncs]
        rw [e]
        exact HO2.out
    · obtain rfl : k = l.length := by omega
      rw [List.take_length] at HO
      go_wp2
      go_ret
      exact ⟨_, rfl, HO.out, HW.out⟩
set_option maxHeartbeats 2000000 in
theorem given19_any {v : Value} (l : List Wn) (w : World) (h : RWn w v l) (hll : l.length ≤ 1000000) :
    Calls Try.prog 28 #[v] w fun e w' => ∃ v', e = .returned v' ∧ OwnR w' w.heap.size 52 2 One v' l.length (wncs l) ∧ Below w.heap.size w w' := by
  obtain ⟨A, c, rfl⟩ := h.form
  have H := Lib.hid h
  clear h
  go_enter Try.func28, Try.ntmps28
  go_wp2
  go_loopg [3, 4] l.length (fun gg u s wr => ∃ k : Nat, k ≤ l.length ∧ l.length - k ≤ gg ∧ s = .int .i64 k ∧ Hid (Ext w wr) ∧ Hid (OwnR wr w.heap.size 52 2 One u k (wncs (l.take k))))
  case atStart => exact ⟨0, Nat.zero_le _, by omega, rfl, Lib.hid (Ext.refl w), Lib.hid OwnR.nil⟩
  case round =>
    obtain ⟨k, hk, hg, rfl, HW, HO⟩ := hrel
    obtain ⟨A2, c2, rfl⟩ := HO.out.form
    by_cases hlt : k < l.length
    · obtain ⟨b, off, rfl, hb, hc, -⟩ := H.out.at (by omega)
      obtain ⟨x, hx⟩ : ∃ x, l[k]? = some x := ⟨_, List.getElem?_eq_getElem hlt⟩
      obtain ⟨x0, x1⟩ := RWn.want (H.out.ext HW.out) hx
      have ba : b < wr.heap.size := Nat.lt_of_lt_of_le hb (Below.size HW.out)
      have HX := Lib.hid hx
      clear hx
      go_wp2
      have e0 := fun (ψ : World → Prop) (e : ExtP wr.heap.size wr ψ) => e.cell x0 ba
      have e1 := fun (ψ : World → Prop) (e : ExtP wr.heap.size wr ψ) => e.cell x1 ba
      clear x0 x1
      refine wp_region_pieces 13  [(true, [0, 1, 2, 3, 4, 5, 6, 7, 8, 9, 10, 11]), (false, [12])] (by kernel_rfl) (by kernel_rfl) ?_; simp only [pick, List.map_cons, List.map_nil, List.flatMap_cons, List.flatMap_nil, Option.toList_some, List.singleton_append, List.drop_succ_cons, List.drop_zero, List.getElem?_cons_zero, List.getElem?_cons_succ]
      refine ⟨by kernel_rfl, ?_⟩; apply Exists.intro; refine ⟨fun ψ hψ hne => (by (repeat (go_big_quiet_step (( fail )))); exact wpQuiet_nil rfl), ?_⟩
      intro W0 h0 K hK
      clear e0 e1
      go_wp2_with fail
      refine hK _ _ (extAl _ _) ?_
      intro W1 h01
      have hx := extAl W0 (.cells #[.int .i64 x.1, .bool x.2] 52)
      have h1 : Ext wr W1 := Ext.trans (Ext.trans h0 hx) h01
      have hgn := Ext.blk h01 (heap_alloc_last W0 (.cells #[.int .i64 x.1, .bool x.2] 52))
      have hsrc : Src Try.prog 2 35 (.slice (some ⟨W0.heap.size, 0, none⟩) 1 1) 1 (wnC x) W1 := src_row Try.underlying35 hgn rfl (by intro u hu; simp [wnC] at hu; rcases hu with rfl | rfl <;> rfl)
      have hwz := Below.size HW.out
      have hwz1 := Below.size h1
      obtain ⟨v', W2, hr, ho2, hb2, -, -⟩ := app_want (ty := 35) (HO.out.ext h1) hsrc (by omega) (by intro u hu; simp [wnC] at hu; rcases hu with rfl | rfl <;> rfl) (by omega)
      have Hr := Lib.hid hr
      have HO2 := Lib.hid ho2
      have HW2 := Lib.hid (Below.trans HW.out (Below.trans (h1.mono hwz) hb2))
      clear hr ho2 hb2 hsrc hgn h1 hx h01 h0
      go_wp2_with (refine wpList_app rfl (.tmp 11) (.tmp 23) 35 35 rfl Hr.out ?_; simp only [Act.put])
      go_roundg (l.length - (k + 1))
      case measure => omega
      case rel =>
        refine ⟨k + 1, by omega, by omega, by go_num, HW2, Lib.hid ?_⟩
        have e : wncs (l.take (k + 1)) = wncs (l.take k) ++ wnC x := by
          rw [List.take_add_one, HX.out]
          simp [wncs]
        rw [e]
        exact HO2.out
    · obtain rfl : k = l.length := by omega
      rw [List.take_length] at HO
      go_wp2
      go_ret
      exact ⟨_, rfl, HO.out, HW.out⟩

/-! Steps. -/
structure OpE where
  k : Int
  t : Int
  wv : Value
  l : List Wn
def opC (x : OpE) : List Value := [.int .u8 x.k, .int .i64 x.t, x.wv]
theorem opC_length (x : OpE) : (opC x).length = 3 := rfl
structure OpE.Ok (w : World) (x : OpE) : Prop where
  r : RWn w x.wv x.l
  ll : x.l.length ≤ maxLen
  k : (Lit.int .u8 x.k).wf = true
  t : (Lit.int .i64 x.t).wf = true
structure OpsT where
  v : Value
  l : List OpE
structure OpsT.Ok (w : World) (x : OpsT) : Prop where
  r : RR w 3 x.v x.l.length (x.l.flatMap opC)
  e : ∀ y ∈ x.l, y.Ok w
  len : x.l.length ≤ maxLen
section
open Go.ChangeShapes Go.WideShapes Go.ChangeAt Go.Deep
variable {H : Type} {enc : TypeId × Value → H} {W : World} {base : Nat} {b0 : Nat} {spare : Nat → Bool} {held : Bool}
theorem open_wants {fuel : Nat} {v : Value} {x : DataW H × List MemPlace} (h : DataW.trod enc Try.prog W base spare held fuel 29 [v] = some x) : ∃ l : List Wn, RWn W v l ∧ l.length ≤ maxLen := by
  obtain ⟨l, h1, _, h2⟩ := open_rows (enc := wnC) (R := fun _ => True) Try.underlying29 Try.underlying98 (by kernel_rfl) (by kernel_rfl) (by decide) wnC_length (fun cell hc => by
    obtain ⟨y0, n0, t0⟩ := hc 0 _ rfl
    obtain ⟨y1, n1, t1⟩ := hc 1 _ rfl
    obtain ⟨a, e0, _, _⟩ := DataW.trod_int Try.underlying3 t0
    obtain ⟨b, e1, _⟩ := DataW.trod_bool Try.underlying4 t1
    simp only [List.cons.injEq, and_true] at e0 e1
    refine ⟨(a, b), fun j hj => ?_, trivial⟩
    have hj2 : j < 2 := hj
    rcases j with _ | _ | j
    · exact congrArg some e0.symm
    · exact congrArg some e1.symm
    · omega) h
  exact ⟨l, h1, h2⟩
theorem open_Wops {v : Value} {d : DataW H} {p : List MemPlace} {r : Reach} (hv : Value.okWide Try.prog W r b0 22 v) (h : DataW.Trod enc Try.prog W base spare held 22 v d p) : ∃ x : OpsT, v = x.v ∧ x.Ok W := by
  obtain ⟨a0, len, cap, rfl⟩ := okWide_slice Try.underlying22 hv
  obtain ⟨m, hm⟩ := h
  obtain ⟨l, h1, h2, h3⟩ := open_rows (enc := opC) (R := fun x => x.Ok W) Try.underlying22 Try.underlying31 (by kernel_rfl) (by kernel_rfl) (by decide) opC_length (fun cell hc => by
    obtain ⟨y0, n0, t0⟩ := hc 0 _ rfl
    obtain ⟨y1, n1, t1⟩ := hc 1 _ rfl
    obtain ⟨y2, n2, t2⟩ := hc 2 _ rfl
    obtain ⟨a, e0, _, w0⟩ := DataW.trod_int Try.underlying5 t0
    obtain ⟨b, e1, _, w1⟩ := DataW.trod_int Try.underlying3 t1
    obtain ⟨l, r, hl⟩ := open_wants t2
    simp only [List.cons.injEq, and_true] at e0 e1
    refine ⟨⟨a, b, cell 2, l⟩, fun j hj => ?_, ⟨r, hl, w0, w1⟩⟩
    have hj2 : j < 3 := hj
    rcases j with _ | _ | _ | j
    · exact congrArg some e0.symm
    · exact congrArg some e1.symm
    · rfl
    · omega) (v := .slice a0 len cap) (by simpa [Value.cells] using hm)
  exact ⟨⟨_, l⟩, rfl, h1, h2, h3⟩
end
def longB (l : List OpE) : Bool := decide (80 < l.length) || l.any fun x => decide (50 < x.l.length)
theorem ROp.op {w : World} {b off c k : Nat} {l : List OpE} {x : OpE} (h : RR w 3 (.slice (some ⟨b, off, none⟩) l.length c) l.length (l.flatMap opC)) (hk : l[k]? = some x) :
    w.cell? ⟨b, off + k * 3, none⟩ = some (.int .u8 x.k) ∧ w.cell? ⟨b, off + k * 3 + 1, none⟩ = some (.int .i64 x.t) ∧ w.cell? ⟨b, off + k * 3 + 2, none⟩ = some x.wv := by
  have h0 := RR.cellAt (enc := opC) h opC_length hk (i := 0) rfl
  have h1 := RR.cellAt (enc := opC) h opC_length hk (i := 1) rfl
  have h2 := RR.cellAt (enc := opC) h opC_length hk (i := 2) rfl
  rw [← Nat.add_assoc] at h0 h1 h2
  exact ⟨h0, h1, h2⟩
set_option maxHeartbeats 1000000 in
theorem long_any {v : Value} (l : List OpE) (w : World) (h : RR w 3 v l.length (l.flatMap opC)) (he : ∀ x ∈ l, x.Ok w) (hll : l.length ≤ maxLen) :
    Calls Try.prog 10 #[v] w fun e w' => e = .returned (.bool (longB l)) ∧ Below w.heap.size w w' := by
  obtain ⟨A, c, rfl⟩ := h.form
  unfold maxLen at hll
  by_cases h8 : 80 < l.length
  · have e : longB l = true := by unfold longB; rw [decide_eq_true h8]; rfl
    rw [e]
    clear e h he
    have h8' : (80 : Int) < (l.length : Int) := by omega
    go_enter Try.func10, Try.ntmps10
    go_wp2
    go_ret
    exact ⟨rfl, Below.refl _ _⟩
  have H := Lib.hid h
  have HE := Lib.hid he
  clear h he
  have h8' : (l.length : Int) ≤ 80 := by omega
  go_enter Try.func10, Try.ntmps10
  go_wp2
  go_loopg [3] l.length (fun gg s wr => ∃ k : Nat, k ≤ l.length ∧ l.length - k ≤ gg ∧ s = .int .i64 k ∧ Hid (Ext w wr) ∧ Hid (∀ j y, j < k → l[j]? = some y → y.l.length ≤ 50))
  case atStart => exact ⟨0, Nat.zero_le _, by omega, rfl, Lib.hid (Ext.refl w), Lib.hid fun j x hj => absurd hj (Nat.not_lt_zero _)⟩
  case round =>
    obtain ⟨k, hk, hg, rfl, HW, HA⟩ := hrel
    by_cases hlt : k < l.length
    · obtain ⟨b, off, rfl, hb, hc, -⟩ := H.out.at (by omega)
      obtain ⟨x, hx⟩ : ∃ x, l[k]? = some x := ⟨_, List.getElem?_eq_getElem hlt⟩
      have hok := HE.out x (List.mem_of_getElem? hx)
      obtain ⟨A2, c2, hwv⟩ := hok.r.form
      obtain ⟨x0, x1, x2⟩ := ROp.op (H.out.ext HW.out) hx
      rw [hwv] at x2
      have hxl := hok.ll
      unfold maxLen at hxl
      have HX := Lib.hid hx
      clear hx hok hwv
      by_cases h5 : 50 < x.l.length
      · have E : Hid (longB l = true) := Lib.hid (by
          unfold longB
          rw [Bool.or_eq_true]
          exact .inr (List.any_eq_true.2 ⟨x, List.mem_of_getElem? HX.out, by simpa using h5⟩))
        have h5' : (50 : Int) < (x.l.length : Int) := by omega
        go_wp2
        go_ret
        exact ⟨by rw [E.out]; rfl, HW.out⟩
      · have h5' : (x.l.length : Int) ≤ 50 := by omega
        go_wp2
        go_roundg (l.length - (k + 1))
        case measure => omega
        case rel =>
          refine ⟨k + 1, by omega, by omega, by go_num, HW, Lib.hid fun j y hj hy => ?_⟩
          by_cases e : j = k
          · subst e
            rw [HX.out] at hy
            cases hy
            omega
          · exact HA.out j y (by omega) hy
    · obtain rfl : k = l.length := by omega
      have E : Hid (longB l = false) := Lib.hid (by
        unfold longB
        rw [decide_eq_false h8, Bool.false_or, List.any_eq_false]
        intro x hx
        obtain ⟨j, hj, rfl⟩ := List.getElem_of_mem hx
        have := HA.out j _ hj (List.getElem?_eq_getElem hj)
        simpa using this)
      go_wp2
      go_ret
      exact ⟨by rw [E.out]; rfl, HW.out⟩
theorem longB_le {l : List OpE} (h : longB l = false) : l.length ≤ 80 ∧ ∀ x ∈ l, x.l.length ≤ 50 := by
  unfold longB at h
  simp only [Bool.or_eq_false_iff, decide_eq_false_iff_not, List.any_eq_false, decide_eq_true_eq] at h
  exact ⟨by omega, fun x hx => by have := h.2 x hx; omega⟩
end Go.Proofs.Ytiihlbaajopllaa
