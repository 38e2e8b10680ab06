/- Walks of the document's disk: Boot. -/
import Derived.Test.YtobcfocbglkicaaRfF
set_option linter.unusedVariables false
set_option maxRecDepth 100000
namespace Go.Proofs.Ytobcfocbglkicaa
open Go.RowKit

theorem rBoot_no {S : Nat → Prop} {g : Nat} {R : RF} (w : World) (h : RfAt w S g R) (hd : R.dead = false) :
    Calls Try.prog 44 #[.pointer (some ⟨g, 0, none⟩)] w fun e w' => e = .returned (.tuple #[.pointer none, .int .i64 50]) ∧ Below w.heap.size w w' := by
  obtain ⟨sv, kv, h⟩ := h
  obtain ⟨-, -, -, -, c4, fz, hlt⟩ := blk5 h.hg
  rw [hd] at c4
  go_enter Try.func44, Try.ntmps44
  go_wp2
  exact bodyPost_ret (v := .tuple #[.pointer none, .int .i64 50]) (by simp only [results, Try.results44]; go_simp) rfl ⟨rfl, Below.refl _ _⟩
set_option maxHeartbeats 4000000 in
theorem rBoot_ok {S : Nat → Prop} {g : Nat} {R : RF} (w : World) (h : RfAt w S g R) (hd : R.dead = true) (hl : R.L.length ≤ 100000) :
    Calls Try.prog 44 #[.pointer (some ⟨g, 0, none⟩)] w fun e w' => ∃ g', e = .returned (.tuple #[.pointer (some ⟨g', 0, none⟩), .int .i64 0]) ∧ RfAt w' (fun i => w.heap.size ≤ i ∧ i < w'.heap.size) g' ⟨R.n, R.L, 0, [], false⟩ ∧ Below w.heap.size w w' := by
  obtain ⟨sv, kv, h⟩ := h
  obtain ⟨c0, c1, -, -, c4, fz, hlt⟩ := blk5 h.hg
  obtain ⟨n, L, cut, kp, dead⟩ := R
  simp only at c0 c1 c4 hd hl
  subst hd
  obtain ⟨A, c, rfl⟩ := h.l.form
  have hok : ∀ p ∈ L, p.2.1.length = 512 := h.ok
  have H := Lib.hid h
  simp only at H ⊢
  have HL : Hid (OwnR w 0 118 514 One (.slice A L.length c) L.length (rwcs L)) := Lib.hid H.out.l
  clear h
  go_enter Try.func44, Try.ntmps44
  go_wp2_with fail
  have e0 : ∀ ψ (e : ExtP w.heap.size w ψ), e.val.cell? ⟨g, 0, none⟩ = some (.int .i64 n) := fun ψ e => e.cell c0 hlt
  have e1 : ∀ ψ (e : ExtP w.heap.size w ψ), e.val.cell? ⟨g, 1, none⟩ = some (.slice A L.length c) := fun ψ e => e.cell c1 hlt
  clear c0 c1 c4 fz
  refine wp_region_pieces 10  [(true, [0, 1, 2, 3, 5, 6, 7, 8]), (false, [4]), (false, [9])] (by kernel_rfl) (by kernel_rfl) ?_; simp only [pick, List.map_cons, List.map_nil, List.flatMap_cons, List.flatMap_nil, Option.toList_some, List.singleton_append, List.drop_succ_cons, List.drop_zero, List.getElem?_cons_zero, List.getElem?_cons_succ]
  refine ⟨by kernel_rfl, ?_⟩; apply Exists.intro; refine ⟨fun ψ hψ hne => (by (repeat (go_big_quiet_step (( fail )))); exact wpQuiet_nil rfl), ?_⟩
  intro wa ha K hK
  clear e0 e1
  go_wp2_with fail
  refine hK _ _ (extAl _ _) ?_
  clear hK K
  intro wb hbb K hK
  have hza := Below.size ha
  have hxb : Ext w wb := Ext.trans (Ext.trans ha (extAl wa _)) hbb
  have hgb : wb.heap[wa.heap.size]? = some (.cells #[] 118 (0, 0)) := Ext.blk hbb (heap_alloc_last wa _)
  obtain ⟨v1, wb', hr1, ho1, hx1⟩ := app_rwE (tx := 114) (ty := 114) hgb ((HL.out.ext hxb).src (P := Try.prog) Try.underlying114 (rwcs_one L)) (B := w.heap.size) hza (rwcs_one L) (by omega)
  obtain ⟨A1, c1, rfl⟩ := ho1.form
  have Hr1 := Lib.hid hr1
  have HX1 := Lib.hid hx1
  have HO1 := Lib.hid ho1
  have HXb := Lib.hid (Ext.trans hxb hx1)
  clear ha hbb hxb hgb hr1 hx1 ho1 hza
  go_wp2_with (at_builtin; refine wpList_app rfl (.tmp 13) (.tmp 17) 114 114 rfl Hr1.out ?_; simp only [Act.put])
  refine hK _ _ HX1.out ?_
  clear hK K
  intro wc hcc
  have hxc : Ext w wc := Ext.trans HXb.out hcc
  have hxd := extAl wc (.cells #[.int .i64 n, .slice A1 L.length c1, .int .i64 0, .slice none 0 0, .bool false] 116)
  have ho := (HO1.out.ext hcc).ext hxd
  have hsz : w.heap.size ≤ wc.heap.size := Below.size hxc
  have F : Hid (RfAt (wc.alloc (.cells #[.int .i64 n, .slice A1 L.length c1, .int .i64 0, .slice none 0 0, .bool false] 116)) (fun i => w.heap.size ≤ i ∧ i < (wc.alloc (.cells #[.int .i64 n, .slice A1 L.length c1, .int .i64 0, .slice none 0 0, .bool false] 116)).heap.size) wc.heap.size ⟨n, L, 0, [], false⟩) := Lib.hid
    ⟨.slice A1 L.length c1, .slice none 0 0, { hg := heap_alloc_last _ _, l := ho.mono (Nat.zero_le _), kp := OwnR.nil, sg := ⟨hsz, by simp⟩, sl := fun b hb => own_gt ho hb, sk := by simp [Value.ownBlock], ok := hok }⟩
  have FX := Lib.hid (Ext.trans hxc hxd)
  clear hxc hxd ho hsz hcc HO1 HXb HX1 Hr1 H
  go_wp2_with fail
  exact bodyPost_ret (v := .tuple #[.pointer (some ⟨wc.heap.size, 0, none⟩), .int .i64 0]) (by simp only [results, Try.results44]; go_simp) rfl ⟨_, rfl, F.out, FX.out⟩
end Go.Proofs.Ytobcfocbglkicaa
