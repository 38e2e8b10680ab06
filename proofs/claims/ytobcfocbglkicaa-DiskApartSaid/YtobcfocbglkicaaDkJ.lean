/- Walks of disk: Boot, Copy. -/
import Derived.Test.YtobcfocbglkicaaDkI
set_option linter.unusedVariables false
set_option maxRecDepth 100000
namespace Go.Proofs.Ytobcfocbglkicaa
open Go.RowKit

theorem DkAt.ok {w : World} {S : Nat → Prop} {g : Nat} {D : DK} (h : DkAt w S g D) : D.Ok := by obtain ⟨_, _, _, _, h⟩ := h; exact h.ok
set_option maxHeartbeats 2000000 in
theorem Boot_no {S : Nat → Prop} {g : Nat} {D : DK} (w : World) (h : DkAt w S g D) (hd : D.dead = false) :
    Calls Try.prog 35 #[.pointer (some ⟨g, 0, none⟩)] w fun e w' => e = .returned (.tuple #[.pointer none, .int .i64 50]) ∧ Below w.heap.size w w' := by
  obtain ⟨mo, mn, sv, kv, h⟩ := h
  obtain ⟨c0, c1, c2, c3, c4, c5, c6, fz, hlt⟩ := blk7 h.hg
  rw [hd] at c6
  go_enter Try.func35, Try.ntmps35
  go_wp2
  exact bodyPost_ret (v := .tuple #[.pointer none, .int .i64 50]) (by simp only [results, Try.results35]; go_simp) rfl ⟨rfl, by (repeat' (first | (with_reducible assumption) | (with_reducible exact Below.refl _ _) | (with_reducible refine below_sc ?_ ?_) | ((with_reducible show (_ : Nat) ≤ _); omega) | refine Below.setCell ?_ (by first | omega | (simp; done) | (simp; omega)) _ | refine Below.alloc ?_ (by first | omega | (simp; done) | (simp; omega)) _ | refine Below.drew ?_ | refine below_drewN ?_ _ | refine Below.trans ?_ (Below.mono (by assumption) (by first | omega | (simp; done) | (simp; omega)))))⟩
set_option maxHeartbeats 2000000 in
theorem Boot_ok {S : Nat → Prop} {g : Nat} {D : DK} (w : World) (h : DkAt w S g D) (hd : D.dead = true) :
    Calls Try.prog 35 #[.pointer (some ⟨g, 0, none⟩)] w fun e w' => ∃ g', e = .returned (.tuple #[.pointer (some ⟨g', 0, none⟩), .int .i64 0]) ∧ w.heap.size ≤ g' ∧ DkAt w' (fun i => w.heap.size ≤ i ∧ i < w'.heap.size) g' (newD D.n D.on) ∧ Below w.heap.size w w' := by
  have ok := h.ok
  have hok : (newD D.n D.on).Ok := ⟨ok.n0, ok.n1, Int.le_refl _, by simp [newD], ok.on, by simp [newD]⟩
  obtain ⟨mo, mn, sv, kv, h⟩ := h
  have cc := blk7 h.hg
  have c6 := cc.2.2.2.2.2.2.1
  have hlt := (Array.getElem?_eq_some_iff.1 h.hg).1
  rw [hd] at c6
  go_enter Try.func35, Try.ntmps35
  go_wp2_with fail
  have e1 : ∀ ψ (e : ExtP w.heap.size w ψ), e.val.cell? ⟨g, 0, none⟩ = some (.int .i64 D.n) := fun ψ e => e.cell cc.1 hlt
  have e2 : ∀ ψ (e : ExtP w.heap.size w ψ), e.val.cell? ⟨g, 1, none⟩ = some (.map (some mo)) := fun ψ e => e.cell cc.2.1 hlt
  clear cc
  refine wp_region_pieces 10  [(true, [0, 1, 2, 3, 4, 5, 6, 7]), (false, [8]), (false, [9])] (by kernel_rfl) (by kernel_rfl) ?_; simp only [pick, List.map_cons, List.map_nil, List.flatMap_cons, List.flatMap_nil, Option.toList_some, List.singleton_append, List.drop_succ_cons, List.drop_zero, List.getElem?_cons_zero, List.getElem?_cons_succ]
  refine ⟨by kernel_rfl, ?_⟩; apply Exists.intro; refine ⟨fun ψ hψ hne => (by (repeat (go_big_quiet_step (( fail )))); exact wpQuiet_nil rfl), ?_⟩
  intro wa ha K hK
  clear e1 e2
  go_wp2_with (go_at_call 72; refine (mclone_any _ (h.on.ext ha)).mono ?_; rintro e wb ⟨rfl, hm, hb⟩)
  refine hK _ _ hb ?_
  clear hK K
  intro wc hc K hK
  have hcs := Ext.trans ha (Ext.trans hb hc)
  have hsz := ha.size
  have hmlt := hm.lt
  go_wp2_with (go_at_call 65; refine (with_any (on := D.on) _ (hm.ext hc) hok).mono ?_; rintro e wd ⟨g', rfl, hg', hd, hbd⟩)
  refine hK _ _ hbd ?_
  clear hK K
  intro we he
  have hs2 := hbd.size
  have hs3 := he.size
  have hs4 := hb.size
  have hs5 := hc.size
  have F := Lib.hid (Ext.trans hcs (Ext.trans hbd he))
  have D2 := Lib.hid (hd.ext he)
  have hgl : w.heap.size ≤ g' := by omega
  have hx : ∀ i, (i = wa.heap.size ∨ wc.heap.size ≤ i ∧ i < wd.heap.size) → w.heap.size ≤ i ∧ i < we.heap.size := by
    rintro i (rfl | hi) <;> omega
  clear hd hbd hcs hm hb hc ha he hs2 hs3 hs4 hs5 hg' hmlt hsz
  go_wp2
  exact bodyPost_ret (v := .tuple #[.pointer (some ⟨g', 0, none⟩), .int .i64 0]) (by simp only [results, Try.results35]; go_simp) rfl ⟨g', rfl, hgl, D2.out.mono hx, F.out⟩

/-- A disk under way to be one: what stands in the map of the newest is told by itself; all of it is new since B. -/
structure DkQ (w : World) (B g mo mn : Nat) (sv kv : Value) (D : DK) (F : Int → Option Value) : Prop where
  hg : w.heap[g]? = some (.cells #[.int .i64 D.n, .map (some mo), sv, .map (some mn), .int .i64 D.cut, kv, .bool D.dead] 104 (0, 0))
  on : MapI w mo fun a => (lastB D.on a).map bval
  nw : MapI w mn F
  ne : mo ≠ mn
  wt : OwnR w 0 107 513 One sv D.wt.length (wcs D.wt)
  kp : OwnR w 0 4 1 One kv D.keep.length (bcs D.keep)
  bg : B ≤ g
  bo : B ≤ mo
  bn : B ≤ mn
  bw : ∀ b, sv.ownBlock = some b → B ≤ b
  bk : ∀ b, kv.ownBlock = some b → B ≤ b
theorem DkQ.mut {w w' : World} {S : Nat → Prop} {B g mo mn : Nat} {sv kv : Value} {D : DK} {F : Int → Option Value} (h : DkQ w B g mo mn sv kv D F) (k : Mut S w w') (hS : ∀ i, S i → i < B) : DkQ w' B g mo mn sv kv D F :=
  have no : ∀ i, B ≤ i → ¬ S i := fun i hi hs => by have := hS i hs; omega
  { h with
    hg := (k.block g (Array.getElem?_eq_some_iff.1 h.hg).1 (no _ h.bg)).trans h.hg
    on := h.on.mut k (no _ h.bo)
    nw := h.nw.mut k (no _ h.bn)
    wt := h.wt.mutO k fun b hb => no _ (h.bw b hb)
    kp := h.kp.mutO k fun b hb => no _ (h.bk b hb) }
theorem DkQ.ext {w w' : World} {B g mo mn : Nat} {sv kv : Value} {D : DK} {F : Int → Option Value} (h : DkQ w B g mo mn sv kv D F) (k : Ext w w') : DkQ w' B g mo mn sv kv D F := h.mut (S := fun _ => False) (Mut.of_ext k) fun _ h => h.elim
theorem DkQ.cells {w : World} {B g mo mn : Nat} {sv kv : Value} {D D' : DK} {F : Int → Option Value} (h : DkQ w B g mo mn sv kv D F) (sv' kv' : Value) (ho : D'.on = D.on) (hw : OwnR w 0 107 513 One sv' D'.wt.length (wcs D'.wt)) (hk : OwnR w 0 4 1 One kv' D'.keep.length (bcs D'.keep))
    (bw : ∀ b, sv'.ownBlock = some b → B ≤ b) (bk : ∀ b, kv'.ownBlock = some b → B ≤ b) :
    DkQ (w.setRow g #[.int .i64 D'.n, .map (some mo), sv', .map (some mn), .int .i64 D'.cut, kv', .bool D'.dead]) B g mo mn sv' kv' D' F where
  hg := setRow_heap _ _ _ _ _ _ h.hg
  on := by rw [ho]; exact h.on.set h.hg
  nw := h.nw.set h.hg
  ne := h.ne
  wt := hw.set h.hg (by decide)
  kp := hk.set h.hg (by decide)
  bg := h.bg
  bo := h.bo
  bn := h.bn
  bw := bw
  bk := bk
theorem DkQ.newest {w w' : World} {B g mo mn : Nat} {sv kv : Value} {D : DK} {F F' : Int → Option Value} (h : DkQ w B g mo mn sv kv D F) (k : Mut (fun i => i = mn) w w') (hm : MapI w' mn F') : DkQ w' B g mo mn sv kv D F' where
  hg := (k.block g (Array.getElem?_eq_some_iff.1 h.hg).1 (cells_nm h.hg h.nw)).trans h.hg
  on := h.on.mut k h.ne
  nw := hm
  ne := h.ne
  wt := h.wt.mutO k fun b hb e => own_nm h.wt h.nw (e ▸ hb)
  kp := h.kp.mutO k fun b hb e => own_nm h.kp h.nw (e ▸ hb)
  bg := h.bg
  bo := h.bo
  bn := h.bn
  bw := h.bw
  bk := h.bk
theorem DkQ.at {w : World} {B g mo mn : Nat} {sv kv : Value} {D : DK} (h : DkQ w B g mo mn sv kv D (ixV D.wt)) (ok : D.Ok) : DkAt w (fun i => B ≤ i ∧ i < w.heap.size) g D :=
  ⟨mo, mn, sv, kv, {
    hg := h.hg
    on := h.on
    nw := h.nw
    ne := h.ne
    wt := h.wt
    kp := h.kp
    sg := ⟨h.bg, (Array.getElem?_eq_some_iff.1 h.hg).1⟩
    so := ⟨h.bo, h.on.lt⟩
    sn := ⟨h.bn, h.nw.lt⟩
    sw := fun b hb => ⟨h.bw b hb, own_lt h.wt hb⟩
    sk := fun b hb => ⟨h.bk b hb, own_lt h.kp hb⟩
    ok := ok }⟩
theorem DkAt.q {w : World} {S : Nat → Prop} {B g : Nat} {D : DK} (h : DkAt w S g D) (hS : ∀ i, S i → B ≤ i) : ∃ mo mn sv kv, DkQ w B g mo mn sv kv D (ixV D.wt) := by
  obtain ⟨mo, mn, sv, kv, h⟩ := h
  exact ⟨mo, mn, sv, kv, ⟨h.hg, h.on, h.nw, h.ne, h.wt, h.kp, hS _ h.sg, hS _ h.so, hS _ h.sn, fun b hb => hS _ (h.sw b hb), fun b hb => hS _ (h.sk b hb)⟩⟩
theorem ixV_int {l : List Wr} {a : Int} {v : Value} (h : ixV l a = some v) : ∃ i, v = .int .i64 i := by
  unfold ixV at h
  cases k : lastIx l a with
  | none => rw [k] at h; cases h
  | some i => rw [k] at h; exact ⟨_, (Option.some.inj h).symm⟩
set_option maxHeartbeats 2000000 in
theorem Copy_any {S : Nat → Prop} {g : Nat} {D : DK} (w : World) (h : DkAt w S g D) (hkl : D.keep.length ≤ 1000000) (hwl : D.wt.length ≤ 1000000) :
    Calls Try.prog 33 #[.pointer (some ⟨g, 0, none⟩)] w fun e w' => ∃ g', e = .returned (.pointer (some ⟨g', 0, none⟩)) ∧ w.heap.size ≤ g' ∧ DkAt w' (fun i => w.heap.size ≤ i ∧ i < w'.heap.size) g' D ∧ Below w.heap.size w w' := by
  have ok := h.ok
  have hok : (newD D.n D.on).Ok := ⟨ok.n0, ok.n1, Int.le_refl _, by simp [newD], ok.on, by simp [newD]⟩
  obtain ⟨mo, mn, sv, kv, h⟩ := h
  have cc := blk7 h.hg
  have hlt := (Array.getElem?_eq_some_iff.1 h.hg).1
  go_enter Try.func33, Try.ntmps33
  go_wp2_with fail
  have e1 : ∀ ψ (e : ExtP w.heap.size w ψ), e.val.cell? ⟨g, 0, none⟩ = some (.int .i64 D.n) := fun ψ e => e.cell cc.1 hlt
  have e2 : ∀ ψ (e : ExtP w.heap.size w ψ), e.val.cell? ⟨g, 1, none⟩ = some (.map (some mo)) := fun ψ e => e.cell cc.2.1 hlt
  clear cc
  refine wp_region_pieces 10  [(true, [0, 1, 2, 3, 4, 5, 6, 7]), (false, [8]), (false, [9])] (by kernel_rfl) (by kernel_rfl) ?_; simp only [pick, List.map_cons, List.map_nil, List.flatMap_cons, List.flatMap_nil, Option.toList_some, List.singleton_append, List.drop_succ_cons, List.drop_zero, List.getElem?_cons_zero, List.getElem?_cons_succ]
  refine ⟨by kernel_rfl, ?_⟩; apply Exists.intro; refine ⟨fun ψ hψ hne => (by (repeat (go_big_quiet_step (( fail )))); exact wpQuiet_nil rfl), ?_⟩
  intro wa ha K hK
  clear e1 e2
  go_wp2_with (go_at_call 72; refine (mclone_any _ (h.on.ext ha)).mono ?_; rintro e wb ⟨rfl, hm, hb⟩)
  refine hK _ _ hb ?_
  clear hK K
  intro wc hc K hK
  have hcs := Ext.trans ha (Ext.trans hb hc)
  have hsz := ha.size
  have hmlt := hm.lt
  go_wp2_with (go_at_call 65; refine (with_any (on := D.on) _ (hm.ext hc) hok).mono ?_; rintro e wd ⟨g', rfl, hg', hd, hbd⟩)
  refine hK _ _ hbd ?_
  clear hK K
  intro we he
  have hs2 := hbd.size
  have hs3 := he.size
  have hs4 := hb.size
  have hs5 := hc.size
  have F := Lib.hid (Ext.trans hcs (Ext.trans hbd he))
  have hgl : w.heap.size ≤ g' := by omega
  obtain ⟨mo', mn', sv', kv', q⟩ := (hd.ext he).q (B := w.heap.size) (by rintro i (rfl | hi) <;> omega)
  clear hd hbd hcs hm hb hc ha he hs2 hs3 hs4 hs5 hg' hmlt hsz
  have Q1 := Lib.hid q
  have h1 := h.ext F.out
  have cc := blk7 h1.hg
  obtain ⟨A, c, rfl⟩ := h.wt.form
  have KC := Lib.hid (clone_wrs D.wt _ h1.wt hwl)
  clear q h1
  obtain ⟨c0, c1, c2, c3, c4, c5, c6, fz, -⟩ := cc
  go_upto_region 5 with (go_at_call 73; refine KC.out.mono ?_; rintro e w2 ⟨v2, rfl, ho2, hb2⟩; obtain ⟨A2, c2', rfl⟩ := ho2.form; have Q2 := Lib.hid (Q1.out.ext hb2); obtain ⟨d0, d1, d2, d3, d4, d5, d6, fz2, -⟩ := blk7 Q2.out.hg)
  have hst := set7_2 (.slice A2 D.wt.length c2') Q2.out.hg
  have q3 := Q2.out.cells (D' := { newD D.n D.on with wt := D.wt }) (.slice A2 D.wt.length c2') kv' rfl (ho2.mono (Nat.zero_le _)) Q2.out.kp (fun b hb => by
    obtain ⟨_, ⟨h1, _⟩ | ⟨g9, c9, junk, h1, hB, _, _⟩⟩ := ho2
    · rw [h1] at hb; simp [Value.ownBlock] at hb
    · rw [h1] at hb
      obtain rfl : g9 = b := by simpa [Value.ownBlock] using hb
      exact Nat.le_trans F.out.size hB) Q2.out.bk
  have f3 : Ext w (w2.setRow g' _) := below_setRow (Ext.trans F.out hb2) hgl #[.int .i64 D.n, .map (some mo'), .slice A2 D.wt.length c2', .map (some mn'), .int .i64 0, kv', .bool false]
  try simp only [newD] at hst q3
  rw [← hst] at q3 f3
  have Q3 := Lib.hid q3
  have F3 := Lib.hid f3
  clear q3 f3 hst ho2 Q2 Q1 KC c0 c1 c2 c3 c4 c5 c6 fz d0 d1 d2 d3 d4 d5 d6 fz2 hb2 F
  try simp only [List.setIfInBounds_toArray, List.set_cons_zero, List.set_cons_succ]
  generalize w2.setCell ⟨g', 2, none⟩ (.slice A2 D.wt.length c2') = V at *
  have hV := h.ext F3.out
  have cc := blk7 hV.hg
  have cq := blk7 Q3.out.hg
  have hlV := (Array.getElem?_eq_some_iff.1 hV.hg).1
  have hlQ := (Array.getElem?_eq_some_iff.1 Q3.out.hg).1
  have e1 : ∀ ψ (e : ExtP V.heap.size V ψ), e.val.cell? ⟨g', 3, none⟩ = some (.map (some mn')) := fun ψ e => e.cell cq.2.2.2.1 hlQ
  have e2 : ∀ ψ (e : ExtP V.heap.size V ψ), e.val.cell? ⟨g, 3, none⟩ = some (.map (some mn)) := fun ψ e => e.cell cc.2.2.2.1 hlV
  clear cc cq
  have hmn : mn' ≠ mn := by have := Q3.out.bn; have := h.nw.lt; omega
  refine wp_region_pieces 8  [(true, [0, 1, 2, 3, 4, 5, 6, 7])] (by kernel_rfl) (by kernel_rfl) ?_; simp only [pick, List.map_cons, List.map_nil, List.flatMap_cons, List.flatMap_nil, Option.toList_some, List.singleton_append, List.drop_succ_cons, List.drop_zero, List.getElem?_cons_zero, List.getElem?_cons_succ]
  refine ⟨by kernel_rfl, ?_⟩; apply Exists.intro; refine ⟨fun ψ hψ hne => (by (repeat (go_big_quiet_step (( fail )))); exact wpQuiet_nil rfl), ?_⟩
  intro V' hx
  clear e1 e2
  have MC := Lib.hid (mcopy_any V' ((Q3.out.ext hx).nw.cong fun a => rfl) (hV.ext hx).nw hmn fun a v h => ixV_int h)
  go_upto_region 6 with (go_at_call 74; refine MC.out.mono ?_; rintro e w4 ⟨rfl, hm4, hM4⟩)
  have Q4 := Lib.hid ((Q3.out.ext hx).newest hM4 hm4)
  have F4 : Hid (Ext w w4) := Lib.hid (Below.trans (Ext.trans F3.out hx) (hM4.below (B := w.heap.size) (by rintro i rfl; exact Q3.out.bn) (Nat.le_trans F3.out.size hx.size)))
  clear MC hm4 hM4 hx Q3 F3 hV hlV hlQ
  have h4 := h.ext F4.out
  obtain ⟨kA, kc, rfl⟩ := h.kp.form
  have cc := blk7 h4.hg
  have hl4 := (Array.getElem?_eq_some_iff.1 h4.hg).1
  have hgg : ¬ g = g' := by omega
  have KC := Lib.hid fun w' (hw' : Mut (fun i => i = g') w4 w') => clone_bools D.keep w' (OwnR.rb (h4.kp.mutO hw' fun b hb e => by have := own_lt h.kp hb; omega)) hkl
  have e1 : ∀ ψ (e : ExtS (fun i => i = g') w4 ψ), e.val.cell? ⟨g, 4, none⟩ = some (.int .i64 D.cut) := fun ψ e => e.cell cc.2.2.2.2.1 hl4 hgg
  have e2 : ∀ ψ (e : ExtS (fun i => i = g') w4 ψ), e.val.cell? ⟨g, 5, none⟩ = some (.slice kA D.keep.length kc) := fun ψ e => e.cell cc.2.2.2.2.2.1 hl4 hgg
  clear cc
  try simp only [List.setIfInBounds_toArray, List.set_cons_zero, List.set_cons_succ]
  refine wp_region_piecesS (fun i => i = g') 14 [(true, [0, 1, 2, 3, 4, 5, 6, 7, 8, 9]), (false, [10]), (true, [11, 12]), (false, [13])] (by kernel_rfl) (by kernel_rfl) ?_; simp only [pick, List.map_cons, List.map_nil, List.flatMap_cons, List.flatMap_nil, Option.toList_some, List.singleton_append, List.drop_succ_cons, List.drop_zero, List.getElem?_cons_zero, List.getElem?_cons_succ]
  refine ⟨by kernel_rfl, ?_⟩; apply Exists.intro; refine ⟨fun ψ hψ hne => (by (repeat (go_big_quiet_step (( fail )))); exact wpQuiet_nil rfl), ?_⟩
  intro xa hxa K hK
  go_wp2_with (go_at_call 67; refine (KC.out _ (Mut.of_ext hxa)).mono ?_; rintro e xb ⟨v3, rfl, ho3, hb3⟩; obtain ⟨A3, c3', rfl⟩ := ho3.form)
  refine hK _ _ (Mut.of_ext hb3) ?_
  clear hK K e1 e2 KC
  refine ⟨by kernel_rfl, ?_⟩; apply Exists.intro; refine ⟨fun ψ hψ hne => (by (repeat (go_big_quiet_step (( fail )))); exact wpQuiet_nil rfl), ?_⟩
  intro xc hxc K hK
  have hX4 : Ext w4 xc := Ext.trans hxa (Ext.trans hb3 hxc)
  have Q5 := Lib.hid (Q4.out.ext hX4)
  have F5 := Lib.hid (Ext.trans F4.out hX4)
  obtain ⟨d0, d1, d2, d3, d4, d5, d6, fz2, hl5⟩ := blk7 Q5.out.hg
  have hst := set7_4 (.int .i64 D.cut) Q5.out.hg
  have q6 := Q5.out.cells (D' := { newD D.n D.on with wt := D.wt, cut := D.cut }) (.slice A2 D.wt.length c2') kv' rfl Q5.out.wt Q5.out.kp Q5.out.bw Q5.out.bk
  have f6 : Ext w (xc.setRow g' _) := below_setRow F5.out hgl #[.int .i64 D.n, .map (some mo'), .slice A2 D.wt.length c2', .map (some mn'), .int .i64 D.cut, kv', .bool false]
  have hM6 := mut_setRow (S := fun i => i = g') (w := xc) (g := g') rfl #[.int .i64 D.n, .map (some mo'), .slice A2 D.wt.length c2', .map (some mn'), .int .i64 D.cut, kv', .bool false]
  try simp only [newD] at q6
  rw [← hst] at q6 f6 hM6
  have ho4 := (ho3.ext hxc).mutO hM6 (fun b hb e => by
    obtain ⟨_, ⟨h1, _⟩ | ⟨g9, c9, junk, h1, hB, _, _⟩⟩ := ho3
    · rw [h1] at hb; simp [Value.ownBlock] at hb
    · rw [h1] at hb
      obtain rfl : g9 = b := by simpa [Value.ownBlock] using hb
      have := (Array.getElem?_eq_some_iff.1 Q4.out.hg).1
      have := hxa.size
      omega)
  have hB4 : ∀ b, (Value.slice A3 D.keep.length c3').ownBlock = some b → w.heap.size ≤ b := fun b hb => by
    obtain ⟨_, ⟨h1, _⟩ | ⟨g9, c9, junk, h1, hB, _, _⟩⟩ := ho3
    · rw [h1] at hb; simp [Value.ownBlock] at hb
    · rw [h1] at hb
      obtain rfl : g9 = b := by simpa [Value.ownBlock] using hb
      have := F4.out.size
      have := hxa.size
      omega
  have Q6 := Lib.hid q6
  have F6 := Lib.hid f6
  have O4 := Lib.hid ho4
  clear q6 f6 ho4 hst ho3 hb3 hxa hxc hX4 Q4 F4 Q5 F5 hl4 h4
  go_wp2_with fail
  refine hK _ _ hM6 ?_
  clear hK K hM6 d0 d1 d2 d3 d4 d5 d6 fz2 hl5
  generalize xc.setCell ⟨g', 4, none⟩ (.int .i64 D.cut) = xd at *
  intro y hy
  have Q7 := Lib.hid (Q6.out.ext hy)
  have F7 := Lib.hid (Ext.trans F6.out hy)
  have O7 := Lib.hid (O4.out.ext hy)
  have h7 := h.ext F7.out
  obtain ⟨-, -, -, -, -, -, s6, fs, -⟩ := blk7 h7.hg
  obtain ⟨d0, d1, d2, d3, d4, d5, d6, fz2, hl5⟩ := blk7 Q7.out.hg
  have hgg' : ¬ g' = g := fun e => hgg e.symm
  clear h7 Q6 F6 O4 hy
  go_wp2_with fail
  go_ret
  refine ⟨g', rfl, hgl, ?_⟩
  have e : ((y.setCell ⟨g', 5, none⟩ (.slice A3 D.keep.length c3')).setCell ⟨g', 6, none⟩ (.bool D.dead)) = y.setRow g' #[.int .i64 D.n, .map (some mo'), .slice A2 D.wt.length c2', .map (some mn'), .int .i64 D.cut, .slice A3 D.keep.length c3', .bool D.dead] := by
    rw [set7_5 _ Q7.out.hg]
    have h2 := setRow_heap y g' _ #[.int .i64 D.n, .map (some mo'), .slice A2 D.wt.length c2', .map (some mn'), .int .i64 D.cut, .slice A3 D.keep.length c3', .bool false] _ _ Q7.out.hg
    rw [setCell_eq_setRow _ g' 6 _ _ (0, 0) _ h2, setRow_setRow]
    rfl
  rw [e]
  exact ⟨(Q7.out.cells (D' := D) (.slice A2 D.wt.length c2') (.slice A3 D.keep.length c3') rfl Q7.out.wt (O7.out.mono (Nat.zero_le _)) Q7.out.bw hB4).at ok, below_setRow F7.out hgl _⟩
end Go.Proofs.Ytobcfocbglkicaa
