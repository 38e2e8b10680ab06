/- Walks of maps.Clone, maps.Copy, slices.Clone over a disk's rows and maps. -/
import Derived.Test.YtobcfocbglkicaaDkH
import Derived.Laws.Externs
set_option linter.unusedVariables false
set_option maxRecDepth 100000
namespace Go.Proofs.Ytobcfocbglkicaa
open Go.RowKit Go.MapKept Go.ChangeMaps

section
variable {P : Program}
theorem run_equalIn_map_nil (w : World) (d : Nat) (t k e : TypeId) (p : Option Nat) (h : P.underlying t = some (.map k e)) : (Op.equalIn (d + 1) t (.map p) (.map none)).run P w = .ok p.isNone w := by
  cases p <;> simp [Op.equalIn, run_underlying h]
theorem run_eql_map_nil (w : World) (t k e : TypeId) (p : Option Nat) (h : P.underlying t = some (.map k e)) : (binOp .eql t (.map p) (.map none)).run P w = .ok (.bool p.isNone) w := by
  simp only [binOp]
  simp [show Op.equal t (.map p) (.map none) = Op.equalIn (9999 + 1) t (.map p) (.map none) from rfl, run_equalIn_map_nil w 9999 t k e p h]
theorem run_typeAssert_map (w : World) (t xT k e : TypeId) (v : Value) (h : P.underlying t = some (.map k e)) : (Instr.typeAssert (.iface t v) xT t false).run P w = .ok v w := by
  simp [Instr.typeAssert, run_underlying h, go_sem, Result.andThen]
theorem run_maps_clone (w : World) {r : Nat} {es : Array MapEntry} {clock : Nat} (t : TypeId) (hb : w.heap[r]? = some (.map es clock)) :
    (Extern.MapsClone.clone #[.iface t (.map (some r))]).run P w = .ok (.iface t (.map (some w.heap.size))) (w.alloc (.map es clock)) := by
  have e : Extern.MapsClone.clone #[.iface t (.map (some r))] = (getObj r >>= fun o => match o with
      | .map entries clock => (newObj (.map entries clock) >>= fun n => pure (.iface t (.map (some n))))
      | _ => stuck "maps.clone: a map expected") := rfl
  rw [e]
  simp [MapKept.run_getObj_map hb, Result.andThen, go_sem]
variable {ops : Array Oper} {rest : List Oper} {o : Oper} {a : Act} {w : World} {Q : Exit → Act → World → Prop}
theorem wpList_rg (hg : o.guard = none) (m : Operand) (t : TypeId) (hop : o.op = Op.range t m) {b : Nat} {v : Value} {w' : World} (hm : a.eval m = .map (some b)) (hr : (Instr.range t (.map (some b))).run P w = .ok v w') (h : wpList P ops Q rest (a.put o.dst v) w') :
    wpList P ops Q (o :: rest) a w :=
  wpList_plain hg fun K hK => by unfold Oper.wp; simp [execOp, hop, hm, hr, Result.andThen]; exact hK _ _ h
theorem wpList_nx {b r cnt : Nat} {F : Int → Option Value} {left : Int → Bool} (hg : o.guard = none) (it : Operand) (hop : o.op = Op.next it false) (hit : a.eval it = .pointer (some ⟨r, 0, none⟩)) (h : RangI w b r F left cnt)
    (hDone : (∀ a v, F a = some v → left a = false) → wpList P ops Q rest (a.put o.dst (.tuple #[.bool false])) w)
    (hMore : ∀ x v w' cnt', (Lit.int .i64 x).wf = true → F x = some v → RangI w' b r F (fun z => left z && !decide (z = x)) cnt' → cnt' < cnt → w.grownBy w' (some r) → w'.heap.size = w.heap.size → (Instr.entry (.pointer (some ⟨r, 0, none⟩))).run P w' = .ok (.tuple #[.int .i64 x, v]) w' →
      wpList P ops Q rest (a.put o.dst (.tuple #[.bool true, .int .i64 x, v])) w') : wpList P ops Q (o :: rest) a w := by
  refine wpList_plain hg fun K' hK' => ?_
  unfold Oper.wp
  rcases h.next (P := P) o.type with ⟨hl, hrun⟩ | ⟨x, v, w', cnt', hwf, hF, hrun, hrg, hlt, hgr, hsz, hen⟩
  · simp [execOp, hop, hit, hrun, Result.andThen]
    exact hK' _ _ (hDone hl)
  · simp [execOp, hop, hit, hrun, Result.andThen]
    exact hK' _ _ (hMore x v w' cnt' hwf hF hrg hlt hgr hsz hen)
end

set_option maxHeartbeats 2000000 in
theorem mclone_any {mo : Nat} {F : Int → Option Value} (w : World) (h : MapI w mo F) :
    Calls Try.prog 72 #[.map (some mo)] w fun e w' => e = .returned (.map (some w.heap.size)) ∧ MapI w' w.heap.size F ∧ Ext w w' := by
  obtain ⟨es, clock, hb, he⟩ := h
  have hq := fun w => run_eql_map_nil (P := Try.prog) w 100 _ _ (some mo) Try.underlying100
  simp only [Option.isNone_some] at hq
  go_enter Try.func72, Try.ntmps72
  go_wp2
  rw [run_callFunc_extern Try.func90 (by kernel_rfl) (by kernel_rfl) (by kernel_rfl) (e := Extern.MapsClone.clone) (by kernel_rfl), run_maps_clone w 100 hb]
  simp only [Result.andThen]
  rw [Oper.upon_value]
  go_wp2
  rw [run_typeAssert_map _ 100 _ _ _ _ Try.underlying100]
  simp only [Result.andThen]
  rw [Oper.upon_value]
  go_wp2
  go_ret
  exact ⟨rfl, ⟨es, clock, heap_alloc_last _ _, he⟩, extAl w _⟩

set_option maxHeartbeats 1000000 in
theorem clone_wrs {v : Value} (l : List Wr) (w : World) (h : OwnR w 0 107 513 One v l.length (wcs l)) (hl : l.length ≤ 1000000) :
    Calls Try.prog 73 #[v] w fun e w' => ∃ v', e = .returned v' ∧ OwnR w' w.heap.size 107 513 One v' l.length (wcs l) ∧ Below w.heap.size w w' := by
  have hf := h.form
  obtain ⟨A, c, rfl⟩ := hf
  have hq := fun w => run_eql_slice_nil (P := Try.prog) w 101 _ A l.length c Try.underlying101
  have ho := alloc_row0 w 107 w.heap.size 513 One (Nat.le_refl _)
  have hs := (h.ext (extAl w (.cells #[] 107))).src (P := Try.prog) (tx := 101) Try.underlying101 (wcs_one l)
  obtain ⟨v', w1, hr, ho1, hb, -, -⟩ := app_wr (tx := 101) (ty := 101) ho hs (by simp) (wcs_one l) (by omega)
  have hb' : Below w.heap.size w w1 := Below.trans (extAl w _) hb
  simp only [Nat.zero_add, List.nil_append] at ho1
  cases A with
  | none =>
    have h0 : l = [] := by
      cases l with
      | nil => rfl
      | cons p l =>
        obtain ⟨_, ⟨_, h0⟩ | ⟨g, c', junk, hv, _⟩⟩ := h
        · simp at h0
        · simp at hv
    subst h0
    simp only [Option.isNone_none, List.length_nil] at hq
    go_enter Try.func73, Try.ntmps73
    go_wp2
    go_ret
    exact ⟨_, rfl, OwnR.nil, by (repeat' (first | (with_reducible assumption) | (with_reducible exact Below.refl _ _) | (with_reducible refine below_sc ?_ ?_) | ((with_reducible show (_ : Nat) ≤ _); omega) | refine Below.setCell ?_ (by first | omega | (simp; done) | (simp; omega)) _ | refine Below.alloc ?_ (by first | omega | (simp; done) | (simp; omega)) _ | refine Below.drew ?_ | refine below_drewN ?_ _ | refine Below.trans ?_ (Below.mono (by assumption) (by first | omega | (simp; done) | (simp; omega)))))⟩
  | some a =>
    have Hr := Lib.hid hr
    simp only [Option.isNone_some] at hq
    clear hr hs ho
    go_enter Try.func73, Try.ntmps73
    go_wp2_with (refine wpList_app rfl (.tmp 5) (.tmp 6) 101 101 rfl Hr.out ?_; simp only [Act.put])
    go_ret
    exact ⟨_, rfl, ho1, hb'⟩

set_option maxHeartbeats 2000000 in
theorem mcopy_any {bd bs : Nat} {F : Int → Option Value} (w : World) (hd : MapI w bd fun _ => none) (hs : MapI w bs F) (hne : bd ≠ bs) (hF : ∀ a v, F a = some v → ∃ i, v = .int .i64 i) :
    Calls Try.prog 74 #[.map (some bd), .map (some bs)] w fun e w' => e = .returned (.tuple #[]) ∧ MapI w' bd F ∧ Mut (fun i => i = bd) w w' := by
  have hbd := hd.lt
  have hbs := hs.lt
  obtain ⟨w0, cnt0, hrun, hrg0, hx0, hsz0⟩ := hs.range (P := Try.prog) (t := 102) Try.underlying102
  have Hrun := Lib.hid hrun
  have Hd0 := Lib.hid (hd.ext hx0)
  have Hx0 := Lib.hid hx0
  have Hrg0 := Lib.hid hrg0
  clear hrun hd hs hx0 hrg0 hsz0
  go_enter Try.func74, Try.ntmps74
  go_wp2_with (refine wpList_rg rfl (.tmp 6) 102 rfl rfl Hrun.out ?_)
  go_frame
  go_loopw [8] (fun _ wr => ∃ (left : Int → Bool) (cnt : Nat), Hid (RangI wr bs w.heap.size F left cnt) ∧ Hid (MapI wr bd (fun a => if left a = true then none else F a)) ∧ Hid (Mut (fun i => i = bd) w wr)) (fun _ wr => wr.rangeLeft bs w.heap.size)
  case atStart => exact ⟨_, _, Hrg0, Lib.hid (Hd0.out.cong fun a => rfl), Lib.hid (Mut.of_ext Hx0.out)⟩
  case round =>
    obtain ⟨left, cnt, hrg, hout, hgw⟩ := hrel
    go_wp2_with (refine wpList_nx rfl (.tmp 7) rfl rfl hrg.out ?_ ?_)
    · intro hl0
      try go_frame
      go_wp2
      go_end0
      exact ⟨rfl, hout.out.cong fun a => by
        cases h : F a with
        | none => simp
        | some v => simp [hl0 a v h], hgw.out⟩
    · intro x v w1 cnt1 hwf hFx hrg1 hlt hg1 hs1 hen
      obtain ⟨i, rfl⟩ := hF x v hFx
      try go_frame
      have hM1 : Mut (fun i => i = w.heap.size) wr w1 := Mut.of_grown hg1 fun b hb => by simpa using hb.symm
      have hout1 := hout.out.mut hM1 (fun e => by omega)
      obtain ⟨w2, hr2, hm2, hg2⟩ := hout1.update (P := Try.prog) (t := 102) Try.underlying102 Try.underlying3 hwf (.int .i64 i)
      have hM2 : Mut (fun i => i = bd) w1 w2 := Mut.of_grown hg2 fun b hb => by simpa using hb.symm
      have hrg2 := Lib.hid (hrg1.mut hM2 (fun e => hne e.symm) (fun e => by omega))
      have hfin := Lib.hid (hm2.cong (G := fun a => if (left a && !decide (a = x)) = true then none else F a) fun a => by
        unfold upd
        by_cases e : a = x
        · subst e; simp [hFx]
        · simp [e])
      have hgw2 : Hid (Mut (fun i => i = bd) w w2) := Lib.hid ⟨hM2.os.trans (hM1.os.trans hgw.out.os), hM2.tape.trans (hM1.tape.trans hgw.out.tape), hM2.output.trans (hM1.output.trans hgw.out.output), Nat.le_trans hgw.out.size (Nat.le_trans hM1.size hM2.size), fun i hi hn =>
        (hM2.block i (Nat.lt_of_lt_of_le hi (Nat.le_trans hgw.out.size hM1.size)) hn).trans ((hM1.block i (Nat.lt_of_lt_of_le hi hgw.out.size) (by omega)).trans (hgw.out.block i hi hn))⟩
      have Hr2 := Lib.hid hr2
      have hcl := hrg.out.left_eq
      have hcl2 := hrg2.out.left_eq
      clear hr2 hm2 hg2 hM1 hM2 hout1 hrg1 hout hgw hg1 hs1
      go_wp2_with (refine wpList_mu rfl 102 (.tmp 13) (.tmp 14) (.tmp 15) rfl Hr2.out ?_; simp only [Act.put])
      go_roundw
      case rel => exact ⟨_, cnt1, hrg2, hfin, hgw2⟩
      case measure => rw [hcl, hcl2]; exact hlt
end Go.Proofs.Ytobcfocbglkicaa
