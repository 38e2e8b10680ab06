/- Maps from ints: delete, clone. Generic. -/
import Derived.Test.YtiihlbaajopllaaMapI
import Derived.Laws.Externs
set_option linter.unusedVariables false
set_option maxRecDepth 100000
namespace Go.Proofs.Ytiihlbaajopllaa
open Go.RowKit Go.MapKept Go.ChangeMaps

def del (F : Int → Option Value) (a : Int) : Int → Option Value := fun z => if z = a then none else F z
section
variable {P : Program} {t k e : TypeId}
theorem MapI.delete {w : World} {b : Nat} {F : Int → Option Value} (h : MapI w b F) (ht : P.underlying t = some (.map k e)) (hk : P.underlying k = some (.int .i64)) {a : Int} (hw : (Lit.int .i64 a).wf = true) (ty : TypeId) :
    ∃ w', (Builtin.delete_ #[t, k] ty #[.map (some b), .int .i64 a]).run P w = .ok (.tuple #[]) w' ∧ MapI w' b (del F a) ∧ w.grownBy w' (some b) := by
  obtain ⟨es, clock, hb, h⟩ := h
  have K := Maps.int_keyed hk
  have hkey := Maps.keyOf_int_mk hk hw
  have hkeys : ∀ x ∈ es.toList, ∃ l, keyOf P k x.key = some l := fun x hx => by
    obtain ⟨a', h1, h2, _⟩ := h.to x hx
    exact ⟨_, by rw [h1]; exact Maps.keyOf_int_mk hk h2⟩
  have hgrow : ∀ o, w.grownBy (setBlock w b o) (some b) := fun o => ⟨rfl, rfl, rfl, by simp [setBlock], fun i _ hi => heap_setBlock_other hb _ (fun e => hi (by rw [e]))⟩
  rcases K.find w hkey es.toList hkeys with ⟨h1, h2⟩ | ⟨j, e0, h1, h2, h3⟩
  · refine ⟨setBlock w b (.map es clock), ?_, ⟨_, _, heap_setBlock_same hb _, ⟨h.st, ?_, ?_⟩⟩, hgrow _⟩
    · simp [Builtin.delete_, run_underlying ht, MapKept.run_getObj_map hb, K.check w _ hkey, h1, MapKept.run_setObj_map _ hb, Result.andThen, setBlock]
    · intro x hx
      obtain ⟨a', h4, h5, h6⟩ := h.to x hx
      refine ⟨a', h4, h5, ?_⟩
      have : a' ≠ a := fun e => h2 x hx (by rw [h4, e])
      simp [del, this, h6]
    · intro z v hz
      unfold del at hz
      split at hz
      · cases hz
      · exact h.back z v hz
  · have hjl : j < es.toList.length := (List.getElem?_eq_some_iff.1 h2).1
    have hjs : j < es.size := by simpa using hjl
    have hsub : (es.eraseIdxIfInBounds j).toList = es.toList.eraseIdx j := by
      unfold Array.eraseIdxIfInBounds
      rw [dif_pos hjs]
      simp
    refine ⟨setBlock w b (.map (es.eraseIdxIfInBounds j) clock), ?_, ⟨_, _, heap_setBlock_same hb _, ⟨stamped_erase h.st j, ?_, ?_⟩⟩, hgrow _⟩
    · simp [Builtin.delete_, run_underlying ht, MapKept.run_getObj_map hb, K.check w _ hkey, h1, MapKept.run_setObj_map _ hb, Result.andThen, setBlock]
    · intro x hx
      rw [hsub] at hx
      obtain ⟨i, hne, hix⟩ := List.mem_eraseIdx_iff_getElem?.1 hx
      obtain ⟨a', h4, h5, h6⟩ := h.to x (List.mem_of_getElem? hix)
      refine ⟨a', h4, h5, ?_⟩
      have : a' ≠ a := fun e1 => key_apart h.st hix h2 hne (by rw [h4, h3, e1])
      simp [del, this, h6]
    · intro z v hz
      unfold del at hz
      split at hz
      · cases hz
      · rename_i hza
        obtain ⟨x, hx, h4, h5⟩ := h.back z v hz
        obtain ⟨i, hi, ex⟩ := List.getElem_of_mem hx
        have hij : i ≠ j := fun e1 => by
          subst e1
          have : e0 = x := by rw [List.getElem?_eq_getElem hi] at h2; rw [← ex]; exact (Option.some.inj h2).symm
          subst this
          rw [h3] at h4
          simp at h4
          exact hza h4.symm
        refine ⟨x, ?_, h4, h5⟩
        rw [hsub]
        exact List.mem_eraseIdx_iff_getElem?.2 ⟨i, hij, by rw [List.getElem?_eq_getElem hi, ex]⟩
variable {ops : Array Oper} {rest : List Oper} {o : Oper} {a : Act} {w w' : World} {Q : Exit → Act → World → Prop}
theorem wpList_del (hgd : o.guard = none) (m x : Operand) (t k : TypeId) (ho : o.op = .call { callee := .builtin .delete, args := #[m, x], argTypes := #[t, k] })
    (hr : (Builtin.delete_ #[t, k] o.type #[a.eval m, a.eval x]).run P w = .ok (.tuple #[]) w') (h : wpList P ops Q rest (a.put o.dst (.tuple #[])) w') : wpList P ops Q (o :: rest) a w :=
  wpList_plain hgd fun K hK => by
    unfold Oper.wp
    simp [execOp, ho, resolve, invoke, builtin, hr, Result.andThen]
    exact hK _ _ h
theorem run_equalIn_map_nil (w : World) (d : Nat) (t k e : TypeId) (p : Option Nat) (h : P.underlying t = some (.map k e)) : (Op.equalIn (d + 1) t (.map p) (.map none)).run P w = .ok p.isNone w := by
  cases p <;> simp [Op.equalIn, run_underlying h]
theorem run_eql_map_nil (w : World) (t k e : TypeId) (p : Option Nat) (h : P.underlying t = some (.map k e)) : (binOp .eql t (.map p) (.map none)).run P w = .ok (.bool p.isNone) w := by
  simp only [binOp]
  simp [show Op.equal t (.map p) (.map none) = Op.equalIn (9999 + 1) t (.map p) (.map none) from rfl, run_equalIn_map_nil w 9999 t k e p h]
theorem run_typeAssert_map (w : World) (t xT k e : TypeId) (v : Value) (h : P.underlying t = some (.map k e)) : (Instr.typeAssert (.iface t v) xT t false).run P w = .ok v w := by
  simp [Instr.typeAssert, run_underlying h, go_sem, Result.andThen]
theorem run_maps_clone (w : World) {r : Nat} {es : Array MapEntry} {clock : Nat} (t : TypeId) (hb : w.heap[r]? = some (.map es clock)) :
    (Extern.MapsClone.clone #[.iface t (.map (some r))]).run P w = .ok (.iface t (.map (some w.heap.size))) (w.alloc (.map es clock)) := by
  have e : Extern.MapsClone.clone #[.iface t (.map (some r))] = (getObj r >>= fun o => match o with
      | .map entries clock => (newObj (.map entries clock) >>= fun n => pure (.iface t (.map (some n))))
      | _ => stuck "maps.clone: a map expected") := rfl
  rw [e]
  simp [MapKept.run_getObj_map hb, Result.andThen, go_sem]
end
end Go.Proofs.Ytiihlbaajopllaa
