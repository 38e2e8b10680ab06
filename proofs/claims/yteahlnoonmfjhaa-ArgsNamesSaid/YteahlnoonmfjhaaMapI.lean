/- Generic: maps from ints, told by what stands at which key; the loop over one. No statement of its own. -/
import Derived.Test.YteahlnoonmfjhaaRowz
import Derived.Test.YteahlnoonmfjhaaCalmS
import Derived.Maps.Keyed
import Derived.Maps.RangeRun
import Derived.Maps.RangeWalk
set_option linter.unusedVariables false
set_option maxRecDepth 100000
namespace Go.Proofs.Yteahlnoonmfjhaa
open Go.RowKit Go.MapKept Go.ChangeMaps

/-- Entries under int keys: F says what stands at which key. -/
structure EntsI (es : Array MapEntry) (clock : Nat) (F : Int → Option Value) : Prop where
  st : Stamped es clock
  to : ∀ x ∈ es.toList, ∃ a, x.key = .int .i64 a ∧ (Lit.int .i64 a).wf = true ∧ F a = some x.val
  back : ∀ a v, F a = some v → ∃ x ∈ es.toList, x.key = .int .i64 a ∧ x.val = v
/-- Block b of w is such a map. -/
def MapI (w : World) (b : Nat) (F : Int → Option Value) : Prop := ∃ es clock, w.heap[b]? = some (.map es clock) ∧ EntsI es clock F
theorem MapI.lt {w : World} {b : Nat} {F : Int → Option Value} (h : MapI w b F) : b < w.heap.size := by
  obtain ⟨es, clock, hb, _⟩ := h
  exact (Array.getElem?_eq_some_iff.1 hb).1
theorem MapI.of_block {w w' : World} {b : Nat} {F : Int → Option Value} (h : MapI w b F) (k : w'.heap[b]? = w.heap[b]?) : MapI w' b F := by
  obtain ⟨es, clock, hb, h⟩ := h
  exact ⟨es, clock, k.trans hb, h⟩
theorem MapI.mut {S : Nat → Prop} {w w' : World} {b : Nat} {F : Int → Option Value} (h : MapI w b F) (k : Mut S w w') (hn : ¬ S b) : MapI w' b F := h.of_block (k.block b h.lt hn)
theorem MapI.ext {w w' : World} {b : Nat} {F : Int → Option Value} (h : MapI w b F) (k : Ext w w') : MapI w' b F := h.of_block (k.block b h.lt)
theorem MapI.cong {w : World} {b : Nat} {F G : Int → Option Value} (h : MapI w b F) (k : ∀ a, F a = G a) : MapI w b G := by
  have : F = G := funext k
  rw [← this]; exact h
theorem mapI_made (w : World) : MapI (w.alloc (.map #[] 0)) w.heap.size (fun _ => none) :=
  ⟨#[], 0, (MapKept.heap_alloc w _).1, ⟨stamped_empty 0, by simp, by simp⟩⟩
def upd (F : Int → Option Value) (a : Int) (v : Value) : Int → Option Value := fun z => if z = a then some v else F z

theorem key_apart {es : Array MapEntry} {clock : Nat} (h : Stamped es clock) {i j : Nat} {x y : MapEntry} (hi : es.toList[i]? = some x) (hj : es.toList[j]? = some y) (hne : i ≠ j) : x.key ≠ y.key := by
  have hp := ((stamped_iff es clock).1 h).2.2
  rw [List.pairwise_iff_getElem] at hp
  obtain ⟨hi', rfl⟩ := List.getElem?_eq_some_iff.1 hi
  obtain ⟨hj', rfl⟩ := List.getElem?_eq_some_iff.1 hj
  rcases Nat.lt_or_gt_of_ne hne with h | h
  · exact hp _ _ hi' hj' h
  · exact (hp _ _ hj' hi' h).symm
theorem entsI_uniq {es : Array MapEntry} {clock : Nat} {F : Int → Option Value} (h : EntsI es clock F) {x : MapEntry} {a : Int} (hx : x ∈ es.toList) (hk : x.key = .int .i64 a) : (Lit.int .i64 a).wf = true ∧ F a = some x.val := by
  obtain ⟨a', h1, h2, h3⟩ := h.to x hx
  rw [hk] at h1
  simp only [Value.int.injEq, true_and] at h1
  subst h1
  exact ⟨h2, h3⟩

section
variable {P : Program} {t k e : TypeId}
theorem MapI.update {w : World} {b : Nat} {F : Int → Option Value} (h : MapI w b F) (ht : P.underlying t = some (.map k e)) (hk : P.underlying k = some (.int .i64)) {a : Int} (hw : (Lit.int .i64 a).wf = true) (val : Value) :
    ∃ w', (Instr.mapUpdate t (.map (some b)) (.int .i64 a) val).run P w = .ok () w' ∧ MapI w' b (upd F a val) ∧ w.grownBy w' (some b) := by
  obtain ⟨es, clock, hb, h⟩ := h
  have K := Maps.int_keyed hk
  have hkey := Maps.keyOf_int_mk hk hw
  have hkeys : ∀ x ∈ es.toList, ∃ l, keyOf P k x.key = some l := fun x hx => by
    obtain ⟨a', h1, h2, _⟩ := h.to x hx
    exact ⟨_, by rw [h1]; exact Maps.keyOf_int_mk hk h2⟩
  have hgrow : ∀ o, w.grownBy (setBlock w b o) (some b) := fun o => ⟨rfl, rfl, rfl, by simp [setBlock], fun i _ hi => heap_setBlock_other hb _ (fun e => hi (by rw [e]))⟩
  rcases K.find w hkey es.toList hkeys with ⟨h1, h2⟩ | ⟨j, e0, h1, h2, h3⟩
  · refine ⟨setBlock w b (.map (es.push ⟨.int .i64 a, val, clock⟩) (clock + 1)), ?_, ⟨_, _, heap_setBlock_same hb _, stamped_push h.st h2, ?_, ?_⟩, hgrow _⟩
    · simp [Instr.mapUpdate, run_underlying ht, MapKept.run_getObj_map hb, K.check w false hkey, h1, MapKept.run_setObj_map _ hb, Result.andThen, setBlock]
    · intro x hx
      simp only [Array.toList_push, List.mem_append, List.mem_singleton] at hx
      rcases hx with hx | rfl
      · obtain ⟨a', h4, h5, h6⟩ := h.to x hx
        refine ⟨a', h4, h5, ?_⟩
        have : a' ≠ a := fun e => h2 x hx (by rw [h4, e])
        simp [upd, this, h6]
      · exact ⟨a, rfl, hw, by simp [upd]⟩
    · intro z v hz
      simp only [Array.toList_push, List.mem_append, List.mem_singleton]
      unfold upd at hz
      split at hz
      · rename_i e1
        subst e1
        exact ⟨_, .inr rfl, rfl, by simpa using hz⟩
      · obtain ⟨x, hx, h4, h5⟩ := h.back z v hz
        exact ⟨x, .inl hx, h4, h5⟩
  · have hj : es[j]? = some e0 := by simpa using h2
    have hjl : j < es.toList.length := (List.getElem?_eq_some_iff.1 h2).1
    have hlist : (es.modify j (fun e' => { e' with key := .int .i64 a, val := val })).toList = es.toList.set j { e0 with key := .int .i64 a, val := val } := by rw [Array.toList_modify, modify_eq_set _ _ _ _ h2]
    refine ⟨setBlock w b (.map (es.modify j (fun e' => { e' with key := .int .i64 a, val := val })) clock), ?_, ⟨_, _, heap_setBlock_same hb _, stamped_modify h.st _ _ (fun _ _ => rfl) (fun e' _ he' => by rw [hj] at he'; cases he'; exact h3.symm), ?_, ?_⟩, hgrow _⟩
    · simp [Instr.mapUpdate, run_underlying ht, MapKept.run_getObj_map hb, K.check w false hkey, h1, hj, h3, K.stays w hkey, MapKept.run_setObj_map _ hb, Result.andThen, setBlock]
    · intro x hx
      rw [hlist] at hx
      obtain ⟨i, hi, ex⟩ := List.getElem_of_mem hx
      rw [List.getElem_set] at ex
      split at ex
      · subst ex
        exact ⟨a, rfl, hw, by simp [upd]⟩
      · rename_i hne
        have hi' : i < es.toList.length := by simpa using hi
        have hix : es.toList[i]? = some x := by rw [List.getElem?_eq_getElem hi', ex]
        obtain ⟨a', h4, h5, h6⟩ := h.to x (List.mem_of_getElem? hix)
        refine ⟨a', h4, h5, ?_⟩
        have : a' ≠ a := fun e1 => key_apart h.st hix h2 (fun e2 => hne e2.symm) (by rw [h4, h3, e1])
        simp [upd, this, h6]
    · intro z v hz
      rw [hlist]
      unfold upd at hz
      split at hz
      · rename_i e1
        subst e1
        exact ⟨{ e0 with key := .int .i64 z, val := val }, List.mem_iff_getElem.2 ⟨j, by simpa using hjl, by simp⟩, rfl, by simpa using hz⟩
      · rename_i hza
        obtain ⟨x, hx, h4, h5⟩ := h.back z v hz
        obtain ⟨i, hi, ex⟩ := List.getElem_of_mem hx
        have hij : j ≠ i := fun e1 => by
          subst e1
          have : e0 = x := by rw [List.getElem?_eq_getElem hi] at h2; rw [← ex]; exact (Option.some.inj h2).symm
          subst this
          rw [h3] at h4
          simp at h4
          exact hza h4.symm
        exact ⟨x, List.mem_iff_getElem.2 ⟨i, by simpa using hi, by rw [List.getElem_set_ne hij]; exact ex⟩, h4, h5⟩

theorem MapI.look {w : World} {b : Nat} {F : Int → Option Value} (h : MapI w b F) (c : Bool) (ht : P.underlying t = some (.map k e)) (hk : P.underlying k = some (.int .i64)) {z : Value} (hz : (zeroValue e).run P w = .ok z w) {a : Int} (hw : (Lit.int .i64 a).wf = true) :
    (Instr.lookup t (.map (some b)) (.int .i64 a) c).run P w = .ok (if c then .tuple #[(F a).getD z, .bool (F a).isSome] else (F a).getD z) w := by
  obtain ⟨es, clock, hb, h⟩ := h
  have K := Maps.int_keyed hk
  have hkey := Maps.keyOf_int_mk hk hw
  have hkeys : ∀ x ∈ es.toList, ∃ l, keyOf P k x.key = some l := fun x hx => by
    obtain ⟨a', h1, h2, _⟩ := h.to x hx
    exact ⟨_, by rw [h1]; exact Maps.keyOf_int_mk hk h2⟩
  rcases K.find w hkey es.toList hkeys with ⟨h1, h2⟩ | ⟨j, e0, h1, h2, h3⟩
  · have hF : F a = none := by
      cases hFa : F a with
      | none => rfl
      | some v =>
        obtain ⟨x, hx, h4, _⟩ := h.back a v hFa
        exact absurd h4 (h2 x hx)
    simp [Instr.lookup, run_underlying ht, MapKept.run_getObj_map hb, K.check w _ hkey, h1, hz, Result.andThen, hF]
  · have hF := (entsI_uniq h (List.mem_of_getElem? h2) h3).2
    simp [Instr.lookup, run_underlying ht, MapKept.run_getObj_map hb, K.check w _ hkey, h1, Result.andThen, hF]

theorem MapI.clear {w : World} {b : Nat} {F : Int → Option Value} (h : MapI w b F) {d : TypeDesc} (ht : P.underlying t = some d) :
    ∃ w', (∀ ty, (Builtin.clear_ #[t] ty #[.map (some b)]).run P w = .ok (.tuple #[]) w') ∧ MapI w' b (fun _ => none) ∧ w.grownBy w' (some b) := by
  obtain ⟨es, clock, hb, h⟩ := h
  refine ⟨setBlock w b (.map #[] clock), fun ty => ?_, ⟨_, _, heap_setBlock_same hb _, stamped_empty _, by simp, by simp⟩, ⟨rfl, rfl, rfl, by simp [setBlock], fun i _ hi => heap_setBlock_other hb _ (fun e => hi (by rw [e]))⟩⟩
  cases d <;> simp [Builtin.clear_, run_underlying ht, MapKept.run_getObj_map hb, MapKept.run_setObj_map _ hb, Result.andThen, setBlock]

/-- The loop over a map under way: left says what is still to come. -/
def RangI (w : World) (b r : Nat) (F : Int → Option Value) (left : Int → Bool) (cnt : Nat) : Prop :=
  ∃ es clock since seen c0, w.heap[b]? = some (.map es clock) ∧ EntsI es clock F ∧ w.heap[r]? = some (.mapIter (some b) since seen c0) ∧ (∀ x ∈ es.toList, x.born < since) ∧ (leftOf es seen).size = cnt ∧
    (∀ x ∈ es.toList, ∀ a, x.key = .int .i64 a → left a = !seen.contains x.born) ∧ since ≤ c0 ∧ since ≤ clock
theorem RangI.left_eq {w : World} {b r cnt : Nat} {F : Int → Option Value} {left : Int → Bool} (h : RangI w b r F left cnt) : w.rangeLeft b r = cnt := by
  obtain ⟨es, clock, since, seen, c0, hb, _, hr, _, hc, _⟩ := h
  simp only [World.rangeLeft, hb, hr]
  exact hc
theorem RangI.map {w : World} {b r cnt : Nat} {F : Int → Option Value} {left : Int → Bool} (h : RangI w b r F left cnt) : MapI w b F := by
  obtain ⟨es, clock, since, seen, c0, hb, h, _⟩ := h
  exact ⟨es, clock, hb, h⟩
theorem RangI.lt {w : World} {b r cnt : Nat} {F : Int → Option Value} {left : Int → Bool} (h : RangI w b r F left cnt) : b < w.heap.size ∧ r < w.heap.size ∧ r ≠ b := by
  obtain ⟨es, clock, since, seen, c0, hb, _, hr, _⟩ := h
  refine ⟨(Array.getElem?_eq_some_iff.1 hb).1, (Array.getElem?_eq_some_iff.1 hr).1, fun e => ?_⟩
  rw [e, hb] at hr
  cases hr
theorem RangI.mut {S : Nat → Prop} {w w' : World} {b r cnt : Nat} {F : Int → Option Value} {left : Int → Bool} (h : RangI w b r F left cnt) (k : Mut S w w') (hb' : ¬ S b) (hr' : ¬ S r) : RangI w' b r F left cnt := by
  have hl := h.lt
  obtain ⟨es, clock, since, seen, c0, hb, h, hr, hh⟩ := h
  exact ⟨es, clock, since, seen, c0, (k.block b hl.1 hb').trans hb, h, (k.block r hl.2.1 hr').trans hr, hh⟩
theorem MapI.range {w : World} {b : Nat} {F : Int → Option Value} (h : MapI w b F) (ht : P.underlying t = some (.map k e)) :
    ∃ w' cnt, (Instr.range t (.map (some b))).run P w = .ok (.pointer (some ⟨w.heap.size, 0, none⟩)) w' ∧ RangI w' b w.heap.size F (fun _ => true) cnt ∧ Ext w w' ∧ w'.heap.size = w.heap.size + 1 := by
  have hlt := h.lt
  obtain ⟨es, clock, hb, h⟩ := h
  exact ⟨_, _, run_range_map w t k e b es clock ht hb, ⟨es, clock, clock, #[], clock, ((MapKept.heap_alloc w _).2 b hlt).trans hb, h, (MapKept.heap_alloc w _).1, h.st.1, rfl, fun _ _ _ _ => by simp, Nat.le_refl _, Nat.le_refl _⟩, (Below.refl _ w).alloc (Nat.le_refl _) _, by simp⟩
theorem RangI.next {w : World} {b r cnt : Nat} {F : Int → Option Value} {left : Int → Bool} (h : RangI w b r F left cnt) (ty : TypeId) :
    ((∀ a v, F a = some v → left a = false) ∧ (Instr.next (.pointer (some ⟨r, 0, none⟩)) false ty).run P w = .ok (.tuple #[.bool false]) w) ∨
    ∃ a v w' cnt', (Lit.int .i64 a).wf = true ∧ F a = some v ∧ (Instr.next (.pointer (some ⟨r, 0, none⟩)) false ty).run P w = .ok (.tuple #[.bool true, .int .i64 a, v]) w' ∧
      RangI w' b r F (fun z => left z && !decide (z = a)) cnt' ∧ cnt' < cnt ∧ w.grownBy w' (some r) ∧ w'.heap.size = w.heap.size ∧ (Instr.entry (.pointer (some ⟨r, 0, none⟩))).run P w' = .ok (.tuple #[.int .i64 a, v]) w' := by
  have hne := h.lt.2.2
  obtain ⟨es, clock, since, seen, c0, hb, h, hr, hold, rfl, hl, hsc, hsk⟩ := h
  rcases run_next_at (P := P) w ty r b since c0 seen es clock hr hb hold hsc with ⟨h0, hrun⟩ | ⟨x0, he, w1, hal, hrun⟩
  · refine .inl ⟨fun a v hav => ?_, hrun⟩
    obtain ⟨x, hx, h4, _⟩ := h.back a v hav
    rw [hl x hx a h4, all_seen es seen h0 x hx]
    rfl
  · obtain ⟨hem, hes⟩ := mem_left he
    obtain ⟨a, hka, hwa, hFa⟩ := h.to x0 hem
    have hr1 : w1.heap[r]? = some (.mapIter (some b) since seen c0) := by rcases hal with rfl | rfl <;> exact hr
    have hb1 : w1.heap[b]? = some (.map es clock) := by rcases hal with rfl | rfl <;> exact hb
    have hset := heap_set (o' := .mapIter (some b) since (seen.push x0.born) clock) hr1
    have hb' : (setBlock w1 r (.mapIter (some b) since (seen.push x0.born) clock)).heap[b]? = some (.map es clock) := (hset.2 b (fun e1 => hne e1.symm)).trans hb1
    have hen := run_entry_at (P := P) _ r b since seen es clock x0 hset.1 hb' hem ((stamped_iff es clock).1 h.st).2.1
    rw [hka] at hrun hen
    refine .inr ⟨a, x0.val, _, _, hwa, hFa, hrun, ⟨es, clock, since, seen.push x0.born, clock, hb', h, hset.1, hold, rfl, fun x hx a' hka' => ?_, hsk, hsk⟩, left_shrinks es seen x0 he, ?_, ?_, hen⟩
    · show (left a' && !decide (a' = a)) = _
      rw [hl x hx a' hka', contains_push]
      have : (x.born == x0.born) = decide (a' = a) := by
        by_cases hab : a' = a
        · have hxx : x = x0 := by
            obtain ⟨i, hi⟩ := List.getElem?_of_mem hx
            obtain ⟨j, hj⟩ := List.getElem?_of_mem hem
            by_cases hij : i = j
            · rw [hij, hj] at hi; exact (Option.some.inj hi).symm
            · exact absurd (by rw [hka', hka, hab]) (key_apart h.st hi hj hij)
          simp [hab, hxx]
        · have hbb : x.born ≠ x0.born := fun hbe => by
            have := born_inj ((stamped_iff es clock).1 h.st).2.1 hx hem hbe
            subst this
            rw [hka] at hka'
            simp at hka'
            exact hab hka'.symm
          simp [hab, hbb]
      rw [this]
      cases seen.contains x.born <;> cases decide (a' = a) <;> rfl
    · rcases hal with rfl | rfl <;> exact ⟨rfl, rfl, rfl, by simp [setBlock], fun i _ hi => hset.2 i (fun e1 => hi (by rw [e1]))⟩
    · rcases hal with rfl | rfl <;> simp [setBlock]
end

/-! Operations on maps, by what their run is known to be. -/
section
variable {P : Program} {ops : Array Oper} {rest : List Oper} {o : Oper} {a : Act} {w w' : World} {Q : Exit → Act → World → Prop}
theorem wpList_mu (hgd : o.guard = none) (t : TypeId) (m x v : Operand) (ho : o.op = .mapUpdate t m x v) (hr : (Instr.mapUpdate t (a.eval m) (a.eval x) (a.eval v)).run P w = .ok () w')
    (h : wpList P ops Q rest (a.put o.dst undef) w') : wpList P ops Q (o :: rest) a w :=
  wpList_plain hgd fun K hK => by unfold Oper.wp; simp [execOp, ho, hr, Result.andThen]; exact hK _ _ h
theorem wpList_lk (hgd : o.guard = none) (t : TypeId) (m x : Operand) (c : Bool) (ho : o.op = .lookup t m x c) {v : Value} (hr : (Instr.lookup t (a.eval m) (a.eval x) c).run P w = .ok v w)
    (h : wpList P ops Q rest (a.put o.dst v) w) : wpList P ops Q (o :: rest) a w :=
  wpList_plain hgd fun K hK => by unfold Oper.wp; simp [execOp, ho, hr, Result.andThen]; exact hK _ _ h
theorem quiet_lk {C : World → Prop} {K : Act → Prop} (t : TypeId) (m x : Operand) (c : Bool) (ho : o.op = .lookup t m x c) {v : Value} (hr : ∀ w, C w → (Instr.lookup t (a.eval m) (a.eval x) c).run P w = .ok v w)
    (hk : K (a.put o.dst v)) : o.quiet P a C K :=
  ⟨v, fun w hw => by unfold Oper.quietAt execOp; simp only [ho, Sem.run_bind, hr w hw, Result.andThen_ok, Sem.run_pure]; exact ⟨rfl, rfl⟩, hk⟩
theorem wpList_clr (hgd : o.guard = none) (m : Operand) (t : TypeId) (ho : o.op = .call { callee := .builtin .clear, args := #[m], argTypes := #[t] })
    (hr : (Builtin.clear_ #[t] o.type #[a.eval m]).run P w = .ok (.tuple #[]) w') (h : wpList P ops Q rest (a.put o.dst (.tuple #[])) w') : wpList P ops Q (o :: rest) a w :=
  wpList_plain hgd fun K hK => by
    unfold Oper.wp
    simp [execOp, ho, resolve, invoke, builtin, hr, Result.andThen]
    exact hK _ _ h
end
end Go.Proofs.Yteahlnoonmfjhaa
