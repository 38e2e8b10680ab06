/- Texts of mine in one: MapK, NnA, NtL, NtM, NtR, NtO, NpA, NpB, NpC, NpD. No statement of its own. -/
import Derived.Test.YteahlnoonmfjhaaGreatMapI
import Derived.DeepKeys4
import Derived.Test.YteahlnoonmfjhaaGreatMn
import Derived.Test.YteahlnoonmfjhaaGreatAgA
import Derived.Test.YteahlnoonmfjhaaGreatAgK
import Derived.Test.YteahlnoonmfjhaaGreatOpen
import Derived.Deep.MidRow
set_option linter.unusedVariables false
set_option maxRecDepth 100000
namespace Go.Proofs.YteahlnoonmfjhaaGreat
section
set_option linter.unusedVariables false
set_option maxRecDepth 100000
open Go.RowKit Go.MapKept Go.ChangeMaps

def KeyV (P : Program) (k : TypeId) (v : Value) : Prop := ∃ l, keyOf P k v = some l
section
variable {α : Type}
/-- Entries under keys kv a: F says what stands at which. -/
structure EntsK (P : Program) (k : TypeId) (kv : α → Value) (es : Array MapEntry) (clock : Nat) (F : α → Option Value) : Prop where
  st : Stamped es clock
  tos : ∀ x ∈ es.toList, ∃ a, x.key = kv a ∧ KeyV P k (kv a) ∧ F a = some x.val
  back : ∀ a v, F a = some v → ∃ x ∈ es.toList, x.key = kv a ∧ x.val = v
def MapK (P : Program) (k : TypeId) (kv : α → Value) (w : World) (b : Nat) (F : α → Option Value) : Prop := ∃ es clock, w.heap[b]? = some (.map es clock) ∧ EntsK P k kv es clock F
variable {P : Program} {t k e : TypeId} {kv : α → Value}
theorem MapK.lt {w : World} {b : Nat} {F : α → Option Value} (h : MapK P k kv w b F) : b < w.heap.size := by
  obtain ⟨es, clock, hb, _⟩ := h
  exact (Array.getElem?_eq_some_iff.1 hb).1
theorem MapK.of_block {w w' : World} {b : Nat} {F : α → Option Value} (h : MapK P k kv w b F) (q : w'.heap[b]? = w.heap[b]?) : MapK P k kv w' b F := by
  obtain ⟨es, clock, hb, h⟩ := h
  exact ⟨es, clock, q.trans hb, h⟩
theorem MapK.mut {S : Nat → Prop} {w w' : World} {b : Nat} {F : α → Option Value} (h : MapK P k kv w b F) (q : Mut S w w') (hn : ¬ S b) : MapK P k kv w' b F := h.of_block (q.block b h.lt hn)
theorem mapK_made (w : World) : MapK P k kv (w.alloc (.map #[] 0)) w.heap.size (fun _ => none) :=
  ⟨#[], 0, (MapKept.heap_alloc w _).1, ⟨stamped_empty 0, by simp, by simp⟩⟩
def updK [DecidableEq α] (F : α → Option Value) (a : α) (v : Value) : α → Option Value := fun z => if z = a then some v else F z
/-- What MapI.update says, of such a map. -/
theorem MapK.update [DecidableEq α] (hinj : ∀ a b, kv a = kv b → a = b) (K : Maps.Keyed P k) {w : World} {b : Nat} {F : α → Option Value} (h : MapK P k kv w b F) (ht : P.underlying t = some (.map k e)) {a : α} (hw : KeyV P k (kv a)) (val : Value) :
    ∃ w', (Instr.mapUpdate t (.map (some b)) (kv a) val).run P w = .ok () w' ∧ MapK P k kv w' b (updK F a val) ∧ w.grownBy w' (some b) := by
  obtain ⟨es, clock, hb, h⟩ := h
  obtain ⟨la, hkey⟩ := hw
  have hkeys : ∀ x ∈ es.toList, ∃ l, keyOf P k x.key = some l := fun x hx => by
    obtain ⟨a', h1, ⟨l, h2⟩, _⟩ := h.tos x hx
    exact ⟨l, by rw [h1]; exact h2⟩
  have hgrow : ∀ o, w.grownBy (setBlock w b o) (some b) := fun o => ⟨rfl, rfl, rfl, by simp [setBlock], fun i _ hi => heap_setBlock_other hb _ (fun e => hi (by rw [e]))⟩
  rcases K.find w hkey es.toList hkeys with ⟨h1, h2⟩ | ⟨j, e0, h1, h2, h3⟩
  · refine ⟨setBlock w b (.map (es.push ⟨kv a, val, clock⟩) (clock + 1)), ?_, ⟨_, _, heap_setBlock_same hb _, stamped_push h.st h2, ?_, ?_⟩, hgrow _⟩
    · simp [Instr.mapUpdate, run_underlying ht, MapKept.run_getObj_map hb, K.check w false hkey, h1, MapKept.run_setObj_map _ hb, Result.andThen, setBlock]
    · intro x hx
      simp only [Array.toList_push, List.mem_append, List.mem_singleton] at hx
      rcases hx with hx | rfl
      · obtain ⟨a', h4, h5, h6⟩ := h.tos x hx
        refine ⟨a', h4, h5, ?_⟩
        have : a' ≠ a := fun e => h2 x hx (by rw [h4, e])
        simp [updK, this, h6]
      · exact ⟨a, rfl, ⟨la, hkey⟩, by simp [updK]⟩
    · intro z v hz
      simp only [Array.toList_push, List.mem_append, List.mem_singleton]
      unfold updK at hz
      split at hz
      · rename_i e1
        subst e1
        exact ⟨_, .inr rfl, rfl, by simpa using hz⟩
      · obtain ⟨x, hx, h4, h5⟩ := h.back z v hz
        exact ⟨x, .inl hx, h4, h5⟩
  · have hj : es[j]? = some e0 := by simpa using h2
    have hjl : j < es.toList.length := (List.getElem?_eq_some_iff.1 h2).1
    have hlist : (es.modify j (fun e' => { e' with key := kv a, val := val })).toList = es.toList.set j { e0 with key := kv a, val := val } := by rw [Array.toList_modify, modify_eq_set _ _ _ _ h2]
    refine ⟨setBlock w b (.map (es.modify j (fun e' => { e' with key := kv a, val := val })) clock), ?_, ⟨_, _, heap_setBlock_same hb _, stamped_modify h.st _ _ (fun _ _ => rfl) (fun e' _ he' => by rw [hj] at he'; cases he'; exact h3.symm), ?_, ?_⟩, hgrow _⟩
    · simp [Instr.mapUpdate, run_underlying ht, MapKept.run_getObj_map hb, K.check w false hkey, h1, hj, h3, K.stays w hkey, MapKept.run_setObj_map _ hb, Result.andThen, setBlock]
    · intro x hx
      rw [hlist] at hx
      obtain ⟨i, hi, ex⟩ := List.getElem_of_mem hx
      rw [List.getElem_set] at ex
      split at ex
      · subst ex
        exact ⟨a, rfl, ⟨la, hkey⟩, by simp [updK]⟩
      · rename_i hne
        have hi' : i < es.toList.length := by simpa using hi
        have hix : es.toList[i]? = some x := by rw [List.getElem?_eq_getElem hi', ex]
        obtain ⟨a', h4, h5, h6⟩ := h.tos x (List.mem_of_getElem? hix)
        refine ⟨a', h4, h5, ?_⟩
        have : a' ≠ a := fun e1 => key_apart h.st hix h2 (fun e2 => hne e2.symm) (by rw [h4, h3, e1])
        simp [updK, this, h6]
    · intro z v hz
      rw [hlist]
      unfold updK at hz
      split at hz
      · rename_i e1
        subst e1
        exact ⟨{ e0 with key := kv z, val := val }, List.mem_iff_getElem.2 ⟨j, by simpa using hjl, by simp⟩, rfl, by simpa using hz⟩
      · rename_i hza
        obtain ⟨x, hx, h4, h5⟩ := h.back z v hz
        obtain ⟨i, hi, ex⟩ := List.getElem_of_mem hx
        have hij : j ≠ i := fun e1 => by
          subst e1
          have : e0 = x := by rw [List.getElem?_eq_getElem hi] at h2; rw [← ex]; exact (Option.some.inj h2).symm
          subst this
          rw [h3] at h4
          exact hza (hinj _ _ h4).symm
        exact ⟨x, List.mem_iff_getElem.2 ⟨i, by simpa using hi, by rw [List.getElem_set_ne hij]; exact ex⟩, h4, h5⟩
theorem MapK.look (hinj : ∀ a b, kv a = kv b → a = b) (K : Maps.Keyed P k) {w : World} {b : Nat} {F : α → Option Value} (h : MapK P k kv w b F) (c : Bool) (ht : P.underlying t = some (.map k e)) {z : Value} (hz : (zeroValue e).run P w = .ok z w) {a : α} (hw : KeyV P k (kv a)) :
    (Instr.lookup t (.map (some b)) (kv a) c).run P w = .ok (if c then .tuple #[(F a).getD z, .bool (F a).isSome] else (F a).getD z) w := by
  obtain ⟨es, clock, hb, h⟩ := h
  obtain ⟨la, hkey⟩ := hw
  have hkeys : ∀ x ∈ es.toList, ∃ l, keyOf P k x.key = some l := fun x hx => by
    obtain ⟨a', h1, ⟨l, h2⟩, _⟩ := h.tos x hx
    exact ⟨l, by rw [h1]; exact h2⟩
  rcases K.find w hkey es.toList hkeys with ⟨h1, h2⟩ | ⟨j, e0, h1, h2, h3⟩
  · have hF : F a = none := by
      cases hFa : F a with
      | none => rfl
      | some v =>
        obtain ⟨x, hx, h4, _⟩ := h.back a v hFa
        exact absurd h4 (h2 x hx)
    simp [Instr.lookup, run_underlying ht, MapKept.run_getObj_map hb, K.check w _ hkey, h1, hz, Result.andThen, hF]
  · have hF : F a = some e0.val := by
      obtain ⟨a', h4, _, h6⟩ := h.tos e0 (List.mem_of_getElem? h2)
      rw [h3] at h4
      rw [hinj _ _ h4, h6]
    simp [Instr.lookup, run_underlying ht, MapKept.run_getObj_map hb, K.check w _ hkey, h1, Result.andThen, hF]
end
end

section
set_option linter.unusedVariables false
set_option maxRecDepth 100000
open Go.RowKit

/-- The first place at which a row without its i-th differs holds what the i-th was. -/
theorem lose_at {α : Type} {l : List α} {i a : Nat} (hi : i < l.length) (ha : a < l.length) (h : ∀ j, j < a → (l.eraseIdx i)[j]? = l[j]?) (he : a + 1 = l.length ∨ (l.eraseIdx i)[a]? ≠ l[a]?) : l[a]? = l[i]? := by
  by_cases hlt : a < i
  · exfalso
    rcases he with he | he
    · omega
    · exact he (List.getElem?_eraseIdx_of_lt hlt)
  · have hs : ∀ d, i + d ≤ a → l[i + d]? = l[i]? := by
      intro d
      induction d with
      | zero => intro _; rfl
      | succ d ih =>
        intro hd
        have h1 := h (i + d) (by omega)
        rw [List.getElem?_eraseIdx_of_ge (by omega)] at h1
        rw [show i + (d + 1) = i + d + 1 by omega, h1]
        exact ih (by omega)
    have := hs (a - i) (by omega)
    rwa [show i + (a - i) = a by omega] at this
theorem cnt_erase : ∀ {l : List Pk} {i : Nat} {p : Pk}, l[i]? = some p → ∀ q, l.count q = (l.eraseIdx i).count q + if p = q then 1 else 0
  | [], i, p, h, q => by simp at h
  | x :: l, 0, p, h, q => by
    simp only [List.getElem?_cons_zero, Option.some.injEq] at h
    subst h
    rw [List.eraseIdx_cons_zero, List.count_cons]
    simp
  | x :: l, i + 1, p, h, q => by
    simp only [List.getElem?_cons_succ] at h
    have ih := cnt_erase h q
    rw [List.eraseIdx_cons_succ, List.count_cons, List.count_cons, ih]
    omega
theorem cnt_snoc (l : List Pk) (p q : Pk) : (l ++ [p]).count q = l.count q + if p = q then 1 else 0 := by
  rw [List.count_append, List.count_singleton]
  simp
theorem cnt_drop {l : List Pk} {k : Nat} {p : Pk} (h : l[k]? = some p) (q : Pk) : (l.drop k).count q = (l.drop (k + 1)).count q + if p = q then 1 else 0 := by
  obtain ⟨hk, rfl⟩ := List.getElem?_eq_some_iff.1 h
  rw [List.drop_eq_getElem_cons hk, List.count_cons]
  simp
/-- A packet that has been put. -/
def PkOk (p : Pk) : Prop := 1 ≤ p.c ∧ p.c ≤ 16 ∧ p.b.length ≤ 4096
theorem put_ok {l : List Pk} {p : Pk} (h : putE l p = 0) : PkOk p ∧ putN l p = l ++ [p] := by
  have h' := h
  unfold putE at h
  split at h
  · cases h
  · split at h
    · cases h
    · exact ⟨⟨by omega, by omega, by omega⟩, by unfold putN; rw [if_pos h']⟩
theorem put_no {l : List Pk} {p : Pk} (h : putE l p ≠ 0) : putN l p = l := by unfold putN; rw [if_neg h]
theorem putN_ok {l : List Pk} {p : Pk} (hl : ∀ q ∈ l, PkOk q) : ∀ q ∈ putN l p, PkOk q := by
  by_cases h : putE l p = 0
  · obtain ⟨h1, h2⟩ := put_ok h
    rw [h2]
    intro q hq
    rcases List.mem_append.1 hq with hq | hq
    · exact hl q hq
    · obtain rfl := List.mem_singleton.1 hq
      exact h1
  · rw [put_no h]
    exact hl
theorem takeN_ok {l : List Pk} {a : Int} (hl : ∀ q ∈ l, PkOk q) : ∀ q ∈ (takeN l a).2.2, PkOk q := by
  unfold takeN
  split
  · exact hl
  · exact fun q hq => hl q (List.mem_of_mem_eraseIdx hq)
theorem dblN_ok {l : List Pk} {a : Int} (hl : ∀ q ∈ l, PkOk q) : ∀ q ∈ (dblN l a).2, PkOk q := by
  unfold dblN
  split
  · exact hl
  · rename_i p hp
    split
    · exact hl
    · intro q hq
      rcases List.mem_append.1 hq with hq | hq
      · exact hl q hq
      · obtain rfl := List.mem_singleton.1 hq
        exact hl q (List.mem_of_getElem? hp)
/-- What the document's Double comes to. -/
theorem dbl_put {l : List Pk} {a : Int} {p : Pk} (hl : ∀ q ∈ l, PkOk q) (hp : l[ixN a l.length]? = some p) : putE l p = (dblN l a).1 ∧ putN l p = (dblN l a).2 := by
  obtain ⟨h1, h2, h3⟩ := hl p (List.mem_of_getElem? hp)
  have e : putE l p = if 256 ≤ l.length then 3 else 0 := by
    unfold putE
    rw [if_neg (by omega), if_neg (by omega)]
  unfold dblN putN
  rw [hp, e]
  simp only
  split <;> simp
theorem take_cases {l : List Pk} (a : Int) (hn : l.length ≤ 1000) : (l = [] ∧ takeN l a = (pk0, 5, [])) ∨ ∃ p, l[ixN a l.length]? = some p ∧ takeN l a = (p, 0, l.eraseIdx (ixN a l.length)) ∧ ixN a l.length < l.length := by
  by_cases h0 : l.length = 0
  · have hl : l = [] := List.length_eq_zero_iff.1 h0
    subst hl
    exact .inl ⟨rfl, rfl⟩
  · obtain ⟨-, e2⟩ := ixN_spec a (Nat.pos_of_ne_zero h0) (by omega)
    obtain ⟨p, hp⟩ : ∃ p, l[ixN a l.length]? = some p := ⟨_, List.getElem?_eq_getElem e2⟩
    refine .inr ⟨p, hp, ?_, e2⟩
    unfold takeN
    rw [hp]
theorem dbl_cases {l : List Pk} (a : Int) (hn : l.length ≤ 1000) : (l = [] ∧ dblN l a = (5, [])) ∨ ∃ p, l[ixN a l.length]? = some p ∧ dblN l a = if 256 ≤ l.length then (3, l) else (0, l ++ [p]) := by
  by_cases h0 : l.length = 0
  · have hl : l = [] := List.length_eq_zero_iff.1 h0
    subst hl
    exact .inl ⟨rfl, rfl⟩
  · obtain ⟨-, e2⟩ := ixN_spec a (Nat.pos_of_ne_zero h0) (by omega)
    obtain ⟨p, hp⟩ : ∃ p, l[ixN a l.length]? = some p := ⟨_, List.getElem?_eq_getElem e2⟩
    refine .inr ⟨p, hp, ?_⟩
    unfold dblN
    rw [hp]

/-! A packet as a key. -/
def pkV (p : Pk) : Value := .agg (pkC p).toArray
theorem pkV_inj : ∀ a b : Pk, pkV a = pkV b → a = b := by
  rintro ⟨a1, a2, a3⟩ ⟨b1, b2, b3⟩ h
  simp [pkV, pkC, str] at h
  obtain ⟨rfl, rfl, h3⟩ := h
  simpa using h3
theorem pk_law : Maps.Keyed Tryz.prog 47 :=
  Maps.Keyed.of_law (deep_law_laid (by kernel_rfl) (m := 2) (by omega) (of_decide_eq_true (by kernel_rfl)) (by kernel_rfl) (by kernel_rfl))
theorem pk_key (p : Pk) (hc : I64 p.c) (hb : p.b.length ≤ maxLen) : KeyV Tryz.prog 47 (pkV p) := by
  have h1 : Tryz.prog.keyType 47 = true := by kernel_rfl
  have h2 : (pkV p).formed Tryz.prog 47 = true := by
    have hc : Tryz.prog.cellsOf 47 = 3 := by kernel_rfl
    simp [pkV, pkC, Value.formed, Tryz.underlying47, hc]
  have h3 : (str p.b).size ≤ maxLen := by rw [str_size]; exact hb
  have h4 : (Lit.int .i64 p.c).wf = true := by
    unfold I64 at hc
    simp [Lit.wf, IntKind.min, IntKind.max, IntKind.signed, IntKind.bits]
    omega
  obtain ⟨n, hn⟩ : ∃ n, Tryz.prog.types.size = n + 1 := ⟨_, (by kernel_rfl : Tryz.prog.types.size = (Tryz.prog.types.size - 1) + 1)⟩
  have c1 : Tryz.prog.cellsOf 47 = 3 := by kernel_rfl
  have c2 : Tryz.prog.cellsOf 3 = 1 := by kernel_rfl
  have c3 : Tryz.prog.cellsOf 4 = 1 := by kernel_rfl
  have c4 : Tryz.prog.cellsOf 9 = 1 := by kernel_rfl
  have h5 : (Tryz.prog.keyLits (Tryz.prog.types.size + 1) 47 (pkV p).cells.toList).isSome = true := by
    rw [hn]
    have e : (pkV p).cells.toList = [.int .i64 p.c, .bool p.up, .string (str p.b)] := rfl
    rw [e]
    simp [Program.keyLits, Tryz.underlying47, Tryz.underlying3, Tryz.underlying4, Tryz.underlying9, c1, c2, c3, c4, h3, h4]
  obtain ⟨ls, h5⟩ := Option.isSome_iff_exists.1 h5
  unfold KeyV keyOf
  rw [Tryz.underlying47]
  simp only [h1, h2, h5, Bool.and_self, if_true, Option.map_some]
  exact ⟨_, rfl⟩
end

section
set_option linter.unusedVariables false
set_option maxRecDepth 100000
open Go.RowKit

/-- Append to a row of no cells: nothing that was there changes. -/
theorem appE {P : Program} {w : World} {B sz : Nat} {C : Value → Prop} {x : Value} {g m : Nat} {new : List Value} {t tx ty e : TypeId} {i : TypeInfo} {z : Value} (ht : P.underlying t = some (.slice e)) (hi : P.info? e = some i) (h1 : i.size = sz) (hz : i.zero = some z) (hzz : z.cells.size = sz)
    (hg : w.heap[g]? = some (.cells #[] e (0, 0))) (hs : Src P sz tx x m new w) (hBg : B ≤ g) (hsz : 0 < sz) (hCn : ∀ u ∈ new, C u) (hCz : ∀ u ∈ z.cells, C u) (hc : m * i.bytes ≤ 140737488355328) (hm : m ≤ 140737488355328) :
    ∃ v' w', (Builtin.append_ #[t, tx] ty #[.slice (some ⟨g, 0, none⟩) 0 0, x]).run P w = .ok v' w' ∧ OwnR w' B e sz C v' m new ∧ Ext w w' := by
  have hnl := hs.newsLen
  have hgl := heap_lt hg
  by_cases h00 : m = 0
  · subst h00
    have hnew : new = [] := List.length_eq_zero_iff.1 (by simpa using hnl)
    subst hnew
    refine ⟨.slice (some ⟨g, 0, none⟩) 0 0, w, ?_, ⟨by simp, .inr ⟨g, 0, [], rfl, hBg, hg, by simp, by simp⟩⟩, Ext.refl _⟩
    have hcells : (Builtin.firstCells sz 0 x).run P w = .ok #[] w := hs.cells
    rcases hs.kind with ⟨e', hk⟩ | hk <;> simp [Builtin.append_, run_underlying ht, run_underlying hk, sizeOf, typeInfo, hi, h1, hs.len, hcells, storeCells]
  · have hs' := hs
    rw [← h1] at hs'
    have hr := run_append_grow_src (P := P) w t tx ty e i z ht hi hz (some ⟨g, 0, none⟩) 0 0 [] (by rw [h1]; exact run_firstCells_some (P := P) w.drew sz 0 ⟨g, 0, none⟩ 0 0 [] (by simp) fun j u hu => by simp at hu) x m new hs' (by omega) (by omega) (growslice_fits (by omega) (by simpa using hc))
    simp only [List.nil_append, Nat.zero_add] at hr
    have hge := grownCap_ge w m 0 e
    have hzl : (Builtin.zeroCells z.cells (grownCap w m 0 e - m)).toList.length = (grownCap w m 0 e - m) * sz := by simp [Builtin.zeroCells, hzz]
    have hE : Ext w (w.drew.alloc (.cells (new.toArray ++ Builtin.zeroCells z.cells (grownCap w m 0 e - m)) e)) := (Below.refl _ w).drew.alloc (Nat.le_refl _) _
    refine ⟨_, _, hr, ⟨hnl, .inr ⟨w.heap.size, grownCap w m 0 e, (Builtin.zeroCells z.cells (grownCap w m 0 e - m)).toList, rfl, by omega, ?_, ?_⟩⟩, hE⟩
    · have hrow : new.toArray ++ Builtin.zeroCells z.cells (grownCap w m 0 e - m) = (new ++ (Builtin.zeroCells z.cells (grownCap w m 0 e - m)).toList).toArray := by
        apply Array.ext'; simp
      rw [hrow]
      exact heap_alloc_new w.drew _
    · refine ⟨by rw [hnl, hzl, ← Nat.add_mul]; congr 1; omega, fun u hu => ?_⟩
      rcases List.mem_append.1 hu with hu | hu
      · exact hCn u hu
      · simp only [Builtin.zeroCells, Array.mem_toList_iff, Array.mem_map, Array.mem_range] at hu
        obtain ⟨j, _, rfl⟩ := hu
        have hj : j % z.cells.size < z.cells.size := Nat.mod_lt _ (by omega)
        rw [getElem!_pos z.cells _ hj]
        exact hCz _ (Array.getElem_mem hj)
end

section
set_option linter.unusedVariables false
set_option maxRecDepth 100000
open Go.RowKit

end

section
set_option linter.unusedVariables false
set_option maxRecDepth 100000
open Go.RowKit

end

section
set_option linter.unusedVariables false
set_option maxRecDepth 100000
open Go.RowKit Go.ChangeShapes Go.WideShapes Go.ChangeAt Go.Deep

structure NopE where
  k : Int
  p : Pk
  a : Int
def nopC (x : NopE) : List Value := [.int .u8 x.k, .int .i64 x.p.c, .bool x.p.up, .string (str x.p.b), .int .i64 x.a]
theorem nopC_len (x : NopE) : (nopC x).length = 5 := rfl
structure NopE.Ok (x : NopE) : Prop where
  k : 0 ≤ x.k ∧ x.k ≤ 255
  c : I64 x.p.c
  b : x.p.b.length ≤ maxLen
  a : I64 x.a
structure NopsT where
  r : Value
  l : List NopE
def NopsT.v (x : NopsT) : Value := x.r
structure NopsT.Ok (w : World) (x : NopsT) : Prop where
  r : RR w 5 x.r x.l.length (x.l.flatMap nopC)
  e : ∀ y ∈ x.l, y.Ok
  len : x.l.length ≤ maxLen
structure AskE where
  k : Int
  n : Int
  a : AgT
  t : List UInt8
def askC (x : AskE) : List Value := .int .u8 x.k :: .int .i64 x.n :: (agC x.a ++ [.string (str x.t)])
theorem askC_len (x : AskE) : (askC x).length = 19 := rfl
structure AskE.Ok (x : AskE) : Prop where
  k : 0 ≤ x.k ∧ x.k ≤ 255
  n : I64 x.n
  a : x.a.Okl
  t : x.t.length ≤ maxLen
structure AsksT where
  r : Value
  l : List AskE
def AsksT.v (x : AsksT) : Value := x.r
structure AsksT.Ok (w : World) (x : AsksT) : Prop where
  r : RR w 19 x.r x.l.length (x.l.flatMap askC)
  e : ∀ y ∈ x.l, y.Ok
  len : x.l.length ≤ maxLen
theorem list5 {α : Type} : ∀ {cs : List α}, cs.length = 5 → ∃ c0 c1 c2 c3 c4, cs = [c0, c1, c2, c3, c4]
  | [c0, c1, c2, c3, c4], _ => ⟨c0, c1, c2, c3, c4, rfl⟩
section
variable {H : Type} {enc' : TypeId × Value → H} {P : Program} {w : World} {base : Nat} {spare : Nat → Bool} {held : Bool}
/-- Rows of structs of any fields. -/
theorem open_rowsF {α : Type} {enc : α → List Value} {R : α → Prop} {t e : TypeId} {sz fuel : Nat} {v : Value} {x : DataW H × List MemPlace} (ht : P.underlying t = some (.slice e)) (hC : P.cellsOf e = sz) (hne : 0 < sz) (hen : ∀ x, (enc x).length = sz)
    (hk : ∀ (cs : List Value) (y : DataW H × List MemPlace) (n : Nat), cs.length = sz → DataW.trod enc' P w base spare held n e cs = some y → ∃ x, cs = enc x ∧ R x)
    (h : DataW.trod enc' P w base spare held fuel t [v] = some x) : ∃ l : List α, RR w sz v l.length (l.flatMap enc) ∧ (∀ x ∈ l, R x) ∧ l.length ≤ maxLen := by
  rcases open_slice ht h with h0 | ⟨a, len, cap, m, n, D, Pl, hcs, hb, hl, hm, hmm, hx, hi⟩
  · have h0 := h0.1
    simp only [List.cons.injEq, and_true] at h0
    subst h0
    exact ⟨[], ⟨by simp, .inl ⟨none, 0, rfl, rfl⟩⟩, fun x h => by simp at h, Nat.zero_le _⟩
  · simp only [List.cons.injEq, and_true] at hcs
    subst hcs
    obtain ⟨l, hll, hq⟩ := list_of (Q := fun i x => (∀ j, j < sz → w.cell? (a.add (i * sz + j)) = (enc x)[j]?) ∧ R x) len fun i hil => by
      obtain ⟨cs', hc, ht'⟩ := hi i (by rw [hmm]; split <;> omega)
      rw [hC] at hc
      obtain ⟨_, hcl, hat⟩ := World.cells?_some hc
      obtain ⟨x, rfl, hR⟩ := hk cs' _ _ hcl ht'
      refine ⟨x, fun j hj => ?_, hR⟩
      rw [← Go.Deep.add_add, hat j hj]
    subst hll
    have hlen := flat_length hen l
    refine ⟨l, ⟨hlen, ?_⟩, fun x hx => ?_, by omega⟩
    · by_cases h0 : l.length = 0
      · exact .inl ⟨some a, cap, by rw [h0], h0⟩
      · obtain ⟨b, off, spot⟩ := a
        have hx0 : l[0]? = some l[0] := List.getElem?_eq_getElem (by omega)
        have hc0 := (hq 0 _ hx0).1 0 hne
        rw [List.getElem?_eq_getElem (by rw [hen]; exact hne)] at hc0
        have hs : spot = none := by simpa [Addr.add] using World.cell?_spot hc0
        subst hs
        rw [Addr.add_lit] at hc0
        have hlt : b < w.heap.size := by
          unfold World.cell? at hc0
          cases hb : w.heap[b]? with
          | none => simp [hb] at hc0
          | some o => exact (Array.getElem?_eq_some_iff.1 hb).1
        refine .inr ⟨b, off, cap, rfl, hlt, hl, fun j hj => ?_⟩
        have hjd := Nat.div_add_mod j sz
        have hml := Nat.mod_lt j hne
        have hdl : j / sz < l.length := by
          rw [hlen] at hj
          exact Nat.div_lt_of_lt_mul (by rw [Nat.mul_comm]; exact hj)
        have hxk : l[j / sz]? = some l[j / sz] := List.getElem?_eq_getElem hdl
        have h1 := (hq _ _ hxk).1 (j % sz) hml
        rw [Addr.add_lit, Nat.mul_comm, hjd] at h1
        rw [h1]
        have h2 := flat_at hen l (j / sz) (j % sz) _ hxk hml
        rw [Nat.mul_comm, hjd, List.getElem?_eq_getElem hj] at h2
        exact h2.symm
    · obtain ⟨i, hil, rfl⟩ := List.getElem_of_mem hx
      exact (hq i _ (List.getElem?_eq_getElem hil)).2
end
section
variable {H : Type} {enc : TypeId × Value → H} {W : World} {base : Nat} {b0 : Nat} {spare : Nat → Bool} {held : Bool}
theorem open_ag16 {n : Nat} {cs : List Value} {y : DataW H × List MemPlace} (hl : cs.length = 16) (h : DataW.trod enc Tryz.prog W base spare held n 28 cs = some y) : ∃ a : AgT, cs = agC a ∧ a.Okl := by
  obtain ⟨_, hf⟩ := fields_flat Tryz.underlying28 h
  obtain ⟨c0, c1, c2, c3, c4, c5, c6, c7, c8, c9, c10, c11, c12, c13, c14, c15, rfl⟩ := list16 hl
  obtain ⟨_, _, t0⟩ := hf 0 _ 0 25 3 rfl rfl rfl (by kernel_rfl)
  obtain ⟨_, _, t1⟩ := hf 1 _ 3 25 3 rfl rfl rfl (by kernel_rfl)
  obtain ⟨_, _, t2⟩ := hf 2 _ 6 9 1 rfl rfl rfl (by kernel_rfl)
  obtain ⟨_, _, t3⟩ := hf 3 _ 7 9 1 rfl rfl rfl (by kernel_rfl)
  obtain ⟨_, _, t4⟩ := hf 4 _ 8 9 1 rfl rfl rfl (by kernel_rfl)
  obtain ⟨_, _, t5⟩ := hf 5 _ 9 3 1 rfl rfl rfl (by kernel_rfl)
  obtain ⟨_, _, t6⟩ := hf 6 _ 10 3 1 rfl rfl rfl (by kernel_rfl)
  obtain ⟨_, _, t7⟩ := hf 7 _ 11 3 1 rfl rfl rfl (by kernel_rfl)
  obtain ⟨_, _, t8⟩ := hf 8 _ 12 3 1 rfl rfl rfl (by kernel_rfl)
  obtain ⟨_, _, t9⟩ := hf 9 _ 13 3 1 rfl rfl rfl (by kernel_rfl)
  obtain ⟨_, _, t10⟩ := hf 10 _ 14 3 1 rfl rfl rfl (by kernel_rfl)
  obtain ⟨_, _, t11⟩ := hf 11 _ 15 26 1 rfl rfl rfl (by kernel_rfl)
  obtain ⟨a0, a1, a2, rfl, rfl, rfl, b0, b1, b2⟩ := open_h3 t0
  obtain ⟨a3, a4, a5, rfl, rfl, rfl, b3, b4, b5⟩ := open_h3 t1
  obtain ⟨s2, e2, _, w2⟩ := DataW.trod_string Tryz.underlying9 t2
  obtain ⟨s3, e3, _, w3⟩ := DataW.trod_string Tryz.underlying9 t3
  obtain ⟨s4, e4, _, w4⟩ := DataW.trod_string Tryz.underlying9 t4
  obtain ⟨m5, e5, _, w5⟩ := DataW.trod_int Tryz.underlying3 t5
  obtain ⟨m6, e6, _, w6⟩ := DataW.trod_int Tryz.underlying3 t6
  obtain ⟨m7, e7, _, w7⟩ := DataW.trod_int Tryz.underlying3 t7
  obtain ⟨m8, e8, _, w8⟩ := DataW.trod_int Tryz.underlying3 t8
  obtain ⟨m9, e9, _, w9⟩ := DataW.trod_int Tryz.underlying3 t9
  obtain ⟨m10, e10, _, w10⟩ := DataW.trod_int Tryz.underlying3 t10
  obtain ⟨m11, e11, _, w11⟩ := DataW.trod_int Tryz.underlying26 t11
  simp at e2 e3 e4 e5 e6 e7 e8 e9 e10 e11
  subst e2 e3 e4 e5 e6 e7 e8 e9 e10 e11
  exact ⟨⟨(a0, a1, a2), (a3, a4, a5), s2.data.toList, s3.data.toList, s4.data.toList, m5, m6, m7, m8, m9, m10, m11⟩, rfl, ⟨b0, b1, b2⟩, ⟨b3, b4, b5⟩, w2, w3, w4, i64_wf w5, i64_wf w6, i64_wf w7, i64_wf w8, i64_wf w9, i64_wf w10, u64_wf w11⟩
theorem open_Wasks {v : Value} {d : DataW H} {p : List MemPlace} {r : Reach} (hv : Value.okWide Tryz.prog W r b0 22 v) (h : DataW.Trod enc Tryz.prog W base spare held 22 v d p) : ∃ x : AsksT, v = x.v ∧ x.Ok W := by
  obtain ⟨a0, len, cap, rfl⟩ := okWide_slice Tryz.underlying22 hv
  obtain ⟨m, hm⟩ := h
  obtain ⟨l, h1, h2, h3⟩ := open_rowsF (enc := askC) (R := fun x => x.Ok) (sz := 19) Tryz.underlying22 (by kernel_rfl) (by decide) askC_len (fun cs y n hl ht => by
    obtain ⟨_, hf⟩ := fields_flat Tryz.underlying30 ht
    obtain ⟨_, _, t0⟩ := hf 0 _ 0 5 1 rfl rfl rfl (by kernel_rfl)
    obtain ⟨_, _, t1⟩ := hf 1 _ 1 3 1 rfl rfl rfl (by kernel_rfl)
    obtain ⟨_, _, t2⟩ := hf 2 _ 2 28 16 rfl rfl rfl (by kernel_rfl)
    obtain ⟨_, _, t3⟩ := hf 3 _ 18 9 1 rfl rfl rfl (by kernel_rfl)
    obtain ⟨a, ea, oa⟩ := open_ag16 (by rw [List.length_take, List.length_drop, hl]; rfl) t2
    obtain ⟨m0, e0, _, w0⟩ := DataW.trod_int Tryz.underlying5 t0
    obtain ⟨m1, e1, _, w1⟩ := DataW.trod_int Tryz.underlying3 t1
    obtain ⟨s3, e3, _, w3⟩ := DataW.trod_string Tryz.underlying9 t3
    refine ⟨⟨m0, m1, a, s3.data.toList⟩, ?_, ⟨u8_wf w0, i64_wf w1, oa, w3⟩⟩
    have e : cs = (cs.drop 0).take 1 ++ ((cs.drop 1).take 1 ++ ((cs.drop 2).take 16 ++ (cs.drop 18).take 1)) := by
      have h4 : (cs.drop 18).take 1 = cs.drop 18 := List.take_of_length_le (by rw [List.length_drop, hl]; omega)
      rw [h4, show cs.drop 18 = (cs.drop 2).drop 16 by rw [List.drop_drop], List.take_append_drop, show cs.drop 2 = (cs.drop 1).drop 1 by rw [List.drop_drop], List.take_append_drop, show cs.drop 1 = (cs.drop 0).drop 1 by rw [List.drop_drop], List.take_append_drop, List.drop_zero]
    rw [e, e0, e1, ea, e3]
    rfl) hm
  exact ⟨⟨_, l⟩, rfl, ⟨h1, h2, h3⟩⟩
end
end

section
set_option linter.unusedVariables false
set_option maxRecDepth 100000
open Go.RowKit

theorem ROp.op {w : World} {b off c : Nat} {l : List NopE} (h : RR w 5 (.slice (some ⟨b, off, none⟩) l.length c) l.length (l.flatMap nopC)) {k : Nat} {x : NopE} (hx : l[k]? = some x) :
    w.cell? ⟨b, off + k * 5, none⟩ = some (.int .u8 x.k) ∧ w.cell? ⟨b, off + k * 5 + 1, none⟩ = some (.int .i64 x.p.c) ∧ w.cell? ⟨b, off + k * 5 + 2, none⟩ = some (.bool x.p.up) ∧ w.cell? ⟨b, off + k * 5 + 3, none⟩ = some (.string (str x.p.b)) ∧ w.cell? ⟨b, off + k * 5 + 4, none⟩ = some (.int .i64 x.a) := by
  have h0 := RR.cellAt (enc := nopC) h nopC_len hx (i := 0) rfl
  have h1 := RR.cellAt (enc := nopC) h nopC_len hx (i := 1) rfl
  have h2 := RR.cellAt (enc := nopC) h nopC_len hx (i := 2) rfl
  have h3 := RR.cellAt (enc := nopC) h nopC_len hx (i := 3) rfl
  have h4 := RR.cellAt (enc := nopC) h nopC_len hx (i := 4) rfl
  rw [← Nat.add_assoc] at h0 h1 h2 h3 h4
  exact ⟨h0, h1, h2, h3, h4⟩
end

section
set_option linter.unusedVariables false
set_option maxRecDepth 100000
open Go.RowKit

def NtS (W w : World) (T E : TypeId) : Nat → Prop := fun k => W.heap.size ≤ k ∧ ∃ o, w.heap[k]? = some o ∧ ntK T E o
abbrev NnS (W w : World) := NtS W w 85 47
theorem nz0' {o : Obj} : ¬ Z0 o := fun h => h
section
variable {W w : World} {ds : List (Ob Z0)} {g : Nat} {l : List Pk}
theorem OSt.ntb {b : Nat} {cs : Array Value} {T T1 E : TypeId} {hz : ¬ Z0 (.cells cs T (0, 0))} (h : OSt W ds w) (i : Nat) (hi : ds[i]? = some (rowOb b (.cells cs T (0, 0)) hz)) (h1 : T ≠ T1) (h2 : T ≠ E) : ¬ NtS W w T1 E b := by
  rintro ⟨_, o, ho, hk⟩
  have k := h.get i hi
  rw [k] at ho
  cases ho
  exact hk.elim h1 h2
theorem nPutM (i : Nat) (h : OSt W ds w) (hi : ds[i]? = some (netO g l)) (p : Pk) (hn : l.length ≤ 1000) : Calls Tryz.prog 12 #[.pointer (some ⟨g, 0, none⟩), .agg (pkC p).toArray] w fun e w' => e = .returned (.int .i64 (putE l p)) ∧ OSt W (ds.set i (netO g (putN l p))) w' ∧ Mut (NnS W w) w w' := by
  obtain ⟨S, h1, h2, h3, _⟩ := h.pick hi
  exact (netPut_any p w h1 hn).mono fun e w' ⟨he, hT⟩ => ⟨he, h3 w' _ hT, hT.2.mono h2⟩
theorem nDoubleM (i : Nat) (h : OSt W ds w) (hi : ds[i]? = some (netO g l)) (a : Int) (hn : l.length ≤ 1000) : Calls Tryz.prog 14 #[.pointer (some ⟨g, 0, none⟩), .int .i64 a] w fun e w' => e = .returned (.int .i64 (dblN l a).1) ∧ OSt W (ds.set i (netO g (dblN l a).2)) w' ∧ Mut (NnS W w) w w' := by
  obtain ⟨S, h1, h2, h3, _⟩ := h.pick hi
  exact (netDouble_any a w h1 hn).mono fun e w' ⟨he, hT⟩ => ⟨he, h3 w' _ hT, hT.2.mono h2⟩
end
def eqPk (p q : Pk) : Bool := decide (p = q)
theorem eqPk_self (p : Pk) : eqPk p p = true := by simp [eqPk]
theorem eql_npk (p q : Pk) (w : World) : (binOp .eql 47 (.agg (pkC p).toArray) (.agg (pkC q).toArray)).run Tryz.prog w = .ok (.bool (eqPk p q)) w := by
  obtain ⟨a, b, c⟩ := p
  obtain ⟨a', b', c'⟩ := q
  unfold pkC
  go_simp
  by_cases h1 : a = a' <;> by_cases h2 : b = b' <;> by_cases h3 : c = c' <;> simp [eqPk, h1, h2, h3, strL]
theorem neq_npk (p q : Pk) (w : World) : (binOp .neq 47 (.agg (pkC p).toArray) (.agg (pkC q).toArray)).run Tryz.prog w = .ok (.bool (!eqPk p q)) w := by
  obtain ⟨a, b, c⟩ := p
  obtain ⟨a', b', c'⟩ := q
  unfold pkC
  go_simp
  by_cases h1 : a = a' <;> by_cases h2 : b = b' <;> by_cases h3 : c = c' <;> simp [eqPk, h1, h2, h3, strL]
attribute [local go_sem ↓]   eql_npk neq_npk
def stepN (l : List Pk) (x : NopE) : List Pk := if x.k = 0 then putN l x.p else if x.k = 1 then (takeN l x.a).2.2 else if x.k = 2 then (takeN l x.a).2.2 else (dblN l x.a).2
theorem stepN_len {l : List Pk} (x : NopE) (h : l.length ≤ 256) : (stepN l x).length ≤ 256 := by
  unfold stepN
  split
  · exact putN_len l x.p h
  · split
    · exact takeN_len l x.a h
    · split
      · exact takeN_len l x.a h
      · exact dblN_len l x.a h
theorem stepN_ok {l : List Pk} (x : NopE) (h : ∀ q ∈ l, PkOk q) : ∀ q ∈ stepN l x, PkOk q := by
  unfold stepN
  split
  · exact putN_ok h
  · split
    · exact takeN_ok h
    · split
      · exact takeN_ok h
      · exact dblN_ok h
theorem nopBox {w : World} {b : Nat} {x : NopE} {T : TypeId} (h : w.heap[b]? = some (.cells #[.int .u8 x.k, .int .i64 x.p.c, .bool x.p.up, .string (str x.p.b), .int .i64 x.a] T (0, 0))) :
    w.cell? ⟨b, 0, none⟩ = some (.int .u8 x.k) ∧ w.cell? ⟨b, 1, none⟩ = some (.int .i64 x.p.c) ∧ w.cell? ⟨b, 2, none⟩ = some (.bool x.p.up) ∧ w.cell? ⟨b, 3, none⟩ = some (.string (str x.p.b)) ∧ w.cell? ⟨b, 4, none⟩ = some (.int .i64 x.a) ∧ b < w.heap.size :=
  ⟨by simp [World.cell?, h], by simp [World.cell?, h], by simp [World.cell?, h], by simp [World.cell?, h], by simp [World.cell?, h], heap_lt h⟩
section
variable {W w : World} {ds : List (Ob Z0)} {g g' : Nat} {l : List Pk}
end
end

section
set_option linter.unusedVariables false
set_option maxRecDepth 100000
open Go.RowKit

theorem ldNpk {w : World} {g : Nat} {p : Pk} (h : w.heap[g]? = some (.cells (pkC p).toArray 47 (0, 0))) : (Instr.loadAt 47 (.pointer (some ⟨g, 0, none⟩))).run Tryz.prog w = .ok (.agg (pkC p).toArray) w :=
  loadAt_cs (P := Tryz.prog) Tryz.underlying47 (by kernel_rfl) fun j hj => by
    rw [cell_of_row _ _ _ _ _ _ h, Nat.zero_add, List.getElem?_toArray, List.getElem?_eq_getElem hj]
theorem new_npk (w : World) (p : Pk) : (Instr.storeAt 47 (.pointer (some ⟨w.heap.size, 0, none⟩)) (.agg (pkC p).toArray)).run Tryz.prog (w.alloc (.cells #[.int .i64 0, .bool false, .string ⟨#[]⟩] 47)) = .ok () (w.alloc (.cells (pkC p).toArray 47)) := by
  have := storeAt_row (P := Tryz.prog) (ty := 47) (cs := (pkC p).toArray) (heap_alloc_last w (.cells #[.int .i64 0, .bool false, .string ⟨#[]⟩] 47)) (by kernel_rfl) rfl (by simp [pkC, Value.oneCell'])
  rw [World.setRow_alloc_new] at this
  exact this
section
variable {W w : World} {ds : List (Ob Z0)} {g g' : Nat} {l : List Pk}
end
end

section
set_option linter.unusedVariables false
set_option maxRecDepth 100000
open Go.RowKit

theorem setCells_row : ∀ (vs X old Y : List Value) (w : World) (g : Nat) (T : TypeId), w.heap[g]? = some (.cells (X ++ old ++ Y).toArray T (0, 0)) → old.length = vs.length → w.setCells g X.length vs = w.setRow g (X ++ vs ++ Y).toArray
  | [], X, old, Y, w, g, T, hg, hl => by
    obtain rfl : old = [] := List.length_eq_zero_iff.1 hl
    exact (setRow_self w g _ _ _ hg).symm
  | v :: vs, X, [], Y, w, g, T, hg, hl => by simp at hl
  | v :: vs, X, o :: old, Y, w, g, T, hg, hl => by
    have h1 : w.setCell ⟨g, X.length, none⟩ v = w.setRow g (X ++ [v] ++ old ++ Y).toArray := by
      rw [setCell_eq_setRow w g X.length _ T (0, 0) v hg]
      congr 1
      apply Array.ext'
      simp
    have h2 := setRow_heap w g _ (X ++ [v] ++ old ++ Y).toArray _ _ hg
    have ih := setCells_row vs (X ++ [v]) old Y (w.setRow g (X ++ [v] ++ old ++ Y).toArray) g T h2 (by simpa using hl)
    rw [List.length_append, List.length_singleton] at ih
    show (w.setCell ⟨g, X.length, none⟩ v).setCells g (X.length + 1) vs = _
    rw [h1, ih, setRow_setRow]
    simp
theorem pkcs_set : ∀ (l : List Pk) (k : Nat) (p : Pk), k < l.length → pkcs (l.set k p) = (pkcs l).take (k * 3) ++ pkC p ++ (pkcs l).drop (k * 3 + 3)
  | [], k, p, h => by simp at h
  | x :: l, 0, p, h => by simp [pkcs, pkC]
  | x :: l, k + 1, p, h => by
    have ih := pkcs_set l k p (by simpa using h)
    have e1 : (k + 1) * 3 = (pkC x).length + k * 3 := by rw [pkC_len]; omega
    have e2 : (k + 1) * 3 + 3 = (pkC x).length + (k * 3 + 3) := by rw [pkC_len]; omega
    have e0 : pkcs (x :: l) = pkC x ++ pkcs l := rfl
    rw [List.set_cons_succ, show pkcs (x :: l.set k p) = pkC x ++ pkcs (l.set k p) from rfl, ih, e0, e2, e1, List.take_length_add_append, List.drop_length_add_append]
    simp
section
variable {W w : World} {ds : List (Ob Z0)}
/-- An element of a row of packets of one's own is written. -/
theorem OSt.setPk {b n c k : Nat} {R : List Pk} (h : OSt W ds w) (i : Nat) (hi : ds[i]? = some (ownOb 47 3 (.slice (some ⟨b, 0, none⟩) n c) n (pkcs R))) (hR : R.length = n) (hk : k < n) (p : Pk) :
    ∃ w', (Instr.storeAt 47 (.pointer (some ⟨b, k * 3, none⟩)) (.agg (pkC p).toArray)).run Tryz.prog w = .ok () w' ∧ OSt W (ds.set i (ownOb 47 3 (.slice (some ⟨b, 0, none⟩) n c) n (pkcs (R.set k p)))) w' := by
  obtain ⟨S, h1, _, h3, _⟩ := h.pick hi
  obtain ⟨⟨hl, ⟨hv, _⟩ | ⟨g, c', junk, hv, hB, hg, hc, hC⟩⟩, hS⟩ := h1
  · cases hv
  simp only [Value.slice.injEq, Option.some.injEq, Addr.mk.injEq, and_true, true_and] at hv
  obtain ⟨rfl, rfl⟩ := hv
  have hsz : k * 3 + 3 ≤ (pkcs R).length := by rw [hl]; omega
  have e : (pkcs R).take (k * 3) ++ ((pkcs R).drop (k * 3)).take 3 ++ ((pkcs R).drop (k * 3 + 3) ++ junk) = pkcs R ++ junk := by
    rw [← List.drop_drop, ← List.append_assoc, List.append_assoc ((pkcs R).take (k * 3)), List.take_append_drop, List.take_append_drop]
  have hlt : ((pkcs R).take (k * 3)).length = k * 3 := by rw [List.length_take]; omega
  have hl3 : (((pkcs R).drop (k * 3)).take 3).length = (pkC p).length := by rw [List.length_take, List.length_drop, pkC_len]; omega
  have h2 := setCells_row (pkC p) ((pkcs R).take (k * 3)) (((pkcs R).drop (k * 3)).take 3) ((pkcs R).drop (k * 3 + 3) ++ junk) w b 47 (by rw [e]; exact hg) hl3
  rw [hlt] at h2
  have ht : w.there b (k * 3) (pkC p).toArray.size := fun j hj => by
    have hj3 : j < 3 := hj
    refine ⟨?_, by simp [World.frozen?, hg]⟩
    rw [cell_of_row _ _ _ _ _ _ hg, List.getElem?_toArray, List.getElem?_append_left (by omega), List.getElem?_eq_getElem (by omega)]
    rfl
  have hst := run_storeAt_mid (P := Tryz.prog) (ty := 47) w b (k * 3) (pkC p).toArray ht (by kernel_rfl) (by simp [pkC, Value.oneCell'])
  refine ⟨_, hst, ?_⟩
  rw [show w.setCells b (k * 3) (pkC p).toArray.toList = _ from h2]
  have hrow : (pkcs R).take (k * 3) ++ pkC p ++ ((pkcs R).drop (k * 3 + 3) ++ junk) = pkcs (R.set k p) ++ junk := by
    rw [pkcs_set R k p (by omega)]
    simp
  rw [hrow]
  refine h3 _ _ ⟨⟨⟨by rw [pkcs_length, List.length_set, hR], .inr ⟨b, c, junk, rfl, hB, setRow_heap _ _ _ _ _ _ hg, ?_, fun u hu => ?_⟩⟩, fun b' hb' => .inl (hS b' hb')⟩, mut_setRow (hS b (by simp [Value.ownBlock])) _⟩
  · rw [pkcs_length, List.length_set]
    rw [pkcs_length] at hc
    exact hc
  · rcases List.mem_append.1 hu with hu | hu
    · exact pkcs_one _ u hu
    · exact hC u (List.mem_append_right _ hu)
end
section
variable {W w : World} {ds : List (Ob Z0)} {g g' : Nat} {l : List Pk}
def pk7 : Pk := ⟨-7, false, []⟩
end
end
end Go.Proofs.YteahlnoonmfjhaaGreat
