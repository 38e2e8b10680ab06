/- Texts of mine in one: MapK, NnA, NtL, NtM, NtR, NtO, NpA, NpB, NpC, NpD. No statement of its own. -/
import Derived.Test.YteahlnoonmfjhaaMapI
import Derived.DeepKeys4
import Derived.Test.YteahlnoonmfjhaaMn
import Derived.Test.YteahlnoonmfjhaaAgA
import Derived.Test.YteahlnoonmfjhaaAgK
import Derived.Test.YteahlnoonmfjhaaOpen
import Derived.Deep.MidRow
set_option linter.unusedVariables false
set_option maxRecDepth 100000
namespace Go.Proofs.Yteahlnoonmfjhaa
section
set_option linter.unusedVariables false
set_option maxRecDepth 100000
open Go.RowKit Go.MapKept Go.ChangeMaps

def KeyV (P : Program) (k : TypeId) (v : Value) : Prop := ∃ l, keyOf P k v = some l
section
variable {α : Type}
/-- Entries under keys kv a: F says what stands at which. -/
structure EntsK (P : Program) (k : TypeId) (kv : α → Value) (es : Array MapEntry) (clock : Nat) (F : α → Option Value) : Prop where
  st : Stamped es clock
  tos : ∀ x ∈ es.toList, ∃ a, x.key = kv a ∧ KeyV P k (kv a) ∧ F a = some x.val
  back : ∀ a v, F a = some v → ∃ x ∈ es.toList, x.key = kv a ∧ x.val = v
def MapK (P : Program) (k : TypeId) (kv : α → Value) (w : World) (b : Nat) (F : α → Option Value) : Prop := ∃ es clock, w.heap[b]? = some (.map es clock) ∧ EntsK P k kv es clock F
variable {P : Program} {t k e : TypeId} {kv : α → Value}
theorem MapK.lt {w : World} {b : Nat} {F : α → Option Value} (h : MapK P k kv w b F) : b < w.heap.size := by
  obtain ⟨es, clock, hb, _⟩ := h
  exact (Array.getElem?_eq_some_iff.1 hb).1
theorem MapK.of_block {w w' : World} {b : Nat} {F : α → Option Value} (h : MapK P k kv w b F) (q : w'.heap[b]? = w.heap[b]?) : MapK P k kv w' b F := by
  obtain ⟨es, clock, hb, h⟩ := h
  exact ⟨es, clock, q.trans hb, h⟩
theorem MapK.mut {S : Nat → Prop} {w w' : World} {b : Nat} {F : α → Option Value} (h : MapK P k kv w b F) (q : Mut S w w') (hn : ¬ S b) : MapK P k kv w' b F := h.of_block (q.block b h.lt hn)
theorem mapK_made (w : World) : MapK P k kv (w.alloc (.map #[] 0)) w.heap.size (fun _ => none) :=
  ⟨#[], 0, (MapKept.heap_alloc w _).1, ⟨stamped_empty 0, by simp, by simp⟩⟩
def updK [DecidableEq α] (F : α → Option Value) (a : α) (v : Value) : α → Option Value := fun z => if z = a then some v else F z
/-- What MapI.update says, of such a map. -/
theorem MapK.update [DecidableEq α] (hinj : ∀ a b, kv a = kv b → a = b) (K : Maps.Keyed P k) {w : World} {b : Nat} {F : α → Option Value} (h : MapK P k kv w b F) (ht : P.underlying t = some (.map k e)) {a : α} (hw : KeyV P k (kv a)) (val : Value) :
    ∃ w', (Instr.mapUpdate t (.map (some b)) (kv a) val).run P w = .ok () w' ∧ MapK P k kv w' b (updK F a val) ∧ w.grownBy w' (some b) := by
  obtain ⟨es, clock, hb, h⟩ := h
  obtain ⟨la, hkey⟩ := hw
  have hkeys : ∀ x ∈ es.toList, ∃ l, keyOf P k x.key = some l := fun x hx => by
    obtain ⟨a', h1, ⟨l, h2⟩, _⟩ := h.tos x hx
    exact ⟨l, by rw [h1]; exact h2⟩
  have hgrow : ∀ o, w.grownBy (setBlock w b o) (some b) := fun o => ⟨rfl, rfl, rfl, by simp [setBlock], fun i _ hi => heap_setBlock_other hb _ (fun e => hi (by rw [e]))⟩
  rcases K.find w hkey es.toList hkeys with ⟨h1, h2⟩ | ⟨j, e0, h1, h2, h3⟩
  · refine ⟨setBlock w b (.map (es.push ⟨kv a, val, clock⟩) (clock + 1)), ?_, ⟨_, _, heap_setBlock_same hb _, stamped_push h.st h2, ?_, ?_⟩, hgrow _⟩
    · simp [Instr.mapUpdate, run_underlying ht, MapKept.run_getObj_map hb, K.check w false hkey, h1, MapKept.run_setObj_map _ hb, Result.andThen, setBlock]
    · intro x hx
      simp only [Array.toList_push, List.mem_append, List.mem_singleton] at hx
      rcases hx with hx | rfl
      · obtain ⟨a', h4, h5, h6⟩ := h.tos x hx
        refine ⟨a', h4, h5, ?_⟩
        have : a' ≠ a := fun e => h2 x hx (by rw [h4, e])
        simp [updK, this, h6]
      · exact ⟨a, rfl, ⟨la, hkey⟩, by simp [updK]⟩
    · intro z v hz
      simp only [Array.toList_push, List.mem_append, List.mem_singleton]
      unfold updK at hz
      split at hz
      · rename_i e1
        subst e1
        exact ⟨_, .inr rfl, rfl, by simpa using hz⟩
      · obtain ⟨x, hx, h4, h5⟩ := h.back z v hz
        exact ⟨x, .inl hx, h4, h5⟩
  · have hj : es[j]? = some e0 := by simpa using h2
    have hjl : j < es.toList.length := (List.getElem?_eq_some_iff.1 h2).1
    have hlist : (es.modify j (fun e' => { e' with key := kv a, val := val })).toList = es.toList.set j { e0 with key := kv a, val := val } := by rw [Array.toList_modify, modify_eq_set _ _ _ _ h2]
    refine ⟨setBlock w b (.map (es.modify j (fun e' => { e' with key := kv a, val := val })) clock), ?_, ⟨_, _, heap_setBlock_same hb _, stamped_modify h.st _ _ (fun _ _ => rfl) (fun e' _ he' => by rw [hj] at he'; cases he'; exact h3.symm), ?_, ?_⟩, hgrow _⟩
    · simp [Instr.mapUpdate, run_underlying ht, MapKept.run_getObj_map hb, K.check w false hkey, h1, hj, h3, K.stays w hkey, MapKept.run_setObj_map _ hb, Result.andThen, setBlock]
    · intro x hx
      rw [hlist] at hx
      obtain ⟨i, hi, ex⟩ := List.getElem_of_mem hx
      rw [List.getElem_set] at ex
      split at ex
      · subst ex
        exact ⟨a, rfl, ⟨la, hkey⟩, by simp [updK]⟩
      · rename_i hne
        have hi' : i < es.toList.length := by simpa using hi
        have hix : es.toList[i]? = some x := by rw [List.getElem?_eq_getElem hi', ex]
        obtain ⟨a', h4, h5, h6⟩ := h.tos x (List.mem_of_getElem? hix)
        refine ⟨a', h4, h5, ?_⟩
        have : a' ≠ a := fun e1 => key_apart h.st hix h2 (fun e2 => hne e2.symm) (by rw [h4, h3, e1])
        simp [updK, this, h6]
    · intro z v hz
      rw [hlist]
      unfold updK at hz
      split at hz
      · rename_i e1
        subst e1
        exact ⟨{ e0 with key := kv z, val := val }, List.mem_iff_getElem.2 ⟨j, by simpa using hjl, by simp⟩, rfl, by simpa using hz⟩
      · rename_i hza
        obtain ⟨x, hx, h4, h5⟩ := h.back z v hz
        obtain ⟨i, hi, ex⟩ := List.getElem_of_mem hx
        have hij : j ≠ i := fun e1 => by
          subst e1
          have : e0 = x := by rw [List.getElem?_eq_getElem hi] at h2; rw [← ex]; exact (Option.some.inj h2).symm
          subst this
          rw [h3] at h4
          exact hza (hinj _ _ h4).symm
        exact ⟨x, List.mem_iff_getElem.2 ⟨i, by simpa using hi, by rw [List.getElem_set_ne hij]; exact ex⟩, h4, h5⟩
theorem MapK.look (hinj : ∀ a b, kv a = kv b → a = b) (K : Maps.Keyed P k) {w : World} {b : Nat} {F : α → Option Value} (h : MapK P k kv w b F) (c : Bool) (ht : P.underlying t = some (.map k e)) {z : Value} (hz : (zeroValue e).run P w = .ok z w) {a : α} (hw : KeyV P k (kv a)) :
    (Instr.lookup t (.map (some b)) (kv a) c).run P w = .ok (if c then .tuple #[(F a).getD z, .bool (F a).isSome] else (F a).getD z) w := by
  obtain ⟨es, clock, hb, h⟩ := h
  obtain ⟨la, hkey⟩ := hw
  have hkeys : ∀ x ∈ es.toList, ∃ l, keyOf P k x.key = some l := fun x hx => by
    obtain ⟨a', h1, ⟨l, h2⟩, _⟩ := h.tos x hx
    exact ⟨l, by rw [h1]; exact h2⟩
  rcases K.find w hkey es.toList hkeys with ⟨h1, h2⟩ | ⟨j, e0, h1, h2, h3⟩
  · have hF : F a = none := by
      cases hFa : F a with
      | none => rfl
      | some v =>
        obtain ⟨x, hx, h4, _⟩ := h.back a v hFa
        exact absurd h4 (h2 x hx)
    simp [Instr.lookup, run_underlying ht, MapKept.run_getObj_map hb, K.check w _ hkey, h1, hz, Result.andThen, hF]
  · have hF : F a = some e0.val := by
      obtain ⟨a', h4, _, h6⟩ := h.tos e0 (List.mem_of_getElem? h2)
      rw [h3] at h4
      rw [hinj _ _ h4, h6]
    simp [Instr.lookup, run_underlying ht, MapKept.run_getObj_map hb, K.check w _ hkey, h1, Result.andThen, hF]
end
end

section
set_option linter.unusedVariables false
set_option maxRecDepth 100000
open Go.RowKit

/-- The first place at which a row without its i-th differs holds what the i-th was. -/
theorem lose_at {α : Type} {l : List α} {i a : Nat} (hi : i < l.length) (ha : a < l.length) (h : ∀ j, j < a → (l.eraseIdx i)[j]? = l[j]?) (he : a + 1 = l.length ∨ (l.eraseIdx i)[a]? ≠ l[a]?) : l[a]? = l[i]? := by
  by_cases hlt : a < i
  · exfalso
    rcases he with he | he
    · omega
    · exact he (List.getElem?_eraseIdx_of_lt hlt)
  · have hs : ∀ d, i + d ≤ a → l[i + d]? = l[i]? := by
      intro d
      induction d with
      | zero => intro _; rfl
      | succ d ih =>
        intro hd
        have h1 := h (i + d) (by omega)
        rw [List.getElem?_eraseIdx_of_ge (by omega)] at h1
        rw [show i + (d + 1) = i + d + 1 by omega, h1]
        exact ih (by omega)
    have := hs (a - i) (by omega)
    rwa [show i + (a - i) = a by omega] at this
theorem cnt_erase : ∀ {l : List Pk} {i : Nat} {p : Pk}, l[i]? = some p → ∀ q, l.count q = (l.eraseIdx i).count q + if p = q then 1 else 0
  | [], i, p, h, q => by simp at h
  | x :: l, 0, p, h, q => by
    simp only [List.getElem?_cons_zero, Option.some.injEq] at h
    subst h
    rw [List.eraseIdx_cons_zero, List.count_cons]
    simp
  | x :: l, i + 1, p, h, q => by
    simp only [List.getElem?_cons_succ] at h
    have ih := cnt_erase h q
    rw [List.eraseIdx_cons_succ, List.count_cons, List.count_cons, ih]
    omega
theorem cnt_snoc (l : List Pk) (p q : Pk) : (l ++ [p]).count q = l.count q + if p = q then 1 else 0 := by
  rw [List.count_append, List.count_singleton]
  simp
theorem cnt_drop {l : List Pk} {k : Nat} {p : Pk} (h : l[k]? = some p) (q : Pk) : (l.drop k).count q = (l.drop (k + 1)).count q + if p = q then 1 else 0 := by
  obtain ⟨hk, rfl⟩ := List.getElem?_eq_some_iff.1 h
  rw [List.drop_eq_getElem_cons hk, List.count_cons]
  simp
/-- A packet that has been put. -/
def PkOk (p : Pk) : Prop := 1 ≤ p.c ∧ p.c ≤ 16 ∧ p.b.length ≤ 4096
theorem put_ok {l : List Pk} {p : Pk} (h : putE l p = 0) : PkOk p ∧ putN l p = l ++ [p] := by
  have h' := h
  unfold putE at h
  split at h
  · cases h
  · split at h
    · cases h
    · exact ⟨⟨by omega, by omega, by omega⟩, by unfold putN; rw [if_pos h']⟩
theorem put_no {l : List Pk} {p : Pk} (h : putE l p ≠ 0) : putN l p = l := by unfold putN; rw [if_neg h]
theorem putN_ok {l : List Pk} {p : Pk} (hl : ∀ q ∈ l, PkOk q) : ∀ q ∈ putN l p, PkOk q := by
  by_cases h : putE l p = 0
  · obtain ⟨h1, h2⟩ := put_ok h
    rw [h2]
    intro q hq
    rcases List.mem_append.1 hq with hq | hq
    · exact hl q hq
    · obtain rfl := List.mem_singleton.1 hq
      exact h1
  · rw [put_no h]
    exact hl
theorem takeN_ok {l : List Pk} {a : Int} (hl : ∀ q ∈ l, PkOk q) : ∀ q ∈ (takeN l a).2.2, PkOk q := by
  unfold takeN
  split
  · exact hl
  · exact fun q hq => hl q (List.mem_of_mem_eraseIdx hq)
theorem dblN_ok {l : List Pk} {a : Int} (hl : ∀ q ∈ l, PkOk q) : ∀ q ∈ (dblN l a).2, PkOk q := by
  unfold dblN
  split
  · exact hl
  · rename_i p hp
    split
    · exact hl
    · intro q hq
      rcases List.mem_append.1 hq with hq | hq
      · exact hl q hq
      · obtain rfl := List.mem_singleton.1 hq
        exact hl q (List.mem_of_getElem? hp)
/-- What the document's Double comes to. -/
theorem dbl_put {l : List Pk} {a : Int} {p : Pk} (hl : ∀ q ∈ l, PkOk q) (hp : l[ixN a l.length]? = some p) : putE l p = (dblN l a).1 ∧ putN l p = (dblN l a).2 := by
  obtain ⟨h1, h2, h3⟩ := hl p (List.mem_of_getElem? hp)
  have e : putE l p = if 256 ≤ l.length then 3 else 0 := by
    unfold putE
    rw [if_neg (by omega), if_neg (by omega)]
  unfold dblN putN
  rw [hp, e]
  simp only
  split <;> simp
theorem take_cases {l : List Pk} (a : Int) (hn : l.length ≤ 1000) : (l = [] ∧ takeN l a = (pk0, 5, [])) ∨ ∃ p, l[ixN a l.length]? = some p ∧ takeN l a = (p, 0, l.eraseIdx (ixN a l.length)) ∧ ixN a l.length < l.length := by
  by_cases h0 : l.length = 0
  · have hl : l = [] := List.length_eq_zero_iff.1 h0
    subst hl
    exact .inl ⟨rfl, rfl⟩
  · obtain ⟨-, e2⟩ := ixN_spec a (Nat.pos_of_ne_zero h0) (by omega)
    obtain ⟨p, hp⟩ : ∃ p, l[ixN a l.length]? = some p := ⟨_, List.getElem?_eq_getElem e2⟩
    refine .inr ⟨p, hp, ?_, e2⟩
    unfold takeN
    rw [hp]
theorem dbl_cases {l : List Pk} (a : Int) (hn : l.length ≤ 1000) : (l = [] ∧ dblN l a = (5, [])) ∨ ∃ p, l[ixN a l.length]? = some p ∧ dblN l a = if 256 ≤ l.length then (3, l) else (0, l ++ [p]) := by
  by_cases h0 : l.length = 0
  · have hl : l = [] := List.length_eq_zero_iff.1 h0
    subst hl
    exact .inl ⟨rfl, rfl⟩
  · obtain ⟨-, e2⟩ := ixN_spec a (Nat.pos_of_ne_zero h0) (by omega)
    obtain ⟨p, hp⟩ : ∃ p, l[ixN a l.length]? = some p := ⟨_, List.getElem?_eq_getElem e2⟩
    refine .inr ⟨p, hp, ?_⟩
    unfold dblN
    rw [hp]

/-! A packet as a key. -/
def pkV (p : Pk) : Value := .agg (pkC p).toArray
theorem pkV_inj : ∀ a b : Pk, pkV a = pkV b → a = b := by
  rintro ⟨a1, a2, a3⟩ ⟨b1, b2, b3⟩ h
  simp [pkV, pkC, str] at h
  obtain ⟨rfl, rfl, h3⟩ := h
  simpa using h3
theorem pk_law : Maps.Keyed Try.prog 25 :=
  Maps.Keyed.of_law (deep_law_laid (by kernel_rfl) (m := 2) (by omega) (of_decide_eq_true (by kernel_rfl)) (by kernel_rfl) (by kernel_rfl))
theorem pk_key (p : Pk) (hc : I64 p.c) (hb : p.b.length ≤ maxLen) : KeyV Try.prog 25 (pkV p) := by
  have h1 : Try.prog.keyType 25 = true := by kernel_rfl
  have h2 : (pkV p).formed Try.prog 25 = true := by
    have hc : Try.prog.cellsOf 25 = 3 := by kernel_rfl
    simp [pkV, pkC, Value.formed, Try.underlying25, hc]
  have h3 : (str p.b).size ≤ maxLen := by rw [str_size]; exact hb
  have h4 : (Lit.int .i64 p.c).wf = true := by
    unfold I64 at hc
    simp [Lit.wf, IntKind.min, IntKind.max, IntKind.signed, IntKind.bits]
    omega
  obtain ⟨n, hn⟩ : ∃ n, Try.prog.types.size = n + 1 := ⟨_, (by kernel_rfl : Try.prog.types.size = (Try.prog.types.size - 1) + 1)⟩
  have c1 : Try.prog.cellsOf 25 = 3 := by kernel_rfl
  have c2 : Try.prog.cellsOf 3 = 1 := by kernel_rfl
  have c3 : Try.prog.cellsOf 4 = 1 := by kernel_rfl
  have c4 : Try.prog.cellsOf 9 = 1 := by kernel_rfl
  have h5 : (Try.prog.keyLits (Try.prog.types.size + 1) 25 (pkV p).cells.toList).isSome = true := by
    rw [hn]
    have e : (pkV p).cells.toList = [.int .i64 p.c, .bool p.up, .string (str p.b)] := rfl
    rw [e]
    simp [Program.keyLits, Try.underlying25, Try.underlying3, Try.underlying4, Try.underlying9, c1, c2, c3, c4, h3, h4]
  obtain ⟨ls, h5⟩ := Option.isSome_iff_exists.1 h5
  unfold KeyV keyOf
  rw [Try.underlying25]
  simp only [h1, h2, h5, Bool.and_self, if_true, Option.map_some]
  exact ⟨_, rfl⟩
end

section
set_option linter.unusedVariables false
set_option maxRecDepth 100000
open Go.RowKit

/-- Append to a row of no cells: nothing that was there changes. -/
theorem appE {P : Program} {w : World} {B sz : Nat} {C : Value → Prop} {x : Value} {g m : Nat} {new : List Value} {t tx ty e : TypeId} {i : TypeInfo} {z : Value} (ht : P.underlying t = some (.slice e)) (hi : P.info? e = some i) (h1 : i.size = sz) (hz : i.zero = some z) (hzz : z.cells.size = sz)
    (hg : w.heap[g]? = some (.cells #[] e (0, 0))) (hs : Src P sz tx x m new w) (hBg : B ≤ g) (hsz : 0 < sz) (hCn : ∀ u ∈ new, C u) (hCz : ∀ u ∈ z.cells, C u) (hc : m * i.bytes ≤ 140737488355328) (hm : m ≤ 140737488355328) :
    ∃ v' w', (Builtin.append_ #[t, tx] ty #[.slice (some ⟨g, 0, none⟩) 0 0, x]).run P w = .ok v' w' ∧ OwnR w' B e sz C v' m new ∧ Ext w w' := by
  have hnl := hs.newsLen
  have hgl := heap_lt hg
  by_cases h00 : m = 0
  · subst h00
    have hnew : new = [] := List.length_eq_zero_iff.1 (by simpa using hnl)
    subst hnew
    refine ⟨.slice (some ⟨g, 0, none⟩) 0 0, w, ?_, ⟨by simp, .inr ⟨g, 0, [], rfl, hBg, hg, by simp, by simp⟩⟩, Ext.refl _⟩
    have hcells : (Builtin.firstCells sz 0 x).run P w = .ok #[] w := hs.cells
    rcases hs.kind with ⟨e', hk⟩ | hk <;> simp [Builtin.append_, run_underlying ht, run_underlying hk, sizeOf, typeInfo, hi, h1, hs.len, hcells, storeCells]
  · have hs' := hs
    rw [← h1] at hs'
    have hr := run_append_grow_src (P := P) w t tx ty e i z ht hi hz (some ⟨g, 0, none⟩) 0 0 [] (by rw [h1]; exact run_firstCells_some (P := P) w.drew sz 0 ⟨g, 0, none⟩ 0 0 [] (by simp) fun j u hu => by simp at hu) x m new hs' (by omega) (by omega) (growslice_fits (by omega) (by simpa using hc))
    simp only [List.nil_append, Nat.zero_add] at hr
    have hge := grownCap_ge w m 0 e
    have hzl : (Builtin.zeroCells z.cells (grownCap w m 0 e - m)).toList.length = (grownCap w m 0 e - m) * sz := by simp [Builtin.zeroCells, hzz]
    have hE : Ext w (w.drew.alloc (.cells (new.toArray ++ Builtin.zeroCells z.cells (grownCap w m 0 e - m)) e)) := (Below.refl _ w).drew.alloc (Nat.le_refl _) _
    refine ⟨_, _, hr, ⟨hnl, .inr ⟨w.heap.size, grownCap w m 0 e, (Builtin.zeroCells z.cells (grownCap w m 0 e - m)).toList, rfl, by omega, ?_, ?_⟩⟩, hE⟩
    · have hrow : new.toArray ++ Builtin.zeroCells z.cells (grownCap w m 0 e - m) = (new ++ (Builtin.zeroCells z.cells (grownCap w m 0 e - m)).toList).toArray := by
        apply Array.ext'; simp
      rw [hrow]
      exact heap_alloc_new w.drew _
    · refine ⟨by rw [hnl, hzl, ← Nat.add_mul]; congr 1; omega, fun u hu => ?_⟩
      rcases List.mem_append.1 hu with hu | hu
      · exact hCn u hu
      · simp only [Builtin.zeroCells, Array.mem_toList_iff, Array.mem_map, Array.mem_range] at hu
        obtain ⟨j, _, rfl⟩ := hu
        have hj : j % z.cells.size < z.cells.size := Nat.mod_lt _ (by omega)
        rw [getElem!_pos z.cells _ hj]
        exact hCz _ (Array.getElem_mem hj)
theorem appE_rpk {w : World} {B g : Nat} {x : Value} {m : Nat} {new : List Value} {tx ty : TypeId} (hg : w.heap[g]? = some (.cells #[] 84 (0, 0))) (hs : Src Try.prog 3 tx x m new w) (hB : B ≤ g) (hn : ∀ u ∈ new, One u) (hc : m ≤ 1000000) :
    ∃ v' w', (Builtin.append_ #[96, tx] ty #[.slice (some ⟨g, 0, none⟩) 0 0, x]).run Try.prog w = .ok v' w' ∧ OwnR w' B 84 3 One v' m new ∧ Ext w w' := by
  have h : (Try.prog.info? 84).map (fun i => (i.zero, i.size, i.bytes)) = some (some (.agg #[.int .i64 0, .bool false, .string ⟨#[]⟩]), 3, 32) := by kernel_rfl
  obtain ⟨i, hi, hz0, hz1, hz2⟩ := info_prt h
  exact appE (ty := ty) Try.underlying96 hi hz1 hz0 rfl hg hs hB (by omega) hn (by intro u hu; simp [Value.cells] at hu; rcases hu with rfl | rfl | rfl <;> rfl) (by rw [hz2]; omega) (by omega)
abbrev rnO (g : Nat) (l : List Pk) : Ob Z0 := ntOb 98 84 [] [] g l.length (pkcs l)
theorem rnO_new (w : World) : (rnO w.heap.size []).is (w.alloc (.cells #[.slice none 0 0] 98)) (fun i => w.heap.size ≤ i ∧ i < (w.alloc (.cells #[.slice none 0 0] 98)).heap.size) :=
  ⟨.slice none 0 0, heap_alloc_last w _, OwnR.nil, ⟨Nat.le_refl _, by simp⟩, fun b hb => by simp [Value.ownBlock] at hb⟩
set_option maxHeartbeats 4000000 in
theorem rnPut_any {S : Nat → Prop} {g : Nat} {l : List Pk} (p : Pk) (w : World) (h : (rnO g l).is w S) (hn : l.length ≤ 1000) :
    Calls Try.prog 101 #[.pointer (some ⟨g, 0, none⟩), .agg (pkC p).toArray] w fun e w' => e = .returned (.int .i64 (putE l p)) ∧ To S w w' (rnO g (putN l p)) := by
  have hh := Lib.hid h
  obtain ⟨v, h⟩ := h
  obtain ⟨A, c, rfl⟩ := h.row.form
  have sb := str_size p.b
  obtain ⟨nb, hnb⟩ : ∃ n, p.b.length = n := ⟨_, rfl⟩
  rw [hnb] at sb
  obtain ⟨n, hnn⟩ : ∃ n, l.length = n := ⟨_, rfl⟩
  have h' : NtP w S 98 84 [] [] g n (pkcs l) (.slice A n c) := by rw [hnn] at h; exact h
  have hx := extAl w (.cells (pkC p).toArray 84)
  have hvl : ∀ b, (Value.slice A n c).ownBlock = some b → b ≠ w.heap.size := fun b hb e => by have := own_lt h'.row hb; omega
  have HV := Lib.hid hvl
  have HX := Lib.hid hx
  have H := Lib.hid h'
  have H1 := Lib.hid (h'.ext hx)
  have HB := Lib.hid (heap_alloc_last w (.cells (pkC p).toArray 84))
  have HNB := Lib.hid hnb
  have HN := Lib.hid hnn
  have HP1 := Lib.hid (pkC_one p)
  have hn' : n ≤ 1000 := by omega
  clear h h' hnb hnn hn hx hvl
  by_cases h1 : p.c < 1
  · have e1 : putE l p = 1 := by unfold putE; rw [if_pos (.inl h1)]
    have e2 : putN l p = l := by unfold putN; rw [e1, if_neg (by decide)]
    rw [e1, e2]
    go_enter Try.func101, Try.ntmps101
    go_upto_region 1 with fail
    generalize w.alloc (.cells (pkC p).toArray 84) = w1 at *
    obtain ⟨d0, d1, d2, -, dl⟩ := nt_c2 (l := []) HB.out
    obtain ⟨cr, -, gl⟩ := nt_c0 H1.out.hg
    have FF := Lib.hid (To.of_ext hh.out HX.out)
    go_wp2_with fail
    go_ret
    exact ⟨rfl, FF.out⟩
  by_cases h16 : 16 < p.c
  · have e1 : putE l p = 1 := by unfold putE; rw [if_pos (.inr h16)]
    have e2 : putN l p = l := by unfold putN; rw [e1, if_neg (by decide)]
    rw [e1, e2]
    go_enter Try.func101, Try.ntmps101
    go_upto_region 1 with fail
    generalize w.alloc (.cells (pkC p).toArray 84) = w1 at *
    obtain ⟨d0, d1, d2, -, dl⟩ := nt_c2 (l := []) HB.out
    obtain ⟨cr, -, gl⟩ := nt_c0 H1.out.hg
    have FF := Lib.hid (To.of_ext hh.out HX.out)
    go_wp2_with fail
    go_ret
    exact ⟨rfl, FF.out⟩
  have h116 : ¬ (p.c < 1 ∨ 16 < p.c) := by omega
  by_cases h2 : 4096 < nb
  · have e1 : putE l p = 40 := by unfold putE; rw [if_neg h116, HNB.out, if_pos h2]
    have e2 : putN l p = l := by unfold putN; rw [e1, if_neg (by decide)]
    rw [e1, e2]
    clear h116
    go_enter Try.func101, Try.ntmps101
    go_upto_region 1 with fail
    generalize w.alloc (.cells (pkC p).toArray 84) = w1 at *
    obtain ⟨d0, d1, d2, -, dl⟩ := nt_c2 (l := []) HB.out
    obtain ⟨cr, -, gl⟩ := nt_c0 H1.out.hg
    have FF := Lib.hid (To.of_ext hh.out HX.out)
    go_wp2_with fail
    go_ret
    exact ⟨rfl, FF.out⟩
  by_cases h3 : 256 ≤ n
  · have e1 : putE l p = 3 := by unfold putE; rw [if_neg h116, HNB.out, if_neg h2, HN.out, if_pos h3]
    have e2 : putN l p = l := by unfold putN; rw [e1, if_neg (by decide)]
    rw [e1, e2]
    clear h116
    go_enter Try.func101, Try.ntmps101
    go_upto_region 1 with fail
    generalize w.alloc (.cells (pkC p).toArray 84) = w1 at *
    obtain ⟨d0, d1, d2, -, dl⟩ := nt_c2 (l := []) HB.out
    obtain ⟨cr, -, gl⟩ := nt_c0 H1.out.hg
    have FF := Lib.hid (To.of_ext hh.out HX.out)
    go_wp2_with fail
    go_ret
    exact ⟨rfl, FF.out⟩
  have e1 : putE l p = 0 := by unfold putE; rw [if_neg h116, HNB.out, if_neg h2, HN.out, if_neg h3]
  have e2 : putN l p = l ++ [p] := by unfold putN; rw [e1, if_pos rfl]
  rw [e1, e2]
  have hle : (l ++ [p]).length = n + 1 := by rw [List.length_append, HN.out]; rfl
  have HLE := Lib.hid hle
  have HPE := Lib.hid (pkC_eq p)
  clear h116 e1 e2 hle
  go_enter Try.func101, Try.ntmps101
  go_upto_region 1 with fail
  generalize w.alloc (.cells (pkC p).toArray 84) = w1 at *
  obtain ⟨d0, d1, d2, -, dl⟩ := nt_c2 (l := []) HB.out
  obtain ⟨cr, -, gl⟩ := nt_c0 H1.out.hg
  go_upto_region 7 with fail
  obtain ⟨So, HSo⟩ : ∃ So : Nat → Prop, Hid (So = fun j => (Value.slice A n c).ownBlock = some j) := ⟨_, Lib.hid rfl⟩
  have hng : ¬ So g := by rw [HSo.out]; exact fun e => own_ne H1.out.row H1.out.hg (by decide) e
  have hnb : ¬ So w.heap.size := by rw [HSo.out]; exact fun e => HV.out _ e rfl
  have q0 : ∀ (ψ : World → Prop) (e : ExtS So w1 ψ), e.val.cell? ⟨g, 0, none⟩ = some (.slice A n c) := fun ψ e => e.cell cr gl hng
  have q1 : ∀ (ψ : World → Prop) (e : ExtS So w1 ψ), e.val.cell? ⟨w.heap.size, 0, none⟩ = some _ := fun ψ e => e.cell d0 dl hnb
  have q2 : ∀ (ψ : World → Prop) (e : ExtS So w1 ψ), e.val.cell? ⟨w.heap.size, 1, none⟩ = some _ := fun ψ e => e.cell d1 dl hnb
  have q3 : ∀ (ψ : World → Prop) (e : ExtS So w1 ψ), e.val.cell? ⟨w.heap.size, 2, none⟩ = some _ := fun ψ e => e.cell d2 dl hnb
  clear d0 d1 d2 cr HB h1 h16 h2 h3
  refine wp_region_piecesS So 8 [(true, [0, 1, 2, 3, 4, 5]), (false, [6]), (false, [7])] (by kernel_rfl) (by kernel_rfl) ?_
  simp only [pick, List.map_cons, List.map_nil, List.flatMap_cons, List.flatMap_nil, Option.toList_some, List.singleton_append, List.drop_succ_cons, List.drop_zero, List.getElem?_cons_zero, List.getElem?_cons_succ]
  refine ⟨by kernel_rfl, ?_⟩; apply Exists.intro; refine ⟨fun ψ hψ hne => (by (repeat (go_big_quiet_step (( fail )))); exact wpQuiet_nil rfl), ?_⟩
  clear q0 q1 q2 q3
  intro wa ha K hK
  have BS := heap_alloc_last wa (.cells (pkC p).toArray 84)
  have Ha := Lib.hid (Ext.trans (a := w1) ha (extAl wa (.cells (pkC p).toArray 84)))
  have Hx := Lib.hid (extAl wa (.cells (pkC p).toArray 84))
  go_wp2_with fail
  rw [← HPE.out]
  refine hK _ _ (Mut.of_ext Hx.out) ?_
  clear hK K ha Hx
  generalize wa.alloc (.cells (pkC p).toArray 84) = wA at *
  generalize wa.heap.size = g9 at *
  intro wb hb K hK
  have hsrc := src_row (P := Try.prog) (sz := 3) (tx := 96) (n := 1) (c := 1) Try.underlying96 ((Below.block hb g9 (heap_lt BS)).trans BS) (by rfl) HP1.out
  obtain ⟨v', wc, hr, ho, -, hgr, hs⟩ := app_rpk (ty := 96) (H1.out.row.ext (Ext.trans Ha.out hb)) hsrc (Nat.zero_le _) HP1.out (by omega)
  obtain ⟨A', c', rfl⟩ := ho.form
  have Hr := Lib.hid hr
  have hMS : Mut So wb wc := Mut.of_grown hgr fun b hb => by rw [HSo.out]; exact hb
  have MS := Lib.hid hMS
  have hXb : Ext w wb := Ext.trans HX.out (Ext.trans Ha.out hb)
  have HXb := Lib.hid hXb
  have HG := Lib.hid ((hMS.block g (Nat.lt_of_lt_of_le gl (Ext.trans Ha.out hb).size) hng).trans ((Below.block (Ext.trans Ha.out hb) g gl).trans H1.out.hg))
  have HO := Lib.hid ho
  have HS2 : Hid (∀ b, (Value.slice A' (n + 1) c').ownBlock = some b → S b ∨ w.heap.size ≤ b) := Lib.hid fun b hb => (hs b hb).imp (fun h => H.out.sv b h) fun h => Nat.le_trans hXb.size h
  have HM0 : Hid (Mut S w wc) := Lib.hid ((Mut.of_ext hXb).trans (hMS.mono fun j hj => H.out.sv j (by rw [HSo.out] at hj; exact hj)))
  clear hr ho hgr hs hMS hsrc BS hb hXb
  go_wp2_with (at_builtin; refine wpList_app rfl (.tmp 27) (.tmp 29) 96 96 rfl Hr.out ?_; simp only [Act.put])
  refine hK _ _ MS.out ?_
  clear hK K
  simp only [List.setIfInBounds_toArray, List.set_cons_zero, List.set_cons_succ]
  intro w3 h3
  have hg3 := (Below.block h3 g (heap_lt HG.out)).trans HG.out
  have F := H.out.fin (pre' := []) (post' := []) (v' := .slice A' (n + 1) c') (by decide) (HM0.out.trans (Mut.of_ext h3)) hg3 (HO.out.ext h3) HS2.out
  have hst := nt_s0 (.slice A' (n + 1) c') hg3
  obtain ⟨cr, cf, cl⟩ := nt_c0 hg3
  have ST := Lib.hid hst
  have hF : To S w (w3.setRow g #[.slice A' (n + 1) c']) (rnO g (l ++ [p])) := by
    show To S w _ (ntOb _ _ [] [] g (l ++ [p]).length (pkcs (l ++ [p])))
    rw [pkcs_snoc, HLE.out]
    exact F
  have FF := Lib.hid hF
  clear hst F hF hg3 h3 HO HM0 HS2 HG MS Hr HXb
  go_wp2_with fail
  rw [ST.out]
  go_wp2_with fail
  go_ret
  exact ⟨rfl, FF.out⟩
theorem rnPlace_any {S : Nat → Prop} {g : Nat} {l : List Pk} (a : Int) (w : World) (h : (rnO g l).is w S) (h0 : l.length ≠ 0) (hn : l.length ≤ 1000000) :
    Calls Try.prog 145 #[.pointer (some ⟨g, 0, none⟩), .int .i64 a] w fun e w' => e = .returned (.int .i64 (ixN a l.length : Int)) ∧ Ext w w' := by
  obtain ⟨v, h⟩ := h
  obtain ⟨A, c, rfl⟩ := h.row.form
  obtain ⟨cr, -, gl⟩ := nt_c0 h.hg
  generalize l.length = n at *
  clear h
  obtain ⟨e1, e2⟩ := ixN_spec a (Nat.pos_of_ne_zero h0) hn
  rw [← e1]
  have hz : ((n : Int) == 0) = false := by rw [beq_eq_false_iff_ne]; omega
  have hu : IntKind.u64.wrap (n : Int) = n := by simp [IntKind.wrap, IntKind.bits, IntKind.signed]; omega
  clear e1 e2
  go_enter Try.func145, Try.ntmps145
  go_wp2
  go_ret
  exact ⟨rfl, Ext.refl _⟩
end

section
set_option linter.unusedVariables false
set_option maxRecDepth 100000
open Go.RowKit

theorem rnCopy_any {S : Nat → Prop} {g : Nat} {l : List Pk} (w : World) (h : (rnO g l).is w S) (hn : l.length ≤ 1000) :
    Calls Try.prog 47 #[.pointer (some ⟨g, 0, none⟩)] w fun e w' => ∃ g', e = .returned (.pointer (some ⟨g', 0, none⟩)) ∧ (rnO g' l).is w' (fun i => w.heap.size ≤ i ∧ i < w'.heap.size) ∧ Ext w w' := by
  obtain ⟨v, h⟩ := h
  obtain ⟨A, c, rfl⟩ := h.row.form
  have hx := extAl w (.cells #[] 84)
  have h1 := h.ext hx
  obtain ⟨cr, -, gl⟩ := nt_c0 h1.hg
  obtain ⟨v1, w1, hr, ho, hx1⟩ := appE_rpk (tx := 96) (ty := 96) (B := w.heap.size) (heap_alloc_last w _) ((h1.row.rr (by omega)).src Try.underlying96 (pkcs_one l)) (Nat.le_refl _) (pkcs_one l) (by omega)
  obtain ⟨A1, c1, rfl⟩ := ho.form
  have Hr := Lib.hid hr
  have hxx := Ext.trans hx hx1
  have h2 := extAl w1 (.cells #[.slice A1 l.length c1] 98)
  have hb := heap_alloc_last w1 (.cells #[.slice A1 l.length c1] 98)
  have hz := Below.size hxx
  have hlt := heap_lt hb
  have HF : Hid ((rnO w1.heap.size l).is (w1.alloc (.cells #[.slice A1 l.length c1] 98)) (fun i => w.heap.size ≤ i ∧ i < (w1.alloc (.cells #[.slice A1 l.length c1] 98)).heap.size)) := Lib.hid
    ⟨.slice A1 l.length c1, hb, (ho.ext h2).mono (Nat.zero_le _), ⟨hz, hlt⟩, fun b hb => by
      have := own_lt ho hb
      have h3 := h2.size
      exact ⟨by omega, by omega⟩⟩
  have HE : Hid (Ext w (w1.alloc (.cells #[.slice A1 l.length c1] 98))) := Lib.hid (Ext.trans hxx h2)
  clear h h1 hx hr ho hx1 hxx h2 hb hz hlt
  generalize l.length = n at *
  go_enter Try.func47, Try.ntmps47
  go_wp2_with (at_builtin; refine wpList_app rfl (.tmp 3) (.tmp 7) 96 96 rfl Hr.out ?_; simp only [Act.put])
  go_ret
  exact ⟨_, rfl, HF.out, HE.out⟩
set_option maxHeartbeats 4000000 in
theorem rnDouble_any {S : Nat → Prop} {g : Nat} {l : List Pk} (a : Int) (w : World) (h : (rnO g l).is w S) (hn : l.length ≤ 1000) (hok : ∀ q ∈ l, PkOk q) :
    Calls Try.prog 104 #[.pointer (some ⟨g, 0, none⟩), .int .i64 a] w fun e w' => e = .returned (.int .i64 (dblN l a).1) ∧ To S w w' (rnO g (dblN l a).2) := by
  have hh := Lib.hid h
  obtain ⟨v, h⟩ := h
  obtain ⟨A, c, rfl⟩ := h.row.form
  obtain ⟨cr, -, gl⟩ := nt_c0 h.hg
  by_cases h0 : l.length = 0
  · have hl : l = [] := List.length_eq_zero_iff.1 h0
    subst hl
    have e : dblN [] a = (5, []) := rfl
    rw [e]
    have FF := Lib.hid (To.refl hh.out)
    clear h0 e h
    go_enter Try.func104, Try.ntmps104
    go_wp2_with fail
    go_ret
    exact ⟨rfl, FF.out⟩
  · obtain ⟨-, e2⟩ := ixN_spec a (Nat.pos_of_ne_zero h0) (by omega)
    obtain ⟨p, hp⟩ : ∃ p, l[ixN a l.length]? = some p := ⟨_, List.getElem?_eq_getElem e2⟩
    have KP := Lib.hid fun (w' : World) (k : Ext w w') => rnPlace_any a w' ((rnO g l).ext hh.out k) h0 (by omega)
    have KQ := Lib.hid fun (w' : World) (k : Ext w w') => rnPut_any p w' ((rnO g l).ext hh.out k) hn
    obtain ⟨e3, e4⟩ := dbl_put hok hp
    rw [e3, e4] at KQ
    obtain ⟨gs, rfl, -, hsl, hnc, hj⟩ := h.row.cells (Nat.pos_of_ne_zero h0)
    have hz := h.row.rr (by decide)
    have z0 := RR.cellAt (enc := pkC) hz pkC_len hp (i := 0) rfl
    have z1 := RR.cellAt (enc := pkC) hz pkC_len hp (i := 1) rfl
    have z2 := RR.cellAt (enc := pkC) hz pkC_len hp (i := 2) rfl
    simp only [Nat.zero_add, Nat.add_zero] at z0 z1 z2
    have hnc' := hnc (by decide)
    have hne : (l.length == 0) = false := by simpa using h0
    generalize dblN l a = R at *
    obtain ⟨R1, R2⟩ := R
    simp only at KQ e3 e4 ⊢
    generalize ixN a l.length = i at *
    obtain ⟨n, hnn⟩ : ∃ n, l.length = n := ⟨_, rfl⟩
    rw [hnn] at cr e2 hnc' h0
    have h0' : ¬ ((n : Int) = 0) := by omega
    clear h hp e3 e4 hj hz hnc hnn hn hok hne h0
    go_enter Try.func104, Try.ntmps104
    go_upto_region 3 with fail
    have q := fun (ψ : World → Prop) (e : ExtP w.heap.size w ψ) => e.cell cr gl
    have q0 := fun (ψ : World → Prop) (e : ExtP w.heap.size w ψ) => e.cell z0 hsl
    have q1 := fun (ψ : World → Prop) (e : ExtP w.heap.size w ψ) => e.cell z1 hsl
    have q2 := fun (ψ : World → Prop) (e : ExtP w.heap.size w ψ) => e.cell z2 hsl
    clear cr z0 z1 z2
    refine wp_region_pieces 10  [(true, [0, 1, 2, 3, 4, 5, 6, 7, 8, 9])] (by kernel_rfl) (by kernel_rfl) ?_; simp only [pick, List.map_cons, List.map_nil, List.flatMap_cons, List.flatMap_nil, Option.toList_some, List.singleton_append, List.drop_succ_cons, List.drop_zero, List.getElem?_cons_zero, List.getElem?_cons_succ]
    refine ⟨by kernel_rfl, ?_⟩; apply Exists.intro; refine ⟨fun ψ hψ hne => (by (repeat (first | ( fail ) | go_big_quiet_step ((  go_at_call 145; exact extP_of hψ (Nat.le_refl _) (KP.out _ (ExtP.ok _)) )))); exact wpQuiet_nil rfl), ?_⟩
    clear q q0 q1 q2
    intro w3 h3
    have KQ3 := Lib.hid (KQ.out w3 h3)
    have H3 := Lib.hid h3
    clear h3 KQ KP
    go_wp2_with fail
    refine KQ3.out.mono ?_
    rintro e w4 ⟨rfl, h4⟩
    have FF := Lib.hid (To.after_ext H3.out h4)
    clear h4 KQ3
    go_wp2_with fail
    go_ret
    exact ⟨rfl, FF.out⟩
end

section
set_option linter.unusedVariables false
set_option maxRecDepth 100000
open Go.RowKit

set_option maxHeartbeats 4000000 in
theorem rnTake_any {S : Nat → Prop} {g : Nat} {l : List Pk} (a : Int) (w : World) (h : (rnO g l).is w S) (hn : l.length ≤ 1000) :
    Calls Try.prog 102 #[.pointer (some ⟨g, 0, none⟩), .int .i64 a] w fun e w' => e = .returned (.tuple #[.agg (pkC (takeN l a).1).toArray, .int .i64 (takeN l a).2.1]) ∧ To S w w' (rnO g (takeN l a).2.2) := by
  have ht := (rnO g l).trim h
  have hh := Lib.hid h
  have HT := Lib.hid ht
  have hx := extAl w (.cells #[.int .i64 0, .bool false, .string ⟨#[]⟩] 84)
  have HX := Lib.hid hx
  have HB := Lib.hid (heap_alloc_last w (.cells #[.int .i64 0, .bool false, .string ⟨#[]⟩] 84))
  rcases take_cases a hn with ⟨rfl, e⟩ | ⟨p, hp, e, hi⟩
  · rw [e]
    obtain ⟨v, h1⟩ := (rnO g []).ext h hx
    obtain ⟨A, c, rfl⟩ := h1.row.form
    obtain ⟨cr, -, gl⟩ := nt_c0 h1.hg
    clear h h1 ht hx e
    go_enter Try.func102, Try.ntmps102
    go_upto_region 1 with fail
    generalize w.alloc (.cells #[.int .i64 0, .bool false, .string ⟨#[]⟩] 84) = w1 at *
    have hs2 := storeAt_row (P := Try.prog) (ty := 84) (cs := #[.int .i64 0, .bool false, .string ⟨#[]⟩]) HB.out (by kernel_rfl) rfl (by simp [Value.oneCell'])
    have HS := Lib.hid hs2
    have HF := Lib.hid (setRow_heap w1 w.heap.size _ #[.int .i64 0, .bool false, .string ⟨#[]⟩] _ _ HB.out)
    have FF : Hid (To S w (w1.setRow w.heap.size #[.int .i64 0, .bool false, .string ⟨#[]⟩]) (rnO g [])) := Lib.hid
      (To.beside (To.refl ((rnO g []).ext HT.out HX.out)) HX.out trim_lt (Nat.le_refl _) (heap_lt HB.out) (mut_setRow (S := fun j => j = w.heap.size) rfl _))
    clear hs2
    go_wp2_with (refine wpList_st rfl 84 (.tmp 4) (.tmp 14) rfl HS.out ?_; simp only [Act.put])
    (try simp only [Exit.inBlock, Exit.then])
    exact bodyPost_ret (results_ctN Try.results102 _ _ _ _ _ _ _ rfl HF.out Try.underlying84 rfl (by kernel_rfl)) rfl ⟨rfl, FF.out⟩
  · rw [e]
    obtain ⟨S2, HS2t, HT2⟩ : ∃ S2 : Nat → Prop, Hid (∀ i, S2 i → S i ∧ i < w.heap.size) ∧ Hid ((rnO g l).is w S2) := ⟨_, Lib.hid trim_lt, HT⟩
    have h0 : l.length ≠ 0 := by omega
    have KP := Lib.hid (rnPlace_any a _ ((rnO g l).ext h hx) h0 (by omega))
    obtain ⟨v, h2⟩ := HT2.out
    obtain ⟨hl0, ⟨_, h00⟩ | ⟨gs, c, junk, rfl, -, hgs, hcap, hone⟩⟩ := h2.row
    · exact absurd h00 h0
    have hcl := flat_cells pkC_len hgs hp
    have z0 := hcl 0 (by decide)
    have z1 := hcl 1 (by decide)
    have z2 := hcl 2 (by decide)
    simp only [Nat.add_zero] at z0
    rw [show (pkC p)[0]? = some _ from rfl] at z0
    rw [show (pkC p)[1]? = some _ from rfl] at z1
    rw [show (pkC p)[2]? = some _ from rfl] at z2
    have hsl := heap_lt hgs
    have hglw := heap_lt h2.hg
    have hsuf : ∀ (b : Nat), b < l.length → RR w 3 (.slice (some ⟨gs, (b + 1) * 3, none⟩) (l.length - (b + 1)) (c - (b + 1))) (l.length - (b + 1)) ((pkcs l).drop ((b + 1) * 3)) := fun b hb =>
      ⟨by rw [List.length_drop, hl0, Nat.sub_mul], .inr ⟨gs, (b + 1) * 3, c - (b + 1), rfl, hsl, by rw [hl0] at hcap; omega, fun j hj => by
        rw [List.length_drop] at hj
        rw [cell_of_row _ _ _ _ _ _ hgs, List.getElem?_toArray, List.getElem?_append_left (by omega), List.getElem?_eq_getElem (by omega), List.getElem_drop]⟩⟩
    have hpre : ∀ (b : Nat), b < l.length → RR w 3 (.slice (some ⟨gs, 0, none⟩) b c) b ((pkcs l).take (b * 3)) := fun b hb =>
      ⟨by rw [List.length_take, hl0]; omega, .inr ⟨gs, 0, c, rfl, hsl, by rw [hl0] at hcap; omega, fun j hj => by
        rw [List.length_take] at hj
        rw [Nat.zero_add, cell_of_row _ _ _ _ _ _ hgs, List.getElem?_toArray, List.getElem?_append_left (by omega), List.getElem?_eq_getElem (by omega), List.getElem_take]⟩⟩
    have hncap : l.length ≤ c := by rw [hl0] at hcap; omega
    have HLE : Hid ((l.eraseIdx (ixN a l.length)).length = ixN a l.length + (l.length - (ixN a l.length + 1))) := Lib.hid (by rw [List.length_eraseIdx, if_pos hi]; omega)
    have HOE : Hid (outC (pkcs l) (ixN a l.length) = pkcs (l.eraseIdx (ixN a l.length))) := Lib.hid (outC_flat pkC_len l _)
    have HPre := hpre _ hi
    have HSuf := hsuf _ hi
    have HSO : Hid (∀ u ∈ (pkcs l).drop ((ixN a l.length + 1) * 3), One u) := Lib.hid fun u hu => pkcs_one l u (List.mem_of_mem_drop hu)
    have HPO : Hid (∀ u ∈ (pkcs l).take (ixN a l.length * 3), One u) := Lib.hid fun u hu => pkcs_one l u (List.mem_of_mem_take hu)
    have H2 := Lib.hid h2
    clear hpre hsuf hcl hgs hone hcap h2 h ht e hp
    generalize ixN a l.length = i at *
    generalize l.length = n at *
    have HPre := Lib.hid HPre
    have HSuf := Lib.hid HSuf
    have h0' : ¬ ((n : Int) = 0) := by omega
    clear hl0 h0
    go_enter Try.func102, Try.ntmps102
    go_upto_region 1 with fail
    generalize w.alloc (.cells #[.int .i64 0, .bool false, .string ⟨#[]⟩] 84) = w1 at *
    obtain ⟨cr, -, gl⟩ := nt_c0 (H2.out.ext HX.out).hg
    go_wp2_with fail
    refine KP.out.mono ?_
    rintro e w2 ⟨rfl, k2⟩
    have hx2 := Ext.trans HX.out k2
    have hb2 := (Below.block k2 _ (heap_lt HB.out)).trans HB.out
    clear cr gl
    obtain ⟨cr, -, gl⟩ := nt_c0 (H2.out.ext hx2).hg
    have y0 := (Below.cell (p := ⟨gs, i * 3, none⟩) hx2 hsl).trans z0
    have y1 := (Below.cell (p := ⟨gs, i * 3 + 1, none⟩) hx2 hsl).trans z1
    have y2 := (Below.cell (p := ⟨gs, i * 3 + 2, none⟩) hx2 hsl).trans z2
    have hs2 : gs < w2.heap.size := Nat.lt_of_lt_of_le hsl (Below.size hx2)
    have hx3 := Ext.trans hx2 (extAl w2 (.cells (pkC p).toArray 84))
    have HX3 := Lib.hid hx3
    have HB7 := Lib.hid (heap_alloc_last w2 (.cells (pkC p).toArray 84))
    have HBR := Lib.hid ((Below.block (extAl w2 (.cells (pkC p).toArray 84)) _ (heap_lt hb2)).trans hb2)
    have H3 := Lib.hid (H2.out.ext hx3)
    have HPre3 := Lib.hid (HPre.out.ext hx3)
    have HSuf3 := Lib.hid (HSuf.out.ext hx3)
    have gl2 : g < w2.heap.size := gl
    have glw : g < w.heap.size := hglw
    have gw : w.heap.size < (w2.alloc (.cells (pkC p).toArray 84)).heap.size := heap_lt HBR.out
    clear z0 z1 z2 hx2 hx3 k2 hb2 HB HX KP HPre HSuf
    have HPre := HPre3
    clear HPre3
    go_upto_region 5 with fail
    rw [← pkC_eq p]
    generalize w2.alloc (.cells (pkC p).toArray 84) = w3 at *
    clear cr gl y0 y1 y2 hs2
    obtain ⟨cr, -, gl⟩ := nt_c0 H3.out.hg
    obtain ⟨So, HSo⟩ : ∃ So : Nat → Prop, Hid (So = fun j => w3.heap.size ≤ j) := ⟨_, Lib.hid rfl⟩
    have hng : ¬ So g := by rw [HSo.out]; omega
    have q0 : ∀ (ψ : World → Prop) (e : ExtS So w3 ψ), e.val.cell? ⟨g, 0, none⟩ = some (.slice (some ⟨gs, 0, none⟩) n c) := fun ψ e => e.cell cr gl hng
    clear cr
    have hw1 : wrap64 ((i : Int) + 1) = (i : Int) + 1 := by unfold wrap64; omega
    refine wp_region_piecesS So 17 [(true, [0, 2, 3, 4, 5, 6, 7, 9, 10, 11, 12, 13, 14, 15]), (false, [1]), (false, [8]), (false, [16])] (by kernel_rfl) (by kernel_rfl) ?_
    by_cases hci : c = i + 1
    · obtain rfl : n = i + 1 := by omega
      subst hci
      have HSn : Hid (RR w3 3 (.slice (some ⟨gs, 0, none⟩) 0 0) 0 ((pkcs l).drop ((i + 1) * 3))) := Lib.hid (by
        have h1 := HSuf3.out.1
        exact ⟨by rw [h1]; omega, .inl ⟨some ⟨gs, 0, none⟩, 0, rfl, rfl⟩⟩)
      have HLE0 : Hid ((l.eraseIdx i).length = i + 0) := Lib.hid (by rw [HLE.out]; omega)
      clear HLE
      have HLE := HLE0
      clear HLE0
      obtain ⟨m, HM⟩ : ∃ m, Hid (i + 0 = m) := ⟨_, Lib.hid rfl⟩
      simp only [pick, List.map_cons, List.map_nil, List.flatMap_cons, List.flatMap_nil, Option.toList_some, List.singleton_append, List.drop_succ_cons, List.drop_zero, List.getElem?_cons_zero, List.getElem?_cons_succ]
      refine ⟨by kernel_rfl, ?_⟩; apply Exists.intro; refine ⟨fun ψ hψ hne => (by (repeat (go_big_quiet_step (( fail )))); exact wpQuiet_nil rfl), ?_⟩
      clear q0
      intro wa ha K hK
      go_wp2_with fail
      refine hK _ _ (Mut.of_ext (extAl _ _)) ?_
      clear hK K
      intro wb hb K hK
      have hza := Below.size ha
      have hxb : Ext w3 wb := Ext.trans (Ext.trans ha (extAl wa _)) hb
      have hgb : wb.heap[wa.heap.size]? = some (.cells #[] 84 (0, 0)) := Ext.blk hb (heap_alloc_last wa _)
      obtain ⟨v1, wc, hr1, ho1, hx1⟩ := appE_rpk (tx := 96) (ty := 96) hgb ((HPre.out.ext hxb).src Try.underlying96 HPO.out) (B := w3.heap.size) hza HPO.out (by omega)
      obtain ⟨A1, c1, rfl⟩ := ho1.form
      have Hr1 := Lib.hid hr1
      have HX1 := Lib.hid hx1
      have HO1 := Lib.hid ho1
      have HXc := Lib.hid (Ext.trans hxb hx1)
      clear ha hb hxb hgb hr1 hx1 ho1 hza
      go_wp2_with (at_builtin; refine wpList_app rfl (.tmp 26) (.tmp 32) 96 96 rfl Hr1.out ?_; simp only [Act.put])
      refine hK _ _ (Mut.of_ext HX1.out) ?_
      clear hK K
      (try simp only [List.setIfInBounds_toArray, List.set_cons_zero, List.set_cons_succ])
      intro wd hd K hK
      have hxd : Ext w3 wd := Ext.trans HXc.out hd
      obtain ⟨v2, we, hr2, ho2, hb2, hg2, hs2⟩ := app_rpk (ty := 96) (HO1.out.ext hd) ((HSn.out.ext (Ext.trans HXc.out hd)).src (tx := 96) Try.underlying96 HSO.out) (Below.size hxd) HSO.out (by omega)
      rw [HM.out] at ho2
      obtain ⟨A2, c2, rfl⟩ := ho2.form
      have Hr2 := Lib.hid hr2
      have MU : Hid (Mut So wd we) := Lib.hid (Mut.of_grown hg2 fun b hb => by rw [HSo.out]; exact (own_lt HO1.out hb).1)
      have HXe : Hid (Ext w3 we) := Lib.hid (Below.trans hxd hb2)
      have HO2 := Lib.hid ho2
      have HS2 : Hid (∀ b, (Value.slice A2 m c2).ownBlock = some b → w3.heap.size ≤ b) := Lib.hid fun b hb => (own_lt ho2 hb).1
      clear hr2 ho2 hb2 hg2 hs2 hxd hd
      go_wp2_with (at_builtin; refine wpList_app rfl (.tmp 33) (.tmp 40) 96 96 rfl Hr2.out ?_; simp only [Act.put])
      refine hK _ _ MU.out ?_
      clear hK K
      (try simp only [List.setIfInBounds_toArray, List.set_cons_zero, List.set_cons_succ])
      intro w6 h6
      have hx6 := Ext.trans HXe.out h6
      have hg6 := (Below.block hx6 g gl).trans H3.out.hg
      have F := H3.out.fin (pre' := []) (post' := []) (v' := .slice A2 m c2) (by decide) (Mut.of_ext hx6) hg6 ((HO2.out.ext h6).mono (Nat.zero_le _)) (fun b hb => .inr (HS2.out b hb))
      have hst := nt_s0 (.slice A2 m c2) hg6
      have hF : To S2 w3 (w6.setRow g #[.slice A2 m c2]) (rnO g (l.eraseIdx i)) := F.cast (by show _ = ntOb _ _ [] [] g (l.eraseIdx i).length (pkcs (l.eraseIdx i)); rw [HLE.out, HM.out, ← HOE.out]; rfl)
      have hb7 := (setRow_other w6 g _ #[.slice A2 m c2] (Nat.ne_of_gt (Nat.lt_of_lt_of_le gl2 (Nat.le_refl _)))).trans ((Below.block hx6 _ (heap_lt HB7.out)).trans HB7.out)
      have hbr := (setRow_other w6 g _ #[.slice A2 m c2] (Nat.ne_of_gt glw)).trans ((Below.block hx6 _ (heap_lt HBR.out)).trans HBR.out)
      have HF := Lib.hid hF
      have ST := Lib.hid hst
      have HB76 := Lib.hid hb7
      have HBR6 := Lib.hid hbr
      obtain ⟨cr, cf, cl⟩ := nt_c0 hg6
      clear hst F hF hg6 hx6 h6 HO2 HXe HO1 HXc HB7 HBR hb7 hbr
      go_upto_region 6 with fail
      rw [ST.out]
      clear ST cr cf cl
      generalize w6.setRow g #[.slice A2 m c2] = w7 at *
      obtain ⟨d0, d1, d2, -, dl⟩ := nt_c2 (l := []) HB76.out
      have hs4 := storeAt_row (P := Try.prog) (ty := 84) (cs := (pkC p).toArray) HBR6.out (by kernel_rfl) rfl (by simp [pkC, Value.oneCell'])
      have HS4 := Lib.hid hs4
      have HF5 := Lib.hid (setRow_heap w7 w.heap.size _ (pkC p).toArray _ _ HBR6.out)
      have FF : Hid (To S w (w7.setRow w.heap.size (pkC p).toArray) (rnO g (l.eraseIdx i))) := Lib.hid (To.beside HF.out HX3.out (fun i hi => HS2t.out i hi) (Nat.le_refl _) gw (mut_setRow (S := fun j => j = w.heap.size) rfl _))
      clear hs4
      go_wp2_with (refine wpList_st rfl 84 (.tmp 4) (.tmp 44) rfl HS4.out ?_; simp only [Act.put])
      (try simp only [Exit.inBlock, Exit.then])
      exact bodyPost_ret (results_ctN Try.results102 _ _ _ _ _ _ _ rfl HF5.out Try.underlying84 rfl (by kernel_rfl)) rfl ⟨rfl, FF.out⟩
    · have hci' : ¬ c - (i + 1) = 0 := by omega
      obtain ⟨m, HM⟩ : ∃ m, Hid (i + (n - (i + 1)) = m) := ⟨_, Lib.hid rfl⟩
      simp only [pick, List.map_cons, List.map_nil, List.flatMap_cons, List.flatMap_nil, Option.toList_some, List.singleton_append, List.drop_succ_cons, List.drop_zero, List.getElem?_cons_zero, List.getElem?_cons_succ]
      refine ⟨by kernel_rfl, ?_⟩; apply Exists.intro; refine ⟨fun ψ hψ hne => (by (repeat (go_big_quiet_step (( fail )))); exact wpQuiet_nil rfl), ?_⟩
      clear q0
      intro wa ha K hK
      go_wp2_with fail
      refine hK _ _ (Mut.of_ext (extAl _ _)) ?_
      clear hK K
      intro wb hb K hK
      have hza := Below.size ha
      have hxb : Ext w3 wb := Ext.trans (Ext.trans ha (extAl wa _)) hb
      have hgb : wb.heap[wa.heap.size]? = some (.cells #[] 84 (0, 0)) := Ext.blk hb (heap_alloc_last wa _)
      obtain ⟨v1, wc, hr1, ho1, hx1⟩ := appE_rpk (tx := 96) (ty := 96) hgb ((HPre.out.ext hxb).src Try.underlying96 HPO.out) (B := w3.heap.size) hza HPO.out (by omega)
      obtain ⟨A1, c1, rfl⟩ := ho1.form
      have Hr1 := Lib.hid hr1
      have HX1 := Lib.hid hx1
      have HO1 := Lib.hid ho1
      have HXc := Lib.hid (Ext.trans hxb hx1)
      clear ha hb hxb hgb hr1 hx1 ho1 hza
      go_wp2_with (at_builtin; refine wpList_app rfl (.tmp 26) (.tmp 32) 96 96 rfl Hr1.out ?_; simp only [Act.put])
      refine hK _ _ (Mut.of_ext HX1.out) ?_
      clear hK K
      (try simp only [List.setIfInBounds_toArray, List.set_cons_zero, List.set_cons_succ])
      intro wd hd K hK
      have hxd : Ext w3 wd := Ext.trans HXc.out hd
      obtain ⟨v2, we, hr2, ho2, hb2, hg2, hs2⟩ := app_rpk (ty := 96) (HO1.out.ext hd) ((HSuf3.out.ext (Ext.trans HXc.out hd)).src (tx := 96) Try.underlying96 HSO.out) (Below.size hxd) HSO.out (by omega)
      rw [HM.out] at ho2
      obtain ⟨A2, c2, rfl⟩ := ho2.form
      have Hr2 := Lib.hid hr2
      have MU : Hid (Mut So wd we) := Lib.hid (Mut.of_grown hg2 fun b hb => by rw [HSo.out]; exact (own_lt HO1.out hb).1)
      have HXe : Hid (Ext w3 we) := Lib.hid (Below.trans hxd hb2)
      have HO2 := Lib.hid ho2
      have HS2 : Hid (∀ b, (Value.slice A2 m c2).ownBlock = some b → w3.heap.size ≤ b) := Lib.hid fun b hb => (own_lt ho2 hb).1
      clear hr2 ho2 hb2 hg2 hs2 hxd hd
      go_wp2_with (at_builtin; refine wpList_app rfl (.tmp 33) (.tmp 40) 96 96 rfl Hr2.out ?_; simp only [Act.put])
      refine hK _ _ MU.out ?_
      clear hK K
      (try simp only [List.setIfInBounds_toArray, List.set_cons_zero, List.set_cons_succ])
      intro w6 h6
      have hx6 := Ext.trans HXe.out h6
      have hg6 := (Below.block hx6 g gl).trans H3.out.hg
      have F := H3.out.fin (pre' := []) (post' := []) (v' := .slice A2 m c2) (by decide) (Mut.of_ext hx6) hg6 ((HO2.out.ext h6).mono (Nat.zero_le _)) (fun b hb => .inr (HS2.out b hb))
      have hst := nt_s0 (.slice A2 m c2) hg6
      have hF : To S2 w3 (w6.setRow g #[.slice A2 m c2]) (rnO g (l.eraseIdx i)) := F.cast (by show _ = ntOb _ _ [] [] g (l.eraseIdx i).length (pkcs (l.eraseIdx i)); rw [HLE.out, HM.out, ← HOE.out]; rfl)
      have hb7 := (setRow_other w6 g _ #[.slice A2 m c2] (Nat.ne_of_gt (Nat.lt_of_lt_of_le gl2 (Nat.le_refl _)))).trans ((Below.block hx6 _ (heap_lt HB7.out)).trans HB7.out)
      have hbr := (setRow_other w6 g _ #[.slice A2 m c2] (Nat.ne_of_gt glw)).trans ((Below.block hx6 _ (heap_lt HBR.out)).trans HBR.out)
      have HF := Lib.hid hF
      have ST := Lib.hid hst
      have HB76 := Lib.hid hb7
      have HBR6 := Lib.hid hbr
      obtain ⟨cr, cf, cl⟩ := nt_c0 hg6
      clear hst F hF hg6 hx6 h6 HO2 HXe HO1 HXc HB7 HBR hb7 hbr
      go_upto_region 6 with fail
      rw [ST.out]
      clear ST cr cf cl
      generalize w6.setRow g #[.slice A2 m c2] = w7 at *
      obtain ⟨d0, d1, d2, -, dl⟩ := nt_c2 (l := []) HB76.out
      have hs4 := storeAt_row (P := Try.prog) (ty := 84) (cs := (pkC p).toArray) HBR6.out (by kernel_rfl) rfl (by simp [pkC, Value.oneCell'])
      have HS4 := Lib.hid hs4
      have HF5 := Lib.hid (setRow_heap w7 w.heap.size _ (pkC p).toArray _ _ HBR6.out)
      have FF : Hid (To S w (w7.setRow w.heap.size (pkC p).toArray) (rnO g (l.eraseIdx i))) := Lib.hid (To.beside HF.out HX3.out (fun i hi => HS2t.out i hi) (Nat.le_refl _) gw (mut_setRow (S := fun j => j = w.heap.size) rfl _))
      clear hs4
      go_wp2_with (refine wpList_st rfl 84 (.tmp 4) (.tmp 44) rfl HS4.out ?_; simp only [Act.put])
      (try simp only [Exit.inBlock, Exit.then])
      exact bodyPost_ret (results_ctN Try.results102 _ _ _ _ _ _ _ rfl HF5.out Try.underlying84 rfl (by kernel_rfl)) rfl ⟨rfl, FF.out⟩
end

section
set_option linter.unusedVariables false
set_option maxRecDepth 100000
open Go.RowKit Go.ChangeShapes Go.WideShapes Go.ChangeAt Go.Deep

structure NopE where
  k : Int
  p : Pk
  a : Int
def nopC (x : NopE) : List Value := [.int .u8 x.k, .int .i64 x.p.c, .bool x.p.up, .string (str x.p.b), .int .i64 x.a]
theorem nopC_len (x : NopE) : (nopC x).length = 5 := rfl
structure NopE.Ok (x : NopE) : Prop where
  k : 0 ≤ x.k ∧ x.k ≤ 255
  c : I64 x.p.c
  b : x.p.b.length ≤ maxLen
  a : I64 x.a
structure NopsT where
  r : Value
  l : List NopE
def NopsT.v (x : NopsT) : Value := x.r
structure NopsT.Ok (w : World) (x : NopsT) : Prop where
  r : RR w 5 x.r x.l.length (x.l.flatMap nopC)
  e : ∀ y ∈ x.l, y.Ok
  len : x.l.length ≤ maxLen
structure AskE where
  k : Int
  n : Int
  a : AgT
  t : List UInt8
def askC (x : AskE) : List Value := .int .u8 x.k :: .int .i64 x.n :: (agC x.a ++ [.string (str x.t)])
theorem askC_len (x : AskE) : (askC x).length = 19 := rfl
structure AskE.Ok (x : AskE) : Prop where
  k : 0 ≤ x.k ∧ x.k ≤ 255
  n : I64 x.n
  a : x.a.Okl
  t : x.t.length ≤ maxLen
structure AsksT where
  r : Value
  l : List AskE
def AsksT.v (x : AsksT) : Value := x.r
structure AsksT.Ok (w : World) (x : AsksT) : Prop where
  r : RR w 19 x.r x.l.length (x.l.flatMap askC)
  e : ∀ y ∈ x.l, y.Ok
  len : x.l.length ≤ maxLen
theorem list5 {α : Type} : ∀ {cs : List α}, cs.length = 5 → ∃ c0 c1 c2 c3 c4, cs = [c0, c1, c2, c3, c4]
  | [c0, c1, c2, c3, c4], _ => ⟨c0, c1, c2, c3, c4, rfl⟩
section
variable {H : Type} {enc' : TypeId × Value → H} {P : Program} {w : World} {base : Nat} {spare : Nat → Bool} {held : Bool}
/-- Rows of structs of any fields. -/
theorem open_rowsF {α : Type} {enc : α → List Value} {R : α → Prop} {t e : TypeId} {sz fuel : Nat} {v : Value} {x : DataW H × List MemPlace} (ht : P.underlying t = some (.slice e)) (hC : P.cellsOf e = sz) (hne : 0 < sz) (hen : ∀ x, (enc x).length = sz)
    (hk : ∀ (cs : List Value) (y : DataW H × List MemPlace) (n : Nat), cs.length = sz → DataW.trod enc' P w base spare held n e cs = some y → ∃ x, cs = enc x ∧ R x)
    (h : DataW.trod enc' P w base spare held fuel t [v] = some x) : ∃ l : List α, RR w sz v l.length (l.flatMap enc) ∧ (∀ x ∈ l, R x) ∧ l.length ≤ maxLen := by
  rcases open_slice ht h with h0 | ⟨a, len, cap, m, n, D, Pl, hcs, hb, hl, hm, hmm, hx, hi⟩
  · have h0 := h0.1
    simp only [List.cons.injEq, and_true] at h0
    subst h0
    exact ⟨[], ⟨by simp, .inl ⟨none, 0, rfl, rfl⟩⟩, fun x h => by simp at h, Nat.zero_le _⟩
  · simp only [List.cons.injEq, and_true] at hcs
    subst hcs
    obtain ⟨l, hll, hq⟩ := list_of (Q := fun i x => (∀ j, j < sz → w.cell? (a.add (i * sz + j)) = (enc x)[j]?) ∧ R x) len fun i hil => by
      obtain ⟨cs', hc, ht'⟩ := hi i (by rw [hmm]; split <;> omega)
      rw [hC] at hc
      obtain ⟨_, hcl, hat⟩ := World.cells?_some hc
      obtain ⟨x, rfl, hR⟩ := hk cs' _ _ hcl ht'
      refine ⟨x, fun j hj => ?_, hR⟩
      rw [← Go.Deep.add_add, hat j hj]
    subst hll
    have hlen := flat_length hen l
    refine ⟨l, ⟨hlen, ?_⟩, fun x hx => ?_, by omega⟩
    · by_cases h0 : l.length = 0
      · exact .inl ⟨some a, cap, by rw [h0], h0⟩
      · obtain ⟨b, off, spot⟩ := a
        have hx0 : l[0]? = some l[0] := List.getElem?_eq_getElem (by omega)
        have hc0 := (hq 0 _ hx0).1 0 hne
        rw [List.getElem?_eq_getElem (by rw [hen]; exact hne)] at hc0
        have hs : spot = none := by simpa [Addr.add] using World.cell?_spot hc0
        subst hs
        rw [Addr.add_lit] at hc0
        have hlt : b < w.heap.size := by
          unfold World.cell? at hc0
          cases hb : w.heap[b]? with
          | none => simp [hb] at hc0
          | some o => exact (Array.getElem?_eq_some_iff.1 hb).1
        refine .inr ⟨b, off, cap, rfl, hlt, hl, fun j hj => ?_⟩
        have hjd := Nat.div_add_mod j sz
        have hml := Nat.mod_lt j hne
        have hdl : j / sz < l.length := by
          rw [hlen] at hj
          exact Nat.div_lt_of_lt_mul (by rw [Nat.mul_comm]; exact hj)
        have hxk : l[j / sz]? = some l[j / sz] := List.getElem?_eq_getElem hdl
        have h1 := (hq _ _ hxk).1 (j % sz) hml
        rw [Addr.add_lit, Nat.mul_comm, hjd] at h1
        rw [h1]
        have h2 := flat_at hen l (j / sz) (j % sz) _ hxk hml
        rw [Nat.mul_comm, hjd, List.getElem?_eq_getElem hj] at h2
        exact h2.symm
    · obtain ⟨i, hil, rfl⟩ := List.getElem_of_mem hx
      exact (hq i _ (List.getElem?_eq_getElem hil)).2
end
section
variable {H : Type} {enc : TypeId × Value → H} {W : World} {base : Nat} {b0 : Nat} {spare : Nat → Bool} {held : Bool}
theorem open_pk {n : Nat} {c0 c1 c2 : Value} {y : DataW H × List MemPlace} (h : DataW.trod enc Try.prog W base spare held n 84 [c0, c1, c2] = some y) : ∃ p : Pk, [c0, c1, c2] = pkC p ∧ I64 p.c ∧ p.b.length ≤ maxLen := by
  obtain ⟨_, hf⟩ := fields_flat Try.underlying84 h
  obtain ⟨_, _, t0⟩ := hf 0 _ 0 3 1 rfl rfl rfl (by kernel_rfl)
  obtain ⟨_, _, t1⟩ := hf 1 _ 1 4 1 rfl rfl rfl (by kernel_rfl)
  obtain ⟨_, _, t2⟩ := hf 2 _ 2 9 1 rfl rfl rfl (by kernel_rfl)
  obtain ⟨m0, e0, _, w0⟩ := DataW.trod_int Try.underlying3 t0
  obtain ⟨q, e1, _⟩ := DataW.trod_bool Try.underlying4 t1
  obtain ⟨s2, e2, _, w2⟩ := DataW.trod_string Try.underlying9 t2
  simp at e0 e1 e2
  subst e0 e1 e2
  exact ⟨⟨m0, q, s2.data.toList⟩, rfl, i64_wf w0, w2⟩
theorem open_Wnops {v : Value} {d : DataW H} {p : List MemPlace} {r : Reach} (hv : Value.okWide Try.prog W r b0 81 v) (h : DataW.Trod enc Try.prog W base spare held 81 v d p) : ∃ x : NopsT, v = x.v ∧ x.Ok W := by
  obtain ⟨a0, len, cap, rfl⟩ := okWide_slice Try.underlying81 hv
  obtain ⟨m, hm⟩ := h
  obtain ⟨l, h1, h2, h3⟩ := open_rowsF (enc := nopC) (R := fun x => x.Ok) (sz := 5) Try.underlying81 (by kernel_rfl) (by decide) nopC_len (fun cs y n hl ht => by
    obtain ⟨c0, c1, c2, c3, c4, rfl⟩ := list5 hl
    obtain ⟨_, hf⟩ := fields_flat Try.underlying86 ht
    obtain ⟨_, _, t0⟩ := hf 0 _ 0 5 1 rfl rfl rfl (by kernel_rfl)
    obtain ⟨_, _, t1⟩ := hf 1 _ 1 84 3 rfl rfl rfl (by kernel_rfl)
    obtain ⟨_, _, t2⟩ := hf 2 _ 4 3 1 rfl rfl rfl (by kernel_rfl)
    obtain ⟨m0, e0, _, w0⟩ := DataW.trod_int Try.underlying5 t0
    obtain ⟨p, ep, w1, w2⟩ := open_pk (c0 := c1) (c1 := c2) (c2 := c3) t1
    obtain ⟨m4, e4, _, w4⟩ := DataW.trod_int Try.underlying3 t2
    unfold pkC at ep
    simp at e0 e4 ep
    obtain ⟨ep1, ep2, ep3⟩ := ep
    subst e0 e4 ep1 ep2 ep3
    exact ⟨⟨m0, p, m4⟩, rfl, ⟨u8_wf w0, w1, w2, i64_wf w4⟩⟩) hm
  exact ⟨⟨_, l⟩, rfl, ⟨h1, h2, h3⟩⟩
theorem open_ag16 {n : Nat} {cs : List Value} {y : DataW H × List MemPlace} (hl : cs.length = 16) (h : DataW.trod enc Try.prog W base spare held n 35 cs = some y) : ∃ a : AgT, cs = agC a ∧ a.Okl := by
  obtain ⟨_, hf⟩ := fields_flat Try.underlying35 h
  obtain ⟨c0, c1, c2, c3, c4, c5, c6, c7, c8, c9, c10, c11, c12, c13, c14, c15, rfl⟩ := list16 hl
  obtain ⟨_, _, t0⟩ := hf 0 _ 0 32 3 rfl rfl rfl (by kernel_rfl)
  obtain ⟨_, _, t1⟩ := hf 1 _ 3 32 3 rfl rfl rfl (by kernel_rfl)
  obtain ⟨_, _, t2⟩ := hf 2 _ 6 9 1 rfl rfl rfl (by kernel_rfl)
  obtain ⟨_, _, t3⟩ := hf 3 _ 7 9 1 rfl rfl rfl (by kernel_rfl)
  obtain ⟨_, _, t4⟩ := hf 4 _ 8 9 1 rfl rfl rfl (by kernel_rfl)
  obtain ⟨_, _, t5⟩ := hf 5 _ 9 3 1 rfl rfl rfl (by kernel_rfl)
  obtain ⟨_, _, t6⟩ := hf 6 _ 10 3 1 rfl rfl rfl (by kernel_rfl)
  obtain ⟨_, _, t7⟩ := hf 7 _ 11 3 1 rfl rfl rfl (by kernel_rfl)
  obtain ⟨_, _, t8⟩ := hf 8 _ 12 3 1 rfl rfl rfl (by kernel_rfl)
  obtain ⟨_, _, t9⟩ := hf 9 _ 13 3 1 rfl rfl rfl (by kernel_rfl)
  obtain ⟨_, _, t10⟩ := hf 10 _ 14 3 1 rfl rfl rfl (by kernel_rfl)
  obtain ⟨_, _, t11⟩ := hf 11 _ 15 33 1 rfl rfl rfl (by kernel_rfl)
  obtain ⟨a0, a1, a2, rfl, rfl, rfl, b0, b1, b2⟩ := open_h3 t0
  obtain ⟨a3, a4, a5, rfl, rfl, rfl, b3, b4, b5⟩ := open_h3 t1
  obtain ⟨s2, e2, _, w2⟩ := DataW.trod_string Try.underlying9 t2
  obtain ⟨s3, e3, _, w3⟩ := DataW.trod_string Try.underlying9 t3
  obtain ⟨s4, e4, _, w4⟩ := DataW.trod_string Try.underlying9 t4
  obtain ⟨m5, e5, _, w5⟩ := DataW.trod_int Try.underlying3 t5
  obtain ⟨m6, e6, _, w6⟩ := DataW.trod_int Try.underlying3 t6
  obtain ⟨m7, e7, _, w7⟩ := DataW.trod_int Try.underlying3 t7
  obtain ⟨m8, e8, _, w8⟩ := DataW.trod_int Try.underlying3 t8
  obtain ⟨m9, e9, _, w9⟩ := DataW.trod_int Try.underlying3 t9
  obtain ⟨m10, e10, _, w10⟩ := DataW.trod_int Try.underlying3 t10
  obtain ⟨m11, e11, _, w11⟩ := DataW.trod_int Try.underlying33 t11
  simp at e2 e3 e4 e5 e6 e7 e8 e9 e10 e11
  subst e2 e3 e4 e5 e6 e7 e8 e9 e10 e11
  exact ⟨⟨(a0, a1, a2), (a3, a4, a5), s2.data.toList, s3.data.toList, s4.data.toList, m5, m6, m7, m8, m9, m10, m11⟩, rfl, ⟨b0, b1, b2⟩, ⟨b3, b4, b5⟩, w2, w3, w4, i64_wf w5, i64_wf w6, i64_wf w7, i64_wf w8, i64_wf w9, i64_wf w10, u64_wf w11⟩
theorem open_Wasks {v : Value} {d : DataW H} {p : List MemPlace} {r : Reach} (hv : Value.okWide Try.prog W r b0 88 v) (h : DataW.Trod enc Try.prog W base spare held 88 v d p) : ∃ x : AsksT, v = x.v ∧ x.Ok W := by
  obtain ⟨a0, len, cap, rfl⟩ := okWide_slice Try.underlying88 hv
  obtain ⟨m, hm⟩ := h
  obtain ⟨l, h1, h2, h3⟩ := open_rowsF (enc := askC) (R := fun x => x.Ok) (sz := 19) Try.underlying88 (by kernel_rfl) (by decide) askC_len (fun cs y n hl ht => by
    obtain ⟨_, hf⟩ := fields_flat Try.underlying93 ht
    obtain ⟨_, _, t0⟩ := hf 0 _ 0 5 1 rfl rfl rfl (by kernel_rfl)
    obtain ⟨_, _, t1⟩ := hf 1 _ 1 3 1 rfl rfl rfl (by kernel_rfl)
    obtain ⟨_, _, t2⟩ := hf 2 _ 2 35 16 rfl rfl rfl (by kernel_rfl)
    obtain ⟨_, _, t3⟩ := hf 3 _ 18 9 1 rfl rfl rfl (by kernel_rfl)
    obtain ⟨a, ea, oa⟩ := open_ag16 (by rw [List.length_take, List.length_drop, hl]; rfl) t2
    obtain ⟨m0, e0, _, w0⟩ := DataW.trod_int Try.underlying5 t0
    obtain ⟨m1, e1, _, w1⟩ := DataW.trod_int Try.underlying3 t1
    obtain ⟨s3, e3, _, w3⟩ := DataW.trod_string Try.underlying9 t3
    refine ⟨⟨m0, m1, a, s3.data.toList⟩, ?_, ⟨u8_wf w0, i64_wf w1, oa, w3⟩⟩
    have e : cs = (cs.drop 0).take 1 ++ ((cs.drop 1).take 1 ++ ((cs.drop 2).take 16 ++ (cs.drop 18).take 1)) := by
      have h4 : (cs.drop 18).take 1 = cs.drop 18 := List.take_of_length_le (by rw [List.length_drop, hl]; omega)
      rw [h4, show cs.drop 18 = (cs.drop 2).drop 16 by rw [List.drop_drop], List.take_append_drop, show cs.drop 2 = (cs.drop 1).drop 1 by rw [List.drop_drop], List.take_append_drop, show cs.drop 1 = (cs.drop 0).drop 1 by rw [List.drop_drop], List.take_append_drop, List.drop_zero]
    rw [e, e0, e1, ea, e3]
    rfl) hm
  exact ⟨⟨_, l⟩, rfl, ⟨h1, h2, h3⟩⟩
end
end

section
set_option linter.unusedVariables false
set_option maxRecDepth 100000
open Go.RowKit

set_option maxHeartbeats 1000000 in
theorem given_any (p : Pk) (w : World) : Calls Try.prog 46 #[.agg (pkC p).toArray] w fun e w' => e = .returned (.agg (pkC p).toArray) ∧ Ext w w' := by
  have hb1 := heap_alloc2_old w (.cells (pkC p).toArray 84) (.cells #[.int .i64 0, .bool false, .string ⟨#[]⟩] 25)
  have hb2 := heap_alloc2_new w (.cells (pkC p).toArray 84) (.cells #[.int .i64 0, .bool false, .string ⟨#[]⟩] 25)
  have hx : Ext w ((w.alloc (.cells (pkC p).toArray 84)).alloc (.cells #[.int .i64 0, .bool false, .string ⟨#[]⟩] 25)) := Ext.trans (extAl _ _) (extAl _ _)
  obtain ⟨d0, d1, d2, -, dl⟩ := nt_c2 (l := []) hb1
  have HX := Lib.hid hx
  have HB2 := Lib.hid hb2
  have HPE := Lib.hid (pkC_eq p)
  clear hb1 hb2 hx
  go_enter Try.func46, Try.ntmps46
  go_upto_region 1 with fail
  generalize (w.alloc (.cells (pkC p).toArray 84)).alloc (.cells #[.int .i64 0, .bool false, .string ⟨#[]⟩] 25) = w2 at *
  have hs4 := storeAt_row (P := Try.prog) (ty := 25) (cs := (pkC p).toArray) HB2.out (by kernel_rfl) rfl (by simp [pkC, Value.oneCell'])
  have HS4 := Lib.hid hs4
  have HF := Lib.hid (setRow_heap w2 _ _ (pkC p).toArray _ _ HB2.out)
  have HE : Hid (Ext w (w2.setRow (w.alloc (.cells (pkC p).toArray 84)).heap.size (pkC p).toArray)) := Lib.hid (below_setRow HX.out (by simp) _)
  clear hs4
  simp only [World.size_alloc] at HS4 HF HE
  go_wp2_with (refine wpList_st rfl 25 (.tmp 2) (.tmp 9) rfl HS4.out ?_; simp only [Act.put])
  (try simp only [Exit.inBlock, Exit.then])
  exact bodyPost_ret (v := .agg (pkC p).toArray) (results_cell_row Try.results46 _ _ _ _ _ _ _ rfl HF.out Try.underlying25 rfl (by kernel_rfl)) rfl ⟨rfl, HE.out⟩
set_option maxHeartbeats 1000000 in
theorem back_any (p : Pk) (w : World) : Calls Try.prog 103 #[.agg (pkC p).toArray] w fun e w' => e = .returned (.agg (pkC p).toArray) ∧ Ext w w' := by
  have hb1 := heap_alloc2_old w (.cells (pkC p).toArray 25) (.cells #[.int .i64 0, .bool false, .string ⟨#[]⟩] 84)
  have hb2 := heap_alloc2_new w (.cells (pkC p).toArray 25) (.cells #[.int .i64 0, .bool false, .string ⟨#[]⟩] 84)
  have hx : Ext w ((w.alloc (.cells (pkC p).toArray 25)).alloc (.cells #[.int .i64 0, .bool false, .string ⟨#[]⟩] 84)) := Ext.trans (extAl _ _) (extAl _ _)
  obtain ⟨d0, d1, d2, -, dl⟩ := nt_c2 (l := []) hb1
  have HX := Lib.hid hx
  have HB2 := Lib.hid hb2
  have HPE := Lib.hid (pkC_eq p)
  clear hb1 hb2 hx
  go_enter Try.func103, Try.ntmps103
  go_upto_region 1 with fail
  generalize (w.alloc (.cells (pkC p).toArray 25)).alloc (.cells #[.int .i64 0, .bool false, .string ⟨#[]⟩] 84) = w2 at *
  have hs4 := storeAt_row (P := Try.prog) (ty := 84) (cs := (pkC p).toArray) HB2.out (by kernel_rfl) rfl (by simp [pkC, Value.oneCell'])
  have HS4 := Lib.hid hs4
  have HF := Lib.hid (setRow_heap w2 _ _ (pkC p).toArray _ _ HB2.out)
  have HE : Hid (Ext w (w2.setRow (w.alloc (.cells (pkC p).toArray 25)).heap.size (pkC p).toArray)) := Lib.hid (below_setRow HX.out (by simp) _)
  clear hs4
  simp only [World.size_alloc] at HS4 HF HE
  go_wp2_with (refine wpList_st rfl 84 (.tmp 2) (.tmp 9) rfl HS4.out ?_; simp only [Act.put])
  (try simp only [Exit.inBlock, Exit.then])
  exact bodyPost_ret (v := .agg (pkC p).toArray) (results_cell_row Try.results103 _ _ _ _ _ _ _ rfl HF.out Try.underlying84 rfl (by kernel_rfl)) rfl ⟨rfl, HE.out⟩
theorem ROp.op {w : World} {b off c : Nat} {l : List NopE} (h : RR w 5 (.slice (some ⟨b, off, none⟩) l.length c) l.length (l.flatMap nopC)) {k : Nat} {x : NopE} (hx : l[k]? = some x) :
    w.cell? ⟨b, off + k * 5, none⟩ = some (.int .u8 x.k) ∧ w.cell? ⟨b, off + k * 5 + 1, none⟩ = some (.int .i64 x.p.c) ∧ w.cell? ⟨b, off + k * 5 + 2, none⟩ = some (.bool x.p.up) ∧ w.cell? ⟨b, off + k * 5 + 3, none⟩ = some (.string (str x.p.b)) ∧ w.cell? ⟨b, off + k * 5 + 4, none⟩ = some (.int .i64 x.a) := by
  have h0 := RR.cellAt (enc := nopC) h nopC_len hx (i := 0) rfl
  have h1 := RR.cellAt (enc := nopC) h nopC_len hx (i := 1) rfl
  have h2 := RR.cellAt (enc := nopC) h nopC_len hx (i := 2) rfl
  have h3 := RR.cellAt (enc := nopC) h nopC_len hx (i := 3) rfl
  have h4 := RR.cellAt (enc := nopC) h nopC_len hx (i := 4) rfl
  rw [← Nat.add_assoc] at h0 h1 h2 h3 h4
  exact ⟨h0, h1, h2, h3, h4⟩
set_option maxHeartbeats 2000000 in
theorem nlong_any (l : List NopE) {v : Value} (w : World) (hr : RR w 5 v l.length (l.flatMap nopC)) (he : ∀ x ∈ l, x.Ok) (hll : l.length ≤ maxLen) :
    Calls Try.prog 45 #[v] w fun e w' => ∃ B : Bool, e = .returned (.bool B) ∧ (B = false → l.length ≤ 300 ∧ ∀ x ∈ l, x.p.b.length ≤ 5000) ∧ Ext w w' := by
  obtain ⟨A, c, rfl⟩ := hr.form
  have HR := Lib.hid hr
  unfold maxLen at hll
  clear hr he
  by_cases h300 : 300 < l.length
  · have h3 : (300 : Int) < (l.length : Int) := by omega
    go_enter Try.func45, Try.ntmps45
    go_wp2
    go_ret
    exact ⟨true, rfl, by simp, Ext.refl _⟩
  · have h3 : (l.length : Int) ≤ 300 := by omega
    go_enter Try.func45, Try.ntmps45
    go_wp2
    go_loopg [3, 4] l.length (fun gg u s wr => ∃ k m : Nat, k ≤ l.length ∧ l.length - k ≤ gg ∧ s = .int .i64 k ∧ u = .int .i64 m ∧ Hid (m ≤ 5000 * k) ∧ Hid (Ext w wr) ∧ Hid (∀ j y, j < k → l[j]? = some y → y.p.b.length ≤ 5000))
    case atStart => exact ⟨0, 0, Nat.zero_le _, by omega, rfl, rfl, Lib.hid (by omega), Lib.hid (Ext.refl w), Lib.hid fun j y hj => absurd hj (Nat.not_lt_zero _)⟩
    case round =>
      obtain ⟨k, m, hk, hg, rfl, rfl, HM, HW, HA⟩ := hrel
      by_cases hlt : k < l.length
      · obtain ⟨b, off, rfl, hb, hc, -⟩ := HR.out.at (by omega)
        obtain ⟨x, hx⟩ : ∃ x, l[k]? = some x := ⟨_, List.getElem?_eq_getElem hlt⟩
        obtain ⟨x0, x1, x2, x3, x4⟩ := ROp.op (HR.out.ext HW.out) hx
        have sb := str_size x.p.b
        have HX := Lib.hid hx
        clear hx x0 x1 x2 x4
        by_cases h5 : 5000 < x.p.b.length
        · have h5' : (5000 : Int) < (x.p.b.length : Int) := by omega
          go_wp2
          go_ret
          exact ⟨true, rfl, by simp, HW.out⟩
        · have h5' : (x.p.b.length : Int) ≤ 5000 := by omega
          have hm := HM.out
          have hw : wrap64 ((m : Int) + (x.p.b.length : Int)) = ((m + x.p.b.length : Nat) : Int) := by
            rw [IntWalk.wrap64_in _ ⟨by omega, by omega⟩]
            push_cast
            rfl
          clear hm
          go_wp2
          go_roundg (l.length - (k + 1))
          case measure => omega
          case rel =>
            refine ⟨k + 1, m + x.p.b.length, by omega, by omega, by go_num, congrArg (Value.int .i64) hw, Lib.hid (by have := HM.out; omega), HW, Lib.hid fun j y hj hy => ?_⟩
            by_cases e : j = k
            · subst e
              rw [HX.out] at hy
              cases hy
              omega
            · exact HA.out j y (by omega) hy
      · obtain rfl : k = l.length := by omega
        have E : Hid (∀ x ∈ l, x.p.b.length ≤ 5000) := Lib.hid fun x hx => by
          obtain ⟨j, hj, rfl⟩ := List.getElem_of_mem hx
          exact HA.out j _ hj (List.getElem?_eq_getElem hj)
        go_wp2
        go_ret
        exact ⟨_, rfl, fun _ => ⟨by omega, E.out⟩, HW.out⟩
end

section
set_option linter.unusedVariables false
set_option maxRecDepth 100000
open Go.RowKit

def NtS (W w : World) (T E : TypeId) : Nat → Prop := fun k => W.heap.size ≤ k ∧ ∃ o, w.heap[k]? = some o ∧ ntK T E o
abbrev NnS (W w : World) := NtS W w 106 25
theorem nz0' {o : Obj} : ¬ Z0 o := fun h => h
section
variable {W w : World} {ds : List (Ob Z0)} {g : Nat} {l : List Pk}
theorem OSt.ntb {b : Nat} {cs : Array Value} {T T1 E : TypeId} {hz : ¬ Z0 (.cells cs T (0, 0))} (h : OSt W ds w) (i : Nat) (hi : ds[i]? = some (rowOb b (.cells cs T (0, 0)) hz)) (h1 : T ≠ T1) (h2 : T ≠ E) : ¬ NtS W w T1 E b := by
  rintro ⟨_, o, ho, hk⟩
  have k := h.get i hi
  rw [k] at ho
  cases ho
  exact hk.elim h1 h2
theorem nPutM (i : Nat) (h : OSt W ds w) (hi : ds[i]? = some (netO g l)) (p : Pk) (hn : l.length ≤ 1000) : Calls Try.prog 18 #[.pointer (some ⟨g, 0, none⟩), .agg (pkC p).toArray] w fun e w' => e = .returned (.int .i64 (putE l p)) ∧ OSt W (ds.set i (netO g (putN l p))) w' ∧ Mut (NnS W w) w w' := by
  obtain ⟨S, h1, h2, h3, _⟩ := h.pick hi
  exact (netPut_any p w h1 hn).mono fun e w' ⟨he, hT⟩ => ⟨he, h3 w' _ hT, hT.2.mono h2⟩
theorem nDoubleM (i : Nat) (h : OSt W ds w) (hi : ds[i]? = some (netO g l)) (a : Int) (hn : l.length ≤ 1000) : Calls Try.prog 17 #[.pointer (some ⟨g, 0, none⟩), .int .i64 a] w fun e w' => e = .returned (.int .i64 (dblN l a).1) ∧ OSt W (ds.set i (netO g (dblN l a).2)) w' ∧ Mut (NnS W w) w w' := by
  obtain ⟨S, h1, h2, h3, _⟩ := h.pick hi
  exact (netDouble_any a w h1 hn).mono fun e w' ⟨he, hT⟩ => ⟨he, h3 w' _ hT, hT.2.mono h2⟩
theorem rPutO (i : Nat) (h : OSt W ds w) (hi : ds[i]? = some (rnO g l)) (p : Pk) (hn : l.length ≤ 1000) : Calls Try.prog 101 #[.pointer (some ⟨g, 0, none⟩), .agg (pkC p).toArray] w fun e w' => e = .returned (.int .i64 (putE l p)) ∧ OSt W (ds.set i (rnO g (putN l p))) w' := by
  obtain ⟨S, h1, _, h3, _⟩ := h.pick hi
  exact (rnPut_any p w h1 hn).mono fun e w' ⟨he, hT⟩ => ⟨he, h3 w' _ hT⟩
theorem rTakeO (i : Nat) (h : OSt W ds w) (hi : ds[i]? = some (rnO g l)) (a : Int) (hn : l.length ≤ 1000) : Calls Try.prog 102 #[.pointer (some ⟨g, 0, none⟩), .int .i64 a] w fun e w' => e = .returned (.tuple #[.agg (pkC (takeN l a).1).toArray, .int .i64 (takeN l a).2.1]) ∧ OSt W (ds.set i (rnO g (takeN l a).2.2)) w' := by
  obtain ⟨S, h1, _, h3, _⟩ := h.pick hi
  exact (rnTake_any a w h1 hn).mono fun e w' ⟨he, hT⟩ => ⟨he, h3 w' _ hT⟩
theorem rDoubleO (i : Nat) (h : OSt W ds w) (hi : ds[i]? = some (rnO g l)) (a : Int) (hn : l.length ≤ 1000) (hok : ∀ q ∈ l, PkOk q) : Calls Try.prog 104 #[.pointer (some ⟨g, 0, none⟩), .int .i64 a] w fun e w' => e = .returned (.int .i64 (dblN l a).1) ∧ OSt W (ds.set i (rnO g (dblN l a).2)) w' := by
  obtain ⟨S, h1, _, h3, _⟩ := h.pick hi
  exact (rnDouble_any a w h1 hn hok).mono fun e w' ⟨he, hT⟩ => ⟨he, h3 w' _ hT⟩
theorem rCopyO (i : Nat) (h : OSt W ds w) (hi : ds[i]? = some (rnO g l)) (hn : l.length ≤ 1000) : Calls Try.prog 47 #[.pointer (some ⟨g, 0, none⟩)] w fun e w' => ∃ g', e = .returned (.pointer (some ⟨g', 0, none⟩)) ∧ OSt W (rnO g' l :: ds) w' := by
  obtain ⟨S, h1, _⟩ := h.pick hi
  exact (rnCopy_any w h1 hn).mono fun e w' ⟨g', he, hi, hx⟩ => ⟨g', he, h.pushN hx hi⟩
end
def eqPk (p q : Pk) : Bool := decide (p = q)
theorem eqPk_self (p : Pk) : eqPk p p = true := by simp [eqPk]
theorem eql_rpk (p q : Pk) (w : World) : (binOp .eql 84 (.agg (pkC p).toArray) (.agg (pkC q).toArray)).run Try.prog w = .ok (.bool (eqPk p q)) w := by
  obtain ⟨a, b, c⟩ := p
  obtain ⟨a', b', c'⟩ := q
  unfold pkC
  go_simp
  by_cases h1 : a = a' <;> by_cases h2 : b = b' <;> by_cases h3 : c = c' <;> simp [eqPk, h1, h2, h3, strL]
theorem neq_rpk (p q : Pk) (w : World) : (binOp .neq 84 (.agg (pkC p).toArray) (.agg (pkC q).toArray)).run Try.prog w = .ok (.bool (!eqPk p q)) w := by
  obtain ⟨a, b, c⟩ := p
  obtain ⟨a', b', c'⟩ := q
  unfold pkC
  go_simp
  by_cases h1 : a = a' <;> by_cases h2 : b = b' <;> by_cases h3 : c = c' <;> simp [eqPk, h1, h2, h3, strL]
theorem eql_npk (p q : Pk) (w : World) : (binOp .eql 25 (.agg (pkC p).toArray) (.agg (pkC q).toArray)).run Try.prog w = .ok (.bool (eqPk p q)) w := by
  obtain ⟨a, b, c⟩ := p
  obtain ⟨a', b', c'⟩ := q
  unfold pkC
  go_simp
  by_cases h1 : a = a' <;> by_cases h2 : b = b' <;> by_cases h3 : c = c' <;> simp [eqPk, h1, h2, h3, strL]
theorem neq_npk (p q : Pk) (w : World) : (binOp .neq 25 (.agg (pkC p).toArray) (.agg (pkC q).toArray)).run Try.prog w = .ok (.bool (!eqPk p q)) w := by
  obtain ⟨a, b, c⟩ := p
  obtain ⟨a', b', c'⟩ := q
  unfold pkC
  go_simp
  by_cases h1 : a = a' <;> by_cases h2 : b = b' <;> by_cases h3 : c = c' <;> simp [eqPk, h1, h2, h3, strL]
attribute [local go_sem ↓] eql_rpk neq_rpk eql_npk neq_npk
def stepN (l : List Pk) (x : NopE) : List Pk := if x.k = 0 then putN l x.p else if x.k = 1 then (takeN l x.a).2.2 else if x.k = 2 then (takeN l x.a).2.2 else (dblN l x.a).2
theorem stepN_len {l : List Pk} (x : NopE) (h : l.length ≤ 256) : (stepN l x).length ≤ 256 := by
  unfold stepN
  split
  · exact putN_len l x.p h
  · split
    · exact takeN_len l x.a h
    · split
      · exact takeN_len l x.a h
      · exact dblN_len l x.a h
theorem stepN_ok {l : List Pk} (x : NopE) (h : ∀ q ∈ l, PkOk q) : ∀ q ∈ stepN l x, PkOk q := by
  unfold stepN
  split
  · exact putN_ok h
  · split
    · exact takeN_ok h
    · split
      · exact takeN_ok h
      · exact dblN_ok h
theorem nopBox {w : World} {b : Nat} {x : NopE} {T : TypeId} (h : w.heap[b]? = some (.cells #[.int .u8 x.k, .int .i64 x.p.c, .bool x.p.up, .string (str x.p.b), .int .i64 x.a] T (0, 0))) :
    w.cell? ⟨b, 0, none⟩ = some (.int .u8 x.k) ∧ w.cell? ⟨b, 1, none⟩ = some (.int .i64 x.p.c) ∧ w.cell? ⟨b, 2, none⟩ = some (.bool x.p.up) ∧ w.cell? ⟨b, 3, none⟩ = some (.string (str x.p.b)) ∧ w.cell? ⟨b, 4, none⟩ = some (.int .i64 x.a) ∧ b < w.heap.size :=
  ⟨by simp [World.cell?, h], by simp [World.cell?, h], by simp [World.cell?, h], by simp [World.cell?, h], by simp [World.cell?, h], heap_lt h⟩
section
variable {W w : World} {ds : List (Ob Z0)} {g g' : Nat} {l : List Pk}
set_option maxHeartbeats 4000000 in
theorem ndoPut (i j : Nat) (hij : i ≠ j) (h : OSt W ds w) (hi : ds[i]? = some (netO g l)) (hj : ds[j]? = some (rnO g' l)) (x : NopE) (hl : l.length ≤ 256) (hk : x.k = 0) :
    Calls Try.prog 48 #[.agg #[.int .u8 x.k, .int .i64 x.p.c, .bool x.p.up, .string (str x.p.b), .int .i64 x.a], .pointer (some ⟨g, 0, none⟩), .pointer (some ⟨g', 0, none⟩)] w fun r w' => r = .returned (.bool true) ∧ OSt W ((ds.set i (netO g (stepN l x))).set j (rnO g' (stepN l x))) w' := by
  obtain ⟨k, p, a⟩ := x
  simp only at hk ⊢
  subst hk
  have e : stepN l ⟨0, p, a⟩ = putN l p := by unfold stepN; rw [if_pos rfl]
  rw [e]
  have HA := Lib.hid (h.alloc (.cells #[.int .u8 0, .int .i64 p.c, .bool p.up, .string (str p.b), .int .i64 a] 86 (0, 0)) nz0')
  have HI : Hid ((rowOb w.heap.size (.cells #[.int .u8 0, .int .i64 p.c, .bool p.up, .string (str p.b), .int .i64 a] 86 (0, 0)) nz0' :: ds)[i + 1]? = some (netO g l)) := Lib.hid hi
  have HJ : Hid ((rowOb w.heap.size (.cells #[.int .u8 0, .int .i64 p.c, .bool p.up, .string (str p.b), .int .i64 a] 86 (0, 0)) nz0' :: ds.set i (netO g (putN l p)))[j + 1]? = some (rnO g' l)) := Lib.hid (by
    show (ds.set i _)[j]? = _
    rw [List.getElem?_set_ne hij]
    exact hj)
  obtain ⟨x0, x1, x2, x3, x4, xl⟩ := nopBox (x := ⟨0, p, a⟩) (HA.out.get 0 rfl)
  simp only at x0 x1 x2 x3 x4
  have hE := Lib.hid (rfl : putE l p = putE l p)
  clear h hi hj hij e
  go_enter Try.func48, Try.ntmps48
  go_upto_region 1 with fail
  generalize w.alloc (.cells #[.int .u8 0, .int .i64 p.c, .bool p.up, .string (str p.b), .int .i64 a] 86) = w1 at *
  generalize w.heap.size = gb at *
  go_upto_region 3 with fail
  obtain ⟨So, HSo⟩ : ∃ So : Nat → Prop, Hid (So = fun j => W.heap.size ≤ j ∧ j ≠ gb) := ⟨_, Lib.hid rfl⟩
  have hng : ¬ So gb := by rw [HSo.out]; simp
  have q1 : ∀ (ψ : World → Prop) (e : ExtS So w1 ψ), e.val.cell? ⟨gb, 1, none⟩ = some (.int .i64 p.c) := fun ψ e => e.cell x1 xl hng
  have q2 : ∀ (ψ : World → Prop) (e : ExtS So w1 ψ), e.val.cell? ⟨gb, 2, none⟩ = some (.bool p.up) := fun ψ e => e.cell x2 xl hng
  have q3 : ∀ (ψ : World → Prop) (e : ExtS So w1 ψ), e.val.cell? ⟨gb, 3, none⟩ = some (.string (str p.b)) := fun ψ e => e.cell x3 xl hng
  clear x0 x1 x2 x3 x4
  refine wp_region_piecesS So 8 [(true, [0, 1, 2, 5, 6, 7]), (false, [3]), (false, [4])] (by kernel_rfl) (by kernel_rfl) ?_
  simp only [pick, List.map_cons, List.map_nil, List.flatMap_cons, List.flatMap_nil, Option.toList_some, List.singleton_append, List.drop_succ_cons, List.drop_zero, List.getElem?_cons_zero, List.getElem?_cons_succ]
  have HL : Hid (∀ w' : World, w'.cell? ⟨gb, 1, none⟩ = some (.int .i64 p.c) → w'.cell? ⟨gb, 2, none⟩ = some (.bool p.up) → w'.cell? ⟨gb, 3, none⟩ = some (.string (str p.b)) → (Instr.loadAt 84 (.pointer (some ⟨gb, 1, none⟩))).run Try.prog w' = .ok (.agg (pkC p).toArray) w') := Lib.hid fun w' h1 h2 h3 =>
    loadAt_cs (P := Try.prog) Try.underlying84 (by kernel_rfl) fun j hj => by
      have hj3 : j < 3 := hj
      rcases j with _ | _ | _ | j
      · exact h1
      · exact h2
      · exact h3
      · omega
  refine ⟨by kernel_rfl, ?_⟩; apply Exists.intro; refine ⟨fun ψ hψ hne => ?_, ?_⟩
  · iterate 2 (go_big_quiet_step (fail))
    go_big_quiet_want; refine quiet_ld 84 (.tmp 18) rfl (fun w' hw' => (by obtain ⟨e, rfl⟩ := hw'; exact HL.out _ (q1 _ e) (q2 _ e) (q3 _ e))) ?_; go_simp; go_big_quiet_on
    iterate 2 (go_big_quiet_step (fail))
    go_big_quiet_want; refine quiet_ld 84 (.tmp 23) rfl (fun w' hw' => (by obtain ⟨e, rfl⟩ := hw'; exact HL.out _ (q1 _ e) (q2 _ e) (q3 _ e))) ?_; go_simp; go_big_quiet_on
    exact wpQuiet_nil rfl
  clear q1 q2 q3 HL
  intro wa ha K hK
  go_wp2_with (go_at_call 46; refine (given_any p wa).mono ?_; rintro e wb ⟨rfl, hb⟩)
  refine hK _ _ (Mut.of_ext hb) ?_
  clear hK K
  intro wc hc K hK
  have HN := Lib.hid (((HA.out.ext ha).ext hb).ext hc)
  have KP := Lib.hid (nPutM (i + 1) HN.out HI.out p (by omega))
  clear ha hb hc HA
  go_wp2_with (go_at_call 18; refine KP.out.mono ?_; rintro e w5 ⟨rfl, h5, hm5⟩)
  refine hK _ _ (hm5.mono fun j hj => by rw [HSo.out]; exact ⟨hj.1, fun e => HN.out.ntb 0 rfl (by decide) (by decide) (e ▸ hj)⟩) ?_
  clear hK K hm5 KP
  intro w6 h6
  have H6 := Lib.hid (h5.ext h6)
  have KR := Lib.hid (rPutO (j + 1) H6.out HJ.out p (by omega))
  clear h5 h6 HN HSo
  go_wp2_with (go_at_call 101; refine KR.out.mono ?_; rintro e w7 ⟨rfl, h7⟩; have H7 := Lib.hid h7; clear h7 KR)
  go_ret
  exact ⟨by simp, H7.out.dropI 0⟩
end
end

section
set_option linter.unusedVariables false
set_option maxRecDepth 100000
open Go.RowKit

theorem ldNpk {w : World} {g : Nat} {p : Pk} (h : w.heap[g]? = some (.cells (pkC p).toArray 25 (0, 0))) : (Instr.loadAt 25 (.pointer (some ⟨g, 0, none⟩))).run Try.prog w = .ok (.agg (pkC p).toArray) w :=
  loadAt_cs (P := Try.prog) Try.underlying25 (by kernel_rfl) fun j hj => by
    rw [cell_of_row _ _ _ _ _ _ h, Nat.zero_add, List.getElem?_toArray, List.getElem?_eq_getElem hj]
theorem new_npk (w : World) (p : Pk) : (Instr.storeAt 25 (.pointer (some ⟨w.heap.size, 0, none⟩)) (.agg (pkC p).toArray)).run Try.prog (w.alloc (.cells #[.int .i64 0, .bool false, .string ⟨#[]⟩] 25)) = .ok () (w.alloc (.cells (pkC p).toArray 25)) := by
  have := storeAt_row (P := Try.prog) (ty := 25) (cs := (pkC p).toArray) (heap_alloc_last w (.cells #[.int .i64 0, .bool false, .string ⟨#[]⟩] 25)) (by kernel_rfl) rfl (by simp [pkC, Value.oneCell'])
  rw [World.setRow_alloc_new] at this
  exact this
theorem ldRpk {w : World} {g : Nat} {p : Pk} (h : w.heap[g]? = some (.cells (pkC p).toArray 84 (0, 0))) : (Instr.loadAt 84 (.pointer (some ⟨g, 0, none⟩))).run Try.prog w = .ok (.agg (pkC p).toArray) w :=
  loadAt_cs (P := Try.prog) Try.underlying84 (by kernel_rfl) fun j hj => by
    rw [cell_of_row _ _ _ _ _ _ h, Nat.zero_add, List.getElem?_toArray, List.getElem?_eq_getElem hj]
theorem new_rpk (w : World) (p : Pk) : (Instr.storeAt 84 (.pointer (some ⟨w.heap.size, 0, none⟩)) (.agg (pkC p).toArray)).run Try.prog (w.alloc (.cells #[.int .i64 0, .bool false, .string ⟨#[]⟩] 84)) = .ok () (w.alloc (.cells (pkC p).toArray 84)) := by
  have := storeAt_row (P := Try.prog) (ty := 84) (cs := (pkC p).toArray) (heap_alloc_last w (.cells #[.int .i64 0, .bool false, .string ⟨#[]⟩] 84)) (by kernel_rfl) rfl (by simp [pkC, Value.oneCell'])
  rw [World.setRow_alloc_new] at this
  exact this
theorem eql_rpkS (p : Pk) (w : World) : (binOp .eql 84 (.agg (pkC p).toArray) (.agg (pkC p).toArray)).run Try.prog w = .ok (.bool true) w := by
  rw [eql_rpk, eqPk_self]
attribute [local go_sem ↓] eql_rpkS
section
variable {W w : World} {ds : List (Ob Z0)} {g g' : Nat} {l : List Pk}
set_option maxHeartbeats 4000000 in
theorem ndoTake (i j : Nat) (hij : i ≠ j) (h : OSt W ds w) (hi : ds[i]? = some (netO g l)) (hj : ds[j]? = some (rnO g' l)) (x : NopE) (hl : l.length ≤ 256) (hk : x.k = 1) :
    Calls Try.prog 48 #[.agg #[.int .u8 x.k, .int .i64 x.p.c, .bool x.p.up, .string (str x.p.b), .int .i64 x.a], .pointer (some ⟨g, 0, none⟩), .pointer (some ⟨g', 0, none⟩)] w fun r w' => r = .returned (.bool true) ∧ OSt W ((ds.set i (netO g (stepN l x))).set j (rnO g' (stepN l x))) w' := by
  obtain ⟨k, p, a⟩ := x
  simp only at hk ⊢
  subst hk
  have HA := Lib.hid (h.alloc (.cells #[.int .u8 1, .int .i64 p.c, .bool p.up, .string (str p.b), .int .i64 a] 86 (0, 0)) nz0')
  have HI : Hid (ds[i]? = some (netO g l)) := Lib.hid hi
  have HJ : Hid (∀ l', (ds.set i (netO g l'))[j]? = some (rnO g' l)) := Lib.hid fun l' => by
    rw [List.getElem?_set_ne hij]
    exact hj
  have HJ0 : Hid (ds[j]? = some (rnO g' l)) := Lib.hid hj
  have HIJ : Hid (i ≠ j) := Lib.hid hij
  obtain ⟨x0, x1, x2, x3, x4, xl⟩ := nopBox (x := ⟨1, p, a⟩) (HA.out.get 0 rfl)
  simp only at x0 x1 x2 x3 x4
  clear h hi hj hij
  have e : stepN l ⟨1, p, a⟩ = (takeN l a).2.2 := rfl
  rw [e]
  have KT := Lib.hid (nTakeO (i + 1) HA.out HI.out a (by omega))
  have HR : Hid (∀ (ds' : List (Ob Z0)) (w' : World), OSt W ds' w' → ds'[j + 2]? = some (rnO g' l) → _) := Lib.hid fun ds' w' h' hj' => rTakeO (j + 2) h' hj' a (by omega)
  generalize takeN l a = R at *
  obtain ⟨q, er, l'⟩ := R
  simp only at KT HR ⊢
  clear e
  go_enter Try.func48, Try.ntmps48
  go_upto_region 1 with fail
  generalize w.alloc (.cells #[.int .u8 1, .int .i64 p.c, .bool p.up, .string (str p.b), .int .i64 a] 86) = w1 at *
  generalize w.heap.size = gb at *
  clear x1 x2 x3
  go_wp2_with fail
  refine KT.out.mono ?_
  rintro e w2 ⟨rfl, h2⟩
  have H2 : Hid (OSt W (rowOb w2.heap.size (.cells (pkC q).toArray 25 (0, 0)) nz0' :: rowOb gb (.cells #[.int .u8 1, .int .i64 p.c, .bool p.up, .string (str p.b), .int .i64 a] 86 (0, 0)) nz0' :: ds.set i (netO g l')) (w2.alloc (.cells (pkC q).toArray 25 (0, 0)))) := Lib.hid (OSt.alloc h2 _ nz0')
  have HS2 := Lib.hid (new_npk w2 q)
  clear h2 KT HA x0 x4 xl
  go_upto_region 6 with (refine wpList_st rfl 25 (.tmp 7) (.tmp 34) rfl HS2.out ?_; simp only [Act.put]; clear HS2)
  generalize w2.alloc (.cells (pkC q).toArray 25) = w3 at *
  generalize w2.heap.size = g7 at *
  obtain ⟨-, -, -, -, x4, xl⟩ := nopBox (x := ⟨1, p, a⟩) (H2.out.get 1 rfl)
  simp only at x4
  have KR := Lib.hid (HR.out _ _ H2.out (HJ.out l'))
  clear HR
  go_wp2_with fail
  refine KR.out.mono ?_
  rintro e w4 ⟨rfl, h4⟩
  have H4 : Hid (OSt W (rowOb w4.heap.size (.cells (pkC q).toArray 84 (0, 0)) nz0' :: rowOb g7 (.cells (pkC q).toArray 25 (0, 0)) nz0' :: rowOb gb (.cells #[.int .u8 1, .int .i64 p.c, .bool p.up, .string (str p.b), .int .i64 a] 86 (0, 0)) nz0' :: (ds.set i (netO g l')).set j (rnO g' l')) (w4.alloc (.cells (pkC q).toArray 84 (0, 0)))) := Lib.hid (OSt.alloc h4 _ nz0')
  have HS4 := Lib.hid (new_rpk w4 q)
  clear h4 KR H2 x4 xl
  go_upto_region 7 with (refine wpList_st rfl 84 (.tmp 9) (.tmp 41) rfl HS4.out ?_; simp only [Act.put]; clear HS4)
  generalize w4.alloc (.cells (pkC q).toArray 84) = w5 at *
  generalize w4.heap.size = g9 at *
  have LB1 := Lib.hid fun (w' : World) (k : Ext w5 w') => ldNpk (Ext.blk k (H4.out.get 1 rfl))
  have LB0 := Lib.hid fun (w' : World) (k : Ext w5 w') => ldRpk (Ext.blk k (H4.out.get 0 rfl))
  refine wp_region_pieces 7  [(true, [0, 2]), (false, [1]), (true, [3, 4, 5, 6])] (by kernel_rfl) (by kernel_rfl) ?_; simp only [pick, List.map_cons, List.map_nil, List.flatMap_cons, List.flatMap_nil, Option.toList_some, List.singleton_append, List.drop_succ_cons, List.drop_zero, List.getElem?_cons_zero, List.getElem?_cons_succ]
  refine ⟨by kernel_rfl, ?_⟩; apply Exists.intro; refine ⟨fun ψ hψ hne => ?_, ?_⟩
  · go_big_quiet_want; refine quiet_ld 25 (.tmp 7) rfl (fun w' hw' => LB1.out w' (by obtain ⟨e, rfl⟩ := hw'; exact e.ok)) ?_; go_simp; go_big_quiet_on
    go_big_quiet_want; refine quiet_ld 84 (.tmp 9) rfl (fun w' hw' => LB0.out w' (by obtain ⟨e, rfl⟩ := hw'; exact e.ok)) ?_; go_simp; go_big_quiet_on
    exact wpQuiet_nil rfl
  clear LB0 LB1
  intro w6 h6 K hK
  have H6 := Lib.hid (H4.out.ext h6)
  clear h6 H4
  go_wp2_with (go_at_call 103; refine (back_any q w6).mono ?_; rintro e w7 ⟨rfl, h7⟩)
  refine hK _ _ h7 ?_
  have H7 := Lib.hid (H6.out.ext h7)
  clear hK K h7 H6
  refine ⟨by kernel_rfl, ?_⟩; apply Exists.intro; refine ⟨fun ψ hψ hne => (by (repeat (go_big_quiet_step (( fail )))); exact wpQuiet_nil rfl), ?_⟩
  intro w8 h8
  have H8 := Lib.hid (H7.out.ext h8)
  clear h8 H7
  go_wp2_with fail
  go_ret
  exact ⟨by simp, ((H8.out.dropI 0).dropI 0).dropI 0⟩
set_option maxHeartbeats 4000000 in
theorem ndoLose (i j : Nat) (hij : i ≠ j) (h : OSt W ds w) (hi : ds[i]? = some (netO g l)) (hj : ds[j]? = some (rnO g' l)) (x : NopE) (hl : l.length ≤ 256) (hk : x.k = 2) :
    Calls Try.prog 48 #[.agg #[.int .u8 x.k, .int .i64 x.p.c, .bool x.p.up, .string (str x.p.b), .int .i64 x.a], .pointer (some ⟨g, 0, none⟩), .pointer (some ⟨g', 0, none⟩)] w fun r w' => r = .returned (.bool true) ∧ OSt W ((ds.set i (netO g (stepN l x))).set j (rnO g' (stepN l x))) w' := by
  obtain ⟨k, p, a⟩ := x
  simp only at hk ⊢
  subst hk
  have HA := Lib.hid (h.alloc (.cells #[.int .u8 2, .int .i64 p.c, .bool p.up, .string (str p.b), .int .i64 a] 86 (0, 0)) nz0')
  have HI : Hid (ds[i]? = some (netO g l)) := Lib.hid hi
  have HJ : Hid (∀ l', (ds.set i (netO g l'))[j]? = some (rnO g' l)) := Lib.hid fun l' => by
    rw [List.getElem?_set_ne hij]
    exact hj
  have HJ0 : Hid (ds[j]? = some (rnO g' l)) := Lib.hid hj
  have HIJ : Hid (i ≠ j) := Lib.hid hij
  obtain ⟨x0, x1, x2, x3, x4, xl⟩ := nopBox (x := ⟨2, p, a⟩) (HA.out.get 0 rfl)
  simp only at x0 x1 x2 x3 x4
  clear h hi hj hij
  have e : stepN l ⟨2, p, a⟩ = (takeN l a).2.2 := rfl
  rw [e]
  have KT := Lib.hid fun (ds' : List (Ob Z0)) (w' : World) (h' : OSt W ds' w') (hi' : ds'[i + 2]? = some (netO g l)) => nLoseO (i + 2) h' hi' a (by omega)
  have HR := Lib.hid (rTakeO (j + 1) HA.out HJ0.out a (by omega))
  have HII : Hid (∀ l', (ds.set j (rnO g' l'))[i]? = some (netO g l)) := Lib.hid fun l' => by
    rw [List.getElem?_set_ne (fun e => HIJ.out e.symm)]
    exact HI.out
  have HC : Hid (∀ l', (ds.set j (rnO g' l')).set i (netO g l') = (ds.set i (netO g l')).set j (rnO g' l')) := Lib.hid fun l' => List.set_comm _ _ (fun e => HIJ.out e.symm)
  generalize takeN l a = R at *
  obtain ⟨q, er, l'⟩ := R
  simp only at KT HR ⊢
  clear e
  go_enter Try.func48, Try.ntmps48
  go_upto_region 1 with fail
  generalize w.alloc (.cells #[.int .u8 2, .int .i64 p.c, .bool p.up, .string (str p.b), .int .i64 a] 86) = w1 at *
  generalize w.heap.size = gb at *
  clear x1 x2 x3
  go_wp2_with fail
  refine HR.out.mono ?_
  rintro e w2 ⟨rfl, h2⟩
  have H2 : Hid (OSt W (rowOb w2.heap.size (.cells (pkC q).toArray 84 (0, 0)) nz0' :: rowOb gb (.cells #[.int .u8 2, .int .i64 p.c, .bool p.up, .string (str p.b), .int .i64 a] 86 (0, 0)) nz0' :: ds.set j (rnO g' l')) (w2.alloc (.cells (pkC q).toArray 84 (0, 0)))) := Lib.hid (OSt.alloc h2 _ nz0')
  have HS2 := Lib.hid (new_rpk w2 q)
  clear h2 HR HA x0 x4 xl
  go_upto_region 10 with (refine wpList_st rfl 84 (.tmp 11) (.tmp 59) rfl HS2.out ?_; simp only [Act.put]; clear HS2)
  generalize w2.alloc (.cells (pkC q).toArray 84) = w3 at *
  generalize w2.heap.size = g7 at *
  obtain ⟨-, -, -, -, x4, xl⟩ := nopBox (x := ⟨2, p, a⟩) (H2.out.get 1 rfl)
  simp only at x4
  have KR := Lib.hid (KT.out _ _ H2.out (HII.out l'))
  clear KT
  go_wp2_with fail
  refine KR.out.mono ?_
  rintro e w4 ⟨rfl, h4⟩
  have H4 := Lib.hid h4
  clear h4 KR H2 x4 xl
  go_wp2_with fail
  go_ret
  exact ⟨by simp, by rw [← HC.out]; exact (H4.out.dropI 0).dropI 0⟩
set_option maxHeartbeats 4000000 in
theorem ndoDouble (i j : Nat) (hij : i ≠ j) (h : OSt W ds w) (hi : ds[i]? = some (netO g l)) (hj : ds[j]? = some (rnO g' l)) (x : NopE) (hl : l.length ≤ 256) (hok : ∀ q ∈ l, PkOk q) (hk : x.k ≠ 0 ∧ x.k ≠ 1 ∧ x.k ≠ 2) :
    Calls Try.prog 48 #[.agg #[.int .u8 x.k, .int .i64 x.p.c, .bool x.p.up, .string (str x.p.b), .int .i64 x.a], .pointer (some ⟨g, 0, none⟩), .pointer (some ⟨g', 0, none⟩)] w fun r w' => r = .returned (.bool true) ∧ OSt W ((ds.set i (netO g (stepN l x))).set j (rnO g' (stepN l x))) w' := by
  obtain ⟨k0, k1, k2⟩ := hk
  have hk := Lib.hid k0
  obtain ⟨k, p, a⟩ := x
  simp only at hk ⊢
  skip
  have HA := Lib.hid (h.alloc (.cells #[.int .u8 k, .int .i64 p.c, .bool p.up, .string (str p.b), .int .i64 a] 86 (0, 0)) nz0')
  have HI : Hid (ds[i]? = some (netO g l)) := Lib.hid hi
  have HJ : Hid (∀ l', (ds.set i (netO g l'))[j]? = some (rnO g' l)) := Lib.hid fun l' => by
    rw [List.getElem?_set_ne hij]
    exact hj
  have HJ0 : Hid (ds[j]? = some (rnO g' l)) := Lib.hid hj
  have HIJ : Hid (i ≠ j) := Lib.hid hij
  obtain ⟨x0, x1, x2, x3, x4, xl⟩ := nopBox (x := ⟨k, p, a⟩) (HA.out.get 0 rfl)
  simp only at x0 x1 x2 x3 x4
  clear h hi hj hij
  simp only at k0 k1 k2
  have e : stepN l ⟨k, p, a⟩ = (dblN l a).2 := by
    unfold stepN
    rw [if_neg k0, if_neg k1, if_neg k2]
  rw [e]
  have KP0 := Lib.hid fun (ds' : List (Ob Z0)) (w' : World) (h' : OSt W ds' w') (hi' : ds'[i + 1]? = some (netO g l)) => nDoubleM (i + 1) h' hi' a (by omega)
  have KR := Lib.hid fun (ds' : List (Ob Z0)) (w' : World) (h' : OSt W ds' w') (hj' : ds'[j + 1]? = some (rnO g' l)) => rDoubleO (j + 1) h' hj' a (by omega) hok
  generalize dblN l a = R at *
  obtain ⟨er, l'⟩ := R
  simp only at KP0 KR ⊢
  have z0 : (k == 0) = false := beq_eq_false_iff_ne.2 k0
  have z1 : (k == 1) = false := beq_eq_false_iff_ne.2 k1
  have z2 : (k == 2) = false := beq_eq_false_iff_ne.2 k2
  clear e hk
  go_enter Try.func48, Try.ntmps48
  go_upto_region 1 with fail
  generalize w.alloc (.cells #[.int .u8 k, .int .i64 p.c, .bool p.up, .string (str p.b), .int .i64 a] 86) = w1 at *
  generalize w.heap.size = gb at *
  clear x1 x2 x3
  go_upto_region 11 with fail
  obtain ⟨So, HSo⟩ : ∃ So : Nat → Prop, Hid (So = fun j => W.heap.size ≤ j ∧ j ≠ gb) := ⟨_, Lib.hid rfl⟩
  have hng : ¬ So gb := by rw [HSo.out]; simp
  have q4 : ∀ (ψ : World → Prop) (e : ExtS So w1 ψ), e.val.cell? ⟨gb, 4, none⟩ = some (.int .i64 a) := fun ψ e => e.cell x4 xl hng
  clear x0 x4 xl
  refine wp_region_piecesS So 7 [(true, [0, 1, 2, 4, 5, 6]), (false, [3])] (by kernel_rfl) (by kernel_rfl) ?_
  simp only [pick, List.map_cons, List.map_nil, List.flatMap_cons, List.flatMap_nil, Option.toList_some, List.singleton_append, List.drop_succ_cons, List.drop_zero, List.getElem?_cons_zero, List.getElem?_cons_succ]
  refine ⟨by kernel_rfl, ?_⟩; apply Exists.intro; refine ⟨fun ψ hψ hne => (by (repeat (go_big_quiet_step (( fail )))); exact wpQuiet_nil rfl), ?_⟩
  clear q4
  intro wc hc K hK
  have HN := Lib.hid (HA.out.ext hc)
  have KP := Lib.hid (KP0.out _ _ HN.out HI.out)
  clear hc HA KP0
  go_wp2_with (go_at_call 17; refine KP.out.mono ?_; rintro e w5 ⟨rfl, h5, hm5⟩)
  refine hK _ _ (hm5.mono fun j hj => by rw [HSo.out]; exact ⟨hj.1, fun e => HN.out.ntb 0 rfl (by decide) (by decide) (e ▸ hj)⟩) ?_
  clear hK K hm5 KP
  intro w6 h6
  have H6 := Lib.hid (h5.ext h6)
  have KQ := Lib.hid (KR.out _ _ H6.out (HJ.out l'))
  clear h5 h6 HN HSo KR
  go_wp2_with (go_at_call 104; refine KQ.out.mono ?_; rintro e w7 ⟨rfl, h7⟩; have H7 := Lib.hid h7; clear h7 KQ)
  go_ret
  exact ⟨by simp, H7.out.dropI 0⟩
theorem ndo_any (i j : Nat) (hij : i ≠ j) (h : OSt W ds w) (hi : ds[i]? = some (netO g l)) (hj : ds[j]? = some (rnO g' l)) (x : NopE) (hl : l.length ≤ 256) (hok : ∀ q ∈ l, PkOk q) :
    Calls Try.prog 48 #[.agg #[.int .u8 x.k, .int .i64 x.p.c, .bool x.p.up, .string (str x.p.b), .int .i64 x.a], .pointer (some ⟨g, 0, none⟩), .pointer (some ⟨g', 0, none⟩)] w fun r w' => r = .returned (.bool true) ∧ OSt W ((ds.set i (netO g (stepN l x))).set j (rnO g' (stepN l x))) w' := by
  by_cases k0 : x.k = 0
  · exact ndoPut i j hij h hi hj x hl k0
  by_cases k1 : x.k = 1
  · exact ndoTake i j hij h hi hj x hl k1
  by_cases k2 : x.k = 2
  · exact ndoLose i j hij h hi hj x hl k2
  exact ndoDouble i j hij h hi hj x hl hok ⟨k0, k1, k2⟩
end
end

section
set_option linter.unusedVariables false
set_option maxRecDepth 100000
open Go.RowKit

theorem setCells_row : ∀ (vs X old Y : List Value) (w : World) (g : Nat) (T : TypeId), w.heap[g]? = some (.cells (X ++ old ++ Y).toArray T (0, 0)) → old.length = vs.length → w.setCells g X.length vs = w.setRow g (X ++ vs ++ Y).toArray
  | [], X, old, Y, w, g, T, hg, hl => by
    obtain rfl : old = [] := List.length_eq_zero_iff.1 hl
    exact (setRow_self w g _ _ _ hg).symm
  | v :: vs, X, [], Y, w, g, T, hg, hl => by simp at hl
  | v :: vs, X, o :: old, Y, w, g, T, hg, hl => by
    have h1 : w.setCell ⟨g, X.length, none⟩ v = w.setRow g (X ++ [v] ++ old ++ Y).toArray := by
      rw [setCell_eq_setRow w g X.length _ T (0, 0) v hg]
      congr 1
      apply Array.ext'
      simp
    have h2 := setRow_heap w g _ (X ++ [v] ++ old ++ Y).toArray _ _ hg
    have ih := setCells_row vs (X ++ [v]) old Y (w.setRow g (X ++ [v] ++ old ++ Y).toArray) g T h2 (by simpa using hl)
    rw [List.length_append, List.length_singleton] at ih
    show (w.setCell ⟨g, X.length, none⟩ v).setCells g (X.length + 1) vs = _
    rw [h1, ih, setRow_setRow]
    simp
theorem pkcs_set : ∀ (l : List Pk) (k : Nat) (p : Pk), k < l.length → pkcs (l.set k p) = (pkcs l).take (k * 3) ++ pkC p ++ (pkcs l).drop (k * 3 + 3)
  | [], k, p, h => by simp at h
  | x :: l, 0, p, h => by simp [pkcs, pkC]
  | x :: l, k + 1, p, h => by
    have ih := pkcs_set l k p (by simpa using h)
    have e1 : (k + 1) * 3 = (pkC x).length + k * 3 := by rw [pkC_len]; omega
    have e2 : (k + 1) * 3 + 3 = (pkC x).length + (k * 3 + 3) := by rw [pkC_len]; omega
    have e0 : pkcs (x :: l) = pkC x ++ pkcs l := rfl
    rw [List.set_cons_succ, show pkcs (x :: l.set k p) = pkC x ++ pkcs (l.set k p) from rfl, ih, e0, e2, e1, List.take_length_add_append, List.drop_length_add_append]
    simp
section
variable {W w : World} {ds : List (Ob Z0)}
/-- An element of a row of packets of one's own is written. -/
theorem OSt.setPk {b n c k : Nat} {R : List Pk} (h : OSt W ds w) (i : Nat) (hi : ds[i]? = some (ownOb 25 3 (.slice (some ⟨b, 0, none⟩) n c) n (pkcs R))) (hR : R.length = n) (hk : k < n) (p : Pk) :
    ∃ w', (Instr.storeAt 25 (.pointer (some ⟨b, k * 3, none⟩)) (.agg (pkC p).toArray)).run Try.prog w = .ok () w' ∧ OSt W (ds.set i (ownOb 25 3 (.slice (some ⟨b, 0, none⟩) n c) n (pkcs (R.set k p)))) w' := by
  obtain ⟨S, h1, _, h3, _⟩ := h.pick hi
  obtain ⟨⟨hl, ⟨hv, _⟩ | ⟨g, c', junk, hv, hB, hg, hc, hC⟩⟩, hS⟩ := h1
  · cases hv
  simp only [Value.slice.injEq, Option.some.injEq, Addr.mk.injEq, and_true, true_and] at hv
  obtain ⟨rfl, rfl⟩ := hv
  have hsz : k * 3 + 3 ≤ (pkcs R).length := by rw [hl]; omega
  have e : (pkcs R).take (k * 3) ++ ((pkcs R).drop (k * 3)).take 3 ++ ((pkcs R).drop (k * 3 + 3) ++ junk) = pkcs R ++ junk := by
    rw [← List.drop_drop, ← List.append_assoc, List.append_assoc ((pkcs R).take (k * 3)), List.take_append_drop, List.take_append_drop]
  have hlt : ((pkcs R).take (k * 3)).length = k * 3 := by rw [List.length_take]; omega
  have hl3 : (((pkcs R).drop (k * 3)).take 3).length = (pkC p).length := by rw [List.length_take, List.length_drop, pkC_len]; omega
  have h2 := setCells_row (pkC p) ((pkcs R).take (k * 3)) (((pkcs R).drop (k * 3)).take 3) ((pkcs R).drop (k * 3 + 3) ++ junk) w b 25 (by rw [e]; exact hg) hl3
  rw [hlt] at h2
  have ht : w.there b (k * 3) (pkC p).toArray.size := fun j hj => by
    have hj3 : j < 3 := hj
    refine ⟨?_, by simp [World.frozen?, hg]⟩
    rw [cell_of_row _ _ _ _ _ _ hg, List.getElem?_toArray, List.getElem?_append_left (by omega), List.getElem?_eq_getElem (by omega)]
    rfl
  have hst := run_storeAt_mid (P := Try.prog) (ty := 25) w b (k * 3) (pkC p).toArray ht (by kernel_rfl) (by simp [pkC, Value.oneCell'])
  refine ⟨_, hst, ?_⟩
  rw [show w.setCells b (k * 3) (pkC p).toArray.toList = _ from h2]
  have hrow : (pkcs R).take (k * 3) ++ pkC p ++ ((pkcs R).drop (k * 3 + 3) ++ junk) = pkcs (R.set k p) ++ junk := by
    rw [pkcs_set R k p (by omega)]
    simp
  rw [hrow]
  refine h3 _ _ ⟨⟨⟨by rw [pkcs_length, List.length_set, hR], .inr ⟨b, c, junk, rfl, hB, setRow_heap _ _ _ _ _ _ hg, ?_, fun u hu => ?_⟩⟩, fun b' hb' => .inl (hS b' hb')⟩, mut_setRow (hS b (by simp [Value.ownBlock])) _⟩
  · rw [pkcs_length, List.length_set]
    rw [pkcs_length] at hc
    exact hc
  · rcases List.mem_append.1 hu with hu | hu
    · exact pkcs_one _ u hu
    · exact hC u (List.mem_append_right _ hu)
end
theorem neq_rpkS (p : Pk) (w : World) : (binOp .neq 84 (.agg (pkC p).toArray) (.agg (pkC p).toArray)).run Try.prog w = .ok (.bool false) w := by
  rw [neq_rpk, eqPk_self]
  rfl
attribute [local go_sem ↓] neq_rpkS
section
variable {W w : World} {ds : List (Ob Z0)} {g g' : Nat} {l : List Pk}
/-- The row of the document's network. -/
theorem OSt.rnl (i : Nat) (h : OSt W ds w) (hi : ds[i]? = some (rnO g l)) : ∃ A c, w.cell? ⟨g, 0, none⟩ = some (.slice A l.length c) ∧ g < w.heap.size ∧ RR w 3 (.slice A l.length c) l.length (pkcs l) := by
  obtain ⟨S, ⟨v, h1⟩, _⟩ := h.pick hi
  obtain ⟨A, c, rfl⟩ := h1.row.form
  obtain ⟨cr, -, gl⟩ := nt_c0 h1.hg
  exact ⟨A, c, cr, gl, h1.row.rr (by decide)⟩
def pk7 : Pk := ⟨-7, false, []⟩
set_option maxHeartbeats 4000000 in
theorem nlike_any (i j : Nat) (h : OSt W ds w) (hi : ds[i]? = some (netO g l)) (hj : ds[j]? = some (rnO g' l)) (hl : l.length ≤ 256) :
    Calls Try.prog 49 #[.pointer (some ⟨g, 0, none⟩), .pointer (some ⟨g', 0, none⟩)] w fun r w' => r = .returned (.bool true) ∧ OSt W ds w' := by
  have HJ := Lib.hid hj
  have HK := Lib.hid (nRowO i h hi (by omega))
  clear h hi hj
  go_enter Try.func49, Try.ntmps49
  go_wp2_with fail
  refine HK.out.mono ?_
  rintro e w1 ⟨v, rfl, h1, -⟩
  obtain ⟨Al, cl, hvl⟩ := (h1.own 0 rfl).form
  rw [hvl] at h1 ⊢
  have H1 := Lib.hid h1
  clear h1 hvl HK
  obtain ⟨n, hnn⟩ : ∃ n, l.length = n := ⟨_, rfl⟩
  have HN := Lib.hid hnn
  rw [hnn] at H1 hl ⊢
  obtain ⟨A2, c2, cr, gl, -⟩ := H1.out.rnl (j + 1) HJ.out
  rw [hnn] at cr
  clear hnn
  go_wp2_with fail
  go_loopg [6] n (fun gg s wr => ∃ (k : Nat) (R : List Pk), k ≤ n ∧ n - k ≤ gg ∧ s = .int .i64 k ∧ Hid (OSt W (ownOb 25 3 (.slice Al n cl) n (pkcs R) :: ds) wr) ∧ Hid (R.length = n) ∧ Hid (∀ j, k ≤ j → R[j]? = l[j]?))
  case atStart => exact ⟨0, l, Nat.zero_le _, by omega, rfl, H1, HN, Lib.hid fun _ _ => rfl⟩
  case round =>
    clear H1 cr gl
    obtain ⟨k, R, hk, hg, rfl, H, HR, HA⟩ := hrel
    by_cases hlt : k < n
    · obtain ⟨p, hp⟩ : ∃ p, l[k]? = some p := ⟨_, List.getElem?_eq_getElem (by rw [HN.out]; exact hlt)⟩
      have hRk : R[k]? = some p := by rw [HA.out k (Nat.le_refl _)]; exact hp
      have ho := H.out.own 0 rfl
      obtain ⟨b, rfl, -⟩ := ho.cells (by omega)
      obtain ⟨hbl, hbc, hbj, -⟩ := own_flat ho pkC_len HR.out hRk
      have hbc' := hbc (by decide)
      have y0 : wr.cell? ⟨b, k * 3, none⟩ = some (.int .i64 p.c) := hbj 0 (by decide)
      have y1 : wr.cell? ⟨b, k * 3 + 1, none⟩ = some (.bool p.up) := hbj 1 (by decide)
      have y2 : wr.cell? ⟨b, k * 3 + 2, none⟩ = some (.string (str p.b)) := hbj 2 (by decide)
      obtain ⟨A3, c3, cr, gl, hrr⟩ := H.out.rnl (j + 1) HJ.out
      obtain ⟨gs, off, rfl, hsl, hnc, -⟩ := hrr.at (by rw [HN.out]; omega)
      have z0 := RR.cellAt (enc := pkC) hrr pkC_len hp (i := 0) rfl
      have z1 := RR.cellAt (enc := pkC) hrr pkC_len hp (i := 1) rfl
      have z2 := RR.cellAt (enc := pkC) hrr pkC_len hp (i := 2) rfl
      rw [← Nat.add_assoc] at z0 z1 z2
      simp only [Nat.add_zero] at z0
      rw [HN.out] at cr hnc
      have e0 := fun (ψ : World → Prop) (e : ExtP wr.heap.size wr ψ) => e.cell y0 hbl
      have e1 := fun (ψ : World → Prop) (e : ExtP wr.heap.size wr ψ) => e.cell y1 hbl
      have e2 := fun (ψ : World → Prop) (e : ExtP wr.heap.size wr ψ) => e.cell y2 hbl
      have f := fun (ψ : World → Prop) (e : ExtP wr.heap.size wr ψ) => e.cell cr gl
      have f0 := fun (ψ : World → Prop) (e : ExtP wr.heap.size wr ψ) => e.cell z0 hsl
      have f1 := fun (ψ : World → Prop) (e : ExtP wr.heap.size wr ψ) => e.cell z1 hsl
      have f2 := fun (ψ : World → Prop) (e : ExtP wr.heap.size wr ψ) => e.cell z2 hsl
      have HP := Lib.hid hp
      clear hbc hbj ho hRk hrr y0 y1 y2 z0 z1 z2 cr hp
      go_upto_region 7 with fail
      refine wp_region_pieces 12  [(true, [0, 1, 2, 3, 5, 6, 7, 8, 9, 10, 11]), (false, [4])] (by kernel_rfl) (by kernel_rfl) ?_; simp only [pick, List.map_cons, List.map_nil, List.flatMap_cons, List.flatMap_nil, Option.toList_some, List.singleton_append, List.drop_succ_cons, List.drop_zero, List.getElem?_cons_zero, List.getElem?_cons_succ]
      refine ⟨by kernel_rfl, ?_⟩; apply Exists.intro; refine ⟨fun ψ hψ hne => (by (repeat (go_big_quiet_step (( fail )))); exact wpQuiet_nil rfl), ?_⟩
      clear e0 e1 e2 f f0 f1 f2
      rw [← pkC_eq p]
      intro wa ha K hK
      go_wp2_with (go_at_call 103; refine (back_any p wa).mono ?_; rintro e wb ⟨rfl, hb⟩)
      refine hK _ _ hb ?_
      clear hK K
      intro wc hc
      have H3 := Lib.hid (((H.out.ext ha).ext hb).ext hc)
      clear ha hb hc H
      obtain ⟨wd, hst, ho4⟩ := H3.out.setPk 0 rfl HR.out hlt pk7
      have ST := Lib.hid hst
      have H4 : Hid (OSt W (ownOb 25 3 (.slice (some ⟨b, 0, none⟩) n cl) n (pkcs (R.set k pk7)) :: ds) wd) := Lib.hid ho4
      clear hst ho4 H3
      go_wp2_with (refine wpList_st rfl 25 (.tmp 39) (.tmp 38) rfl ST.out ?_; simp only [Act.put]; clear ST)
      go_roundg (n - (k + 1))
      case measure => omega
      case rel =>
        refine ⟨k + 1, R.set k pk7, by omega, by omega, by go_num, H4, Lib.hid (by rw [List.length_set]; exact HR.out), Lib.hid fun j hj => ?_⟩
        rw [List.getElem?_set_ne (by omega)]
        exact HA.out j (by omega)
    · obtain rfl : k = n := by omega
      go_wp2
      go_ret
      exact ⟨rfl, H.out.dropI 0⟩
end
end
end Go.Proofs.Yteahlnoonmfjhaa
