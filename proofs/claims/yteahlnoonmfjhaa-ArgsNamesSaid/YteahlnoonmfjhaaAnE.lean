/- ArgsNames: the six examples. -/
import Derived.Test.YteahlnoonmfjhaaAnD
set_option linter.unusedVariables false
set_option maxRecDepth 100000
namespace Go.Proofs.Yteahlnoonmfjhaa
open Go.RowKit

theorem wp_bsN {P : Program} {o : Oper} {a : Act} {w : World} {K : Act → World → Prop} {Q : Exit → Act → World → Prop} (t e : TypeId) (sz n : Nat) (vs : List (List Value)) (parts : Array (Nat × Operand)) (ho : o.op = .buildSlice t n parts) (hn : vs.length = n) (hu : P.underlying t = some (.slice e)) (hi : (P.info? e).map (·.size) = some sz) (hz : ((P.info? e).bind (·.zero)).isSome = true) (h0 : 0 < sz) (h1 : 0 < n) (hs : n * sz ≤ 2 ^ 24) (hl : ∀ v ∈ vs, v.length = sz)
    (hp : (parts.map fun z => (z.1, a.eval z.2)).toList = ((vs.map fun c => Value.agg c.toArray).zipIdx 0).map fun x => (x.2, x.1))
    (h : K (a.put o.dst (.slice (some ⟨w.heap.size, 0, none⟩) n n)) (w.alloc (.cells (vs.flatMap id).toArray e))) : o.wp P a w K Q := by
  subst hn
  unfold Oper.wp execOp
  simp only [ho, Sem.run_bind, run_bsN w vs hu hi hz h0 h1 hs hl hp, Result.andThen_ok, Sem.run_pure]
  exact h
def x1A : AgT := { ag0 with h := hx 1, mode := 2, size := 3, guard := 4 }
def x2A : AgT := { ag0 with h := hx 1, t := hx 2, name := [110] }
def x3A : AgT := { ag0 with h := hx 1, at_ := 5, stable := 6, text := [116] }
def x6A : AgT := { ag0 with h := hx 1, t := hx 2, name := [110], other := [111] }
def x4R : RsT := { rs0 with text := [116], end_ := true, at_ := ⟨1, 2, 3, 4, 5, 6, 7, 8⟩ }
def x5R : RsT := { rs0 with ents := [⟨[101], 2, 3⟩], verf := 4 }
def txL (c : UInt8) : List UInt8 := beN 1 4 ++ fixL [c]
theorem q1 : (aW 2 x1A).1 = hbytes 0 1 0 ++ i8L [2, 3, 4] := by decide +kernel
theorem q2 : (aW 13 x2A).1 = hbytes 0 1 0 ++ hbytes 0 2 0 ++ txL 110 := by decide +kernel
theorem q3 : (aW 6 x3A).1 = hbytes 0 1 0 ++ i8L [5, 6] ++ txL 116 := by decide +kernel
theorem q4 : (aT 5 x4R).1 = beN 0 4 ++ txL 116 ++ beN 1 4 ++ beN 1 4 ++ i8L [2, 3, 4, 5, 6, 7, 8] := by decide +kernel
theorem q5 : (aT 14 x5R).1 = beN 0 4 ++ beN 1 4 ++ txL 101 ++ i8L [2, 3] ++ beN 0 4 ++ i8L [4] := by decide +kernel
theorem q6 : (aW 12 x6A).1 = hbytes 0 1 0 ++ txL 110 ++ hbytes 0 2 0 ++ txL 111 := by decide +kernel
theorem aw_k (p : Int) (a : AgT) (V : Value) (hV : V = .agg (agC a).toArray) (he : (aW p a).2 = 0) (hp : I64 p) (hk : a.Ok) (w : World) : Calls Try.prog 26 #[.int .i64 p, V] w fun e w' => e = .returned (.tuple #[.string (str (aW p a).1), .int .i64 0]) ∧ Ext w w' := by
  subst hV
  have := aWrite_any p a w hp hk
  rw [he] at this
  exact this
theorem at_k (p : Int) (x : RsT) (rv V : Value) (hV : V = .agg (rsC x rv).toArray) (he : (aT p x).2 = 0) (hp : I64 p) (hk : okwB x = true) (w : World) (hr : EnR w rv x.ents) : Calls Try.prog 32 #[.int .i64 p, V] w fun e w' => e = .returned (.tuple #[.string (str (aT p x).1), .int .i64 0]) ∧ Ext w w' := by
  subst hV
  obtain ⟨h1, h2⟩ := okwB_ok hk
  have := aTell_any p x rv w hp h1 h2 hr
  rw [he] at this
  exact this
theorem ints_k (ns : List Int) (w : World) (hl : ns.length ≤ 20) (hb : ∀ n ∈ ns, I64 n) : Calls Try.prog 41 #[.slice (some ⟨w.heap.size, 0, none⟩) ns.length ns.length] (w.alloc (.cells (ics ns).toArray 3)) fun e w' => e = .returned (.string (str (i8L ns))) ∧ Ext (w.alloc (.cells (ics ns).toArray 3)) w' := by
  refine ints05_any ns _ _ ⟨by simp [ics], .inr ⟨w.heap.size, 0, ns.length, rfl, by simp, Nat.le_refl _, fun j hj => ?_⟩⟩ hl hb
  rw [cell_of_row _ _ _ _ _ _ (heap_alloc_last w (.cells (ics ns).toArray 3)), Nat.zero_add]
  simp only [List.getElem?_toArray]
  rw [List.getElem?_eq_getElem hj]
/-- All that is told of the six examples, by opaque strings. -/
structure Six (B1 B2 TN TT TO TE W0 W1 I1 I2 I3 I4 I5 T1 T2 T3 T4 T5 T6 P2 P3 P4a P4b P4c P5a P5b P5c P5d P6a P6b : ByteArray) : Prop where
  e1 : B1 ++ I1 = T1
  e2a : B1 ++ B2 = P2
  e2 : P2 ++ TN = T2
  e3a : B1 ++ I2 = P3
  e3 : P3 ++ TT = T3
  e4a : W0 ++ TT = P4a
  e4b : P4a ++ W1 = P4b
  e4c : P4b ++ W1 = P4c
  e4 : P4c ++ I3 = T4
  e5a : W0 ++ W1 = P5a
  e5b : P5a ++ TE = P5b
  e5c : P5b ++ I4 = P5c
  e5d : P5c ++ W0 = P5d
  e5 : P5d ++ I5 = T5
  e6a : B1 ++ TN = P6a
  e6b : P6a ++ B2 = P6b
  e6 : P6b ++ TO = T6
  sP2 : P2.size = 48
  sP3 : P3.size = 40
  sP4a : P4a.size = 12
  sP4b : P4b.size = 16
  sP4c : P4c.size = 20
  sP5a : P5a.size = 8
  sP5b : P5b.size = 16
  sP5c : P5c.size = 32
  sP5d : P5d.size = 36
  sP6a : P6a.size = 32
  sP6b : P6b.size = 56
  sB1 : B1.size = 24
  sB2 : B2.size = 24
  sTN : TN.size = 8
  sTT : TT.size = 8
  sTO : TO.size = 8
  sTE : TE.size = 8
  sW0 : W0.size = 4
  sW1 : W1.size = 4
  sI1 : I1.size = 24
  sI2 : I2.size = 16
  sI3 : I3.size = 56
  sI4 : I4.size = 16
  sI5 : I5.size = 8
  kB1 : ∀ w, Calls Try.prog 40 #[.agg #[.int .i64 0, .int .i64 1, .int .i64 0]] w fun e w' => e = .returned (.string B1) ∧ Ext w w'
  kB2 : ∀ w, Calls Try.prog 40 #[.agg #[.int .i64 0, .int .i64 2, .int .i64 0]] w fun e w' => e = .returned (.string B2) ∧ Ext w w'
  kTN : ∀ w, Calls Try.prog 42 #[.string ⟨#[110]⟩] w fun e w' => e = .returned (.string TN) ∧ Ext w w'
  kTT : ∀ w, Calls Try.prog 42 #[.string ⟨#[116]⟩] w fun e w' => e = .returned (.string TT) ∧ Ext w w'
  kTO : ∀ w, Calls Try.prog 42 #[.string ⟨#[111]⟩] w fun e w' => e = .returned (.string TO) ∧ Ext w w'
  kTE : ∀ w, Calls Try.prog 42 #[.string ⟨#[101]⟩] w fun e w' => e = .returned (.string TE) ∧ Ext w w'
  kW0 : ∀ w, Calls Try.prog 43 #[.int .u32 0] w fun e w' => e = .returned (.string W0) ∧ Ext w w'
  kW1 : ∀ w, Calls Try.prog 43 #[.int .u32 1] w fun e w' => e = .returned (.string W1) ∧ Ext w w'
  kI1 : ∀ w : World, Calls Try.prog 41 #[.slice (some ⟨w.heap.size, 0, none⟩) 3 3] (w.alloc (.cells #[.int .i64 2, .int .i64 3, .int .i64 4] 3)) fun e w' => e = .returned (.string I1) ∧ Ext w w'
  kI2 : ∀ w : World, Calls Try.prog 41 #[.slice (some ⟨w.heap.size, 0, none⟩) 2 2] (w.alloc (.cells #[.int .i64 5, .int .i64 6] 3)) fun e w' => e = .returned (.string I2) ∧ Ext w w'
  kI3 : ∀ w : World, Calls Try.prog 41 #[.slice (some ⟨w.heap.size, 0, none⟩) 7 7] (w.alloc (.cells #[.int .i64 2, .int .i64 3, .int .i64 4, .int .i64 5, .int .i64 6, .int .i64 7, .int .i64 8] 3)) fun e w' => e = .returned (.string I3) ∧ Ext w w'
  kI4 : ∀ w : World, Calls Try.prog 41 #[.slice (some ⟨w.heap.size, 0, none⟩) 2 2] (w.alloc (.cells #[.int .i64 2, .int .i64 3] 3)) fun e w' => e = .returned (.string I4) ∧ Ext w w'
  kI5 : ∀ w : World, Calls Try.prog 41 #[.slice (some ⟨w.heap.size, 0, none⟩) 1 1] (w.alloc (.cells #[.int .i64 4] 3)) fun e w' => e = .returned (.string I5) ∧ Ext w w'
  k1 : ∀ w, Calls Try.prog 26 #[.int .i64 2, .agg #[.int .i64 0, .int .i64 1, .int .i64 0, .int .i64 0, .int .i64 0, .int .i64 0, .string ⟨#[]⟩, .string ⟨#[]⟩, .string ⟨#[]⟩, .int .i64 0, .int .i64 0, .int .i64 2, .int .i64 3, .int .i64 0, .int .i64 4, .int .u64 0]] w fun e w' => e = .returned (.tuple #[.string T1, .int .i64 0]) ∧ Ext w w'
  k2 : ∀ w, Calls Try.prog 26 #[.int .i64 13, .agg #[.int .i64 0, .int .i64 1, .int .i64 0, .int .i64 0, .int .i64 2, .int .i64 0, .string ⟨#[110]⟩, .string ⟨#[]⟩, .string ⟨#[]⟩, .int .i64 0, .int .i64 0, .int .i64 0, .int .i64 0, .int .i64 0, .int .i64 0, .int .u64 0]] w fun e w' => e = .returned (.tuple #[.string T2, .int .i64 0]) ∧ Ext w w'
  k3 : ∀ w, Calls Try.prog 26 #[.int .i64 6, .agg #[.int .i64 0, .int .i64 1, .int .i64 0, .int .i64 0, .int .i64 0, .int .i64 0, .string ⟨#[]⟩, .string ⟨#[]⟩, .string ⟨#[116]⟩, .int .i64 5, .int .i64 0, .int .i64 0, .int .i64 0, .int .i64 6, .int .i64 0, .int .u64 0]] w fun e w' => e = .returned (.tuple #[.string T3, .int .i64 0]) ∧ Ext w w'
  k6 : ∀ w, Calls Try.prog 26 #[.int .i64 12, .agg #[.int .i64 0, .int .i64 1, .int .i64 0, .int .i64 0, .int .i64 2, .int .i64 0, .string ⟨#[110]⟩, .string ⟨#[111]⟩, .string ⟨#[]⟩, .int .i64 0, .int .i64 0, .int .i64 0, .int .i64 0, .int .i64 0, .int .i64 0, .int .u64 0]] w fun e w' => e = .returned (.tuple #[.string T6, .int .i64 0]) ∧ Ext w w'
  k4 : ∀ w, Calls Try.prog 32 #[.int .i64 5, .agg #[.int .i64 0, .int .i64 0, .int .i64 0, .int .i64 0, .int .u8 1, .int .i64 2, .int .i64 3, .int .i64 4, .int .i64 5, .int .i64 6, .int .i64 7, .int .i64 8, .string ⟨#[116]⟩, .int .i64 0, .int .i64 0, .int .u64 0, .bool true, .slice none 0 0, .int .u64 0]] w fun e w' => e = .returned (.tuple #[.string T4, .int .i64 0]) ∧ Ext w w'
  k5 : ∀ w : World, Calls Try.prog 32 #[.int .i64 14, .agg #[.int .i64 0, .int .i64 0, .int .i64 0, .int .i64 0, .int .u8 0, .int .i64 0, .int .i64 0, .int .i64 0, .int .i64 0, .int .i64 0, .int .i64 0, .int .i64 0, .string ⟨#[]⟩, .int .i64 0, .int .i64 0, .int .u64 0, .bool false, .slice (some ⟨w.heap.size, 0, none⟩) 1 1, .int .u64 4]] (w.alloc (.cells #[.string ⟨#[101]⟩, .int .i64 2, .int .i64 3] 66)) fun e w' => e = .returned (.tuple #[.string T5, .int .i64 0]) ∧ Ext w w'
theorem six : Six (str (hbytes 0 1 0)) (str (hbytes 0 2 0)) (str (txL 110)) (str (txL 116)) (str (txL 111)) (str (txL 101)) (str (beN 0 4)) (str (beN 1 4)) (str (i8L [2, 3, 4])) (str (i8L [5, 6])) (str (i8L [2, 3, 4, 5, 6, 7, 8])) (str (i8L [2, 3])) (str (i8L [4]))
    (str (aW 2 x1A).1) (str (aW 13 x2A).1) (str (aW 6 x3A).1) (str (aT 5 x4R).1) (str (aT 14 x5R).1) (str (aW 12 x6A).1)
    (str (hbytes 0 1 0 ++ hbytes 0 2 0)) (str (hbytes 0 1 0 ++ i8L [5, 6])) (str (beN 0 4 ++ txL 116)) (str (beN 0 4 ++ txL 116 ++ beN 1 4)) (str (beN 0 4 ++ txL 116 ++ beN 1 4 ++ beN 1 4))
    (str (beN 0 4 ++ beN 1 4)) (str (beN 0 4 ++ beN 1 4 ++ txL 101)) (str (beN 0 4 ++ beN 1 4 ++ txL 101 ++ i8L [2, 3])) (str (beN 0 4 ++ beN 1 4 ++ txL 101 ++ i8L [2, 3] ++ beN 0 4)) (str (hbytes 0 1 0 ++ txL 110)) (str (hbytes 0 1 0 ++ txL 110 ++ hbytes 0 2 0)) where
  e1 := by rw [q1]; exact str_append _ _
  e2a := str_append _ _
  e2 := by rw [q2]; exact str_append _ _
  e3a := str_append _ _
  e3 := by rw [q3]; exact str_append _ _
  e4a := str_append _ _
  e4b := str_append _ _
  e4c := str_append _ _
  e4 := by rw [q4]; exact str_append _ _
  e5a := str_append _ _
  e5b := str_append _ _
  e5c := str_append _ _
  e5d := str_append _ _
  e5 := by rw [q5]; exact str_append _ _
  e6a := str_append _ _
  e6b := str_append _ _
  e6 := by rw [q6]; exact str_append _ _
  sP2 := by rw [str_size]; decide +kernel
  sP3 := by rw [str_size]; decide +kernel
  sP4a := by rw [str_size]; decide +kernel
  sP4b := by rw [str_size]; decide +kernel
  sP4c := by rw [str_size]; decide +kernel
  sP5a := by rw [str_size]; decide +kernel
  sP5b := by rw [str_size]; decide +kernel
  sP5c := by rw [str_size]; decide +kernel
  sP5d := by rw [str_size]; decide +kernel
  sP6a := by rw [str_size]; decide +kernel
  sP6b := by rw [str_size]; decide +kernel
  sB1 := by rw [str_size]; decide +kernel
  sB2 := by rw [str_size]; decide +kernel
  sTN := by rw [str_size]; decide +kernel
  sTT := by rw [str_size]; decide +kernel
  sTO := by rw [str_size]; decide +kernel
  sTE := by rw [str_size]; decide +kernel
  sW0 := by rw [str_size]; decide +kernel
  sW1 := by rw [str_size]; decide +kernel
  sI1 := by rw [str_size]; decide +kernel
  sI2 := by rw [str_size]; decide +kernel
  sI3 := by rw [str_size]; decide +kernel
  sI4 := by rw [str_size]; decide +kernel
  sI5 := by rw [str_size]; decide +kernel
  kB1 := fun w => bytes05_any 0 1 0 (by decide) w
  kB2 := fun w => bytes05_any 0 2 0 (by decide) w
  kTN := fun w => text05_any [110] (by decide) w
  kTT := fun w => text05_any [116] (by decide) w
  kTO := fun w => text05_any [111] (by decide) w
  kTE := fun w => text05_any [101] (by decide) w
  kW0 := fun w => word05_any 0 (by decide) (by decide) w
  kW1 := fun w => word05_any 1 (by decide) (by decide) w
  kI1 := fun w => (ints_k [2, 3, 4] w (by decide) (by simp [I64])).mono fun e w' ⟨he, hx⟩ => ⟨he, Ext.trans (extAl _ _) hx⟩
  kI2 := fun w => (ints_k [5, 6] w (by decide) (by simp [I64])).mono fun e w' ⟨he, hx⟩ => ⟨he, Ext.trans (extAl _ _) hx⟩
  kI3 := fun w => (ints_k [2, 3, 4, 5, 6, 7, 8] w (by decide) (by simp [I64])).mono fun e w' ⟨he, hx⟩ => ⟨he, Ext.trans (extAl _ _) hx⟩
  kI4 := fun w => (ints_k [2, 3] w (by decide) (by simp [I64])).mono fun e w' ⟨he, hx⟩ => ⟨he, Ext.trans (extAl _ _) hx⟩
  kI5 := fun w => (ints_k [4] w (by decide) (by simp [I64])).mono fun e w' ⟨he, hx⟩ => ⟨he, Ext.trans (extAl _ _) hx⟩
  k1 := fun w => aw_k 2 x1A _ rfl (by decide +kernel) (by simp [I64]) (okB_ok (by decide +kernel)) w
  k2 := fun w => aw_k 13 x2A _ rfl (by decide +kernel) (by simp [I64]) (okB_ok (by decide +kernel)) w
  k3 := fun w => aw_k 6 x3A _ rfl (by decide +kernel) (by simp [I64]) (okB_ok (by decide +kernel)) w
  k6 := fun w => aw_k 12 x6A _ rfl (by decide +kernel) (by simp [I64]) (okB_ok (by decide +kernel)) w
  k4 := fun w => at_k 5 x4R (.slice none 0 0) _ rfl (by decide +kernel) (by simp [I64]) (by decide +kernel) w RR.nil
  k5 := fun w => (at_k 14 x5R (.slice (some ⟨w.heap.size, 0, none⟩) 1 1) _ rfl (by decide +kernel) (by simp [I64]) (by decide +kernel) _ (en_row (L := [⟨[101], 2, 3⟩]) (n := 1) (heap_alloc_last w (.cells #[.string ⟨#[101]⟩, .int .i64 2, .int .i64 3] 66)) (by decide) (by decide))).mono fun e w' ⟨he, hx⟩ => ⟨he, Ext.trans (extAl _ _) hx⟩
theorem an_tl : (anTab.map anC).length = 21 := rfl
theorem an_18 : ∀ v ∈ anTab.map anC, v.length = 18 := fun v hv => by obtain ⟨r, _, rfl⟩ := List.mem_map.1 hv; rfl
theorem an_fl : (anTab.map anC).flatMap id = anTab.flatMap anC := by simp [List.flatMap_map]
theorem an_z : ((Try.prog.info? TA).bind (·.zero)).isSome = true := by kernel_rfl
theorem wp_anTab {o : Oper} {a : Act} {w : World} {K : Act → World → Prop} {Q : Exit → Act → World → Prop} (parts : Array (Nat × Operand)) (ho : o.op = .buildSlice 71 21 parts)
    (hp : (parts.map fun z => (z.1, a.eval z.2)).toList = (((anTab.map anC).map fun c => Value.agg c.toArray).zipIdx 0).map fun x => (x.2, x.1))
    (h : K (a.put o.dst (.slice (some ⟨w.heap.size, 0, none⟩) 21 21)) (w.alloc (.cells (anTab.flatMap anC).toArray TA))) : o.wp Try.prog a w K Q := by
  refine wp_bsN 71 TA 18 21 (anTab.map anC) parts ho an_tl Try.underlying71 info_an an_z (by decide) (by decide) (by decide) an_18 hp ?_
  rw [an_fl]
  exact h
theorem quiet_bld {P : Program} {o : Oper} {a : Act} {C : World → Prop} {K : Act → Prop} (ty : TypeId) (parts : Array (Nat × Operand)) (ho : o.op = .build ty parts) {v : Value} (hr : ∀ w, (Instr.build ty (parts.map fun z => (z.1, a.eval z.2))).run P w = .ok v w)
    (hk : K (a.put o.dst v)) : o.quiet P a C K :=
  ⟨v, fun w hw => by
    have h := hr w
    unfold Oper.quietAt execOp
    simp only [ho, Sem.run_bind]
    rw [h]
    simp only [Result.andThen_ok, Sem.run_pure]
    exact ⟨rfl, rfl⟩, hk⟩
theorem mk65E : ∃ EE : List Value, Hid ((List.replicate 65 en0).flatMap enC = EE) ∧ ∀ w : World, (Instr.makeSlice 39 (.int .i64 65) (.int .i64 65)).run Try.prog w = .ok (.slice (some ⟨w.heap.size, 0, none⟩) 65 65) (w.alloc (.cells EE.toArray 66)) := ⟨_, Lib.hid rfl, mk65⟩
end Go.Proofs.Yteahlnoonmfjhaa
