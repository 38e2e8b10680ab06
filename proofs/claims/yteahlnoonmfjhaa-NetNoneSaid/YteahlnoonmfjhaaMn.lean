/- Texts of mine in one: NtA, NtB, NtC, NtD, NtE, NtF, NtG, NtP. No statement of its own. -/
import Derived.Test.YteahlnoonmfjhaaGen
import Derived.Test.YteahlnoonmfjhaaRows
import Derived.Lib.SliceRun
set_option linter.unusedVariables false
set_option maxRecDepth 100000
namespace Go.Proofs.Yteahlnoonmfjhaa
section
set_option linter.unusedVariables false
set_option maxRecDepth 100000
open Go.RowKit

structure Pk where
  c : Int
  up : Bool
  b : List UInt8
deriving DecidableEq
def pkC (p : Pk) : List Value := [.int .i64 p.c, .bool p.up, .string (str p.b)]
theorem pkC_eq (p : Pk) : (pkC p).toArray = #[.int .i64 p.c, .bool p.up, .string (str p.b)] := rfl
theorem pkC_len (p : Pk) : (pkC p).length = 3 := rfl
def pkcs (l : List Pk) : List Value := l.flatMap pkC
theorem pkcs_length (l : List Pk) : (pkcs l).length = l.length * 3 := flat_length pkC_len l
theorem pkC_one (p : Pk) : ∀ u ∈ pkC p, One u := by
  intro u hu
  simp only [pkC, List.mem_cons, List.not_mem_nil, or_false] at hu
  rcases hu with rfl | rfl | rfl <;> rfl
theorem pkcs_one (l : List Pk) : ∀ u ∈ pkcs l, One u := by
  intro u hu
  obtain ⟨p, _, hp⟩ := List.mem_flatMap.1 hu
  exact pkC_one p u hp
theorem pkcs_snoc (l : List Pk) (p : Pk) : pkcs (l ++ [p]) = pkcs l ++ pkC p := by simp [pkcs]
/-- An open call. -/
structure Cl where
  x : Int
  p : Int
  b : List UInt8
deriving DecidableEq
def clC (p : Cl) : List Value := [.int .i64 p.x, .int .i64 p.p, .string (str p.b)]
theorem clC_eq (p : Cl) : (clC p).toArray = #[.int .i64 p.x, .int .i64 p.p, .string (str p.b)] := rfl
theorem clC_len (p : Cl) : (clC p).length = 3 := rfl
def clcs (l : List Cl) : List Value := l.flatMap clC
theorem clcs_length (l : List Cl) : (clcs l).length = l.length * 3 := flat_length clC_len l
theorem clC_one (p : Cl) : ∀ u ∈ clC p, One u := by
  intro u hu
  simp only [clC, List.mem_cons, List.not_mem_nil, or_false] at hu
  rcases hu with rfl | rfl | rfl <;> rfl
theorem clcs_one (l : List Cl) : ∀ u ∈ clcs l, One u := by
  intro u hu
  obtain ⟨p, _, hp⟩ := List.mem_flatMap.1 hu
  exact clC_one p u hp
theorem clcs_snoc (l : List Cl) (p : Cl) : clcs (l ++ [p]) = clcs l ++ clC p := by simp [clcs]

def Z0 (_ : Obj) : Prop := False
/-- A block with a row of one's own among its cells. -/
structure NtP (w : World) (S : Nat → Prop) (T E : TypeId) (pre post : List Value) (g n : Nat) (cs : List Value) (v : Value) : Prop where
  hg : w.heap[g]? = some (.cells (pre ++ v :: post).toArray T (0, 0))
  row : OwnR w 0 E 3 One v n cs
  sg : S g
  sv : ∀ b, v.ownBlock = some b → S b
def ntK (T E : TypeId) (o : Obj) : Prop := match o with
  | .cells _ t _ => t = T ∨ t = E
  | _ => False
theorem ownR_blk {w : World} {B b : Nat} {T : TypeId} {sz : Nat} {C : Value → Prop} {v : Value} {n : Nat} {cs : List Value} (h : OwnR w B T sz C v n cs) (hb : v.ownBlock = some b) : ∃ cs', w.heap[b]? = some (.cells cs' T (0, 0)) := by
  obtain ⟨_, ⟨rfl, _⟩ | ⟨g, c, junk, rfl, hB, hg, _⟩⟩ := h
  · simp [Value.ownBlock] at hb
  · obtain rfl : g = b := by simpa [Value.ownBlock] using hb
    exact ⟨_, hg⟩
def ntOb (T E : TypeId) (pre post : List Value) (g n : Nat) (cs : List Value) : Ob Z0 where
  is := fun w S => ∃ v, NtP w S T E pre post g n cs v
  K := ntK T E
  mutw := fun ⟨v, h⟩ k hd _ => ⟨v, (k.block g (heap_lt h.hg) (hd g h.sg)).trans h.hg, h.row.mutO k fun b hb => hd b (h.sv b hb), h.sg, h.sv⟩
  mono := fun ⟨v, h⟩ k => ⟨v, h.hg, h.row, k _ h.sg, fun b hb => k b (h.sv b hb)⟩
  trim := fun ⟨v, h⟩ => ⟨v, h.hg, h.row, ⟨h.sg, _, h.hg, .inl rfl⟩, fun b hb => ⟨h.sv b hb, by obtain ⟨cs, hc⟩ := ownR_blk h.row hb; exact ⟨_, hc, .inr rfl⟩⟩⟩
  kz := fun _ _ h => h
section
variable {w W : World} {S : Nat → Prop} {T E : TypeId} {pre post pre' post' : List Value} {g n n' : Nat} {cs cs' : List Value} {v v' : Value}
theorem NtP.fin {row : Array Value} (h : NtP w S T E pre post g n cs v) (hTE : E ≠ T) (hM : Mut S w W) (hg : W.heap[g]? = some (.cells row T (0, 0))) (ho : OwnR W 0 E 3 One v' n' cs') (hs : ∀ b, v'.ownBlock = some b → S b ∨ w.heap.size ≤ b) :
    To S w (W.setRow g (pre' ++ v' :: post').toArray) (ntOb T E pre' post' g n' cs') :=
  ⟨⟨v', setRow_heap _ _ _ _ _ _ hg, ho.set hg hTE, .inl h.sg, fun b hb => (hs b hb).imp id fun h1 => ⟨h1, by simpa [World.setRow] using (own_lt ho hb).2⟩⟩, hM.trans (mut_setRow h.sg _)⟩
theorem NtP.ext {w' : World} (h : NtP w S T E pre post g n cs v) (k : Ext w w') : NtP w' S T E pre post g n cs v := ⟨(Below.block k g (heap_lt h.hg)).trans h.hg, h.row.ext k, h.sg, h.sv⟩
/-- The cells of a block whose first cell is the row. -/
theorem nt_c0 {a : Value} {l : List Value} (h : w.heap[g]? = some (.cells (a :: l).toArray T (0, 0))) : w.cell? ⟨g, 0, none⟩ = some a ∧ (∀ o, w.frozen? ⟨g, o, none⟩ = false) ∧ g < w.heap.size :=
  ⟨by simp [World.cell?, h], fun o => by simp [World.frozen?, h], heap_lt h⟩
theorem nt_c2 {a b c : Value} {l : List Value} (h : w.heap[g]? = some (.cells (a :: b :: c :: l).toArray T (0, 0))) : w.cell? ⟨g, 0, none⟩ = some a ∧ w.cell? ⟨g, 1, none⟩ = some b ∧ w.cell? ⟨g, 2, none⟩ = some c ∧ (∀ o, w.frozen? ⟨g, o, none⟩ = false) ∧ g < w.heap.size :=
  ⟨by simp [World.cell?, h], by simp [World.cell?, h], by simp [World.cell?, h], fun o => by simp [World.frozen?, h], heap_lt h⟩
theorem nt_s0 {a : Value} (x : Value) (h : w.heap[g]? = some (.cells #[a] T (0, 0))) : w.setCell ⟨g, 0, none⟩ x = w.setRow g #[x] := by
  rw [setCell_eq_setRow w g 0 _ T (0, 0) x h]; rfl
theorem nt_s2 {a b c : Value} (x : Value) (h : w.heap[g]? = some (.cells #[a, b, c] T (0, 0))) : w.setCell ⟨g, 2, none⟩ x = w.setRow g #[a, b, x] := by
  rw [setCell_eq_setRow w g 2 _ T (0, 0) x h]; rfl
end
theorem app_nt {e tx ty ts : TypeId} {w : World} {B n : Nat} {v x z : Value} {cs : List Value} {m : Nat} {new : List Value} (hu : Try.prog.underlying ts = some (.slice e)) (h : (Try.prog.info? e).map (fun i => (i.zero, i.size, i.bytes)) = some (some z, 3, 32)) (hz : z.cells.size = 3) (hz1 : ∀ u ∈ z.cells, One u)
    (ho : OwnR w B e 3 One v n cs) (hs : Src Try.prog 3 tx x m new w) (hB : B ≤ w.heap.size) (hn : ∀ u ∈ new, One u) (hc : n + m ≤ 1000000) :
    ∃ v' w', (Builtin.append_ #[ts, tx] ty #[v, x]).run Try.prog w = .ok v' w' ∧ OwnR w' B e 3 One v' (n + m) (cs ++ new) ∧ Below B w w' ∧ w.grownBy w' v.ownBlock ∧ (∀ b, v'.ownBlock = some b → v.ownBlock = some b ∨ w.heap.size ≤ b) := by
  obtain ⟨i, hi, hz0, hs1, hz2⟩ := info_prt h
  exact appG2 (ty := ty) hu hi hs1 hz0 hz ho hs hB (by omega) hn hz1 (by rw [hz2]; omega) (by omega)
theorem app_pk {w : World} {B n : Nat} {v x : Value} {cs : List Value} {m : Nat} {new : List Value} {tx ty : TypeId} (ho : OwnR w B 25 3 One v n cs) (hs : Src Try.prog 3 tx x m new w) (hB : B ≤ w.heap.size) (hn : ∀ u ∈ new, One u) (hc : n + m ≤ 1000000) :
    ∃ v' w', (Builtin.append_ #[50, tx] ty #[v, x]).run Try.prog w = .ok v' w' ∧ OwnR w' B 25 3 One v' (n + m) (cs ++ new) ∧ Below B w w' ∧ w.grownBy w' v.ownBlock ∧ (∀ b, v'.ownBlock = some b → v.ownBlock = some b ∨ w.heap.size ≤ b) :=
  app_nt (z := .agg #[.int .i64 0, .bool false, .string ⟨#[]⟩]) Try.underlying50 (by kernel_rfl) rfl (by intro u hu; simp [Value.cells] at hu; rcases hu with rfl | rfl | rfl <;> rfl) ho hs hB hn hc
theorem app_rpk {w : World} {B n : Nat} {v x : Value} {cs : List Value} {m : Nat} {new : List Value} {tx ty : TypeId} (ho : OwnR w B 84 3 One v n cs) (hs : Src Try.prog 3 tx x m new w) (hB : B ≤ w.heap.size) (hn : ∀ u ∈ new, One u) (hc : n + m ≤ 1000000) :
    ∃ v' w', (Builtin.append_ #[96, tx] ty #[v, x]).run Try.prog w = .ok v' w' ∧ OwnR w' B 84 3 One v' (n + m) (cs ++ new) ∧ Below B w w' ∧ w.grownBy w' v.ownBlock ∧ (∀ b, v'.ownBlock = some b → v.ownBlock = some b ∨ w.heap.size ≤ b) :=
  app_nt (z := .agg #[.int .i64 0, .bool false, .string ⟨#[]⟩]) Try.underlying96 (by kernel_rfl) rfl (by intro u hu; simp [Value.cells] at hu; rcases hu with rfl | rfl | rfl <;> rfl) ho hs hB hn hc
theorem app_cl {w : World} {B n : Nat} {v x : Value} {cs : List Value} {m : Nat} {new : List Value} {tx ty : TypeId} (ho : OwnR w B 118 3 One v n cs) (hs : Src Try.prog 3 tx x m new w) (hB : B ≤ w.heap.size) (hn : ∀ u ∈ new, One u) (hc : n + m ≤ 1000000) :
    ∃ v' w', (Builtin.append_ #[108, tx] ty #[v, x]).run Try.prog w = .ok v' w' ∧ OwnR w' B 118 3 One v' (n + m) (cs ++ new) ∧ Below B w w' ∧ w.grownBy w' v.ownBlock ∧ (∀ b, v'.ownBlock = some b → v.ownBlock = some b ∨ w.heap.size ≤ b) :=
  app_nt (z := .agg #[.int .i64 0, .int .i64 0, .string ⟨#[]⟩]) Try.underlying108 (by kernel_rfl) rfl (by intro u hu; simp [Value.cells] at hu; rcases hu with rfl | rfl | rfl <;> rfl) ho hs hB hn hc
set_option maxHeartbeats 4000000 in
theorem netPut_row {S : Nat → Prop} {g n : Nat} {N0 : Nat} {cs : List Value} (p : Pk) (w : World) (h : (ntOb 106 25 [] [] g n cs).is w S) (hn : n ≤ 999999) :
    Calls Try.prog 57 #[.pointer (some ⟨g, 0, none⟩), .agg (pkC p).toArray] w fun e w' => e = .returned (.tuple #[]) ∧ To S w w' (ntOb 106 25 [] [] g (n + 1) (cs ++ pkC p)) := by
  obtain ⟨v, h⟩ := h
  obtain ⟨A, c, rfl⟩ := h.row.form
  have hx := extAl w (.cells (pkC p).toArray 25)
  have h1 := h.ext hx
  have hb := heap_alloc_last w (.cells (pkC p).toArray 25)
  have hvl : ∀ b, (Value.slice A n c).ownBlock = some b → b ≠ w.heap.size := fun b hb e => by have := own_lt h.row hb; omega
  have H := Lib.hid h
  have H1 := Lib.hid h1
  have HB := Lib.hid hb
  have HX := Lib.hid hx
  have HP1 := Lib.hid (pkC_one p)
  have HV := Lib.hid hvl
  clear h h1 hb hx hvl
  have hpe := pkC_eq p
  go_enter Try.func57, Try.ntmps57
  rw [hpe]
  go_upto_region 1 with fail
  rw [← hpe]
  have h1 := H1.out
  have hb := HB.out
  generalize w.alloc (.cells (pkC p).toArray 25) = w1 at *
  obtain ⟨d0, d1, d2, -, dl⟩ := nt_c2 (l := []) hb
  obtain ⟨cr, -, gl⟩ := nt_c0 h1.hg
  obtain ⟨So, HSo⟩ : ∃ So : Nat → Prop, Hid (So = fun j => (Value.slice A n c).ownBlock = some j) := ⟨_, Lib.hid rfl⟩
  have hng : ¬ So g := by rw [HSo.out]; exact fun e => own_ne h1.row h1.hg (by decide) e
  have hnb : ¬ So w.heap.size := by rw [HSo.out]; exact fun e => HV.out _ e rfl
  have e0 : ∀ (ψ : World → Prop) (e : ExtS So w1 ψ), e.val.cell? ⟨g, 0, none⟩ = some (.slice A n c) := fun ψ e => e.cell cr gl hng
  have e1 : ∀ (ψ : World → Prop) (e : ExtS So w1 ψ), e.val.cell? ⟨w.heap.size, 0, none⟩ = some _ := fun ψ e => e.cell d0 dl hnb
  have e2 : ∀ (ψ : World → Prop) (e : ExtS So w1 ψ), e.val.cell? ⟨w.heap.size, 1, none⟩ = some _ := fun ψ e => e.cell d1 dl hnb
  have e3 : ∀ (ψ : World → Prop) (e : ExtS So w1 ψ), e.val.cell? ⟨w.heap.size, 2, none⟩ = some _ := fun ψ e => e.cell d2 dl hnb
  have HPE := Lib.hid hpe
  clear d0 d1 d2 cr h1 hb HB hpe
  refine wp_region_piecesS So 8 [(true, [0, 1, 2, 3, 4, 5]), (false, [6]), (false, [7])] (by kernel_rfl) (by kernel_rfl) ?_
  simp only [pick, List.map_cons, List.map_nil, List.flatMap_cons, List.flatMap_nil, Option.toList_some, List.singleton_append, List.drop_succ_cons, List.drop_zero, List.getElem?_cons_zero, List.getElem?_cons_succ]
  refine ⟨by kernel_rfl, ?_⟩; apply Exists.intro; refine ⟨fun ψ hψ hne => (by (repeat (go_big_quiet_step (( fail )))); exact wpQuiet_nil rfl), ?_⟩
  clear e0 e1 e2 e3
  intro wa ha K hK
  have BS := heap_alloc_last wa (.cells (pkC p).toArray 25)
  have Ha := Lib.hid (Ext.trans (a := w1) ha (extAl wa (.cells (pkC p).toArray 25)))
  have Hx := Lib.hid (extAl wa (.cells (pkC p).toArray 25))
  go_wp2_with fail
  rw [← HPE.out]
  refine hK _ _ (Mut.of_ext Hx.out) ?_
  clear hK K ha Hx
  generalize wa.alloc (.cells (pkC p).toArray 25) = wA at *
  generalize wa.heap.size = g9 at *
  intro wb hb K hK
  have hsrc := src_row (P := Try.prog) (sz := 3) (tx := 50) (n := 1) (c := 1) Try.underlying50 ((Below.block hb g9 (heap_lt BS)).trans BS) (by rfl) HP1.out
  obtain ⟨v', wc, hr, ho, -, hgr, hs⟩ := app_pk (ty := 50) (H1.out.row.ext (Ext.trans Ha.out hb)) hsrc (Nat.zero_le _) HP1.out (by omega)
  obtain ⟨A', c', rfl⟩ := ho.form
  have Hr := Lib.hid hr
  have hMS : Mut So wb wc := Mut.of_grown hgr fun b hb => by rw [HSo.out]; exact hb
  have MS := Lib.hid hMS
  have hXb : Ext w wb := Ext.trans HX.out (Ext.trans Ha.out hb)
  have HXb := Lib.hid hXb
  have HG := Lib.hid ((hMS.block g (Nat.lt_of_lt_of_le gl (Ext.trans Ha.out hb).size) hng).trans ((Below.block (Ext.trans Ha.out hb) g gl).trans H1.out.hg))
  have HO := Lib.hid ho
  have HS2 : Hid (∀ b, (Value.slice A' (n + 1) c').ownBlock = some b → S b ∨ w.heap.size ≤ b) := Lib.hid fun b hb => (hs b hb).imp (fun h => H.out.sv b h) fun h => Nat.le_trans hXb.size h
  have HM0 : Hid (Mut S w wc) := Lib.hid ((Mut.of_ext hXb).trans (hMS.mono fun j hj => H.out.sv j (by rw [HSo.out] at hj; exact hj)))
  clear hr ho hgr hs hMS hsrc BS hb hXb
  go_wp2_with (at_builtin; refine wpList_app rfl (.tmp 8) (.tmp 10) 50 50 rfl Hr.out ?_; simp only [Act.put])
  refine hK _ _ MS.out ?_
  clear hK K
  simp only [List.setIfInBounds_toArray, List.set_cons_zero, List.set_cons_succ]
  intro w3 h3
  have hg3 := (Below.block h3 g (heap_lt HG.out)).trans HG.out
  have F := H.out.fin (pre' := []) (post' := []) (v' := .slice A' (n + 1) c') (by decide) (HM0.out.trans (Mut.of_ext h3)) hg3 (HO.out.ext h3) HS2.out
  have hst := nt_s0 (.slice A' (n + 1) c') hg3
  obtain ⟨cr, cf, cl⟩ := nt_c0 hg3
  have ST := Lib.hid hst
  have FF := Lib.hid F
  clear hst F hg3 h3 HO HM0 HS2 HG MS Hr HXb
  go_wp2_with fail
  rw [ST.out]
  go_end0
  exact ⟨rfl, FF.out⟩
set_option maxHeartbeats 4000000 in
theorem cliPut_row {S : Nat → Prop} {g n : Nat} {N L : Int} {cs : List Value} (p : Cl) (w : World) (h : (ntOb 112 118 [.int .i64 N, .int .i64 L] [] g n cs).is w S) (hn : n ≤ 999999) :
    Calls Try.prog 53 #[.pointer (some ⟨g, 2, none⟩), .agg (clC p).toArray] w fun e w' => e = .returned (.tuple #[]) ∧ To S w w' (ntOb 112 118 [.int .i64 N, .int .i64 L] [] g (n + 1) (cs ++ clC p)) := by
  obtain ⟨v, h⟩ := h
  obtain ⟨A, c, rfl⟩ := h.row.form
  have hx := extAl w (.cells (clC p).toArray 118)
  have h1 := h.ext hx
  have hb := heap_alloc_last w (.cells (clC p).toArray 118)
  have hvl : ∀ b, (Value.slice A n c).ownBlock = some b → b ≠ w.heap.size := fun b hb e => by have := own_lt h.row hb; omega
  have H := Lib.hid h
  have H1 := Lib.hid h1
  have HB := Lib.hid hb
  have HX := Lib.hid hx
  have HP1 := Lib.hid (clC_one p)
  have HV := Lib.hid hvl
  clear h h1 hb hx hvl
  have hpe := clC_eq p
  go_enter Try.func53, Try.ntmps53
  rw [hpe]
  go_upto_region 1 with fail
  rw [← hpe]
  have h1 := H1.out
  have hb := HB.out
  generalize w.alloc (.cells (clC p).toArray 118) = w1 at *
  obtain ⟨d0, d1, d2, -, dl⟩ := nt_c2 (l := []) hb
  obtain ⟨-, -, cr, -, gl⟩ := nt_c2 h1.hg
  obtain ⟨So, HSo⟩ : ∃ So : Nat → Prop, Hid (So = fun j => (Value.slice A n c).ownBlock = some j) := ⟨_, Lib.hid rfl⟩
  have hng : ¬ So g := by rw [HSo.out]; exact fun e => own_ne h1.row h1.hg (by decide) e
  have hnb : ¬ So w.heap.size := by rw [HSo.out]; exact fun e => HV.out _ e rfl
  have e0 : ∀ (ψ : World → Prop) (e : ExtS So w1 ψ), e.val.cell? ⟨g, 2, none⟩ = some (.slice A n c) := fun ψ e => e.cell cr gl hng
  have e1 : ∀ (ψ : World → Prop) (e : ExtS So w1 ψ), e.val.cell? ⟨w.heap.size, 0, none⟩ = some _ := fun ψ e => e.cell d0 dl hnb
  have e2 : ∀ (ψ : World → Prop) (e : ExtS So w1 ψ), e.val.cell? ⟨w.heap.size, 1, none⟩ = some _ := fun ψ e => e.cell d1 dl hnb
  have e3 : ∀ (ψ : World → Prop) (e : ExtS So w1 ψ), e.val.cell? ⟨w.heap.size, 2, none⟩ = some _ := fun ψ e => e.cell d2 dl hnb
  have HPE := Lib.hid hpe
  clear d0 d1 d2 cr h1 hb HB hpe
  refine wp_region_piecesS So 8 [(true, [0, 1, 2, 3, 4, 5]), (false, [6]), (false, [7])] (by kernel_rfl) (by kernel_rfl) ?_
  simp only [pick, List.map_cons, List.map_nil, List.flatMap_cons, List.flatMap_nil, Option.toList_some, List.singleton_append, List.drop_succ_cons, List.drop_zero, List.getElem?_cons_zero, List.getElem?_cons_succ]
  refine ⟨by kernel_rfl, ?_⟩; apply Exists.intro; refine ⟨fun ψ hψ hne => (by (repeat (go_big_quiet_step (( fail )))); exact wpQuiet_nil rfl), ?_⟩
  clear e0 e1 e2 e3
  intro wa ha K hK
  have BS := heap_alloc_last wa (.cells (clC p).toArray 118)
  have Ha := Lib.hid (Ext.trans (a := w1) ha (extAl wa (.cells (clC p).toArray 118)))
  have Hx := Lib.hid (extAl wa (.cells (clC p).toArray 118))
  go_wp2_with fail
  rw [← HPE.out]
  refine hK _ _ (Mut.of_ext Hx.out) ?_
  clear hK K ha Hx
  generalize wa.alloc (.cells (clC p).toArray 118) = wA at *
  generalize wa.heap.size = g9 at *
  intro wb hb K hK
  have hsrc := src_row (P := Try.prog) (sz := 3) (tx := 108) (n := 1) (c := 1) Try.underlying108 ((Below.block hb g9 (heap_lt BS)).trans BS) (by rfl) HP1.out
  obtain ⟨v', wc, hr, ho, -, hgr, hs⟩ := app_cl (ty := 108) (H1.out.row.ext (Ext.trans Ha.out hb)) hsrc (Nat.zero_le _) HP1.out (by omega)
  obtain ⟨A', c', rfl⟩ := ho.form
  have Hr := Lib.hid hr
  have hMS : Mut So wb wc := Mut.of_grown hgr fun b hb => by rw [HSo.out]; exact hb
  have MS := Lib.hid hMS
  have hXb : Ext w wb := Ext.trans HX.out (Ext.trans Ha.out hb)
  have HXb := Lib.hid hXb
  have HG := Lib.hid ((hMS.block g (Nat.lt_of_lt_of_le gl (Ext.trans Ha.out hb).size) hng).trans ((Below.block (Ext.trans Ha.out hb) g gl).trans H1.out.hg))
  have HO := Lib.hid ho
  have HS2 : Hid (∀ b, (Value.slice A' (n + 1) c').ownBlock = some b → S b ∨ w.heap.size ≤ b) := Lib.hid fun b hb => (hs b hb).imp (fun h => H.out.sv b h) fun h => Nat.le_trans hXb.size h
  have HM0 : Hid (Mut S w wc) := Lib.hid ((Mut.of_ext hXb).trans (hMS.mono fun j hj => H.out.sv j (by rw [HSo.out] at hj; exact hj)))
  clear hr ho hgr hs hMS hsrc BS hb hXb
  go_wp2_with (at_builtin; refine wpList_app rfl (.tmp 8) (.tmp 10) 108 108 rfl Hr.out ?_; simp only [Act.put])
  refine hK _ _ MS.out ?_
  clear hK K
  simp only [List.setIfInBounds_toArray, List.set_cons_zero, List.set_cons_succ]
  intro w3 h3
  have hg3 := (Below.block h3 g (heap_lt HG.out)).trans HG.out
  have F := H.out.fin (pre' := [.int .i64 N, .int .i64 L]) (post' := []) (v' := .slice A' (n + 1) c') (by decide) (HM0.out.trans (Mut.of_ext h3)) hg3 (HO.out.ext h3) HS2.out
  have hst := nt_s2 (.slice A' (n + 1) c') hg3
  obtain ⟨-, -, cr, cf, cl⟩ := nt_c2 hg3
  have ST := Lib.hid hst
  have FF := Lib.hid F
  clear hst F hg3 h3 HO HM0 HS2 HG MS Hr HXb
  go_wp2_with fail
  rw [ST.out]
  go_end0
  exact ⟨rfl, FF.out⟩
end

section
set_option linter.unusedVariables false
set_option maxRecDepth 100000
open Go.RowKit

section
variable {P : Program}
theorem app_in {w : World} {g i m c sz : Nat} {row : Array Value} {new : List Value} {t tx ty e : TypeId} {x : Value} {inf : TypeInfo} (ht : P.underlying t = some (.slice e)) (hi : P.info? e = some inf) (h1 : inf.size = sz)
    (hg : w.heap[g]? = some (.cells row e (0, 0))) (hs : Src P sz tx x m new w) (hr : i + m ≤ c) (hc : row.size = c * sz) :
    (Builtin.append_ #[t, tx] ty #[.slice (some ⟨g, 0, none⟩) i c, x]).run P w = .ok (.slice (some ⟨g, 0, none⟩) (i + m) c) (w.setRow g (row.toList.take (i * sz) ++ new ++ row.toList.drop (i * sz + new.length)).toArray) := by
  have hnl := hs.newsLen
  have hmul : (i + m) * sz ≤ c * sz := Nat.mul_le_mul_right _ hr
  have hst := run_storeCells_at P g (i * sz) e new 0 _ w hg (by rw [hc, hnl, Nat.add_zero, ← Nat.add_mul]; exact hmul) hs.one
  simp only [Nat.add_zero] at hst
  have hcells := hs.cells
  rcases hs.kind with ⟨e', hk⟩ | hk <;> simp [Builtin.append_, run_underlying ht, run_underlying hk, sizeOf, typeInfo, hi, h1, hs.len, hr, hcells, Addr.add_lit, hst]
theorem run_clear1 {w : World} {g o c : Nat} {row : Array Value} {T t e ty : TypeId} {z : Value} (ht : P.underlying t = some (.slice e)) (hv : ∀ w, (zeroValue e).run P w = .ok z w) (hg : w.heap[g]? = some (.cells row T (0, 0))) (hz : 0 < z.cells.size) (hsz : o + z.cells.size ≤ row.size) (h1 : ∀ u ∈ z.cells.toList, u.oneCell' = true) :
    (Builtin.clear_ #[t] ty #[.slice (some ⟨g, o, none⟩) 1 c]).run P w = .ok (.tuple #[]) (w.setRow g (row.toList.take o ++ z.cells.toList ++ row.toList.drop (o + z.cells.size)).toArray) := by
  have hzc : (Builtin.zeroCells z.cells 1).toList = z.cells.toList := by
    apply List.ext_getElem
    · simp [Builtin.zeroCells]
    · intro i h1 h2
      have hi : i < z.cells.size := by simpa using h2
      simp [Builtin.zeroCells, Nat.mod_eq_of_lt hi, getElem!_pos z.cells i hi]
  have hst := run_storeCells_at P g o T z.cells.toList 0 _ w hg (by simpa using hsz) h1
  simp only [Nat.add_zero] at hst
  simp [Builtin.clear_, run_underlying ht, hv, hzc, hst]
theorem wpList_cl {ops : Array Oper} {rest : List Oper} {o : Oper} {a : Act} {w : World} {Q : Exit → Act → World → Prop} (hgd : o.guard = none) (s : Operand) (t : TypeId) (ho : o.op = .call { callee := .builtin .clear, args := #[s], argTypes := #[t] }) {v' : Value} {w' : World}
    (hr : (Builtin.clear_ #[t] o.type #[a.eval s]).run P w = .ok v' w') (h : wpList P ops Q rest (a.put o.dst v') w') : wpList P ops Q (o :: rest) a w :=
  wpList_plain hgd fun K hK => by
    unfold Oper.wp
    simp [execOp, ho, resolve, invoke, builtin, hr, Result.andThen]
    exact hK _ _ h
end
abbrev zrL (u : Value) : List Value := [.int .i64 0, u, .string ⟨#[]⟩]
/-- The cells without the i-th element. -/
def outC (cs : List Value) (i : Nat) : List Value := cs.take (i * 3) ++ cs.drop ((i + 1) * 3)
theorem outC_length {cs : List Value} {i n : Nat} (h : cs.length = n * 3) (hi : i < n) : (outC cs i).length = (n - 1) * 3 := by
  simp only [outC, List.length_append, List.length_take, List.length_drop, h]
  omega
theorem outC_flat {α : Type} {enc : α → List Value} (he : ∀ x, (enc x).length = 3) (l : List α) (i : Nat) : outC (l.flatMap enc) i = (l.eraseIdx i).flatMap enc := by
  induction l generalizing i with
  | nil => simp [outC]
  | cons x l ih =>
    cases i with
    | zero =>
      have h3 : (1 * 3 : Nat) = (enc x).length := by rw [he]
      simp only [outC, Nat.zero_mul, List.take_zero, List.nil_append, Nat.zero_add, List.eraseIdx_zero, List.tail_cons, List.flatMap_cons, h3]
      rw [List.drop_left' rfl]
    | succ i =>
      have := ih i
      unfold outC at this ⊢
      rw [List.eraseIdx_cons_succ, List.flatMap_cons, List.flatMap_cons, ← this]
      have e1 : (i + 1) * 3 = (enc x).length + i * 3 := by rw [he]; omega
      have e2 : (i + 1 + 1) * 3 = (enc x).length + (i + 1) * 3 := by rw [he]; omega
      rw [e2, e1, List.take_length_add_append, List.drop_length_add_append, List.append_assoc]
set_option maxHeartbeats 4000000 in
theorem netDel_any {g c i n m : Nat} {cs junk : List Value} (w : World) (hg : w.heap[g]? = some (.cells (cs ++ junk).toArray 25 (0, 0))) (hl : cs.length = n * 3) (hcap : cs.length + junk.length = c * 3) (h1 : ∀ u ∈ cs, One u) (hi : i < n) (hm : n = m + 1) (hn : n ≤ 1000000) :
    Calls Try.prog 105 #[.slice (some ⟨g, 0, none⟩) n c, .int .i64 i, .int .i64 ((i : Int) + 1)] w fun e w' => e = .returned (.slice (some ⟨g, 0, none⟩) m c) ∧ Mut (fun j => j = g) w w' ∧ w'.heap[g]? = some (.cells (outC cs i ++ (zrL (.bool false) ++ junk)).toArray 25 (0, 0)) := by
  have hnc : n ≤ c := by omega
  have hii : ((i : Int) == (i : Int) + 1) = false := by rw [beq_eq_false_iff_ne]; omega
  have hgl := heap_lt hg
  have hcell : ∀ j (h : j < cs.length), w.cell? ⟨g, j, none⟩ = some cs[j] := fun j h => by
    rw [cell_of_row _ _ _ _ _ _ hg, List.getElem?_toArray, List.getElem?_append_left h, List.getElem?_eq_getElem h]
  have hsuf : RR w 3 (.slice (some ⟨g, (i + 1) * 3, none⟩) (n - (i + 1)) (c - (i + 1))) (n - (i + 1)) (cs.drop ((i + 1) * 3)) :=
    ⟨by rw [List.length_drop, hl]; omega, .inr ⟨g, (i + 1) * 3, c - (i + 1), rfl, hgl, by omega, fun j hj => by
      rw [List.length_drop] at hj
      rw [hcell _ (by omega), List.getElem_drop]⟩⟩
  have hsuf0 : c = i + 1 → RR w 3 (.slice (some ⟨g, 0, none⟩) 0 0) 0 (cs.drop ((i + 1) * 3)) := fun hc => by
    have h0 := hsuf.1
    rw [show n - (i + 1) = 0 by omega] at h0
    exact ⟨h0, .inl ⟨some ⟨g, 0, none⟩, 0, rfl, rfl⟩⟩
  have hinf : (Try.prog.info? 25).map (fun i => (i.zero, i.size, i.bytes)) = some (some (.agg #[.int .i64 0, .bool false, .string ⟨#[]⟩]), 3, 32) := by kernel_rfl
  obtain ⟨inf, hi1, hi2, hi3, -⟩ := info_prt hinf
  have HI := Lib.hid (And.intro hi1 hi3)
  have HO : Hid (∀ u ∈ cs.drop ((i + 1) * 3), One u) := Lib.hid fun u hu => h1 u (List.mem_of_mem_drop hu)
  have HG := Lib.hid hg
  have HSuf := Lib.hid hsuf
  have HSuf0 := Lib.hid hsuf0
  have HC := Lib.hid hcap
  have HLn := Lib.hid hl
  have HN := Lib.hid hm
  have hmc : m < c := by omega
  have hmn : m ≤ n := by omega
  have hnm : n - m = 1 := by omega
  have hrs : (cs ++ junk).toArray.size = c * 3 := by simp; omega
  have HRS := Lib.hid hrs
  have hol := outC_length (i := i) hl hi
  have HRA : Hid ((cs ++ junk).toArray.toList.take (i * 3) ++ cs.drop ((i + 1) * 3) ++ (cs ++ junk).toArray.toList.drop (i * 3 + (cs.drop ((i + 1) * 3)).length) = outC cs i ++ (cs ++ junk).drop (m * 3)) := Lib.hid (by
    simp only [outC]
    rw [List.take_append_of_le_length (by omega), List.length_drop, hl, show i * 3 + (n * 3 - (i + 1) * 3) = m * 3 by omega])
  have HSZ : Hid ((outC cs i ++ (cs ++ junk).drop (m * 3)).toArray.size = c * 3) := Lib.hid (by simp [hol, hl]; omega)
  have HRB : Hid ((outC cs i ++ (cs ++ junk).drop (m * 3)).toArray.toList.take (m * 3) ++ (Value.agg #[.int .i64 0, .bool false, .string ⟨#[]⟩]).cells.toList ++ (outC cs i ++ (cs ++ junk).drop (m * 3)).toArray.toList.drop (m * 3 + (Value.agg #[.int .i64 0, .bool false, .string ⟨#[]⟩]).cells.size) = outC cs i ++ (zrL (.bool false) ++ junk)) := Lib.hid (by
    have e1 : (outC cs i).length = m * 3 := by rw [hol]; omega
    have e2 : (Value.agg #[.int .i64 0, .bool false, .string ⟨#[]⟩]).cells.size = 3 := rfl
    have e3 : (Value.agg #[.int .i64 0, .bool false, .string ⟨#[]⟩]).cells.toList = [.int .i64 0, .bool false, .string ⟨#[]⟩] := rfl
    rw [e2, e3]
    simp only
    rw [List.take_left' e1, List.append_assoc, ← e1, List.drop_length_add_append, List.drop_drop, e1, show m * 3 + 3 = cs.length by omega, List.drop_left' rfl])
  clear hg hsuf hsuf0 hinf hi1 hi2 hi3 hcell hcap hl h1 hm hrs
  go_enter Try.func105, Try.ntmps105
  go_upto_region 5 with fail
  obtain ⟨So, HSo⟩ : ∃ So : Nat → Prop, Hid (So = fun j => j = g) := ⟨_, Lib.hid rfl⟩
  refine wp_region_piecesS So 7 [(true, [0, 1, 2, 3, 4, 5]), (false, [6])] (by kernel_rfl) (by kernel_rfl) ?_
  by_cases hci : c = i + 1
  · obtain rfl : n = i + 1 := by omega
    obtain rfl : m = i := by have := HN.out; omega
    subst hci
    have HM : Hid (m + 0 = m) := Lib.hid rfl
    have HL : Hid (m + 0 ≤ m + 1 ∧ (cs ++ junk).toArray.size = (m + 1) * 3) := Lib.hid ⟨by omega, HRS.out⟩
    have HS := HSuf0.out rfl
    simp only [pick, List.map_cons, List.map_nil, List.flatMap_cons, List.flatMap_nil, Option.toList_some, List.singleton_append, List.drop_succ_cons, List.drop_zero, List.getElem?_cons_zero, List.getElem?_cons_succ]
    refine ⟨by kernel_rfl, ?_⟩; apply Exists.intro; refine ⟨fun ψ hψ hne => (by (repeat (go_big_quiet_step (( fail )))); exact wpQuiet_nil rfl), ?_⟩
    intro w1 h1 K hK
    have hg1 := (Below.block h1 g (heap_lt HG.out)).trans HG.out
    have hr1 := app_in (P := Try.prog) (sz := 3) (ty := 50) Try.underlying50 HI.out.1 HI.out.2 hg1 ((HS.ext h1).src (tx := 50) Try.underlying50 HO.out) HL.out.1 HL.out.2
    rw [HM.out, HRA.out] at hr1
    have Hr1 := Lib.hid hr1
    have MS : Hid (Mut So w1 (w1.setRow g (outC cs m ++ (cs ++ junk).drop (m * 3)).toArray)) := Lib.hid (mut_setRow (by rw [HSo.out]) _)
    have HG2 := Lib.hid (setRow_heap w1 g _ (outC cs m ++ (cs ++ junk).drop (m * 3)).toArray _ _ hg1)
    have HMW : Hid (Mut (fun j => j = g) w (w1.setRow g (outC cs m ++ (cs ++ junk).drop (m * 3)).toArray)) := Lib.hid ((Mut.of_ext h1).trans (mut_setRow (S := fun j => j = g) rfl _))
    clear hr1 hg1 h1
    go_wp2_with (at_builtin; refine wpList_app rfl (.tmp 22) (.tmp 25) 50 50 rfl Hr1.out ?_; simp only [Act.put])
    refine hK _ _ MS.out ?_
    clear hK K MS Hr1
    (try simp only [List.setIfInBounds_toArray, List.set_cons_zero, List.set_cons_succ])
    intro w3 h3
    have hg3 := (Below.block h3 g (heap_lt HG2.out)).trans HG2.out
    have hc3 := run_clear1 (P := Try.prog) (o := m * 3) (c := 1) (ty := 0) (t := 50) (z := .agg #[.int .i64 0, .bool false, .string ⟨#[]⟩]) Try.underlying50 (fun w => by kernel_rfl) hg3 (by decide) (by rw [HSZ.out]; show m * 3 + 3 ≤ _ * 3; omega) (by intro u hu; simp [Value.cells] at hu; rcases hu with rfl | rfl | rfl <;> rfl)
    have hrw := HRB.out
    rw [hrw] at hc3
    have Hc3 := Lib.hid hc3
    have HF := Lib.hid (setRow_heap w3 g _ (outC cs m ++ (zrL (.bool false) ++ junk)).toArray _ _ hg3)
    have HMF : Hid (Mut (fun j => j = g) w (w3.setRow g (outC cs m ++ (zrL (.bool false) ++ junk)).toArray)) := Lib.hid ((HMW.out.trans (Mut.of_ext h3)).trans (mut_setRow (S := fun j => j = g) rfl _))
    clear hc3 hrw hg3 h3 HMW HG2 HS
    go_wp2_with fail
    rw [Hc3.out]
    go_wp2_with fail
    go_ret
    exact ⟨rfl, HMF.out, HF.out⟩
  · have HM : Hid (i + (n - (i + 1)) = m) := Lib.hid (by have := HN.out; omega)
    have HL : Hid (i + (n - (i + 1)) ≤ c ∧ (cs ++ junk).toArray.size = c * 3) := Lib.hid ⟨by omega, HRS.out⟩
    have HS := HSuf.out
    have hci' : ¬ c - (i + 1) = 0 := by omega
    simp only [pick, List.map_cons, List.map_nil, List.flatMap_cons, List.flatMap_nil, Option.toList_some, List.singleton_append, List.drop_succ_cons, List.drop_zero, List.getElem?_cons_zero, List.getElem?_cons_succ]
    refine ⟨by kernel_rfl, ?_⟩; apply Exists.intro; refine ⟨fun ψ hψ hne => (by (repeat (go_big_quiet_step (( fail )))); exact wpQuiet_nil rfl), ?_⟩
    intro w1 h1 K hK
    have hg1 := (Below.block h1 g (heap_lt HG.out)).trans HG.out
    have hr1 := app_in (P := Try.prog) (sz := 3) (ty := 50) Try.underlying50 HI.out.1 HI.out.2 hg1 ((HS.ext h1).src (tx := 50) Try.underlying50 HO.out) HL.out.1 HL.out.2
    rw [HM.out, HRA.out] at hr1
    have Hr1 := Lib.hid hr1
    have MS : Hid (Mut So w1 (w1.setRow g (outC cs i ++ (cs ++ junk).drop (m * 3)).toArray)) := Lib.hid (mut_setRow (by rw [HSo.out]) _)
    have HG2 := Lib.hid (setRow_heap w1 g _ (outC cs i ++ (cs ++ junk).drop (m * 3)).toArray _ _ hg1)
    have HMW : Hid (Mut (fun j => j = g) w (w1.setRow g (outC cs i ++ (cs ++ junk).drop (m * 3)).toArray)) := Lib.hid ((Mut.of_ext h1).trans (mut_setRow (S := fun j => j = g) rfl _))
    clear hr1 hg1 h1
    go_wp2_with (at_builtin; refine wpList_app rfl (.tmp 22) (.tmp 25) 50 50 rfl Hr1.out ?_; simp only [Act.put])
    refine hK _ _ MS.out ?_
    clear hK K MS Hr1
    (try simp only [List.setIfInBounds_toArray, List.set_cons_zero, List.set_cons_succ])
    intro w3 h3
    have hg3 := (Below.block h3 g (heap_lt HG2.out)).trans HG2.out
    have hc3 := run_clear1 (P := Try.prog) (o := m * 3) (c := c - m) (ty := 0) (t := 50) (z := .agg #[.int .i64 0, .bool false, .string ⟨#[]⟩]) Try.underlying50 (fun w => by kernel_rfl) hg3 (by decide) (by rw [HSZ.out]; show m * 3 + 3 ≤ _ * 3; omega) (by intro u hu; simp [Value.cells] at hu; rcases hu with rfl | rfl | rfl <;> rfl)
    have hrw := HRB.out
    rw [hrw] at hc3
    have Hc3 := Lib.hid hc3
    have HF := Lib.hid (setRow_heap w3 g _ (outC cs i ++ (zrL (.bool false) ++ junk)).toArray _ _ hg3)
    have HMF : Hid (Mut (fun j => j = g) w (w3.setRow g (outC cs i ++ (zrL (.bool false) ++ junk)).toArray)) := Lib.hid ((HMW.out.trans (Mut.of_ext h3)).trans (mut_setRow (S := fun j => j = g) rfl _))
    clear hc3 hrw hg3 h3 HMW HG2 HS
    go_wp2_with fail
    rw [Hc3.out]
    go_wp2_with fail
    go_ret
    exact ⟨rfl, HMF.out, HF.out⟩
set_option maxHeartbeats 4000000 in
theorem cliDel_any {g c i n m : Nat} {cs junk : List Value} (w : World) (hg : w.heap[g]? = some (.cells (cs ++ junk).toArray 118 (0, 0))) (hl : cs.length = n * 3) (hcap : cs.length + junk.length = c * 3) (h1 : ∀ u ∈ cs, One u) (hi : i < n) (hm : n = m + 1) (hn : n ≤ 1000000) :
    Calls Try.prog 112 #[.slice (some ⟨g, 0, none⟩) n c, .int .i64 i, .int .i64 ((i : Int) + 1)] w fun e w' => e = .returned (.slice (some ⟨g, 0, none⟩) m c) ∧ Mut (fun j => j = g) w w' ∧ w'.heap[g]? = some (.cells (outC cs i ++ (zrL (.int .i64 0) ++ junk)).toArray 118 (0, 0)) := by
  have hnc : n ≤ c := by omega
  have hii : ((i : Int) == (i : Int) + 1) = false := by rw [beq_eq_false_iff_ne]; omega
  have hgl := heap_lt hg
  have hcell : ∀ j (h : j < cs.length), w.cell? ⟨g, j, none⟩ = some cs[j] := fun j h => by
    rw [cell_of_row _ _ _ _ _ _ hg, List.getElem?_toArray, List.getElem?_append_left h, List.getElem?_eq_getElem h]
  have hsuf : RR w 3 (.slice (some ⟨g, (i + 1) * 3, none⟩) (n - (i + 1)) (c - (i + 1))) (n - (i + 1)) (cs.drop ((i + 1) * 3)) :=
    ⟨by rw [List.length_drop, hl]; omega, .inr ⟨g, (i + 1) * 3, c - (i + 1), rfl, hgl, by omega, fun j hj => by
      rw [List.length_drop] at hj
      rw [hcell _ (by omega), List.getElem_drop]⟩⟩
  have hsuf0 : c = i + 1 → RR w 3 (.slice (some ⟨g, 0, none⟩) 0 0) 0 (cs.drop ((i + 1) * 3)) := fun hc => by
    have h0 := hsuf.1
    rw [show n - (i + 1) = 0 by omega] at h0
    exact ⟨h0, .inl ⟨some ⟨g, 0, none⟩, 0, rfl, rfl⟩⟩
  have hinf : (Try.prog.info? 118).map (fun i => (i.zero, i.size, i.bytes)) = some (some (.agg #[.int .i64 0, .int .i64 0, .string ⟨#[]⟩]), 3, 32) := by kernel_rfl
  obtain ⟨inf, hi1, hi2, hi3, -⟩ := info_prt hinf
  have HI := Lib.hid (And.intro hi1 hi3)
  have HO : Hid (∀ u ∈ cs.drop ((i + 1) * 3), One u) := Lib.hid fun u hu => h1 u (List.mem_of_mem_drop hu)
  have HG := Lib.hid hg
  have HSuf := Lib.hid hsuf
  have HSuf0 := Lib.hid hsuf0
  have HC := Lib.hid hcap
  have HLn := Lib.hid hl
  have HN := Lib.hid hm
  have hmc : m < c := by omega
  have hmn : m ≤ n := by omega
  have hnm : n - m = 1 := by omega
  have hrs : (cs ++ junk).toArray.size = c * 3 := by simp; omega
  have HRS := Lib.hid hrs
  have hol := outC_length (i := i) hl hi
  have HRA : Hid ((cs ++ junk).toArray.toList.take (i * 3) ++ cs.drop ((i + 1) * 3) ++ (cs ++ junk).toArray.toList.drop (i * 3 + (cs.drop ((i + 1) * 3)).length) = outC cs i ++ (cs ++ junk).drop (m * 3)) := Lib.hid (by
    simp only [outC]
    rw [List.take_append_of_le_length (by omega), List.length_drop, hl, show i * 3 + (n * 3 - (i + 1) * 3) = m * 3 by omega])
  have HSZ : Hid ((outC cs i ++ (cs ++ junk).drop (m * 3)).toArray.size = c * 3) := Lib.hid (by simp [hol, hl]; omega)
  have HRB : Hid ((outC cs i ++ (cs ++ junk).drop (m * 3)).toArray.toList.take (m * 3) ++ (Value.agg #[.int .i64 0, .int .i64 0, .string ⟨#[]⟩]).cells.toList ++ (outC cs i ++ (cs ++ junk).drop (m * 3)).toArray.toList.drop (m * 3 + (Value.agg #[.int .i64 0, .int .i64 0, .string ⟨#[]⟩]).cells.size) = outC cs i ++ (zrL (.int .i64 0) ++ junk)) := Lib.hid (by
    have e1 : (outC cs i).length = m * 3 := by rw [hol]; omega
    have e2 : (Value.agg #[.int .i64 0, .int .i64 0, .string ⟨#[]⟩]).cells.size = 3 := rfl
    have e3 : (Value.agg #[.int .i64 0, .int .i64 0, .string ⟨#[]⟩]).cells.toList = [.int .i64 0, .int .i64 0, .string ⟨#[]⟩] := rfl
    rw [e2, e3]
    simp only
    rw [List.take_left' e1, List.append_assoc, ← e1, List.drop_length_add_append, List.drop_drop, e1, show m * 3 + 3 = cs.length by omega, List.drop_left' rfl])
  clear hg hsuf hsuf0 hinf hi1 hi2 hi3 hcell hcap hl h1 hm hrs
  go_enter Try.func112, Try.ntmps112
  go_upto_region 5 with fail
  obtain ⟨So, HSo⟩ : ∃ So : Nat → Prop, Hid (So = fun j => j = g) := ⟨_, Lib.hid rfl⟩
  refine wp_region_piecesS So 7 [(true, [0, 1, 2, 3, 4, 5]), (false, [6])] (by kernel_rfl) (by kernel_rfl) ?_
  by_cases hci : c = i + 1
  · obtain rfl : n = i + 1 := by omega
    obtain rfl : m = i := by have := HN.out; omega
    subst hci
    have HM : Hid (m + 0 = m) := Lib.hid rfl
    have HL : Hid (m + 0 ≤ m + 1 ∧ (cs ++ junk).toArray.size = (m + 1) * 3) := Lib.hid ⟨by omega, HRS.out⟩
    have HS := HSuf0.out rfl
    simp only [pick, List.map_cons, List.map_nil, List.flatMap_cons, List.flatMap_nil, Option.toList_some, List.singleton_append, List.drop_succ_cons, List.drop_zero, List.getElem?_cons_zero, List.getElem?_cons_succ]
    refine ⟨by kernel_rfl, ?_⟩; apply Exists.intro; refine ⟨fun ψ hψ hne => (by (repeat (go_big_quiet_step (( fail )))); exact wpQuiet_nil rfl), ?_⟩
    intro w1 h1 K hK
    have hg1 := (Below.block h1 g (heap_lt HG.out)).trans HG.out
    have hr1 := app_in (P := Try.prog) (sz := 3) (ty := 108) Try.underlying108 HI.out.1 HI.out.2 hg1 ((HS.ext h1).src (tx := 108) Try.underlying108 HO.out) HL.out.1 HL.out.2
    rw [HM.out, HRA.out] at hr1
    have Hr1 := Lib.hid hr1
    have MS : Hid (Mut So w1 (w1.setRow g (outC cs m ++ (cs ++ junk).drop (m * 3)).toArray)) := Lib.hid (mut_setRow (by rw [HSo.out]) _)
    have HG2 := Lib.hid (setRow_heap w1 g _ (outC cs m ++ (cs ++ junk).drop (m * 3)).toArray _ _ hg1)
    have HMW : Hid (Mut (fun j => j = g) w (w1.setRow g (outC cs m ++ (cs ++ junk).drop (m * 3)).toArray)) := Lib.hid ((Mut.of_ext h1).trans (mut_setRow (S := fun j => j = g) rfl _))
    clear hr1 hg1 h1
    go_wp2_with (at_builtin; refine wpList_app rfl (.tmp 22) (.tmp 25) 108 108 rfl Hr1.out ?_; simp only [Act.put])
    refine hK _ _ MS.out ?_
    clear hK K MS Hr1
    (try simp only [List.setIfInBounds_toArray, List.set_cons_zero, List.set_cons_succ])
    intro w3 h3
    have hg3 := (Below.block h3 g (heap_lt HG2.out)).trans HG2.out
    have hc3 := run_clear1 (P := Try.prog) (o := m * 3) (c := 1) (ty := 0) (t := 108) (z := .agg #[.int .i64 0, .int .i64 0, .string ⟨#[]⟩]) Try.underlying108 (fun w => by kernel_rfl) hg3 (by decide) (by rw [HSZ.out]; show m * 3 + 3 ≤ _ * 3; omega) (by intro u hu; simp [Value.cells] at hu; rcases hu with rfl | rfl | rfl <;> rfl)
    have hrw := HRB.out
    rw [hrw] at hc3
    have Hc3 := Lib.hid hc3
    have HF := Lib.hid (setRow_heap w3 g _ (outC cs m ++ (zrL (.int .i64 0) ++ junk)).toArray _ _ hg3)
    have HMF : Hid (Mut (fun j => j = g) w (w3.setRow g (outC cs m ++ (zrL (.int .i64 0) ++ junk)).toArray)) := Lib.hid ((HMW.out.trans (Mut.of_ext h3)).trans (mut_setRow (S := fun j => j = g) rfl _))
    clear hc3 hrw hg3 h3 HMW HG2 HS
    go_wp2_with fail
    rw [Hc3.out]
    go_wp2_with fail
    go_ret
    exact ⟨rfl, HMF.out, HF.out⟩
  · have HM : Hid (i + (n - (i + 1)) = m) := Lib.hid (by have := HN.out; omega)
    have HL : Hid (i + (n - (i + 1)) ≤ c ∧ (cs ++ junk).toArray.size = c * 3) := Lib.hid ⟨by omega, HRS.out⟩
    have HS := HSuf.out
    have hci' : ¬ c - (i + 1) = 0 := by omega
    simp only [pick, List.map_cons, List.map_nil, List.flatMap_cons, List.flatMap_nil, Option.toList_some, List.singleton_append, List.drop_succ_cons, List.drop_zero, List.getElem?_cons_zero, List.getElem?_cons_succ]
    refine ⟨by kernel_rfl, ?_⟩; apply Exists.intro; refine ⟨fun ψ hψ hne => (by (repeat (go_big_quiet_step (( fail )))); exact wpQuiet_nil rfl), ?_⟩
    intro w1 h1 K hK
    have hg1 := (Below.block h1 g (heap_lt HG.out)).trans HG.out
    have hr1 := app_in (P := Try.prog) (sz := 3) (ty := 108) Try.underlying108 HI.out.1 HI.out.2 hg1 ((HS.ext h1).src (tx := 108) Try.underlying108 HO.out) HL.out.1 HL.out.2
    rw [HM.out, HRA.out] at hr1
    have Hr1 := Lib.hid hr1
    have MS : Hid (Mut So w1 (w1.setRow g (outC cs i ++ (cs ++ junk).drop (m * 3)).toArray)) := Lib.hid (mut_setRow (by rw [HSo.out]) _)
    have HG2 := Lib.hid (setRow_heap w1 g _ (outC cs i ++ (cs ++ junk).drop (m * 3)).toArray _ _ hg1)
    have HMW : Hid (Mut (fun j => j = g) w (w1.setRow g (outC cs i ++ (cs ++ junk).drop (m * 3)).toArray)) := Lib.hid ((Mut.of_ext h1).trans (mut_setRow (S := fun j => j = g) rfl _))
    clear hr1 hg1 h1
    go_wp2_with (at_builtin; refine wpList_app rfl (.tmp 22) (.tmp 25) 108 108 rfl Hr1.out ?_; simp only [Act.put])
    refine hK _ _ MS.out ?_
    clear hK K MS Hr1
    (try simp only [List.setIfInBounds_toArray, List.set_cons_zero, List.set_cons_succ])
    intro w3 h3
    have hg3 := (Below.block h3 g (heap_lt HG2.out)).trans HG2.out
    have hc3 := run_clear1 (P := Try.prog) (o := m * 3) (c := c - m) (ty := 0) (t := 108) (z := .agg #[.int .i64 0, .int .i64 0, .string ⟨#[]⟩]) Try.underlying108 (fun w => by kernel_rfl) hg3 (by decide) (by rw [HSZ.out]; show m * 3 + 3 ≤ _ * 3; omega) (by intro u hu; simp [Value.cells] at hu; rcases hu with rfl | rfl | rfl <;> rfl)
    have hrw := HRB.out
    rw [hrw] at hc3
    have Hc3 := Lib.hid hc3
    have HF := Lib.hid (setRow_heap w3 g _ (outC cs i ++ (zrL (.int .i64 0) ++ junk)).toArray _ _ hg3)
    have HMF : Hid (Mut (fun j => j = g) w (w3.setRow g (outC cs i ++ (zrL (.int .i64 0) ++ junk)).toArray)) := Lib.hid ((HMW.out.trans (Mut.of_ext h3)).trans (mut_setRow (S := fun j => j = g) rfl _))
    clear hc3 hrw hg3 h3 HMW HG2 HS
    go_wp2_with fail
    rw [Hc3.out]
    go_wp2_with fail
    go_ret
    exact ⟨rfl, HMF.out, HF.out⟩
end

section
set_option linter.unusedVariables false
set_option maxRecDepth 100000
open Go.RowKit

theorem flat_cells {α : Type} {enc : α → List Value} (he : ∀ x, (enc x).length = 3) {w : World} {g : Nat} {T : TypeId} {l : List α} {junk : List Value} {i : Nat} {p : α} (hg : w.heap[g]? = some (.cells (l.flatMap enc ++ junk).toArray T (0, 0))) (hi : l[i]? = some p) :
    ∀ j, j < 3 → w.cell? ⟨g, i * 3 + j, none⟩ = (enc p)[j]? := fun j hj => by
  have h1 := flat_at he l i j p hi hj
  have hil := (List.getElem?_eq_some_iff.1 hi).1
  rw [cell_of_row _ _ _ _ _ _ hg, List.getElem?_toArray, ← h1]
  exact List.getElem?_append_left (by rw [flat_length he]; omega)
theorem mut_then {S R : Nat → Prop} {a b c : World} (h : Mut S a b) (k : Mut R b c) (hR : ∀ i, R i → a.heap.size ≤ i) : Mut S a c :=
  ⟨h.os ▸ k.os, h.tape ▸ k.tape, h.output ▸ k.output, Nat.le_trans h.size k.size, fun i hi hn => (k.block i (Nat.lt_of_lt_of_le hi h.size) fun hr => by have := hR i hr; omega).trans (h.block i hi hn)⟩
/-- A new block is written; the object is as before. -/
theorem nt_beside {w w3 w4 : World} {S : Nat → Prop} {T E : TypeId} {pre post : List Value} {g n b : Nat} {cs : List Value} {v : Value} (h : NtP w3 S T E pre post g n cs v) (hm : Mut S w w3) (hk : Mut (fun j => j = b) w3 w4) (hb : w.heap.size ≤ b) (h1 : g ≠ b) (h2 : v.ownBlock ≠ some b) : To S w w4 (ntOb T E pre post g n cs) :=
  ⟨⟨v, (hk.block g (heap_lt h.hg) h1).trans h.hg, h.row.mutO hk fun b' hb' e => h2 (by rw [hb', e]), .inl h.sg, fun b' hb' => .inl (h.sv b' hb')⟩, mut_then hm hk fun i hi => by subst hi; exact hb⟩
set_option maxHeartbeats 4000000 in
theorem netCut_row {S : Nat → Prop} {g i : Nat} {N0 : Nat} {l : List Pk} {p : Pk} (w : World) (h : (ntOb 106 25 [] [] g l.length (pkcs l)).is w S) (hi : l[i]? = some p) (hn : l.length ≤ 1000000) :
    Calls Try.prog 51 #[.pointer (some ⟨g, 0, none⟩), .int .i64 i] w fun e w' => e = .returned (.agg (pkC p).toArray) ∧ To S w w' (ntOb 106 25 [] [] g (l.length - 1) (pkcs (l.eraseIdx i))) := by
  obtain ⟨v, h⟩ := h
  have hil := (List.getElem?_eq_some_iff.1 hi).1
  have hrow := h.row
  obtain ⟨hl0, ⟨_, h0⟩ | ⟨gs, c, junk, rfl, -, hgs, hcap, hone⟩⟩ := hrow
  · omega
  have hne : gs ≠ g := fun e => by
    subst e
    have := h.hg
    rw [hgs] at this
    simp only [Option.some.injEq, Obj.cells.injEq] at this
    exact absurd this.2.1 (by decide)
  obtain ⟨n, hnn⟩ : ∃ n, l.length = n := ⟨_, rfl⟩
  rw [hnn] at h hl0 hil hn ⊢
  have hlen : n ≤ c := by omega
  obtain ⟨m, hm⟩ : ∃ m, n = m + 1 := ⟨n - 1, by omega⟩
  have hcl := flat_cells pkC_len hgs hi
  have z0 := hcl 0 (by decide)
  have z1 := hcl 1 (by decide)
  have z2 := hcl 2 (by decide)
  simp only [Nat.add_zero] at z0
  rw [show (pkC p)[0]? = some _ from rfl] at z0
  rw [show (pkC p)[1]? = some _ from rfl] at z1
  rw [show (pkC p)[2]? = some _ from rfl] at z2
  have hgl := heap_lt h.hg
  have hsl := heap_lt hgs
  obtain ⟨cr, -, -⟩ := nt_c0 h.hg
  have hx2 : Ext w ((w.alloc (.cells #[.int .i64 0, .bool false, .string ⟨#[]⟩] 25)).alloc (.cells (pkC p).toArray 25)) := Ext.trans (extAl _ _) (extAl _ _)
  have hb4 := heap_alloc2_old w (.cells #[.int .i64 0, .bool false, .string ⟨#[]⟩] 25) (.cells (pkC p).toArray 25)
  have hb5 := heap_alloc2_new w (.cells #[.int .i64 0, .bool false, .string ⟨#[]⟩] 25) (.cells (pkC p).toArray 25)
  have H := Lib.hid h
  have HX2 := Lib.hid hx2
  have HB4 := Lib.hid hb4
  have HB5 := Lib.hid hb5
  have HGS := Lib.hid hgs
  have HM := Lib.hid hm
  have HC := Lib.hid hcap
  have HL0 := Lib.hid hl0
  have HN := Lib.hid hnn
  have HONE : Hid (∀ u ∈ pkcs l, One u) := Lib.hid fun u hu => hone u (List.mem_append_left _ hu)
  have HONE2 : Hid (∀ u ∈ pkcs l ++ junk, One u) := Lib.hid hone
  clear hx2 hb4 hb5 hcl hgs h hi hm hcap hl0 hnn hone
  go_enter Try.func51, Try.ntmps51
  go_upto_region 2 with fail
  rw [← pkC_eq p]
  generalize (w.alloc (.cells #[.int .i64 0, .bool false, .string ⟨#[]⟩] 25)).alloc (.cells (pkC p).toArray 25) = w2 at *
  have hg2 := (Below.block HX2.out g hgl).trans H.out.hg
  have hgs2 := (Below.block HX2.out gs hsl).trans HGS.out
  obtain ⟨cr, -, gl2⟩ := nt_c0 hg2
  have KD := Lib.hid (netDel_any w2 hgs2 HL0.out HC.out HONE.out hil HM.out hn)
  clear hg2 hgs2 z0 z1 z2
  go_wp2_with fail
  refine KD.out.mono ?_
  rintro e w3 ⟨rfl, hm3, hg3⟩
  have hoe : outC (pkcs l) i = pkcs (l.eraseIdx i) := outC_flat pkC_len l i
  have hlo : (pkcs (l.eraseIdx i)).length = m * 3 := by
    have h1 := outC_length HL0.out hil
    rw [← hoe, h1, HM.out]
    rfl
  rw [hoe] at hg3
  have ho3 : OwnR w3 0 25 3 One (.slice (some ⟨gs, 0, none⟩) m c) m (pkcs (l.eraseIdx i)) :=
    ⟨hlo, .inr ⟨gs, c, zrL (.bool false) ++ junk, rfl, Nat.zero_le _, hg3, by rw [hlo]; have h1 := HC.out; have h2 := HL0.out; have h3 := HM.out; simp only [List.length_append, zrL, List.length_cons, List.length_nil]; omega, fun u hu => by
      rcases List.mem_append.1 hu with hu | hu
      · exact pkcs_one _ u hu
      · rcases List.mem_append.1 hu with hu | hu
        · simp only [zrL, List.mem_cons, List.not_mem_nil, or_false] at hu
          rcases hu with rfl | rfl | rfl <;> rfl
        · exact HONE2.out u (List.mem_append_right _ hu)⟩⟩
  have hg3' := (hm3.block g gl2 (fun e => hne e.symm)).trans ((Below.block HX2.out g hgl).trans H.out.hg)
  have hm03 : Mut S w w3 := (Mut.of_ext HX2.out).trans (hm3.mono fun j hj => by subst hj; exact H.out.sv _ rfl)
  have hlt4 := heap_lt HB4.out
  have hlt5 := heap_lt HB5.out
  have hb4' := (hm3.block _ hlt4 (by omega)).trans HB4.out
  have hb5' := (hm3.block _ hlt5 (by omega)).trans HB5.out
  have hst := nt_s0 (.slice (some ⟨gs, 0, none⟩) m c) hg3'
  have hF : NtP (w3.setRow g #[Value.slice (some ⟨gs, 0, none⟩) m c]) S 106 25 [] [] g m (pkcs (l.eraseIdx i)) (.slice (some ⟨gs, 0, none⟩) m c) :=
    ⟨setRow_heap _ _ _ _ _ _ hg3', ho3.set hg3' (by decide), H.out.sg, H.out.sv⟩
  have F := Lib.hid hF
  have MF : Hid (Mut S w (w3.setRow g #[Value.slice (some ⟨gs, 0, none⟩) m c])) := Lib.hid (hm03.trans (mut_setRow H.out.sg _))
  have HB4' := Lib.hid ((setRow_other w3 g _ #[Value.slice (some ⟨gs, 0, none⟩) m c] (by omega)).trans hb4')
  have HB5' := Lib.hid ((setRow_other w3 g _ #[Value.slice (some ⟨gs, 0, none⟩) m c] (by omega)).trans hb5')
  have ST := Lib.hid hst
  obtain ⟨cr, cf, gl3⟩ := nt_c0 hg3'
  clear hst hb4' hb5' hlt4 hlt5 hm03 hg3' ho3 hg3 hm3 hlo hoe hF KD HB4 HB5 gl2
  go_upto_region 3 with fail
  rw [ST.out]
  clear cr cf gl3 ST
  generalize w3.setRow g _ = w4 at *
  obtain ⟨d0, d1, d2, -, dl⟩ := nt_c2 (l := []) HB5'.out
  have hs4 := storeAt_row (P := Try.prog) (ty := 25) (cs := (pkC p).toArray) HB4'.out (by kernel_rfl) rfl (by simp [pkC, Value.oneCell'])
  have HS4 := Lib.hid hs4
  have HF5 := Lib.hid (setRow_heap w4 w.heap.size _ (pkC p).toArray _ _ HB4'.out)
  have FF : Hid (To S w (w4.setRow w.heap.size (pkC p).toArray) (ntOb 106 25 [] [] g m (pkcs (l.eraseIdx i)))) := Lib.hid (nt_beside F.out MF.out (mut_setRow (S := fun j => j = w.heap.size) rfl _) (Nat.le_refl _) (by omega) (by simp [Value.ownBlock]; omega))
  have HE : Hid (n - 1 = m) := Lib.hid (by have := HM.out; omega)
  clear hs4
  go_wp2_with (refine wpList_st rfl 25 (.tmp 4) (.tmp 24) rfl HS4.out ?_; simp only [Act.put])
  (try simp only [Exit.inBlock, Exit.then])
  rw [HE.out]
  exact bodyPost_ret (v := .agg (pkC p).toArray) (results_cell_row Try.results51 _ _ _ _ _ _ _ rfl HF5.out Try.underlying25 rfl (by kernel_rfl)) rfl ⟨rfl, FF.out⟩
set_option maxHeartbeats 4000000 in
theorem cliCut_row {S : Nat → Prop} {g i : Nat} {N L : Int} {l : List Cl} {p : Cl} (w : World) (h : (ntOb 112 118 [.int .i64 N, .int .i64 L] [] g l.length (clcs l)).is w S) (hi : l[i]? = some p) (hn : l.length ≤ 1000000) :
    Calls Try.prog 56 #[.pointer (some ⟨g, 2, none⟩), .int .i64 i] w fun e w' => e = .returned (.agg (clC p).toArray) ∧ To S w w' (ntOb 112 118 [.int .i64 N, .int .i64 L] [] g (l.length - 1) (clcs (l.eraseIdx i))) := by
  obtain ⟨v, h⟩ := h
  have hil := (List.getElem?_eq_some_iff.1 hi).1
  have hrow := h.row
  obtain ⟨hl0, ⟨_, h0⟩ | ⟨gs, c, junk, rfl, -, hgs, hcap, hone⟩⟩ := hrow
  · omega
  have hne : gs ≠ g := fun e => by
    subst e
    have := h.hg
    rw [hgs] at this
    simp only [Option.some.injEq, Obj.cells.injEq] at this
    exact absurd this.2.1 (by decide)
  obtain ⟨n, hnn⟩ : ∃ n, l.length = n := ⟨_, rfl⟩
  rw [hnn] at h hl0 hil hn ⊢
  have hlen : n ≤ c := by omega
  obtain ⟨m, hm⟩ : ∃ m, n = m + 1 := ⟨n - 1, by omega⟩
  have hcl := flat_cells clC_len hgs hi
  have z0 := hcl 0 (by decide)
  have z1 := hcl 1 (by decide)
  have z2 := hcl 2 (by decide)
  simp only [Nat.add_zero] at z0
  rw [show (clC p)[0]? = some _ from rfl] at z0
  rw [show (clC p)[1]? = some _ from rfl] at z1
  rw [show (clC p)[2]? = some _ from rfl] at z2
  have hgl := heap_lt h.hg
  have hsl := heap_lt hgs
  obtain ⟨-, -, cr, -, -⟩ := nt_c2 h.hg
  have hx2 : Ext w ((w.alloc (.cells #[.int .i64 0, .int .i64 0, .string ⟨#[]⟩] 118)).alloc (.cells (clC p).toArray 118)) := Ext.trans (extAl _ _) (extAl _ _)
  have hb4 := heap_alloc2_old w (.cells #[.int .i64 0, .int .i64 0, .string ⟨#[]⟩] 118) (.cells (clC p).toArray 118)
  have hb5 := heap_alloc2_new w (.cells #[.int .i64 0, .int .i64 0, .string ⟨#[]⟩] 118) (.cells (clC p).toArray 118)
  have H := Lib.hid h
  have HX2 := Lib.hid hx2
  have HB4 := Lib.hid hb4
  have HB5 := Lib.hid hb5
  have HGS := Lib.hid hgs
  have HM := Lib.hid hm
  have HC := Lib.hid hcap
  have HL0 := Lib.hid hl0
  have HN := Lib.hid hnn
  have HONE : Hid (∀ u ∈ clcs l, One u) := Lib.hid fun u hu => hone u (List.mem_append_left _ hu)
  have HONE2 : Hid (∀ u ∈ clcs l ++ junk, One u) := Lib.hid hone
  clear hx2 hb4 hb5 hcl hgs h hi hm hcap hl0 hnn hone
  go_enter Try.func56, Try.ntmps56
  go_upto_region 2 with fail
  rw [← clC_eq p]
  generalize (w.alloc (.cells #[.int .i64 0, .int .i64 0, .string ⟨#[]⟩] 118)).alloc (.cells (clC p).toArray 118) = w2 at *
  have hg2 := (Below.block HX2.out g hgl).trans H.out.hg
  have hgs2 := (Below.block HX2.out gs hsl).trans HGS.out
  obtain ⟨-, -, cr, -, gl2⟩ := nt_c2 hg2
  have KD := Lib.hid (cliDel_any w2 hgs2 HL0.out HC.out HONE.out hil HM.out hn)
  clear hg2 hgs2 z0 z1 z2
  go_wp2_with fail
  refine KD.out.mono ?_
  rintro e w3 ⟨rfl, hm3, hg3⟩
  have hoe : outC (clcs l) i = clcs (l.eraseIdx i) := outC_flat clC_len l i
  have hlo : (clcs (l.eraseIdx i)).length = m * 3 := by
    have h1 := outC_length HL0.out hil
    rw [← hoe, h1, HM.out]
    rfl
  rw [hoe] at hg3
  have ho3 : OwnR w3 0 118 3 One (.slice (some ⟨gs, 0, none⟩) m c) m (clcs (l.eraseIdx i)) :=
    ⟨hlo, .inr ⟨gs, c, zrL (.int .i64 0) ++ junk, rfl, Nat.zero_le _, hg3, by rw [hlo]; have h1 := HC.out; have h2 := HL0.out; have h3 := HM.out; simp only [List.length_append, zrL, List.length_cons, List.length_nil]; omega, fun u hu => by
      rcases List.mem_append.1 hu with hu | hu
      · exact clcs_one _ u hu
      · rcases List.mem_append.1 hu with hu | hu
        · simp only [zrL, List.mem_cons, List.not_mem_nil, or_false] at hu
          rcases hu with rfl | rfl | rfl <;> rfl
        · exact HONE2.out u (List.mem_append_right _ hu)⟩⟩
  have hg3' := (hm3.block g gl2 (fun e => hne e.symm)).trans ((Below.block HX2.out g hgl).trans H.out.hg)
  have hm03 : Mut S w w3 := (Mut.of_ext HX2.out).trans (hm3.mono fun j hj => by subst hj; exact H.out.sv _ rfl)
  have hlt4 := heap_lt HB4.out
  have hlt5 := heap_lt HB5.out
  have hb4' := (hm3.block _ hlt4 (by omega)).trans HB4.out
  have hb5' := (hm3.block _ hlt5 (by omega)).trans HB5.out
  have hst := nt_s2 (.slice (some ⟨gs, 0, none⟩) m c) hg3'
  have hF : NtP (w3.setRow g #[.int .i64 N, .int .i64 L,Value.slice (some ⟨gs, 0, none⟩) m c]) S 112 118 [.int .i64 N, .int .i64 L] [] g m (clcs (l.eraseIdx i)) (.slice (some ⟨gs, 0, none⟩) m c) :=
    ⟨setRow_heap _ _ _ _ _ _ hg3', ho3.set hg3' (by decide), H.out.sg, H.out.sv⟩
  have F := Lib.hid hF
  have MF : Hid (Mut S w (w3.setRow g #[.int .i64 N, .int .i64 L,Value.slice (some ⟨gs, 0, none⟩) m c])) := Lib.hid (hm03.trans (mut_setRow H.out.sg _))
  have HB4' := Lib.hid ((setRow_other w3 g _ #[.int .i64 N, .int .i64 L,Value.slice (some ⟨gs, 0, none⟩) m c] (by omega)).trans hb4')
  have HB5' := Lib.hid ((setRow_other w3 g _ #[.int .i64 N, .int .i64 L,Value.slice (some ⟨gs, 0, none⟩) m c] (by omega)).trans hb5')
  have ST := Lib.hid hst
  obtain ⟨-, -, cr, cf, gl3⟩ := nt_c2 hg3'
  clear hst hb4' hb5' hlt4 hlt5 hm03 hg3' ho3 hg3 hm3 hlo hoe hF KD HB4 HB5 gl2
  go_upto_region 3 with fail
  rw [ST.out]
  clear cr cf gl3 ST
  generalize w3.setRow g _ = w4 at *
  obtain ⟨d0, d1, d2, -, dl⟩ := nt_c2 (l := []) HB5'.out
  have hs4 := storeAt_row (P := Try.prog) (ty := 118) (cs := (clC p).toArray) HB4'.out (by kernel_rfl) rfl (by simp [clC, Value.oneCell'])
  have HS4 := Lib.hid hs4
  have HF5 := Lib.hid (setRow_heap w4 w.heap.size _ (clC p).toArray _ _ HB4'.out)
  have FF : Hid (To S w (w4.setRow w.heap.size (clC p).toArray) (ntOb 112 118 [.int .i64 N, .int .i64 L] [] g m (clcs (l.eraseIdx i)))) := Lib.hid (nt_beside F.out MF.out (mut_setRow (S := fun j => j = w.heap.size) rfl _) (Nat.le_refl _) (by omega) (by simp [Value.ownBlock]; omega))
  have HE : Hid (n - 1 = m) := Lib.hid (by have := HM.out; omega)
  clear hs4
  go_wp2_with (refine wpList_st rfl 118 (.tmp 4) (.tmp 24) rfl HS4.out ?_; simp only [Act.put])
  (try simp only [Exit.inBlock, Exit.then])
  rw [HE.out]
  exact bodyPost_ret (v := .agg (clC p).toArray) (results_cell_row Try.results56 _ _ _ _ _ _ _ rfl HF5.out Try.underlying118 rfl (by kernel_rfl)) rfl ⟨rfl, FF.out⟩
end

section
set_option linter.unusedVariables false
set_option maxRecDepth 100000
open Go.RowKit

theorem umodI (x m : Int) (h0 : 0 < m) (h1 : m ≤ 4611686018427387904) : ∃ i : Nat, (i : Int) < m ∧ wrap64 ((IntKind.u64.wrap x).tmod m) = i := by
  have hw : 0 ≤ IntKind.u64.wrap x := by simp [IntKind.wrap, IntKind.bits, IntKind.signed]; omega
  rw [Int.tmod_eq_emod_of_nonneg hw]
  have h2 := Int.emod_nonneg (IntKind.u64.wrap x) (show m ≠ 0 by omega)
  have h3 := Int.emod_lt_of_pos (IntKind.u64.wrap x) h0
  obtain ⟨i, hi⟩ := Int.eq_ofNat_of_zero_le h2
  exact ⟨i, by omega, by rw [IntWalk.wrap64_in _ ⟨by omega, by omega⟩, hi]⟩
/-- The place of a number among n. -/
def ixN (a : Int) (n : Nat) : Nat := (wrap64 ((IntKind.u64.wrap a).tmod (n : Int))).toNat
theorem ixN_spec (a : Int) {n : Nat} (h0 : 0 < n) (h1 : n ≤ 1000000) : wrap64 ((IntKind.u64.wrap a).tmod (n : Int)) = (ixN a n : Int) ∧ ixN a n < n := by
  obtain ⟨i, hi, e⟩ := umodI a n (by omega) (by omega)
  have : ixN a n = i := by unfold ixN; rw [e]; rfl
  rw [this]
  exact ⟨e, by omega⟩
def pk0 : Pk := ⟨0, false, []⟩
def putE (l : List Pk) (p : Pk) : Int := if p.c < 1 ∨ 16 < p.c then 1 else if 4096 < p.b.length then 40 else if 256 ≤ l.length then 3 else 0
def putN (l : List Pk) (p : Pk) : List Pk := if putE l p = 0 then l ++ [p] else l
def takeN (l : List Pk) (a : Int) : Pk × Int × List Pk := match l[ixN a l.length]? with
  | none => (pk0, 5, l)
  | some p => (p, 0, l.eraseIdx (ixN a l.length))
def dblN (l : List Pk) (a : Int) : Int × List Pk := match l[ixN a l.length]? with
  | none => (5, l)
  | some p => if 256 ≤ l.length then (3, l) else (0, l ++ [p])
abbrev netO (g : Nat) (l : List Pk) : Ob Z0 := ntOb 106 25 [] [] g l.length (pkcs l)
theorem netNew_any (w : World) : Calls Try.prog 15 #[] w fun e w' => ∃ g, e = .returned (.pointer (some ⟨g, 0, none⟩)) ∧ (netO g []).is w' (fun i => w.heap.size ≤ i ∧ i < w'.heap.size) ∧ Ext w w' := by
  have hg := heap_alloc_last w (.cells #[.slice none 0 0] 106)
  have F : Hid ((netO w.heap.size []).is (w.alloc (.cells #[.slice none 0 0] 106)) (fun i => w.heap.size ≤ i ∧ i < (w.alloc (.cells #[.slice none 0 0] 106)).heap.size)) := Lib.hid
    ⟨.slice none 0 0, hg, OwnR.nil, ⟨Nat.le_refl _, by simp⟩, fun b hb => by simp [Value.ownBlock] at hb⟩
  clear hg
  go_enter Try.func15, Try.ntmps15
  go_wp2
  go_ret
  exact ⟨_, rfl, F.out, extAl _ _⟩
theorem isClient_any (c : Int) (w : World) : Calls Try.prog 58 #[.int .i64 c] w fun e w' => e = .returned (.bool (!decide (c < 1 ∨ 16 < c))) ∧ Ext w w' := by
  by_cases h1 : 1 ≤ c
  · by_cases h2 : c ≤ 16
    · have e : (!decide (c < 1 ∨ 16 < c)) = true := by simp; omega
      rw [e]
      go_enter Try.func58, Try.ntmps58
      go_wp2
      go_ret
      exact ⟨rfl, Ext.refl _⟩
    · have e : (!decide (c < 1 ∨ 16 < c)) = false := by simp; omega
      rw [e]
      go_enter Try.func58, Try.ntmps58
      go_wp2
      go_ret
      exact ⟨rfl, Ext.refl _⟩
  · have e : (!decide (c < 1 ∨ 16 < c)) = false := by simp; omega
    rw [e]
    go_enter Try.func58, Try.ntmps58
    go_wp2
    go_ret
    exact ⟨rfl, Ext.refl _⟩
theorem netPlace_any {S : Nat → Prop} {g : Nat} {l : List Pk} (a : Int) (w : World) (h : (netO g l).is w S) (hn : l.length ≤ 1000000) :
    Calls Try.prog 50 #[.pointer (some ⟨g, 0, none⟩), .int .i64 a] w fun e w' => e = .returned (.tuple #[.int .i64 (if l.length = 0 then 0 else (ixN a l.length : Int)), .int .i64 (if l.length = 0 then 5 else 0)]) ∧ Ext w w' := by
  obtain ⟨v, h⟩ := h
  obtain ⟨A, c, rfl⟩ := h.row.form
  obtain ⟨cr, -, gl⟩ := nt_c0 h.hg
  generalize l.length = n at *
  clear h
  by_cases h0 : n = 0
  · subst h0
    go_enter Try.func50, Try.ntmps50
    go_wp2
    go_ret2
    exact ⟨rfl, Ext.refl _⟩
  · obtain ⟨e1, e2⟩ := ixN_spec a (Nat.pos_of_ne_zero h0) hn
    rw [if_neg h0, if_neg h0, ← e1]
    have hz : ((n : Int) == 0) = false := by rw [beq_eq_false_iff_ne]; omega
    have hu : IntKind.u64.wrap (n : Int) = n := by simp [IntKind.wrap, IntKind.bits, IntKind.signed]; omega
    clear e1 e2
    go_enter Try.func50, Try.ntmps50
    go_wp2
    go_ret2
    exact ⟨rfl, Ext.refl _⟩
set_option maxHeartbeats 1000000 in
theorem clone_pk {v : Value} {n : Nat} {cs : List Value} (w : World) (h : RR w 3 v n cs) (h1 : ∀ u ∈ cs, One u) (hl : n ≤ 1000000) :
    Calls Try.prog 59 #[v] w fun e w' => ∃ v', e = .returned v' ∧ OwnR w' w.heap.size 25 3 One v' n cs ∧ Below w.heap.size w w' := by
  have hf := h.form
  obtain ⟨A, c, rfl⟩ := hf
  have hq := fun w => run_eql_slice_nil (P := Try.prog) w 50 _ A n c Try.underlying50
  have ho := alloc_row0 w 25 w.heap.size 3 One (Nat.le_refl _)
  have hs := (h.ext (extAl w (.cells #[] 25))).src (tx := 50) Try.underlying50 h1
  obtain ⟨v', w1, hr, ho1, hb, -, -⟩ := app_pk (tx := 50) (ty := 50) ho hs (by simp) h1 (by omega)
  have hb' : Below w.heap.size w w1 := Below.trans (extAl w _) hb
  simp only [Nat.zero_add, List.nil_append] at ho1
  cases A with
  | none =>
    have h0 : n = 0 := by
      rcases h with ⟨_, ⟨A, c, hv, h0⟩ | ⟨b, off, c, hv, _⟩⟩
      · exact h0
      · simp at hv
    have hcs : cs = [] := List.length_eq_zero_iff.1 (by have := h.1; rw [h0] at this; simpa using this)
    subst h0 hcs
    simp only [Option.isNone_none] at hq
    clear ho hs hr ho1 hb hb' h h1 hl
    go_enter Try.func59, Try.ntmps59
    go_wp2
    go_ret
    exact ⟨_, rfl, OwnR.nil, by (repeat' (first | (with_reducible assumption) | (with_reducible exact Below.refl _ _) | (with_reducible refine below_sc ?_ ?_) | ((with_reducible show (_ : Nat) ≤ _); omega) | refine Below.setCell ?_ (by first | omega | (simp; done) | (simp; omega)) _ | refine Below.alloc ?_ (by first | omega | (simp; done) | (simp; omega)) _ | refine Below.drew ?_ | refine below_drewN ?_ _ | refine Below.trans ?_ (Below.mono (by assumption) (by first | omega | (simp; done) | (simp; omega)))))⟩
  | some a =>
    have Hr := Lib.hid hr
    simp only [Option.isNone_some] at hq
    clear hr hs ho h
    go_enter Try.func59, Try.ntmps59
    go_wp2_with (refine wpList_app rfl (.tmp 5) (.tmp 6) 50 50 rfl Hr.out ?_; simp only [Act.put])
    go_ret
    exact ⟨_, rfl, ho1, hb'⟩
set_option maxHeartbeats 1000000 in
theorem clone_cl {v : Value} {n : Nat} {cs : List Value} (w : World) (h : RR w 3 v n cs) (h1 : ∀ u ∈ cs, One u) (hl : n ≤ 1000000) :
    Calls Try.prog 113 #[v] w fun e w' => ∃ v', e = .returned v' ∧ OwnR w' w.heap.size 118 3 One v' n cs ∧ Below w.heap.size w w' := by
  have hf := h.form
  obtain ⟨A, c, rfl⟩ := hf
  have hq := fun w => run_eql_slice_nil (P := Try.prog) w 108 _ A n c Try.underlying108
  have ho := alloc_row0 w 118 w.heap.size 3 One (Nat.le_refl _)
  have hs := (h.ext (extAl w (.cells #[] 118))).src (tx := 108) Try.underlying108 h1
  obtain ⟨v', w1, hr, ho1, hb, -, -⟩ := app_cl (tx := 108) (ty := 108) ho hs (by simp) h1 (by omega)
  have hb' : Below w.heap.size w w1 := Below.trans (extAl w _) hb
  simp only [Nat.zero_add, List.nil_append] at ho1
  cases A with
  | none =>
    have h0 : n = 0 := by
      rcases h with ⟨_, ⟨A, c, hv, h0⟩ | ⟨b, off, c, hv, _⟩⟩
      · exact h0
      · simp at hv
    have hcs : cs = [] := List.length_eq_zero_iff.1 (by have := h.1; rw [h0] at this; simpa using this)
    subst h0 hcs
    simp only [Option.isNone_none] at hq
    clear ho hs hr ho1 hb hb' h h1 hl
    go_enter Try.func113, Try.ntmps113
    go_wp2
    go_ret
    exact ⟨_, rfl, OwnR.nil, by (repeat' (first | (with_reducible assumption) | (with_reducible exact Below.refl _ _) | (with_reducible refine below_sc ?_ ?_) | ((with_reducible show (_ : Nat) ≤ _); omega) | refine Below.setCell ?_ (by first | omega | (simp; done) | (simp; omega)) _ | refine Below.alloc ?_ (by first | omega | (simp; done) | (simp; omega)) _ | refine Below.drew ?_ | refine below_drewN ?_ _ | refine Below.trans ?_ (Below.mono (by assumption) (by first | omega | (simp; done) | (simp; omega)))))⟩
  | some a =>
    have Hr := Lib.hid hr
    simp only [Option.isNone_some] at hq
    clear hr hs ho h
    go_enter Try.func113, Try.ntmps113
    go_wp2_with (refine wpList_app rfl (.tmp 5) (.tmp 6) 108 108 rfl Hr.out ?_; simp only [Act.put])
    go_ret
    exact ⟨_, rfl, ho1, hb'⟩
end

section
set_option linter.unusedVariables false
set_option maxRecDepth 100000
open Go.RowKit

set_option maxHeartbeats 4000000 in
theorem netPut_any {S : Nat → Prop} {g : Nat} {l : List Pk} (p : Pk) (w : World) (h : (netO g l).is w S) (hn : l.length ≤ 1000) :
    Calls Try.prog 18 #[.pointer (some ⟨g, 0, none⟩), .agg (pkC p).toArray] w fun e w' => e = .returned (.int .i64 (putE l p)) ∧ To S w w' (netO g (putN l p)) := by
  have hh := Lib.hid h
  obtain ⟨v, h⟩ := h
  obtain ⟨A, c, rfl⟩ := h.row.form
  have sb := str_size p.b
  obtain ⟨nb, hnb⟩ : ∃ n, p.b.length = n := ⟨_, rfl⟩
  rw [hnb] at sb
  obtain ⟨n, hnn⟩ : ∃ n, l.length = n := ⟨_, rfl⟩
  have h' : NtP w S 106 25 [] [] g n (pkcs l) (.slice A n c) := by rw [hnn] at h; exact h
  have H := Lib.hid h'
  have HX := Lib.hid (extAl w (.cells (pkC p).toArray 25))
  have HB := Lib.hid (heap_alloc_last w (.cells (pkC p).toArray 25))
  have HNB := Lib.hid hnb
  have HN := Lib.hid hnn
  have hn' : n ≤ 1000 := by omega
  clear h h' hnb hnn hn
  by_cases h1 : p.c < 1 ∨ 16 < p.c
  · have e1 : putE l p = 1 := by unfold putE; rw [if_pos h1]
    have e2 : putN l p = l := by unfold putN; rw [e1, if_neg (by decide)]
    rw [e1, e2]
    have hb1 : (!decide (p.c < 1 ∨ 16 < p.c)) = false := by simp [h1]
    go_enter Try.func18, Try.ntmps18
    go_upto_region 3 with fail
    generalize w.alloc (.cells (pkC p).toArray 25) = w1 at *
    obtain ⟨d0, d1, d2, -, dl⟩ := nt_c2 (l := []) HB.out
    go_wp2_with fail
    refine (isClient_any _ _).mono ?_
    rintro e w2 ⟨rfl, k2⟩
    rw [hb1]
    have HX2 := Lib.hid (Ext.trans HX.out k2)
    have HB2 := Lib.hid ((Below.block k2 _ (heap_lt HB.out)).trans HB.out)
    have H2 := Lib.hid (H.out.ext HX2.out)
    clear d0 d1 d2 dl HX k2
    obtain ⟨d0, d1, d2, -, dl⟩ := nt_c2 (l := []) HB2.out
    obtain ⟨cr, -, gl⟩ := nt_c0 H2.out.hg
    have FF := Lib.hid (To.of_ext hh.out HX2.out)
    clear h1 hb1
    go_wp2_with fail
    go_ret
    exact ⟨rfl, FF.out⟩
  have hb1 : (!decide (p.c < 1 ∨ 16 < p.c)) = true := by simp only [h1]; rfl
  by_cases h2 : 4096 < nb
  · have e1 : putE l p = 40 := by unfold putE; rw [if_neg h1, HNB.out, if_pos h2]
    have e2 : putN l p = l := by unfold putN; rw [e1, if_neg (by decide)]
    rw [e1, e2]
    go_enter Try.func18, Try.ntmps18
    go_upto_region 3 with fail
    generalize w.alloc (.cells (pkC p).toArray 25) = w1 at *
    obtain ⟨d0, d1, d2, -, dl⟩ := nt_c2 (l := []) HB.out
    go_wp2_with fail
    refine (isClient_any _ _).mono ?_
    rintro e w2 ⟨rfl, k2⟩
    rw [hb1]
    have HX2 := Lib.hid (Ext.trans HX.out k2)
    have HB2 := Lib.hid ((Below.block k2 _ (heap_lt HB.out)).trans HB.out)
    have H2 := Lib.hid (H.out.ext HX2.out)
    clear d0 d1 d2 dl HX k2
    obtain ⟨d0, d1, d2, -, dl⟩ := nt_c2 (l := []) HB2.out
    obtain ⟨cr, -, gl⟩ := nt_c0 H2.out.hg
    have FF := Lib.hid (To.of_ext hh.out HX2.out)
    clear h1 hb1
    go_wp2_with fail
    go_ret
    exact ⟨rfl, FF.out⟩
  by_cases h3 : 256 ≤ n
  · have e1 : putE l p = 3 := by unfold putE; rw [if_neg h1, HNB.out, if_neg h2, HN.out, if_pos h3]
    have e2 : putN l p = l := by unfold putN; rw [e1, if_neg (by decide)]
    rw [e1, e2]
    go_enter Try.func18, Try.ntmps18
    go_upto_region 3 with fail
    generalize w.alloc (.cells (pkC p).toArray 25) = w1 at *
    obtain ⟨d0, d1, d2, -, dl⟩ := nt_c2 (l := []) HB.out
    go_wp2_with fail
    refine (isClient_any _ _).mono ?_
    rintro e w2 ⟨rfl, k2⟩
    rw [hb1]
    have HX2 := Lib.hid (Ext.trans HX.out k2)
    have HB2 := Lib.hid ((Below.block k2 _ (heap_lt HB.out)).trans HB.out)
    have H2 := Lib.hid (H.out.ext HX2.out)
    clear d0 d1 d2 dl HX k2
    obtain ⟨d0, d1, d2, -, dl⟩ := nt_c2 (l := []) HB2.out
    obtain ⟨cr, -, gl⟩ := nt_c0 H2.out.hg
    have FF := Lib.hid (To.of_ext hh.out HX2.out)
    clear h1 hb1
    go_wp2_with fail
    go_ret
    exact ⟨rfl, FF.out⟩
  have e1 : putE l p = 0 := by unfold putE; rw [if_neg h1, HNB.out, if_neg h2, HN.out, if_neg h3]
  have e2 : putN l p = l ++ [p] := by unfold putN; rw [e1, if_pos rfl]
  rw [e1, e2]
  go_enter Try.func18, Try.ntmps18
  go_upto_region 3 with fail
  generalize w.alloc (.cells (pkC p).toArray 25) = w1 at *
  obtain ⟨d0, d1, d2, -, dl⟩ := nt_c2 (l := []) HB.out
  go_wp2_with fail
  refine (isClient_any _ _).mono ?_
  rintro e w2 ⟨rfl, k2⟩
  rw [hb1]
  have HX2 := Lib.hid (Ext.trans HX.out k2)
  have HB2 := Lib.hid ((Below.block k2 _ (heap_lt HB.out)).trans HB.out)
  have H2 := Lib.hid (H.out.ext HX2.out)
  clear d0 d1 d2 dl HX k2
  obtain ⟨d0, d1, d2, -, dl⟩ := nt_c2 (l := []) HB2.out
  obtain ⟨cr, -, gl⟩ := nt_c0 H2.out.hg
  clear h1 hb1 e1 e2
  go_upto_region 9 with fail
  have q0 := fun (ψ : World → Prop) (e : ExtP w2.heap.size w2 ψ) => e.cell d0 dl
  have q1 := fun (ψ : World → Prop) (e : ExtP w2.heap.size w2 ψ) => e.cell d1 dl
  have q2 := fun (ψ : World → Prop) (e : ExtP w2.heap.size w2 ψ) => e.cell d2 dl
  clear d0 d1 d2 cr
  refine wp_region_pieces 4  [(true, [0, 1, 2, 3])] (by kernel_rfl) (by kernel_rfl) ?_; simp only [pick, List.map_cons, List.map_nil, List.flatMap_cons, List.flatMap_nil, Option.toList_some, List.singleton_append, List.drop_succ_cons, List.drop_zero, List.getElem?_cons_zero, List.getElem?_cons_succ]
  refine ⟨by kernel_rfl, ?_⟩; apply Exists.intro; refine ⟨fun ψ hψ hne => (by (repeat (go_big_quiet_step (( fail )))); exact wpQuiet_nil rfl), ?_⟩
  clear q0 q1 q2
  intro w3 h3'
  have HX3 := Lib.hid (Ext.trans HX2.out h3')
  have KP := netPut_row (N0 := 0) p w3 ((netO g l).ext hh.out HX3.out) (by rw [HN.out]; omega)
  have KP' := Lib.hid KP
  clear KP h3' H2 HB2
  go_wp2_with fail
  refine KP'.out.mono ?_
  rintro e w4 ⟨rfl, h4⟩
  have hF : To S w w4 (netO g (l ++ [p])) := by
    have := To.after_ext HX3.out h4
    show To S w w4 (ntOb _ _ [] [] g (l ++ [p]).length (pkcs (l ++ [p])))
    rw [pkcs_snoc, List.length_append]
    exact this
  have FF := Lib.hid hF
  clear h4 hF KP'
  go_wp2_with fail
  go_ret
  exact ⟨rfl, FF.out⟩
end

section
set_option linter.unusedVariables false
set_option maxRecDepth 100000
open Go.RowKit

theorem results_ctN {P : Program} {fn : Func} {p u : Tmp} {ty : TypeId} (h : fn.results = #[.cell p ty, .tmp u]) (tmps : Array Value) (w : World) (g : Nat) (t : TypeId) (cs : Array Value) (fr : Nat × Nat) (d : TypeDesc)
    (hp : tmps.getD p undef = .pointer (some ⟨g, 0, none⟩)) (hg : w.heap[g]? = some (.cells cs t fr)) (hu : P.underlying ty = some d) (hd : (match d with | .struct _ | .array _ _ => true | _ => false) = true) (hi : (P.info? ty).map (·.size) = some cs.size) :
    (results fn tmps).run P w = .ok (.tuple #[.agg cs, tmps.getD u undef]) w := by
  rw [results_cell_tmp h, hp]
  simp [asAddr, run_loadVar_row w g t ty cs fr d hg hu hd hi, Result.andThen]
theorem To.beside {S S' : Nat → Prop} {w w2 w3 w4 : World} {D : Ob Z0} {b : Nat} (h : To S' w2 w3 D) (hx : Ext w w2) (hs : ∀ i, S' i → S i ∧ i < w.heap.size) (hb1 : w.heap.size ≤ b) (hb2 : b < w2.heap.size) (k : Mut (fun j => j = b) w3 w4) : To S w w4 D := by
  have hz := hx.size
  have hz3 := h.2.size
  have hz4 := k.size
  refine ⟨D.mono (D.mutw h.1 k (fun i hi e => ?_) fun _ _ _ _ hz => hz) fun i hi => ?_, mut_then ((Mut.of_ext hx).trans (h.2.mono fun i hi => (hs i hi).1)) k fun i hi => by subst hi; exact hb1⟩
  · subst e
    rcases hi with hi | hi
    · have := (hs _ hi).2; omega
    · omega
  · rcases hi with hi | hi
    · exact .inl (hs i hi).1
    · exact .inr (by omega)
theorem trim_lt {S : Nat → Prop} {w : World} {D : Ob Z0} : ∀ i, (S i ∧ ∃ o, w.heap[i]? = some o ∧ D.K o) → S i ∧ i < w.heap.size := fun i ⟨h1, o, ho, _⟩ => ⟨h1, heap_lt ho⟩
theorem pkC_zero : (pkC pk0).toArray = #[.int .i64 0, .bool false, .string ⟨#[]⟩] := rfl
set_option maxHeartbeats 4000000 in
theorem netTake_any {S : Nat → Prop} {g : Nat} {l : List Pk} (a : Int) (w : World) (h : (netO g l).is w S) (hn : l.length ≤ 1000) :
    Calls Try.prog 11 #[.pointer (some ⟨g, 0, none⟩), .int .i64 a] w fun e w' => e = .returned (.tuple #[.agg (pkC (takeN l a).1).toArray, .int .i64 (takeN l a).2.1]) ∧ To S w w' (netO g (takeN l a).2.2) := by
  have ht := (netO g l).trim h
  have hh := Lib.hid h
  have HT := Lib.hid ht
  have hx := extAl w (.cells #[.int .i64 0, .bool false, .string ⟨#[]⟩] 25)
  have KP := netPlace_any a _ ((netO g l).ext h hx) (by omega)
  have HX := Lib.hid hx
  have HB := Lib.hid (heap_alloc_last w (.cells #[.int .i64 0, .bool false, .string ⟨#[]⟩] 25))
  clear h ht hx
  by_cases h0 : l.length = 0
  · have hl : l = [] := List.length_eq_zero_iff.1 h0
    subst hl
    have e : takeN [] a = (pk0, 5, []) := rfl
    rw [e]
    rw [if_pos h0, if_pos h0] at KP
    have KP' := Lib.hid KP
    clear KP h0 e
    go_enter Try.func11, Try.ntmps11
    go_upto_region 1 with fail
    generalize w.alloc (.cells #[.int .i64 0, .bool false, .string ⟨#[]⟩] 25) = w1 at *
    go_wp2_with fail
    refine KP'.out.mono ?_
    rintro e w2 ⟨rfl, k2⟩
    have hb2 := (Below.block k2 _ (heap_lt HB.out)).trans HB.out
    have hs2 := storeAt_row (P := Try.prog) (ty := 25) (cs := #[.int .i64 0, .bool false, .string ⟨#[]⟩]) hb2 (by kernel_rfl) rfl (by simp [Value.oneCell'])
    have HS := Lib.hid hs2
    have HF := Lib.hid (setRow_heap w2 w.heap.size _ #[.int .i64 0, .bool false, .string ⟨#[]⟩] _ _ hb2)
    have FF : Hid (To S w (w2.setRow w.heap.size #[.int .i64 0, .bool false, .string ⟨#[]⟩]) (netO g [])) := Lib.hid
      (To.beside (To.refl ((netO g []).ext HT.out (Ext.trans HX.out k2))) (Ext.trans HX.out k2) trim_lt (Nat.le_refl _) (heap_lt hb2) (mut_setRow (S := fun j => j = w.heap.size) rfl _))
    clear hs2 hb2 k2 KP'
    go_wp2_with (refine wpList_st rfl 25 (.tmp 4) (.tmp 16) rfl HS.out ?_; simp only [Act.put])
    (try simp only [Exit.inBlock, Exit.then])
    exact bodyPost_ret (results_ctN Try.results11 _ _ _ _ _ _ _ rfl HF.out Try.underlying25 rfl (by kernel_rfl)) rfl ⟨rfl, FF.out⟩
  · obtain ⟨e1, e2⟩ := ixN_spec a (Nat.pos_of_ne_zero h0) (by omega)
    obtain ⟨p, hp⟩ : ∃ p, l[ixN a l.length]? = some p := ⟨_, List.getElem?_eq_getElem e2⟩
    have e : takeN l a = (p, 0, l.eraseIdx (ixN a l.length)) := by unfold takeN; rw [hp]
    rw [e]
    rw [if_neg h0, if_neg h0] at KP
    have KP' := Lib.hid KP
    have hle : (l.eraseIdx (ixN a l.length)).length = l.length - 1 := by rw [List.length_eraseIdx, if_pos e2]
    have KC := Lib.hid (fun (w2 : World) (k : Ext w w2) => netCut_row (N0 := 0) w2 ((netO g l).ext HT.out k) hp (by omega))
    have HLE := Lib.hid hle
    clear KP h0 e hle e1 hp e2
    generalize ixN a l.length = i at *
    go_enter Try.func11, Try.ntmps11
    go_upto_region 1 with fail
    generalize w.alloc (.cells #[.int .i64 0, .bool false, .string ⟨#[]⟩] 25) = w1 at *
    go_wp2_with fail
    refine KP'.out.mono ?_
    rintro e w2 ⟨rfl, k2⟩
    have HX2 := Lib.hid (Ext.trans HX.out k2)
    have hb2 := (Below.block k2 _ (heap_lt HB.out)).trans HB.out
    have KC' := Lib.hid (KC.out w2 HX2.out)
    have HB2 := Lib.hid hb2
    clear hb2 k2 KP' KC
    go_upto_region 4 with fail
    go_wp2_with fail
    refine KC'.out.mono ?_
    rintro e w3 ⟨rfl, k3⟩
    have hng : ¬ (S w.heap.size ∧ ∃ o, w.heap[w.heap.size]? = some o ∧ (netO g l).K o) := fun ⟨_, o, ho, _⟩ => by have := heap_lt ho; omega
    have hb3 := (k3.2.block _ (heap_lt HB2.out) hng).trans HB2.out
    have hs3 := storeAt_row (P := Try.prog) (ty := 25) (cs := (pkC p).toArray) hb3 (by kernel_rfl) rfl (by simp [pkC, Value.oneCell'])
    have HS := Lib.hid hs3
    have HF := Lib.hid (setRow_heap w3 w.heap.size _ (pkC p).toArray _ _ hb3)
    have hF : To S w (w3.setRow w.heap.size (pkC p).toArray) (netO g (l.eraseIdx i)) := by
      have := To.beside k3 HX2.out trim_lt (Nat.le_refl _) (heap_lt HB2.out) (mut_setRow (S := fun j => j = w.heap.size) rfl (pkC p).toArray)
      show To S w _ (ntOb _ _ [] [] g (l.eraseIdx i).length _)
      rw [HLE.out]
      exact this
    have FF := Lib.hid hF
    clear hs3 hb3 k3 KC' hF hng
    go_wp2_with (refine wpList_st rfl 25 (.tmp 4) (.tmp 22) rfl HS.out ?_; simp only [Act.put])
    (try simp only [Exit.inBlock, Exit.then])
    exact bodyPost_ret (results_ctN Try.results11 _ _ _ _ _ _ _ rfl HF.out Try.underlying25 rfl (by kernel_rfl)) rfl ⟨rfl, FF.out⟩
set_option maxHeartbeats 2000000 in
theorem netLose_any {S : Nat → Prop} {g : Nat} {l : List Pk} (a : Int) (w : World) (h : (netO g l).is w S) (hn : l.length ≤ 1000) :
    Calls Try.prog 16 #[.pointer (some ⟨g, 0, none⟩), .int .i64 a] w fun e w' => e = .returned (.int .i64 (takeN l a).2.1) ∧ To S w w' (netO g (takeN l a).2.2) := by
  have K := Lib.hid (netTake_any a w h hn)
  generalize takeN l a = R at *
  obtain ⟨p, er, l'⟩ := R
  simp only at K
  clear h
  go_enter Try.func16, Try.ntmps16
  go_wp2_with fail
  refine K.out.mono ?_
  rintro e w1 ⟨rfl, k1⟩
  have FF := Lib.hid (To.then_ext k1 (extAl w1 (.cells (pkC p).toArray 25)))
  clear k1 K
  rw [pkC_eq] at FF ⊢
  go_wp2_with fail
  go_ret
  exact ⟨rfl, FF.out⟩
set_option maxHeartbeats 4000000 in
theorem netDouble_any {S : Nat → Prop} {g : Nat} {l : List Pk} (a : Int) (w : World) (h : (netO g l).is w S) (hn : l.length ≤ 1000) :
    Calls Try.prog 17 #[.pointer (some ⟨g, 0, none⟩), .int .i64 a] w fun e w' => e = .returned (.int .i64 (dblN l a).1) ∧ To S w w' (netO g (dblN l a).2) := by
  have hh := Lib.hid h
  have KP := netPlace_any a w h (by omega)
  obtain ⟨v, h⟩ := h
  obtain ⟨A, c, rfl⟩ := h.row.form
  by_cases h0 : l.length = 0
  · have hl : l = [] := List.length_eq_zero_iff.1 h0
    subst hl
    have e : dblN [] a = (5, []) := rfl
    rw [e]
    rw [if_pos h0, if_pos h0] at KP
    have KP' := Lib.hid KP
    clear KP h0 e h
    go_enter Try.func17, Try.ntmps17
    go_wp2_with fail
    refine KP'.out.mono ?_
    rintro e w2 ⟨rfl, k2⟩
    have FF := Lib.hid (To.of_ext hh.out k2)
    clear k2 KP'
    go_wp2_with fail
    go_ret
    exact ⟨rfl, FF.out⟩
  · obtain ⟨e1, e2⟩ := ixN_spec a (Nat.pos_of_ne_zero h0) (by omega)
    obtain ⟨p, hp⟩ : ∃ p, l[ixN a l.length]? = some p := ⟨_, List.getElem?_eq_getElem e2⟩
    rw [if_neg h0, if_neg h0] at KP
    have KP' := Lib.hid KP
    have H := Lib.hid h
    by_cases h256 : 256 ≤ l.length
    · have e : dblN l a = (3, l) := by unfold dblN; rw [hp]; simp only; rw [if_pos h256]
      rw [e]
      obtain ⟨n, hnn⟩ : ∃ n, l.length = n := ⟨_, rfl⟩
      have H' : Hid (NtP w S 106 25 [] [] g n (pkcs l) (.slice A n c)) := Lib.hid (by rw [hnn] at h; exact h)
      rw [hnn] at h256 KP'
      clear KP h0 e e1 e2 hp h H hnn hn
      go_enter Try.func17, Try.ntmps17
      go_wp2_with fail
      refine KP'.out.mono ?_
      rintro e w2 ⟨rfl, k2⟩
      have FF := Lib.hid (To.of_ext hh.out k2)
      obtain ⟨cr, -, gl⟩ := nt_c0 (H'.out.ext k2).hg
      clear k2 KP'
      go_wp2_with fail
      go_ret
      exact ⟨rfl, FF.out⟩
    · have e : dblN l a = (0, l ++ [p]) := by unfold dblN; rw [hp]; simp only; rw [if_neg h256]
      rw [e]
      have hcl := (h.row.rr (by decide))
      have hz := hcl
      obtain ⟨gs, rfl, -, hsl, hnc, hj⟩ := h.row.cells (Nat.pos_of_ne_zero h0)
      have z0 := RR.cellAt (enc := pkC) hz pkC_len hp (i := 0) rfl
      have z1 := RR.cellAt (enc := pkC) hz pkC_len hp (i := 1) rfl
      have z2 := RR.cellAt (enc := pkC) hz pkC_len hp (i := 2) rfl
      simp only [Nat.zero_add, Nat.add_zero] at z0 z1 z2
      have hnc' := hnc (by decide)
      obtain ⟨n, hnn⟩ : ∃ n, l.length = n := ⟨_, rfl⟩
      have H' : Hid (NtP w S 106 25 [] [] g n (pkcs l) (.slice (some ⟨gs, 0, none⟩) n c)) := Lib.hid (by rw [hnn] at h; exact h)
      have KC := Lib.hid (fun (w2 : World) (k : Ext w w2) => netPut_row (N0 := 0) p w2 ((netO g l).ext hh.out k) (by omega))
      rw [hnn] at h256 KP' e2 hnc' z0 z1 z2
      generalize ixN a n = i at *
      have Z0' := Lib.hid z0
      have Z1 := Lib.hid z1
      have Z2 := Lib.hid z2
      have hsz := hsl
      clear KP h0 e e1 hp h H hnn hn hz hcl hj z0 z1 z2 hnc
      go_enter Try.func17, Try.ntmps17
      go_wp2_with fail
      refine KP'.out.mono ?_
      rintro e w2 ⟨rfl, k2⟩
      have HX2 := Lib.hid k2
      obtain ⟨cr, -, gl⟩ := nt_c0 (H'.out.ext k2).hg
      have hs2 : gs < w2.heap.size := Nat.lt_of_lt_of_le hsl (Below.size k2)
      have z0 := (Below.cell (p := ⟨gs, i * 3, none⟩) k2 hsl).trans Z0'.out
      have z1 := (Below.cell (p := ⟨gs, i * 3 + 1, none⟩) k2 hsl).trans Z1.out
      have z2 := (Below.cell (p := ⟨gs, i * 3 + 2, none⟩) k2 hsl).trans Z2.out
      clear k2 KP' Z0' Z1 Z2 H'
      go_upto_region 6 with fail
      have q := fun (ψ : World → Prop) (e : ExtP w2.heap.size w2 ψ) => e.cell cr gl
      have q0 := fun (ψ : World → Prop) (e : ExtP w2.heap.size w2 ψ) => e.cell z0 hs2
      have q1 := fun (ψ : World → Prop) (e : ExtP w2.heap.size w2 ψ) => e.cell z1 hs2
      have q2 := fun (ψ : World → Prop) (e : ExtP w2.heap.size w2 ψ) => e.cell z2 hs2
      clear cr z0 z1 z2
      refine wp_region_pieces 11  [(true, [0, 1, 2, 3, 4, 5, 6, 7, 8, 9, 10])] (by kernel_rfl) (by kernel_rfl) ?_; simp only [pick, List.map_cons, List.map_nil, List.flatMap_cons, List.flatMap_nil, Option.toList_some, List.singleton_append, List.drop_succ_cons, List.drop_zero, List.getElem?_cons_zero, List.getElem?_cons_succ]
      refine ⟨by kernel_rfl, ?_⟩; apply Exists.intro; refine ⟨fun ψ hψ hne => (by (repeat (go_big_quiet_step (( fail )))); exact wpQuiet_nil rfl), ?_⟩
      clear q q0 q1 q2
      intro w3 h3
      have HX3 := Lib.hid (Ext.trans HX2.out h3)
      have KP := Lib.hid (KC.out w3 HX3.out)
      clear KC h3
      go_wp2_with fail
      refine KP.out.mono ?_
      rintro e w4 ⟨rfl, h4⟩
      have hF : To S w w4 (netO g (l ++ [p])) := by
        have := To.after_ext HX3.out h4
        show To S w w4 (ntOb _ _ [] [] g (l ++ [p]).length (pkcs (l ++ [p])))
        rw [pkcs_snoc, List.length_append]
        exact this
      have FF := Lib.hid hF
      clear h4 hF KP
      go_wp2_with fail
      go_ret
      exact ⟨rfl, FF.out⟩
end

section
set_option linter.unusedVariables false
set_option maxRecDepth 100000
open Go.RowKit

theorem netRow_any {S : Nat → Prop} {g : Nat} {l : List Pk} (w : World) (h : (netO g l).is w S) (hn : l.length ≤ 1000) :
    Calls Try.prog 20 #[.pointer (some ⟨g, 0, none⟩)] w fun e w' => ∃ v', e = .returned v' ∧ OwnR w' w.heap.size 25 3 One v' l.length (pkcs l) ∧ Ext w w' := by
  obtain ⟨v, h⟩ := h
  obtain ⟨A, c, rfl⟩ := h.row.form
  obtain ⟨cr, -, gl⟩ := nt_c0 h.hg
  have K := Lib.hid (clone_pk w (h.row.rr (by decide)) (pkcs_one l) (by omega))
  clear h
  generalize l.length = n at *
  go_enter Try.func20, Try.ntmps20
  go_wp2_with fail
  refine K.out.mono ?_
  rintro e w1 ⟨v', rfl, o1, k1⟩
  have HO := Lib.hid o1
  have HK := Lib.hid k1
  obtain ⟨A', c', rfl⟩ := o1.form
  clear o1 k1 K cr
  go_wp2_with fail
  go_ret
  exact ⟨_, rfl, HO.out, HK.out⟩
theorem netCopied_row {S : Nat → Prop} {g n : Nat} {N0 : Nat} {cs : List Value} (w : World) (h : (ntOb 106 25 [] [] g n cs).is w S) (h1 : ∀ u ∈ cs, One u) (hn : n ≤ 1000) :
    Calls Try.prog 60 #[.pointer (some ⟨g, 0, none⟩)] w fun e w' => ∃ v', e = .returned (.agg #[v']) ∧ OwnR w' w.heap.size 25 3 One v' n cs ∧ Ext w w' := by
  obtain ⟨v, h⟩ := h
  obtain ⟨A, c, rfl⟩ := h.row.form
  have hx := extAl w (.cells #[.slice none 0 0] 104)
  have hb := heap_alloc_last w (.cells #[.slice none 0 0] 104)
  have h' := h.ext hx
  obtain ⟨cr, -, gl⟩ := nt_c0 h'.hg
  have K := Lib.hid (clone_pk _ (h'.row.rr (by decide)) h1 (by omega))
  have HX := Lib.hid hx
  have HB := Lib.hid hb
  clear h h' hx hb
  go_enter Try.func60, Try.ntmps60
  go_upto_region 1 with fail
  generalize w.alloc (.cells #[.slice none 0 0] 104) = w1 at *
  go_wp2_with fail
  refine K.out.mono ?_
  rintro e w2 ⟨v', rfl, o2, k2⟩
  have hb2 := (Below.block k2 _ (heap_lt HB.out)).trans HB.out
  have hlt := heap_lt HB.out
  obtain ⟨A', c', rfl⟩ := o2.form
  have hst := nt_s0 (.slice A' n c') hb2
  have HF := Lib.hid (setRow_heap w2 w.heap.size _ #[.slice A' n c'] _ _ hb2)
  have ho : OwnR (w2.setRow w.heap.size #[.slice A' n c']) w.heap.size 25 3 One (.slice A' n c') n cs := (o2.mono (by omega)).set hb2 (by decide)
  have HO := Lib.hid ho
  have HE : Hid (Ext w (w2.setRow w.heap.size #[.slice A' n c'])) := Lib.hid (below_setRow (Ext.trans HX.out k2) (Nat.le_refl _) _)
  have ST := Lib.hid hst
  obtain ⟨d0, df, dl⟩ := nt_c0 hb2
  clear hst ho o2 k2 hb2 K hlt
  go_wp2_with fail
  rw [ST.out]
  exact bodyPost_ret (v := .agg #[.slice A' n c']) (results_cell_row Try.results60 _ _ _ _ _ _ _ rfl HF.out Try.underlying104 rfl (by kernel_rfl)) rfl ⟨_, rfl, HO.out, HE.out⟩
theorem cliCopied_row {S : Nat → Prop} {g n : Nat} {N L : Int} {cs : List Value} (w : World) (h : (ntOb 112 118 [.int .i64 N, .int .i64 L] [] g n cs).is w S) (h1 : ∀ u ∈ cs, One u) (hn : n ≤ 1000) :
    Calls Try.prog 61 #[.pointer (some ⟨g, 2, none⟩)] w fun e w' => ∃ v', e = .returned (.agg #[v']) ∧ OwnR w' w.heap.size 118 3 One v' n cs ∧ Ext w w' := by
  obtain ⟨v, h⟩ := h
  obtain ⟨A, c, rfl⟩ := h.row.form
  have hx := extAl w (.cells #[.slice none 0 0] 110)
  have hb := heap_alloc_last w (.cells #[.slice none 0 0] 110)
  have h' := h.ext hx
  obtain ⟨-, -, cr, -, gl⟩ := nt_c2 h'.hg
  have K := Lib.hid (clone_cl _ (h'.row.rr (by decide)) h1 (by omega))
  have HX := Lib.hid hx
  have HB := Lib.hid hb
  clear h h' hx hb
  go_enter Try.func61, Try.ntmps61
  go_upto_region 1 with fail
  generalize w.alloc (.cells #[.slice none 0 0] 110) = w1 at *
  go_wp2_with fail
  refine K.out.mono ?_
  rintro e w2 ⟨v', rfl, o2, k2⟩
  have hb2 := (Below.block k2 _ (heap_lt HB.out)).trans HB.out
  have hlt := heap_lt HB.out
  obtain ⟨A', c', rfl⟩ := o2.form
  have hst := nt_s0 (.slice A' n c') hb2
  have HF := Lib.hid (setRow_heap w2 w.heap.size _ #[.slice A' n c'] _ _ hb2)
  have ho : OwnR (w2.setRow w.heap.size #[.slice A' n c']) w.heap.size 118 3 One (.slice A' n c') n cs := (o2.mono (by omega)).set hb2 (by decide)
  have HO := Lib.hid ho
  have HE : Hid (Ext w (w2.setRow w.heap.size #[.slice A' n c'])) := Lib.hid (below_setRow (Ext.trans HX.out k2) (Nat.le_refl _) _)
  have ST := Lib.hid hst
  obtain ⟨d0, df, dl⟩ := nt_c0 hb2
  clear hst ho o2 k2 hb2 K hlt
  go_wp2_with fail
  rw [ST.out]
  exact bodyPost_ret (v := .agg #[.slice A' n c']) (results_cell_row Try.results61 _ _ _ _ _ _ _ rfl HF.out Try.underlying110 rfl (by kernel_rfl)) rfl ⟨_, rfl, HO.out, HE.out⟩
theorem netCopy_any {S : Nat → Prop} {g : Nat} {l : List Pk} (w : World) (h : (netO g l).is w S) (hn : l.length ≤ 1000) :
    Calls Try.prog 21 #[.pointer (some ⟨g, 0, none⟩)] w fun e w' => ∃ g', e = .returned (.pointer (some ⟨g', 0, none⟩)) ∧ (netO g' l).is w' (fun i => w.heap.size ≤ i ∧ i < w'.heap.size) ∧ Ext w w' := by
  have K := Lib.hid (netCopied_row (N0 := 0) w h (pkcs_one l) hn)
  clear h
  obtain ⟨n, hnn⟩ : ∃ n, l.length = n := ⟨_, rfl⟩
  rw [hnn] at K
  have HN := Lib.hid hnn
  clear hnn hn
  go_enter Try.func21, Try.ntmps21
  go_wp2_with fail
  refine K.out.mono ?_
  rintro e w1 ⟨v', rfl, o1, k1⟩
  obtain ⟨A', c', rfl⟩ := o1.form
  have hx := extAl w1 (.cells #[.slice A' n c'] 106)
  have hb := heap_alloc_last w1 (.cells #[.slice A' n c'] 106)
  have hz := Below.size k1
  have hlt := heap_lt hb
  have HF : Hid ((netO w1.heap.size l).is (w1.alloc (.cells #[.slice A' n c'] 106)) (fun i => w.heap.size ≤ i ∧ i < (w1.alloc (.cells #[.slice A' n c'] 106)).heap.size)) := Lib.hid
    ⟨.slice A' n c', hb, by
      have := (o1.ext hx).mono (Nat.zero_le _)
      rw [HN.out]
      exact this, ⟨hz, hlt⟩, fun b hb => by
      have := own_lt o1 hb
      have h2 := hx.size
      exact ⟨by omega, by omega⟩⟩
  have HE : Hid (Ext w (w1.alloc (.cells #[.slice A' n c'] 106))) := Lib.hid (Ext.trans k1 hx)
  clear o1 k1 hx hb hz hlt K
  go_wp2_with fail
  go_ret
  exact ⟨_, rfl, HF.out, HE.out⟩
end

section
set_option linter.unusedVariables false
set_option maxRecDepth 100000
open Go.RowKit

theorem OwnR.setC {w : World} {B : Nat} {T : TypeId} {sz : Nat} {n b c j : Nat} {cs : List Value} {x : Value} (h : OwnR w B T sz One (.slice (some ⟨b, 0, none⟩) n c) n cs) (hj : j < cs.length) (hx : One x) :
    ∃ row', w.setCell ⟨b, j, none⟩ x = w.setRow b row' ∧ OwnR (w.setRow b row') B T sz One (.slice (some ⟨b, 0, none⟩) n c) n (cs.set j x) := by
  obtain ⟨h0, ⟨hv, _⟩ | ⟨g, c', junk, hv, hB, hg, hc, hC⟩⟩ := h
  · cases hv
  · simp only [Value.slice.injEq, Option.some.injEq, Addr.mk.injEq, and_true, true_and] at hv
    obtain ⟨rfl, rfl⟩ := hv
    refine ⟨_, setCell_eq_setRow w b j _ T (0, 0) x hg, by rw [List.length_set]; exact h0, .inr ⟨b, c, junk, rfl, hB, ?_, by rw [List.length_set]; exact hc, fun u hu => ?_⟩⟩
    · rw [setRow_heap w b _ _ _ _ hg]
      congr 2
      apply Array.ext'
      simp [List.set_append_left _ _ hj]
    · rcases List.mem_append.1 hu with hu | hu
      · rcases List.mem_or_eq_of_mem_set hu with hu | rfl
        · exact hC u (List.mem_append_left _ hu)
        · exact hx
      · exact hC u (List.mem_append_right _ hu)
def ownK (T : TypeId) (o : Obj) : Prop := match o with
  | .cells _ t _ => t = T
  | _ => False
def ownOb (T : TypeId) (sz : Nat) (v : Value) (n : Nat) (cs : List Value) : Ob Z0 where
  is := fun w S => OwnR w 0 T sz One v n cs ∧ ∀ b, v.ownBlock = some b → S b
  K := ownK T
  mutw := fun h k hd _ => ⟨h.1.mutO k fun b hb => hd b (h.2 b hb), h.2⟩
  mono := fun h k => ⟨h.1, fun b hb => k b (h.2 b hb)⟩
  trim := fun h => ⟨h.1, fun b hb => ⟨h.2 b hb, by obtain ⟨cs, hc⟩ := ownR_blk h.1 hb; exact ⟨_, hc, rfl⟩⟩⟩
  kz := fun o h hz => hz
theorem ownOb_nil (w : World) (T : TypeId) (sz : Nat) (S : Nat → Prop) : (ownOb T sz (.slice none 0 0) 0 []).is w S := ⟨OwnR.nil, fun b hb => by simp [Value.ownBlock] at hb⟩
theorem own_flat {w : World} {T : TypeId} {α : Type} {enc : α → List Value} {sz n c b : Nat} {l : List α} (h : OwnR w 0 T sz One (.slice (some ⟨b, 0, none⟩) n c) n (l.flatMap enc)) (he : ∀ x, (enc x).length = sz) (hl : l.length = n) {k : Nat} {x : α} (hk : l[k]? = some x) :
    b < w.heap.size ∧ (0 < sz → n ≤ c) ∧ (∀ i (hi : i < sz), w.cell? ⟨b, k * sz + i, none⟩ = (enc x)[i]?) ∧ (∀ o, w.frozen? ⟨b, o, none⟩ = false) := by
  have hkl := (List.getElem?_eq_some_iff.1 hk).1
  have h' := h
  obtain ⟨g, hg, -, hlt, hc, hj⟩ := h.cells (by omega)
  simp only [Option.some.injEq, Addr.mk.injEq, and_true] at hg
  subst hg
  refine ⟨hlt, hc, fun i hi => ?_, fun o => ?_⟩
  · have h1 := flat_at he l k i x hk hi
    have h2 : k * sz + i < (l.flatMap enc).length := by
      rw [flat_length he]
      have : (k + 1) * sz ≤ l.length * sz := Nat.mul_le_mul_right _ hkl
      rw [Nat.add_mul] at this
      omega
    rw [hj _ h2, ← h1, List.getElem?_eq_getElem h2]
  · obtain ⟨_, ⟨hv, _⟩ | ⟨g, c', junk, hv, hB, hg, _⟩⟩ := h'
    · cases hv
    · simp only [Value.slice.injEq, Option.some.injEq, Addr.mk.injEq, and_true, true_and] at hv
      obtain ⟨rfl, rfl⟩ := hv
      simp [World.frozen?, hg]
theorem To.cast {S : Nat → Prop} {w w' : World} {D D' : Ob Z0} (h : To S w w' D) (e : D = D') : To S w w' D' := e ▸ h
section
variable {W w : World} {ds : List (Ob Z0)}
theorem OSt.ownNil (h : OSt W ds w) (T : TypeId) (sz : Nat) : OSt W (ownOb T sz (.slice none 0 0) 0 [] :: ds) w :=
  h.push (Ext.refl w) (R := fun _ => False) (ownOb_nil w T sz _) fun _ hi => hi.elim
theorem OSt.own {T : TypeId} {sz n : Nat} {v : Value} {cs : List Value} (h : OSt W ds w) (i : Nat) (hi : ds[i]? = some (ownOb T sz v n cs)) : OwnR w 0 T sz One v n cs := by
  obtain ⟨S, h1, _⟩ := h.pick hi
  exact h1.1
theorem OSt.pushOwn {w' : World} {T : TypeId} {sz n : Nat} {v : Value} {cs : List Value} (h : OSt W ds w) (k : Ext w w') (ho : OwnR w' w.heap.size T sz One v n cs) : OSt W (ownOb T sz v n cs :: ds) w' :=
  h.push k (R := fun b => v.ownBlock = some b) ⟨ho.mono (Nat.zero_le _), fun b hb => hb⟩ fun b hb => (own_lt ho hb).1
theorem OSt.setOwn {T : TypeId} {sz n b c j : Nat} {cs : List Value} {x : Value} (h : OSt W ds w) (i : Nat) (hi : ds[i]? = some (ownOb T sz (.slice (some ⟨b, 0, none⟩) n c) n cs)) (hj : j < cs.length) (hx : One x) :
    OSt W (ds.set i (ownOb T sz (.slice (some ⟨b, 0, none⟩) n c) n (cs.set j x))) (w.setCell ⟨b, j, none⟩ x) := by
  obtain ⟨S, h1, _, h3, _⟩ := h.pick hi
  obtain ⟨row', e, ho⟩ := OwnR.setC h1.1 hj hx
  rw [e]
  have hb : S b := h1.2 b (by simp [Value.ownBlock])
  exact h3 _ _ ⟨⟨ho, fun b' hb' => .inl (h1.2 b' hb')⟩, mut_setRow hb _⟩
theorem nNewO (h : OSt W ds w) : Calls Try.prog 15 #[] w fun e w' => ∃ g, e = .returned (.pointer (some ⟨g, 0, none⟩)) ∧ OSt W (netO g [] :: ds) w' :=
  (netNew_any w).mono fun e w' ⟨g, he, hi, hx⟩ => ⟨g, he, h.pushN hx hi⟩
theorem nPutO (i : Nat) (h : OSt W ds w) {g : Nat} {l : List Pk} (hi : ds[i]? = some (netO g l)) (p : Pk) (hn : l.length ≤ 1000) : Calls Try.prog 18 #[.pointer (some ⟨g, 0, none⟩), .agg (pkC p).toArray] w fun e w' => e = .returned (.int .i64 (putE l p)) ∧ OSt W (ds.set i (netO g (putN l p))) w' := by
  obtain ⟨S, h1, _, h3, _⟩ := h.pick hi
  exact (netPut_any p w h1 hn).mono fun e w' ⟨he, hT⟩ => ⟨he, h3 w' _ hT⟩
theorem nTakeO (i : Nat) (h : OSt W ds w) {g : Nat} {l : List Pk} (hi : ds[i]? = some (netO g l)) (a : Int) (hn : l.length ≤ 1000) : Calls Try.prog 11 #[.pointer (some ⟨g, 0, none⟩), .int .i64 a] w fun e w' => e = .returned (.tuple #[.agg (pkC (takeN l a).1).toArray, .int .i64 (takeN l a).2.1]) ∧ OSt W (ds.set i (netO g ((takeN l a).2.2))) w' := by
  obtain ⟨S, h1, _, h3, _⟩ := h.pick hi
  exact (netTake_any a w h1 hn).mono fun e w' ⟨he, hT⟩ => ⟨he, h3 w' _ hT⟩
theorem nLoseO (i : Nat) (h : OSt W ds w) {g : Nat} {l : List Pk} (hi : ds[i]? = some (netO g l)) (a : Int) (hn : l.length ≤ 1000) : Calls Try.prog 16 #[.pointer (some ⟨g, 0, none⟩), .int .i64 a] w fun e w' => e = .returned (.int .i64 (takeN l a).2.1) ∧ OSt W (ds.set i (netO g ((takeN l a).2.2))) w' := by
  obtain ⟨S, h1, _, h3, _⟩ := h.pick hi
  exact (netLose_any a w h1 hn).mono fun e w' ⟨he, hT⟩ => ⟨he, h3 w' _ hT⟩
theorem nDoubleO (i : Nat) (h : OSt W ds w) {g : Nat} {l : List Pk} (hi : ds[i]? = some (netO g l)) (a : Int) (hn : l.length ≤ 1000) : Calls Try.prog 17 #[.pointer (some ⟨g, 0, none⟩), .int .i64 a] w fun e w' => e = .returned (.int .i64 (dblN l a).1) ∧ OSt W (ds.set i (netO g ((dblN l a).2))) w' := by
  obtain ⟨S, h1, _, h3, _⟩ := h.pick hi
  exact (netDouble_any a w h1 hn).mono fun e w' ⟨he, hT⟩ => ⟨he, h3 w' _ hT⟩
theorem nRowO (i : Nat) (h : OSt W ds w) {g : Nat} {l : List Pk} (hi : ds[i]? = some (netO g l)) (hn : l.length ≤ 1000) : Calls Try.prog 20 #[.pointer (some ⟨g, 0, none⟩)] w fun e w' => ∃ v, e = .returned v ∧ OSt W (ownOb 25 3 v l.length (pkcs l) :: ds) w' ∧ Ext w w' := by
  obtain ⟨S, h1, _⟩ := h.pick hi
  exact (netRow_any w h1 hn).mono fun e w' ⟨v, he, ho, hx⟩ => ⟨v, he, h.pushOwn hx ho, hx⟩
theorem nCopyO (i : Nat) (h : OSt W ds w) {g : Nat} {l : List Pk} (hi : ds[i]? = some (netO g l)) (hn : l.length ≤ 1000) : Calls Try.prog 21 #[.pointer (some ⟨g, 0, none⟩)] w fun e w' => ∃ g', e = .returned (.pointer (some ⟨g', 0, none⟩)) ∧ OSt W (netO g' l :: ds) w' := by
  obtain ⟨S, h1, _⟩ := h.pick hi
  exact (netCopy_any w h1 hn).mono fun e w' ⟨g', he, hi, hx⟩ => ⟨g', he, h.pushN hx hi⟩
end
theorem putN_len (l : List Pk) (p : Pk) (h : l.length ≤ 256) : (putN l p).length ≤ 256 := by
  by_cases h0 : putE l p = 0
  · have : ¬ 256 ≤ l.length := fun h256 => by
      unfold putE at h0
      rw [if_pos h256] at h0
      split at h0
      · cases h0
      · split at h0 <;> cases h0
    unfold putN
    rw [if_pos h0, List.length_append]
    simp
    omega
  · unfold putN
    rw [if_neg h0]
    exact h
theorem takeN_len (l : List Pk) (a : Int) (h : l.length ≤ 256) : (takeN l a).2.2.length ≤ 256 := by
  unfold takeN
  split
  · exact h
  · show (l.eraseIdx _).length ≤ 256
    rw [List.length_eraseIdx]
    split <;> omega
theorem dblN_len (l : List Pk) (a : Int) (h : l.length ≤ 256) : (dblN l a).2.length ≤ 256 := by
  unfold dblN
  split
  · exact h
  · split
    · exact h
    · show (l ++ [_]).length ≤ 256
      rw [List.length_append]
      simp
      omega
end
end Go.Proofs.Yteahlnoonmfjhaa
