/- Arguments: the maps of letters (printed by gen_agd.py). -/
import Derived.Test.YteahlnoonmfjhaaAgC
import Derived.Test.YteahlnoonmfjhaaMapI
set_option linter.unusedVariables false
set_option maxRecDepth 100000
namespace Go.Proofs.Yteahlnoonmfjhaa
open Go.RowKit

/-- A slice of blocks made since w0. -/
def FreshS (w0 : World) (v : Value) : Prop := ∀ b off n c, v = .slice (some ⟨b, off, none⟩) n c → w0.heap.size ≤ b
/-- A map of letters in block g, made since w0: what stands under a number. -/
structure AskM (w0 w : World) (g : Nat) (L : Int → Option (List UInt8)) : Prop where
  map : ∃ F, MapI w g F ∧ ∀ p, (L p = none → F p = none) ∧ ∀ l, L p = some l → ∃ v, F p = some v ∧ RS w v l ∧ FreshS w0 v
  bel : Below w0.heap.size w0 w
  lg : w0.heap.size ≤ g
theorem AskM.ext {w0 w w' : World} {g : Nat} {L : Int → Option (List UInt8)} (h : AskM w0 w g L) (k : Ext w w') : AskM w0 w' g L := by
  obtain ⟨⟨F, hm, hF⟩, hb, hg⟩ := h
  exact ⟨⟨F, hm.ext k, fun p => ⟨(hF p).1, fun l hl => by obtain ⟨v, h1, h2, h3⟩ := (hF p).2 l hl; exact ⟨v, h1, h2.ext k, h3⟩⟩⟩, hb.trans (k.mono hb.size), hg⟩
theorem AskM.made (w : World) : AskM w (w.alloc (.map #[] 0)) w.heap.size (fun _ => none) :=
  ⟨⟨fun _ => none, mapI_made w, fun p => ⟨fun _ => rfl, fun l h => by cases h⟩⟩, extAl w _, Nat.le_refl _⟩
theorem AskM.step {w0 w : World} {g : Nat} {L : Int → Option (List UInt8)} (h : AskM w0 w g L) (a : Int) (ha : (Lit.int .i64 a).wf = true) (l : List UInt8) (n : Nat) (row : Array Value) (hn : l.length = n) (hr : row = (bvs l).toArray) :
    ∃ w', (Instr.mapUpdate 131 (.map (some g)) (.int .i64 a) (.slice (some ⟨w.heap.size, 0, none⟩) n n)).run Try.prog (w.alloc (.cells row 5)) = .ok () w' ∧ AskM w0 w' g (fun p => if p = a then some l else L p) := by
  subst hn hr
  have h1 := h.ext (extAl w (.cells (bvs l).toArray 5))
  obtain ⟨⟨F, hm, hF⟩, hb, hg⟩ := h1
  obtain ⟨w', hr, hm', hgr⟩ := hm.update (P := Try.prog) (t := 131) Try.underlying131 Try.underlying3 ha (.slice (some ⟨w.heap.size, 0, none⟩) l.length l.length)
  have hnob : ∀ b o u, some g = some b → (w.alloc (.cells (bvs l).toArray 5)).cell? ⟨b, o, none⟩ = some u → NoB u := fun b o u e hu => by
    cases e
    obtain ⟨es, clock, hh, _⟩ := hm
    simp [World.cell?, hh] at hu
  refine ⟨w', hr, ⟨_, hm', fun p => ⟨fun hp => ?_, fun l' hp => ?_⟩⟩, hb.trans ((Mut.of_grown (S := fun i => i = g) hgr fun b hb => by simpa using hb.symm).below (B := w0.heap.size) (fun i hi => by omega) hb.size), hg⟩
  · unfold upd
    by_cases e : p = a
    · simp [e] at hp
    · rw [if_neg e] at hp ⊢
      exact (hF p).1 hp
  · unfold upd
    by_cases e : p = a
    · rw [if_pos e] at hp ⊢
      cases hp
      refine ⟨_, rfl, RS.grown ?_ hgr hnob, fun b off n c e => by cases e; exact h.bel.size⟩
      exact rs_block (off := 0) (heap_alloc_last w _) (by simp) (Nat.le_refl _)
    · rw [if_neg e] at hp ⊢
      obtain ⟨v, h1, h2, h3⟩ := (hF p).2 l' hp
      exact ⟨v, h1, RS.grown h2 hgr hnob, h3⟩
theorem AskM.look {w0 w : World} {g : Nat} {L : Int → Option (List UInt8)} (h : AskM w0 w g L) {p : Int} (hp : (Lit.int .i64 p).wf = true) :
    ∃ v, (Instr.lookup 131 (.map (some g)) (.int .i64 p) true).run Try.prog w = .ok (.tuple #[v, .bool (L p).isSome]) w ∧ RS w v ((L p).getD []) ∧ FreshS w0 v := by
  obtain ⟨⟨F, hm, hF⟩, hb, hg⟩ := h
  have hl := hm.look (P := Try.prog) (t := 131) true Try.underlying131 Try.underlying3 (z := .slice none 0 0) (by go_simp) hp
  rw [if_pos rfl] at hl
  cases hL : L p with
  | none =>
    rw [(hF p).1 hL] at hl
    exact ⟨_, hl, RS.nil, fun b off n c e => by cases e⟩
  | some l =>
    obtain ⟨v, h1, h2, h3⟩ := (hF p).2 l hL
    rw [h1] at hl
    exact ⟨v, hl, h2, h3⟩
theorem wpList_ins {P : Program} {ops : Array Oper} {rest : List Oper} {o : Oper} {a : Act} {w w' : World} {Q : Exit → Act → World → Prop} (hgd : o.guard = none) (t : TypeId) (m x v : Operand) (ho : o.op = .insert t m x v) (hr : (Instr.mapUpdate t (a.eval m) (a.eval x) (a.eval v)).run P w = .ok () w')
    (h : wpList P ops Q rest (a.put o.dst undef) w') : wpList P ops Q (o :: rest) a w :=
  wpList_plain hgd fun K hK => by unfold Oper.wp; simp [execOp, ho, hr, Result.andThen]; exact hK _ _ h
/-- The letters that each procedure tells. -/
def toldL (p : Int) : Option (List UInt8) := if p = 18 then some [] else if p = 17 then some [72] else if p = 16 then some [118] else if p = 15 then some [78, 102, 117] else if p = 14 then some [69, 101, 118] else if p = 13 then some [65] else if p = 12 then some [] else if p = 11 then some [] else if p = 10 then some [] else if p = 9 then some [72, 65] else if p = 8 then some [72, 65] else if p = 7 then some [72, 65] else if p = 6 then some [78, 118, 65] else if p = 5 then some [120, 101, 65] else if p = 4 then some [120] else if p = 3 then some [72, 65] else if p = 2 then some [65] else if p = 1 then some [65] else if p = 0 then some [] else none
set_option maxHeartbeats 4000000 in
theorem asked_any (w : World) : Calls Try.prog 63 #[] w fun e w' => ∃ g, e = .returned (.map (some g)) ∧ AskM w w' g askedL := by
  have hmm := @run_makeMap Try.prog
  have H0 := Lib.hid (AskM.made w)
  obtain ⟨w1, r0, h1⟩ := H0.out.step 0 (by decide) [] 0 #[] rfl rfl
  have H1 := Lib.hid h1
  simp only [World.size_alloc] at r0
  clear h1 H0
  obtain ⟨w2, r1, h2⟩ := H1.out.step 1 (by decide) [72] 1 #[.int .u8 72] rfl rfl
  have H2 := Lib.hid h2
  clear h2 H1
  obtain ⟨w3, r2, h3⟩ := H2.out.step 2 (by decide) [72, 109, 115, 103] 4 #[.int .u8 72, .int .u8 109, .int .u8 115, .int .u8 103] rfl rfl
  have H3 := Lib.hid h3
  clear h3 H2
  obtain ⟨w4, r3, h4⟩ := H3.out.step 3 (by decide) [72, 110] 2 #[.int .u8 72, .int .u8 110] rfl rfl
  have H4 := Lib.hid h4
  clear h4 H3
  obtain ⟨w5, r4, h5⟩ := H4.out.step 4 (by decide) [72] 1 #[.int .u8 72] rfl rfl
  have H5 := Lib.hid h5
  clear h5 H4
  obtain ⟨w6, r5, h6⟩ := H5.out.step 5 (by decide) [72, 112, 78] 3 #[.int .u8 72, .int .u8 112, .int .u8 78] rfl rfl
  have H6 := Lib.hid h6
  clear h6 H5
  obtain ⟨w7, r6, h7⟩ := H6.out.step 6 (by decide) [72, 112, 98, 120] 4 #[.int .u8 72, .int .u8 112, .int .u8 98, .int .u8 120] rfl rfl
  have H7 := Lib.hid h7
  clear h7 H6
  obtain ⟨w8, r7, h8⟩ := H7.out.step 7 (by decide) [72, 110, 109, 103] 4 #[.int .u8 72, .int .u8 110, .int .u8 109, .int .u8 103] rfl rfl
  have H8 := Lib.hid h8
  clear h8 H7
  obtain ⟨w9, r8, h9⟩ := H8.out.step 8 (by decide) [72, 110, 109] 3 #[.int .u8 72, .int .u8 110, .int .u8 109] rfl rfl
  have H9 := Lib.hid h9
  clear h9 H8
  obtain ⟨w10, r9, h10⟩ := H9.out.step 9 (by decide) [72, 110, 120] 3 #[.int .u8 72, .int .u8 110, .int .u8 120] rfl rfl
  have H10 := Lib.hid h10
  clear h10 H9
  obtain ⟨w11, r10, h11⟩ := H10.out.step 10 (by decide) [72, 110] 2 #[.int .u8 72, .int .u8 110] rfl rfl
  have H11 := Lib.hid h11
  clear h11 H10
  obtain ⟨w12, r11, h12⟩ := H11.out.step 11 (by decide) [72, 110] 2 #[.int .u8 72, .int .u8 110] rfl rfl
  have H12 := Lib.hid h12
  clear h12 H11
  obtain ⟨w13, r12, h13⟩ := H12.out.step 12 (by decide) [72, 110, 84, 111] 4 #[.int .u8 72, .int .u8 110, .int .u8 84, .int .u8 111] rfl rfl
  have H13 := Lib.hid h13
  clear h13 H12
  obtain ⟨w14, r13, h14⟩ := H13.out.step 13 (by decide) [72, 84, 110] 3 #[.int .u8 72, .int .u8 84, .int .u8 110] rfl rfl
  have H14 := Lib.hid h14
  clear h14 H13
  obtain ⟨w15, r14, h15⟩ := H14.out.step 14 (by decide) [72, 112, 78, 118] 4 #[.int .u8 72, .int .u8 112, .int .u8 78, .int .u8 118] rfl rfl
  have H15 := Lib.hid h15
  clear h15 H14
  obtain ⟨w16, r15, h16⟩ := H15.out.step 15 (by decide) [72] 1 #[.int .u8 72] rfl rfl
  have H16 := Lib.hid h16
  clear h16 H15
  obtain ⟨w17, r16, h17⟩ := H16.out.step 16 (by decide) [72] 1 #[.int .u8 72] rfl rfl
  have H17 := Lib.hid h17
  clear h17 H16
  obtain ⟨w18, r17, h18⟩ := H17.out.step 17 (by decide) [72, 110] 2 #[.int .u8 72, .int .u8 110] rfl rfl
  have H18 := Lib.hid h18
  clear h18 H17
  obtain ⟨w19, r18, h19⟩ := H18.out.step 18 (by decide) [72, 110] 2 #[.int .u8 72, .int .u8 110] rfl rfl
  have H19 := Lib.hid h19
  clear h19 H18
  go_enter Try.func63, Try.ntmps63
  go_wp2_with fail
  go_ret
  exact ⟨_, rfl, H19.out⟩
set_option maxHeartbeats 4000000 in
theorem told_any (w : World) : Calls Try.prog 82 #[] w fun e w' => ∃ g, e = .returned (.map (some g)) ∧ AskM w w' g toldL := by
  have hmm := @run_makeMap Try.prog
  have H0 := Lib.hid (AskM.made w)
  obtain ⟨w1, r0, h1⟩ := H0.out.step 0 (by decide) [] 0 #[] rfl rfl
  have H1 := Lib.hid h1
  simp only [World.size_alloc] at r0
  clear h1 H0
  obtain ⟨w2, r1, h2⟩ := H1.out.step 1 (by decide) [65] 1 #[.int .u8 65] rfl rfl
  have H2 := Lib.hid h2
  clear h2 H1
  obtain ⟨w3, r2, h3⟩ := H2.out.step 2 (by decide) [65] 1 #[.int .u8 65] rfl rfl
  have H3 := Lib.hid h3
  clear h3 H2
  obtain ⟨w4, r3, h4⟩ := H3.out.step 3 (by decide) [72, 65] 2 #[.int .u8 72, .int .u8 65] rfl rfl
  have H4 := Lib.hid h4
  clear h4 H3
  obtain ⟨w5, r4, h5⟩ := H4.out.step 4 (by decide) [120] 1 #[.int .u8 120] rfl rfl
  have H5 := Lib.hid h5
  clear h5 H4
  obtain ⟨w6, r5, h6⟩ := H5.out.step 5 (by decide) [120, 101, 65] 3 #[.int .u8 120, .int .u8 101, .int .u8 65] rfl rfl
  have H6 := Lib.hid h6
  clear h6 H5
  obtain ⟨w7, r6, h7⟩ := H6.out.step 6 (by decide) [78, 118, 65] 3 #[.int .u8 78, .int .u8 118, .int .u8 65] rfl rfl
  have H7 := Lib.hid h7
  clear h7 H6
  obtain ⟨w8, r7, h8⟩ := H7.out.step 7 (by decide) [72, 65] 2 #[.int .u8 72, .int .u8 65] rfl rfl
  have H8 := Lib.hid h8
  clear h8 H7
  obtain ⟨w9, r8, h9⟩ := H8.out.step 8 (by decide) [72, 65] 2 #[.int .u8 72, .int .u8 65] rfl rfl
  have H9 := Lib.hid h9
  clear h9 H8
  obtain ⟨w10, r9, h10⟩ := H9.out.step 9 (by decide) [72, 65] 2 #[.int .u8 72, .int .u8 65] rfl rfl
  have H10 := Lib.hid h10
  clear h10 H9
  obtain ⟨w11, r10, h11⟩ := H10.out.step 10 (by decide) [] 0 #[] rfl rfl
  have H11 := Lib.hid h11
  clear h11 H10
  obtain ⟨w12, r11, h12⟩ := H11.out.step 11 (by decide) [] 0 #[] rfl rfl
  have H12 := Lib.hid h12
  clear h12 H11
  obtain ⟨w13, r12, h13⟩ := H12.out.step 12 (by decide) [] 0 #[] rfl rfl
  have H13 := Lib.hid h13
  clear h13 H12
  obtain ⟨w14, r13, h14⟩ := H13.out.step 13 (by decide) [65] 1 #[.int .u8 65] rfl rfl
  have H14 := Lib.hid h14
  clear h14 H13
  obtain ⟨w15, r14, h15⟩ := H14.out.step 14 (by decide) [69, 101, 118] 3 #[.int .u8 69, .int .u8 101, .int .u8 118] rfl rfl
  have H15 := Lib.hid h15
  clear h15 H14
  obtain ⟨w16, r15, h16⟩ := H15.out.step 15 (by decide) [78, 102, 117] 3 #[.int .u8 78, .int .u8 102, .int .u8 117] rfl rfl
  have H16 := Lib.hid h16
  clear h16 H15
  obtain ⟨w17, r16, h17⟩ := H16.out.step 16 (by decide) [118] 1 #[.int .u8 118] rfl rfl
  have H17 := Lib.hid h17
  clear h17 H16
  obtain ⟨w18, r17, h18⟩ := H17.out.step 17 (by decide) [72] 1 #[.int .u8 72] rfl rfl
  have H18 := Lib.hid h18
  clear h18 H17
  obtain ⟨w19, r18, h19⟩ := H18.out.step 18 (by decide) [] 0 #[] rfl rfl
  have H19 := Lib.hid h19
  clear h19 H18
  go_enter Try.func82, Try.ntmps82
  go_wp2_with fail
  go_ret
  exact ⟨_, rfl, H19.out⟩
end Go.Proofs.Yteahlnoonmfjhaa
