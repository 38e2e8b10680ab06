/- Results: a reader of fields reads entries. -/
import Derived.Test.YteahlnoonmfjhaaRsH
set_option linter.unusedVariables false
set_option maxRecDepth 100000
namespace Go.Proofs.Yteahlnoonmfjhaa
open Go.RowKit

def EC (u : Value) : Prop := NoB u ∧ One u
theorem ec_str (s : ByteArray) : EC (.string s) := ⟨nb_str s, rfl⟩
theorem ec_i64 (n : Int) : EC (.int .i64 n) := ⟨nb_i64 n, rfl⟩
theorem enC_ec (x : EnT) : ∀ u ∈ enC x, EC u := by
  intro u hu
  simp only [enC, List.mem_cons, List.not_mem_nil, or_false] at hu
  rcases hu with rfl | rfl | rfl
  · exact ec_str _
  · exact ec_i64 _
  · exact ec_i64 _
theorem app_en {w : World} {B n : Nat} {v x : Value} {cs : List Value} {m : Nat} {new : List Value} {tx ty : TypeId} (ho : OwnR w B 66 3 EC v n cs) (hs : Src Try.prog 3 tx x m new w) (hB : B ≤ w.heap.size) (hn : ∀ u ∈ new, EC u) (hc : n + m ≤ 1000000) :
    ∃ v' w', (Builtin.append_ #[39, tx] ty #[v, x]).run Try.prog w = .ok v' w' ∧ OwnR w' B 66 3 EC v' (n + m) (cs ++ new) ∧ Below B w w' ∧ w.grownBy w' v.ownBlock ∧ (∀ b, v'.ownBlock = some b → v.ownBlock = some b ∨ w.heap.size ≤ b) := by
  have h : (Try.prog.info? 66).map (fun i => (i.zero, i.size, i.bytes)) = some (some (.agg #[.string ⟨#[]⟩, .int .i64 0, .int .i64 0]), 3, 32) := by kernel_rfl
  obtain ⟨i, hi, hz0, hz1, hz2⟩ := info_prt h
  exact appG2 (ty := ty) Try.underlying39 hi hz1 hz0 rfl ho hs hB (by omega) hn (by intro u hu; simp [Value.cells] at hu; rcases hu with rfl | rfl <;> first | exact ec_str _ | exact ec_i64 _) (by rw [hz2]; omega) (by omega)
/-- The entries read, k of them, and the state then. -/
def rdEn : Nat → St → List EnT × St
  | 0, s => ([], s)
  | k + 1, s => ((rdEn k s).1 ++ [⟨(rdT (rdEn k s).2 255).1, wrap64 (rdL (rdT (rdEn k s).2 255).2).1, wrap64 (rdL (rdL (rdT (rdEn k s).2 255).2).2).1⟩], (rdL (rdL (rdT (rdEn k s).2 255).2).2).2)
def rdE (s : St) : List EnT × St := rdEn (rdC s 64).1.toNat (rdC s 64).2
theorem rdEn_length (s : St) : ∀ k, (rdEn k s).1.length = k
  | 0 => rfl
  | k + 1 => by simp [rdEn, rdEn_length s k]
theorem rdEn_len (s : St) : ∀ k, (rdEn k s).2.l.length ≤ s.l.length
  | 0 => Nat.le_refl _
  | k + 1 => Nat.le_trans (rdL_len _) (Nat.le_trans (rdL_len _) (Nat.le_trans (rdT_len _ _) (rdEn_len s k)))
section
variable {W0 w w' : World} {gr gf ga b2 b3 : Nat} {Ta Tp : TypeId} {st : St} {bad : Bool} {row : Array Value}
theorem RdS.grown (h : RdS W0 w gr gf ga b2 b3 Ta Tp st bad row) {g : Option Nat} (k : w.grownBy w' g) (hb : ∀ b, g = some b → gr < b ∧ gf < b ∧ ga < b ∧ b2 < b ∧ b3 < b ∧ W0.heap.size ≤ b) (hn : ∀ b o u, g = some b → w.cell? ⟨b, o, none⟩ = some u → NoB u) : RdS W0 w' gr gf ga b2 b3 Ta Tp st bad row := by
  have key : ∀ (b : Nat) (o : Obj), w.heap[b]? = some o → (∀ i, g = some i → b < i) → w'.heap[b]? = some o := fun b o hb hn => (k.block b (heap_lt hb) (by intro e; have := hn b e.symm; omega)).trans hb
  obtain ⟨A, c, h1, h2⟩ := h.rd
  exact { rd := ⟨A, c, key _ _ h1 (fun i e => (hb i e).1), h2.grown k hn⟩, hf := key _ _ h.hf (fun i e => (hb i e).2.1), ha := key _ _ h.ha (fun i e => (hb i e).2.2.1), h2 := key _ _ h.h2 (fun i e => (hb i e).2.2.2.1), h3 := key _ _ h.h3 (fun i e => (hb i e).2.2.2.2.1), ne := h.ne, mu := h.mu.thenM (Mut.of_grown (S := fun i => g = some i) k fun b e => e) (fun i hi => (hb i hi).2.2.2.2.2) }
end
section
variable {W0 : World} {gr gf ga b2 b3 : Nat} {Ta Tp : TypeId} {st : St} {bad : Bool} {row : Array Value}
/-- What fields.entries comes to. -/
def EntsP (W0 w : World) (gr gf ga b2 b3 : Nat) (Ta Tp : TypeId) (st : St) (bad : Bool) (row : Array Value) (e : Ending) (w' : World) : Prop :=
  ∃ rv, e = .returned rv ∧ OwnR w' w.heap.size 66 3 EC rv (rdE st).1.length ((rdE st).1.flatMap enC) ∧ RdS W0 w' gr gf ga b2 b3 Ta Tp (rdE st).2 bad row
set_option maxHeartbeats 4000000 in
theorem fEntries_any (w : World) (h : RdS W0 w gr gf ga b2 b3 Ta Tp st bad row) (hl : st.l.length ≤ 100000) :
    Calls Try.prog 139 #[.pointer (some ⟨gf, 0, none⟩)] w (EntsP W0 w gr gf ga b2 b3 Ta Tp st bad row) := by
  have hb := rdC_bd st 64
  have hcl := rdC_len st 64
  have KC := count_any gr st 64 w h.rd
  have h64 : (rdC st 64).1 ≤ 64 := by
    unfold rdC
    split
    · show (0 : Int) ≤ 64; omega
    · omega
  obtain ⟨nn, hnn⟩ : ∃ nn : Nat, (rdC st 64).1 = nn := ⟨(rdC st 64).1.toNat, by omega⟩
  obtain ⟨s1, hs1⟩ : ∃ s1, (rdC st 64).2 = s1 := ⟨_, rfl⟩
  have hn64 : nn ≤ 64 := by omega
  have HE : Hid (rdE st = rdEn nn s1) := Lib.hid (by unfold rdE; rw [hnn, hs1]; rfl)
  rw [hnn, hs1] at KC
  rw [hs1] at hcl
  have HK := Lib.hid KC
  have H := Lib.hid h
  have HL : Hid (s1.l.length ≤ 100000) := Lib.hid (by omega)
  have HB : Hid (gr < w.heap.size ∧ gf < w.heap.size ∧ ga < w.heap.size ∧ b2 < w.heap.size ∧ b3 < w.heap.size ∧ W0.heap.size ≤ w.heap.size) := Lib.hid ⟨h.rd.lt, heap_lt h.hf, heap_lt h.ha, heap_lt h.h2, heap_lt h.h3, h.mu.size⟩
  obtain ⟨c0, -, f0, -, gl⟩ := blk2 h.hf
  clear h hb hcl KC h64 hnn hs1 hl
  go_enter Try.func139, Try.ntmps139
  go_wp2_with fail
  refine HK.out.mono ?_
  rintro e w1 ⟨rfl, r1, k1⟩
  have H1 := Lib.hid (H.out.read r1 k1)
  have HSZ := Lib.hid k1.size
  clear r1 k1 H HK c0 f0 gl
  go_wp2_with fail
  go_loopw [3, 10] (fun lv iv wr => ∃ k : Nat, k ≤ nn ∧ iv = .int .i64 k ∧ Hid (RdS W0 wr gr gf ga b2 b3 Ta Tp (rdEn k s1).2 bad row) ∧ Hid (OwnR wr w.heap.size 66 3 EC lv k ((rdEn k s1).1.flatMap enC)) ∧ Hid (w.heap.size ≤ wr.heap.size)) (fun _ iv _ => nn - (intOf iv).toNat)
  case atStart => exact ⟨0, Nat.zero_le _, rfl, H1, Lib.hid OwnR.nil, HSZ⟩
  case round =>
    obtain ⟨k, hk, rfl, HR, HO, HZ⟩ := hrel
    clear H1 HSZ
    obtain ⟨lv, rfl⟩ : ∃ x, x = u3 := ⟨_, rfl⟩
    by_cases hkn : k < nn
    · have hlen := rdEn_len s1 k
      have HD : Hid (rdEn (k + 1) s1 = ((rdEn k s1).1 ++ [⟨(rdT (rdEn k s1).2 255).1, wrap64 (rdL (rdT (rdEn k s1).2 255).2).1, wrap64 (rdL (rdL (rdT (rdEn k s1).2 255).2).2).1⟩], (rdL (rdL (rdT (rdEn k s1).2 255).2).2).2)) := Lib.hid rfl
      obtain ⟨E, hE⟩ : ∃ E, (rdEn k s1).1 = E := ⟨_, rfl⟩
      obtain ⟨s2, hs2⟩ : ∃ s2, (rdEn k s1).2 = s2 := ⟨_, rfl⟩
      rw [hs2] at HR hlen HD
      rw [hE] at HO HD
      have KT := text_any gr s2 255 wr HR.out.rd (by have := HL.out; omega)
      obtain ⟨t, ht⟩ : ∃ t, (rdT s2 255).1 = t := ⟨_, rfl⟩
      obtain ⟨s3, hs3⟩ : ∃ s3, (rdT s2 255).2 = s3 := ⟨_, rfl⟩
      rw [ht, hs3] at KT
      rw [ht, hs3] at HD
      have HKT := Lib.hid KT
      obtain ⟨N1, hN1⟩ : ∃ N, wrap64 (rdL s3).1 = N := ⟨_, rfl⟩
      obtain ⟨s4, hs4⟩ : ∃ s, (rdL s3).2 = s := ⟨_, rfl⟩
      obtain ⟨N2, hN2⟩ : ∃ N, wrap64 (rdL s4).1 = N := ⟨_, rfl⟩
      obtain ⟨s5, hs5⟩ : ∃ s, (rdL s4).2 = s := ⟨_, rfl⟩
      have KI : Hid (∀ w : World, Rd 192 w gr s3 → Calls Try.prog 126 #[.pointer (some ⟨gr, 0, none⟩)] w fun e w' => e = .returned (.int .i64 N1) ∧ Rd 192 w' gr s4 ∧ But gr w w') := Lib.hid (fun w h => by rw [← hN1, ← hs4]; exact int_any gr s3 w h)
      have KJ : Hid (∀ w : World, Rd 192 w gr s4 → Calls Try.prog 126 #[.pointer (some ⟨gr, 0, none⟩)] w fun e w' => e = .returned (.int .i64 N2) ∧ Rd 192 w' gr s5 ∧ But gr w w') := Lib.hid (fun w h => by rw [← hN2, ← hs5]; exact int_any gr s4 w h)
      rw [hs4, hN1, hs5, hN2] at HD
      obtain ⟨c0, -, f0, -, gl⟩ := blk2 HR.out.hf
      clear KT hlen hE hs2 ht hs3 hN1 hs4 hN2 hs5
      go_wp2_with fail
      refine HKT.out.mono ?_
      rintro e w2 ⟨rfl, r2, k2⟩
      have H2 := HR.out.read r2 k2
      have O2 := HO.out.grown k2 HB.out.1
      have hx := extAl w2 (.cells #[.string (str t), .int .i64 0, .int .i64 0] 66)
      have H3 := Lib.hid (H2.ext hx)
      have O3 := Lib.hid (O2.ext hx)
      have G3 := Lib.hid (heap_alloc_last w2 (.cells #[.string (str t), .int .i64 0, .int .i64 0] 66))
      have FO : Hid (∀ b, lv.ownBlock = some b → w.heap.size ≤ b ∧ b < w2.heap.size) := Lib.hid fun b hb => own_lt O2 hb
      have hZ2 : Hid (w.heap.size ≤ w2.heap.size) := Lib.hid (Nat.le_trans HZ.out k2.size)
      clear H2 O2 hx r2 k2 HKT HR HO HZ c0 f0 gl
      go_upto_region 5 with fail
      generalize w2.alloc (.cells #[.string (str t), .int .i64 0, .int .i64 0] 66) = w3 at *
      generalize w2.heap.size = g4 at *
      obtain ⟨c0, -, f0, -, gl⟩ := blk2 H3.out.hf
      go_wp2_with fail
      refine (KI.out _ H3.out.rd).mono ?_
      rintro e w4 ⟨rfl, r4, k4⟩
      have H4 := H3.out.read r4 k4
      have O4 := O3.out.grown k4 HB.out.1
      have hne4 : g4 ≠ gr ∧ g4 ≠ gf ∧ g4 ≠ ga ∧ g4 ≠ b2 ∧ g4 ≠ b3 := by have := HB.out; have := hZ2.out; omega
      have HN4 := Lib.hid hne4
      have hW4 : Hid (W0.heap.size ≤ g4) := Lib.hid (by have := HB.out; have := hZ2.out; omega)
      have G4 := (k4.block g4 (heap_lt G3.out) (by have := hne4.1; simp; omega)).trans G3.out
      have g4l := heap_lt G4
      have f4 : ∀ o, w4.frozen? ⟨g4, o, none⟩ = false := fun o => by simp [World.frozen?, G4]
      have c4 : w4.cell? ⟨g4, 1, none⟩ = some (.int .i64 0) := by rw [cell_of_row _ _ _ _ _ _ G4]; rfl
      have ST := Lib.hid (setCell_eq_setRow w4 g4 1 _ 66 (0, 0) (.int .i64 N1) G4)
      have H5 := Lib.hid (H4.aside (r' := #[.string (str t), .int .i64 N1, .int .i64 0]) G4 hW4.out hne4 (set_nb (row := #[.string (str t), .int .i64 0, .int .i64 0]) (o := 1) (x := .int .i64 N1) (u := .int .i64 0) rfl (nb_i64 _)))
      have O5 := Lib.hid (O4.mutO (mut_setRow (S := fun i => i = g4) rfl #[.string (str t), .int .i64 N1, .int .i64 0]) (fun b hb hs => by have := FO.out b hb; omega))
      have G5 := Lib.hid (setRow_heap w4 g4 _ #[.string (str t), .int .i64 N1, .int .i64 0] _ _ G4)
      clear H4 O4 G4 H3 O3 G3 r4 k4 KI hne4 c0 f0 gl
      go_upto_region 6 with fail
      rw [ST.out]
      clear ST f4 c4 g4l
      simp only [List.setIfInBounds_toArray, List.set_cons_zero, List.set_cons_succ]
      generalize w4.setRow g4 #[.string (str t), .int .i64 N1, .int .i64 0] = w5 at *
      obtain ⟨c0, -, f0, -, gl⟩ := blk2 H5.out.hf
      go_wp2_with fail
      refine (KJ.out _ H5.out.rd).mono ?_
      rintro e w6 ⟨rfl, r6, k6⟩
      have H6 := H5.out.read r6 k6
      have O6 := O5.out.grown k6 HB.out.1
      have G6 := (k6.block g4 (heap_lt G5.out) (by have := HN4.out.1; simp; omega)).trans G5.out
      have g4l := heap_lt G6
      have f4 : ∀ o, w6.frozen? ⟨g4, o, none⟩ = false := fun o => by simp [World.frozen?, G6]
      have c4 : w6.cell? ⟨g4, 2, none⟩ = some (.int .i64 0) := by rw [cell_of_row _ _ _ _ _ _ G6]; rfl
      have ST := Lib.hid (setCell_eq_setRow w6 g4 2 _ 66 (0, 0) (.int .i64 N2) G6)
      have H7 := Lib.hid (H6.aside (r' := #[.string (str t), .int .i64 N1, .int .i64 N2]) G6 hW4.out HN4.out (set_nb (row := #[.string (str t), .int .i64 N1, .int .i64 0]) (o := 2) (x := .int .i64 N2) (u := .int .i64 0) rfl (nb_i64 _)))
      have O7 := Lib.hid (O6.mutO (mut_setRow (S := fun i => i = g4) rfl #[.string (str t), .int .i64 N1, .int .i64 N2]) (fun b hb hs => by have := FO.out b hb; omega))
      have G7 := Lib.hid (setRow_heap w6 g4 _ #[.string (str t), .int .i64 N1, .int .i64 N2] _ _ G6)
      have S7 : Hid (w.heap.size ≤ (w6.setRow g4 #[.string (str t), .int .i64 N1, .int .i64 N2]).heap.size) := Lib.hid (by have h1 := heap_lt G7.out; have h2 := hZ2.out; omega)
      clear H6 O6 G6 H5 O5 G5 r6 k6 KJ c0 f0 gl
      go_upto_region 7 with fail
      rw [ST.out]
      clear ST f4 c4 g4l
      simp only [List.setIfInBounds_toArray, List.set_cons_zero, List.set_cons_succ]
      generalize w6.setRow g4 #[.string (str t), .int .i64 N1, .int .i64 N2] = w7 at *
      have g7l := heap_lt G7.out
      have d0 : w7.cell? ⟨g4, 0, none⟩ = some (.string (str t)) := by rw [cell_of_row _ _ _ _ _ _ G7.out]; rfl
      have d1 : w7.cell? ⟨g4, 1, none⟩ = some (.int .i64 N1) := by rw [cell_of_row _ _ _ _ _ _ G7.out]; rfl
      have d2 : w7.cell? ⟨g4, 2, none⟩ = some (.int .i64 N2) := by rw [cell_of_row _ _ _ _ _ _ G7.out]; rfl
      have hx := extAl w7 (.cells #[.string (str t), .int .i64 N1, .int .i64 N2] 66)
      have hsrc := src_row (P := Try.prog) (tx := 39) (sz := 3) (n := 1) (c := 1) (cs := enC ⟨t, N1, N2⟩) Try.underlying39 (heap_alloc_last w7 (.cells #[.string (str t), .int .i64 N1, .int .i64 N2] 66)) rfl (fun u hu => (enC_ec _ u hu).2)
      obtain ⟨v', w9, hr, ho9, hb9, hg9, -⟩ := app_en (ty := 39) (O7.out.ext hx) hsrc (by have := S7.out; simp; omega) (enC_ec _) (by omega)
      have H8 := H7.out.ext hx
      have H9 := Lib.hid (H8.grown hg9 (fun b hb => by have h1 := FO.out b hb; have h2 := HB.out; omega) (fun b o u hb hu => ((O7.out.ext hx).nob b o u hb hu).1))
      have O9 : Hid (OwnR w9 w.heap.size 66 3 EC v' (k + 1) ((rdEn (k + 1) s1).1.flatMap enC)) := Lib.hid (by rw [HD.out]; simpa using ho9)
      have H9' : Hid (RdS W0 w9 gr gf ga b2 b3 Ta Tp (rdEn (k + 1) s1).2 bad row) := Lib.hid (by rw [HD.out]; exact H9.out)
      have S9 : Hid (w.heap.size ≤ w9.heap.size) := Lib.hid (Nat.le_trans (Nat.le_trans S7.out hx.size) hg9.size)
      have Hr := Lib.hid hr
      clear hr ho9 hb9 hg9 H8 H9 hsrc hx H7 O7 G7 S7 HD hZ2 HN4 hW4 FO
      go_wp2_with (at_builtin; refine wpList_app rfl (.tmp 30) (.tmp 32) 39 39 rfl Hr.out ?_; simp only [Act.put]; clear Hr)
      go_roundw
      case rel => exact ⟨k + 1, by omega, by go_num, H9', O9, S9⟩
      case measure => simp only [intOf]; omega
    · obtain rfl : k = nn := by omega
      have HEE : Hid (EntsP W0 w gr gf ga b2 b3 Ta Tp st bad row (.returned lv) wr) := Lib.hid (by
        refine ⟨lv, rfl, ?_, ?_⟩
        · rw [HE.out, rdEn_length]; exact HO.out
        · rw [HE.out]; exact HR.out)
      clear HE HO HR HZ
      go_wp2_with fail
      go_ret
      exact HEE.out
end
end Go.Proofs.Yteahlnoonmfjhaa
