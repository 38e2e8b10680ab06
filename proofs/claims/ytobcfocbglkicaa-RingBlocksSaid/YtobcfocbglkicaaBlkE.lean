/- Walks of package block: Open, Sum. -/
import Derived.Test.YtobcfocbglkicaaBlkD
set_option linter.unusedVariables false
set_option maxRecDepth 100000
namespace Go.Proofs.Ytobcfocbglkicaa
open Go.RowKit
attribute [local go_sem ↓] neq_blk eql_blk

theorem wp_ld {P : Program} {w : World} {o : Oper} {a : Act} {K : Act → World → Prop} {Q : Exit → Act → World → Prop} (ty : TypeId) (x : Operand) (ho : o.op = .load ty x) {v : Value} (hr : (Instr.loadAt ty (a.eval x)).run P w = .ok v w) (h : K (a.put o.dst v) w) : o.wp P a w K Q := by
  unfold Oper.wp execOp
  simp only [ho, Sem.run_bind, hr, Result.andThen_ok, Sem.run_pure]
  exact h
/-- A part of a block as a number. -/
def nAt (l : List UInt8) (o n : Nat) : Int := nB ((l.drop o).take n)
theorem nAt_bd2 (l : List UInt8) (o : Nat) : 0 ≤ nAt l o 2 ∧ nAt l o 2 < 65536 := by
  have h := nB_bd ((l.drop o).take 2)
  have hl : ((l.drop o).take 2).length ≤ 2 := by simp; omega
  unfold nAt
  match hk : ((l.drop o).take 2).length, hl with
  | 0, _ => rw [hk] at h; omega
  | 1, _ => rw [hk] at h; omega
  | 2, _ => rw [hk] at h; omega
theorem nAt_bd4 (l : List UInt8) (o : Nat) : 0 ≤ nAt l o 4 ∧ nAt l o 4 < 4294967296 := by
  have h := nB_bd ((l.drop o).take 4)
  have hl : ((l.drop o).take 4).length ≤ 4 := by simp; omega
  unfold nAt
  match hk : ((l.drop o).take 4).length, hl with
  | 0, _ => rw [hk] at h; omega
  | 1, _ => rw [hk] at h; omega
  | 2, _ => rw [hk] at h; omega
  | 3, _ => rw [hk] at h; omega
  | 4, _ => rw [hk] at h; omega

/-- Of what a block is sealed. -/
structure OpT where
  k : UInt8
  b : Int
  s : List UInt8
  e : Int
def openR (l : List UInt8) : OpT :=
  if nAt l 6 2 ≤ 500 then
    if sealR (l.getD 4 0) (nAt l 8 4) ((l.drop 12).take (nAt l 6 2).toNat) = (l, 0) then ⟨l.getD 4 0, nAt l 8 4, (l.drop 12).take (nAt l 6 2).toNat, 0⟩ else ⟨0, 0, [], 4⟩
  else ⟨0, 0, [], 4⟩
def OpT.v (r : OpT) : Value := .tuple #[.int .u8 r.k.toNat, .int .i64 r.b, .string (str r.s), .int .i64 r.e]

theorem get_at {w : World} {g : Nat} {T : TypeId} {fr : Nat × Nat} {l : List UInt8} (off len cap : Nat) (hg : w.heap[g]? = some (.cells (bvs l).toArray T fr)) (hl : off + len ≤ l.length) (h8 : len ≤ 8) (hc : len ≤ cap) :
    Calls Try.prog 84 #[.slice (some ⟨g, off, none⟩) len cap] w fun e w' => e = .returned (.int .u64 (nAt l off len)) ∧ w' = w := by
  refine get_any g off len cap _ w (by simp; omega) h8 hc fun i h => ?_
  rw [cell_of_row _ _ _ _ _ _ hg]
  have hi : i < len ∧ off + i < l.length := by simp at h; omega
  simp [bvs, bv, List.getElem?_eq_getElem hi.2]

set_option maxHeartbeats 8000000 in
set_option maxRecDepth 100000 in
theorem open_any (l : List UInt8) (hl : l.length = 512) (w : World) :
    Calls Try.prog 61 #[.agg (bvs l).toArray] w fun e w' => e = .returned (openR l).v ∧ Below w.heap.size w w' := by
  have n2 := nAt_bd2 l 6
  have n4 := nAt_bd4 l 8
  have fin : ∀ r, openR l = r → (openR l).v = .tuple #[.int .u8 r.k.toNat, .int .i64 r.b, .string (str r.s), .int .i64 r.e] := fun r h => by rw [h]; rfl
  have FIN := Lib.hid fin
  clear fin
  have hB : Below w.heap.size w (w.alloc (.cells (bvs l).toArray 25)) := by (repeat' (first | (with_reducible assumption) | (with_reducible exact Below.refl _ _) | (with_reducible refine below_sc ?_ ?_) | ((with_reducible show (_ : Nat) ≤ _); omega) | refine Below.setCell ?_ (by first | omega | (simp; done) | (simp; omega)) _ | refine Below.alloc ?_ (by first | omega | (simp; done) | (simp; omega)) _ | refine Below.drew ?_ | refine below_drewN ?_ _ | refine Below.trans ?_ (Below.mono (by assumption) (by first | omega | (simp; done) | (simp; omega)))))
  have h1 := Lib.hid (heap_alloc_last w (.cells (bvs l).toArray 25))
  have hz : (w.alloc (.cells (bvs l).toArray 25)).heap.size = w.heap.size + 1 := by simp
  by_cases h5 : nAt l 6 2 ≤ 500
  case neg =>
    have e := Lib.hid (FIN.out ⟨0, 0, [], 4⟩ (by unfold openR; rw [if_neg h5]))
    go_enter Try.func61, Try.ntmps61
    go_wp2_with fail
    refine (get_at 6 2 506 h1.out (by omega) (by omega) (by omega)).mono ?_
    rintro e w' ⟨rfl, rfl⟩
    go_wp2_with fail
    exact bodyPost_ret (v := .tuple #[.int .u8 0, .int .i64 0, .string ⟨#[]⟩, .int .i64 4]) (by simp only [results, Try.results61]; go_simp) rfl ⟨by rw [e.out]; rfl, hB⟩
  have h4 : ∃ c, l.getD 4 0 = c ∧ l[4]? = some c := ⟨l[4]'(by omega), by simp [List.getD, List.getElem?_eq_getElem (show 4 < l.length by omega)], List.getElem?_eq_getElem _⟩
  obtain ⟨c, hc0, hc1⟩ := h4
  obtain ⟨n, hn⟩ : ∃ n : Nat, nAt l 6 2 = n := ⟨(nAt l 6 2).toNat, by omega⟩
  have hn5 : n ≤ 500 := by omega
  obtain ⟨s, hs⟩ : ∃ s, s = (l.drop 12).take n := ⟨_, rfl⟩
  have ls : s.length = n := by rw [hs]; simp; omega
  obtain ⟨R, hR⟩ : ∃ R, R = sealR c (nAt l 8 4) s := ⟨_, rfl⟩
  have lR : R.1.length = 512 := by rw [hR]; exact sealR_length
  have fin1 : R = (l, 0) → openR l = ⟨c, nAt l 8 4, s, 0⟩ := fun h => by
    unfold openR; rw [if_pos h5, hn, Int.toNat_natCast, hc0, ← hs, ← hR, if_pos h]
  have fin2 : R ≠ (l, 0) → openR l = ⟨0, 0, [], 4⟩ := fun h => by
    unfold openR; rw [if_pos h5, hn, Int.toNat_natCast, hc0, ← hs, ← hR, if_neg h]
  have F1 := Lib.hid fin1
  have F2 := Lib.hid fin2
  have ks := fun w => seal_any c (nAt l 8 4) s w (by unfold maxLen; omega)
  rw [← hR] at ks
  have KS := Lib.hid ks
  have hn' := Lib.hid hn
  have HS := Lib.hid hs
  clear fin1 fin2 ks hn hs hR
  have cell4 : (w.alloc (.cells (bvs l).toArray 25)).cell? ⟨w.heap.size, 4, none⟩ = some (.int .u8 (c.toNat : Int)) := by
    rw [cell_of_row _ _ _ _ _ _ h1.out]; simp [bvs, hc1, bv]
  have cv : (convert 38 9 (.slice (some ⟨w.heap.size, 12, none⟩) n 500)).run Try.prog (w.alloc (.cells (bvs l).toArray 25)) = .ok (.string (str s)) (w.alloc (.cells (bvs l).toArray 25)) := by
    rw [HS.out]
    exact conv_rowAt Try.underlying38 Try.underlying5 Try.underlying9 h1.out (by omega)
  obtain ⟨S, E⟩ := R
  simp only at lR
  have ks : ∀ w, Calls Try.prog 49 #[.int .u8 c.toNat, .int .i64 (nAt l 8 4), .string (str s)] w fun e w' => e = .returned (.tuple #[.agg (bvs S).toArray, .int .i64 E]) ∧ Below w.heap.size w w' := KS.out
  have KS := Lib.hid ks
  clear ks
  go_enter Try.func61, Try.ntmps61
  go_wp2_with fail
  refine (get_at 6 2 506 h1.out (by omega) (by omega) (by omega)).mono ?_
  rintro e w' ⟨rfl, rfl⟩
  rw [hn'.out]
  clear n2 hc0 hc1 h5
  have hb1 : (12 : Int) ≤ 12 + (n : Int) := by omega
  have hb2 : 12 + (n : Int) ≤ 512 := by omega
  go_wp2_with fail
  refine (get_at 8 4 504 h1.out (by omega) (by omega) (by omega)).mono ?_
  rintro e w' ⟨rfl, rfl⟩
  go_wp2_with fail
  refine (KS.out _).mono ?_
  rintro e w1 ⟨rfl, hb1⟩; have hz1 := hb1.size; (try simp only [World.size_alloc] at hz1)
  have b1 := (hb1.block w.heap.size (by simp)).trans h1.out
  have X1 : Below w.heap.size w w1 := hB.trans (hb1.mono (by simp))
  have hz1' : w.heap.size < w1.heap.size := by omega
  have b7 := heap_alloc_last w1 (.cells (bvs S).toArray 25)
  have b1' := (Below.heap_alloc w1 (.cells (bvs S).toArray 25) w.heap.size hz1').trans b1
  have st := st_blk (l := S) (heap_alloc_last w1 (.cells (bvs zB).toArray 25)) zB_length lR
  rw [World.setRow_alloc_new] at st
  have St := Lib.hid st
  have ld7 := Lib.hid (ld_blk b7 lR)
  have ld1 := Lib.hid (ld_blk b1' hl)
  have hB2 : Below w.heap.size w (w1.alloc (.cells (bvs S).toArray 25)) := by (repeat' (first | (with_reducible assumption) | (with_reducible exact Below.refl _ _) | (with_reducible refine below_sc ?_ ?_) | ((with_reducible show (_ : Nat) ≤ _); omega) | refine Below.setCell ?_ (by first | omega | (simp; done) | (simp; omega)) _ | refine Below.alloc ?_ (by first | omega | (simp; done) | (simp; omega)) _ | refine Below.drew ?_ | refine below_drewN ?_ _ | refine Below.trans ?_ (Below.mono (by assumption) (by first | omega | (simp; done) | (simp; omega)))))
  clear st b7 b1 b1' hb1 cell4 cv hB hb2
  by_cases hE : E = 0
  · subst hE
    by_cases hS : S = l
    · subst hS
      have q : eqB S S = true := by simp [eqB]
      have e := Lib.hid (FIN.out _ (F1.out rfl))
      go_wp2_with (first | (refine wpList_al rfl 25 rfl alloc_blk ?_; simp only [Act.put]) | (refine wpList_st rfl 25 (.tmp 7) (.tmp 26) rfl St.out ?_; simp only [Act.put]))
      refine wp_ld 25 (.tmp 7) rfl ld7.out ?_
      go_wp2_with fail
      refine wp_ld 25 (.tmp 1) rfl ld1.out ?_
      go_wp2_with fail
      exact bodyPost_ret (v := .tuple #[.int .u8 c.toNat, .int .i64 (nAt S 8 4), .string (str s), .int .i64 0]) (by simp only [results, Try.results61]; go_simp) rfl ⟨by rw [e.out], hB2⟩
    · have q : eqB S l = false := by simp [eqB, hS]
      have e := Lib.hid (FIN.out _ (F2.out (fun h => hS (congrArg Prod.fst h))))
      go_wp2_with (first | (refine wpList_al rfl 25 rfl alloc_blk ?_; simp only [Act.put]) | (refine wpList_st rfl 25 (.tmp 7) (.tmp 26) rfl St.out ?_; simp only [Act.put]))
      refine wp_ld 25 (.tmp 7) rfl ld7.out ?_
      go_wp2_with fail
      refine wp_ld 25 (.tmp 1) rfl ld1.out ?_
      go_wp2_with fail
      exact bodyPost_ret (v := .tuple #[.int .u8 0, .int .i64 0, .string ⟨#[]⟩, .int .i64 4]) (by simp only [results, Try.results61]; go_simp) rfl ⟨by rw [e.out]; rfl, hB2⟩
  · have z1 : (E != 0) = true := bne_iff_ne.2 hE
    have z2 : (E == 0) = false := beq_eq_false_iff_ne.2 hE
    have e := Lib.hid (FIN.out _ (F2.out (fun h => hE (congrArg Prod.snd h))))
    go_wp2_with (first | (refine wpList_al rfl 25 rfl alloc_blk ?_; simp only [Act.put]) | (refine wpList_st rfl 25 (.tmp 7) (.tmp 26) rfl St.out ?_; simp only [Act.put]))
    exact bodyPost_ret (v := .tuple #[.int .u8 0, .int .i64 0, .string ⟨#[]⟩, .int .i64 4]) (by simp only [results, Try.results61]; go_simp) rfl ⟨by rw [e.out]; rfl, hB2⟩

theorem rbytes_any (l : List UInt8) (hl : l.length = 512) (w : World) :
    Calls Try.prog 88 #[.agg (bvs l).toArray] w fun e w' => e = .returned (.string (str l)) ∧ Below w.heap.size w w' := by
  have h1 := heap_alloc_last w (.cells (bvs l).toArray 25)
  have cv := conv_row (P := Try.prog) Try.underlying38 Try.underlying5 Try.underlying9 (len := 512) (cap := 512) h1 hl
  clear h1
  go_enter Try.func88, Try.ntmps88
  go_wp2_with fail
  go_ret
  exact ⟨rfl, by (repeat' (first | (with_reducible assumption) | (with_reducible exact Below.refl _ _) | (with_reducible refine below_sc ?_ ?_) | ((with_reducible show (_ : Nat) ≤ _); omega) | refine Below.setCell ?_ (by first | omega | (simp; done) | (simp; omega)) _ | refine Below.alloc ?_ (by first | omega | (simp; done) | (simp; omega)) _ | refine Below.drew ?_ | refine below_drewN ?_ _ | refine Below.trans ?_ (Below.mono (by assumption) (by first | omega | (simp; done) | (simp; omega)))))⟩
end Go.Proofs.Ytobcfocbglkicaa
