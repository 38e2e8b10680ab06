/- Walks: the handle of bytes, by the program and by the document. -/
import Derived.Test.YteahlnoonmfjhaaHandleD
set_option linter.unusedVariables false
set_option maxRecDepth 100000
namespace Go.Proofs.Yteahlnoonmfjhaa
open Go.RowKit

/-- The number of the first k of the bytes from o on. -/
def pre (l : List UInt8) (o : Nat) : Nat → Int
  | 0 => 0
  | k + 1 => pre l o k * 256 + (l[o + k]?.getD 0).toNat
def n4 (l : List UInt8) (o : Nat) : Int := pre l o 4
theorem pre_bd (l : List UInt8) (o : Nat) : ∀ k, 0 ≤ pre l o k ∧ pre l o k < 256 ^ k
  | 0 => by simp [pre]
  | k + 1 => by
    have h := pre_bd l o k
    have hb := (l[o + k]?.getD 0).toNat_lt
    simp only [pre, Int.pow_succ]
    generalize (256 : Int) ^ k = p at *
    omega

/-- The handle of bytes. -/
def dec (l : List UInt8) : Option (Int × Int × Int) :=
  if l.length = 24 ∧ hmayB (n4 l 4) (n4 l 8) (n4 l 12) = true ∧ hbytes (n4 l 4) (n4 l 8) (n4 l 12) = l then some (n4 l 4, n4 l 8, n4 l 12) else none
/-- What Decode hands back. -/
def decV (l : List UInt8) : Value := match dec l with
  | some (a, b, c) => .tuple #[hv a b c, .int .i64 0]
  | none => .tuple #[hv 0 0 0, .int .i64 4]

/-- The four numbers, the first i of them read. -/
def rds (l : List UInt8) (i : Nat) : List Value := (List.range 4).map fun k => Value.int .i64 (if k < i then n4 l (4 * k) else 0)

def rdj (l : List UInt8) (i j : Nat) : List Value := (List.range 4).map fun k => Value.int .i64 (if k < i then n4 l (4 * k) else if k = i then pre l (4 * i) j else 0)
theorem rdj_zero (l : List UInt8) (i : Nat) : rdj l i 0 = rds l i := by
  refine List.map_congr_left fun k _ => ?_
  simp [pre]
theorem rdj_four (l : List UInt8) (i : Nat) : rdj l i 4 = rds l (i + 1) := by
  refine List.map_congr_left fun k _ => ?_
  congr 1
  by_cases h : k < i
  · rw [if_pos h, if_pos (by omega)]
  · by_cases h2 : k = i
    · subst h2; simp [n4]
    · rw [if_neg h, if_neg h2, if_neg (by omega)]
theorem rdj_get (l : List UInt8) (i j : Nat) (h : i < 4) : (rdj l i j)[i]? = some (.int .i64 (pre l (4 * i) j)) := by
  unfold rdj
  rw [List.getElem?_map, List.getElem?_range h]
  simp
theorem rdj_set (l : List UInt8) (i j : Nat) (h : i < 4) : (rdj l i j).set i (.int .i64 (pre l (4 * i) (j + 1))) = rdj l i (j + 1) := by
  apply List.ext_getElem?
  intro k
  rw [List.getElem?_set]
  unfold rdj
  by_cases hk : k < 4
  · simp only [List.getElem?_map, List.getElem?_range hk, List.length_map, List.length_range]
    by_cases hik : i = k
    · subst hik; simp [h]
    · have : ¬ k = i := fun e => hik e.symm
      simp [hik, this]
  · have hn : (List.range 4)[k]? = none := by simp; omega
    simp only [List.getElem?_map, hn, Option.map_none]
    rw [if_neg (by omega)]

theorem decode_short (l : List UInt8) (hl : l.length ≠ 24) (h63 : l.length ≤ 9223372036854775807) (w : World) :
    Calls Try.prog 149 #[.string (str l)] w fun e w' => e = .returned (decV l) ∧ Below w.heap.size w w' := by
  have hd : decV l = .tuple #[hv 0 0 0, .int .i64 4] := by unfold decV dec; rw [if_neg (fun h => hl h.1)]
  rw [hd]
  have hs : (str l).size = l.length := str_size l
  have hn : (((str l).size : Int) != 24) = true := by rw [hs, bne_iff_ne]; omega
  have hn2 : (((l.length : Nat) : Int) != 24) = true := by rw [bne_iff_ne]; omega
  unfold hv
  go_enter Try.func149, Try.ntmps149
  go_wp2
  exact bodyPost_ret (v := .tuple #[hv 0 0 0, .int .i64 4]) (by simp [results, Try.results149, go_sem]; rfl) rfl ⟨rfl, by (repeat' (first | (with_reducible assumption) | (with_reducible exact Below.refl _ _) | (with_reducible refine below_sc ?_ ?_) | ((with_reducible show (_ : Nat) ≤ _); omega) | refine Below.setCell ?_ (by first | omega | (simp; done) | (simp; omega)) _ | refine Below.alloc ?_ (by first | omega | (simp; done) | (simp; omega)) _ | refine Below.drew ?_ | refine below_drewN ?_ _ | refine Below.trans ?_ (Below.mono (by assumption) (by first | omega | (simp; done) | (simp; omega)))))⟩

theorem decode_long (l : List UInt8) (hl : l.length = 24) (w : World) :
    Calls Try.prog 149 #[.string (str l)] w fun e w' => e = .returned (decV l) ∧ Below w.heap.size w w' := by
  have hs : (str l).size = 24 := by rw [str_size, hl]
  obtain ⟨R, hR⟩ : ∃ R, R = decV l := ⟨_, rfl⟩
  rw [← hR]
  have HR := Lib.hid hR
  clear hR
  go_enter Try.func149, Try.ntmps149
  go_wp2
  have hB0 : Below w.heap.size w (w.alloc (.cells #[.int .i64 0, .int .i64 0, .int .i64 0] 32)) := by (repeat' (first | (with_reducible assumption) | (with_reducible exact Below.refl _ _) | (with_reducible refine below_sc ?_ ?_) | ((with_reducible show (_ : Nat) ≤ _); omega) | refine Below.setCell ?_ (by first | omega | (simp; done) | (simp; omega)) _ | refine Below.alloc ?_ (by first | omega | (simp; done) | (simp; omega)) _ | refine Below.drew ?_ | refine below_drewN ?_ _ | refine Below.trans ?_ (Below.mono (by assumption) (by first | omega | (simp; done) | (simp; omega)))))
  have hz0 : (w.alloc (.cells #[.int .i64 0, .int .i64 0, .int .i64 0] 32)).heap.size = w.heap.size + 1 := by simp
  have hr0 : (w.alloc (.cells #[.int .i64 0, .int .i64 0, .int .i64 0] 32)).heap[w.heap.size]? = some (.cells #[.int .i64 0, .int .i64 0, .int .i64 0] 32 (0, 0)) := heap_alloc_last _ _
  generalize w.alloc (.cells #[.int .i64 0, .int .i64 0, .int .i64 0] 32) = W at *
  go_loopw [13] (fun c wr => ∃ i : Nat, i ≤ 4 ∧ c = .int .i64 i ∧ wr.heap[w.heap.size + 1]? = some (.cells (rds l i).toArray 214 (0, 0)) ∧ Below (w.heap.size + 1) W wr) (fun c _ => 4 - (intOf c).toNat)
  case atStart => exact ⟨0, Nat.zero_le _, rfl, by rw [← hz0]; exact heap_alloc_last _ _, by (repeat' (first | (with_reducible assumption) | (with_reducible exact Below.refl _ _) | (with_reducible refine below_sc ?_ ?_) | ((with_reducible show (_ : Nat) ≤ _); omega) | refine Below.setCell ?_ (by first | omega | (simp; done) | (simp; omega)) _ | refine Below.alloc ?_ (by first | omega | (simp; done) | (simp; omega)) _ | refine Below.drew ?_ | refine below_drewN ?_ _ | refine Below.trans ?_ (Below.mono (by assumption) (by first | omega | (simp; done) | (simp; omega)))))⟩
  case round =>
    obtain ⟨i, hi, rfl, hh, hB⟩ := hrel
    have Hh := Lib.hid hh
    clear hh
    by_cases hlt : i < 4
    · have hlt' : (i : Int) < 4 := by omega
      go_wp2
      obtain ⟨wo, rfl⟩ : ∃ wo : World, wo = wr := ⟨_, rfl⟩
      go_loopw [16] (fun c wr => ∃ j : Nat, j ≤ 4 ∧ c = .int .i64 j ∧ wr.heap[w.heap.size + 1]? = some (.cells (rdj l i j).toArray 214 (0, 0)) ∧ Below (w.heap.size + 1) W wr) (fun c _ => 4 - (intOf c).toNat)
      case atStart => exact ⟨0, Nat.zero_le _, rfl, by rw [rdj_zero]; exact Hh.out, hB⟩
      case round =>
        obtain ⟨j, hj, rfl, hh2, hB2⟩ := hrel
        by_cases hlt2 : j < 4
        · have hlt2' : (j : Int) < 4 := by omega
          have hx := pre_bd l (4 * i) j
          have hx2 : pre l (4 * i) j < 16777216 := by
            have : j = 0 ∨ j = 1 ∨ j = 2 ∨ j = 3 := by omega
            rcases this with rfl | rfl | rfl | rfl <;> omega
          have hcell : wr.cell? ⟨w.heap.size + 1, i, none⟩ = some (.int .i64 (pre l (4 * i) j)) := by rw [cell_of_row _ _ _ _ _ _ hh2]; simpa using rdj_get l i j hlt
          have hfro : wr.frozen? ⟨w.heap.size + 1, i, none⟩ = false := by simp [World.frozen?, hh2]
          have hi0 : (0 : Int) ≤ (i : Int) * 4 + j := by omega
          have hi1 : (i : Int) * 4 + j < 24 := by omega
          have hi2 : ((i : Int) * 4 + j).toNat = i * 4 + j := by omega
          have hks : i * 4 + j < (str l).size := by omega
          have hb := ((str l)[i * 4 + j]).toNat_lt
          have hv : bits BinOp.or IntKind.i64 (pre l (4 * i) j * 256) ((str l)[i * 4 + j]).toNat = pre l (4 * i) (j + 1) := by
            rw [or_byte _ _ hx.1 (by omega) (by omega) (by omega)]
            have e : (str l)[i * 4 + j] = l[4 * i + j]'(by omega) := by rw [str_get]; congr 1; omega
            rw [e, pre, List.getElem?_eq_getElem (by omega)]
            rfl
          have Hv := Lib.hid hv
          have Hh2 := Lib.hid hh2
          clear hv hh2
          go_wp2
          go_region
          go_wp2
          go_roundw
          case rel =>
            refine ⟨j + 1, by omega, by go_num, ?_, by (repeat' (first | (with_reducible assumption) | (with_reducible exact Below.refl _ _) | (with_reducible refine below_sc ?_ ?_) | ((with_reducible show (_ : Nat) ≤ _); omega) | refine Below.setCell ?_ (by first | omega | (simp; done) | (simp; omega)) _ | refine Below.alloc ?_ (by first | omega | (simp; done) | (simp; omega)) _ | refine Below.drew ?_ | refine below_drewN ?_ _ | refine Below.trans ?_ (Below.mono (by assumption) (by first | omega | (simp; done) | (simp; omega)))))⟩
            rw [Hv.out, heap_drew, heap_setCell_same _ _ _ _ _ _ Hh2.out, ← rdj_set l i j hlt]
            simp
          case measure => simp [intOf]; omega
        · obtain rfl : j = 4 := by omega
          rw [rdj_four] at hh2
          have Hh2 := Lib.hid hh2
          clear hh2
          go_wp2
          go_roundw
          case rel => exact ⟨i + 1, by omega, by go_num, Hh2.out, hB2⟩
          case measure => simp [intOf]; omega
    · obtain rfl : i = 4 := by omega
      have h4 : rds l 4 = [.int .i64 (n4 l 0), .int .i64 (n4 l 4), .int .i64 (n4 l 8), .int .i64 (n4 l 12)] := rfl
      have hh : wr.heap[w.heap.size + 1]? = some (.cells #[.int .i64 (n4 l 0), .int .i64 (n4 l 4), .int .i64 (n4 l 8), .int .i64 (n4 l 12)] 214 (0, 0)) := by rw [Hh.out, h4]
      have hr := (hB.block w.heap.size (by omega)).trans hr0
      have c1 : wr.cell? ⟨w.heap.size + 1, 1, none⟩ = some (.int .i64 (n4 l 4)) := by rw [cell_of_row _ _ _ _ _ _ hh]; rfl
      have c2 : wr.cell? ⟨w.heap.size + 1, 2, none⟩ = some (.int .i64 (n4 l 8)) := by rw [cell_of_row _ _ _ _ _ _ hh]; rfl
      have c3 : wr.cell? ⟨w.heap.size + 1, 3, none⟩ = some (.int .i64 (n4 l 12)) := by rw [cell_of_row _ _ _ _ _ _ hh]; rfl
      have hz : w.heap.size + 2 ≤ wr.heap.size := by
        have := (Array.getElem?_eq_some_iff.1 hh).1
        omega
      have hBw : Below w.heap.size w wr := hB0.trans (hB.mono (by omega))
      have r0 : wr.cell? ⟨w.heap.size, 0, none⟩ = some (.int .i64 0) := by rw [cell_of_row _ _ _ _ _ _ hr]; rfl
      have r1 : wr.cell? ⟨w.heap.size, 1, none⟩ = some (.int .i64 0) := by rw [cell_of_row _ _ _ _ _ _ hr]; rfl
      have r2 : wr.cell? ⟨w.heap.size, 2, none⟩ = some (.int .i64 0) := by rw [cell_of_row _ _ _ _ _ _ hr]; rfl
      have f0 : wr.frozen? ⟨w.heap.size, 0, none⟩ = false := by simp [World.frozen?, hr]
      have f1 : wr.frozen? ⟨w.heap.size, 1, none⟩ = false := by simp [World.frozen?, hr]
      have f2 : wr.frozen? ⟨w.heap.size, 2, none⟩ = false := by simp [World.frozen?, hr]
      have hs0 : w.heap.size < wr.heap.size := by omega
      have hs1 : w.heap.size < wr.heap.size + 1 := by omega
      have hs2 : ¬ w.heap.size = wr.heap.size := by omega
      clear hh hr h4 Hh hB hB0 hz0 hr0
      have hR := HR.out
      unfold decV dec at hR
      generalize n4 l 4 = A at *
      generalize n4 l 8 = B at *
      generalize n4 l 12 = C at *
      by_cases hm : hmayB A B C = true
      · have hs3 := hmayB_spec hm
        have Hm := Lib.hid hm
        have HR3 := Lib.hid hR
        clear hR hm HR
        go_wp2_with fail
        refine (hmay_any A B C _).mono ?_
        rintro e w1 ⟨rfl, hb⟩
        rw [Hm.out]
        obtain ⟨hc, hf⟩ := bcell hb
        have hz1 := hb.size
        simp only [World.size_alloc] at hz1
        have hz2 : wr.heap.size < w1.heap.size := by omega
        have hz3 : w.heap.size < w1.heap.size := by omega
        go_wp2_with fail
        refine (hwrite_any A B C (by omega) (by omega) (by omega) (by omega) (by omega) (by omega) _).mono ?_
        rintro e w2 ⟨rfl, hb2⟩
        obtain ⟨hc2, hf2⟩ := bcell hb2
        have hz4 := hb2.size
        have hz5 : wr.heap.size < w2.heap.size := by omega
        have hz6 : w.heap.size < w2.heap.size := by omega
        have q0 : w2.cell? ⟨w.heap.size, 0, none⟩ = some (.int .i64 0) := by rw [hc2 _ _ hz3, hc _ _ (by simp; omega)]; go_simp
        have q1 : w2.cell? ⟨w.heap.size, 1, none⟩ = some (.int .i64 0) := by rw [hc2 _ _ hz3, hc _ _ (by simp; omega)]; go_simp
        have q2 : w2.cell? ⟨w.heap.size, 2, none⟩ = some (.int .i64 0) := by rw [hc2 _ _ hz3, hc _ _ (by simp; omega)]; go_simp
        go_wp2_with (refine wpList_st rfl 206 (.tmp 8) (.tmp 47) rfl (storeAt_row (heap_alloc_last _ _) (by rw [info24, bvs_size, hbytes_length]) (by rw [bvs_size, hbytes_length]; rfl) (oneCells _)) ?_; rw [World.setRow_alloc_new]; simp only [Act.put])
        rw [conv_row Try.underlying47 Try.underlying5 Try.underlying9 (heap_alloc_last _ _) (hbytes_length _ _ _)]
        go_wp2
        · rename_i hne
          have hne' : ¬ hbytes A B C = l := by
            intro h
            rw [h] at hne
            simp at hne
          have hR : R = .tuple #[hv 0 0 0, .int .i64 4] := by rw [HR3.out, if_neg (fun h => hne' h.2.2)]
          refine bodyPost_ret (v := R) (by rw [hR]; simp only [results, Try.results149]; go_simp; rfl) rfl ⟨rfl, ?_⟩
          (repeat' (first | (with_reducible assumption) | (with_reducible exact Below.refl _ _) | (with_reducible refine below_sc ?_ ?_) | ((with_reducible show (_ : Nat) ≤ _); omega) | refine Below.setCell ?_ (by first | omega | (simp; done) | (simp; omega)) _ | refine Below.alloc ?_ (by first | omega | (simp; done) | (simp; omega)) _ | refine Below.drew ?_ | refine below_drewN ?_ _ | refine Below.trans ?_ (Below.mono (by assumption) (by first | omega | (simp; done) | (simp; omega)))))
        · rename_i hne
          have hne' : hbytes A B C = l := by
            simpa [strL] using hne
          have hR : R = .tuple #[hv A B C, .int .i64 0] := by rw [HR3.out, if_pos ⟨hl, Hm.out, hne'⟩]
          refine bodyPost_ret (v := R) (by rw [hR]; simp only [results, Try.results149]; go_simp; rfl) rfl ⟨rfl, ?_⟩
          (repeat' (first | (with_reducible assumption) | (with_reducible exact Below.refl _ _) | (with_reducible refine below_sc ?_ ?_) | ((with_reducible show (_ : Nat) ≤ _); omega) | refine Below.setCell ?_ (by first | omega | (simp; done) | (simp; omega)) _ | refine Below.alloc ?_ (by first | omega | (simp; done) | (simp; omega)) _ | refine Below.drew ?_ | refine below_drewN ?_ _ | refine Below.trans ?_ (Below.mono (by assumption) (by first | omega | (simp; done) | (simp; omega)))))
      · have hm' : hmayB A B C = false := by simpa using hm
        have hR2 : R = .tuple #[hv 0 0 0, .int .i64 4] := by rw [hR, if_neg (fun h => hm h.2.1)]
        have Hm := Lib.hid hm'
        have HR2 := Lib.hid hR2
        clear hR hm hm' hR2 HR
        go_wp2_with fail
        refine (hmay_any A B C _).mono ?_
        rintro e w1 ⟨rfl, hb⟩
        rw [Hm.out]
        obtain ⟨hc, hf⟩ := bcell hb
        have hz1 := hb.size
        simp only [World.size_alloc] at hz1
        go_wp2
        have hz9 : w.heap.size < w1.heap.size := by omega
        refine bodyPost_ret (v := R) (by rw [HR2.out]; simp [results, Try.results149, go_sem, hc, r0, r1, r2, hs0, hs1]; rfl) rfl ⟨rfl, ?_⟩
        (repeat' (first | (with_reducible assumption) | (with_reducible exact Below.refl _ _) | (with_reducible refine below_sc ?_ ?_) | ((with_reducible show (_ : Nat) ≤ _); omega) | refine Below.setCell ?_ (by first | omega | (simp; done) | (simp; omega)) _ | refine Below.alloc ?_ (by first | omega | (simp; done) | (simp; omega)) _ | refine Below.drew ?_ | refine below_drewN ?_ _ | refine Below.trans ?_ (Below.mono (by assumption) (by first | omega | (simp; done) | (simp; omega)))))
end Go.Proofs.Yteahlnoonmfjhaa
