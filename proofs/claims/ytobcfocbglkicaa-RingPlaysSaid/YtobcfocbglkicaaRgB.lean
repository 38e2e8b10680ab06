/- Walks of the ring: Open, Place, the program's and the document's; root. -/
import Derived.Test.YtobcfocbglkicaaRgA
import Derived.Test.YtobcfocbglkicaaCalmW
set_option linter.unusedVariables false
set_option maxRecDepth 100000
namespace Go.Proofs.Ytobcfocbglkicaa
open Go.RowKit

/-- The root of a block. -/
def rkO (b : List UInt8) : RoT × Int :=
  if (openR b).e = 0 ∧ (openR b).k = 3 ∧ 8 ≤ (openR b).s.length ∧ 1 ≤ (openR b).b then
    if (openR b).s.take 8 = beN (fnv ((openR b).s.drop 8)) 8 then (⟨(openR b).b, (openR b).s.drop 8⟩, 0) else (⟨0, []⟩, 52)
  else (⟨0, []⟩, 4)
def roV (r : RoT × Int) : Value := .tuple #[.agg #[.int .i64 r.1.t, .string (str r.1.l)], .int .i64 r.2]
theorem rdL_8 : ∀ (m : List UInt8), m.length = 8 → rdL (some m) = (nB m, some [])
  | [a, b, c, d, e, f, g, h], _ => by
    simp [rdL, rdW, beV, nB]
    omega
theorem nB_be8' {n : Int} (h0 : 0 ≤ n) (h1 : n ≤ 18446744073709551615) : nB (beN n 8) = n := by
  have a0 := byteOf_toNat (n / 2 ^ (8 * 0))
  have a1 := byteOf_toNat (n / 2 ^ (8 * 1))
  have a2 := byteOf_toNat (n / 2 ^ (8 * 2))
  have a3 := byteOf_toNat (n / 2 ^ (8 * 3))
  have a4 := byteOf_toNat (n / 2 ^ (8 * 4))
  have a5 := byteOf_toNat (n / 2 ^ (8 * 5))
  have a6 := byteOf_toNat (n / 2 ^ (8 * 6))
  have a7 := byteOf_toNat (n / 2 ^ (8 * 7))
  simp only [nB, beN, List.foldl_cons, List.foldl_nil]
  simp only [Nat.mul_zero, Nat.reduceMul] at *
  omega
theorem convS_str (w : World) (l : List UInt8) : ∃ v' w', (convert 9 38 (.string (str l))).run Try.prog w = .ok v' w' ∧ RS w' v' l ∧ Ext w w' := by
  refine ⟨_, _, bytes_of w l Try.underlying9 Try.underlying38 Try.underlying5, ?_, (Below.refl _ w).drew.alloc (Nat.le_refl _) _⟩
  exact rs_block (m := l ++ List.replicate (grownCap w l.length 0 5 - l.length) 0) (off := 0) (heap_alloc_last w.drew _) (by simp) (grownCap_ge w l.length 0 5)

set_option maxHeartbeats 8000000 in
theorem rgOpen_any (B : List UInt8) (hB : B.length = 512) (w : World) :
    Calls Try.prog 17 #[.agg (bvs B).toArray] w fun e w' => e = .returned (roV (rkO B)) ∧ Below w.heap.size w w' := by
  have fin : ∀ r, rkO B = r → roV (rkO B) = .tuple #[.agg #[.int .i64 r.1.t, .string (str r.1.l)], .int .i64 r.2] := fun r h => by rw [h]; rfl
  have FIN := Lib.hid fin
  clear fin
  have b1 := Lib.hid (heap_alloc2_old w (.cells (bvs B).toArray 25) (.cells #[.int .i64 0, .string ⟨#[]⟩] 29))
  have b2 := Lib.hid (heap_alloc2_new w (.cells (bvs B).toArray 25) (.cells #[.int .i64 0, .string ⟨#[]⟩] 29))
  have hX : Below w.heap.size w ((w.alloc (.cells (bvs B).toArray 25)).alloc (.cells #[.int .i64 0, .string ⟨#[]⟩] 29)) := by (repeat' (first | (with_reducible assumption) | (with_reducible exact Below.refl _ _) | (with_reducible refine below_sc ?_ ?_) | ((with_reducible show (_ : Nat) ≤ _); omega) | refine Below.setCell ?_ (by first | omega | (simp; done) | (simp; omega)) _ | refine Below.alloc ?_ (by first | omega | (simp; done) | (simp; omega)) _ | refine Below.drew ?_ | refine below_drewN ?_ _ | refine Below.trans ?_ (Below.mono (by assumption) (by first | omega | (simp; done) | (simp; omega)))))
  have ld := Lib.hid (ld_blk b1.out hB)
  obtain ⟨R, hR⟩ : ∃ R, R = openR B := ⟨_, rfl⟩
  have ko := fun w => open_any B hB w
  have lS : R.s.length ≤ 512 := by rw [hR]; unfold openR; (repeat' split) <;> simp <;> omega
  have f0 : ¬ (R.e = 0 ∧ R.k = 3 ∧ 8 ≤ R.s.length ∧ 1 ≤ R.b) → rkO B = (⟨0, []⟩, 4) := fun h => by unfold rkO; rw [← hR, if_neg h]
  have f1 : (R.e = 0 ∧ R.k = 3 ∧ 8 ≤ R.s.length ∧ 1 ≤ R.b) → R.s.take 8 ≠ beN (fnv (R.s.drop 8)) 8 → rkO B = (⟨0, []⟩, 52) := fun h h2 => by unfold rkO; rw [← hR, if_pos h, if_neg h2]
  have f2 : (R.e = 0 ∧ R.k = 3 ∧ 8 ≤ R.s.length ∧ 1 ≤ R.b) → R.s.take 8 = beN (fnv (R.s.drop 8)) 8 → rkO B = (⟨R.b, R.s.drop 8⟩, 0) := fun h h2 => by unfold rkO; rw [← hR, if_pos h, if_pos h2]
  rw [← hR] at ko
  clear hR
  obtain ⟨k, y, s, E1⟩ := R
  have ho : ∀ r : OpT, r.v = .tuple #[.int .u8 r.k.toNat, .int .i64 r.b, .string (str r.s), .int .i64 r.e] := fun _ => rfl
  simp only [ho] at ko
  simp only at f0 f1 f2 lS
  have hk3 : k = 3 ↔ (k.toNat : Int) = 3 := by
    constructor
    · rintro rfl; rfl
    · intro h; apply UInt8.toNat_inj.1; have : (3 : UInt8).toNat = 3 := rfl; omega
  rw [hk3] at f0 f1 f2
  clear ho hk3
  have hkb := k.toNat_lt
  generalize (k.toNat : Int) = kn at *
  have F0 := Lib.hid f0
  have F1 := Lib.hid f1
  have F2 := Lib.hid f2
  have KO := Lib.hid ko
  clear f0 f1 f2 ko hkb
  have hs := str_size s
  go_enter Try.func17, Try.ntmps17
  go_wp2_with (refine wpList_ld rfl 25 (.tmp 1) rfl ld.out ?_; simp only [Act.put])
  generalize (w.alloc (.cells (bvs B).toArray 25)).alloc (.cells #[.int .i64 0, .string ⟨#[]⟩] 29) = W at *
  refine (KO.out _).mono ?_
  rintro e w1 ⟨rfl, hb1⟩; have hz1 := hb1.size; (try simp only [World.size_alloc] at hz1)
  have B2 := Lib.hid ((Below.block hb1 (w.heap.size + 1) (Array.getElem?_eq_some_iff.1 b2.out).1).trans b2.out)
  have X1 : Below w.heap.size w w1 := hX.trans (Below.mono hb1 hX.size)
  clear b1 b2 hb1 hX ld KO
  by_cases hE : E1 = 0
  · subst hE
    by_cases hk : kn = 3
    · subst hk
      by_cases h8 : 8 ≤ s.length
      · by_cases hy : 1 ≤ y
        · have hx1 : (str s).extract 0 8 = str (s.take 8) := str_extract _ _ _
          have hx2 : (str s).extract 8 s.length = str (s.drop 8) := by rw [str_extract, List.take_of_length_le (by simp)]
          have lr : (s.drop 8).length ≤ 1000000 := by simp; omega
          have lm : (s.take 8).length = 8 := by simp; omega
          have f1 := F1.out ⟨rfl, rfl, h8, hy⟩
          have f2 := F2.out ⟨rfl, rfl, h8, hy⟩
          generalize s.drop 8 = r at *
          generalize s.take 8 = m at *
          have kd := fun w => digest_b r w lr
          have bF := fnv_bd r
          generalize fnv r = F at *
          have KD := Lib.hid kd
          have G1 := Lib.hid f1
          have G2 := Lib.hid f2
          have hrL := Lib.hid (rdL_8 m lm)
          have hb8 := nB_be8' bF.1 bF.2
          have hm8 : nB m = F → m = beN F 8 := fun h => by rw [← h]; exact (be_nB8 m lm).symm
          have lt2 := (Array.getElem?_eq_some_iff.1 B2.out).1
          have b8 := Lib.hid (heap_alloc_last w1 (.cells #[.int .i64 y, .string (str r)] 29))
          have B2' := Lib.hid ((Below.heap_alloc w1 (.cells #[.int .i64 y, .string (str r)] 29) (w.heap.size + 1) lt2).trans B2.out)
          have X2 : Below w.heap.size w (w1.alloc (.cells #[.int .i64 y, .string (str r)] 29)) := X1.alloc X1.size _
          clear f1 f2 kd F0 F1 F2 bF B2 X1
          have q : m = beN F 8 ∨ m ≠ beN F 8 := Classical.em _
          have z : (nB m = F ∧ m = beN F 8) ∨ ((nB m != F) = true ∧ (nB m == F) = false ∧ m ≠ beN F 8) := by
            rcases q with q | q
            · left; rw [q]; exact ⟨hb8, rfl⟩
            · right
              have : nB m ≠ F := fun h => q (hm8 h)
              exact ⟨bne_iff_ne.2 this, beq_eq_false_iff_ne.2 this, q⟩
          clear q hm8 hb8
          go_upto_region 5 with fail
          generalize w1.alloc (.cells #[.int .i64 y, .string (str r)] 29) = V at *
          generalize w1.heap.size = g8 at *
          generalize nB m = N at *
          obtain ⟨c0, c1, -, -, lt8⟩ := blk2 b8.out
          have hPc : ∀ (ψ : World → Prop) (e : ExtP V.heap.size V ψ) k o, k < V.heap.size → e.val.cell? ⟨k, o, none⟩ = V.cell? ⟨k, o, none⟩ := fun ψ e k o hk => e.ok.cell (p := ⟨k, o, none⟩) hk
          refine wp_region_piecesW V.heap.size 9 [(true, [0, 1, 5, 6]), (false, [2]), (false, [3]), (false, [4]), (true, [7, 8])] (Nat.le_refl _) (by kernel_rfl) (by kernel_rfl) ?_; simp only [pick, List.map_cons, List.map_nil, List.flatMap_cons, List.flatMap_nil, Option.toList_some, List.singleton_append, List.drop_succ_cons, List.drop_zero, List.getElem?_cons_zero, List.getElem?_cons_succ]
          refine ⟨by kernel_rfl, ?_⟩; apply Exists.intro; refine ⟨fun ψ hψ hne => (by (repeat (go_big_quiet_step (( fail )))); exact wpQuiet_nil rfl), ?_⟩
          intro wa ha K hK
          obtain ⟨v3, w3, cv, hrs, h3⟩ := convS_str wa m
          go_wp2_with fail
          refine hK _ _ V.heap.size (Nat.le_refl _) (Nat.le_trans ha.size h3.size) (h3.mono ha.size) ?_
          clear hK K
          intro wb hb K hK
          have hz3 : V.heap.size ≤ w3.heap.size := Nat.le_trans ha.size h3.size
          have a3 : Below V.heap.size V w3 := Below.trans ha (h3.mono ha.size)
          go_wp2_with fail
          refine (newReader_any v3 m _ (hrs.ext hb) (by omega)).mono ?_
          rintro e w4 ⟨gr, rfl, rd4, hgr, hb4⟩
          have hzb : V.heap.size ≤ wb.heap.size := Nat.le_trans hz3 hb.size
          have a4 : Below V.heap.size V w4 := (a3.trans (hb.mono a3.size)).trans (hb4.mono hzb)
          go_wp2_with fail
          refine hK _ _ V.heap.size (Nat.le_refl _) a4.size (hb4.mono hzb) ?_
          clear hK K
          intro wc hc K hK
          have a5 : Below V.heap.size V wc := a4.trans (hc.mono a4.size)
          have hgV : V.heap.size ≤ gr := Nat.le_trans hzb hgr
          go_wp2_with fail
          refine (long_any gr (some m) _ (rd4.ext hc)).mono ?_
          rw [hrL.out]
          rintro e w5 ⟨rfl, -, k5⟩
          have a6 : Below V.heap.size V w5 := a5.trans (k5.below hgV a5.size)
          go_wp2_with fail
          refine hK _ _ V.heap.size (Nat.le_refl _) a6.size (k5.below hgV a5.size) ?_
          clear hK K
          rcases z with ⟨rfl, hq⟩ | ⟨z1, z2, hq⟩
          · have e := Lib.hid (FIN.out _ (G2.out hq))
            refine ⟨by kernel_rfl, ?_⟩; apply Exists.intro; refine ⟨fun ψ hψ hne => (by (repeat (go_big_quiet_step (( go_at_call 57; exact extP_of hψ a6.size (KD.out _) )))); exact wpQuiet_nil rfl), ?_⟩
            intro w6 hd
            have a7 : Below V.heap.size V w6 := a6.trans (hd.mono a6.size)
            have n2 := (Below.block a7 (w.heap.size + 1) (Array.getElem?_eq_some_iff.1 B2'.out).1).trans B2'.out
            have n8 := (Below.block a7 g8 lt8).trans b8.out
            have X7 : Below w.heap.size w w6 := X2.trans (Below.mono a7 X2.size)
            clear a3 a4 a5 a6 a7 hb4 hc hb k5 hd h3 ha hPc c0 c1 lt8 b8 B2' X2 rd4 hrs cv
            obtain ⟨c0, c1, q0, q1, ltb⟩ := blk2 n2
            obtain ⟨d0, d1, -, -, ltd⟩ := blk2 n8
            go_wp2_with fail
            exact bodyPost_ret (v := .tuple #[.agg #[.int .i64 y, .string (str r)], .int .i64 0]) (by simp only [results, Try.results17]; go_simp) rfl ⟨by rw [e.out], by (repeat' (first | (with_reducible assumption) | (with_reducible refine below_sc ?_ ?_) | (with_reducible refine Below.alloc ?_ ?_ _) | omega))⟩
          · have e := Lib.hid (FIN.out _ (G1.out hq))
            refine ⟨by kernel_rfl, ?_⟩; apply Exists.intro; refine ⟨fun ψ hψ hne => (by (repeat (go_big_quiet_step (( go_at_call 57; exact extP_of hψ a6.size (KD.out _) )))); exact wpQuiet_nil rfl), ?_⟩
            intro w6 hd
            have a7 : Below V.heap.size V w6 := a6.trans (hd.mono a6.size)
            have n2 := (Below.block a7 (w.heap.size + 1) (Array.getElem?_eq_some_iff.1 B2'.out).1).trans B2'.out
            have X7 : Below w.heap.size w w6 := X2.trans (Below.mono a7 X2.size)
            clear a3 a4 a5 a6 a7 hb4 hc hb k5 hd h3 ha hPc c0 c1 lt8 b8 B2' X2 rd4 hrs cv
            obtain ⟨c0, c1, q0, q1, ltb⟩ := blk2 n2
            go_wp2_with fail
            exact bodyPost_ret (v := .tuple #[.agg #[.int .i64 0, .string ⟨#[]⟩], .int .i64 52]) (by simp only [results, Try.results17]; go_simp) rfl ⟨by rw [e.out]; rfl, by (repeat' (first | (with_reducible assumption) | (with_reducible refine below_sc ?_ ?_) | (with_reducible refine Below.alloc ?_ ?_ _) | omega))⟩
        · skip
          obtain ⟨c0, c1, q0, q1, ltb⟩ := blk2 B2.out
          have e := Lib.hid (FIN.out _ (F0.out (fun h => hy h.2.2.2)))
          go_wp2_with fail
          exact bodyPost_ret (v := .tuple #[.agg #[.int .i64 0, .string ⟨#[]⟩], .int .i64 4]) (by simp only [results, Try.results17]; go_simp) rfl ⟨by rw [e.out]; rfl, by (repeat' (first | (with_reducible assumption) | (with_reducible refine below_sc ?_ ?_) | (with_reducible refine Below.alloc ?_ ?_ _) | omega))⟩
      · skip
        obtain ⟨c0, c1, q0, q1, ltb⟩ := blk2 B2.out
        have e := Lib.hid (FIN.out _ (F0.out (fun h => h8 h.2.2.1)))
        go_wp2_with fail
        exact bodyPost_ret (v := .tuple #[.agg #[.int .i64 0, .string ⟨#[]⟩], .int .i64 4]) (by simp only [results, Try.results17]; go_simp) rfl ⟨by rw [e.out]; rfl, by (repeat' (first | (with_reducible assumption) | (with_reducible refine below_sc ?_ ?_) | (with_reducible refine Below.alloc ?_ ?_ _) | omega))⟩
    · have z1 : (kn != 3) = true := bne_iff_ne.2 hk
      have z2 : (kn == 3) = false := beq_eq_false_iff_ne.2 hk
      obtain ⟨c0, c1, q0, q1, ltb⟩ := blk2 B2.out
      have e := Lib.hid (FIN.out _ (F0.out (fun h => hk h.2.1)))
      go_wp2_with fail
      exact bodyPost_ret (v := .tuple #[.agg #[.int .i64 0, .string ⟨#[]⟩], .int .i64 4]) (by simp only [results, Try.results17]; go_simp) rfl ⟨by rw [e.out]; rfl, by (repeat' (first | (with_reducible assumption) | (with_reducible refine below_sc ?_ ?_) | (with_reducible refine Below.alloc ?_ ?_ _) | omega))⟩
  · have z1 : (E1 != 0) = true := bne_iff_ne.2 hE
    have z2 : (E1 == 0) = false := beq_eq_false_iff_ne.2 hE
    obtain ⟨c0, c1, q0, q1, ltb⟩ := blk2 B2.out
    have e := Lib.hid (FIN.out _ (F0.out (fun h => hE h.1)))
    go_wp2_with fail
    exact bodyPost_ret (v := .tuple #[.agg #[.int .i64 0, .string ⟨#[]⟩], .int .i64 4]) (by simp only [results, Try.results17]; go_simp) rfl ⟨by rw [e.out]; rfl, by (repeat' (first | (with_reducible assumption) | (with_reducible refine below_sc ?_ ?_) | (with_reducible refine Below.alloc ?_ ?_ _) | omega))⟩

set_option maxHeartbeats 8000000 in
theorem rrgOpen_any (B : List UInt8) (hB : B.length = 512) (w : World) :
    Calls Try.prog 18 #[.agg (bvs B).toArray] w fun e w' => e = .returned (roV (rkO B)) ∧ Below w.heap.size w w' := by
  have fin : ∀ r, rkO B = r → roV (rkO B) = .tuple #[.agg #[.int .i64 r.1.t, .string (str r.1.l)], .int .i64 r.2] := fun r h => by rw [h]; rfl
  have FIN := Lib.hid fin
  clear fin
  have b1 := Lib.hid (heap_alloc2_old w (.cells (bvs B).toArray 25) (.cells #[.int .i64 0, .string ⟨#[]⟩] 23))
  have b2 := Lib.hid (heap_alloc2_new w (.cells (bvs B).toArray 25) (.cells #[.int .i64 0, .string ⟨#[]⟩] 23))
  have hX : Below w.heap.size w ((w.alloc (.cells (bvs B).toArray 25)).alloc (.cells #[.int .i64 0, .string ⟨#[]⟩] 23)) := by (repeat' (first | (with_reducible assumption) | (with_reducible exact Below.refl _ _) | (with_reducible refine below_sc ?_ ?_) | ((with_reducible show (_ : Nat) ≤ _); omega) | refine Below.setCell ?_ (by first | omega | (simp; done) | (simp; omega)) _ | refine Below.alloc ?_ (by first | omega | (simp; done) | (simp; omega)) _ | refine Below.drew ?_ | refine below_drewN ?_ _ | refine Below.trans ?_ (Below.mono (by assumption) (by first | omega | (simp; done) | (simp; omega)))))
  have ld := Lib.hid (ld_blk b1.out hB)
  obtain ⟨R, hR⟩ : ∃ R, R = openR B := ⟨_, rfl⟩
  have ko := fun w => ropen_any B hB w
  have lS : R.s.length ≤ 512 := by rw [hR]; unfold openR; (repeat' split) <;> simp <;> omega
  have f0 : ¬ (R.e = 0 ∧ R.k = 3 ∧ 8 ≤ R.s.length ∧ 1 ≤ R.b) → rkO B = (⟨0, []⟩, 4) := fun h => by unfold rkO; rw [← hR, if_neg h]
  have f1 : (R.e = 0 ∧ R.k = 3 ∧ 8 ≤ R.s.length ∧ 1 ≤ R.b) → R.s.take 8 ≠ beN (fnv (R.s.drop 8)) 8 → rkO B = (⟨0, []⟩, 52) := fun h h2 => by unfold rkO; rw [← hR, if_pos h, if_neg h2]
  have f2 : (R.e = 0 ∧ R.k = 3 ∧ 8 ≤ R.s.length ∧ 1 ≤ R.b) → R.s.take 8 = beN (fnv (R.s.drop 8)) 8 → rkO B = (⟨R.b, R.s.drop 8⟩, 0) := fun h h2 => by unfold rkO; rw [← hR, if_pos h, if_pos h2]
  rw [← hR] at ko
  clear hR
  obtain ⟨k, y, s, E1⟩ := R
  have ho : ∀ r : OpT, r.v = .tuple #[.int .u8 r.k.toNat, .int .i64 r.b, .string (str r.s), .int .i64 r.e] := fun _ => rfl
  simp only [ho] at ko
  simp only at f0 f1 f2 lS
  have hk3 : k = 3 ↔ (k.toNat : Int) = 3 := by
    constructor
    · rintro rfl; rfl
    · intro h; apply UInt8.toNat_inj.1; have : (3 : UInt8).toNat = 3 := rfl; omega
  rw [hk3] at f0 f1 f2
  clear ho hk3
  have hkb := k.toNat_lt
  generalize (k.toNat : Int) = kn at *
  have F0 := Lib.hid f0
  have F1 := Lib.hid f1
  have F2 := Lib.hid f2
  have KO := Lib.hid ko
  clear f0 f1 f2 ko hkb
  have hs := str_size s
  go_enter Try.func18, Try.ntmps18
  go_wp2_with (refine wpList_ld rfl 25 (.tmp 1) rfl ld.out ?_; simp only [Act.put])
  generalize (w.alloc (.cells (bvs B).toArray 25)).alloc (.cells #[.int .i64 0, .string ⟨#[]⟩] 23) = W at *
  refine (KO.out _).mono ?_
  rintro e w1 ⟨rfl, hb1⟩; have hz1 := hb1.size; (try simp only [World.size_alloc] at hz1)
  have B2 := Lib.hid ((Below.block hb1 (w.heap.size + 1) (Array.getElem?_eq_some_iff.1 b2.out).1).trans b2.out)
  have X1 : Below w.heap.size w w1 := hX.trans (Below.mono hb1 hX.size)
  clear b1 b2 hb1 hX ld KO
  by_cases hE : E1 = 0
  · subst hE
    by_cases hk : kn = 3
    · subst hk
      by_cases hy : 1 ≤ y
      · by_cases h8 : 8 ≤ s.length
        · have hx1 : (str s).extract 0 8 = str (s.take 8) := str_extract _ _ _
          have hx2 : (str s).extract 8 s.length = str (s.drop 8) := by rw [str_extract, List.take_of_length_le (by simp)]
          have lr : (s.drop 8).length ≤ 1000000 := by simp; omega
          have f1 := F1.out ⟨rfl, rfl, h8, hy⟩
          have f2 := F2.out ⟨rfl, rfl, h8, hy⟩
          generalize s.drop 8 = r at *
          generalize s.take 8 = m at *
          have kd := fun w => rdigest_b r w lr
          have bF := fnv_bd r
          generalize fnv r = F at *
          have kl := fun w => rlong_any F bF.1 bF.2 w
          have KD := Lib.hid kd
          have KL := Lib.hid kl
          have G1 := Lib.hid f1
          have G2 := Lib.hid f2
          clear f1 f2 kd kl F0 F1 F2 bF
          have sL := strL
          obtain ⟨c0, c1, q0, q1, ltb⟩ := blk2 B2.out
          go_upto_region 4 with fail
          by_cases hq : m = beN F 8
          · have e := Lib.hid (FIN.out _ (G2.out hq))
            subst hq
            refine wp_region_ext w1.heap.size (by kernel_rfl) (by kernel_rfl) ?_
            repeat (go_big_quiet_step (first | (go_at_call 60; exact ext_of (Nat.le_refl _) (KD.out _)) | (go_at_call 59; exact ext_of (Nat.le_refl _) (KL.out _))))
            refine wpQuiet_nil ?_
            rintro w6 ⟨⟨_, hd⟩, rfl⟩
            have n2 := (Below.block hd (w.heap.size + 1) (Array.getElem?_eq_some_iff.1 B2.out).1).trans B2.out
            have X7 : Below w.heap.size w w6 := X1.trans (Below.mono hd X1.size)
            clear c0 c1 q0 q1 ltb hd X1 B2
            obtain ⟨c0, c1, q0, q1, ltb⟩ := blk2 n2
            go_wp2_with fail
            exact bodyPost_ret (v := .tuple #[.agg #[.int .i64 y, .string (str r)], .int .i64 0]) (by simp only [results, Try.results18]; go_simp) rfl ⟨by rw [e.out], by (repeat' (first | (with_reducible assumption) | (with_reducible refine below_sc ?_ ?_) | (with_reducible refine Below.alloc ?_ ?_ _) | omega))⟩
          · have e := Lib.hid (FIN.out _ (G1.out hq))
            have z1 : (m == beN F 8) = false := beq_eq_false_iff_ne.2 hq
            have z2 : (m != beN F 8) = true := bne_iff_ne.2 hq
            refine wp_region_ext w1.heap.size (by kernel_rfl) (by kernel_rfl) ?_
            repeat (go_big_quiet_step (first | (go_at_call 60; exact ext_of (Nat.le_refl _) (KD.out _)) | (go_at_call 59; exact ext_of (Nat.le_refl _) (KL.out _))))
            refine wpQuiet_nil ?_
            rintro w6 ⟨⟨_, hd⟩, rfl⟩
            have n2 := (Below.block hd (w.heap.size + 1) (Array.getElem?_eq_some_iff.1 B2.out).1).trans B2.out
            have X7 : Below w.heap.size w w6 := X1.trans (Below.mono hd X1.size)
            clear c0 c1 q0 q1 ltb hd X1 B2
            obtain ⟨c0, c1, q0, q1, ltb⟩ := blk2 n2
            go_wp2_with fail
            exact bodyPost_ret (v := .tuple #[.agg #[.int .i64 0, .string ⟨#[]⟩], .int .i64 52]) (by simp only [results, Try.results18]; go_simp) rfl ⟨by rw [e.out]; rfl, by (repeat' (first | (with_reducible assumption) | (with_reducible refine below_sc ?_ ?_) | (with_reducible refine Below.alloc ?_ ?_ _) | omega))⟩
        · skip
          obtain ⟨c0, c1, q0, q1, ltb⟩ := blk2 B2.out
          have e := Lib.hid (FIN.out _ (F0.out (fun h => h8 h.2.2.1)))
          go_wp2_with fail
          exact bodyPost_ret (v := .tuple #[.agg #[.int .i64 0, .string ⟨#[]⟩], .int .i64 4]) (by simp only [results, Try.results18]; go_simp) rfl ⟨by rw [e.out]; rfl, by (repeat' (first | (with_reducible assumption) | (with_reducible refine below_sc ?_ ?_) | (with_reducible refine Below.alloc ?_ ?_ _) | omega))⟩
      · skip
        obtain ⟨c0, c1, q0, q1, ltb⟩ := blk2 B2.out
        have e := Lib.hid (FIN.out _ (F0.out (fun h => hy h.2.2.2)))
        go_wp2_with fail
        exact bodyPost_ret (v := .tuple #[.agg #[.int .i64 0, .string ⟨#[]⟩], .int .i64 4]) (by simp only [results, Try.results18]; go_simp) rfl ⟨by rw [e.out]; rfl, by (repeat' (first | (with_reducible assumption) | (with_reducible refine below_sc ?_ ?_) | (with_reducible refine Below.alloc ?_ ?_ _) | omega))⟩
    · have z1 : (kn != 3) = true := bne_iff_ne.2 hk
      have z2 : (kn == 3) = false := beq_eq_false_iff_ne.2 hk
      obtain ⟨c0, c1, q0, q1, ltb⟩ := blk2 B2.out
      have e := Lib.hid (FIN.out _ (F0.out (fun h => hk h.2.1)))
      go_wp2_with fail
      exact bodyPost_ret (v := .tuple #[.agg #[.int .i64 0, .string ⟨#[]⟩], .int .i64 4]) (by simp only [results, Try.results18]; go_simp) rfl ⟨by rw [e.out]; rfl, by (repeat' (first | (with_reducible assumption) | (with_reducible refine below_sc ?_ ?_) | (with_reducible refine Below.alloc ?_ ?_ _) | omega))⟩
  · have z1 : (E1 != 0) = true := bne_iff_ne.2 hE
    have z2 : (E1 == 0) = false := beq_eq_false_iff_ne.2 hE
    obtain ⟨c0, c1, q0, q1, ltb⟩ := blk2 B2.out
    have e := Lib.hid (FIN.out _ (F0.out (fun h => hE h.1)))
    go_wp2_with fail
    exact bodyPost_ret (v := .tuple #[.agg #[.int .i64 0, .string ⟨#[]⟩], .int .i64 4]) (by simp only [results, Try.results18]; go_simp) rfl ⟨by rw [e.out]; rfl, by (repeat' (first | (with_reducible assumption) | (with_reducible refine below_sc ?_ ?_) | (with_reducible refine Below.alloc ?_ ?_ _) | omega))⟩

def placeR (n : Int) : Int := if n < 0 then 0 else n % 2
theorem rgPlace_any (n : Int) (w : World) : Calls Try.prog 20 #[.int .i64 n] w fun e w' => e = .returned (.int .i64 (placeR n)) ∧ Below w.heap.size w w' := by
  by_cases h : n < 0
  · have e : placeR n = 0 := if_pos h
    rw [e]
    go_enter Try.func20, Try.ntmps20
    go_wp2
    go_ret
    exact ⟨rfl, by (repeat' (first | (with_reducible assumption) | (with_reducible exact Below.refl _ _) | (with_reducible refine below_sc ?_ ?_) | ((with_reducible show (_ : Nat) ≤ _); omega) | refine Below.setCell ?_ (by first | omega | (simp; done) | (simp; omega)) _ | refine Below.alloc ?_ (by first | omega | (simp; done) | (simp; omega)) _ | refine Below.drew ?_ | refine below_drewN ?_ _ | refine Below.trans ?_ (Below.mono (by assumption) (by first | omega | (simp; done) | (simp; omega)))))⟩
  · have e := Lib.hid (show placeR n = n % 2 from if_neg h)
    go_enter Try.func20, Try.ntmps20
    go_wp2
    go_ret
    exact ⟨by rw [e.out]; first | rfl | (rw [Int.tmod_eq_emod_of_nonneg (by omega)]), by (repeat' (first | (with_reducible assumption) | (with_reducible exact Below.refl _ _) | (with_reducible refine below_sc ?_ ?_) | ((with_reducible show (_ : Nat) ≤ _); omega) | refine Below.setCell ?_ (by first | omega | (simp; done) | (simp; omega)) _ | refine Below.alloc ?_ (by first | omega | (simp; done) | (simp; omega)) _ | refine Below.drew ?_ | refine below_drewN ?_ _ | refine Below.trans ?_ (Below.mono (by assumption) (by first | omega | (simp; done) | (simp; omega)))))⟩
theorem rrgPlace_any (n : Int) (w : World) : Calls Try.prog 21 #[.int .i64 n] w fun e w' => e = .returned (.int .i64 (placeR n)) ∧ Below w.heap.size w w' := by
  by_cases h : n < 0
  · have e : placeR n = 0 := if_pos h
    rw [e]
    go_enter Try.func21, Try.ntmps21
    go_wp2
    go_ret
    exact ⟨rfl, by (repeat' (first | (with_reducible assumption) | (with_reducible exact Below.refl _ _) | (with_reducible refine below_sc ?_ ?_) | ((with_reducible show (_ : Nat) ≤ _); omega) | refine Below.setCell ?_ (by first | omega | (simp; done) | (simp; omega)) _ | refine Below.alloc ?_ (by first | omega | (simp; done) | (simp; omega)) _ | refine Below.drew ?_ | refine below_drewN ?_ _ | refine Below.trans ?_ (Below.mono (by assumption) (by first | omega | (simp; done) | (simp; omega)))))⟩
  · have e := Lib.hid (show placeR n = n % 2 from if_neg h)
    go_enter Try.func21, Try.ntmps21
    go_wp2
    go_ret
    exact ⟨by rw [e.out]; first | rfl | (rw [Int.tmod_eq_emod_of_nonneg (by omega)]), by (repeat' (first | (with_reducible assumption) | (with_reducible exact Below.refl _ _) | (with_reducible refine below_sc ?_ ?_) | ((with_reducible show (_ : Nat) ≤ _); omega) | refine Below.setCell ?_ (by first | omega | (simp; done) | (simp; omega)) _ | refine Below.alloc ?_ (by first | omega | (simp; done) | (simp; omega)) _ | refine Below.drew ?_ | refine below_drewN ?_ _ | refine Below.trans ?_ (Below.mono (by assumption) (by first | omega | (simp; done) | (simp; omega)))))⟩
theorem root_any (t : Int) (l : List UInt8) (w : World) : Calls Try.prog 19 #[.agg #[.int .i64 t, .string (str l)]] w fun e w' => e = .returned (.agg #[.int .i64 t, .string (str l)]) ∧ Below w.heap.size w w' := by
  go_enter Try.func19, Try.ntmps19
  go_wp2
  exact bodyPost_ret (v := .agg #[.int .i64 t, .string (str l)]) (by simp only [results, Try.results19]; go_simp) rfl ⟨rfl, by (repeat' (first | (with_reducible assumption) | (with_reducible exact Below.refl _ _) | (with_reducible refine below_sc ?_ ?_) | ((with_reducible show (_ : Nat) ≤ _); omega) | refine Below.setCell ?_ (by first | omega | (simp; done) | (simp; omega)) _ | refine Below.alloc ?_ (by first | omega | (simp; done) | (simp; omega)) _ | refine Below.drew ?_ | refine below_drewN ?_ _ | refine Below.trans ?_ (Below.mono (by assumption) (by first | omega | (simp; done) | (simp; omega)))))⟩
end Go.Proofs.Ytobcfocbglkicaa
