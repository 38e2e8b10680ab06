/- Walks of package block: may, Encode. -/
import Derived.Test.YthoeklcgdbbbgaaBlkI
set_option linter.unusedVariables false
namespace Go.Proofs.Ythoeklcgdbbbgaa
open Go.RowKit

def eqP (a b s a' b' s' : Int) : Bool := decide (a = a' ∧ b = b' ∧ s = s')
theorem eql_ptr (a b s a' b' s' : Int) (w : World) : (binOp .eql 26 (.agg #[.int .i64 a, .int .i64 b, .int .u64 s]) (.agg #[.int .i64 a', .int .i64 b', .int .u64 s'])).run Try.prog w = .ok (.bool (eqP a b s a' b' s')) w := by
  go_simp
  by_cases h1 : a = a' <;> by_cases h2 : b = b' <;> by_cases h3 : s = s' <;> simp [eqP, h1, h2, h3]
theorem neq_ptr (a b s a' b' s' : Int) (w : World) : (binOp .neq 26 (.agg #[.int .i64 a, .int .i64 b, .int .u64 s]) (.agg #[.int .i64 a', .int .i64 b', .int .u64 s'])).run Try.prog w = .ok (.bool (!(eqP a b s a' b' s'))) w := by
  go_simp
  by_cases h1 : a = a' <;> by_cases h2 : b = b' <;> by_cases h3 : s = s' <;> simp [eqP, h1, h2, h3]
attribute [local go_sem ↓] eql_ptr neq_ptr
/-- May a pointer be? -/
def mayP (a b s : Int) : Bool := if a = 0 then eqP a b s 0 0 0 else decide (0 < a ∧ a < 8192 ∧ 0 ≤ b ∧ b ≤ 2147483647)
theorem mayP_bd {a b s : Int} (h : mayP a b s = true) : 0 ≤ a ∧ a < 8192 ∧ 0 ≤ b ∧ b ≤ 2147483647 := by
  unfold mayP at h
  split at h
  · simp [eqP] at h; omega
  · simp at h; omega

set_option maxHeartbeats 4000000 in
theorem may_any (a b s : Int) (w : World) : Calls Try.prog 32 #[.agg #[.int .i64 a, .int .i64 b, .int .u64 s]] w fun e w' => e = .returned (.bool (mayP a b s)) ∧ Below w.heap.size w w' := by
  by_cases ha : a = 0
  · subst ha
    have e : mayP 0 b s = eqP 0 b s 0 0 0 := by unfold mayP; rw [if_pos rfl]
    have E := Lib.hid e
    clear e
    go_enter Try.func32, Try.ntmps32
    go_wp2
    go_ret
    exact ⟨by rw [E.out]; rfl, by (repeat' (first | (with_reducible assumption) | (with_reducible exact Below.refl _ _) | (with_reducible refine below_sc ?_ ?_) | ((with_reducible show (_ : Nat) ≤ _); omega) | refine Below.setCell ?_ (by first | omega | (simp; done) | (simp; omega)) _ | refine Below.alloc ?_ (by first | omega | (simp; done) | (simp; omega)) _ | refine Below.drew ?_ | refine below_drewN ?_ _ | refine Below.trans ?_ (Below.mono (by assumption) (by first | omega | (simp; done) | (simp; omega)))))⟩
  · have z : (a == 0) = false := beq_eq_false_iff_ne.2 ha
    have e : mayP a b s = decide (0 < a ∧ a < 8192 ∧ 0 ≤ b ∧ b ≤ 2147483647) := by unfold mayP; rw [if_neg ha]
    have E := Lib.hid e
    clear e
    obtain ⟨p, hp⟩ : ∃ p, p = mayP a b s := ⟨_, rfl⟩
    have H := Lib.hid hp
    rw [← hp]
    clear hp
    go_enter Try.func32, Try.ntmps32
    go_wp2
    all_goals (go_ret; refine ⟨hret ?_, by (repeat' (first | (with_reducible assumption) | (with_reducible exact Below.refl _ _) | (with_reducible refine below_sc ?_ ?_) | ((with_reducible show (_ : Nat) ≤ _); omega) | refine Below.setCell ?_ (by first | omega | (simp; done) | (simp; omega)) _ | refine Below.alloc ?_ (by first | omega | (simp; done) | (simp; omega)) _ | refine Below.drew ?_ | refine below_drewN ?_ _ | refine Below.trans ?_ (Below.mono (by assumption) (by first | omega | (simp; done) | (simp; omega)))))⟩; rw [H.out, E.out, Bool.eq_iff_iff]; simp; omega)

def z16 : List UInt8 := [0, 0, 0, 0, 0, 0, 0, 0, 0, 0, 0, 0, 0, 0, 0, 0]
theorem alloc16 (w : World) : (Instr.alloc 58 true (.tuple #[])).run Try.prog w = .ok (.pointer (some ⟨w.heap.size, 0, none⟩)) (w.alloc (.cells (bvs z16).toArray 58)) := by kernel_rfl
/-- A pointer's bytes. -/
def pBytes (a b s : Int) : List UInt8 := beN a 4 ++ beN b 4 ++ beN s 8
theorem p_puts (a b s : Int) : putC (putC (putC z16 0 4 a 4) 4 4 b 4) 8 8 s 8 = pBytes a b s := rfl
theorem pBytes_length (a b s : Int) : (pBytes a b s).length = 16 := by simp [pBytes, beN_length]
/-- What Encode answers. -/
def pEnc (a b s : Int) : List UInt8 × Int := if mayP a b s = true then (pBytes a b s, 0) else ([], 4)
def seV (r : List UInt8 × Int) : Value := .tuple #[.string (str r.1), .int .i64 r.2]

set_option maxHeartbeats 8000000 in
set_option maxRecDepth 100000 in
theorem encode_any (a b s : Int) (hs : 0 ≤ s ∧ s ≤ 18446744073709551615) (w : World) : Calls Try.prog 21 #[.agg #[.int .i64 a, .int .i64 b, .int .u64 s]] w fun e w' => e = .returned (seV (pEnc a b s)) ∧ Below w.heap.size w w' := by
  cases hm : mayP a b s with
  | false =>
    have e : pEnc a b s = ([], 4) := by unfold pEnc; rw [hm, if_neg (by simp)]
    have E := Lib.hid e
    have km := fun w => may_any a b s w
    rw [hm] at km
    have KM := Lib.hid km
    clear e hm km
    go_enter Try.func21, Try.ntmps21
    go_wp2_with (go_at_call 32; refine (KM.out _).mono ?_; rintro e w1 ⟨rfl, hb1⟩; have hz1 := hb1.size; (try simp only [World.size_alloc] at hz1))
    go_ret2
    exact ⟨by rw [E.out]; rfl, by (repeat' (first | (with_reducible assumption) | (with_reducible exact Below.refl _ _) | (with_reducible refine below_sc ?_ ?_) | ((with_reducible show (_ : Nat) ≤ _); omega) | refine Below.setCell ?_ (by first | omega | (simp; done) | (simp; omega)) _ | refine Below.alloc ?_ (by first | omega | (simp; done) | (simp; omega)) _ | refine Below.drew ?_ | refine below_drewN ?_ _ | refine Below.trans ?_ (Below.mono (by assumption) (by first | omega | (simp; done) | (simp; omega)))))⟩
  | true =>
    have e : pEnc a b s = (pBytes a b s, 0) := by unfold pEnc; rw [hm, if_pos rfl]
    have E := Lib.hid e
    have km := fun w => may_any a b s w
    obtain ⟨h0, h1, h2, h3⟩ := mayP_bd hm
    rw [hm] at km
    have KM := Lib.hid km
    clear e hm km
    obtain ⟨hs0, hs1⟩ := hs
    go_enter Try.func21, Try.ntmps21
    go_wp2_with (go_at_call 32; refine (KM.out _).mono ?_; rintro e w1 ⟨rfl, hb1⟩; have hz1 := hb1.size; (try simp only [World.size_alloc] at hz1))
    have b1 := (hb1.block w.heap.size (by simp)).trans (heap_alloc_last w (.cells #[.int .i64 a, .int .i64 b, .int .u64 s] 26))
    have lt0 : w.heap.size < w1.heap.size := by omega
    have G1 := Lib.hid ((Below.heap_alloc w1 (.cells (bvs z16).toArray 58) w.heap.size lt0).trans b1)
    have G4 := Lib.hid (heap_alloc_last w1 (.cells (bvs z16).toArray 58))
    have hX : Below w.heap.size w (w1.alloc (.cells (bvs z16).toArray 58)) := by (repeat' (first | (with_reducible assumption) | (with_reducible exact Below.refl _ _) | (with_reducible refine below_sc ?_ ?_) | ((with_reducible show (_ : Nat) ≤ _); omega) | refine Below.setCell ?_ (by first | omega | (simp; done) | (simp; omega)) _ | refine Below.alloc ?_ (by first | omega | (simp; done) | (simp; omega)) _ | refine Below.drew ?_ | refine below_drewN ?_ _ | refine Below.trans ?_ (Below.mono (by assumption) (by first | omega | (simp; done) | (simp; omega)))))
    clear hb1 b1 KM
    change Code.wp _ _ _ _ (w1.alloc (.cells (bvs z16).toArray 58))
    generalize w1.alloc (.cells (bvs z16).toArray 58) = W at *
    obtain ⟨L, hL⟩ : ∃ L, L = z16 := ⟨_, rfl⟩
    rw [← hL] at G4
    have lL : L.length = 16 := by rw [hL]; rfl
    have HL := Lib.hid hL
    clear hL
    obtain ⟨c0, c1, c2, -, -, -, lt1⟩ := blk3 G1.out
    have lt4 := (Array.getElem?_eq_some_iff.1 G4.out).1
    have ex := fun (e : ExtOf W.heap.size W) k o (h : k < W.heap.size) => ExtOf.cellB e k o h
    refine wp_region_ext_tail W.heap.size 4 (by kernel_rfl) (by kernel_rfl) ?_
    simp only [List.take_succ_cons, List.take_zero, List.drop_succ_cons, List.drop_zero]
    repeat (go_big_quiet_step ((fail)))
    refine wpQuiet_nil ?_
    rintro V1 ⟨⟨_, hV⟩, rfl⟩
    have v1 := (hV.block w.heap.size lt1).trans G1.out
    have v4 := (hV.block w1.heap.size lt4).trans G4.out
    have xv := hX.trans (hV.mono hX.size)
    clear c0 c1 c2 ex hV lt1 lt4 G1 G4 hX
    go_wp2_with fail
    refine (put_any 58 L _ 0 4 16 a _ v4 (by omega) (by omega) (by omega) (by omega) (by omega) (by omega)).mono ?_
    rintro e w' ⟨rfl, rfl⟩
    obtain ⟨L1, hL'⟩ : ∃ L', L' = putC L 0 4 a 4 := ⟨_, rfl⟩
    rw [← hL']
    have lL' : L1.length = 16 := by rw [hL', putC_length _ (by omega) (by omega)]; exact lL
    have G4 := Lib.hid (setRow_heap V1 w1.heap.size _ (bvs L1).toArray _ _ v4)
    have G1 := Lib.hid ((setRow_other V1 w1.heap.size w.heap.size (bvs L1).toArray (by omega)).trans v1)
    have hX : Below w.heap.size w (V1.setRow w1.heap.size (bvs L1).toArray) := below_setRow xv (by omega) _
    have HL' := Lib.hid (hL'.trans (by rw [HL.out]))
    clear hL' v1 v4 xv HL lL
    have HL := HL'
    have lL := lL'
    clear HL' lL'
    generalize V1.setRow w1.heap.size (bvs L1).toArray = W1 at *
    go_wp2_with fail
    obtain ⟨c0, c1, c2, -, -, -, lt1⟩ := blk3 G1.out
    have lt4 := (Array.getElem?_eq_some_iff.1 G4.out).1
    have ex := fun (e : ExtOf W1.heap.size W1) k o (h : k < W1.heap.size) => ExtOf.cellB e k o h
    refine wp_region_ext_tail W1.heap.size 4 (by kernel_rfl) (by kernel_rfl) ?_
    simp only [List.take_succ_cons, List.take_zero, List.drop_succ_cons, List.drop_zero]
    repeat (go_big_quiet_step ((fail)))
    refine wpQuiet_nil ?_
    rintro V2 ⟨⟨_, hV⟩, rfl⟩
    have v1 := (hV.block w.heap.size lt1).trans G1.out
    have v4 := (hV.block w1.heap.size lt4).trans G4.out
    have xv := hX.trans (hV.mono hX.size)
    clear c0 c1 c2 ex hV lt1 lt4 G1 G4 hX
    go_wp2_with fail
    refine (put_any 58 L1 _ 4 4 12 b _ v4 (by omega) (by omega) (by omega) (by omega) (by omega) (by omega)).mono ?_
    rintro e w' ⟨rfl, rfl⟩
    obtain ⟨L2, hL'⟩ : ∃ L', L' = putC L1 4 4 b 4 := ⟨_, rfl⟩
    rw [← hL']
    have lL' : L2.length = 16 := by rw [hL', putC_length _ (by omega) (by omega)]; exact lL
    have G4 := Lib.hid (setRow_heap V2 w1.heap.size _ (bvs L2).toArray _ _ v4)
    have G1 := Lib.hid ((setRow_other V2 w1.heap.size w.heap.size (bvs L2).toArray (by omega)).trans v1)
    have hX : Below w.heap.size w (V2.setRow w1.heap.size (bvs L2).toArray) := below_setRow xv (by omega) _
    have HL' := Lib.hid (hL'.trans (by rw [HL.out]))
    clear hL' v1 v4 xv HL lL
    have HL := HL'
    have lL := lL'
    clear HL' lL'
    generalize V2.setRow w1.heap.size (bvs L2).toArray = W2 at *
    go_wp2_with fail
    obtain ⟨c0, c1, c2, -, -, -, lt1⟩ := blk3 G1.out
    have lt4 := (Array.getElem?_eq_some_iff.1 G4.out).1
    have ex := fun (e : ExtOf W2.heap.size W2) k o (h : k < W2.heap.size) => ExtOf.cellB e k o h
    refine wp_region_ext_tail W2.heap.size 3 (by kernel_rfl) (by kernel_rfl) ?_
    simp only [List.take_succ_cons, List.take_zero, List.drop_succ_cons, List.drop_zero]
    repeat (go_big_quiet_step ((fail)))
    refine wpQuiet_nil ?_
    rintro V3 ⟨⟨_, hV⟩, rfl⟩
    have v1 := (hV.block w.heap.size lt1).trans G1.out
    have v4 := (hV.block w1.heap.size lt4).trans G4.out
    have xv := hX.trans (hV.mono hX.size)
    clear c0 c1 c2 ex hV lt1 lt4 G1 G4 hX
    go_wp2_with fail
    refine (put_any 58 L2 _ 8 8 8 s _ v4 (by omega) (by omega) (by omega) (by omega) (by omega) (by omega)).mono ?_
    rintro e w' ⟨rfl, rfl⟩
    obtain ⟨L3, hL'⟩ : ∃ L', L' = putC L2 8 8 s 8 := ⟨_, rfl⟩
    rw [← hL']
    have lL' : L3.length = 16 := by rw [hL', putC_length _ (by omega) (by omega)]; exact lL
    have G4 := Lib.hid (setRow_heap V3 w1.heap.size _ (bvs L3).toArray _ _ v4)
    have G1 := Lib.hid ((setRow_other V3 w1.heap.size w.heap.size (bvs L3).toArray (by omega)).trans v1)
    have hX : Below w.heap.size w (V3.setRow w1.heap.size (bvs L3).toArray) := below_setRow xv (by omega) _
    have HL' := Lib.hid (hL'.trans (by rw [HL.out]))
    clear hL' v1 v4 xv HL lL
    have HL := HL'
    have lL := lL'
    clear HL' lL'
    generalize V3.setRow w1.heap.size (bvs L3).toArray = W3 at *
    go_wp2_with fail
    have hp : L3 = pBytes a b s := by rw [HL.out]; exact p_puts a b s
    have cv := conv_row (P := Try.prog) Try.underlying43 Try.underlying5 Try.underlying9 (len := 16) (cap := 16) G4.out lL
    rw [hp] at cv
    have CV := Lib.hid cv
    clear cv hp HL
    rw [CV.out]
    go_wp2_with fail
    go_ret2
    exact ⟨by rw [E.out]; rfl, hX⟩
end Go.Proofs.Ythoeklcgdbbbgaa
