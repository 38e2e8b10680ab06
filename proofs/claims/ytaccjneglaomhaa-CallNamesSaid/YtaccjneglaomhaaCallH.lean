/- Walks of jettylaw03: words, many; calls at known arguments. -/
import Derived.Test.YtaccjneglaomhaaCallG
import Derived.Test.YtaccjneglaomhaaVS
import Derived.Test.YtaccjneglaomhaaRdsB
set_option linter.unusedVariables false
namespace Go.Proofs.Ytaccjneglaomhaa
open Go.RowKit

set_option maxHeartbeats 4000000 in
theorem lwords_any (ns : List Int) (v : Value) (w : World) (hv : VS w v (ns.map (Value.int .i64))) (hl : ns.length ≤ 20) :
    Calls Try.prog 57 #[v] w fun e w' => e = .returned (.string (str (wordsL ns))) ∧ Below w.heap.size w w' := by
  obtain ⟨A, c, rfl⟩ := hv.form
  rw [List.length_map] at hv ⊢
  have HV := Lib.hid hv
  clear hv
  have HI : Hid (OwnZ w w.heap.size 5 (.slice none 0 0) (wordsL (ns.take 0)) ∧ Ext w w) := ⟨OwnZ.nil, Ext.refl _⟩
  go_enter Try.func57, Try.ntmps57
  go_wp2_with fail
  go_loopw [3, 4] (fun b i wr => ∃ k : Nat, k ≤ ns.length ∧ i = .int .i64 k ∧ Hid (OwnZ wr w.heap.size 5 b (wordsL (ns.take k)) ∧ Ext w wr)) (fun _ i _ => ns.length - (intOf i).toNat)
  case atStart => exact ⟨0, by omega, rfl, HI⟩
  case round =>
    obtain ⟨k, hk, rfl, HK⟩ := hrel
    obtain ⟨ho, hx⟩ := HK.out
    by_cases hlt : k < ns.length
    · obtain ⟨b, off, rfl, -, hbl, hcc, hj⟩ := HV.out.some_of (by simp; omega)
      have hcell : wr.cell? ⟨b, off + k, none⟩ = some (.int .i64 ns[k]) := by
        rw [hx.cell (p := ⟨b, off + k, none⟩) hbl, hj k (by simpa using hlt)]; simp
      clear hj
      go_wp2_with fail
      refine (Word_any _ (wordsL (ns.take k)) (ns[k] % 4294967296) _ ho.rs (by omega) (by omega) (by rw [wordsL_length]; simp; omega)).mono ?_
      rintro e w1 ⟨v1, rfl, o1, b1⟩
      have o2 := (o1.mono hx.size).z
      rw [← wordsL_take hlt] at o2
      have H2 : Hid (OwnZ w1 w.heap.size 5 v1 (wordsL (ns.take (k + 1))) ∧ Ext w w1) := ⟨o2, hx.trans b1⟩
      clear o1 o2 b1
      go_wp2_with fail
      go_roundw
      case rel => exact ⟨k + 1, by omega, by go_num, H2⟩
      case measure => simp [intOf]; omega
    · obtain rfl : k = ns.length := by omega
      obtain ⟨wo, rfl⟩ : ∃ wo : World, wo = wr := ⟨_, rfl⟩
      rw [List.take_length] at ho
      have hcv := ho.rs.cv
      go_wp2_with fail
      go_ret
      exact ⟨rfl, hx⟩

/-- Words of numbers that were just laid out. -/
theorem lw_e {w : World} (ns : List Int) (bs : List UInt8) (g n : Nat) (hg : g = w.heap.size) (hn : ns.length = n) (hl : ns.length ≤ 20) (he : wordsL ns = bs) :
    Calls Try.prog 57 #[.slice (some ⟨g, 0, none⟩) n n] (w.alloc (.cells (ns.map (Value.int .i64)).toArray 3)) fun e w' => e = .returned (.string (str bs)) ∧ Ext w w' := by
  subst hg he hn
  refine (lwords_any ns _ _ ?_ hl).mono fun e w' ⟨h1, h2⟩ => ⟨h1, Ext.trans (ext_alloc w _) h2⟩
  refine .inr ⟨w.heap.size, 0, ns.length, by simp, by simp, by simp, fun j hj => ?_⟩
  rw [Nat.zero_add, cell_of_row _ _ _ _ _ _ (heap_alloc_last w _)]
  simp only [List.getElem?_toArray]
  exact List.getElem?_eq_getElem hj
theorem cRead_e {w : World} (s : List UInt8) (v : Value) (h : heV (cR s) = v) (hl : s.length ≤ 10000) :
    Calls Try.prog 32 #[.string (str s)] w fun e w' => e = .returned v ∧ Ext w w' := by
  subst h; exact cRead_any s w (by omega)
theorem cHear_e {w : World} (s : List UInt8) (v : Value) (h : aeV (cH s) = v) (hl : s.length ≤ 10000) :
    Calls Try.prog 34 #[.string (str s)] w fun e w' => e = .returned v ∧ Ext w w' := by
  subst h; exact cHear_any s w (by omega)
theorem cWrite_e {w : World} (c x p : Int) (l : List UInt8) (v : Value) (h : seV (cW c x p l) = v) (hl : l.length ≤ 10000) :
    Calls Try.prog 28 #[.agg #[.int .i64 c, .int .i64 x, .int .i64 p, .string (str l)]] w fun e w' => e = .returned v ∧ Ext w w' := by
  subst h; exact cWrite_any c x p l w (by omega)
theorem cTell_e {w : World} (x e : Int) (l : List UInt8) (v : Value) (h : seV (cT x e l) = v) (hl : l.length ≤ 10000) :
    Calls Try.prog 30 #[.agg #[.int .i64 x, .int .i64 e, .string (str l)]] w fun r w' => r = .returned v ∧ Ext w w' := by
  subst h; exact cTell_any x e l w (by omega)
end Go.Proofs.Ytaccjneglaomhaa
