/- ArgsNames: the law's many, word, text, ints. -/
import Derived.Test.YteahlnoonmfjhaaAbW
set_option linter.unusedVariables false
set_option maxRecDepth 100000
namespace Go.Proofs.Yteahlnoonmfjhaa
open Go.RowKit

theorem many05_any (n : Nat) (Z : List UInt8) (hZ : List.replicate n 0 = Z) (hn : n ≤ 100000) (w : World) : Calls Try.prog 39 #[.int .i64 n] w fun e w' => e = .returned (.string (str Z)) ∧ Ext w w' := by
  have hZL : Z.length = n := by rw [← hZ, List.length_replicate]
  have hmk := mkR w n n (by omega) (Nat.le_refl _)
  rw [hZ] at hmk
  have hcv : (convert 47 9 (.slice (some ⟨w.heap.size, 0, none⟩) n n)).run Try.prog (w.alloc (.cells (bvs Z).toArray 5)) = .ok (.string (str Z)) (w.alloc (.cells (bvs Z).toArray 5)) := by
    have h1 := rs_block (l := Z) (m := Z) (off := 0) (c := n) (heap_alloc_last w (.cells (bvs Z).toArray 5)) (by simp) (by omega)
    rw [hZL] at h1
    exact RS.conv h1 Try.underlying47 Try.underlying5 Try.underlying9
  have HX := Lib.hid (extAl w (.cells (bvs Z).toArray 5))
  clear hZ hZL
  go_enter Try.func39, Try.ntmps39
  go_wp2
  go_ret
  exact ⟨rfl, HX.out⟩
theorem word05_any (n : Int) (h0 : 0 ≤ n) (h1 : n ≤ 4294967295) (w : World) : Calls Try.prog 43 #[.int .u32 n] w fun e w' => e = .returned (.string (str (beN n 4))) ∧ Ext w w' := by
  have KW := Lib.hid (Word_any (.slice none 0 0) [] n w RS.nil h0 h1 (by decide))
  go_enter Try.func43, Try.ntmps43
  go_wp2_with fail
  refine KW.out.mono ?_
  rintro e w1 ⟨v, rfl, ho, hx⟩
  have hcv := RS.conv ho.rs Try.underlying47 Try.underlying5 Try.underlying9
  rw [List.nil_append] at hcv
  have HX := Lib.hid hx
  clear ho hx KW
  go_wp2_with fail
  go_ret
  exact ⟨rfl, HX.out⟩
theorem text05_any (s : List UInt8) (hs : s.length ≤ 400000) (w : World) : Calls Try.prog 42 #[.string (str s)] w fun e w' => e = .returned (.string (str (beN s.length 4 ++ fixL s))) ∧ Ext w w' := by
  have KW := Lib.hid (Text_any (.slice none 0 0) [] s w RS.nil (by decide) hs)
  go_enter Try.func42, Try.ntmps42
  go_wp2_with fail
  refine KW.out.mono ?_
  rintro e w1 ⟨v, rfl, ho, hx⟩
  have hcv := RS.conv ho.rs Try.underlying47 Try.underlying5 Try.underlying9
  rw [List.nil_append] at hcv
  have HX := Lib.hid hx
  clear ho hx KW
  go_wp2_with fail
  go_ret
  exact ⟨rfl, HX.out⟩
def i8L (ns : List Int) : List UInt8 := ns.flatMap fun n => beL (n % 18446744073709551616)
theorem i8L_length (ns : List Int) : (i8L ns).length = 8 * ns.length := by
  induction ns with
  | nil => rfl
  | cons n ns ih => rw [i8L, List.flatMap_cons, List.length_append, List.length_cons]; unfold i8L at ih; rw [ih]; simp [beL, beN_length]; omega
set_option maxHeartbeats 4000000 in
theorem ints05_any (ns : List Int) (v : Value) (w : World) (hv : RR w 1 v ns.length (ics ns)) (hl : ns.length ≤ 20) (hb : ∀ n ∈ ns, I64 n) :
    Calls Try.prog 41 #[v] w fun e w' => e = .returned (.string (str (i8L ns))) ∧ Ext w w' := by
  obtain ⟨A, c, rfl⟩ := hv.form
  have HV := Lib.hid hv
  have HBD := Lib.hid hb
  have HI : Hid (RS w (.slice none 0 0) (i8L (ns.take 0)) ∧ Ext w w) := ⟨RS.nil, Ext.refl _⟩
  clear hv hb
  go_enter Try.func41, Try.ntmps41
  go_wp2_with fail
  go_loopw [3, 4] (fun b i wr => ∃ k : Nat, k ≤ ns.length ∧ i = .int .i64 k ∧ Hid (RS wr b (i8L (ns.take k)) ∧ Ext w wr)) (fun _ i _ => ns.length - (intOf i).toNat)
  case atStart => exact ⟨0, by omega, rfl, HI⟩
  case round =>
    obtain ⟨k, hk, rfl, HK⟩ := hrel
    by_cases hlt : k < ns.length
    · obtain ⟨b, off, rfl, hbl, hcc, hj⟩ := (HV.out.ext HK.out.2).at (by omega)
      have hcell : wr.cell? ⟨b, off + k, none⟩ = some (.int .i64 ns[k]) := by
        rw [hj k (by simp [ics]; exact hlt)]; simp [ics]
      clear hj
      have hbd := HBD.out ns[k] (List.getElem_mem _)
      have e4 : i8L (ns.take k) ++ beL (ns[k] % 18446744073709551616) = i8L (ns.take (k + 1)) := by
        unfold i8L
        rw [List.take_add_one, List.getElem?_eq_getElem hlt, List.flatMap_append]
        simp
      have KI := Lib.hid (Int_any _ _ ns[k] wr HK.out.1 hbd.1 hbd.2 (by rw [i8L_length, List.length_take]; omega))
      rw [e4] at KI
      clear e4 hbd
      go_wp2_with fail
      refine KI.out.mono ?_
      rintro e w1 ⟨v1, rfl, ho, hx⟩
      have H2 : Hid (RS w1 v1 (i8L (ns.take (k + 1))) ∧ Ext w w1) := Lib.hid ⟨ho.rs, Ext.trans HK.out.2 hx⟩
      clear ho hx KI HK hcell
      go_wp2_with fail
      go_roundw
      case rel => exact ⟨k + 1, by omega, by go_num, H2⟩
      case measure => simp [intOf]; omega
    · obtain rfl : k = ns.length := by omega
      obtain ⟨wo, rfl⟩ : ∃ wo : World, wo = wr := ⟨_, rfl⟩
      obtain ⟨ho, hx⟩ := HK.out
      rw [List.take_length] at ho
      have hcv := RS.conv ho Try.underlying47 Try.underlying5 Try.underlying9
      go_wp2_with fail
      go_ret
      exact ⟨rfl, hx⟩
end Go.Proofs.Yteahlnoonmfjhaa
