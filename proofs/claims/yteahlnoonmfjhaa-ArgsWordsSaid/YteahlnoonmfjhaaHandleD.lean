/- Walks: a handle's bytes, and the handle of bytes, by the program and by the document. -/
import Derived.Test.YteahlnoonmfjhaaHandleC
set_option linter.unusedVariables false
set_option maxRecDepth 100000
namespace Go.Proofs.Yteahlnoonmfjhaa
open Go.RowKit

theorem hmayB_spec {s i g : Int} (h : hmayB s i g = true) : 0 ≤ s ∧ s ≤ 2147483647 ∧ 1 ≤ i ∧ i ≤ 2147483647 ∧ 0 ≤ g ∧ g ≤ 2147483647 := by simpa [hmayB] using h

theorem encode_no (s i g : Int) (h : hmayB s i g = false) (w : World) :
    Calls Try.prog 96 #[hv s i g] w fun e w' => e = .returned (.tuple #[.string ⟨#[]⟩, .int .i64 4]) ∧ Below w.heap.size w w' := by
  have H := Lib.hid h
  clear h
  unfold hv
  go_enter Try.func96, Try.ntmps96
  go_wp2_with (go_at_call 140; refine (hmay_any s i g _).mono ?_; rintro e w1 ⟨rfl, hb⟩; rw [H.out])
  go_ret2
  exact ⟨rfl, ((Below.refl _ _).alloc (Nat.le_refl _) _).trans (hb.mono (by simp))⟩

theorem encode_yes (s i g : Int) (h : hmayB s i g = true) (w : World) :
    Calls Try.prog 96 #[hv s i g] w fun e w' => e = .returned (.tuple #[.string (str (hbytes s i g)), .int .i64 0]) ∧ Below w.heap.size w w' := by
  have hs := hmayB_spec h
  have H := Lib.hid h
  clear h
  unfold hv
  go_enter Try.func96, Try.ntmps96
  go_wp2_with (go_at_call 140; refine (hmay_any s i g _).mono ?_; rintro e w1 ⟨rfl, hb⟩; rw [H.out]; obtain ⟨hc, hf⟩ := bcell hb)
  have hz : w.heap.size + 1 ≤ w1.heap.size := by have := hb.size; simpa using this
  go_wp2_with fail
  refine (hwrite_any s i g (by omega) (by omega) (by omega) (by omega) (by omega) (by omega) _).mono ?_
  rintro e w2 ⟨rfl, hb2⟩
  go_wp2_with (refine wpList_st rfl 206 (.tmp 4) (.tmp 9) rfl (storeAt_row (heap_alloc_last _ _) (by rw [info24, bvs_size, hbytes_length]) (by rw [bvs_size, hbytes_length]; rfl) (oneCells _)) ?_; rw [World.setRow_alloc_new]; simp only [Act.put])
  rw [conv_row Try.underlying47 Try.underlying5 Try.underlying9 (heap_alloc_last _ _) (hbytes_length _ _ _)]
  go_wp2
  go_ret2
  exact ⟨rfl, (((Below.refl _ _).alloc (Nat.le_refl _) _).trans (hb.mono (by simp))).trans ((hb2.mono (by omega)).alloc (by have := hb2.size; omega) _)⟩

theorem rencode_no (s i g : Int) (h : hmayB s i g = false) (w : World) :
    Calls Try.prog 67 #[hv s i g] w fun e w' => e = .returned (.tuple #[.string ⟨#[]⟩, .int .i64 4]) ∧ Below w.heap.size w w' := by
  have H := Lib.hid h
  clear h
  unfold hv
  go_enter Try.func67, Try.ntmps67
  go_wp2_with (go_at_call 119; refine (hrmay_any s i g _).mono ?_; rintro e w1 ⟨rfl, hb⟩; rw [H.out])
  go_ret2
  exact ⟨rfl, ((Below.refl _ _).alloc (Nat.le_refl _) _).trans (hb.mono (by simp))⟩

theorem be4_length (n : Int) : (be4 n).length = 4 := rfl
theorem byteOf_congr {a b : Int} (h : a % 256 = b % 256) : byteOf a = byteOf b := by unfold byteOf; rw [h]
theorem be4_beN (n : Int) (h0 : 0 ≤ n) (h1 : n ≤ 18446744073709551615) : be4 (n / 4294967296) ++ be4 (n % 4294967296) = beN n 8 := by
  simp only [be4, beN, List.cons_append, List.nil_append, List.cons.injEq, and_true]
  refine ⟨?_, ?_, ?_, ?_, ?_, ?_, ?_, ?_⟩ <;> (refine byteOf_congr ?_; simp <;> omega)
theorem rencode_yes (s i g : Int) (h : hmayB s i g = true) (w : World) :
    Calls Try.prog 67 #[hv s i g] w fun e w' => e = .returned (.tuple #[.string (str (hbytes s i g)), .int .i64 0]) ∧ Below w.heap.size w w' := by
  have hs := hmayB_spec h
  have H := Lib.hid h
  clear h
  unfold hv
  go_enter Try.func67, Try.ntmps67
  go_wp2_with (go_at_call 119; refine (hrmay_any s i g _).mono ?_; rintro e w1 ⟨rfl, hb⟩; rw [H.out]; obtain ⟨hc, hf⟩ := bcell hb)
  have hz : w.heap.size + 1 ≤ w1.heap.size := by have := hb.size; simpa using this
  have hb : Below w.heap.size w w1 := ((Below.refl _ _).alloc (Nat.le_refl _) _).trans (hb.mono (by simp))
  have c0 : ∀ e : ExtOf (w.heap.size + 1) w1, e.val.cell? ⟨w.heap.size, 0, none⟩ = some (.int .i64 s) := fun e => e.cell (by rw [hc _ _ (by simp)]; go_simp) (by simp)
  have c1 : ∀ e : ExtOf (w.heap.size + 1) w1, e.val.cell? ⟨w.heap.size, 1, none⟩ = some (.int .i64 i) := fun e => e.cell (by rw [hc _ _ (by simp)]; go_simp) (by simp)
  have c2 : ∀ e : ExtOf (w.heap.size + 1) w1, e.val.cell? ⟨w.heap.size, 2, none⟩ = some (.int .i64 g) := fun e => e.cell (by rw [hc _ _ (by simp)]; go_simp) (by simp)
  have ss := fun l => str_size l
  have s4 := fun n => be4_length n
  have sa := fun a b => str_append a b
  refine wp_region_ext (w.heap.size + 1) (by kernel_rfl) (by kernel_rfl) ?_
  repeat (go_big_quiet_step ((go_at_call 120; exact ext_of hz (hword_any _ _ (by omega) (by omega)))))
  refine wpQuiet_nil ?_
  rintro w2 ⟨⟨_, hb2⟩, rfl⟩
  have eh : be4 1 ++ (be4 s ++ (be4 i ++ be4 g)) = head16 s i g := by simp [head16, be4, beN]
  go_wp2_with fail
  rw [eh]
  obtain ⟨L, hL⟩ : ∃ L, L = head16 s i g := ⟨_, rfl⟩
  have l16 : L.length = 16 := by rw [hL]; exact head16_length _ _ _
  rw [← hL]
  have HL := Lib.hid hL
  clear hL eh c0 c1 c2 hc hf
  have hsz : (str L).size = 16 := by rw [str_size, l16]
  go_loop [5, 6] (fun n c => ∃ k : Nat, k ≤ 16 ∧ c = .int .i64 k ∧ n = .int .u64 (fnv (L.take k))) (fun _ c => 16 - (intOf c).toNat)
  case atStart => exact ⟨0, Nat.zero_le _, rfl, by simp [fnv]⟩
  case round =>
    obtain ⟨k, hk, rfl, rfl⟩ := hrel
    by_cases hlt : k < 16
    · have hb2 := (L[k]'(by omega)).toNat_lt
      have hks : k < (str L).size := by omega
      have hget : (str L)[k] = L[k]'(by omega) := rfl
      have hlt' : (k : Int) < 16 := by omega
      go_wp2
      go_round
      case rel => exact ⟨k + 1, by omega, by go_num, by
        rw [List.take_succ_eq_append_getElem (by omega)]
        unfold fnv
        rw [List.foldl_append]
        rfl⟩
      case measure => simp [intOf]; omega
    · obtain rfl : k = 16 := by omega
      rw [show L.take 16 = L from by rw [← l16, List.take_length]]
      have hf := fnv_bd L
      have e8 := be4_beN (fnv L) hf.1 hf.2
      have H8 := Lib.hid e8
      clear e8
      go_wp2_with (go_at_call 120; refine (hword_any _ _ (by omega) (by omega)).mono ?_; rintro e w3 ⟨rfl, hb3⟩; have hz3 := hb3.size; (try simp only [World.size_alloc] at hz3))
      go_ret2
      refine ⟨?_, ?_⟩
      · rw [H8.out, HL.out]; rfl
      · have hz2 := hb2.size
        (repeat' (first | (with_reducible assumption) | (with_reducible exact Below.refl _ _) | (with_reducible refine below_sc ?_ ?_) | ((with_reducible show (_ : Nat) ≤ _); omega) | refine Below.setCell ?_ (by first | omega | (simp; done) | (simp; omega)) _ | refine Below.alloc ?_ (by first | omega | (simp; done) | (simp; omega)) _ | refine Below.drew ?_ | refine below_drewN ?_ _ | refine Below.trans ?_ (Below.mono (by assumption) (by first | omega | (simp; done) | (simp; omega)))))
end Go.Proofs.Yteahlnoonmfjhaa
