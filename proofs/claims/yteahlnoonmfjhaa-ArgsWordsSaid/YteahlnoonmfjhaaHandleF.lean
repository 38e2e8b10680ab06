/- Walks: the handle of bytes by the document. -/
import Derived.Test.YteahlnoonmfjhaaHandleE
import Derived.Test.YteahlnoonmfjhaaAlloc
set_option linter.unusedVariables false
set_option maxRecDepth 100000
namespace Go.Proofs.Yteahlnoonmfjhaa
open Go.RowKit

theorem num4_pre : ∀ (m : List UInt8) (hm : m.length = 4), num4 ((str m)[0]'(by rw [str_size]; omega)) ((str m)[1]'(by rw [str_size]; omega)) ((str m)[2]'(by rw [str_size]; omega)) ((str m)[3]'(by rw [str_size]; omega)) = pre m 0 4
  | [a, b, c, d], _ => by
    simp [pre, num4, str_get]
    omega
theorem number_l (m : List UInt8) (hm : m.length = 4) (w : World) : Calls Try.prog 152 #[.string (str m)] w fun e w' => e = .returned (.int .i64 (pre m 0 4)) ∧ Below w.heap.size w w' := by
  have h := hnumber_any (str m) w (by rw [str_size]; omega) (by rw [str_size]; omega)
  rwa [num4_pre m hm] at h

theorem pre_cut (l : List UInt8) (o : Nat) (h : o + 4 ≤ l.length) : pre ((l.drop o).take 4) 0 4 = n4 l o := by
  simp [n4, pre, List.getElem?_drop]

theorem rdecode_short (l : List UInt8) (hl : l.length ≠ 24) (h63 : l.length ≤ 9223372036854775807) (w : World) :
    Calls Try.prog 129 #[.string (str l)] w fun e w' => e = .returned (decV l) ∧ Below w.heap.size w w' := by
  have hd : decV l = .tuple #[hv 0 0 0, .int .i64 4] := by unfold decV dec; rw [if_neg (fun h => hl h.1)]
  rw [hd]
  have hs : (str l).size = l.length := str_size l
  have hn : (((str l).size : Int) != 24) = true := by rw [hs, bne_iff_ne]; omega
  have hn2 : (((l.length : Nat) : Int) != 24) = true := by rw [bne_iff_ne]; omega
  unfold hv
  go_enter Try.func129, Try.ntmps129
  go_wp2
  exact bodyPost_ret (v := .tuple #[hv 0 0 0, .int .i64 4]) (by simp [results, Try.results129, go_sem]; rfl) rfl ⟨rfl, by (repeat' (first | (with_reducible assumption) | (with_reducible exact Below.refl _ _) | (with_reducible refine below_sc ?_ ?_) | ((with_reducible show (_ : Nat) ≤ _); omega) | refine Below.setCell ?_ (by first | omega | (simp; done) | (simp; omega)) _ | refine Below.alloc ?_ (by first | omega | (simp; done) | (simp; omega)) _ | refine Below.drew ?_ | refine below_drewN ?_ _ | refine Below.trans ?_ (Below.mono (by assumption) (by first | omega | (simp; done) | (simp; omega)))))⟩

theorem rdecode_long (l : List UInt8) (hl : l.length = 24) (w : World) :
    Calls Try.prog 129 #[.string (str l)] w fun e w' => e = .returned (decV l) ∧ Below w.heap.size w w' := by
  have hs : (str l).size = 24 := by rw [str_size, hl]
  have p4 := pre_cut l 4 (by omega)
  have p8 := pre_cut l 8 (by omega)
  have p12 := pre_cut l 12 (by omega)
  have hx := str_extract l
  obtain ⟨R, hR⟩ : ∃ R, R = decV l := ⟨_, rfl⟩
  rw [← hR]
  have HR := Lib.hid hR
  clear hR
  go_enter Try.func129, Try.ntmps129
  go_wp2
  refine wp_region_alloc (w.heap.size + 1) 10 (T := 32) (z := #[.int .i64 0, .int .i64 0, .int .i64 0]) (by kernel_rfl) (by kernel_rfl) (by simp) rfl rfl rfl (fun _ _ => by go_simp) (by kernel_rfl) ?_
  apply Exists.intro
  refine ⟨fun ψ hψ hne => ?_, ?_⟩
  · simp only [List.take_succ_cons, List.take_zero]
    repeat (go_big_quiet_step ((go_at_call 152; exact extP_of hψ (by simp) (number_l _ (by simp; omega) _))))
    exact wpQuiet_nil rfl
  · intro g w2 hb2 hg hh
    simp only [List.drop_succ_cons, List.drop_zero]
    obtain ⟨c0, c1, c2, f0, f1, f2, hgz⟩ := blk3 hh
    have hr := (hb2.block w.heap.size (by omega)).trans (heap_alloc_last _ _)
    obtain ⟨r0, r1, r2, e0, e1, e2, hrz⟩ := blk3 hr
    have hB : Below w.heap.size w w2 := by (repeat' (first | (with_reducible assumption) | (with_reducible exact Below.refl _ _) | (with_reducible refine below_sc ?_ ?_) | ((with_reducible show (_ : Nat) ≤ _); omega) | refine Below.setCell ?_ (by first | omega | (simp; done) | (simp; omega)) _ | refine Below.alloc ?_ (by first | omega | (simp; done) | (simp; omega)) _ | refine Below.drew ?_ | refine below_drewN ?_ _ | refine Below.trans ?_ (Below.mono (by assumption) (by first | omega | (simp; done) | (simp; omega)))))
    have Hh := Lib.hid hh
    have Hr := Lib.hid hr
    clear hh hr hb2 p4 p8 p12 hx
    have hgn : g ≠ w.heap.size := by omega
    have hgn' : w.heap.size ≠ g := by omega
    have hd := HR.out
    unfold decV dec at hd
    generalize n4 l 4 = A at *
    generalize n4 l 8 = B at *
    generalize n4 l 12 = C at *
    have HD := Lib.hid hd
    clear hd
    go_wp2_with fail
    rw [set3 _ _ _ Hh.out]
    have hh3 := setRow_heap w2 g _ #[.int .i64 A, .int .i64 B, .int .i64 C] _ _ Hh.out
    have hr3 := (setRow_other w2 g w.heap.size #[.int .i64 A, .int .i64 B, .int .i64 C] (by omega)).trans Hr.out
    have hB3 := below_setRow hB (g := g) (by omega) #[.int .i64 A, .int .i64 B, .int .i64 C]
    clear c0 c1 c2 f0 f1 f2 r0 r1 r2 e0 e1 e2 hgz hrz Hh Hr hB
    generalize w2.setRow g #[.int .i64 A, .int .i64 B, .int .i64 C] = w3 at *
    have key : ∃ E T, Calls Try.prog 67 #[hv A B C] w3 (fun e w' => e = .returned (.tuple #[.string (str T), .int .i64 E]) ∧ Below w3.heap.size w3 w') ∧ ((hmayB A B C = true ∧ E = 0 ∧ T = hbytes A B C) ∨ (hmayB A B C = false ∧ E = 4)) := by
      cases hm : hmayB A B C with
      | true => exact ⟨0, hbytes A B C, rencode_yes A B C hm w3, .inl ⟨rfl, rfl, rfl⟩⟩
      | false => exact ⟨4, [], rencode_no A B C hm w3, .inr ⟨rfl, rfl⟩⟩
    obtain ⟨E, T, hcall, hcase⟩ := key
    have Hc := Lib.hid hcall
    have HC := Lib.hid hcase
    clear hcall hcase
    refine Hc.out.mono ?_
    rintro e w4 ⟨rfl, hb4⟩
    have hh4 := (hb4.block g (Array.getElem?_eq_some_iff.1 hh3).1).trans hh3
    have hr4 := (hb4.block w.heap.size (Array.getElem?_eq_some_iff.1 hr3).1).trans hr3
    have hB4 : Below w.heap.size w w4 := hB3.trans (hb4.mono (by have := (Array.getElem?_eq_some_iff.1 hr3).1; omega))
    clear hh3 hr3 hB3 hb4 Hc
    obtain ⟨c0, c1, c2, f0, f1, f2, hgz⟩ := blk3 hh4
    obtain ⟨r0, r1, r2, e0, e1, e2, hrz⟩ := blk3 hr4
    have Hr := Lib.hid hr4
    have HB := Lib.hid hB4
    clear hh4 hr4 hB4
    rcases HC.out with ⟨hm, rfl, rfl⟩ | ⟨hm, rfl⟩
    · have Hm := Lib.hid hm
      clear hm HC
      go_wp2
      · rename_i hne
        have hne' : ¬ hbytes A B C = l := by
          intro h
          rw [h] at hne
          simp at hne
        have hR : R = .tuple #[hv 0 0 0, .int .i64 4] := by rw [HD.out, if_neg (fun h => hne' h.2.2)]
        refine bodyPost_ret (v := R) (by rw [hR]; simp only [results, Try.results129]; go_simp; rfl) rfl ⟨rfl, ?_⟩
        have := HB.out
        (repeat' (first | (with_reducible assumption) | (with_reducible exact Below.refl _ _) | (with_reducible refine below_sc ?_ ?_) | ((with_reducible show (_ : Nat) ≤ _); omega) | refine Below.setCell ?_ (by first | omega | (simp; done) | (simp; omega)) _ | refine Below.alloc ?_ (by first | omega | (simp; done) | (simp; omega)) _ | refine Below.drew ?_ | refine below_drewN ?_ _ | refine Below.trans ?_ (Below.mono (by assumption) (by first | omega | (simp; done) | (simp; omega)))))
      · rename_i hne
        have hne' : hbytes A B C = l := by simpa [strL] using hne
        have hR : R = .tuple #[hv A B C, .int .i64 0] := by rw [HD.out, if_pos ⟨hl, Hm.out, hne'⟩]
        refine bodyPost_ret (v := R) (by rw [hR]; simp only [results, Try.results129]; go_simp; rfl) rfl ⟨rfl, ?_⟩
        have := HB.out
        (repeat' (first | (with_reducible assumption) | (with_reducible exact Below.refl _ _) | (with_reducible refine below_sc ?_ ?_) | ((with_reducible show (_ : Nat) ≤ _); omega) | refine Below.setCell ?_ (by first | omega | (simp; done) | (simp; omega)) _ | refine Below.alloc ?_ (by first | omega | (simp; done) | (simp; omega)) _ | refine Below.drew ?_ | refine below_drewN ?_ _ | refine Below.trans ?_ (Below.mono (by assumption) (by first | omega | (simp; done) | (simp; omega)))))
    · have Hm := Lib.hid hm
      clear hm HC
      have hR : R = .tuple #[hv 0 0 0, .int .i64 4] := by rw [HD.out, if_neg (fun h => by rw [Hm.out] at h; exact absurd h.2.1 (by simp))]
      have HR2 := Lib.hid hR
      clear hR
      go_wp2
      refine bodyPost_ret (v := R) (by rw [HR2.out]; simp only [results, Try.results129]; go_simp; rfl) rfl ⟨rfl, ?_⟩
      have := HB.out
      (repeat' (first | (with_reducible assumption) | (with_reducible exact Below.refl _ _) | (with_reducible refine below_sc ?_ ?_) | ((with_reducible show (_ : Nat) ≤ _); omega) | refine Below.setCell ?_ (by first | omega | (simp; done) | (simp; omega)) _ | refine Below.alloc ?_ (by first | omega | (simp; done) | (simp; omega)) _ | refine Below.drew ?_ | refine below_drewN ?_ _ | refine Below.trans ?_ (Below.mono (by assumption) (by first | omega | (simp; done) | (simp; omega)))))
end Go.Proofs.Yteahlnoonmfjhaa
