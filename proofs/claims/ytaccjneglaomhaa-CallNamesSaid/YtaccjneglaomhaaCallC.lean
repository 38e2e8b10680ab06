/- Walks of jettyref03, that write: may, Write, Tell. -/
import Derived.Test.YtaccjneglaomhaaCallB
set_option linter.unusedVariables false
namespace Go.Proofs.Ytaccjneglaomhaa
open Go.RowKit

set_option maxHeartbeats 4000000 in
theorem rWrite_any (c x p : Int) (l : List UInt8) (w : World) (hl : l.length ≤ 10000) :
    Calls Try.prog 29 #[headV c x p l] w fun e w' => e = .returned (seV (cW c x p l)) ∧ Below w.heap.size w w' := by
  have hs := str_size l
  unfold headV
  by_cases h0 : 1 ≤ c
  case neg =>
    have hr : cW c x p l = ([], 1) := by simp [cW, h0]
    rw [hr]
    go_enter Try.func29, Try.ntmps29
    go_wp2
    go_ret2
    exact ⟨rfl, by (repeat' (first | (with_reducible assumption) | (with_reducible exact Below.refl _ _) | (with_reducible refine below_sc ?_ ?_) | ((with_reducible show (_ : Nat) ≤ _); omega) | refine Below.setCell ?_ (by first | omega | (simp; done) | (simp; omega)) _ | refine Below.alloc ?_ (by first | omega | (simp; done) | (simp; omega)) _ | refine Below.drew ?_ | refine below_drewN ?_ _ | refine Below.trans ?_ (Below.mono (by assumption) (by first | omega | (simp; done) | (simp; omega)))))⟩
  by_cases h1 : c ≤ 16
  case neg =>
    have hr : cW c x p l = ([], 1) := by simp [cW, h1]
    rw [hr]
    go_enter Try.func29, Try.ntmps29
    go_wp2
    go_ret2
    exact ⟨rfl, by (repeat' (first | (with_reducible assumption) | (with_reducible exact Below.refl _ _) | (with_reducible refine below_sc ?_ ?_) | ((with_reducible show (_ : Nat) ≤ _); omega) | refine Below.setCell ?_ (by first | omega | (simp; done) | (simp; omega)) _ | refine Below.alloc ?_ (by first | omega | (simp; done) | (simp; omega)) _ | refine Below.drew ?_ | refine below_drewN ?_ _ | refine Below.trans ?_ (Below.mono (by assumption) (by first | omega | (simp; done) | (simp; omega)))))⟩
  cases h2 : isW x
  case false =>
    have hr : cW c x p l = ([], 1) := by simp [cW, h2]
    rw [hr]
    go_enter Try.func29, Try.ntmps29
    go_wp2_with (go_at_call 67; with_reducible refine (rword_b _ _ h2 _).mono ?_; rintro r w' ⟨rfl, rfl⟩)
    go_ret2
    exact ⟨rfl, by (repeat' (first | (with_reducible assumption) | (with_reducible exact Below.refl _ _) | (with_reducible refine below_sc ?_ ?_) | ((with_reducible show (_ : Nat) ≤ _); omega) | refine Below.setCell ?_ (by first | omega | (simp; done) | (simp; omega)) _ | refine Below.alloc ?_ (by first | omega | (simp; done) | (simp; omega)) _ | refine Below.drew ?_ | refine below_drewN ?_ _ | refine Below.trans ?_ (Below.mono (by assumption) (by first | omega | (simp; done) | (simp; omega)))))⟩
  cases h3 : isW p
  case false =>
    have hr : cW c x p l = ([], 1) := by simp [cW, h3]
    rw [hr]
    go_enter Try.func29, Try.ntmps29
    go_wp2_with (first | (go_at_call 67; with_reducible refine (rword_b _ _ h2 _).mono ?_; rintro r w' ⟨rfl, rfl⟩) | (go_at_call 67; with_reducible refine (rword_b _ _ h3 _).mono ?_; rintro r w' ⟨rfl, rfl⟩))
    go_ret2
    exact ⟨rfl, by (repeat' (first | (with_reducible assumption) | (with_reducible exact Below.refl _ _) | (with_reducible refine below_sc ?_ ?_) | ((with_reducible show (_ : Nat) ≤ _); omega) | refine Below.setCell ?_ (by first | omega | (simp; done) | (simp; omega)) _ | refine Below.alloc ?_ (by first | omega | (simp; done) | (simp; omega)) _ | refine Below.drew ?_ | refine below_drewN ?_ _ | refine Below.trans ?_ (Below.mono (by assumption) (by first | omega | (simp; done) | (simp; omega)))))⟩
  by_cases h4 : l.length % 4 = 0
  case neg =>
    have hr : cW c x p l = ([], 1) := by simp [cW, wh, h4]
    have h4' : ¬ (l.length : Int) % 4 = 0 := by omega
    have h4b : ((l.length : Int) % 4 != 0) = true := bne_iff_ne.2 h4'
    rw [hr]
    go_enter Try.func29, Try.ntmps29
    go_wp2_with (first | (go_at_call 67; with_reducible refine (rword_b _ _ h2 _).mono ?_; rintro r w' ⟨rfl, rfl⟩) | (go_at_call 67; with_reducible refine (rword_b _ _ h3 _).mono ?_; rintro r w' ⟨rfl, rfl⟩))
    go_ret2
    exact ⟨rfl, by (repeat' (first | (with_reducible assumption) | (with_reducible exact Below.refl _ _) | (with_reducible refine below_sc ?_ ?_) | ((with_reducible show (_ : Nat) ≤ _); omega) | refine Below.setCell ?_ (by first | omega | (simp; done) | (simp; omega)) _ | refine Below.alloc ?_ (by first | omega | (simp; done) | (simp; omega)) _ | refine Below.drew ?_ | refine below_drewN ?_ _ | refine Below.trans ?_ (Below.mono (by assumption) (by first | omega | (simp; done) | (simp; omega)))))⟩
  have h4' : (l.length : Int) % 4 = 0 := by omega
  obtain ⟨ns, hns⟩ : ∃ ns : List Int, ns = [x, 0, 284, 3, c, p] := ⟨_, rfl⟩
  have hn6 : ns.length = 6 := by rw [hns]; rfl
  have hA : #[Value.int .i64 x, .int .i64 0, .int .i64 284, .int .i64 3, .int .i64 c, .int .i64 p] = (ns.map (Value.int .i64)).toArray := by rw [hns]; rfl
  have hr : cW c x p l = if l.length ≤ 4072 then (wordsL ns ++ l, 0) else ([], 40) := by simp [cW, h0, h1, h2, h3, wh, h4, hns]
  have HR := Lib.hid hr
  clear hr
  have HA := Lib.hid hA
  have HN := Lib.hid hns
  clear hns hA
  go_enter Try.func29, Try.ntmps29
  go_wp2_with (first | (go_at_call 67; with_reducible refine (rword_b _ _ h2 _).mono ?_; rintro r w' ⟨rfl, rfl⟩) | (go_at_call 67; with_reducible refine (rword_b _ _ h3 _).mono ?_; rintro r w' ⟨rfl, rfl⟩))
  obtain ⟨w2, hw2⟩ : ∃ w2, w2 = (w.alloc (.cells #[.int .i64 c, .int .i64 x, .int .i64 p, .string (str l)] 32)).alloc (.cells #[.int .i64 x, .int .i64 0, .int .i64 284, .int .i64 3, .int .i64 c, .int .i64 p] 3) := ⟨_, rfl⟩
  rw [← hw2]
  have hx2 : Ext w w2 := by rw [hw2]; exact (ext_alloc w _).trans (ext_alloc _ _)
  have hz2 : w.heap.size + 1 < w2.heap.size := by rw [hw2]; simp
  have hb2 : w2.cell? ⟨w.heap.size, 3, none⟩ = some (.string (str l)) := by
    rw [hw2, (ext_alloc _ _).cell (p := ⟨w.heap.size, 3, none⟩) (by simp), cell_of_row _ _ _ _ _ _ (heap_alloc_last w _)]; rfl
  have hi2 : ∀ j (h : j < ns.length), w2.cell? ⟨w.heap.size + 1, j, none⟩ = some (.int .i64 ns[j]) := by
    rw [hw2, HA.out]
    exact cells_of_ints (by simpa using heap_alloc_last (w.alloc _) _)
  have HI := Lib.hid hi2
  clear hw2 hi2
  go_loopw [5, 6] (fun b i wr => ∃ k : Nat, k ≤ 6 ∧ i = .int .i64 k ∧ Hid (OwnZ wr w2.heap.size 5 b (wordsL (ns.take k))) ∧ Hid (Ext w2 wr)) (fun _ i _ => 6 - (intOf i).toNat)
  case atStart => exact ⟨0, by omega, rfl, OwnZ.nil, Ext.refl _⟩
  case round =>
    obtain ⟨k, hk, rfl, HO, HX⟩ := hrel
    by_cases hlt : k < 6
    · have hcell := (cellB HX.out (w.heap.size + 1) k hz2).trans (HI.out k (by omega))
      go_wp2_with fail
      refine (rWord_any _ (wordsL (ns.take k)) (ns[k] % 4294967296) _ HO.out.rs (by omega) (by omega) (by rw [wordsL_length]; simp; omega)).mono ?_
      rintro e w1 ⟨v1, rfl, o1, b1⟩
      have o2 := (o1.mono HX.out.size)
      rw [← wordsL_take (by omega)] at o2
      have H2 := Lib.hid o2
      have HX2 := Lib.hid (HX.out.trans (Ext.of b1))
      clear o1 o2 b1 hcell
      go_wp2_with fail
      go_roundw
      case rel => exact ⟨k + 1, by omega, by go_num, H2, HX2⟩
      case measure => simp [intOf]; omega
    · obtain rfl : k = 6 := by omega
      obtain ⟨wo, rfl⟩ : ∃ wo : World, wo = wr := ⟨_, rfl⟩
      have hcv := (HO.out.rs).conv (P := Try.prog) Try.underlying22 Try.underlying5 Try.underlying9
      rw [← hn6, List.take_length] at hcv
      have hbody := (cellB HX.out w.heap.size 3 (by omega)).trans hb2
      have hsz := str_size (wordsL ns)
      rw [wordsL_length, hn6] at hsz
      by_cases h5 : l.length ≤ 4072
      · go_wp2_with fail
        go_ret2
        exact ⟨by rw [HR.out, if_pos h5]; rfl, hx2.trans HX.out⟩
      · go_wp2_with fail
        go_ret2
        exact ⟨by rw [HR.out, if_neg h5]; rfl, hx2.trans HX.out⟩

set_option maxHeartbeats 4000000 in
theorem rmay_any (x e : Int) (l : List UInt8) (b : Bool) (hb : (isW x && mayB e l) = b) (w : World) :
    Calls Try.prog 69 #[ansV x e l] w fun r w' => r = .returned (.bool b) ∧ Below w.heap.size w w' := by
  have hs := str_size l
  have hL := strL l
  unfold ansV
  by_cases h4 : (l.length : Int) % 4 = 0
  · have h4n : l.length % 4 = 0 := by omega
    by_cases e0 : e = 0
    · subst e0
      cases h2 : isW x
      · obtain rfl : b = false := by rw [← hb, h2]; rfl
        go_enter Try.func69, Try.ntmps69
        go_wp2_with (go_at_call 67; with_reducible refine (rword_b _ _ h2 _).mono ?_; rintro r w' ⟨rfl, rfl⟩)
        go_ret
        exact ⟨rfl, by (repeat' (first | (with_reducible assumption) | (with_reducible exact Below.refl _ _) | (with_reducible refine below_sc ?_ ?_) | ((with_reducible show (_ : Nat) ≤ _); omega) | refine Below.setCell ?_ (by first | omega | (simp; done) | (simp; omega)) _ | refine Below.alloc ?_ (by first | omega | (simp; done) | (simp; omega)) _ | refine Below.drew ?_ | refine below_drewN ?_ _ | refine Below.trans ?_ (Below.mono (by assumption) (by first | omega | (simp; done) | (simp; omega)))))⟩
      · obtain rfl : b = true := by rw [← hb, h2]; simp [mayB, wh, h4n]
        go_enter Try.func69, Try.ntmps69
        go_wp2_with (go_at_call 67; with_reducible refine (rword_b _ _ h2 _).mono ?_; rintro r w' ⟨rfl, rfl⟩)
        go_ret
        exact ⟨rfl, by (repeat' (first | (with_reducible assumption) | (with_reducible exact Below.refl _ _) | (with_reducible refine below_sc ?_ ?_) | ((with_reducible show (_ : Nat) ≤ _); omega) | refine Below.setCell ?_ (by first | omega | (simp; done) | (simp; omega)) _ | refine Below.alloc ?_ (by first | omega | (simp; done) | (simp; omega)) _ | refine Below.drew ?_ | refine below_drewN ?_ _ | refine Below.trans ?_ (Below.mono (by assumption) (by first | omega | (simp; done) | (simp; omega)))))⟩
    by_cases e4 : e = 4
    · subst e4
      cases l with
      | nil =>
        cases h2 : isW x
        · obtain rfl : b = false := by rw [← hb, h2]; rfl
          go_enter Try.func69, Try.ntmps69
          go_wp2_with (go_at_call 67; with_reducible refine (rword_b _ _ h2 _).mono ?_; rintro r w' ⟨rfl, rfl⟩)
          go_ret
          exact ⟨rfl, by (repeat' (first | (with_reducible assumption) | (with_reducible exact Below.refl _ _) | (with_reducible refine below_sc ?_ ?_) | ((with_reducible show (_ : Nat) ≤ _); omega) | refine Below.setCell ?_ (by first | omega | (simp; done) | (simp; omega)) _ | refine Below.alloc ?_ (by first | omega | (simp; done) | (simp; omega)) _ | refine Below.drew ?_ | refine below_drewN ?_ _ | refine Below.trans ?_ (Below.mono (by assumption) (by first | omega | (simp; done) | (simp; omega)))))⟩
        · obtain rfl : b = true := by rw [← hb, h2]; rfl
          go_enter Try.func69, Try.ntmps69
          go_wp2_with (go_at_call 67; with_reducible refine (rword_b _ _ h2 _).mono ?_; rintro r w' ⟨rfl, rfl⟩)
          go_ret
          exact ⟨rfl, by (repeat' (first | (with_reducible assumption) | (with_reducible exact Below.refl _ _) | (with_reducible refine below_sc ?_ ?_) | ((with_reducible show (_ : Nat) ≤ _); omega) | refine Below.setCell ?_ (by first | omega | (simp; done) | (simp; omega)) _ | refine Below.alloc ?_ (by first | omega | (simp; done) | (simp; omega)) _ | refine Below.drew ?_ | refine below_drewN ?_ _ | refine Below.trans ?_ (Below.mono (by assumption) (by first | omega | (simp; done) | (simp; omega)))))⟩
      | cons a l =>
        obtain rfl : b = false := by rw [← hb]; simp [mayB]
        cases h2 : isW x
        · go_enter Try.func69, Try.ntmps69
          go_wp2_with (go_at_call 67; with_reducible refine (rword_b _ _ h2 _).mono ?_; rintro r w' ⟨rfl, rfl⟩)
          go_ret
          exact ⟨rfl, by (repeat' (first | (with_reducible assumption) | (with_reducible exact Below.refl _ _) | (with_reducible refine below_sc ?_ ?_) | ((with_reducible show (_ : Nat) ≤ _); omega) | refine Below.setCell ?_ (by first | omega | (simp; done) | (simp; omega)) _ | refine Below.alloc ?_ (by first | omega | (simp; done) | (simp; omega)) _ | refine Below.drew ?_ | refine below_drewN ?_ _ | refine Below.trans ?_ (Below.mono (by assumption) (by first | omega | (simp; done) | (simp; omega)))))⟩
        · go_enter Try.func69, Try.ntmps69
          go_wp2_with (go_at_call 67; with_reducible refine (rword_b _ _ h2 _).mono ?_; rintro r w' ⟨rfl, rfl⟩)
          go_ret
          exact ⟨rfl, by (repeat' (first | (with_reducible assumption) | (with_reducible exact Below.refl _ _) | (with_reducible refine below_sc ?_ ?_) | ((with_reducible show (_ : Nat) ≤ _); omega) | refine Below.setCell ?_ (by first | omega | (simp; done) | (simp; omega)) _ | refine Below.alloc ?_ (by first | omega | (simp; done) | (simp; omega)) _ | refine Below.drew ?_ | refine below_drewN ?_ _ | refine Below.trans ?_ (Below.mono (by assumption) (by first | omega | (simp; done) | (simp; omega)))))⟩
    by_cases e62 : e = 62
    · subst e62
      cases l with
      | nil =>
        cases h2 : isW x
        · obtain rfl : b = false := by rw [← hb, h2]; rfl
          go_enter Try.func69, Try.ntmps69
          go_wp2_with (go_at_call 67; with_reducible refine (rword_b _ _ h2 _).mono ?_; rintro r w' ⟨rfl, rfl⟩)
          go_ret
          exact ⟨rfl, by (repeat' (first | (with_reducible assumption) | (with_reducible exact Below.refl _ _) | (with_reducible refine below_sc ?_ ?_) | ((with_reducible show (_ : Nat) ≤ _); omega) | refine Below.setCell ?_ (by first | omega | (simp; done) | (simp; omega)) _ | refine Below.alloc ?_ (by first | omega | (simp; done) | (simp; omega)) _ | refine Below.drew ?_ | refine below_drewN ?_ _ | refine Below.trans ?_ (Below.mono (by assumption) (by first | omega | (simp; done) | (simp; omega)))))⟩
        · obtain rfl : b = true := by rw [← hb, h2]; rfl
          go_enter Try.func69, Try.ntmps69
          go_wp2_with (go_at_call 67; with_reducible refine (rword_b _ _ h2 _).mono ?_; rintro r w' ⟨rfl, rfl⟩)
          go_ret
          exact ⟨rfl, by (repeat' (first | (with_reducible assumption) | (with_reducible exact Below.refl _ _) | (with_reducible refine below_sc ?_ ?_) | ((with_reducible show (_ : Nat) ≤ _); omega) | refine Below.setCell ?_ (by first | omega | (simp; done) | (simp; omega)) _ | refine Below.alloc ?_ (by first | omega | (simp; done) | (simp; omega)) _ | refine Below.drew ?_ | refine below_drewN ?_ _ | refine Below.trans ?_ (Below.mono (by assumption) (by first | omega | (simp; done) | (simp; omega)))))⟩
      | cons a l =>
        obtain rfl : b = false := by rw [← hb]; simp [mayB]
        cases h2 : isW x
        · go_enter Try.func69, Try.ntmps69
          go_wp2_with (go_at_call 67; with_reducible refine (rword_b _ _ h2 _).mono ?_; rintro r w' ⟨rfl, rfl⟩)
          go_ret
          exact ⟨rfl, by (repeat' (first | (with_reducible assumption) | (with_reducible exact Below.refl _ _) | (with_reducible refine below_sc ?_ ?_) | ((with_reducible show (_ : Nat) ≤ _); omega) | refine Below.setCell ?_ (by first | omega | (simp; done) | (simp; omega)) _ | refine Below.alloc ?_ (by first | omega | (simp; done) | (simp; omega)) _ | refine Below.drew ?_ | refine below_drewN ?_ _ | refine Below.trans ?_ (Below.mono (by assumption) (by first | omega | (simp; done) | (simp; omega)))))⟩
        · go_enter Try.func69, Try.ntmps69
          go_wp2_with (go_at_call 67; with_reducible refine (rword_b _ _ h2 _).mono ?_; rintro r w' ⟨rfl, rfl⟩)
          go_ret
          exact ⟨rfl, by (repeat' (first | (with_reducible assumption) | (with_reducible exact Below.refl _ _) | (with_reducible refine below_sc ?_ ?_) | ((with_reducible show (_ : Nat) ≤ _); omega) | refine Below.setCell ?_ (by first | omega | (simp; done) | (simp; omega)) _ | refine Below.alloc ?_ (by first | omega | (simp; done) | (simp; omega)) _ | refine Below.drew ?_ | refine below_drewN ?_ _ | refine Below.trans ?_ (Below.mono (by assumption) (by first | omega | (simp; done) | (simp; omega)))))⟩
    by_cases e63 : e = 63
    · subst e63
      cases l with
      | nil =>
        cases h2 : isW x
        · obtain rfl : b = false := by rw [← hb, h2]; rfl
          go_enter Try.func69, Try.ntmps69
          go_wp2_with (go_at_call 67; with_reducible refine (rword_b _ _ h2 _).mono ?_; rintro r w' ⟨rfl, rfl⟩)
          go_ret
          exact ⟨rfl, by (repeat' (first | (with_reducible assumption) | (with_reducible exact Below.refl _ _) | (with_reducible refine below_sc ?_ ?_) | ((with_reducible show (_ : Nat) ≤ _); omega) | refine Below.setCell ?_ (by first | omega | (simp; done) | (simp; omega)) _ | refine Below.alloc ?_ (by first | omega | (simp; done) | (simp; omega)) _ | refine Below.drew ?_ | refine below_drewN ?_ _ | refine Below.trans ?_ (Below.mono (by assumption) (by first | omega | (simp; done) | (simp; omega)))))⟩
        · obtain rfl : b = true := by rw [← hb, h2]; rfl
          go_enter Try.func69, Try.ntmps69
          go_wp2_with (go_at_call 67; with_reducible refine (rword_b _ _ h2 _).mono ?_; rintro r w' ⟨rfl, rfl⟩)
          go_ret
          exact ⟨rfl, by (repeat' (first | (with_reducible assumption) | (with_reducible exact Below.refl _ _) | (with_reducible refine below_sc ?_ ?_) | ((with_reducible show (_ : Nat) ≤ _); omega) | refine Below.setCell ?_ (by first | omega | (simp; done) | (simp; omega)) _ | refine Below.alloc ?_ (by first | omega | (simp; done) | (simp; omega)) _ | refine Below.drew ?_ | refine below_drewN ?_ _ | refine Below.trans ?_ (Below.mono (by assumption) (by first | omega | (simp; done) | (simp; omega)))))⟩
      | cons a l =>
        obtain rfl : b = false := by rw [← hb]; simp [mayB]
        cases h2 : isW x
        · go_enter Try.func69, Try.ntmps69
          go_wp2_with (go_at_call 67; with_reducible refine (rword_b _ _ h2 _).mono ?_; rintro r w' ⟨rfl, rfl⟩)
          go_ret
          exact ⟨rfl, by (repeat' (first | (with_reducible assumption) | (with_reducible exact Below.refl _ _) | (with_reducible refine below_sc ?_ ?_) | ((with_reducible show (_ : Nat) ≤ _); omega) | refine Below.setCell ?_ (by first | omega | (simp; done) | (simp; omega)) _ | refine Below.alloc ?_ (by first | omega | (simp; done) | (simp; omega)) _ | refine Below.drew ?_ | refine below_drewN ?_ _ | refine Below.trans ?_ (Below.mono (by assumption) (by first | omega | (simp; done) | (simp; omega)))))⟩
        · go_enter Try.func69, Try.ntmps69
          go_wp2_with (go_at_call 67; with_reducible refine (rword_b _ _ h2 _).mono ?_; rintro r w' ⟨rfl, rfl⟩)
          go_ret
          exact ⟨rfl, by (repeat' (first | (with_reducible assumption) | (with_reducible exact Below.refl _ _) | (with_reducible refine below_sc ?_ ?_) | ((with_reducible show (_ : Nat) ≤ _); omega) | refine Below.setCell ?_ (by first | omega | (simp; done) | (simp; omega)) _ | refine Below.alloc ?_ (by first | omega | (simp; done) | (simp; omega)) _ | refine Below.drew ?_ | refine below_drewN ?_ _ | refine Below.trans ?_ (Below.mono (by assumption) (by first | omega | (simp; done) | (simp; omega)))))⟩
    obtain rfl : b = false := by rw [← hb]; simp [mayB, e0, e4, e62, e63]
    cases h2 : isW x
    · go_enter Try.func69, Try.ntmps69
      go_wp2_with (go_at_call 67; with_reducible refine (rword_b _ _ h2 _).mono ?_; rintro r w' ⟨rfl, rfl⟩)
      go_ret
      exact ⟨rfl, by (repeat' (first | (with_reducible assumption) | (with_reducible exact Below.refl _ _) | (with_reducible refine below_sc ?_ ?_) | ((with_reducible show (_ : Nat) ≤ _); omega) | refine Below.setCell ?_ (by first | omega | (simp; done) | (simp; omega)) _ | refine Below.alloc ?_ (by first | omega | (simp; done) | (simp; omega)) _ | refine Below.drew ?_ | refine below_drewN ?_ _ | refine Below.trans ?_ (Below.mono (by assumption) (by first | omega | (simp; done) | (simp; omega)))))⟩
    · go_enter Try.func69, Try.ntmps69
      go_wp2_with (go_at_call 67; with_reducible refine (rword_b _ _ h2 _).mono ?_; rintro r w' ⟨rfl, rfl⟩)
      go_ret
      exact ⟨rfl, by (repeat' (first | (with_reducible assumption) | (with_reducible exact Below.refl _ _) | (with_reducible refine below_sc ?_ ?_) | ((with_reducible show (_ : Nat) ≤ _); omega) | refine Below.setCell ?_ (by first | omega | (simp; done) | (simp; omega)) _ | refine Below.alloc ?_ (by first | omega | (simp; done) | (simp; omega)) _ | refine Below.drew ?_ | refine below_drewN ?_ _ | refine Below.trans ?_ (Below.mono (by assumption) (by first | omega | (simp; done) | (simp; omega)))))⟩
  · have h4n : ¬ l.length % 4 = 0 := by omega
    have h4b : ((l.length : Int) % 4 == 0) = false := beq_eq_false_iff_ne.2 h4
    have hne : l.isEmpty = false := by cases l <;> simp at h4n ⊢
    obtain rfl : b = false := by
      rw [← hb]
      have : mayB e l = false := by simp [mayB, wh, h4n, hne]
      rw [this, Bool.and_false]
    by_cases e0 : e = 0
    · subst e0
      cases h2 : isW x
      · go_enter Try.func69, Try.ntmps69
        go_wp2_with (go_at_call 67; with_reducible refine (rword_b _ _ h2 _).mono ?_; rintro r w' ⟨rfl, rfl⟩)
        go_ret
        exact ⟨rfl, by (repeat' (first | (with_reducible assumption) | (with_reducible exact Below.refl _ _) | (with_reducible refine below_sc ?_ ?_) | ((with_reducible show (_ : Nat) ≤ _); omega) | refine Below.setCell ?_ (by first | omega | (simp; done) | (simp; omega)) _ | refine Below.alloc ?_ (by first | omega | (simp; done) | (simp; omega)) _ | refine Below.drew ?_ | refine below_drewN ?_ _ | refine Below.trans ?_ (Below.mono (by assumption) (by first | omega | (simp; done) | (simp; omega)))))⟩
      · go_enter Try.func69, Try.ntmps69
        go_wp2_with (go_at_call 67; with_reducible refine (rword_b _ _ h2 _).mono ?_; rintro r w' ⟨rfl, rfl⟩)
        go_ret
        exact ⟨rfl, by (repeat' (first | (with_reducible assumption) | (with_reducible exact Below.refl _ _) | (with_reducible refine below_sc ?_ ?_) | ((with_reducible show (_ : Nat) ≤ _); omega) | refine Below.setCell ?_ (by first | omega | (simp; done) | (simp; omega)) _ | refine Below.alloc ?_ (by first | omega | (simp; done) | (simp; omega)) _ | refine Below.drew ?_ | refine below_drewN ?_ _ | refine Below.trans ?_ (Below.mono (by assumption) (by first | omega | (simp; done) | (simp; omega)))))⟩
    have e0b : (e == 0) = false := beq_eq_false_iff_ne.2 e0
    cases h2 : isW x
    · go_enter Try.func69, Try.ntmps69
      go_wp2_with (go_at_call 67; with_reducible refine (rword_b _ _ h2 _).mono ?_; rintro r w' ⟨rfl, rfl⟩)
      all_goals (go_ret; exact ⟨rfl, by (repeat' (first | (with_reducible assumption) | (with_reducible exact Below.refl _ _) | (with_reducible refine below_sc ?_ ?_) | ((with_reducible show (_ : Nat) ≤ _); omega) | refine Below.setCell ?_ (by first | omega | (simp; done) | (simp; omega)) _ | refine Below.alloc ?_ (by first | omega | (simp; done) | (simp; omega)) _ | refine Below.drew ?_ | refine below_drewN ?_ _ | refine Below.trans ?_ (Below.mono (by assumption) (by first | omega | (simp; done) | (simp; omega)))))⟩)
    · go_enter Try.func69, Try.ntmps69
      go_wp2_with (go_at_call 67; with_reducible refine (rword_b _ _ h2 _).mono ?_; rintro r w' ⟨rfl, rfl⟩)
      all_goals (go_ret; exact ⟨rfl, by (repeat' (first | (with_reducible assumption) | (with_reducible exact Below.refl _ _) | (with_reducible refine below_sc ?_ ?_) | ((with_reducible show (_ : Nat) ≤ _); omega) | refine Below.setCell ?_ (by first | omega | (simp; done) | (simp; omega)) _ | refine Below.alloc ?_ (by first | omega | (simp; done) | (simp; omega)) _ | refine Below.drew ?_ | refine below_drewN ?_ _ | refine Below.trans ?_ (Below.mono (by assumption) (by first | omega | (simp; done) | (simp; omega)))))⟩)
end Go.Proofs.Ytaccjneglaomhaa
