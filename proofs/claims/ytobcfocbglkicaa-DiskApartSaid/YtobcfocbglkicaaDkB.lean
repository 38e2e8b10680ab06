/- Walks of disk: ask, askAt, Blocks, Dead, Waiting, with, New. -/
import Derived.Test.YtobcfocbglkicaaDkA
import Derived.Carry
set_option linter.unusedVariables false
set_option maxRecDepth 100000
namespace Go.Proofs.Ytobcfocbglkicaa
open Go.RowKit

set_option maxHeartbeats 1000000 in
theorem ask_any {S : Nat → Prop} {g : Nat} {D : DK} (w : World) (h : DkAt w S g D) :
    Calls Try.prog 66 #[.pointer (some ⟨g, 0, none⟩)] w fun e w' => e = .returned (.int .i64 D.ask) ∧ Below w.heap.size w w' := by
  obtain ⟨mo, mn, sv, kv, h⟩ := h
  obtain ⟨c0, c1, c2, c3, c4, c5, c6, fz, hlt⟩ := blk7 h.hg
  obtain ⟨n, on, wt, cut, keep, dead⟩ := D
  simp only at c0 c1 c2 c3 c4 c5 c6
  cases dead
  · go_enter Try.func66, Try.ntmps66
    go_wp2
    go_ret
    exact ⟨rfl, by (repeat' (first | (with_reducible assumption) | (with_reducible exact Below.refl _ _) | (with_reducible refine below_sc ?_ ?_) | ((with_reducible show (_ : Nat) ≤ _); omega) | refine Below.setCell ?_ (by first | omega | (simp; done) | (simp; omega)) _ | refine Below.alloc ?_ (by first | omega | (simp; done) | (simp; omega)) _ | refine Below.drew ?_ | refine below_drewN ?_ _ | refine Below.trans ?_ (Below.mono (by assumption) (by first | omega | (simp; done) | (simp; omega)))))⟩
  · go_enter Try.func66, Try.ntmps66
    go_wp2
    go_ret
    exact ⟨rfl, by (repeat' (first | (with_reducible assumption) | (with_reducible exact Below.refl _ _) | (with_reducible refine below_sc ?_ ?_) | ((with_reducible show (_ : Nat) ≤ _); omega) | refine Below.setCell ?_ (by first | omega | (simp; done) | (simp; omega)) _ | refine Below.alloc ?_ (by first | omega | (simp; done) | (simp; omega)) _ | refine Below.drew ?_ | refine below_drewN ?_ _ | refine Below.trans ?_ (Below.mono (by assumption) (by first | omega | (simp; done) | (simp; omega)))))⟩
set_option maxHeartbeats 1000000 in
theorem askAt_any {S : Nat → Prop} {g : Nat} {D : DK} (z : Int) (w : World) (h : DkAt w S g D) :
    Calls Try.prog 70 #[.pointer (some ⟨g, 0, none⟩), .int .i64 z] w fun e w' => e = .returned (.int .i64 (D.askAt z)) ∧ Below w.heap.size w w' := by
  have h0 := h
  have K := fun w (h : DkAt w S g D) => ask_any w h
  obtain ⟨mo, mn, sv, kv, h⟩ := h
  obtain ⟨c0, c1, c2, c3, c4, c5, c6, fz, hlt⟩ := blk7 h.hg
  obtain ⟨n, on, wt, cut, keep, dead⟩ := D
  simp only at c0 c1 c2 c3 c4 c5 c6
  cases dead
  · rw [show DK.ask ⟨n, on, wt, cut, keep, false⟩ = 0 from rfl] at K
    by_cases h1 : z < 0
    · rw [show DK.askAt ⟨n, on, wt, cut, keep, false⟩ z = 1 by simp [DK.askAt]; omega]
      go_enter Try.func70, Try.ntmps70
      go_wp2_with (go_at_call 66; refine (K _ h0).mono ?_; rintro e w1 ⟨rfl, hb1⟩; have hz1 := hb1.size; (try simp only [World.size_alloc] at hz1))
      go_ret
      exact ⟨rfl, by (repeat' (first | (with_reducible assumption) | (with_reducible exact Below.refl _ _) | (with_reducible refine below_sc ?_ ?_) | ((with_reducible show (_ : Nat) ≤ _); omega) | refine Below.setCell ?_ (by first | omega | (simp; done) | (simp; omega)) _ | refine Below.alloc ?_ (by first | omega | (simp; done) | (simp; omega)) _ | refine Below.drew ?_ | refine below_drewN ?_ _ | refine Below.trans ?_ (Below.mono (by assumption) (by first | omega | (simp; done) | (simp; omega)))))⟩
    · by_cases h2 : n ≤ z
      · rw [show DK.askAt ⟨n, on, wt, cut, keep, false⟩ z = 1 by simp [DK.askAt]; omega]
        go_enter Try.func70, Try.ntmps70
        go_wp2_with (go_at_call 66; refine (K _ h0).mono ?_; rintro e w1 ⟨rfl, hb1⟩; have hz1 := hb1.size; (try simp only [World.size_alloc] at hz1); rw [← (hb1.cell (p := ⟨g, 0, none⟩) hlt)] at c0)
        go_ret
        exact ⟨rfl, by (repeat' (first | (with_reducible assumption) | (with_reducible exact Below.refl _ _) | (with_reducible refine below_sc ?_ ?_) | ((with_reducible show (_ : Nat) ≤ _); omega) | refine Below.setCell ?_ (by first | omega | (simp; done) | (simp; omega)) _ | refine Below.alloc ?_ (by first | omega | (simp; done) | (simp; omega)) _ | refine Below.drew ?_ | refine below_drewN ?_ _ | refine Below.trans ?_ (Below.mono (by assumption) (by first | omega | (simp; done) | (simp; omega)))))⟩
      · rw [show DK.askAt ⟨n, on, wt, cut, keep, false⟩ z = 0 by simp [DK.askAt]; omega]
        go_enter Try.func70, Try.ntmps70
        go_wp2_with (go_at_call 66; refine (K _ h0).mono ?_; rintro e w1 ⟨rfl, hb1⟩; have hz1 := hb1.size; (try simp only [World.size_alloc] at hz1); rw [← (hb1.cell (p := ⟨g, 0, none⟩) hlt)] at c0)
        go_ret
        exact ⟨rfl, by (repeat' (first | (with_reducible assumption) | (with_reducible exact Below.refl _ _) | (with_reducible refine below_sc ?_ ?_) | ((with_reducible show (_ : Nat) ≤ _); omega) | refine Below.setCell ?_ (by first | omega | (simp; done) | (simp; omega)) _ | refine Below.alloc ?_ (by first | omega | (simp; done) | (simp; omega)) _ | refine Below.drew ?_ | refine below_drewN ?_ _ | refine Below.trans ?_ (Below.mono (by assumption) (by first | omega | (simp; done) | (simp; omega)))))⟩
  · rw [show DK.ask ⟨n, on, wt, cut, keep, true⟩ = 51 from rfl] at K
    rw [show DK.askAt ⟨n, on, wt, cut, keep, true⟩ z = 51 by simp [DK.askAt]]
    go_enter Try.func70, Try.ntmps70
    go_wp2_with (go_at_call 66; refine (K _ h0).mono ?_; rintro e w1 ⟨rfl, hb1⟩; have hz1 := hb1.size; (try simp only [World.size_alloc] at hz1))
    go_ret
    exact ⟨rfl, by (repeat' (first | (with_reducible assumption) | (with_reducible exact Below.refl _ _) | (with_reducible refine below_sc ?_ ?_) | ((with_reducible show (_ : Nat) ≤ _); omega) | refine Below.setCell ?_ (by first | omega | (simp; done) | (simp; omega)) _ | refine Below.alloc ?_ (by first | omega | (simp; done) | (simp; omega)) _ | refine Below.drew ?_ | refine below_drewN ?_ _ | refine Below.trans ?_ (Below.mono (by assumption) (by first | omega | (simp; done) | (simp; omega)))))⟩
set_option maxHeartbeats 1000000 in
theorem blocks_any {S : Nat → Prop} {g : Nat} {D : DK} (w : World) (h : DkAt w S g D) :
    Calls Try.prog 36 #[.pointer (some ⟨g, 0, none⟩)] w fun e w' => e = .returned (.int .i64 D.n) ∧ Below w.heap.size w w' := by
  obtain ⟨mo, mn, sv, kv, h⟩ := h
  obtain ⟨c0, c1, c2, c3, c4, c5, c6, fz, hlt⟩ := blk7 h.hg
  obtain ⟨n, on, wt, cut, keep, dead⟩ := D
  simp only at c0 c1 c2 c3 c4 c5 c6
  go_enter Try.func36, Try.ntmps36
  go_wp2
  go_ret
  exact ⟨rfl, by (repeat' (first | (with_reducible assumption) | (with_reducible exact Below.refl _ _) | (with_reducible refine below_sc ?_ ?_) | ((with_reducible show (_ : Nat) ≤ _); omega) | refine Below.setCell ?_ (by first | omega | (simp; done) | (simp; omega)) _ | refine Below.alloc ?_ (by first | omega | (simp; done) | (simp; omega)) _ | refine Below.drew ?_ | refine below_drewN ?_ _ | refine Below.trans ?_ (Below.mono (by assumption) (by first | omega | (simp; done) | (simp; omega)))))⟩
set_option maxHeartbeats 1000000 in
theorem dead_any {S : Nat → Prop} {g : Nat} {D : DK} (w : World) (h : DkAt w S g D) :
    Calls Try.prog 29 #[.pointer (some ⟨g, 0, none⟩)] w fun e w' => e = .returned (.bool D.dead) ∧ Below w.heap.size w w' := by
  obtain ⟨mo, mn, sv, kv, h⟩ := h
  obtain ⟨c0, c1, c2, c3, c4, c5, c6, fz, hlt⟩ := blk7 h.hg
  obtain ⟨n, on, wt, cut, keep, dead⟩ := D
  simp only at c0 c1 c2 c3 c4 c5 c6
  cases dead
  · go_enter Try.func29, Try.ntmps29
    go_wp2
    go_ret
    exact ⟨rfl, by (repeat' (first | (with_reducible assumption) | (with_reducible exact Below.refl _ _) | (with_reducible refine below_sc ?_ ?_) | ((with_reducible show (_ : Nat) ≤ _); omega) | refine Below.setCell ?_ (by first | omega | (simp; done) | (simp; omega)) _ | refine Below.alloc ?_ (by first | omega | (simp; done) | (simp; omega)) _ | refine Below.drew ?_ | refine below_drewN ?_ _ | refine Below.trans ?_ (Below.mono (by assumption) (by first | omega | (simp; done) | (simp; omega)))))⟩
  · go_enter Try.func29, Try.ntmps29
    go_wp2
    go_ret
    exact ⟨rfl, by (repeat' (first | (with_reducible assumption) | (with_reducible exact Below.refl _ _) | (with_reducible refine below_sc ?_ ?_) | ((with_reducible show (_ : Nat) ≤ _); omega) | refine Below.setCell ?_ (by first | omega | (simp; done) | (simp; omega)) _ | refine Below.alloc ?_ (by first | omega | (simp; done) | (simp; omega)) _ | refine Below.drew ?_ | refine below_drewN ?_ _ | refine Below.trans ?_ (Below.mono (by assumption) (by first | omega | (simp; done) | (simp; omega)))))⟩
set_option maxHeartbeats 1000000 in
theorem waiting_any {S : Nat → Prop} {g : Nat} {D : DK} (w : World) (h : DkAt w S g D) :
    Calls Try.prog 32 #[.pointer (some ⟨g, 0, none⟩)] w fun e w' => e = .returned (.int .i64 D.wt.length) ∧ Below w.heap.size w w' := by
  obtain ⟨mo, mn, sv, kv, h⟩ := h
  obtain ⟨c0, c1, c2, c3, c4, c5, c6, fz, hlt⟩ := blk7 h.hg
  obtain ⟨n, on, wt, cut, keep, dead⟩ := D
  simp only at c0 c1 c2 c3 c4 c5 c6
  obtain ⟨A, c, rfl⟩ := h.wt.form
  go_enter Try.func32, Try.ntmps32
  go_wp2
  go_ret
  exact ⟨rfl, by (repeat' (first | (with_reducible assumption) | (with_reducible exact Below.refl _ _) | (with_reducible refine below_sc ?_ ?_) | ((with_reducible show (_ : Nat) ≤ _); omega) | refine Below.setCell ?_ (by first | omega | (simp; done) | (simp; omega)) _ | refine Below.alloc ?_ (by first | omega | (simp; done) | (simp; omega)) _ | refine Below.drew ?_ | refine below_drewN ?_ _ | refine Below.trans ?_ (Below.mono (by assumption) (by first | omega | (simp; done) | (simp; omega)))))⟩
set_option maxHeartbeats 1000000 in
theorem with_any {n : Int} {on : List Wr} {mo : Nat} (w : World) (h : MapI w mo fun a => (lastB on a).map bval) (ok : (newD n on).Ok) :
    Calls Try.prog 65 #[.int .i64 n, .map (some mo)] w fun e w' => ∃ g, e = .returned (.pointer (some ⟨g, 0, none⟩)) ∧ w.heap.size ≤ g ∧ DkAt w' (fun i => i = mo ∨ (w.heap.size ≤ i ∧ i < w'.heap.size)) g (newD n on) ∧ Below w.heap.size w w' := by
  have hmm := @run_makeMap Try.prog
  have hlt := h.lt
  have hX : Below w.heap.size w ((w.alloc (.map #[] 0)).alloc (.cells #[.int .i64 n, .map (some mo), .slice none 0 0, .map (some w.heap.size), .int .i64 0, .slice none 0 0, .bool false] 104)) := by (repeat' (first | (with_reducible assumption) | (with_reducible exact Below.refl _ _) | (with_reducible refine below_sc ?_ ?_) | ((with_reducible show (_ : Nat) ≤ _); omega) | refine Below.setCell ?_ (by first | omega | (simp; done) | (simp; omega)) _ | refine Below.alloc ?_ (by first | omega | (simp; done) | (simp; omega)) _ | refine Below.drew ?_ | refine below_drewN ?_ _ | refine Below.trans ?_ (Below.mono (by assumption) (by first | omega | (simp; done) | (simp; omega)))))
  go_enter Try.func65, Try.ntmps65
  go_wp2
  go_ret
  refine ⟨_, rfl, ?_, ⟨mo, w.heap.size, .slice none 0 0, .slice none 0 0, ?_⟩, hX⟩
  · simp
  · exact {
      hg := heap_alloc2_new w _ _
      on := h.ext hX
      nw := ((mapI_made w).ext (extAl _ _)).cong fun a => rfl
      ne := by omega
      wt := OwnR.nil
      kp := OwnR.nil
      sg := .inr (by simp)
      so := .inl rfl
      sn := .inr (by simp; omega)
      sw := by simp [Value.ownBlock]
      sk := by simp [Value.ownBlock]
      ok := ok }
set_option maxHeartbeats 1000000 in
theorem new_no (n : Int) (w : World) (h : ¬ (64 ≤ n ∧ n ≤ 8192)) :
    Calls Try.prog 23 #[.int .i64 n] w fun e w' => e = .returned (.tuple #[.pointer none, .int .i64 1]) ∧ Below w.heap.size w w' := by
  by_cases h1 : n < 64
  · go_enter Try.func23, Try.ntmps23
    go_wp2
    exact bodyPost_ret (v := .tuple #[.pointer none, .int .i64 1]) (by simp only [results, Try.results23]; go_simp) rfl ⟨rfl, by (repeat' (first | (with_reducible assumption) | (with_reducible exact Below.refl _ _) | (with_reducible refine below_sc ?_ ?_) | ((with_reducible show (_ : Nat) ≤ _); omega) | refine Below.setCell ?_ (by first | omega | (simp; done) | (simp; omega)) _ | refine Below.alloc ?_ (by first | omega | (simp; done) | (simp; omega)) _ | refine Below.drew ?_ | refine below_drewN ?_ _ | refine Below.trans ?_ (Below.mono (by assumption) (by first | omega | (simp; done) | (simp; omega)))))⟩
  · have h2 : 8192 < n := by omega
    go_enter Try.func23, Try.ntmps23
    go_wp2
    exact bodyPost_ret (v := .tuple #[.pointer none, .int .i64 1]) (by simp only [results, Try.results23]; go_simp) rfl ⟨rfl, by (repeat' (first | (with_reducible assumption) | (with_reducible exact Below.refl _ _) | (with_reducible refine below_sc ?_ ?_) | ((with_reducible show (_ : Nat) ≤ _); omega) | refine Below.setCell ?_ (by first | omega | (simp; done) | (simp; omega)) _ | refine Below.alloc ?_ (by first | omega | (simp; done) | (simp; omega)) _ | refine Below.drew ?_ | refine below_drewN ?_ _ | refine Below.trans ?_ (Below.mono (by assumption) (by first | omega | (simp; done) | (simp; omega)))))⟩
set_option maxHeartbeats 1000000 in
theorem new_ok (n : Int) (w : World) (h1 : 64 ≤ n) (h2 : n ≤ 8192) :
    Calls Try.prog 23 #[.int .i64 n] w fun e w' => ∃ g, e = .returned (.tuple #[.pointer (some ⟨g, 0, none⟩), .int .i64 0]) ∧ w.heap.size ≤ g ∧ DkAt w' (fun i => w.heap.size ≤ i ∧ i < w'.heap.size) g (newD n []) ∧ Below w.heap.size w w' := by
  have hmm := @run_makeMap Try.prog
  have hm := mapI_made w
  have hok : (newD n []).Ok := ⟨by simp only [newD]; omega, by simp only [newD]; omega, Int.le_refl _, by simp [newD], by simp [newD], by simp [newD]⟩
  go_enter Try.func23, Try.ntmps23
  go_wp2_with (go_at_call 65; refine (with_any (on := []) _ (hm.cong fun a => rfl) hok).mono ?_; rintro e w1 ⟨g, rfl, hgs, hd, hb1⟩; have hz1 := hb1.size; simp only [World.size_alloc] at hz1 hd hgs)
  refine bodyPost_ret (v := .tuple #[.pointer (some ⟨g, 0, none⟩), .int .i64 0]) (by simp only [results, Try.results23]; go_simp) rfl ⟨g, rfl, by omega, hd.mono fun i hi => ?_, Below.trans (extAl w _) (hb1.mono (by simp))⟩
  rcases hi with rfl | hi <;> omega
end Go.Proofs.Ytobcfocbglkicaa
