/- Proved: RingTurns returns true whatever first group, bodies, next body, cut and list of truth values it is called with, and each argument reads behind the call as before. No condition. -/
import Derived.Test.YtobcfocbglkicaaRgH
import Derived.Test.YtobcfocbglkicaaVS
import Derived.Test.YtobcfocbglkicaaDkO
import Derived.Test.YtobcfocbglkicaaLift
import Derived.Deep.DeepCutAuto
set_option linter.unusedVariables false
set_option maxRecDepth 100000
namespace Go.Proofs.Ytobcfocbglkicaa
open Go.RowKit Go.ChangeShapes Go.WideShapes Go.ChangeAt Go.Deep
section
variable {H : Type} {enc : TypeId × Value → H} {W : World} {base : Nat} {b0 : Nat} {spare : Nat → Bool} {held : Bool}
theorem open_Wstrs {v : Value} {d : DataW H} {p : List MemPlace} {r : Reach} (hv : Value.okWide Try.prog W r b0 88 v) (h : DataW.Trod enc Try.prog W base spare held 88 v d p) : ∃ x : StrsT, v = x.v ∧ x.Ok W := open_strs Try.underlying88 Try.underlying9 (by kernel_rfl) hv h
end
end Go.Proofs.Ytobcfocbglkicaa
namespace Go.Proofs.Ytobcfocbglkicaa.ringTurns
open Go.RowKit Go.ChangeShapes Go.WideShapes Go.ChangeAt Go.Deep Go.Proofs.Ytobcfocbglkicaa

set_option maxHeartbeats 32000000 in
theorem walk {w : World} (f : Int) (wf : (Lit.int .i64 f).wf = true) (x : StrsT) (hx : x.Ok w) (nl : List UInt8) (wn : nl.length ≤ maxLen) (cu : Int) (wc : (Lit.int .i64 cu).wf = true) (vk : Value) (keep : List Bool) (hk : RBo w vk keep) (hkm0 : (∀ b off n c, vk = .slice (some ⟨b, off, none⟩) n c → b < w.heap.size) ∧ keep.length ≤ maxLen) :
    Calls Try.prog 14 #[.int .i64 f, x.v, .string (str nl), .int .i64 cu, vk] w fun e w' => e = .returned (.bool true) ∧ Below w.heap.size w w' := by
  obtain ⟨hkb, hkm⟩ := hkm0
  have Hb := Lib.hid hkb
  clear hkb
  have wn0 := wn
  unfold maxLen at hkm wn
  obtain ⟨vb, l⟩ := x
  have hvs := hx.vs
  have hlm := hx.len
  simp only at hvs hlm ⊢
  unfold maxLen at hlm
  have z1 := str_size nl
  obtain ⟨A, n, c, rfl, hn, hcell⟩ : ∃ A n c, vb = .slice A n c ∧ n = l.length ∧ ∀ j (hj : j < l.length), ∃ b off, A = some ⟨b, off, none⟩ ∧ n ≤ c ∧ b < w.heap.size ∧ w.cell? ⟨b, off + j, none⟩ = some (.string (str l[j])) := by
    rcases hvs with ⟨rfl, h0⟩ | ⟨b, off, c, rfl, hlt, hc, hj⟩
    · have h1 : l = [] := by simpa using h0
      subst h1
      exact ⟨none, 0, 0, rfl, rfl, fun j hj => by simp at hj⟩
    · refine ⟨_, l.length, c, by simp, rfl, fun j hjl => ⟨b, off, rfl, by simpa using hc, hlt, ?_⟩⟩
      have := hj j (by simpa using hjl)
      simpa [strV] using this
  obtain ⟨kA, kc, rfl⟩ := hk.form
  have Hc := Lib.hid hcell
  have Hk := Lib.hid hk
  have hnm : n ≤ 9223372036854775807 := by omega
  have HN := Lib.hid hn
  clear hcell hk hvs hx hn
  by_cases g1 : 30 < n
  · skip
    go_enter Try.func14, Try.ntmps14
    go_wp2_with (go_at_call 46; refine (rworks_any _).mono ?_; rintro e w0 ⟨rfl, hb0⟩; have hz0 := hb0.size; (try simp only [World.size_alloc] at hz0))
    all_goals go_ret
    all_goals exact ⟨rfl, by (repeat' (first | (with_reducible assumption) | (with_reducible exact Below.refl _ _) | (with_reducible refine below_sc ?_ ?_) | ((with_reducible show (_ : Nat) ≤ _); omega) | refine Below.setCell ?_ (by first | omega | (simp; done) | (simp; omega)) _ | refine Below.alloc ?_ (by first | omega | (simp; done) | (simp; omega)) _ | refine Below.drew ?_ | refine below_drewN ?_ _ | refine Below.trans ?_ (Below.mono (by assumption) (by first | omega | (simp; done) | (simp; omega)))))⟩
  by_cases g2 : n = 0
  · skip
    go_enter Try.func14, Try.ntmps14
    go_wp2_with (go_at_call 46; refine (rworks_any _).mono ?_; rintro e w0 ⟨rfl, hb0⟩; have hz0 := hb0.size; (try simp only [World.size_alloc] at hz0))
    all_goals go_ret
    all_goals exact ⟨rfl, by (repeat' (first | (with_reducible assumption) | (with_reducible exact Below.refl _ _) | (with_reducible refine below_sc ?_ ?_) | ((with_reducible show (_ : Nat) ≤ _); omega) | refine Below.setCell ?_ (by first | omega | (simp; done) | (simp; omega)) _ | refine Below.alloc ?_ (by first | omega | (simp; done) | (simp; omega)) _ | refine Below.drew ?_ | refine below_drewN ?_ _ | refine Below.trans ?_ (Below.mono (by assumption) (by first | omega | (simp; done) | (simp; omega)))))⟩
  by_cases g3 : 1000 < keep.length
  · skip
    go_enter Try.func14, Try.ntmps14
    go_wp2_with (go_at_call 46; refine (rworks_any _).mono ?_; rintro e w0 ⟨rfl, hb0⟩; have hz0 := hb0.size; (try simp only [World.size_alloc] at hz0))
    all_goals go_ret
    all_goals exact ⟨rfl, by (repeat' (first | (with_reducible assumption) | (with_reducible exact Below.refl _ _) | (with_reducible refine below_sc ?_ ?_) | ((with_reducible show (_ : Nat) ≤ _); omega) | refine Below.setCell ?_ (by first | omega | (simp; done) | (simp; omega)) _ | refine Below.alloc ?_ (by first | omega | (simp; done) | (simp; omega)) _ | refine Below.drew ?_ | refine below_drewN ?_ _ | refine Below.trans ?_ (Below.mono (by assumption) (by first | omega | (simp; done) | (simp; omega)))))⟩
  by_cases g4 : f < 1
  · skip
    go_enter Try.func14, Try.ntmps14
    go_wp2_with (go_at_call 46; refine (rworks_any _).mono ?_; rintro e w0 ⟨rfl, hb0⟩; have hz0 := hb0.size; (try simp only [World.size_alloc] at hz0))
    all_goals go_ret
    all_goals exact ⟨rfl, by (repeat' (first | (with_reducible assumption) | (with_reducible exact Below.refl _ _) | (with_reducible refine below_sc ?_ ?_) | ((with_reducible show (_ : Nat) ≤ _); omega) | refine Below.setCell ?_ (by first | omega | (simp; done) | (simp; omega)) _ | refine Below.alloc ?_ (by first | omega | (simp; done) | (simp; omega)) _ | refine Below.drew ?_ | refine below_drewN ?_ _ | refine Below.trans ?_ (Below.mono (by assumption) (by first | omega | (simp; done) | (simp; omega)))))⟩
  by_cases g5 : 2147483607 < f
  · skip
    go_enter Try.func14, Try.ntmps14
    go_wp2_with (go_at_call 46; refine (rworks_any _).mono ?_; rintro e w0 ⟨rfl, hb0⟩; have hz0 := hb0.size; (try simp only [World.size_alloc] at hz0))
    all_goals go_ret
    all_goals exact ⟨rfl, by (repeat' (first | (with_reducible assumption) | (with_reducible exact Below.refl _ _) | (with_reducible refine below_sc ?_ ?_) | ((with_reducible show (_ : Nat) ≤ _); omega) | refine Below.setCell ?_ (by first | omega | (simp; done) | (simp; omega)) _ | refine Below.alloc ?_ (by first | omega | (simp; done) | (simp; omega)) _ | refine Below.drew ?_ | refine below_drewN ?_ _ | refine Below.trans ?_ (Below.mono (by assumption) (by first | omega | (simp; done) | (simp; omega)))))⟩
  by_cases g6 : 492 < nl.length
  · skip
    go_enter Try.func14, Try.ntmps14
    go_wp2_with (go_at_call 46; refine (rworks_any _).mono ?_; rintro e w0 ⟨rfl, hb0⟩; have hz0 := hb0.size; (try simp only [World.size_alloc] at hz0))
    all_goals go_ret
    all_goals exact ⟨rfl, by (repeat' (first | (with_reducible assumption) | (with_reducible exact Below.refl _ _) | (with_reducible refine below_sc ?_ ?_) | ((with_reducible show (_ : Nat) ≤ _); omega) | refine Below.setCell ?_ (by first | omega | (simp; done) | (simp; omega)) _ | refine Below.alloc ?_ (by first | omega | (simp; done) | (simp; omega)) _ | refine Below.drew ?_ | refine below_drewN ?_ _ | refine Below.trans ?_ (Below.mono (by assumption) (by first | omega | (simp; done) | (simp; omega)))))⟩
  obtain ⟨m, rfl⟩ : ∃ m, n = m + 1 := ⟨n - 1, by omega⟩
  clear g2
  have b1 : decide ((30 : Int) < (m : Int) + 1) = false := by rw [decide_eq_false_iff_not]; omega
  have b2 : ((m : Int) + 1 == 0) = false := by rw [beq_eq_false_iff_ne]; omega
  have b3 : decide ((1000 : Int) < (keep.length : Int)) = false := by rw [decide_eq_false_iff_not]; omega
  have b4 : decide (f < 1) = false := by rw [decide_eq_false_iff_not]; omega
  have b5 : decide (2147483607 < f) = false := by rw [decide_eq_false_iff_not]; omega
  have b6 : decide ((492 : Int) < (nl.length : Int)) = false := by rw [decide_eq_false_iff_not]; omega
  go_enter Try.func14, Try.ntmps14
  go_wp2_with fail
  refine (rworks_any _).mono ?_
  rintro e w1 ⟨rfl, k1⟩
  go_wp2_with fail
  refine (new_l ((DSt.start w).ext k1) 64 (by omega) (by omega)).mono ?_
  rintro e w2 ⟨g, rfl, h2⟩
  have H2 : Hid (DSt w [] [(g, ⟨64, [], [], 0, [], false⟩)] w2) := Lib.hid h2
  clear k1 h2
  go_wp2_with fail
  go_loopw [13, 14] (fun tv i wr => ∃ (j : Nat) (t : Int) (on : List Wr) (a b : RoT) (p q : Int), j ≤ m + 1 ∧ i = .int .i64 j ∧ tv = .int .i64 t ∧ t ≤ f + j ∧ ((p = 0 ∧ q = 1) ∨ (p = 1 ∧ q = 0)) ∧ placeR (f + j) = q ∧ PlR on p a ∧ PlR on q b ∧ a.t < f + j ∧ b.t < f + j ∧
    (∀ k (hk : k < l.length), k + 1 = j → t = f + j - 1 ∧ a = ⟨t, l[k]⟩ ∧ l[k].length ≤ 492) ∧ (∀ k (hk : k < l.length), k + 2 = j → b = ⟨t - 1, l[k]⟩ ∧ l[k].length ≤ 492) ∧
    Hid (DSt w [] [(g, ⟨64, on, [], 0, [], false⟩)] wr)) (fun _ i _ => m + 1 - (intOf i).toNat)
  case atStart =>
    have hf : placeR f = 0 ∨ placeR f = 1 := by rw [placeR_pos (by omega)]; omega
    rcases hf with hf | hf
    · exact ⟨0, f, [], ⟨0, []⟩, ⟨0, []⟩, 1, 0, Nat.zero_le _, rfl, rfl, by simp, .inr ⟨rfl, rfl⟩, by simpa using hf, PlR.nil _, PlR.nil _, by simp only; omega, by simp only; omega, fun k hk h => by omega, fun k hk h => by omega, H2⟩
    · exact ⟨0, f, [], ⟨0, []⟩, ⟨0, []⟩, 0, 1, Nat.zero_le _, rfl, rfl, by simp, .inl ⟨rfl, rfl⟩, by simpa using hf, PlR.nil _, PlR.nil _, by simp only; omega, by simp only; omega, fun k hk h => by omega, fun k hk h => by omega, H2⟩
  case round =>
    clear H2
    obtain ⟨j, t, on, a, b, p, q, hj, rfl, rfl, htf, hpq, hq, ha, hb, hat, hbt, hka, hkb, H⟩ := hrel
    by_cases hjl : j < m + 1
    · have hjl' : j < l.length := by rw [← HN.out]; exact hjl
      obtain ⟨bb, off, rfl, hlc, hlt, hcell⟩ := Hc.out j hjl'
      have cx : wr.cell? ⟨bb, off + j, none⟩ = some (.string (str l[j])) := (Below.cell (p := ⟨bb, off + j, none⟩) H.out.bel hlt).trans hcell
      have zj := str_size l[j]
      have HA := Lib.hid (And.intro hka hkb)
      clear hka hkb
      obtain ⟨s, hs⟩ : ∃ s, s = l[j] := ⟨_, rfl⟩
      rw [← hs] at cx hcell zj
      have HS := Lib.hid hs
      clear hs
      by_cases h492 : 492 < s.length
      · go_wp2_with fail
        go_ret
        exact ⟨rfl, H.out.bel⟩
      · have hmx : s.length ≤ maxLen := by unfold maxLen; omega
        obtain ⟨S, hS⟩ := rkS_go (t := f + j) (l := s) (by omega) (by omega) (by omega)
        have hqr : 0 ≤ q ∧ q < 64 := by omega
        have hpne : q ≠ p := by omega
        have lS : S.length = 512 := by
          have := rkS_length (t := f + j) (l := s)
          rw [hS] at this
          exact this
        have hput := DK.put_eq (D := ⟨64, on, [], 0, [], false⟩) hS
        rw [hq, DK.write_go hqr.1 hqr.2] at hput
        have hx1 : PlR (on ++ [(q, S)]) q ⟨f + j, s⟩ := by
          have := PlR.put (on := on) (show 1 ≤ f + (j : Int) by omega) hS
          rwa [hq] at this
        have ha1 : PlR (on ++ [(q, S)]) p a := ha.other hpne
        have hnw : nwV ⟨64, on ++ [(q, S)], [], 0, [], false⟩ (f + j) s = true := nw_true (x := ⟨f + j, s⟩) (a := a) (p := q) (q := p) (by omega) (by rw [List.append_nil]; exact hx1) (by rw [List.append_nil]; exact ha1) (by simp only; omega) hat
        have HP := Lib.hid hput
        have HW := Lib.hid hnw
        have HX := Lib.hid (And.intro hx1 ha1)
        clear hput hnw hS hx1 ha1 ha hb hbt
        go_wp2_with fail
        refine (r_any (f + j) s _).mono ?_
        rintro e w3 ⟨rfl, k3⟩
        go_wp2_with fail
        refine (put_k 0 (H.out.ext k3) rfl (f + j) s hmx _ _ HP.out (by simp) (by simp)).mono ?_
        rintro e w4 ⟨rfl, h4⟩
        go_wp2_with fail
        refine (flush_k 0 h4 rfl _ _ DK.flush_go (by simp) (by simp)).mono ?_
        rintro e w5 ⟨rfl, h5⟩
        replace h5 : DSt w [] [(g, ⟨64, on ++ [(q, S)], [], 0, [], false⟩)] w5 := h5
        have cx5 : w5.cell? ⟨bb, off + j, none⟩ = some (.string (str s)) := (Below.cell (p := ⟨bb, off + j, none⟩) h5.bel hlt).trans hcell
        clear cx k3 h4
        go_wp2_with fail
        refine (nw_k 0 h5 rfl (f + j) s true HW.out (by simp)).mono ?_
        rintro e w6 ⟨rfl, h6⟩
        clear cx5
        go_wp2_with fail
        go_roundw
        case rel =>
          refine ⟨j + 1, f + j, on ++ [(q, S)], ⟨f + j, s⟩, a, q, p, hjl, by simp, rfl, by simp; omega, by omega, ?_, HX.out.1, HX.out.2, by simp; omega, by simp; omega, fun k hk h => ?_, fun k hk h => ?_, Lib.hid h6⟩
          · rw [placeR_pos (by omega)] at hq ⊢
            simp only [Int.natCast_add, Int.natCast_one]
            omega
          · obtain rfl : k = j := by omega
            exact ⟨by simp; omega, by rw [HS.out], by rw [← HS.out]; omega⟩
          · obtain ⟨h1, h2, h3⟩ := HA.out.1 k hk (by omega)
            refine ⟨?_, h3⟩
            rw [h2, h1]
        case measure => first | (simp [intOf]; done) | (simp [intOf]; omega)
    · obtain rfl : j = m + 1 := by omega
      have hml : m < l.length := by rw [← HN.out]; omega
      obtain ⟨ht, ha0, hl1⟩ := hka m hml rfl
      obtain rfl : t = f + (m : Int) := by rw [ht]; simp; omega
      obtain ⟨bb, off, rfl, hlc, hlt, hcell⟩ := Hc.out m hml
      subst ha0
      have hqp : placeR (f + (m : Int)) = p := by
        rcases ha with ⟨h, _⟩ | ⟨_, h, _⟩
        · simp only [RoT.mk.injEq] at h
          omega
        · exact h
      have hq2 : placeR (f + (m : Int) + 1) = q := by rw [← hq]; congr 1; simp; omega
      have HB := Lib.hid hkb
      have HBt := Lib.hid hbt
      clear ht htf hka hkb hat hq hbt
      obtain ⟨s, hs⟩ : ∃ s, s = l[m] := ⟨_, rfl⟩
      rw [← hs] at ha hl1 hcell
      have HS := Lib.hid hs
      have cx : wr.cell? ⟨bb, off + m, none⟩ = some (.string (str s)) := (Below.cell (p := ⟨bb, off + m, none⟩) H.out.bel hlt).trans hcell
      have zs := str_size s
      have HA := Lib.hid ha
      have HBp := Lib.hid hb
      have HQ := Lib.hid (And.intro hqp hq2)
      clear hs ha hb hqp hq2
      rcases Nat.eq_zero_or_pos m with hm0 | hm0
      · have b7 : decide ((1 : Int) < (m : Int) + 1) = false := by rw [decide_eq_false_iff_not]; omega
        have HM := Lib.hid hm0
        have HZ := H
        clear hm0 H
        obtain ⟨cc, hcc, hke⟩ : ∃ cc : Int, (cc = 1 ∨ cc = 2 ∨ cc = 3) ∧ wrap64 (1 + wrap64 ((IntKind.u64.wrap cu).tmod 3)) = cc := by
          have h1 : 0 ≤ IntKind.u64.wrap cu := by simp [IntKind.wrap, IntKind.signed, IntKind.bits]; omega
          rw [Int.tmod_eq_emod_of_nonneg h1]
          refine ⟨1 + IntKind.u64.wrap cu % 3, by omega, ?_⟩
          generalize IntKind.u64.wrap cu = X at *
          unfold wrap64
          omega
        obtain ⟨S', hS'⟩ := rkS_go (t := f + m + 1) (l := nl) (by omega) (by omega) (by omega)
        have lS' : S'.length = 512 := by
          have := rkS_length (t := f + m + 1) (l := nl)
          rw [hS'] at this
          exact this
        have hqr : 0 ≤ q ∧ q < 64 := by omega
        have hx1 : PlR (on ++ [(q, S')]) q ⟨f + m + 1, nl⟩ := by
          have := PlR.put (on := on) (show 1 ≤ f + (m : Int) + 1 by omega) hS'
          rwa [HQ.out.2] at this
        have ha1 : PlR (on ++ [(q, S')]) p ⟨f + m, s⟩ := HA.out.other (by omega)
        have n1 : nwV ⟨64, on ++ [(q, S')], [], 0, [], false⟩ (f + m + 1) nl = true := nw_true (x := ⟨f + m + 1, nl⟩) (a := ⟨f + m, s⟩) (p := q) (q := p) (by omega) (by rw [List.append_nil]; exact hx1) (by rw [List.append_nil]; exact ha1) (by simp only; omega) (by simp only; omega)
        have hbl : b.t < f + m := by
          rcases HBp.out with ⟨h, _⟩ | ⟨h1, h2, _⟩
          · rw [h]; simp only; omega
          · have h3 : b.t ≠ f + m := fun e => by
              rw [e, HQ.out.1] at h2
              omega
            have h4 : b.t < f + ((m + 1 : Nat) : Int) := HBt.out
            rw [Int.natCast_add, Int.natCast_one] at h4
            omega
        have n2 : nwV ⟨64, on, [], 0, [], false⟩ (f + m + 1) nl = false := nw_false (x := ⟨f + m, s⟩) (a := b) (p := p) (q := q) (by omega) (by rw [List.append_nil]; exact HA.out) (by rw [List.append_nil]; exact HBp.out) (by simp only; omega) (by simp only; omega) (by simp only; omega)
        have n3 : nwV ⟨64, on, [], 0, [], false⟩ (f + m) s = true := nw_true (x := ⟨f + m, s⟩) (a := b) (p := p) (q := q) (by omega) (by rw [List.append_nil]; exact HA.out) (by rw [List.append_nil]; exact HBp.out) (by simp only; omega) (by simp only; omega)
        have put1 : ∀ c, DK.put ⟨64, on, [], c, keep, false⟩ (f + m + 1) nl = DK.write ⟨64, on, [], c, keep, false⟩ q S' := fun c => by rw [DK.put_eq hS', HQ.out.2]
        have N1 := Lib.hid n1
        have N2 := Lib.hid n2
        have N3 := Lib.hid n3
        have PU := Lib.hid put1
        have QR := Lib.hid hqr
        have HKE := Lib.hid hke
        clear n1 n2 n3 put1 hbl hx1 ha1 hS' lS' hqr hke
        go_upto_region 21 with fail
        rw [HKE.out]
        rcases hcc with rfl | rfl | rfl
        · go_wp2_with fail
          refine (cut_k 0 HZ.out rfl 1 keep (Hk.out.ext HZ.out.bel) _ _ (DK.say_go (by omega)) (by omega) (by omega) (fun b off m c' e => .inl (Hb.out b off m c' e))).mono ?_
          rintro e w10 ⟨rfl, h10⟩
          go_wp2_with fail
          refine (r_any (f + m + 1) nl _).mono ?_
          rintro e w11 ⟨rfl, k11⟩
          go_wp2_with fail
          refine (put_k 0 (h10.ext k11) rfl (f + m + 1) nl wn0 _ _ ((PU.out 1).trans (DK.write_die QR.out.1 QR.out.2)) (by dsimp only; omega) (by simp)).mono ?_
          rintro e w12 ⟨rfl, h12⟩
          go_wp2_with fail
          refine (flush_k 0 h12 rfl _ _ (DK.flush_no rfl) (by simp) (by simp)).mono ?_
          rintro e w13 ⟨rfl, h13⟩
          clear h10 k11 h12
          go_wp2_with fail
          refine (boot_l 0 h13 rfl rfl).mono ?_
          rintro e w14 ⟨g', rfl, h14⟩
          have HY : Hid (DSt w [] [(g', ⟨64, on ++ kept keep [(q, S')], [], 0, [], false⟩)] w14) := Lib.hid (h14.dropI 1)
          clear h13 h14
          rw [kept_one] at HY
          cases hk0 : keep.getD 0 false with
          | true =>
            rw [hk0, if_pos rfl] at HY
            go_wp2_with fail
            refine (nw_k 0 HY.out rfl (f + m + 1) nl true N1.out (by simp)).mono ?_
            rintro e w15 ⟨rfl, h15⟩
            go_wp2_with fail
            go_ret
            exact ⟨rfl, h15.bel⟩
          | false =>
            rw [hk0, if_neg (by simp), List.append_nil] at HY
            go_wp2_with fail
            refine (nw_k 0 HY.out rfl (f + m + 1) nl false N2.out (by simp)).mono ?_
            rintro e w15 ⟨rfl, h15⟩
            go_wp2_with fail
            refine (nw_k 0 h15 rfl (f + m) s true N3.out (by simp)).mono ?_
            rintro e w16 ⟨rfl, h16⟩
            go_wp2_with fail
            go_ret
            exact ⟨rfl, h16.bel⟩
        · go_wp2_with fail
          refine (cut_k 0 HZ.out rfl 2 keep (Hk.out.ext HZ.out.bel) _ _ (DK.say_go (by omega)) (by omega) (by omega) (fun b off m c' e => .inl (Hb.out b off m c' e))).mono ?_
          rintro e w10 ⟨rfl, h10⟩
          go_wp2_with fail
          refine (r_any (f + m + 1) nl _).mono ?_
          rintro e w11 ⟨rfl, k11⟩
          go_wp2_with fail
          refine (put_k 0 (h10.ext k11) rfl (f + m + 1) nl wn0 _ _ ((PU.out 2).trans (DK.write_more QR.out.1 QR.out.2 (by omega))) (by dsimp only; omega) (by simp)).mono ?_
          rintro e w12 ⟨rfl, h12⟩
          replace h12 : DSt w [] [(g, ⟨64, on, [(q, S')], 1, keep, false⟩)] w12 := h12
          go_wp2_with fail
          refine (flush_k 0 h12 rfl _ _ DK.flush_die (by dsimp only; omega) (by simp)).mono ?_
          rintro e w13 ⟨rfl, h13⟩
          clear h10 k11 h12
          go_wp2_with fail
          refine (boot_l 0 h13 rfl rfl).mono ?_
          rintro e w14 ⟨g', rfl, h14⟩
          have HY : Hid (DSt w [] [(g', ⟨64, on ++ kept keep [(q, S')], [], 0, [], false⟩)] w14) := Lib.hid (h14.dropI 1)
          clear h13 h14
          rw [kept_one] at HY
          cases hk0 : keep.getD 0 false with
          | true =>
            rw [hk0, if_pos rfl] at HY
            go_wp2_with fail
            refine (nw_k 0 HY.out rfl (f + m + 1) nl true N1.out (by simp)).mono ?_
            rintro e w15 ⟨rfl, h15⟩
            go_wp2_with fail
            go_ret
            exact ⟨rfl, h15.bel⟩
          | false =>
            rw [hk0, if_neg (by simp), List.append_nil] at HY
            go_wp2_with fail
            refine (nw_k 0 HY.out rfl (f + m + 1) nl false N2.out (by simp)).mono ?_
            rintro e w15 ⟨rfl, h15⟩
            go_wp2_with fail
            refine (nw_k 0 h15 rfl (f + m) s true N3.out (by simp)).mono ?_
            rintro e w16 ⟨rfl, h16⟩
            go_wp2_with fail
            go_ret
            exact ⟨rfl, h16.bel⟩
        · go_wp2_with fail
          refine (cut_k 0 HZ.out rfl 3 keep (Hk.out.ext HZ.out.bel) _ _ (DK.say_go (by omega)) (by omega) (by omega) (fun b off m c' e => .inl (Hb.out b off m c' e))).mono ?_
          rintro e w10 ⟨rfl, h10⟩
          go_wp2_with fail
          refine (r_any (f + m + 1) nl _).mono ?_
          rintro e w11 ⟨rfl, k11⟩
          go_wp2_with fail
          refine (put_k 0 (h10.ext k11) rfl (f + m + 1) nl wn0 _ _ ((PU.out 3).trans (DK.write_more QR.out.1 QR.out.2 (by omega))) (by dsimp only; omega) (by simp)).mono ?_
          rintro e w12 ⟨rfl, h12⟩
          replace h12 : DSt w [] [(g, ⟨64, on, [(q, S')], 2, keep, false⟩)] w12 := h12
          go_wp2_with fail
          refine (flush_k 0 h12 rfl _ _ (DK.flush_more (by omega)) (by dsimp only; omega) (by simp)).mono ?_
          rintro e w13 ⟨rfl, h13⟩
          replace h13 : DSt w [] [(g, ⟨64, on ++ [(q, S')], [], 1, keep, false⟩)] w13 := h13
          clear h10 k11 h12
          go_wp2_with fail
          refine (fail_k 0 h13 rfl keep (Hk.out.ext h13.bel) _ _ DK.fail_go (by omega) (by simp)).mono ?_
          rintro e w14 ⟨rfl, h14⟩
          rw [show kept keep [] = [] by simp [kept], List.append_nil] at h14
          go_wp2_with fail
          refine (boot_l 0 h14 rfl rfl).mono ?_
          rintro e w15 ⟨g', rfl, h15⟩
          have HY : Hid (DSt w [] [(g', ⟨64, on ++ [(q, S')], [], 0, [], false⟩)] w15) := Lib.hid (h15.dropI 1)
          clear h13 h14 h15
          go_wp2_with fail
          refine (nw_k 0 HY.out rfl (f + m + 1) nl true N1.out (by simp)).mono ?_
          rintro e w16 ⟨rfl, h16⟩
          go_wp2_with fail
          go_ret
          exact ⟨rfl, h16.bel⟩
      · obtain ⟨m', hm'⟩ : ∃ m', m = m' + 1 := ⟨m - 1, by omega⟩
        have b7 : decide ((1 : Int) < (m : Int) + 1) = true := by rw [decide_eq_true_iff]; omega
        have hml' : m' < l.length := by omega
        obtain ⟨hbe, hl2⟩ := HB.out m' hml' (by omega)
        have hcell' : w.cell? ⟨bb, off + m', none⟩ = some (.string (str l[m'])) := by
          obtain ⟨bb', off', e, _, _, h⟩ := Hc.out m' hml'
          cases e
          exact h
        obtain ⟨s', hs'⟩ : ∃ s, s = l[m'] := ⟨_, rfl⟩
        rw [← hs'] at hbe hl2 hcell'
        have hi2 : (m : Int) + 1 - 2 = (m' : Int) := by omega
        have hi3 : (m : Int) - 1 = (m' : Int) := by omega
        have hi4 : (m : Int) + -1 = (m' : Int) := by omega
        have hpr : 0 ≤ p ∧ p < 64 := by omega
        have hw := DK.write_go (n := 64) (z := p) (on := on) (wt := []) (keep := []) (b := zB) hpr.1 hpr.2
        have hv : nwV ⟨64, on, [(p, zB)], 0, [], false⟩ (f + m - 1) s' = true := by
          have hb1 := HBp.out
          rw [hbe] at hb1
          exact nw_true (x := ⟨f + m - 1, s'⟩) (a := ⟨0, []⟩) (p := q) (q := p) (by omega) (hb1.other (by omega)) (PlR.zero p) (by simp only; omega) (by simp only; omega)
        have HW := Lib.hid hw
        have HV := Lib.hid hv
        have HM := Lib.hid hm'
        have HE := Lib.hid (And.intro hbe hs')
        clear hm' hm0 hbe hs' hw hv
        go_wp2_with fail
        refine (copy_l 0 H.out rfl (by simp) (by simp)).mono ?_
        rintro e v1 ⟨gc, rfl, i1⟩
        go_wp2_with fail
        refine (rgPlace_k _ p HQ.out.1 _).mono ?_
        rintro e v2 ⟨rfl, i2⟩
        go_wp2_with (refine wpList_bd rfl 25 rfl build_blk ?_; simp only [Act.put])
        refine (write_k 0 (i1.ext i2) rfl p zB_length _ _ HW.out (by simp) (by simp)).mono ?_
        rintro e v3 ⟨rfl, i3⟩
        have cx' : v3.cell? ⟨bb, off + m', none⟩ = some (.string (str s')) := (Below.cell (p := ⟨bb, off + m', none⟩) i3.bel hlt).trans hcell'
        clear i1 i2
        go_wp2_with fail
        refine (nw_k 0 i3 rfl (f + m - 1) s' true HV.out (by simp)).mono ?_
        rintro e v4 ⟨rfl, i4⟩
        have HZ : Hid (DSt w [] [(g, ⟨64, on, [], 0, [], false⟩)] v4) := Lib.hid (i4.dropI 0)
        clear cx' i3 i4 H hi2 hi3 hi4
        obtain ⟨cc, hcc, hke⟩ : ∃ cc : Int, (cc = 1 ∨ cc = 2 ∨ cc = 3) ∧ wrap64 (1 + wrap64 ((IntKind.u64.wrap cu).tmod 3)) = cc := by
          have h1 : 0 ≤ IntKind.u64.wrap cu := by simp [IntKind.wrap, IntKind.signed, IntKind.bits]; omega
          rw [Int.tmod_eq_emod_of_nonneg h1]
          refine ⟨1 + IntKind.u64.wrap cu % 3, by omega, ?_⟩
          generalize IntKind.u64.wrap cu = X at *
          unfold wrap64
          omega
        obtain ⟨S', hS'⟩ := rkS_go (t := f + m + 1) (l := nl) (by omega) (by omega) (by omega)
        have lS' : S'.length = 512 := by
          have := rkS_length (t := f + m + 1) (l := nl)
          rw [hS'] at this
          exact this
        have hqr : 0 ≤ q ∧ q < 64 := by omega
        have hx1 : PlR (on ++ [(q, S')]) q ⟨f + m + 1, nl⟩ := by
          have := PlR.put (on := on) (show 1 ≤ f + (m : Int) + 1 by omega) hS'
          rwa [HQ.out.2] at this
        have ha1 : PlR (on ++ [(q, S')]) p ⟨f + m, s⟩ := HA.out.other (by omega)
        have n1 : nwV ⟨64, on ++ [(q, S')], [], 0, [], false⟩ (f + m + 1) nl = true := nw_true (x := ⟨f + m + 1, nl⟩) (a := ⟨f + m, s⟩) (p := q) (q := p) (by omega) (by rw [List.append_nil]; exact hx1) (by rw [List.append_nil]; exact ha1) (by simp only; omega) (by simp only; omega)
        have hbl : b.t < f + m := by
          rcases HBp.out with ⟨h, _⟩ | ⟨h1, h2, _⟩
          · rw [h]; simp only; omega
          · have h3 : b.t ≠ f + m := fun e => by
              rw [e, HQ.out.1] at h2
              omega
            have h4 : b.t < f + ((m + 1 : Nat) : Int) := HBt.out
            rw [Int.natCast_add, Int.natCast_one] at h4
            omega
        have n2 : nwV ⟨64, on, [], 0, [], false⟩ (f + m + 1) nl = false := nw_false (x := ⟨f + m, s⟩) (a := b) (p := p) (q := q) (by omega) (by rw [List.append_nil]; exact HA.out) (by rw [List.append_nil]; exact HBp.out) (by simp only; omega) (by simp only; omega) (by simp only; omega)
        have n3 : nwV ⟨64, on, [], 0, [], false⟩ (f + m) s = true := nw_true (x := ⟨f + m, s⟩) (a := b) (p := p) (q := q) (by omega) (by rw [List.append_nil]; exact HA.out) (by rw [List.append_nil]; exact HBp.out) (by simp only; omega) (by simp only; omega)
        have put1 : ∀ c, DK.put ⟨64, on, [], c, keep, false⟩ (f + m + 1) nl = DK.write ⟨64, on, [], c, keep, false⟩ q S' := fun c => by rw [DK.put_eq hS', HQ.out.2]
        have N1 := Lib.hid n1
        have N2 := Lib.hid n2
        have N3 := Lib.hid n3
        have PU := Lib.hid put1
        have QR := Lib.hid hqr
        have HKE := Lib.hid hke
        clear n1 n2 n3 put1 hbl hx1 ha1 hS' lS' hqr hke
        go_upto_region 21 with fail
        rw [HKE.out]
        rcases hcc with rfl | rfl | rfl
        · go_wp2_with fail
          refine (cut_k 0 HZ.out rfl 1 keep (Hk.out.ext HZ.out.bel) _ _ (DK.say_go (by omega)) (by omega) (by omega) (fun b off m c' e => .inl (Hb.out b off m c' e))).mono ?_
          rintro e w10 ⟨rfl, h10⟩
          go_wp2_with fail
          refine (r_any (f + m + 1) nl _).mono ?_
          rintro e w11 ⟨rfl, k11⟩
          go_wp2_with fail
          refine (put_k 0 (h10.ext k11) rfl (f + m + 1) nl wn0 _ _ ((PU.out 1).trans (DK.write_die QR.out.1 QR.out.2)) (by dsimp only; omega) (by simp)).mono ?_
          rintro e w12 ⟨rfl, h12⟩
          go_wp2_with fail
          refine (flush_k 0 h12 rfl _ _ (DK.flush_no rfl) (by simp) (by simp)).mono ?_
          rintro e w13 ⟨rfl, h13⟩
          clear h10 k11 h12
          go_wp2_with fail
          refine (boot_l 0 h13 rfl rfl).mono ?_
          rintro e w14 ⟨g', rfl, h14⟩
          have HY : Hid (DSt w [] [(g', ⟨64, on ++ kept keep [(q, S')], [], 0, [], false⟩)] w14) := Lib.hid (h14.dropI 1)
          clear h13 h14
          rw [kept_one] at HY
          cases hk0 : keep.getD 0 false with
          | true =>
            rw [hk0, if_pos rfl] at HY
            go_wp2_with fail
            refine (nw_k 0 HY.out rfl (f + m + 1) nl true N1.out (by simp)).mono ?_
            rintro e w15 ⟨rfl, h15⟩
            go_wp2_with fail
            go_ret
            exact ⟨rfl, h15.bel⟩
          | false =>
            rw [hk0, if_neg (by simp), List.append_nil] at HY
            go_wp2_with fail
            refine (nw_k 0 HY.out rfl (f + m + 1) nl false N2.out (by simp)).mono ?_
            rintro e w15 ⟨rfl, h15⟩
            go_wp2_with fail
            refine (nw_k 0 h15 rfl (f + m) s true N3.out (by simp)).mono ?_
            rintro e w16 ⟨rfl, h16⟩
            go_wp2_with fail
            go_ret
            exact ⟨rfl, h16.bel⟩
        · go_wp2_with fail
          refine (cut_k 0 HZ.out rfl 2 keep (Hk.out.ext HZ.out.bel) _ _ (DK.say_go (by omega)) (by omega) (by omega) (fun b off m c' e => .inl (Hb.out b off m c' e))).mono ?_
          rintro e w10 ⟨rfl, h10⟩
          go_wp2_with fail
          refine (r_any (f + m + 1) nl _).mono ?_
          rintro e w11 ⟨rfl, k11⟩
          go_wp2_with fail
          refine (put_k 0 (h10.ext k11) rfl (f + m + 1) nl wn0 _ _ ((PU.out 2).trans (DK.write_more QR.out.1 QR.out.2 (by omega))) (by dsimp only; omega) (by simp)).mono ?_
          rintro e w12 ⟨rfl, h12⟩
          replace h12 : DSt w [] [(g, ⟨64, on, [(q, S')], 1, keep, false⟩)] w12 := h12
          go_wp2_with fail
          refine (flush_k 0 h12 rfl _ _ DK.flush_die (by dsimp only; omega) (by simp)).mono ?_
          rintro e w13 ⟨rfl, h13⟩
          clear h10 k11 h12
          go_wp2_with fail
          refine (boot_l 0 h13 rfl rfl).mono ?_
          rintro e w14 ⟨g', rfl, h14⟩
          have HY : Hid (DSt w [] [(g', ⟨64, on ++ kept keep [(q, S')], [], 0, [], false⟩)] w14) := Lib.hid (h14.dropI 1)
          clear h13 h14
          rw [kept_one] at HY
          cases hk0 : keep.getD 0 false with
          | true =>
            rw [hk0, if_pos rfl] at HY
            go_wp2_with fail
            refine (nw_k 0 HY.out rfl (f + m + 1) nl true N1.out (by simp)).mono ?_
            rintro e w15 ⟨rfl, h15⟩
            go_wp2_with fail
            go_ret
            exact ⟨rfl, h15.bel⟩
          | false =>
            rw [hk0, if_neg (by simp), List.append_nil] at HY
            go_wp2_with fail
            refine (nw_k 0 HY.out rfl (f + m + 1) nl false N2.out (by simp)).mono ?_
            rintro e w15 ⟨rfl, h15⟩
            go_wp2_with fail
            refine (nw_k 0 h15 rfl (f + m) s true N3.out (by simp)).mono ?_
            rintro e w16 ⟨rfl, h16⟩
            go_wp2_with fail
            go_ret
            exact ⟨rfl, h16.bel⟩
        · go_wp2_with fail
          refine (cut_k 0 HZ.out rfl 3 keep (Hk.out.ext HZ.out.bel) _ _ (DK.say_go (by omega)) (by omega) (by omega) (fun b off m c' e => .inl (Hb.out b off m c' e))).mono ?_
          rintro e w10 ⟨rfl, h10⟩
          go_wp2_with fail
          refine (r_any (f + m + 1) nl _).mono ?_
          rintro e w11 ⟨rfl, k11⟩
          go_wp2_with fail
          refine (put_k 0 (h10.ext k11) rfl (f + m + 1) nl wn0 _ _ ((PU.out 3).trans (DK.write_more QR.out.1 QR.out.2 (by omega))) (by dsimp only; omega) (by simp)).mono ?_
          rintro e w12 ⟨rfl, h12⟩
          replace h12 : DSt w [] [(g, ⟨64, on, [(q, S')], 2, keep, false⟩)] w12 := h12
          go_wp2_with fail
          refine (flush_k 0 h12 rfl _ _ (DK.flush_more (by omega)) (by dsimp only; omega) (by simp)).mono ?_
          rintro e w13 ⟨rfl, h13⟩
          replace h13 : DSt w [] [(g, ⟨64, on ++ [(q, S')], [], 1, keep, false⟩)] w13 := h13
          clear h10 k11 h12
          go_wp2_with fail
          refine (fail_k 0 h13 rfl keep (Hk.out.ext h13.bel) _ _ DK.fail_go (by omega) (by simp)).mono ?_
          rintro e w14 ⟨rfl, h14⟩
          rw [show kept keep [] = [] by simp [kept], List.append_nil] at h14
          go_wp2_with fail
          refine (boot_l 0 h14 rfl rfl).mono ?_
          rintro e w15 ⟨g', rfl, h15⟩
          have HY : Hid (DSt w [] [(g', ⟨64, on ++ [(q, S')], [], 0, [], false⟩)] w15) := Lib.hid (h15.dropI 1)
          clear h13 h14 h15
          go_wp2_with fail
          refine (nw_k 0 HY.out rfl (f + m + 1) nl true N1.out (by simp)).mono ?_
          rintro e w16 ⟨rfl, h16⟩
          go_wp2_with fail
          go_ret
          exact ⟨rfl, h16.bel⟩

theorem own : ownKnob Try.prog.godebug = none := by kernel_rfl
theorem laidOut : laidOutB Try.prog = true := by kernel_rfl

set_option maxRecDepth 100000 in
theorem lifted (os : Os) (started : os.Started) (H : Type) (enc : TypeId × Value → H) :
    ReturnsInHanded {} Try.checked os 14 .any (Rows.ringTurnsSpec.pre6 enc Try.prog Try.f14 Rows.ringTurnsRow.domain false) (Rows.ringTurnsSpec.post enc Try.prog Try.f14 false true false false) := by
  refine returnsInHanded_of_change (C := Try.checked) own started (by kernel_rfl) Try.func14
    (ChangeSpec.witness6 (enc := enc) (C := Try.checked) false ⟨#[], #[.int .i64 0, .slice none 0 0, .string ⟨#[]⟩, .int .i64 0, .slice none 0 0], []⟩ 8 (by kernel_rfl) (by kernel_rfl) (by kernel_rfl) (by kernel_rfl)) ?_
  intro W base args ds gs before hval0 hW hcnd _
  have hval : ∀ (j : Nat) t v, Try.f14.params[j]? = some t → args[j]? = some v → Value.okWide Try.prog W .any base t v := hval0
  have hW' := hW
  obtain ⟨p, q, hA0, hV, rfl, hfz, hnd⟩ := hW
  have hA : DataW.TrodAll enc Try.prog W 0 (fun _ => true) true Try.f14.params.toList args.toList ds p := hA0
  rw [Try.params14] at hA hval
  obtain ⟨v0, vs0, d0, ds0, p0, q0, hargs, rfl, rfl, h0, r0⟩ := trodAll_cons hA
  obtain ⟨v1, vs1, d1, ds1, p1, q1, rfl, rfl, rfl, h1, r1⟩ := trodAll_cons r0
  obtain ⟨v2, vs2, d2, ds2, p2, q2, rfl, rfl, rfl, h2, r2⟩ := trodAll_cons r1
  obtain ⟨v3, vs3, d3, ds3, p3, q3, rfl, rfl, rfl, h3, r3⟩ := trodAll_cons r2
  obtain ⟨v4, vs4, d4, ds4, p4, q4, rfl, rfl, rfl, h4, r4⟩ := trodAll_cons r3
  obtain ⟨rfl, rfl, rfl⟩ := trodAll_nil r4
  obtain rfl : args = #[v0, v1, v2, v3, v4] := by cases args; simp_all
  obtain ⟨rfl, rfl⟩ := trodVars_none hV
  have k0 := h0
  have lt0 : ∀ x ∈ p0, x.block < W.heap.size := by obtain ⟨m, hm⟩ := k0; exact DataW.trod_lt m _ _ _ hm
  have k1 := h1
  have lt1 : ∀ x ∈ p1, x.block < W.heap.size := by obtain ⟨m, hm⟩ := k1; exact DataW.trod_lt m _ _ _ hm
  have k2 := h2
  have lt2 : ∀ x ∈ p2, x.block < W.heap.size := by obtain ⟨m, hm⟩ := k2; exact DataW.trod_lt m _ _ _ hm
  have k3 := h3
  have lt3 : ∀ x ∈ p3, x.block < W.heap.size := by obtain ⟨m, hm⟩ := k3; exact DataW.trod_lt m _ _ _ hm
  have k4 := h4
  have lt4 : ∀ x ∈ p4, x.block < W.heap.size := by obtain ⟨m, hm⟩ := k4; exact DataW.trod_lt m _ _ _ hm
  obtain ⟨a0, rfl, -, -, wa0⟩ := open_int Try.underlying3 (hval 0 _ v0 rfl rfl) h0
  obtain ⟨x1, rfl, w1⟩ := open_Wstrs (hval 1 _ v1 rfl rfl) h1
  obtain ⟨l2, rfl, wl2⟩ := open_str Try.underlying9 (hval 2 _ v2 rfl rfl) h2
  obtain ⟨a3, rfl, -, -, wa3⟩ := open_int Try.underlying3 (hval 3 _ v3 rfl rfl) h3
  obtain ⟨l4, y4, wl4⟩ := open_boolsL Try.underlying39 Try.underlying4 (by kernel_rfl) (hval 4 _ v4 rfl rfl) h4
  refine (walk (w := W) a0 wa0 x1 w1 l2 wl2 a3 wa3 v4 l4 y4 wl4).mono fun e W' ⟨he, bel⟩ => ?_
  subst he
  exact ⟨_, rfl, _, _, _, [], _, [], hW', trodAll_mk1 (shut_bool Try.underlying4 _), (trodAll_cons_mk (Below.trod laidOut (by kernel_rfl) (of_decide_eq_true (by kernel_rfl)) k0 bel lt0) (trodAll_cons_mk (Below.trod laidOut (by kernel_rfl) (of_decide_eq_true (by kernel_rfl)) k1 bel lt1) (trodAll_cons_mk (Below.trod laidOut (by kernel_rfl) (of_decide_eq_true (by kernel_rfl)) k2 bel lt2) (trodAll_cons_mk (Below.trod laidOut (by kernel_rfl) (of_decide_eq_true (by kernel_rfl)) k3 bel lt3) (trodAll_cons_mk (Below.trod laidOut (by kernel_rfl) (of_decide_eq_true (by kernel_rfl)) k4 bel lt4) trodAll_mk0))))), rfl, bel.frame _, fun h => by cases h⟩

theorem proved : Rows.RingTurnsSaid :=
  OpenClaim.holds_of_wide 14 Try.f14 rfl rfl rfl rfl rfl rfl rfl ⟨rfl, rfl, rfl, rfl, rfl⟩ rfl rfl rfl rfl rfl (by kernel_rfl) Try.func14 (by kernel_rfl)
    (of_decide_eq_true (by kernel_rfl)) (by unfold Func.isWrapper; first | (rw [if_pos (by decide +kernel)]; kernel_rfl) | (rw [if_neg (by decide +kernel)]; exact ⟨rfl, rfl⟩))
    (fun os started H enc _ => lifted os started H enc)
end Go.Proofs.Ytobcfocbglkicaa.ringTurns
