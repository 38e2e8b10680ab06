/- The claim XdrReads: the walk of its law, and the statement. -/
import Derived.Test.YtaccjneglaomhaaRdN
set_option linter.unusedVariables false
namespace Go.Proofs.Ytaccjneglaomhaa.xdrReads
open Go.RowKit Go.ChangeShapes Go.WideShapes Go.ChangeAt Go.Deep Go.Proofs.Ytaccjneglaomhaa

def Both (w0 : World) (g1 g2 : Nat) (wr : World) : Prop := ∃ s : St, s.l.length ≤ 3000 ∧ Rd 92 wr g1 s ∧ Rd 67 wr g2 s ∧ Below w0.heap.size w0 wr
def Pair (w0 : World) (B gi g1 g2 : Nat) (lb : List UInt8) (wr : World) : Prop := Below w0.heap.size w0 wr ∧ Rdo 92 wr B g1 lb ∧ Rdo 67 wr B g2 lb ∧ (lb.length = 0 ∨ ∃ cs, wr.heap[gi]? = some (.cells cs 5 (0, 0)) ∧ lb.length ≤ cs.size)
theorem Pair.set {w0 wr : World} {B gi g1 g2 : Nat} {lb : List UInt8} (h : Pair w0 B gi g1 g2 lb wr) (hl : 0 < lb.length) (hg : gi < B) (h0 : w0.heap.size ≤ gi) (k : Nat) (v : Value) : Pair w0 B gi g1 g2 lb (wr.setCell ⟨gi, k, none⟩ v) := by
  obtain ⟨h1, h2, h3, h4⟩ := h
  have hb : ∀ cs, wr.heap[gi]? = some (.cells cs 5 (0, 0)) → But gi wr (wr.setCell ⟨gi, k, none⟩ v) := fun cs hc => by
    rw [setCell_eq_setRow _ gi k _ _ _ _ hc]
    exact ⟨rfl, rfl, rfl, by simp [World.setRow], fun i _ hne => setRow_other wr gi i _ (by simpa using hne)⟩
  rcases h4 with h4 | ⟨cs, hc, hs⟩
  · omega
  · refine ⟨h1.setCell h0 _, h2.but (hb _ hc) hg, h3.but (hb _ hc) hg, .inr ⟨cs.setIfInBounds k v, ?_, by simpa using hs⟩⟩
    rw [setCell_eq_setRow _ gi k _ _ _ _ hc]
    exact setRow_heap _ _ _ _ _ _ hc

set_option maxHeartbeats 8000000 in
set_option maxRecDepth 100000 in
theorem walk (v0 : Value) (lb : List UInt8) (w : World) (hv : RS w v0 lb) (wlb : lb.length ≤ maxLen) (x : StepsT) (hx : x.Ok w) :
    Calls Try.prog 6 #[v0, x.v] w fun e w' => e = .returned (.bool true) ∧ Below w.heap.size w w' := by
  obtain ⟨xv, l⟩ := x
  obtain ⟨hS, wl⟩ := hx
  simp only at hS wl ⊢
  obtain ⟨A, c, rfl⟩ := hv.form
  obtain ⟨A2, c2, rfl⟩ := hS.form
  by_cases h1 : 3000 < lb.length
  · go_enter Try.func6, Try.ntmps6
    go_wp2_with fail
    go_ret
    exact ⟨rfl, by (repeat (first | exact Below.refl _ _ | refine Below.setCell ?_ (by first | omega | (simp; done) | (simp; omega)) _ | refine Below.alloc ?_ (by first | omega | (simp; done) | (simp; omega)) _ | refine Below.drew ?_ | refine below_drewN ?_ _ | refine Below.trans ?_ (Below.mono (by assumption) (by first | omega | (simp; done) | (simp; omega)))))⟩
  by_cases h2 : 100 < l.length
  · go_enter Try.func6, Try.ntmps6
    go_wp2_with fail
    go_ret
    exact ⟨rfl, by (repeat (first | exact Below.refl _ _ | refine Below.setCell ?_ (by first | omega | (simp; done) | (simp; omega)) _ | refine Below.alloc ?_ (by first | omega | (simp; done) | (simp; omega)) _ | refine Below.drew ?_ | refine below_drewN ?_ _ | refine Below.trans ?_ (Below.mono (by assumption) (by first | omega | (simp; done) | (simp; omega)))))⟩
  obtain ⟨va, wa, hra, hoa, hba⟩ := appZ (ty := 22) (own_none (w := w) (T := 5)).z (srcS (hv.ext (ext_alloc w _))) (by simp) (by simp; omega)
  rw [List.nil_append] at hoa
  have hxa : Ext w wa := Below.trans (ext_alloc w _) hba
  have hin := hoa.rs
  obtain ⟨Aa, ca, gi, rfl, hgi⟩ : ∃ Aa ca gi, va = .slice Aa lb.length ca ∧ (lb.length = 0 ∨ Aa = some ⟨gi, 0, none⟩ ∧ w.heap.size ≤ gi ∧ gi < wa.heap.size ∧ ∃ cs, wa.heap[gi]? = some (.cells cs 5 (0, 0)) ∧ lb.length ≤ cs.size) := by
    rcases hoa with ⟨rfl, rfl⟩ | ⟨c, g, junk, rfl, hB, hg, hc⟩
    · exact ⟨none, 0, 0, rfl, .inl rfl⟩
    · exact ⟨_, c, g, rfl, .inr ⟨rfl, hB, (Array.getElem?_eq_some_iff.1 hg).1, _, hg, by rw [bvs_size]; simp⟩⟩
  have HS := Lib.hid hS
  have HG := Lib.hid hgi
  clear hgi
  go_enter Try.func6, Try.ntmps6
  go_wp2_with (at_builtin; refine wpList_app rfl _ _ _ _ rfl hra ?_)
  refine (newReader_o _ lb _ hin (by omega)).mono ?_
  rintro e w1 ⟨g1, rfl, o1, b1⟩
  have e1 : Ext wa w1 := b1
  go_wp2_with fail
  refine (rnewReader_o _ lb _ (hv.ext (hxa.trans e1)) (by omega)).mono ?_
  rintro e w2 ⟨g2, rfl, o2, b2⟩
  have e2 : Ext wa w2 := e1.trans b2
  have p1 := o1.ext b2
  have p2 := o2.mono e1.size
  have hne : g1 ≠ g2 := by
    have h3 := o1.rd.lt
    obtain ⟨_, _, _, h4⟩ := o2
    omega
  have hB1 : w.heap.size ≤ g1 := by obtain ⟨_, _, _, h4⟩ := o1; exact Nat.le_trans hxa.size h4
  have hB2 : w.heap.size ≤ g2 := by obtain ⟨_, _, _, h4⟩ := p2; exact Nat.le_trans hxa.size h4
  have HP : Hid (Pair w wa.heap.size gi g1 g2 lb w2) := ⟨hxa.trans e2, p1, p2, HG.out.imp id fun ⟨_, _, h5, cs, h6, h7⟩ => ⟨cs, (e2.block gi h5).trans h6, h7⟩⟩
  clear hra
  go_wp2_with fail
  go_loopw [8] (fun i wr => ∃ k : Nat, k ≤ lb.length ∧ i = .int .i64 k ∧ Hid (Pair w wa.heap.size gi g1 g2 lb wr)) (fun i _ => lb.length - (intOf i).toNat)
  case atStart => exact ⟨0, by omega, rfl, HP⟩
  case round =>
    obtain ⟨k, hk, rfl, HQ⟩ := hrel
    by_cases hlt : k < lb.length
    · obtain ⟨rfl, hg1, hg2, -⟩ : Aa = some ⟨gi, 0, none⟩ ∧ w.heap.size ≤ gi ∧ gi < wa.heap.size ∧ True := by
        rcases HG.out with h5 | ⟨h5, h6, h7, _⟩
        · omega
        · exact ⟨h5, h6, h7, trivial⟩
      obtain ⟨cs', hh, hs'⟩ : ∃ cs, wr.heap[gi]? = some (.cells cs 5 (0, 0)) ∧ lb.length ≤ cs.size := by
        rcases HQ.out.2.2.2 with h5 | h5
        · omega
        · exact h5
      have hcell : wr.cell? ⟨gi, k, none⟩ = some (cs'[k]'(by omega)) := by
        rw [cell_of_row _ _ _ _ _ _ hh]; simp
      have hfro : wr.frozen? ⟨gi, k, none⟩ = false := by simp [World.frozen?, hh]
      clear hh
      go_wp2_with fail
      go_roundw
      case rel => exact ⟨k + 1, by omega, by go_num, HQ.out.set (by omega) hg2 hg1 _ _⟩
      case measure => simp [intOf]; omega
    · obtain rfl : k = lb.length := by omega
      have HB : Hid (Both w g1 g2 wr) := ⟨some lb, by simp [St.l]; omega, HQ.out.2.1.rd, HQ.out.2.2.1.rd, HQ.out.1⟩
      obtain ⟨wo, rfl⟩ : ∃ wo : World, wo = wr := ⟨_, rfl⟩
      clear HQ HP
      go_wp2_with fail
      go_loopw [9] (fun i wr => ∃ k : Nat, k ≤ l.length ∧ i = .int .i64 k ∧ Hid (Both w g1 g2 wr)) (fun i _ => l.length - (intOf i).toNat)
      case atStart => exact ⟨0, by omega, rfl, HB⟩
      case round =>
        obtain ⟨k, hk, rfl, HQ⟩ := hrel
        by_cases hlt : k < l.length
        case neg =>
          have kb := HQ.out
          obtain ⟨_, _, _, _, kb⟩ := kb
          go_wp2_with fail
          go_ret
          exact ⟨rfl, kb⟩
        obtain ⟨s, hsl, r1, r2, kb⟩ := HQ.out
        obtain ⟨b, off, rfl, -, hb, hcc, hj⟩ := HS.out.some_of (by omega)
        obtain ⟨hk0, hn0⟩ := hj k hlt
        obtain ⟨kd, hkd⟩ : ∃ kd, kd = l[k].1 := ⟨_, rfl⟩
        obtain ⟨N, hN⟩ : ∃ N, N = l[k].2 := ⟨_, rfl⟩
        rw [← hkd] at hk0
        rw [← hN] at hn0
        have hk1 : wr.cell? ⟨b, off + k * 2, none⟩ = some (.int .u8 kd) := (kb.cell (p := ⟨b, off + k * 2, none⟩) hb).trans hk0
        have hn1 : wr.cell? ⟨b, off + k * 2 + 1, none⟩ = some (.int .i64 N) := (kb.cell (p := ⟨b, off + k * 2 + 1, none⟩) hb).trans hn0
        clear hj hk0 hn0 hkd hN hin o1 o2 p1 p2 hv hS
        by_cases k0 : kd = 0
        · subst k0
          go_wp2_with fail
          refine (word_any g1 s _ r1).mono ?_
          rintro e w3 ⟨rfl, r3, k3⟩
          go_wp2_with fail
          refine (rword_any g2 s _ (r2.but r1 (Ne.symm hne) k3)).mono ?_
          rintro e w4 ⟨rfl, r4, k4⟩
          obtain ⟨s', hs'⟩ : ∃ s', s' = (rdW s).2 := ⟨_, rfl⟩
          have q1 := r3.but (r2.but r1 (Ne.symm hne) k3) hne k4
          have q2 := r4
          rw [← hs'] at q1 q2
          have hle : s'.l.length ≤ 3000 := by rw [hs']; exact Nat.le_trans (rdW_len s) hsl
          clear hs'
          have kz : Below w.heap.size w w4 := (kb.trans (k3.below hB1 kb.size)).trans (k4.below hB2 (Nat.le_trans kb.size k3.size))
          have OKx : ∀ e : ExtOf w4.heap.size w4, _ := fun e => same_ext (ok_any g1 s' e.val (q1.ext e.ok))
          have LFx : ∀ e : ExtOf w4.heap.size w4, _ := fun e => same_ext (left_any g1 s' e.val (q1.ext e.ok))
          have DNx : ∀ e : ExtOf w4.heap.size w4, _ := fun e => same_ext (done_any g1 s' e.val (q1.ext e.ok))
          have RDx : ∀ e : ExtOf w4.heap.size w4, _ := fun e => same_ext (rdone_any g2 s' e.val (q2.ext e.ok))
          have HO := Lib.hid OKx
          have HL := Lib.hid LFx
          have HD := Lib.hid DNx
          have HE := Lib.hid RDx
          clear OKx LFx DNx RDx
          obtain ⟨A', c', hg', _⟩ := id q2
          obtain ⟨d0, d1, -, -, hz'⟩ := blk2 hg'
          clear hg'
          cases s' with
          | none =>
            simp only [Option.isNone_none] at d1
            have x0 : ∀ e : ExtOf w4.heap.size w4, e.val.cell? ⟨g2, 0, none⟩ = _ := fun e => e.cell d0 hz'
            have x1 : ∀ e : ExtOf w4.heap.size w4, e.val.cell? ⟨g2, 1, none⟩ = _ := fun e => e.cell d1 hz'
            go_wp2_with fail
            refine wp_region_ext w4.heap.size (by kernel_rfl) (by kernel_rfl) ?_
            repeat (go_big_quiet_step ((first | (go_at_call 52; exact ext_of (Nat.le_refl _) (HO.out _)) | (go_at_call 53; exact ext_of (Nat.le_refl _) (HL.out _)) | (go_at_call 54; exact ext_of (Nat.le_refl _) (HD.out _)) | (go_at_call 55; exact ext_of (Nat.le_refl _) (HE.out _)))))
            refine wpQuiet_nil ?_
            rintro w9 ⟨⟨_, hb9⟩, rfl⟩
            go_wp2_with fail
            go_roundw
            case rel => exact ⟨k + 1, by omega, by go_num, _, hle, q1.ext hb9, q2.ext hb9, kz.trans (hb9.mono kz.size)⟩
            case measure => simp [intOf]; omega
          | some l' =>
            simp only [Option.isNone_some] at d1
            have x0 : ∀ e : ExtOf w4.heap.size w4, e.val.cell? ⟨g2, 0, none⟩ = _ := fun e => e.cell d0 hz'
            have x1 : ∀ e : ExtOf w4.heap.size w4, e.val.cell? ⟨g2, 1, none⟩ = _ := fun e => e.cell d1 hz'
            go_wp2_with fail
            refine wp_region_ext w4.heap.size (by kernel_rfl) (by kernel_rfl) ?_
            repeat (go_big_quiet_step ((first | (go_at_call 52; exact ext_of (Nat.le_refl _) (HO.out _)) | (go_at_call 53; exact ext_of (Nat.le_refl _) (HL.out _)) | (go_at_call 54; exact ext_of (Nat.le_refl _) (HD.out _)) | (go_at_call 55; exact ext_of (Nat.le_refl _) (HE.out _)))))
            refine wpQuiet_nil ?_
            rintro w9 ⟨⟨_, hb9⟩, rfl⟩
            go_wp2_with fail
            go_roundw
            case rel => exact ⟨k + 1, by omega, by go_num, _, hle, q1.ext hb9, q2.ext hb9, kz.trans (hb9.mono kz.size)⟩
            case measure => simp [intOf]; omega
        have z0 : (kd == 0) = false := beq_eq_false_iff_ne.2 k0
        by_cases k1 : kd = 1
        · subst k1
          go_wp2_with fail
          refine (long_any g1 s _ r1).mono ?_
          rintro e w3 ⟨rfl, r3, k3⟩
          go_wp2_with fail
          refine (rlong_any g2 s _ (r2.but r1 (Ne.symm hne) k3)).mono ?_
          rintro e w4 ⟨rfl, r4, k4⟩
          obtain ⟨s', hs'⟩ : ∃ s', s' = (rdL s).2 := ⟨_, rfl⟩
          have q1 := r3.but (r2.but r1 (Ne.symm hne) k3) hne k4
          have q2 := r4
          rw [← hs'] at q1 q2
          have hle : s'.l.length ≤ 3000 := by rw [hs']; exact Nat.le_trans (rdL_len s) hsl
          clear hs'
          have kz : Below w.heap.size w w4 := (kb.trans (k3.below hB1 kb.size)).trans (k4.below hB2 (Nat.le_trans kb.size k3.size))
          have OKx : ∀ e : ExtOf w4.heap.size w4, _ := fun e => same_ext (ok_any g1 s' e.val (q1.ext e.ok))
          have LFx : ∀ e : ExtOf w4.heap.size w4, _ := fun e => same_ext (left_any g1 s' e.val (q1.ext e.ok))
          have DNx : ∀ e : ExtOf w4.heap.size w4, _ := fun e => same_ext (done_any g1 s' e.val (q1.ext e.ok))
          have RDx : ∀ e : ExtOf w4.heap.size w4, _ := fun e => same_ext (rdone_any g2 s' e.val (q2.ext e.ok))
          have HO := Lib.hid OKx
          have HL := Lib.hid LFx
          have HD := Lib.hid DNx
          have HE := Lib.hid RDx
          clear OKx LFx DNx RDx
          obtain ⟨A', c', hg', _⟩ := id q2
          obtain ⟨d0, d1, -, -, hz'⟩ := blk2 hg'
          clear hg'
          cases s' with
          | none =>
            simp only [Option.isNone_none] at d1
            have x0 : ∀ e : ExtOf w4.heap.size w4, e.val.cell? ⟨g2, 0, none⟩ = _ := fun e => e.cell d0 hz'
            have x1 : ∀ e : ExtOf w4.heap.size w4, e.val.cell? ⟨g2, 1, none⟩ = _ := fun e => e.cell d1 hz'
            go_wp2_with fail
            refine wp_region_ext w4.heap.size (by kernel_rfl) (by kernel_rfl) ?_
            repeat (go_big_quiet_step ((first | (go_at_call 52; exact ext_of (Nat.le_refl _) (HO.out _)) | (go_at_call 53; exact ext_of (Nat.le_refl _) (HL.out _)) | (go_at_call 54; exact ext_of (Nat.le_refl _) (HD.out _)) | (go_at_call 55; exact ext_of (Nat.le_refl _) (HE.out _)))))
            refine wpQuiet_nil ?_
            rintro w9 ⟨⟨_, hb9⟩, rfl⟩
            go_wp2_with fail
            go_roundw
            case rel => exact ⟨k + 1, by omega, by go_num, _, hle, q1.ext hb9, q2.ext hb9, kz.trans (hb9.mono kz.size)⟩
            case measure => simp [intOf]; omega
          | some l' =>
            simp only [Option.isNone_some] at d1
            have x0 : ∀ e : ExtOf w4.heap.size w4, e.val.cell? ⟨g2, 0, none⟩ = _ := fun e => e.cell d0 hz'
            have x1 : ∀ e : ExtOf w4.heap.size w4, e.val.cell? ⟨g2, 1, none⟩ = _ := fun e => e.cell d1 hz'
            go_wp2_with fail
            refine wp_region_ext w4.heap.size (by kernel_rfl) (by kernel_rfl) ?_
            repeat (go_big_quiet_step ((first | (go_at_call 52; exact ext_of (Nat.le_refl _) (HO.out _)) | (go_at_call 53; exact ext_of (Nat.le_refl _) (HL.out _)) | (go_at_call 54; exact ext_of (Nat.le_refl _) (HD.out _)) | (go_at_call 55; exact ext_of (Nat.le_refl _) (HE.out _)))))
            refine wpQuiet_nil ?_
            rintro w9 ⟨⟨_, hb9⟩, rfl⟩
            go_wp2_with fail
            go_roundw
            case rel => exact ⟨k + 1, by omega, by go_num, _, hle, q1.ext hb9, q2.ext hb9, kz.trans (hb9.mono kz.size)⟩
            case measure => simp [intOf]; omega
        have z1 : (kd == 1) = false := beq_eq_false_iff_ne.2 k1
        by_cases k2 : kd = 2
        · subst k2
          go_wp2_with fail
          refine (int_any g1 s _ r1).mono ?_
          rintro e w3 ⟨rfl, r3, k3⟩
          go_wp2_with fail
          refine (rint_any g2 s _ (r2.but r1 (Ne.symm hne) k3)).mono ?_
          rintro e w4 ⟨rfl, r4, k4⟩
          obtain ⟨s', hs'⟩ : ∃ s', s' = (rdL s).2 := ⟨_, rfl⟩
          have q1 := r3.but (r2.but r1 (Ne.symm hne) k3) hne k4
          have q2 := r4
          rw [← hs'] at q1 q2
          have hle : s'.l.length ≤ 3000 := by rw [hs']; exact Nat.le_trans (rdL_len s) hsl
          clear hs'
          have kz : Below w.heap.size w w4 := (kb.trans (k3.below hB1 kb.size)).trans (k4.below hB2 (Nat.le_trans kb.size k3.size))
          have OKx : ∀ e : ExtOf w4.heap.size w4, _ := fun e => same_ext (ok_any g1 s' e.val (q1.ext e.ok))
          have LFx : ∀ e : ExtOf w4.heap.size w4, _ := fun e => same_ext (left_any g1 s' e.val (q1.ext e.ok))
          have DNx : ∀ e : ExtOf w4.heap.size w4, _ := fun e => same_ext (done_any g1 s' e.val (q1.ext e.ok))
          have RDx : ∀ e : ExtOf w4.heap.size w4, _ := fun e => same_ext (rdone_any g2 s' e.val (q2.ext e.ok))
          have HO := Lib.hid OKx
          have HL := Lib.hid LFx
          have HD := Lib.hid DNx
          have HE := Lib.hid RDx
          clear OKx LFx DNx RDx
          obtain ⟨A', c', hg', _⟩ := id q2
          obtain ⟨d0, d1, -, -, hz'⟩ := blk2 hg'
          clear hg'
          cases s' with
          | none =>
            simp only [Option.isNone_none] at d1
            have x0 : ∀ e : ExtOf w4.heap.size w4, e.val.cell? ⟨g2, 0, none⟩ = _ := fun e => e.cell d0 hz'
            have x1 : ∀ e : ExtOf w4.heap.size w4, e.val.cell? ⟨g2, 1, none⟩ = _ := fun e => e.cell d1 hz'
            go_wp2_with fail
            refine wp_region_ext w4.heap.size (by kernel_rfl) (by kernel_rfl) ?_
            repeat (go_big_quiet_step ((first | (go_at_call 52; exact ext_of (Nat.le_refl _) (HO.out _)) | (go_at_call 53; exact ext_of (Nat.le_refl _) (HL.out _)) | (go_at_call 54; exact ext_of (Nat.le_refl _) (HD.out _)) | (go_at_call 55; exact ext_of (Nat.le_refl _) (HE.out _)))))
            refine wpQuiet_nil ?_
            rintro w9 ⟨⟨_, hb9⟩, rfl⟩
            go_wp2_with fail
            go_roundw
            case rel => exact ⟨k + 1, by omega, by go_num, _, hle, q1.ext hb9, q2.ext hb9, kz.trans (hb9.mono kz.size)⟩
            case measure => simp [intOf]; omega
          | some l' =>
            simp only [Option.isNone_some] at d1
            have x0 : ∀ e : ExtOf w4.heap.size w4, e.val.cell? ⟨g2, 0, none⟩ = _ := fun e => e.cell d0 hz'
            have x1 : ∀ e : ExtOf w4.heap.size w4, e.val.cell? ⟨g2, 1, none⟩ = _ := fun e => e.cell d1 hz'
            go_wp2_with fail
            refine wp_region_ext w4.heap.size (by kernel_rfl) (by kernel_rfl) ?_
            repeat (go_big_quiet_step ((first | (go_at_call 52; exact ext_of (Nat.le_refl _) (HO.out _)) | (go_at_call 53; exact ext_of (Nat.le_refl _) (HL.out _)) | (go_at_call 54; exact ext_of (Nat.le_refl _) (HD.out _)) | (go_at_call 55; exact ext_of (Nat.le_refl _) (HE.out _)))))
            refine wpQuiet_nil ?_
            rintro w9 ⟨⟨_, hb9⟩, rfl⟩
            go_wp2_with fail
            go_roundw
            case rel => exact ⟨k + 1, by omega, by go_num, _, hle, q1.ext hb9, q2.ext hb9, kz.trans (hb9.mono kz.size)⟩
            case measure => simp [intOf]; omega
        have z2 : (kd == 2) = false := beq_eq_false_iff_ne.2 k2
        by_cases k3 : kd = 3
        · subst k3
          go_wp2_with fail
          refine (flag_any g1 s _ r1).mono ?_
          rintro e w3 ⟨rfl, r3, k3⟩
          go_wp2_with fail
          refine (rflag_any g2 s _ (r2.but r1 (Ne.symm hne) k3)).mono ?_
          rintro e w4 ⟨rfl, r4, k4⟩
          obtain ⟨s', hs'⟩ : ∃ s', s' = (rdF s).2 := ⟨_, rfl⟩
          have q1 := r3.but (r2.but r1 (Ne.symm hne) k3) hne k4
          have q2 := r4
          rw [← hs'] at q1 q2
          have hle : s'.l.length ≤ 3000 := by rw [hs']; exact Nat.le_trans (rdF_len s) hsl
          clear hs'
          have kz : Below w.heap.size w w4 := (kb.trans (k3.below hB1 kb.size)).trans (k4.below hB2 (Nat.le_trans kb.size k3.size))
          have OKx : ∀ e : ExtOf w4.heap.size w4, _ := fun e => same_ext (ok_any g1 s' e.val (q1.ext e.ok))
          have LFx : ∀ e : ExtOf w4.heap.size w4, _ := fun e => same_ext (left_any g1 s' e.val (q1.ext e.ok))
          have DNx : ∀ e : ExtOf w4.heap.size w4, _ := fun e => same_ext (done_any g1 s' e.val (q1.ext e.ok))
          have RDx : ∀ e : ExtOf w4.heap.size w4, _ := fun e => same_ext (rdone_any g2 s' e.val (q2.ext e.ok))
          have HO := Lib.hid OKx
          have HL := Lib.hid LFx
          have HD := Lib.hid DNx
          have HE := Lib.hid RDx
          clear OKx LFx DNx RDx
          obtain ⟨A', c', hg', _⟩ := id q2
          obtain ⟨d0, d1, -, -, hz'⟩ := blk2 hg'
          clear hg'
          cases s' with
          | none =>
            simp only [Option.isNone_none] at d1
            have x0 : ∀ e : ExtOf w4.heap.size w4, e.val.cell? ⟨g2, 0, none⟩ = _ := fun e => e.cell d0 hz'
            have x1 : ∀ e : ExtOf w4.heap.size w4, e.val.cell? ⟨g2, 1, none⟩ = _ := fun e => e.cell d1 hz'
            go_wp2_with fail
            refine wp_region_ext w4.heap.size (by kernel_rfl) (by kernel_rfl) ?_
            repeat (go_big_quiet_step ((first | (go_at_call 52; exact ext_of (Nat.le_refl _) (HO.out _)) | (go_at_call 53; exact ext_of (Nat.le_refl _) (HL.out _)) | (go_at_call 54; exact ext_of (Nat.le_refl _) (HD.out _)) | (go_at_call 55; exact ext_of (Nat.le_refl _) (HE.out _)))))
            refine wpQuiet_nil ?_
            rintro w9 ⟨⟨_, hb9⟩, rfl⟩
            go_wp2_with fail
            go_roundw
            case rel => exact ⟨k + 1, by omega, by go_num, _, hle, q1.ext hb9, q2.ext hb9, kz.trans (hb9.mono kz.size)⟩
            case measure => simp [intOf]; omega
          | some l' =>
            simp only [Option.isNone_some] at d1
            have x0 : ∀ e : ExtOf w4.heap.size w4, e.val.cell? ⟨g2, 0, none⟩ = _ := fun e => e.cell d0 hz'
            have x1 : ∀ e : ExtOf w4.heap.size w4, e.val.cell? ⟨g2, 1, none⟩ = _ := fun e => e.cell d1 hz'
            go_wp2_with fail
            refine wp_region_ext w4.heap.size (by kernel_rfl) (by kernel_rfl) ?_
            repeat (go_big_quiet_step ((first | (go_at_call 52; exact ext_of (Nat.le_refl _) (HO.out _)) | (go_at_call 53; exact ext_of (Nat.le_refl _) (HL.out _)) | (go_at_call 54; exact ext_of (Nat.le_refl _) (HD.out _)) | (go_at_call 55; exact ext_of (Nat.le_refl _) (HE.out _)))))
            refine wpQuiet_nil ?_
            rintro w9 ⟨⟨_, hb9⟩, rfl⟩
            go_wp2_with fail
            go_roundw
            case rel => exact ⟨k + 1, by omega, by go_num, _, hle, q1.ext hb9, q2.ext hb9, kz.trans (hb9.mono kz.size)⟩
            case measure => simp [intOf]; omega
        have z3 : (kd == 3) = false := beq_eq_false_iff_ne.2 k3
        by_cases k4 : kd = 4
        · subst k4
          go_wp2_with fail
          refine wp_region_piecesW w.heap.size 14 [(true, [0, 1, 2, 3, 4, 5, 7, 8, 9, 10, 11, 12]), (false, [6]), (false, [13])] kb.size (by kernel_rfl) (by kernel_rfl) ?_; simp only [pick, List.map_cons, List.map_nil, List.flatMap_cons, List.flatMap_nil, Option.toList_some, List.singleton_append, List.drop_succ_cons, List.drop_zero, List.getElem?_cons_zero, List.getElem?_cons_succ]
          refine ⟨by kernel_rfl, ?_⟩; apply Exists.intro; refine ⟨fun ψ hψ hne => (by (have ex : ∀ e : ExtP w.heap.size wr ψ, e.val.cell? ⟨b, off + k * 2 + 1, none⟩ = some (.int .i64 N) := fun e => e.cell hn1 hb); (repeat (go_big_quiet_step (( fail )))); exact wpQuiet_nil rfl), ?_⟩
          intro wa' ha K hK
          go_wp2_with fail
          refine (text_any g1 s N _ (r1.ext ha) (by omega)).mono ?_
          rintro e w3 ⟨rfl, r3, k3⟩
          go_wp2_with fail
          refine hK _ _ w.heap.size (Nat.le_refl _) (Nat.le_trans kb.size (Nat.le_trans ha.size k3.size)) (k3.below hB1 (Nat.le_trans kb.size ha.size)) ?_
          have r2a := (r2.ext ha).but (r1.ext ha) (Ne.symm hne) k3
          have hba : Below w.heap.size w w3 := (kb.trans (ha.mono kb.size)).trans (k3.below hB1 (Nat.le_trans kb.size ha.size))
          clear hK K
          intro wb' hb' K hK
          go_wp2_with fail
          refine (rtext_any g2 s N _ (r2a.ext hb') (by omega)).mono ?_
          rintro e w4 ⟨rfl, r4, k4⟩
          go_wp2_with fail
          refine hK _ _ w.heap.size (Nat.le_refl _) (Nat.le_trans hba.size (Nat.le_trans hb'.size k4.size)) (k4.below hB2 (Nat.le_trans hba.size hb'.size)) ?_
          have r3a := (r3.ext hb').but (r2a.ext hb') hne k4
          have hbb : Below w.heap.size w w4 := (hba.trans (hb'.mono hba.size)).trans (k4.below hB2 (Nat.le_trans hba.size hb'.size))
          clear hK K
          intro wc hc
          obtain ⟨s', hs'⟩ : ∃ s', s' = (rdT s N).2 := ⟨_, rfl⟩
          have q1 := r3a.ext hc
          have q2 := r4.ext hc
          rw [← hs'] at q1 q2
          have hle : s'.l.length ≤ 3000 := by rw [hs']; exact Nat.le_trans (rdT_len s N) hsl
          clear hs'
          have kz : Below w.heap.size w wc := hbb.trans (hc.mono hbb.size)
          have OKx : ∀ e : ExtOf wc.heap.size wc, _ := fun e => same_ext (ok_any g1 s' e.val (q1.ext e.ok))
          have LFx : ∀ e : ExtOf wc.heap.size wc, _ := fun e => same_ext (left_any g1 s' e.val (q1.ext e.ok))
          have DNx : ∀ e : ExtOf wc.heap.size wc, _ := fun e => same_ext (done_any g1 s' e.val (q1.ext e.ok))
          have RDx : ∀ e : ExtOf wc.heap.size wc, _ := fun e => same_ext (rdone_any g2 s' e.val (q2.ext e.ok))
          have HO := Lib.hid OKx
          have HL := Lib.hid LFx
          have HD := Lib.hid DNx
          have HE := Lib.hid RDx
          clear OKx LFx DNx RDx
          obtain ⟨A', c', hg', _⟩ := id q2
          obtain ⟨d0, d1, -, -, hz'⟩ := blk2 hg'
          clear hg'
          cases s' with
          | none =>
            simp only [Option.isNone_none] at d1
            have x0 : ∀ e : ExtOf wc.heap.size wc, e.val.cell? ⟨g2, 0, none⟩ = _ := fun e => e.cell d0 hz'
            have x1 : ∀ e : ExtOf wc.heap.size wc, e.val.cell? ⟨g2, 1, none⟩ = _ := fun e => e.cell d1 hz'
            go_wp2_with fail
            refine wp_region_ext wc.heap.size (by kernel_rfl) (by kernel_rfl) ?_
            repeat (go_big_quiet_step ((first | (go_at_call 52; exact ext_of (Nat.le_refl _) (HO.out _)) | (go_at_call 53; exact ext_of (Nat.le_refl _) (HL.out _)) | (go_at_call 54; exact ext_of (Nat.le_refl _) (HD.out _)) | (go_at_call 55; exact ext_of (Nat.le_refl _) (HE.out _)))))
            refine wpQuiet_nil ?_
            rintro w9 ⟨⟨_, hb9⟩, rfl⟩
            go_wp2_with fail
            go_roundw
            case rel => exact ⟨k + 1, by omega, by go_num, _, hle, q1.ext hb9, q2.ext hb9, kz.trans (hb9.mono kz.size)⟩
            case measure => simp [intOf]; omega
          | some l' =>
            simp only [Option.isNone_some] at d1
            have x0 : ∀ e : ExtOf wc.heap.size wc, e.val.cell? ⟨g2, 0, none⟩ = _ := fun e => e.cell d0 hz'
            have x1 : ∀ e : ExtOf wc.heap.size wc, e.val.cell? ⟨g2, 1, none⟩ = _ := fun e => e.cell d1 hz'
            go_wp2_with fail
            refine wp_region_ext wc.heap.size (by kernel_rfl) (by kernel_rfl) ?_
            repeat (go_big_quiet_step ((first | (go_at_call 52; exact ext_of (Nat.le_refl _) (HO.out _)) | (go_at_call 53; exact ext_of (Nat.le_refl _) (HL.out _)) | (go_at_call 54; exact ext_of (Nat.le_refl _) (HD.out _)) | (go_at_call 55; exact ext_of (Nat.le_refl _) (HE.out _)))))
            refine wpQuiet_nil ?_
            rintro w9 ⟨⟨_, hb9⟩, rfl⟩
            go_wp2_with fail
            go_roundw
            case rel => exact ⟨k + 1, by omega, by go_num, _, hle, q1.ext hb9, q2.ext hb9, kz.trans (hb9.mono kz.size)⟩
            case measure => simp [intOf]; omega
        have z4 : (kd == 4) = false := beq_eq_false_iff_ne.2 k4
        by_cases k5 : kd = 5
        · subst k5
          go_wp2_with fail
          refine wp_region_piecesW w.heap.size 14 [(true, [0, 1, 2, 3, 4, 5, 7, 8, 9, 10, 11, 12]), (false, [6]), (false, [13])] kb.size (by kernel_rfl) (by kernel_rfl) ?_; simp only [pick, List.map_cons, List.map_nil, List.flatMap_cons, List.flatMap_nil, Option.toList_some, List.singleton_append, List.drop_succ_cons, List.drop_zero, List.getElem?_cons_zero, List.getElem?_cons_succ]
          refine ⟨by kernel_rfl, ?_⟩; apply Exists.intro; refine ⟨fun ψ hψ hne => (by (have ex : ∀ e : ExtP w.heap.size wr ψ, e.val.cell? ⟨b, off + k * 2 + 1, none⟩ = some (.int .i64 N) := fun e => e.cell hn1 hb); (repeat (go_big_quiet_step (( fail )))); exact wpQuiet_nil rfl), ?_⟩
          intro wa' ha K hK
          go_wp2_with fail
          refine (fixed_any g1 s N _ (r1.ext ha) (by omega)).mono ?_
          rintro e w3 ⟨rfl, r3, k3⟩
          go_wp2_with fail
          refine hK _ _ w.heap.size (Nat.le_refl _) (Nat.le_trans kb.size (Nat.le_trans ha.size k3.size)) (k3.below hB1 (Nat.le_trans kb.size ha.size)) ?_
          have r2a := (r2.ext ha).but (r1.ext ha) (Ne.symm hne) k3
          have hba : Below w.heap.size w w3 := (kb.trans (ha.mono kb.size)).trans (k3.below hB1 (Nat.le_trans kb.size ha.size))
          clear hK K
          intro wb' hb' K hK
          go_wp2_with fail
          refine (rfixed_any g2 s N _ (r2a.ext hb') (by omega)).mono ?_
          rintro e w4 ⟨rfl, r4, k4⟩
          go_wp2_with fail
          refine hK _ _ w.heap.size (Nat.le_refl _) (Nat.le_trans hba.size (Nat.le_trans hb'.size k4.size)) (k4.below hB2 (Nat.le_trans hba.size hb'.size)) ?_
          have r3a := (r3.ext hb').but (r2a.ext hb') hne k4
          have hbb : Below w.heap.size w w4 := (hba.trans (hb'.mono hba.size)).trans (k4.below hB2 (Nat.le_trans hba.size hb'.size))
          clear hK K
          intro wc hc
          obtain ⟨s', hs'⟩ : ∃ s', s' = (rdX s N).2 := ⟨_, rfl⟩
          have q1 := r3a.ext hc
          have q2 := r4.ext hc
          rw [← hs'] at q1 q2
          have hle : s'.l.length ≤ 3000 := by rw [hs']; exact Nat.le_trans (rdX_len s N) hsl
          clear hs'
          have kz : Below w.heap.size w wc := hbb.trans (hc.mono hbb.size)
          have OKx : ∀ e : ExtOf wc.heap.size wc, _ := fun e => same_ext (ok_any g1 s' e.val (q1.ext e.ok))
          have LFx : ∀ e : ExtOf wc.heap.size wc, _ := fun e => same_ext (left_any g1 s' e.val (q1.ext e.ok))
          have DNx : ∀ e : ExtOf wc.heap.size wc, _ := fun e => same_ext (done_any g1 s' e.val (q1.ext e.ok))
          have RDx : ∀ e : ExtOf wc.heap.size wc, _ := fun e => same_ext (rdone_any g2 s' e.val (q2.ext e.ok))
          have HO := Lib.hid OKx
          have HL := Lib.hid LFx
          have HD := Lib.hid DNx
          have HE := Lib.hid RDx
          clear OKx LFx DNx RDx
          obtain ⟨A', c', hg', _⟩ := id q2
          obtain ⟨d0, d1, -, -, hz'⟩ := blk2 hg'
          clear hg'
          cases s' with
          | none =>
            simp only [Option.isNone_none] at d1
            have x0 : ∀ e : ExtOf wc.heap.size wc, e.val.cell? ⟨g2, 0, none⟩ = _ := fun e => e.cell d0 hz'
            have x1 : ∀ e : ExtOf wc.heap.size wc, e.val.cell? ⟨g2, 1, none⟩ = _ := fun e => e.cell d1 hz'
            go_wp2_with fail
            refine wp_region_ext wc.heap.size (by kernel_rfl) (by kernel_rfl) ?_
            repeat (go_big_quiet_step ((first | (go_at_call 52; exact ext_of (Nat.le_refl _) (HO.out _)) | (go_at_call 53; exact ext_of (Nat.le_refl _) (HL.out _)) | (go_at_call 54; exact ext_of (Nat.le_refl _) (HD.out _)) | (go_at_call 55; exact ext_of (Nat.le_refl _) (HE.out _)))))
            refine wpQuiet_nil ?_
            rintro w9 ⟨⟨_, hb9⟩, rfl⟩
            go_wp2_with fail
            go_roundw
            case rel => exact ⟨k + 1, by omega, by go_num, _, hle, q1.ext hb9, q2.ext hb9, kz.trans (hb9.mono kz.size)⟩
            case measure => simp [intOf]; omega
          | some l' =>
            simp only [Option.isNone_some] at d1
            have x0 : ∀ e : ExtOf wc.heap.size wc, e.val.cell? ⟨g2, 0, none⟩ = _ := fun e => e.cell d0 hz'
            have x1 : ∀ e : ExtOf wc.heap.size wc, e.val.cell? ⟨g2, 1, none⟩ = _ := fun e => e.cell d1 hz'
            go_wp2_with fail
            refine wp_region_ext wc.heap.size (by kernel_rfl) (by kernel_rfl) ?_
            repeat (go_big_quiet_step ((first | (go_at_call 52; exact ext_of (Nat.le_refl _) (HO.out _)) | (go_at_call 53; exact ext_of (Nat.le_refl _) (HL.out _)) | (go_at_call 54; exact ext_of (Nat.le_refl _) (HD.out _)) | (go_at_call 55; exact ext_of (Nat.le_refl _) (HE.out _)))))
            refine wpQuiet_nil ?_
            rintro w9 ⟨⟨_, hb9⟩, rfl⟩
            go_wp2_with fail
            go_roundw
            case rel => exact ⟨k + 1, by omega, by go_num, _, hle, q1.ext hb9, q2.ext hb9, kz.trans (hb9.mono kz.size)⟩
            case measure => simp [intOf]; omega
        have z5 : (kd == 5) = false := beq_eq_false_iff_ne.2 k5
        go_wp2_with fail
        refine wp_region_piecesW w.heap.size 14 [(true, [0, 1, 2, 3, 4, 5, 7, 8, 9, 10, 11, 12]), (false, [6]), (false, [13])] kb.size (by kernel_rfl) (by kernel_rfl) ?_; simp only [pick, List.map_cons, List.map_nil, List.flatMap_cons, List.flatMap_nil, Option.toList_some, List.singleton_append, List.drop_succ_cons, List.drop_zero, List.getElem?_cons_zero, List.getElem?_cons_succ]
        refine ⟨by kernel_rfl, ?_⟩; apply Exists.intro; refine ⟨fun ψ hψ hne => (by (have ex : ∀ e : ExtP w.heap.size wr ψ, e.val.cell? ⟨b, off + k * 2 + 1, none⟩ = some (.int .i64 N) := fun e => e.cell hn1 hb); (repeat (go_big_quiet_step (( fail )))); exact wpQuiet_nil rfl), ?_⟩
        intro wa' ha K hK
        go_wp2_with fail
        refine (count_any g1 s N _ (r1.ext ha) ).mono ?_
        rintro e w3 ⟨rfl, r3, k3⟩
        go_wp2_with fail
        refine hK _ _ w.heap.size (Nat.le_refl _) (Nat.le_trans kb.size (Nat.le_trans ha.size k3.size)) (k3.below hB1 (Nat.le_trans kb.size ha.size)) ?_
        have r2a := (r2.ext ha).but (r1.ext ha) (Ne.symm hne) k3
        have hba : Below w.heap.size w w3 := (kb.trans (ha.mono kb.size)).trans (k3.below hB1 (Nat.le_trans kb.size ha.size))
        clear hK K
        intro wb' hb' K hK
        go_wp2_with fail
        refine (rcount_any g2 s N _ (r2a.ext hb') ).mono ?_
        rintro e w4 ⟨rfl, r4, k4⟩
        go_wp2_with fail
        refine hK _ _ w.heap.size (Nat.le_refl _) (Nat.le_trans hba.size (Nat.le_trans hb'.size k4.size)) (k4.below hB2 (Nat.le_trans hba.size hb'.size)) ?_
        have r3a := (r3.ext hb').but (r2a.ext hb') hne k4
        have hbb : Below w.heap.size w w4 := (hba.trans (hb'.mono hba.size)).trans (k4.below hB2 (Nat.le_trans hba.size hb'.size))
        clear hK K
        intro wc hc
        obtain ⟨s', hs'⟩ : ∃ s', s' = (rdC s N).2 := ⟨_, rfl⟩
        have q1 := r3a.ext hc
        have q2 := r4.ext hc
        rw [← hs'] at q1 q2
        have hle : s'.l.length ≤ 3000 := by rw [hs']; exact Nat.le_trans (rdC_len s N) hsl
        clear hs'
        have kz : Below w.heap.size w wc := hbb.trans (hc.mono hbb.size)
        have OKx : ∀ e : ExtOf wc.heap.size wc, _ := fun e => same_ext (ok_any g1 s' e.val (q1.ext e.ok))
        have LFx : ∀ e : ExtOf wc.heap.size wc, _ := fun e => same_ext (left_any g1 s' e.val (q1.ext e.ok))
        have DNx : ∀ e : ExtOf wc.heap.size wc, _ := fun e => same_ext (done_any g1 s' e.val (q1.ext e.ok))
        have RDx : ∀ e : ExtOf wc.heap.size wc, _ := fun e => same_ext (rdone_any g2 s' e.val (q2.ext e.ok))
        have HO := Lib.hid OKx
        have HL := Lib.hid LFx
        have HD := Lib.hid DNx
        have HE := Lib.hid RDx
        clear OKx LFx DNx RDx
        obtain ⟨A', c', hg', _⟩ := id q2
        obtain ⟨d0, d1, -, -, hz'⟩ := blk2 hg'
        clear hg'
        cases s' with
        | none =>
          simp only [Option.isNone_none] at d1
          have x0 : ∀ e : ExtOf wc.heap.size wc, e.val.cell? ⟨g2, 0, none⟩ = _ := fun e => e.cell d0 hz'
          have x1 : ∀ e : ExtOf wc.heap.size wc, e.val.cell? ⟨g2, 1, none⟩ = _ := fun e => e.cell d1 hz'
          go_wp2_with fail
          refine wp_region_ext wc.heap.size (by kernel_rfl) (by kernel_rfl) ?_
          repeat (go_big_quiet_step ((first | (go_at_call 52; exact ext_of (Nat.le_refl _) (HO.out _)) | (go_at_call 53; exact ext_of (Nat.le_refl _) (HL.out _)) | (go_at_call 54; exact ext_of (Nat.le_refl _) (HD.out _)) | (go_at_call 55; exact ext_of (Nat.le_refl _) (HE.out _)))))
          refine wpQuiet_nil ?_
          rintro w9 ⟨⟨_, hb9⟩, rfl⟩
          go_wp2_with fail
          go_roundw
          case rel => exact ⟨k + 1, by omega, by go_num, _, hle, q1.ext hb9, q2.ext hb9, kz.trans (hb9.mono kz.size)⟩
          case measure => simp [intOf]; omega
        | some l' =>
          simp only [Option.isNone_some] at d1
          have x0 : ∀ e : ExtOf wc.heap.size wc, e.val.cell? ⟨g2, 0, none⟩ = _ := fun e => e.cell d0 hz'
          have x1 : ∀ e : ExtOf wc.heap.size wc, e.val.cell? ⟨g2, 1, none⟩ = _ := fun e => e.cell d1 hz'
          go_wp2_with fail
          refine wp_region_ext wc.heap.size (by kernel_rfl) (by kernel_rfl) ?_
          repeat (go_big_quiet_step ((first | (go_at_call 52; exact ext_of (Nat.le_refl _) (HO.out _)) | (go_at_call 53; exact ext_of (Nat.le_refl _) (HL.out _)) | (go_at_call 54; exact ext_of (Nat.le_refl _) (HD.out _)) | (go_at_call 55; exact ext_of (Nat.le_refl _) (HE.out _)))))
          refine wpQuiet_nil ?_
          rintro w9 ⟨⟨_, hb9⟩, rfl⟩
          go_wp2_with fail
          go_roundw
          case rel => exact ⟨k + 1, by omega, by go_num, _, hle, q1.ext hb9, q2.ext hb9, kz.trans (hb9.mono kz.size)⟩
          case measure => simp [intOf]; omega

theorem own : ownKnob Try.prog.godebug = none := by kernel_rfl
theorem laidOut : laidOutB Try.prog = true := by kernel_rfl

set_option maxRecDepth 100000 in
theorem lifted (os : Os) (started : os.Started) (H : Type) (enc : TypeId × Value → H) :
    ReturnsInHanded {} Try.checked os 6 .any (Rows.xdrReadsSpec.pre6 enc Try.prog Try.f6 Rows.xdrReadsRow.domain false) (Rows.xdrReadsSpec.post enc Try.prog Try.f6 false true false false) := by
  refine returnsInHanded_of_change (C := Try.checked) own started (by kernel_rfl) Try.func6
    (ChangeSpec.witness6 (enc := enc) (C := Try.checked) false ⟨#[], #[.slice none 0 0, .slice none 0 0], []⟩ 8 (by kernel_rfl) (by kernel_rfl) (by kernel_rfl) (by kernel_rfl)) ?_
  intro W base args ds gs before hval0 hW hcnd _
  have hval : ∀ (j : Nat) t v, Try.f6.params[j]? = some t → args[j]? = some v → Value.okWide Try.prog W .any base t v := hval0
  have hW' := hW
  obtain ⟨p, q, hA0, hV, rfl, hfz, hnd⟩ := hW
  have hA : DataW.TrodAll enc Try.prog W 0 (fun _ => true) true Try.f6.params.toList args.toList ds p := hA0
  rw [Try.params6] at hA hval
  obtain ⟨v0, vs0, d0, ds0, p0, q0, hargs, rfl, rfl, h0, r0⟩ := trodAll_cons hA
  obtain ⟨v1, vs1, d1, ds1, p1, q1, rfl, rfl, rfl, h1, r1⟩ := trodAll_cons r0
  obtain ⟨rfl, rfl, rfl⟩ := trodAll_nil r1
  obtain rfl : args = #[v0, v1] := by cases args; simp_all
  obtain ⟨rfl, rfl⟩ := trodVars_none hV
  have k0 := h0
  have lt0 : ∀ x ∈ p0, x.block < W.heap.size := by obtain ⟨m, hm⟩ := k0; exact DataW.trod_lt m _ _ _ hm
  have k1 := h1
  have lt1 : ∀ x ∈ p1, x.block < W.heap.size := by obtain ⟨m, hm⟩ := k1; exact DataW.trod_lt m _ _ _ hm
  obtain ⟨l0, y0, wl0⟩ := open_bytes Try.underlying22 Try.underlying5 (by kernel_rfl) (hval 0 _ v0 rfl rfl) h0
  obtain ⟨x1, rfl, w1⟩ := open_Wsteps (hval 1 _ v1 rfl rfl) h1
  refine (walk (w := W) v0 l0 y0 wl0 x1 w1).mono fun e W' ⟨he, bel⟩ => ?_
  subst he
  exact ⟨_, rfl, _, _, _, [], _, [], hW', trodAll_mk1 (shut_bool Try.underlying4 _), (trodAll_cons_mk (Below.trod laidOut (by kernel_rfl) (of_decide_eq_true (by kernel_rfl)) k0 bel lt0) (trodAll_cons_mk (Below.trod laidOut (by kernel_rfl) (of_decide_eq_true (by kernel_rfl)) k1 bel lt1) trodAll_mk0)), rfl, bel.frame _, fun h => by cases h⟩

theorem proved : Rows.XdrReadsSaid :=
  OpenClaim.holds_of_wide 6 Try.f6 rfl rfl rfl rfl rfl rfl rfl ⟨rfl, rfl, rfl, rfl, rfl⟩ rfl rfl rfl rfl rfl (by kernel_rfl) Try.func6 (by kernel_rfl)
    (of_decide_eq_true (by kernel_rfl)) (by unfold Func.isWrapper; first | (rw [if_pos (by decide +kernel)]; kernel_rfl) | (rw [if_neg (by decide +kernel)]; exact ⟨rfl, rfl⟩))
    (fun os started H enc _ => lifted os started H enc)
end Go.Proofs.Ytaccjneglaomhaa.xdrReads
