/- The law of disks: a step on a disk and on the document's. -/
import Derived.Test.YtobcfocbglkicaaDpB
set_option linter.unusedVariables false
set_option maxRecDepth 100000
namespace Go.Proofs.Ytobcfocbglkicaa
open Go.RowKit

set_option maxHeartbeats 2000000 in
theorem Cut_anyE {S : Nat → Prop} {g : Nat} {D : DK} {vk : Value} (n : Int) (keep : List Bool) (w : World) (h : DkAt w S g D) (hk : RBo w vk keep) (hkl : keep.length ≤ 1000000) (hn : ∀ b off m c, vk = .slice (some ⟨b, off, none⟩) m c → keep ≠ [] → ¬ S b) (hn1 : n ≤ 9223372036854775807) :
    Calls Try.prog 24 #[.pointer (some ⟨g, 0, none⟩), .int .i64 n, vk] w fun e w' => e = .returned (.int .i64 (D.say n keep).2) ∧ DkTo S w w' g (D.say n keep).1 := by
  obtain ⟨kA, kc, rfl⟩ := hk.form
  rcases ask_cases D with ⟨ha, hd⟩ | ⟨ha, _⟩
  case inr =>
    rw [show D.say n keep = (D, 51) by simp [DK.say, ha]]
    go_enter Try.func24, Try.ntmps24
    go_wp2_with fail
    refine (ask_any _ h).mono ?_
    rw [ha]
    rintro e w1 ⟨rfl, hb1⟩; have hz1 := hb1.size; (try simp only [World.size_alloc] at hz1)
    have F := Lib.hid (DkTo.of_ext h hb1)
    go_wp2
    go_ret
    exact ⟨rfl, F.out⟩
  by_cases h0 : 0 ≤ n
  case neg =>
    rw [show D.say n keep = (D, 1) by simp only [DK.say]; rw [if_pos ha, if_neg h0]]
    go_enter Try.func24, Try.ntmps24
    go_wp2_with fail
    refine (ask_any _ h).mono ?_
    rw [ha]
    rintro e w1 ⟨rfl, hb1⟩; have hz1 := hb1.size; (try simp only [World.size_alloc] at hz1)
    have F := Lib.hid (DkTo.of_ext h hb1)
    go_wp2
    go_ret
    exact ⟨rfl, F.out⟩
  by_cases h2 : 0 < n
  · rw [show D.say n keep = ({ D with cut := n, keep := keep }, 0) by simp only [DK.say]; rw [if_pos ha, if_pos h0, if_pos h2]]
    go_enter Try.func24, Try.ntmps24
    go_wp2_with fail
    refine (ask_any _ h).mono ?_
    rw [ha]
    rintro e w1 ⟨rfl, hb1⟩; have hz1 := hb1.size; (try simp only [World.size_alloc] at hz1)
    have hk1 := hk.ext hb1
    have X1 := Lib.hid hb1
    obtain ⟨mo, mn, sv, kv, h⟩ := h.ext hb1
    clear hk hb1 hz1
    obtain ⟨c0, c1, c2, c3, c4, c5, c6, fz, hlt⟩ := blk7 h.hg
    have hok : DK.Ok { D with cut := n, keep := [] } := ⟨h.ok.n0, h.ok.n1, h0, hn1, h.ok.on, h.ok.wt⟩
    have h1 := h.cells (D' := { D with cut := n, keep := [] }) sv (.slice none 0 0) rfl rfl (fun _ => rfl) hok h.wt OwnR.nil h.sw (by simp [Value.ownBlock])
    have hs := set7_45 (.int .i64 n) (.slice none 0 0) h.hg
    simp only at h1 hs
    have hT := dkTo_set h1 h.sg
    rw [← hs] at h1 hT
    have hk2 := hk1.mutE hT.2 hn
    have sg := h.sg
    have K := Lib.hid (clone_bools keep _ hk2 hkl)
    have T := Lib.hid hT
    have H1 := Lib.hid h1
    clear h h1 hT hs hk1 hk2 hok
    go_wp2_with (go_at_call 67; refine K.out.mono ?_; rintro e w2 ⟨v', rfl, ho, hb2⟩; obtain ⟨vA, vc, rfl⟩ := ho.form; have hg2 := H1.out.ext hb2; obtain ⟨d0, d1, d2, d3, d4, d5, d6, fz2, hlt2⟩ := blk7 hg2.hg)
    go_ret
    refine ⟨rfl, ?_⟩
    rw [set7_5 _ hg2.hg]
    exact DkTo.after_ext X1.out (T.out.trans (keep_new hg2 (D' := { D with cut := n, keep := keep }) rfl rfl (fun _ => rfl) ⟨hg2.ok.n0, hg2.ok.n1, hg2.ok.c0, hg2.ok.c1, hg2.ok.on, hg2.ok.wt⟩ hg2.wt ho hb2))
  · rw [show D.say n keep = ({ D with cut := n, keep := [] }, 0) by simp only [DK.say]; rw [if_pos ha, if_pos h0, if_neg h2]]
    go_enter Try.func24, Try.ntmps24
    go_wp2_with fail
    refine (ask_any _ h).mono ?_
    rw [ha]
    rintro e w1 ⟨rfl, hb1⟩; have hz1 := hb1.size; (try simp only [World.size_alloc] at hz1)
    have hk1 := hk.ext hb1
    have X1 := Lib.hid hb1
    obtain ⟨mo, mn, sv, kv, h⟩ := h.ext hb1
    clear hk hb1 hz1
    obtain ⟨c0, c1, c2, c3, c4, c5, c6, fz, hlt⟩ := blk7 h.hg
    have hok : DK.Ok { D with cut := n, keep := [] } := ⟨h.ok.n0, h.ok.n1, h0, hn1, h.ok.on, h.ok.wt⟩
    have h1 := h.cells (D' := { D with cut := n, keep := [] }) sv (.slice none 0 0) rfl rfl (fun _ => rfl) hok h.wt OwnR.nil h.sw (by simp [Value.ownBlock])
    have hs := set7_45 (.int .i64 n) (.slice none 0 0) h.hg
    simp only at h1 hs
    have hT := dkTo_set h1 h.sg
    rw [← hs] at h1 hT
    have hk2 := hk1.mutE hT.2 hn
    have sg := h.sg
    have T := Lib.hid (DkTo.after_ext X1.out hT)
    clear h h1 hT hs hk1 hk2 hok
    go_wp2
    go_ret
    exact ⟨rfl, T.out⟩

theorem OSt.take2 {W w : World} {loc : List (Nat × Obj)} {a b : Ob} {l : List Ob} (h : OSt W loc (a :: b :: l) w) : OSt W loc [a, b] w := by
  obtain ⟨S1, h1, k1, S2, h2, k2, -⟩ := h.dks
  exact ⟨h.bel, h.cel, h.nod, S1, h1, k1, S2, h2, k2, trivial⟩
theorem OSt.swap1 {W w : World} {loc : List (Nat × Obj)} {a b c : Ob} (h : OSt W loc [a, b, c] w) : OSt W loc [a, c] w := h.swap.dropD
theorem DK.wcount {D : DK} {m : Nat} (h : D.wt.length ≤ m) : D.count.1.wt.length ≤ m := by
  unfold DK.count
  split
  · exact h
  · split
    · exact h
    · simp [DK.fail]
theorem DK.wwrite {D : DK} {m : Nat} (h : D.wt.length ≤ m) (z : Int) (b : List UInt8) : (D.write z b).1.wt.length ≤ m + 1 := by
  unfold DK.write
  split
  · exact DK.wcount (D := { D with wt := D.wt ++ [(z, b)] }) (by simp; exact h)
  · exact Nat.le_succ_of_le h
theorem DK.wflush {D : DK} {m : Nat} (h : D.wt.length ≤ m) : D.flush.1.wt.length ≤ m := by
  unfold DK.flush
  split
  · split
    · simp
    · exact DK.wcount h
  · exact h
/-- A disk and the document's, side by side. -/
structure DpT (W : World) (loc : List (Nat × Obj)) (k gd gx : Nat) (D : DK) (R : RF) (w : World) : Prop where
  tie : Tie D R
  lim : R.Lim k
  kd : D.keep.length ≤ 3000
  st : OSt W loc [dkOb gd D, rfOb gx R] w
section
variable {W : World} {loc : List (Nat × Obj)} {k gd gx : Nat} {D : DK} {R : RF} {w : World}
theorem DpT.ext {w' : World} (h : DpT W loc k gd gx D R w) (x : Ext w w') : DpT W loc k gd gx D R w' := { h with st := h.st.ext x }
theorem DpT.mono {k' : Nat} (h : DpT W loc k gd gx D R w) (hk : k ≤ k') : DpT W loc k' gd gx D R w := { h with lim := h.lim.mono hk }
theorem DpT.cut0 (h : DpT W loc k gd gx D R w) : 0 ≤ D.cut := (h.st.dok (i := 0) rfl).c0
theorem DpT.wtl (h : DpT W loc k gd gx D R w) : D.wt.length ≤ k := h.tie.wtlen h.lim
theorem play_write (h : DpT W loc k gd gx D R w) (hk : k ≤ 1000) (z : Int) {b : List UInt8} (hb : b.length = 512) :
    ∃ (E : Int) (D1 : DK) (R1 : RF), (∀ w1, OSt W loc [dkOb gd D, rfOb gx R] w1 → Calls Try.prog 26 #[.pointer (some ⟨gd, 0, none⟩), .int .i64 z, .agg (bvs b).toArray] w1 fun e w' => e = .returned (.int .i64 E) ∧ OSt W loc [dkOb gd D1, rfOb gx R] w' ∧ Mut (SoW W) w1 w') ∧
      (∀ w1, OSt W loc [dkOb gd D1, rfOb gx R] w1 → Calls Try.prog 39 #[.pointer (some ⟨gx, 0, none⟩), .int .i64 z, .agg (bvs b).toArray] w1 fun e w' => e = .returned (.int .i64 E) ∧ DpT W loc (k + 1) gd gx D1 R1 w' ∧ Mut (SoW W) w1 w') := by
  have ht := h.tie.write h.cut0 z b
  have hl := h.lim.write z b
  have hkd := DK.kwrite h.kd z b
  have hw := h.wtl
  have hL := h.lim
  have hLl := hL.len
  refine ⟨(D.write z b).2, (D.write z b).1, (R.write z b).1, fun w1 h1 => write_om 0 h1 rfl z hb (by have := h.kd; omega) (by omega), fun w1 h1 => ?_⟩
  rw [ht.2]
  exact (rwrite_om 1 h1 rfl z hb hL.cut hL.keep (by omega)).mono fun e w' ⟨he, h2, hm⟩ => ⟨he, ⟨ht.1, hl, hkd, h2⟩, hm⟩
theorem play_flush (h : DpT W loc k gd gx D R w) (hk : k ≤ 1000) :
    ∃ (E : Int) (D1 : DK) (R1 : RF), (∀ w1, OSt W loc [dkOb gd D, rfOb gx R] w1 → Calls Try.prog 25 #[.pointer (some ⟨gd, 0, none⟩)] w1 fun e w' => e = .returned (.int .i64 E) ∧ OSt W loc [dkOb gd D1, rfOb gx R] w') ∧
      (∀ w1, OSt W loc [dkOb gd D1, rfOb gx R] w1 → Calls Try.prog 41 #[.pointer (some ⟨gx, 0, none⟩)] w1 fun e w' => e = .returned (.int .i64 E) ∧ DpT W loc k gd gx D1 R1 w') := by
  have ht := h.tie.flush h.cut0
  have hl := h.lim.flush
  have hkd := DK.kflush h.kd
  have hw := h.wtl
  have hL := h.lim
  have hLl := hL.len
  refine ⟨D.flush.2, D.flush.1, R.flush.1, fun w1 h1 => flush_o 0 h1 rfl (by have := h.kd; omega) (by omega), fun w1 h1 => ?_⟩
  rw [ht.2]
  exact (rflush_o 1 h1 rfl hL.cut hL.keep (by omega)).mono fun e w' ⟨he, h2⟩ => ⟨he, ht.1, hl, hkd, h2⟩
theorem play_fail (h : DpT W loc k gd gx D R w) (hk : k ≤ 1000) {v v' : Value} {kp : List Bool} (hkp : kp.length ≤ 3000) :
    ∃ (E : Int) (D1 : DK) (R1 : RF), (∀ w1, OSt W loc [dkOb gd D, rfOb gx R] w1 → RBo w1 v kp → Calls Try.prog 28 #[.pointer (some ⟨gd, 0, none⟩), v] w1 fun e w' => e = .returned (.int .i64 E) ∧ OSt W loc [dkOb gd D1, rfOb gx R] w' ∧ Mut (SoW W) w1 w') ∧
      (∀ w1, OSt W loc [dkOb gd D1, rfOb gx R] w1 → RBo w1 v' kp → Calls Try.prog 43 #[.pointer (some ⟨gx, 0, none⟩), v'] w1 fun e w' => e = .returned (.int .i64 E) ∧ DpT W loc k gd gx D1 R1 w' ∧ Mut (SoW W) w1 w') ∧ D1.dead = true := by
  have ht := h.tie.Fail kp
  have hl := h.lim.fail kp
  have hkd := DK.kfail h.kd kp
  have hw := h.wtl
  have hL := h.lim
  have hLl := hL.len
  have hdd : (D.Fail kp).1.dead = true := by
    unfold DK.Fail DK.ask
    cases hd : D.dead with
    | true => simp [hd]
    | false => simp [DK.fail]
  refine ⟨(D.Fail kp).2, (D.Fail kp).1, (R.Fail kp).1, fun w1 h1 hb => fail_om 0 h1 rfl kp hb (by omega) (by omega), fun w1 h1 hb => ?_, hdd⟩
  rw [ht.2]
  exact (rfail_om 1 h1 rfl kp hb (by omega) (by omega)).mono fun e w' ⟨he, h2, hm⟩ => ⟨he, ⟨ht.1, hl, hkd, h2⟩, hm⟩
theorem play_cut (h : DpT W loc k gd gx D R w) (n : Int) (hn1 : n ≤ 9223372036854775807) {v v' : Value} {kp : List Bool} (hkp : kp.length ≤ 3000) (hv : ∀ b off m c, v = .slice (some ⟨b, off, none⟩) m c → kp ≠ [] → b < W.heap.size ∨ ∃ o, (b, o) ∈ loc) (hv' : ∀ b off m c, v' = .slice (some ⟨b, off, none⟩) m c → kp ≠ [] → b < W.heap.size ∨ ∃ o, (b, o) ∈ loc) :
    ∃ (E : Int) (D1 : DK) (R1 : RF), (∀ w1, OSt W loc [dkOb gd D, rfOb gx R] w1 → RBo w1 v kp → Calls Try.prog 24 #[.pointer (some ⟨gd, 0, none⟩), .int .i64 n, v] w1 fun e w' => e = .returned (.int .i64 E) ∧ OSt W loc [dkOb gd D1, rfOb gx R] w' ∧ Mut (SoW W) w1 w') ∧
      (∀ w1, OSt W loc [dkOb gd D1, rfOb gx R] w1 → RBo w1 v' kp → Calls Try.prog 42 #[.pointer (some ⟨gx, 0, none⟩), .int .i64 n, v'] w1 fun e w' => e = .returned (.int .i64 E) ∧ DpT W loc k gd gx D1 R1 w' ∧ Mut (SoW W) w1 w') := by
  have ht := h.tie.say n kp
  have hl := h.lim.say n kp hn1 (by omega)
  have hkd := DK.ksay h.kd n hkp
  refine ⟨(D.say n kp).2, (D.say n kp).1, (R.say n kp).1, fun w1 h1 hb => ?_, fun w1 h1 hb => ?_⟩
  · obtain ⟨S, h2, h3, h4, h5⟩ := h1.pickM (i := 0) rfl
    exact (Cut_anyE n kp w1 h2 hb (by omega) (fun b off m c e h0 hs => h3 b hs (hv b off m c e h0)) hn1).mono fun e w' ⟨he, hT⟩ => ⟨he, h4 _ (dkOb gd _) hT, h5 _ hT.2⟩
  · rw [ht.2]
    exact (rcut_om 1 h1 rfl n kp hb (by omega) hn1 hv').mono fun e w' ⟨he, h2, hm⟩ => ⟨he, ⟨ht.1, hl, hkd, h2⟩, hm⟩
/-- The power is on anew. -/
theorem play_boot (h : DpT W loc k gd gx D R w) {gd' gx' : Nat} {w' : World} (hd : D.dead = true) (hs : OSt W loc [rfOb gx' ⟨R.n, R.L, 0, [], false⟩, dkOb gd' (newD D.n D.on), dkOb gd D, rfOb gx R] w') : DpT W loc k gd' gx' (newD D.n D.on) ⟨R.n, R.L, 0, [], false⟩ w' :=
  ⟨h.tie.boot hd, h.lim.boot, by simp [newD], hs.swap.take2⟩
end
end Go.Proofs.Ytobcfocbglkicaa
