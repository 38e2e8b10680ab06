/- Walks of disk: Fail, Cut, Flush. -/
import Derived.Test.YtobcfocbglkicaaDkD
set_option linter.unusedVariables false
set_option maxRecDepth 100000
namespace Go.Proofs.Ytobcfocbglkicaa
open Go.RowKit

theorem ask_cases (D : DK) : (D.ask = 0 ∧ D.dead = false) ∨ (D.ask = 51 ∧ D.dead = true) := by
  unfold DK.ask
  cases D.dead <;> simp
theorem count_cases (D : DK) : (D.count.2 = 0 ∧ D.count.1.on = D.on ∧ D.count.1.wt = D.wt ∧ D.count.1.n = D.n ∧ D.count.1.dead = D.dead ∧ D.count.1.keep = D.keep) ∨ (D.count.2 = 51 ∧ D.count.1 = D.fail D.keep) := by
  unfold DK.count
  split
  · exact .inl ⟨rfl, rfl, rfl, rfl, rfl, rfl⟩
  · split
    · exact .inl ⟨rfl, rfl, rfl, rfl, rfl, rfl⟩
    · exact .inr ⟨rfl, rfl⟩
set_option maxHeartbeats 1000000 in
theorem Fail_any {S : Nat → Prop} {g : Nat} {D : DK} {vk : Value} (keep : List Bool) (w : World) (h : DkAt w S g D) (hk : RBo w vk keep) (hkl : keep.length ≤ 1000000) (hwl : D.wt.length ≤ 1000000) :
    Calls Try.prog 28 #[.pointer (some ⟨g, 0, none⟩), vk] w fun e w' => e = .returned (.int .i64 (D.Fail keep).2) ∧ DkTo S w w' g (D.Fail keep).1 := by
  obtain ⟨kA, kc, rfl⟩ := hk.form
  rcases ask_cases D with ⟨ha, _⟩ | ⟨ha, _⟩
  · rw [show D.Fail keep = (D.fail keep, 0) by simp [DK.Fail, ha]]
    go_enter Try.func28, Try.ntmps28
    go_wp2_with fail
    refine (ask_any _ h).mono ?_
    rw [ha]
    rintro e w1 ⟨rfl, hb1⟩; have hz1 := hb1.size; (try simp only [World.size_alloc] at hz1)
    go_wp2_with fail
    refine (fail_any keep _ (h.ext hb1) (hk.ext hb1) hkl hwl).mono ?_
    rintro e w2 ⟨rfl, hd⟩
    have F := Lib.hid (DkTo.after_ext hb1 hd)
    go_wp2
    go_ret
    exact ⟨rfl, F.out⟩
  · rw [show D.Fail keep = (D, 51) by simp [DK.Fail, ha]]
    go_enter Try.func28, Try.ntmps28
    go_wp2_with fail
    refine (ask_any _ h).mono ?_
    rw [ha]
    rintro e w1 ⟨rfl, hb1⟩; have hz1 := hb1.size; (try simp only [World.size_alloc] at hz1)
    have F := Lib.hid (DkTo.of_ext h hb1)
    go_wp2
    go_ret
    exact ⟨rfl, F.out⟩
theorem keep_new {S : Nat → Prop} {w0 w1 w2 : World} {g mo mn : Nat} {sv kv kv' : Value} {D D' : DK} (h : DkP w2 S g mo mn sv kv D) (hn : D'.n = D.n) (ho : D'.on = D.on) (hi : ∀ a, lastIx D'.wt a = lastIx D.wt a) (hok : D'.Ok)
    (hw : OwnR w2 0 107 513 One sv D'.wt.length (wcs D'.wt)) (hk : OwnR w2 w1.heap.size 4 1 One kv' D'.keep.length (bcs D'.keep)) (hb : Ext w1 w2) :
    DkTo (gr S w0 w1) w1 (w2.setRow g #[.int .i64 D'.n, .map (some mo), sv, .map (some mn), .int .i64 D'.cut, kv', .bool D'.dead]) g D' := by
  have hlt : ∀ b, kv'.ownBlock = some b → w1.heap.size ≤ b ∧ b < w2.heap.size := by
    intro b hb
    obtain ⟨_, ⟨rfl, _⟩ | ⟨g', c, junk, rfl, hB, hg', _⟩⟩ := hk
    · simp [Value.ownBlock] at hb
    · obtain rfl : g' = b := by simpa [Value.ownBlock] using hb
      exact ⟨hB, (Array.getElem?_eq_some_iff.1 hg').1⟩
  have h2 : DkP w2 (gr (gr S w0 w1) w1 w2) g mo mn sv kv D := h.mono fun i hi => .inl (.inl hi)
  have h5 := h2.cells (D' := D') sv kv' hn ho hi hok hw (hk.mono (Nat.zero_le _)) h2.sw fun b hb => .inr (hlt b hb)
  refine ⟨⟨_, _, _, _, h5.mono fun i hi => ?_⟩, (Mut.of_ext hb).trans (mut_setRow (.inl h.sg) _)⟩
  rcases hi with hi | hi
  · exact .inl hi
  · exact .inr (by simp [World.setRow]; omega)
set_option maxHeartbeats 2000000 in
theorem Cut_any {S : Nat → Prop} {g : Nat} {D : DK} {vk : Value} (n : Int) (keep : List Bool) (w : World) (h : DkAt w S g D) (hk : RBo w vk keep) (hkl : keep.length ≤ 1000000) (hn : ∀ b off m c, vk = .slice (some ⟨b, off, none⟩) m c → ¬ S b) (hn1 : n ≤ 9223372036854775807) :
    Calls Try.prog 24 #[.pointer (some ⟨g, 0, none⟩), .int .i64 n, vk] w fun e w' => e = .returned (.int .i64 (D.say n keep).2) ∧ DkTo S w w' g (D.say n keep).1 := by
  obtain ⟨kA, kc, rfl⟩ := hk.form
  rcases ask_cases D with ⟨ha, hd⟩ | ⟨ha, _⟩
  case inr =>
    rw [show D.say n keep = (D, 51) by simp [DK.say, ha]]
    go_enter Try.func24, Try.ntmps24
    go_wp2_with fail
    refine (ask_any _ h).mono ?_
    rw [ha]
    rintro e w1 ⟨rfl, hb1⟩; have hz1 := hb1.size; (try simp only [World.size_alloc] at hz1)
    have F := Lib.hid (DkTo.of_ext h hb1)
    go_wp2
    go_ret
    exact ⟨rfl, F.out⟩
  by_cases h0 : 0 ≤ n
  case neg =>
    rw [show D.say n keep = (D, 1) by simp only [DK.say]; rw [if_pos ha, if_neg h0]]
    go_enter Try.func24, Try.ntmps24
    go_wp2_with fail
    refine (ask_any _ h).mono ?_
    rw [ha]
    rintro e w1 ⟨rfl, hb1⟩; have hz1 := hb1.size; (try simp only [World.size_alloc] at hz1)
    have F := Lib.hid (DkTo.of_ext h hb1)
    go_wp2
    go_ret
    exact ⟨rfl, F.out⟩
  by_cases h2 : 0 < n
  · rw [show D.say n keep = ({ D with cut := n, keep := keep }, 0) by simp only [DK.say]; rw [if_pos ha, if_pos h0, if_pos h2]]
    go_enter Try.func24, Try.ntmps24
    go_wp2_with fail
    refine (ask_any _ h).mono ?_
    rw [ha]
    rintro e w1 ⟨rfl, hb1⟩; have hz1 := hb1.size; (try simp only [World.size_alloc] at hz1)
    have hk1 := hk.ext hb1
    have X1 := Lib.hid hb1
    obtain ⟨mo, mn, sv, kv, h⟩ := h.ext hb1
    clear hk hb1 hz1
    obtain ⟨c0, c1, c2, c3, c4, c5, c6, fz, hlt⟩ := blk7 h.hg
    have hok : DK.Ok { D with cut := n, keep := [] } := ⟨h.ok.n0, h.ok.n1, h0, hn1, h.ok.on, h.ok.wt⟩
    have h1 := h.cells (D' := { D with cut := n, keep := [] }) sv (.slice none 0 0) rfl rfl (fun _ => rfl) hok h.wt OwnR.nil h.sw (by simp [Value.ownBlock])
    have hs := set7_45 (.int .i64 n) (.slice none 0 0) h.hg
    simp only at h1 hs
    have hT := dkTo_set h1 h.sg
    rw [← hs] at h1 hT
    have hk2 := hk1.mutO hT.2 hn
    have sg := h.sg
    have K := Lib.hid (clone_bools keep _ hk2 hkl)
    have T := Lib.hid hT
    have H1 := Lib.hid h1
    clear h h1 hT hs hk1 hk2 hok
    go_wp2_with (go_at_call 67; refine K.out.mono ?_; rintro e w2 ⟨v', rfl, ho, hb2⟩; obtain ⟨vA, vc, rfl⟩ := ho.form; have hg2 := H1.out.ext hb2; obtain ⟨d0, d1, d2, d3, d4, d5, d6, fz2, hlt2⟩ := blk7 hg2.hg)
    go_ret
    refine ⟨rfl, ?_⟩
    rw [set7_5 _ hg2.hg]
    exact DkTo.after_ext X1.out (T.out.trans (keep_new hg2 (D' := { D with cut := n, keep := keep }) rfl rfl (fun _ => rfl) ⟨hg2.ok.n0, hg2.ok.n1, hg2.ok.c0, hg2.ok.c1, hg2.ok.on, hg2.ok.wt⟩ hg2.wt ho hb2))
  · rw [show D.say n keep = ({ D with cut := n, keep := [] }, 0) by simp only [DK.say]; rw [if_pos ha, if_pos h0, if_neg h2]]
    go_enter Try.func24, Try.ntmps24
    go_wp2_with fail
    refine (ask_any _ h).mono ?_
    rw [ha]
    rintro e w1 ⟨rfl, hb1⟩; have hz1 := hb1.size; (try simp only [World.size_alloc] at hz1)
    have hk1 := hk.ext hb1
    have X1 := Lib.hid hb1
    obtain ⟨mo, mn, sv, kv, h⟩ := h.ext hb1
    clear hk hb1 hz1
    obtain ⟨c0, c1, c2, c3, c4, c5, c6, fz, hlt⟩ := blk7 h.hg
    have hok : DK.Ok { D with cut := n, keep := [] } := ⟨h.ok.n0, h.ok.n1, h0, hn1, h.ok.on, h.ok.wt⟩
    have h1 := h.cells (D' := { D with cut := n, keep := [] }) sv (.slice none 0 0) rfl rfl (fun _ => rfl) hok h.wt OwnR.nil h.sw (by simp [Value.ownBlock])
    have hs := set7_45 (.int .i64 n) (.slice none 0 0) h.hg
    simp only at h1 hs
    have hT := dkTo_set h1 h.sg
    rw [← hs] at h1 hT
    have hk2 := hk1.mutO hT.2 hn
    have sg := h.sg
    have T := Lib.hid (DkTo.after_ext X1.out hT)
    clear h h1 hT hs hk1 hk2 hok
    go_wp2
    go_ret
    exact ⟨rfl, T.out⟩
end Go.Proofs.Ytobcfocbglkicaa
