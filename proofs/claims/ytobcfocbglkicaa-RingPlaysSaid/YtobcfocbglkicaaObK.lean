/- Several objects side by side: contracts of package disk, and of the document's disk, over them. (Part of it made of XDkK by a program.) -/
import Derived.Test.YtobcfocbglkicaaRfG
import Derived.Test.YtobcfocbglkicaaRfH
set_option linter.unusedVariables false
set_option maxRecDepth 100000
namespace Go.Proofs.Ytobcfocbglkicaa
open Go.RowKit

section
variable {W w : World} {loc : List (Nat × Obj)} {ds : List Ob} {g : Nat} {D : DK}
theorem new_o (h : OSt W loc ds w) (n : Int) (h1 : 64 ≤ n) (h2 : n ≤ 8192) : Calls Try.prog 23 #[.int .i64 n] w fun e w' => ∃ g, e = .returned (.tuple #[.pointer (some ⟨g, 0, none⟩), .int .i64 0]) ∧ OSt W loc (dkOb g (newD n []) :: ds) w' :=
  (new_ok n w h1 h2).mono fun e w' ⟨g, he, _, hd, hb⟩ => ⟨g, he, h.push hb (D := dkOb g _) hd⟩
theorem nonew_o (h : OSt W loc ds w) (n : Int) (hn : ¬ (64 ≤ n ∧ n ≤ 8192)) : Calls Try.prog 23 #[.int .i64 n] w fun e w' => e = .returned (.tuple #[.pointer none, .int .i64 1]) ∧ OSt W loc ds w' :=
  (new_no n w hn).mono fun e w' ⟨he, hb⟩ => ⟨he, h.ext hb⟩
theorem write_o (i : Nat) (h : OSt W loc ds w) (hi : ds[i]? = some (dkOb g D)) (z : Int) {b : List UInt8} (hb : b.length = 512) (hkl : D.keep.length ≤ 1000000) (hwl : D.wt.length ≤ 100000) :
    Calls Try.prog 26 #[.pointer (some ⟨g, 0, none⟩), .int .i64 z, .agg (bvs b).toArray] w fun e w' => e = .returned (.int .i64 (D.write z b).2) ∧ OSt W loc (ds.set i (dkOb g (D.write z b).1)) w' := by
  obtain ⟨S, h1, _, h3⟩ := h.pick hi
  exact (Write_any z b w h1 hb hkl hwl).mono fun e w' ⟨he, hT⟩ => ⟨he, h3 _ (dkOb g _) hT⟩
theorem flush_o (i : Nat) (h : OSt W loc ds w) (hi : ds[i]? = some (dkOb g D)) (hkl : D.keep.length ≤ 1000000) (hwl : D.wt.length ≤ 1000000) :
    Calls Try.prog 25 #[.pointer (some ⟨g, 0, none⟩)] w fun e w' => e = .returned (.int .i64 D.flush.2) ∧ OSt W loc (ds.set i (dkOb g D.flush.1)) w' := by
  obtain ⟨S, h1, _, h3⟩ := h.pick hi
  exact (Flush_any w h1 hkl hwl).mono fun e w' ⟨he, hT⟩ => ⟨he, h3 _ (dkOb g _) hT⟩
theorem fail_o (i : Nat) (h : OSt W loc ds w) (hi : ds[i]? = some (dkOb g D)) {vk : Value} (keep : List Bool) (hk : RBo w vk keep) (hkl : keep.length ≤ 1000000) (hwl : D.wt.length ≤ 1000000) :
    Calls Try.prog 28 #[.pointer (some ⟨g, 0, none⟩), vk] w fun e w' => e = .returned (.int .i64 (D.Fail keep).2) ∧ OSt W loc (ds.set i (dkOb g (D.Fail keep).1)) w' := by
  obtain ⟨S, h1, _, h3⟩ := h.pick hi
  exact (Fail_any keep w h1 hk hkl hwl).mono fun e w' ⟨he, hT⟩ => ⟨he, h3 _ (dkOb g _) hT⟩
theorem cut_o (i : Nat) (h : OSt W loc ds w) (hi : ds[i]? = some (dkOb g D)) (n : Int) {vk : Value} (keep : List Bool) (hk : RBo w vk keep) (hkl : keep.length ≤ 1000000) (hn1 : n ≤ 9223372036854775807) (hv : ∀ b off m c, vk = .slice (some ⟨b, off, none⟩) m c → b < W.heap.size ∨ ∃ o, (b, o) ∈ loc) :
    Calls Try.prog 24 #[.pointer (some ⟨g, 0, none⟩), .int .i64 n, vk] w fun e w' => e = .returned (.int .i64 (D.say n keep).2) ∧ OSt W loc (ds.set i (dkOb g (D.say n keep).1)) w' := by
  obtain ⟨S, h1, h2, h3⟩ := h.pick hi
  exact (Cut_any n keep w h1 hk hkl (fun b off m c e hs => h2 b hs (hv b off m c e)) hn1).mono fun e w' ⟨he, hT⟩ => ⟨he, h3 _ (dkOb g _) hT⟩
theorem read_o (i : Nat) (h : OSt W loc ds w) (hi : ds[i]? = some (dkOb g D)) (z : Int) (hwl : D.wt.length ≤ 1000000) :
    Calls Try.prog 31 #[.pointer (some ⟨g, 0, none⟩), .int .i64 z] w fun e w' => e = .returned (.tuple #[bval (D.read z).1, .int .i64 (D.read z).2]) ∧ OSt W loc ds w' ∧ Ext w w' := by
  obtain ⟨S, h1, _⟩ := h.pick hi
  exact (Read_any z w h1 hwl).mono fun e w' ⟨he, hb⟩ => ⟨he, h.ext hb, hb⟩
theorem dead_o (i : Nat) (h : OSt W loc ds w) (hi : ds[i]? = some (dkOb g D)) : Calls Try.prog 29 #[.pointer (some ⟨g, 0, none⟩)] w fun e w' => e = .returned (.bool D.dead) ∧ OSt W loc ds w' := by
  obtain ⟨S, h1, _⟩ := h.pick hi
  exact (dead_any w h1).mono fun e w' ⟨he, hb⟩ => ⟨he, h.ext hb⟩
theorem waiting_o (i : Nat) (h : OSt W loc ds w) (hi : ds[i]? = some (dkOb g D)) : Calls Try.prog 32 #[.pointer (some ⟨g, 0, none⟩)] w fun e w' => e = .returned (.int .i64 D.wt.length) ∧ OSt W loc ds w' := by
  obtain ⟨S, h1, _⟩ := h.pick hi
  exact (waiting_any w h1).mono fun e w' ⟨he, hb⟩ => ⟨he, h.ext hb⟩
theorem blocks_o (i : Nat) (h : OSt W loc ds w) (hi : ds[i]? = some (dkOb g D)) : Calls Try.prog 36 #[.pointer (some ⟨g, 0, none⟩)] w fun e w' => e = .returned (.int .i64 D.n) ∧ OSt W loc ds w' := by
  obtain ⟨S, h1, _⟩ := h.pick hi
  exact (blocks_any w h1).mono fun e w' ⟨he, hb⟩ => ⟨he, h.ext hb⟩
theorem boot_o (i : Nat) (h : OSt W loc ds w) (hi : ds[i]? = some (dkOb g D)) (hd : D.dead = true) : Calls Try.prog 35 #[.pointer (some ⟨g, 0, none⟩)] w fun e w' => ∃ g', e = .returned (.tuple #[.pointer (some ⟨g', 0, none⟩), .int .i64 0]) ∧ OSt W loc (dkOb g' (newD D.n D.on) :: ds) w' := by
  obtain ⟨S, h1, _⟩ := h.pick hi
  exact (Boot_ok w h1 hd).mono fun e w' ⟨g', he, _, hD, hb⟩ => ⟨g', he, h.push hb (D := dkOb g' _) hD⟩
theorem noboot_o (i : Nat) (h : OSt W loc ds w) (hi : ds[i]? = some (dkOb g D)) (hd : D.dead = false) : Calls Try.prog 35 #[.pointer (some ⟨g, 0, none⟩)] w fun e w' => e = .returned (.tuple #[.pointer none, .int .i64 50]) ∧ OSt W loc ds w' := by
  obtain ⟨S, h1, _⟩ := h.pick hi
  exact (Boot_no w h1 hd).mono fun e w' ⟨he, hb⟩ => ⟨he, h.ext hb⟩
theorem copy_o (i : Nat) (h : OSt W loc ds w) (hi : ds[i]? = some (dkOb g D)) (hkl : D.keep.length ≤ 1000000) (hwl : D.wt.length ≤ 1000000) : Calls Try.prog 33 #[.pointer (some ⟨g, 0, none⟩)] w fun e w' => ∃ g', e = .returned (.pointer (some ⟨g', 0, none⟩)) ∧ OSt W loc (dkOb g' D :: ds) w' := by
  obtain ⟨S, h1, _⟩ := h.pick hi
  exact (Copy_any w h1 hkl hwl).mono fun e w' ⟨g', he, _, hD, hb⟩ => ⟨g', he, h.push hb (D := dkOb g' _) hD⟩
theorem OSt.dok (h : OSt W loc ds w) {i : Nat} (hi : ds[i]? = some (dkOb g D)) : D.Ok := by
  obtain ⟨S, h1, _⟩ := h.pick hi
  exact h1.ok
end

theorem OSt.adopt {W w w' : World} {loc : List (Nat × Obj)} {ds : List Ob} (h : OSt W loc ds w) (k : Ext w w') {g : Nat} {o : Obj} (hg : w.heap.size ≤ g) (hb : w'.heap[g]? = some o) : OSt W ((g, o) :: loc) ds w' := by
  have h' := h.ext k
  refine ⟨h'.bel, fun p hp => ?_, ?_, ?_⟩
  · rcases List.mem_cons.1 hp with rfl | hp
    · exact ⟨Nat.le_trans h.bel.size hg, hb⟩
    · exact h'.cel p hp
  · rw [List.map_cons, List.nodup_cons]
    refine ⟨fun hm => ?_, h.nod⟩
    obtain ⟨p, hp, hk⟩ := List.mem_map.1 hm
    have := (Array.getElem?_eq_some_iff.1 (h.cel p hp).2).1
    omega
  · refine (h.dks.mono (L' := fun k => k < W.heap.size ∨ ∃ o', (k, o') ∈ (g, o) :: loc) fun k hk => ?_).out (T := fun _ => False) (Mut.of_ext k) fun _ h => h.elim
    rcases hk with hk | ⟨o', ho⟩
    · exact .inl (.inl hk)
    · rcases List.mem_cons.1 ho with e | ho
      · right
        have := congrArg Prod.fst e
        simp only at this
        omega
      · exact .inl (.inr ⟨o', ho⟩)
/-- Behind a disk and the document's there stand others, which are let go. -/
theorem OSt.two {W w : World} {loc : List (Nat × Obj)} {a b c : Ob} (h : OSt W loc [a, b, c] w) : OSt W loc [a, b] w := by
  obtain ⟨S1, h1, k1, S2, h2, k2, -⟩ := h.dks
  exact ⟨h.bel, h.cel, h.nod, S1, h1, k1, S2, h2, k2, trivial⟩
theorem OSt.swap {W w : World} {loc : List (Nat × Obj)} {a b : Ob} {l : List Ob} (h : OSt W loc (a :: b :: l) w) : OSt W loc (b :: a :: l) w := by
  obtain ⟨S1, h1, k1, S2, h2, k2, h3⟩ := h.dks
  refine ⟨h.bel, h.cel, h.nod, S2, h2, fun k hk => ⟨fun hl => (k2 k hk).1 (.inl hl), (k2 k hk).2⟩, S1, h1, fun k hk => ⟨fun hl => hl.elim (k1 k hk).1 fun hs => (k2 k hs).1 (.inr hk), (k1 k hk).2⟩, h3.mono fun k hk => .inl ?_⟩
  rcases hk with (hk | hk) | hk
  · exact .inl (.inl hk)
  · exact .inr hk
  · exact .inl (.inr hk)
section
variable {W w : World} {loc : List (Nat × Obj)} {ds : List Ob} {g : Nat} {R : RF}
theorem rnew_o (h : OSt W loc ds w) (n : Int) (h1 : 64 ≤ n) (h2 : n ≤ 8192) : Calls Try.prog 38 #[.int .i64 n] w fun e w' => ∃ g, e = .returned (.tuple #[.pointer (some ⟨g, 0, none⟩), .int .i64 0]) ∧ OSt W loc (rfOb g ⟨n, [], 0, [], false⟩ :: ds) w' :=
  (rnew_ok n w h1 h2).mono fun e w' ⟨g, he, hd, hb⟩ => ⟨g, he, h.push hb (D := rfOb g _) hd⟩
theorem rwrite_o (i : Nat) (h : OSt W loc ds w) (hi : ds[i]? = some (rfOb g R)) (z : Int) {b : List UInt8} (hb : b.length = 512) (hc : 0 ≤ R.cut ∧ R.cut ≤ 9223372036854775807) (hkl : R.keep.length ≤ 1000000) (hl : R.L.length ≤ 50000) :
    Calls Try.prog 39 #[.pointer (some ⟨g, 0, none⟩), .int .i64 z, .agg (bvs b).toArray] w fun e w' => e = .returned (.int .i64 (R.write z b).2) ∧ OSt W loc (ds.set i (rfOb g (R.write z b).1)) w' := by
  obtain ⟨S, h1, _, h3⟩ := h.pick hi
  exact (rWrite_any z w h1 hb hc hkl hl).mono fun e w' ⟨he, hT⟩ => ⟨he, h3 _ (rfOb g _) hT⟩
theorem rflush_o (i : Nat) (h : OSt W loc ds w) (hi : ds[i]? = some (rfOb g R)) (hc : 0 ≤ R.cut ∧ R.cut ≤ 9223372036854775807) (hkl : R.keep.length ≤ 1000000) (hl : R.L.length ≤ 50000) :
    Calls Try.prog 41 #[.pointer (some ⟨g, 0, none⟩)] w fun e w' => e = .returned (.int .i64 R.flush.2) ∧ OSt W loc (ds.set i (rfOb g R.flush.1)) w' := by
  obtain ⟨S, h1, _, h3⟩ := h.pick hi
  exact (rFlush_any w h1 hc hkl (by omega)).mono fun e w' ⟨he, hT⟩ => ⟨he, h3 _ (rfOb g _) hT⟩
theorem rfail_o (i : Nat) (h : OSt W loc ds w) (hi : ds[i]? = some (rfOb g R)) {vk : Value} (keep : List Bool) (hk : RBo w vk keep) (hkl : keep.length ≤ 1000000) (hl : R.L.length ≤ 50000) :
    Calls Try.prog 43 #[.pointer (some ⟨g, 0, none⟩), vk] w fun e w' => e = .returned (.int .i64 (R.Fail keep).2) ∧ OSt W loc (ds.set i (rfOb g (R.Fail keep).1)) w' := by
  obtain ⟨S, h1, _, h3⟩ := h.pick hi
  exact (rFail_any keep w h1 hk hkl (by omega)).mono fun e w' ⟨he, hT⟩ => ⟨he, h3 _ (rfOb g _) hT⟩
theorem rcut_o (i : Nat) (h : OSt W loc ds w) (hi : ds[i]? = some (rfOb g R)) (n : Int) {vk : Value} (keep : List Bool) (hk : RBo w vk keep) (hkl : keep.length ≤ 1000000) (hn1 : n ≤ 9223372036854775807) (hv : ∀ b off m c, vk = .slice (some ⟨b, off, none⟩) m c → keep ≠ [] → b < W.heap.size ∨ ∃ o, (b, o) ∈ loc) :
    Calls Try.prog 42 #[.pointer (some ⟨g, 0, none⟩), .int .i64 n, vk] w fun e w' => e = .returned (.int .i64 (R.say n keep).2) ∧ OSt W loc (ds.set i (rfOb g (R.say n keep).1)) w' := by
  obtain ⟨S, h1, h2, h3⟩ := h.pick hi
  exact (SayCut_any n keep w h1 hk hkl (fun b off m c e h0 hs => h2 b hs (hv b off m c e h0)) hn1).mono fun e w' ⟨he, hT⟩ => ⟨he, h3 _ (rfOb g _) hT⟩
theorem rread_o (i : Nat) (h : OSt W loc ds w) (hi : ds[i]? = some (rfOb g R)) (z : Int) (hl : R.L.length ≤ 1000000) :
    Calls Try.prog 40 #[.pointer (some ⟨g, 0, none⟩), .int .i64 z] w fun e w' => e = .returned (.tuple #[bval (R.read z).1, .int .i64 (R.read z).2]) ∧ OSt W loc ds w' ∧ Ext w w' := by
  obtain ⟨S, h1, _⟩ := h.pick hi
  exact (rRead_any z w h1 hl).mono fun e w' ⟨he, hb⟩ => ⟨he, h.ext hb, hb⟩
theorem rwaiting_o (i : Nat) (h : OSt W loc ds w) (hi : ds[i]? = some (rfOb g R)) (hl : R.L.length ≤ 1000000) :
    Calls Try.prog 77 #[.pointer (some ⟨g, 0, none⟩)] w fun e w' => e = .returned (.int .i64 R.waiting) ∧ OSt W loc ds w' ∧ Ext w w' := by
  obtain ⟨S, h1, _⟩ := h.pick hi
  exact (rwaiting_any w h1 hl).mono fun e w' ⟨he, hb⟩ => ⟨he, h.ext hb, hb⟩
theorem rboot_o (i : Nat) (h : OSt W loc ds w) (hi : ds[i]? = some (rfOb g R)) (hd : R.dead = true) (hl : R.L.length ≤ 50000) :
    Calls Try.prog 44 #[.pointer (some ⟨g, 0, none⟩)] w fun e w' => ∃ g', e = .returned (.tuple #[.pointer (some ⟨g', 0, none⟩), .int .i64 0]) ∧ OSt W loc (rfOb g' ⟨R.n, R.L, 0, [], false⟩ :: ds) w' := by
  obtain ⟨S, h1, _⟩ := h.pick hi
  exact (rBoot_ok w h1 hd (by omega)).mono fun e w' ⟨g', he, hD, hb⟩ => ⟨g', he, h.push hb (D := rfOb g' _) hD⟩
theorem rnoboot_o (i : Nat) (h : OSt W loc ds w) (hi : ds[i]? = some (rfOb g R)) (hd : R.dead = false) :
    Calls Try.prog 44 #[.pointer (some ⟨g, 0, none⟩)] w fun e w' => e = .returned (.tuple #[.pointer none, .int .i64 50]) ∧ OSt W loc ds w' := by
  obtain ⟨S, h1, _⟩ := h.pick hi
  exact (rBoot_no w h1 hd).mono fun e w' ⟨he, hb⟩ => ⟨he, h.ext hb⟩
/-- The cells of the document's disk. -/
theorem rcells_o (i : Nat) (h : OSt W loc ds w) (hi : ds[i]? = some (rfOb g R)) : w.cell? ⟨g, 0, none⟩ = some (.int .i64 R.n) ∧ w.cell? ⟨g, 4, none⟩ = some (.bool R.dead) ∧ g < w.heap.size := by
  obtain ⟨S, ⟨sv, kv, h1⟩, _⟩ := h.pick hi
  obtain ⟨c0, -, -, -, c4, -, hlt⟩ := blk5 h1.hg
  exact ⟨c0, c4, hlt⟩
end
/-! Lengths. -/
theorem fails_cut (R : RF) (hc : 0 ≤ R.cut) : 0 ≤ R.fails.1.cut ∧ R.fails.1.cut ≤ R.cut := by
  unfold RF.fails
  split
  · exact ⟨hc, Int.le_refl _⟩
  · simp only; omega
/-- What holds of the document's disk all the way. -/
structure RF.Lim (R : RF) (k : Nat) : Prop where
  cut : 0 ≤ R.cut ∧ R.cut ≤ 9223372036854775807
  keep : R.keep.length ≤ 1000000
  len : R.L.length ≤ k
theorem RF.Lim.fail {R : RF} {k : Nat} (h : R.Lim k) (keep : List Bool) : (R.Fail keep).1.Lim k := by
  unfold RF.Fail
  split
  · exact h
  · exact ⟨⟨Int.le_refl _, by simp only; omega⟩, by simp, Nat.le_trans (keptR_len _ _ _) h.len⟩
theorem RF.Lim.fails {R : RF} {k : Nat} (h : R.Lim k) : R.fails.1.Lim k := by
  obtain ⟨e1, e2, -, -⟩ := fails_same R
  have e3 := fails_cut R h.cut.1
  have := h.cut
  exact ⟨by omega, by rw [e2]; exact h.keep, by rw [e1]; exact h.len⟩
theorem RF.Lim.mono {R : RF} {k k' : Nat} (h : R.Lim k) (hk : k ≤ k') : R.Lim k' := ⟨h.cut, h.keep, Nat.le_trans h.len hk⟩
theorem RF.Lim.write {R : RF} {k : Nat} (h : R.Lim k) (z : Int) (b : List UInt8) : (R.write z b).1.Lim (k + 1) := by
  have h1 : (⟨R.n, R.L ++ [(z, b, false)], R.cut, R.keep, R.dead⟩ : RF).Lim (k + 1) := ⟨h.cut, h.keep, by simp only [List.length_append, List.length_singleton]; have := h.len; omega⟩
  unfold RF.write
  split
  · exact h.mono (by omega)
  · split
    · simp only
      split
      · exact h1.fails.fail _
      · exact h1.fails
    · exact h.mono (by omega)
theorem RF.Lim.flush {R : RF} {k : Nat} (h : R.Lim k) : R.flush.1.Lim k := by
  unfold RF.flush
  split
  · exact h
  · split
    · exact h.fails.fail _
    · have h1 := h.fails
      exact ⟨h1.cut, h1.keep, by simp only [List.length_map]; exact h1.len⟩
theorem RF.Lim.say {R : RF} {k : Nat} (h : R.Lim k) (n : Int) (keep : List Bool) (hn : n ≤ 9223372036854775807) (hk : keep.length ≤ 1000000) : (R.say n keep).1.Lim k := by
  unfold RF.say
  split
  · exact h
  · split
    · exact ⟨⟨by assumption, hn⟩, hk, h.len⟩
    · exact h
theorem RF.Lim.new (n : Int) : (⟨n, [], 0, [], false⟩ : RF).Lim 0 := ⟨⟨Int.le_refl _, by simp only; omega⟩, by simp, by simp⟩
theorem RF.Lim.boot {R : RF} {k : Nat} (h : R.Lim k) : (⟨R.n, R.L, 0, [], false⟩ : RF).Lim k := ⟨⟨Int.le_refl _, by simp only; omega⟩, by simp, h.len⟩
/-- Those of the disk that is tied to it. -/
theorem Tie.wtlen {D : DK} {R : RF} (h : Tie D R) {k : Nat} (hl : R.Lim k) : D.wt.length ≤ k := by
  have h1 := hl.len
  rw [h.L] at h1
  simp only [onR, wtR, List.length_append, List.length_map] at h1
  omega
/-- A disk's rows of truth values are short all the way. -/
theorem DK.kfail {D : DK} {m : Nat} (h : D.keep.length ≤ m) (keep : List Bool) : (D.Fail keep).1.keep.length ≤ m := by
  unfold DK.Fail
  split
  · simp [DK.fail]
  · exact h
theorem DK.kcount {D : DK} {m : Nat} (h : D.keep.length ≤ m) : D.count.1.keep.length ≤ m := by
  unfold DK.count
  split
  · exact h
  · split
    · exact h
    · simp [DK.fail]
theorem DK.kwrite {D : DK} {m : Nat} (h : D.keep.length ≤ m) (z : Int) (b : List UInt8) : (D.write z b).1.keep.length ≤ m := by
  unfold DK.write
  split
  · exact DK.kcount (D := { D with wt := D.wt ++ [(z, b)] }) h
  · exact h
theorem DK.kflush {D : DK} {m : Nat} (h : D.keep.length ≤ m) : D.flush.1.keep.length ≤ m := by
  unfold DK.flush
  split
  · split
    · exact DK.kcount (D := D) h
    · exact DK.kcount h
  · exact h
theorem DK.ksay {D : DK} {m : Nat} (h : D.keep.length ≤ m) (n : Int) {keep : List Bool} (hk : keep.length ≤ m) : (D.say n keep).1.keep.length ≤ m := by
  unfold DK.say
  split
  · split
    · simp only
      split
      · exact hk
      · simp
    · exact h
  · exact h
end Go.Proofs.Ytobcfocbglkicaa
