/- The law of disks: same; the row that is handed in. -/
import Derived.Test.YtobcfocbglkicaaDpA
import Derived.Test.YtobcfocbglkicaaDkM
set_option linter.unusedVariables false
set_option maxRecDepth 100000
namespace Go.Proofs.Ytobcfocbglkicaa
open Go.RowKit
attribute [local go_sem ↓] eql_blk neq_blk

/-- What is made, or changed, since W. -/
def SoW (W : World) : Nat → Prop := fun j => W.heap.size ≤ j
theorem OSt.pickM {W w : World} {loc : List (Nat × Obj)} {ds : List Ob} (h : OSt W loc ds w) {i : Nat} {D : Ob} (hi : ds[i]? = some D) :
    ∃ S, D.is w S ∧ (∀ k, S k → ¬ (k < W.heap.size ∨ ∃ o, (k, o) ∈ loc)) ∧ (∀ w' (D' : Ob), D'.is w' (gr S w w') ∧ Mut S w w' → OSt W loc (ds.set i D') w') ∧ ∀ w', Mut S w w' → Mut (SoW W) w w' := by
  obtain ⟨S, h1, h2, h3⟩ := h.pick hi
  exact ⟨S, h1, h2, h3, fun w' hw' => hw'.mono fun k hk => by
    have := h2 k hk
    have : ¬ k < W.heap.size := fun hl => this (.inl hl)
    unfold SoW
    omega⟩
section
variable {W w : World} {loc : List (Nat × Obj)} {ds : List Ob} {g : Nat} {D : DK} {R : RF}
theorem write_om (i : Nat) (h : OSt W loc ds w) (hi : ds[i]? = some (dkOb g D)) (z : Int) {b : List UInt8} (hb : b.length = 512) (hkl : D.keep.length ≤ 1000000) (hwl : D.wt.length ≤ 100000) :
    Calls Try.prog 26 #[.pointer (some ⟨g, 0, none⟩), .int .i64 z, .agg (bvs b).toArray] w fun e w' => e = .returned (.int .i64 (D.write z b).2) ∧ OSt W loc (ds.set i (dkOb g (D.write z b).1)) w' ∧ Mut (SoW W) w w' := by
  obtain ⟨S, h1, _, h3, h4⟩ := h.pickM hi
  exact (Write_any z b w h1 hb hkl hwl).mono fun e w' ⟨he, hT⟩ => ⟨he, h3 _ (dkOb g _) hT, h4 _ hT.2⟩
theorem fail_om (i : Nat) (h : OSt W loc ds w) (hi : ds[i]? = some (dkOb g D)) {vk : Value} (keep : List Bool) (hk : RBo w vk keep) (hkl : keep.length ≤ 1000000) (hwl : D.wt.length ≤ 1000000) :
    Calls Try.prog 28 #[.pointer (some ⟨g, 0, none⟩), vk] w fun e w' => e = .returned (.int .i64 (D.Fail keep).2) ∧ OSt W loc (ds.set i (dkOb g (D.Fail keep).1)) w' ∧ Mut (SoW W) w w' := by
  obtain ⟨S, h1, _, h3, h4⟩ := h.pickM hi
  exact (Fail_any keep w h1 hk hkl hwl).mono fun e w' ⟨he, hT⟩ => ⟨he, h3 _ (dkOb g _) hT, h4 _ hT.2⟩
theorem cut_om (i : Nat) (h : OSt W loc ds w) (hi : ds[i]? = some (dkOb g D)) (n : Int) {vk : Value} (keep : List Bool) (hk : RBo w vk keep) (hkl : keep.length ≤ 1000000) (hn1 : n ≤ 9223372036854775807) (hv : ∀ b off m c, vk = .slice (some ⟨b, off, none⟩) m c → b < W.heap.size ∨ ∃ o, (b, o) ∈ loc) :
    Calls Try.prog 24 #[.pointer (some ⟨g, 0, none⟩), .int .i64 n, vk] w fun e w' => e = .returned (.int .i64 (D.say n keep).2) ∧ OSt W loc (ds.set i (dkOb g (D.say n keep).1)) w' ∧ Mut (SoW W) w w' := by
  obtain ⟨S, h1, h2, h3, h4⟩ := h.pickM hi
  exact (Cut_any n keep w h1 hk hkl (fun b off m c e hs => h2 b hs (hv b off m c e)) hn1).mono fun e w' ⟨he, hT⟩ => ⟨he, h3 _ (dkOb g _) hT, h4 _ hT.2⟩
theorem rwrite_om (i : Nat) (h : OSt W loc ds w) (hi : ds[i]? = some (rfOb g R)) (z : Int) {b : List UInt8} (hb : b.length = 512) (hc : 0 ≤ R.cut ∧ R.cut ≤ 9223372036854775807) (hkl : R.keep.length ≤ 1000000) (hl : R.L.length ≤ 50000) :
    Calls Try.prog 39 #[.pointer (some ⟨g, 0, none⟩), .int .i64 z, .agg (bvs b).toArray] w fun e w' => e = .returned (.int .i64 (R.write z b).2) ∧ OSt W loc (ds.set i (rfOb g (R.write z b).1)) w' ∧ Mut (SoW W) w w' := by
  obtain ⟨S, h1, _, h3, h4⟩ := h.pickM hi
  exact (rWrite_any z w h1 hb hc hkl hl).mono fun e w' ⟨he, hT⟩ => ⟨he, h3 _ (rfOb g _) hT, h4 _ hT.2⟩
theorem rfail_om (i : Nat) (h : OSt W loc ds w) (hi : ds[i]? = some (rfOb g R)) {vk : Value} (keep : List Bool) (hk : RBo w vk keep) (hkl : keep.length ≤ 1000000) (hl : R.L.length ≤ 50000) :
    Calls Try.prog 43 #[.pointer (some ⟨g, 0, none⟩), vk] w fun e w' => e = .returned (.int .i64 (R.Fail keep).2) ∧ OSt W loc (ds.set i (rfOb g (R.Fail keep).1)) w' ∧ Mut (SoW W) w w' := by
  obtain ⟨S, h1, _, h3, h4⟩ := h.pickM hi
  exact (rFail_any keep w h1 hk hkl (by omega)).mono fun e w' ⟨he, hT⟩ => ⟨he, h3 _ (rfOb g _) hT, h4 _ hT.2⟩
theorem rcut_om (i : Nat) (h : OSt W loc ds w) (hi : ds[i]? = some (rfOb g R)) (n : Int) {vk : Value} (keep : List Bool) (hk : RBo w vk keep) (hkl : keep.length ≤ 1000000) (hn1 : n ≤ 9223372036854775807) (hv : ∀ b off m c, vk = .slice (some ⟨b, off, none⟩) m c → keep ≠ [] → b < W.heap.size ∨ ∃ o, (b, o) ∈ loc) :
    Calls Try.prog 42 #[.pointer (some ⟨g, 0, none⟩), .int .i64 n, vk] w fun e w' => e = .returned (.int .i64 (R.say n keep).2) ∧ OSt W loc (ds.set i (rfOb g (R.say n keep).1)) w' ∧ Mut (SoW W) w w' := by
  obtain ⟨S, h1, h2, h3, h4⟩ := h.pickM hi
  exact (SayCut_any n keep w h1 hk hkl (fun b off m c e h0 hs => h2 b hs (hv b off m c e h0)) hn1).mono fun e w' ⟨he, hT⟩ => ⟨he, h3 _ (rfOb g _) hT, h4 _ hT.2⟩
/-- A read, told by its block and error. -/
theorem read_oe (i : Nat) (h : OSt W loc ds w) (hi : ds[i]? = some (dkOb g D)) (z : Int) (b : List UInt8) (e : Int) (he : D.read z = (b, e)) (hwl : D.wt.length ≤ 1000000) :
    Calls Try.prog 31 #[.pointer (some ⟨g, 0, none⟩), .int .i64 z] w fun r w' => r = .returned (.tuple #[.agg (bvs b).toArray, .int .i64 e]) ∧ OSt W loc ds w' ∧ Ext w w' := by
  have h1 : (D.read z).1 = b := by rw [he]
  have h2 : (D.read z).2 = e := by rw [he]
  rw [← h1, ← h2]
  exact read_o i h hi z hwl
theorem rread_oe (i : Nat) (h : OSt W loc ds w) (hi : ds[i]? = some (rfOb g R)) (z : Int) (b : List UInt8) (e : Int) (he : R.read z = (b, e)) (hl : R.L.length ≤ 1000000) :
    Calls Try.prog 40 #[.pointer (some ⟨g, 0, none⟩), .int .i64 z] w fun r w' => r = .returned (.tuple #[.agg (bvs b).toArray, .int .i64 e]) ∧ OSt W loc ds w' ∧ Ext w w' := by
  have h1 : (R.read z).1 = b := by rw [he]
  have h2 : (R.read z).2 = e := by rw [he]
  rw [← h1, ← h2]
  exact rread_o i h hi z hl
end

/-! The row that is handed in: a copy of a step's. -/
def KeepL (loc : List (Nat × Obj)) (v : Value) (kp : List Bool) : Prop := (v = .slice none 0 0 ∧ kp = [] ∧ loc = []) ∨ ∃ g c junk, v = .slice (some ⟨g, 0, none⟩) kp.length c ∧ kp.length ≤ c ∧ loc = [(g, .cells (bcs kp ++ junk).toArray 4 (0, 0))]
theorem KeepL.form {loc : List (Nat × Obj)} {v : Value} {kp : List Bool} (h : KeepL loc v kp) : ∃ A c, v = .slice A kp.length c := by
  rcases h with ⟨rfl, rfl, _⟩ | ⟨g, c, junk, rfl, _⟩
  · exact ⟨none, 0, rfl⟩
  · exact ⟨_, c, rfl⟩
section
variable {W w : World} {loc : List (Nat × Obj)} {ds : List Ob}
theorem keepL_new {w' : World} {v : Value} {kp : List Bool} (h : OSt W [] ds w) (k : Ext w w') (ho : OwnR w' w.heap.size 4 1 One v kp.length (bcs kp)) : ∃ loc, KeepL loc v kp ∧ OSt W loc ds w' := by
  obtain ⟨h0, ⟨rfl, h1⟩ | ⟨g, c, junk, rfl, hB, hg, hc⟩⟩ := ho
  · have : kp = [] := List.length_eq_zero_iff.1 h1
    exact ⟨[], .inl ⟨rfl, this, rfl⟩, h.ext k⟩
  · have hc0 := hc.1
    have hl : (bcs kp).length = kp.length := by simp [bcs]
    exact ⟨_, .inr ⟨g, c, junk, rfl, by omega, rfl⟩, h.adopt k hB hg⟩
theorem KeepL.rbo {v : Value} {kp : List Bool} (h : KeepL loc v kp) (k : OSt W loc ds w) : RBo w v kp := by
  rcases h with ⟨rfl, rfl, _⟩ | ⟨g, c, junk, rfl, hc, rfl⟩
  · exact .inl ⟨none, 0, rfl, rfl⟩
  · have hg := k.get 0 rfl
    simp only at hg
    refine .inr ⟨g, 0, c, rfl, (Array.getElem?_eq_some_iff.1 hg).1, hc, fun j hj => ?_⟩
    rw [cell_of_row _ _ _ _ _ _ hg]
    simp only [List.getElem?_toArray, Nat.zero_add]
    rw [List.getElem?_append_left (by simp [bcs]; exact hj)]
    simp [bcs, hj]
theorem KeepL.hv {v : Value} {kp : List Bool} (h : KeepL loc v kp) : ∀ b off m c, v = .slice (some ⟨b, off, none⟩) m c → b < W.heap.size ∨ ∃ o, (b, o) ∈ loc := by
  rcases h with ⟨rfl, rfl, _⟩ | ⟨g, c, junk, rfl, hc, rfl⟩
  · rintro b off m c e; cases e
  · rintro b off m c' e
    cases e
    exact .inr ⟨_, List.mem_singleton.2 rfl⟩
theorem KeepL.drop {v : Value} {kp : List Bool} (h : KeepL loc v kp) (k : OSt W loc ds w) : OSt W [] ds w := by
  rcases h with ⟨rfl, rfl, rfl⟩ | ⟨g, c, junk, rfl, hc, rfl⟩
  · exact k
  · exact k.drop
theorem KeepL.set {A : Option Addr} {n c : Nat} {kp : List Bool} (h : KeepL loc (.slice A n c) kp) (k : OSt W loc ds w) {j : Nat} (hj : j < kp.length) :
    ∃ b, A = some ⟨b, 0, none⟩ ∧ n ≤ c ∧ w.cell? ⟨b, j, none⟩ = some (.bool kp[j]) ∧ w.frozen? ⟨b, j, none⟩ = false ∧ b < w.heap.size ∧ ∀ x, ∃ loc', KeepL loc' (.slice A n c) (kp.set j x) ∧ OSt W loc' ds (w.setCell ⟨b, j, none⟩ (.bool x)) := by
  rcases h with ⟨hv, rfl, rfl⟩ | ⟨g, c', junk, hv, hc, rfl⟩
  · simp at hj
  · simp only [Value.slice.injEq] at hv
    obtain ⟨rfl, rfl, rfl⟩ := hv
    have hg := k.get 0 rfl
    simp only at hg
    have hl : (bcs kp).length = kp.length := by simp [bcs]
    refine ⟨g, rfl, hc, ?_, by simp [World.frozen?, hg], (Array.getElem?_eq_some_iff.1 hg).1, fun x => ?_⟩
    · rw [cell_of_row _ _ _ _ _ _ hg]
      simp only [List.getElem?_toArray]
      rw [List.getElem?_append_left (by omega)]
      simp [bcs, hj]
    · have h1 := k.row 0 rfl ((bcs kp ++ junk).toArray.setIfInBounds j (.bool x))
      rw [setCell_eq_setRow w g j _ _ (0, 0) _ hg]
      have e : (bcs kp ++ junk).toArray.setIfInBounds j (.bool x) = (bcs (kp.set j x) ++ junk).toArray := by
        simp only [List.setIfInBounds_toArray]
        rw [List.set_append_left _ _ (by omega)]
        congr 2
        simp [bcs, List.map_set]
      refine ⟨_, .inr ⟨g, c, junk, by rw [List.length_set], by rw [List.length_set]; exact hc, by rw [← e]; rfl⟩, h1⟩
end

/-! A disk and the document's tell the same. -/
section
variable {W w : World} {loc : List (Nat × Obj)} {gd gx : Nat} {D : DK} {R : RF}
set_option maxHeartbeats 8000000 in
theorem same_o (h : OSt W loc [dkOb gd D, rfOb gx R] w) (ht : Tie D R) {m : Nat} (hm : R.Lim m) (hm1 : m ≤ 1000) {A : Option Addr} {c : Nat} (l : List StD) (hr : RR W 4 (.slice A l.length c) l.length (l.flatMap sdC)) (hll : l.length ≤ 100) :
    Calls Try.prog 45 #[.pointer (some ⟨gd, 0, none⟩), .pointer (some ⟨gx, 0, none⟩), .slice A l.length c] w fun e w' => e = .returned (.bool true) ∧ OSt W loc [dkOb gd D, rfOb gx R] w' ∧ Ext w w' := by
  have hwl := ht.wtlen hm
  have hRl := hm.len
  have hok := h.dok (i := 0) rfl
  obtain ⟨c0, c4, glt⟩ := rcells_o 1 h rfl
  rw [ht.n] at c0
  rw [ht.dead] at c4
  obtain ⟨S0, h0, -⟩ := h.pick (i := 0) rfl
  obtain ⟨S1, h1, -⟩ := h.pick (i := 1) rfl
  have KB := Lib.hid fun w' (k : Ext w w') => blocks_any w' (DkAt.ext h0 k)
  have KD := Lib.hid fun w' (k : Ext w w') => dead_any w' (DkAt.ext h0 k)
  have KW := Lib.hid fun w' (k : Ext w w') => waiting_any w' (DkAt.ext h0 k)
  have KR := Lib.hid fun w' (k : Ext w w') => rwaiting_any w' (RfAt.ext h1 k) (by omega)
  rw [ht.waiting] at KR
  have H0 := Lib.hid h
  have HRR := Lib.hid hr
  have HRD : Hid (∀ z, R.read z = D.read z) := Lib.hid fun z => ht.read z
  have HOK := Lib.hid hok
  have e0 : ∀ ψ (e : ExtP w.heap.size w ψ), e.val.cell? ⟨gx, 0, none⟩ = some (.int .i64 D.n) := fun ψ e => e.cell c0 glt
  have e1 : ∀ ψ (e : ExtP w.heap.size w ψ), e.val.cell? ⟨gx, 4, none⟩ = some (.bool D.dead) := fun ψ e => e.cell c4 glt
  clear h h0 h1 hr c0 c4 ht hm hok S0 S1
  go_enter Try.func45, Try.ntmps45
  go_wp2_with fail
  refine wp_region_pieces 23  [(true, [0, 1, 2, 3, 4, 5, 6, 7, 8, 9, 10, 11, 12, 13, 14, 15, 16, 17, 18, 19, 20, 21, 22])] (by kernel_rfl) (by kernel_rfl) ?_; simp only [pick, List.map_cons, List.map_nil, List.flatMap_cons, List.flatMap_nil, Option.toList_some, List.singleton_append, List.drop_succ_cons, List.drop_zero, List.getElem?_cons_zero, List.getElem?_cons_succ]
  refine ⟨by kernel_rfl, ?_⟩; apply Exists.intro; refine ⟨fun ψ hψ hne => ?_, ?_⟩
  · have kB : ∀ e : ExtP w.heap.size w ψ, _ := fun e => extP_of hψ (Nat.le_refl _) (KB.out e.val e.ok)
    have kD : ∀ e : ExtP w.heap.size w ψ, _ := fun e => extP_of hψ (Nat.le_refl _) (KD.out e.val e.ok)
    have kW : ∀ e : ExtP w.heap.size w ψ, _ := fun e => extP_of hψ (Nat.le_refl _) (KW.out e.val e.ok)
    have kR : ∀ e : ExtP w.heap.size w ψ, _ := fun e => extP_of hψ (Nat.le_refl _) (KR.out e.val e.ok)
    repeat (go_big_quiet_step ((first | (go_at_call 36; exact kB _) | (go_at_call 29; exact kD _) | (go_at_call 32; exact kW _) | (go_at_call 77; exact kR _))))
    exact wpQuiet_nil rfl
  intro w1 hx1
  have H1 := Lib.hid (H0.out.ext hx1)
  have X1 := Lib.hid hx1
  clear hx1 e0 e1 KB KD KW KR H0
  go_wp2_with fail
  go_loopw [7] (fun i wr => ∃ j : Nat, j ≤ l.length ∧ i = .int .i64 j ∧ Hid (OSt W loc [dkOb gd D, rfOb gx R] wr) ∧ Hid (Ext w wr)) (fun i _ => l.length - (intOf i).toNat)
  case atStart => exact ⟨0, by omega, rfl, H1, X1⟩
  case round =>
    clear H1 X1
    obtain ⟨j, hj, rfl, H, HX⟩ := hrel
    by_cases hjl : j < l.length
    · obtain ⟨b, off, rfl, hb, hc, -⟩ := (HRR.out.ext H.out.bel).at (by omega)
      obtain ⟨x, hx⟩ : ∃ x, l[j]? = some x := ⟨_, List.getElem?_eq_getElem hjl⟩
      have HXX := Lib.hid hx
      obtain ⟨-, x1, -, -⟩ := RR.std (HRR.out.ext H.out.bel) hx
      have lB := (HOK.out.read x.n).1
      have hrd := HRD.out x.n
      obtain ⟨Q, hQ⟩ : ∃ Q, Q = D.read x.n := ⟨_, rfl⟩
      rw [← hQ] at lB hrd
      obtain ⟨B, E⟩ := Q
      simp only at lB
      have HD := Lib.hid hQ.symm
      have HR := Lib.hid hrd
      clear hx hQ hrd
      go_wp2_with fail
      refine (read_oe 0 H.out rfl x.n B E HD.out (by omega)).mono ?_
      rintro e w2 ⟨rfl, h2, k2⟩
      have ST := Lib.hid (st_blkn B lB w2)
      have X2 := Lib.hid (Ext.trans HX.out (Ext.trans k2 (extAl w2 (.cells (bvs B).toArray 25))))
      have H2 := Lib.hid (h2.ext (extAl w2 (.cells (bvs B).toArray 25)))
      have B1 := Lib.hid (heap_alloc_last w2 (.cells (bvs B).toArray 25))
      clear h2 k2 x1 HX H
      go_upto_region 7 with (first | (refine wpList_al rfl 25 rfl alloc_blk ?_; simp only [Act.put]) | (refine wpList_st rfl 25 _ _ rfl ST.out ?_; simp only [Act.put]))
      try simp only [List.setIfInBounds_toArray, List.set_cons_zero, List.set_cons_succ]
      generalize w2.alloc (.cells (bvs B).toArray 25) = V1 at *
      generalize w2.heap.size = g8 at *
      clear ST
      obtain ⟨-, x1, -, -⟩ := RR.std (HRR.out.ext H2.out.bel) HXX.out
      have hbV : b < V1.heap.size := by
        obtain ⟨b', off', hA, hb', -⟩ := (HRR.out.ext H2.out.bel).at (by omega)
        cases hA
        exact hb'
      go_wp2_with fail
      refine (rread_oe 1 H2.out rfl x.n B E HR.out (by omega)).mono ?_
      rintro e w3 ⟨rfl, h3, k3⟩
      have ST := Lib.hid (st_blkn B lB w3)
      have B2 := Ext.blk (Ext.trans k3 (extAl w3 (.cells (bvs B).toArray 25))) B1.out
      have L1 := Lib.hid (ld_blk B2 lB)
      have L2 := Lib.hid (ld_blk (heap_alloc_last w3 (.cells (bvs B).toArray 25)) lB)
      have X3 := Lib.hid (Ext.trans X2.out (Ext.trans k3 (extAl w3 (.cells (bvs B).toArray 25))))
      have H3 := Lib.hid (h3.ext (extAl w3 (.cells (bvs B).toArray 25)))
      clear h3 k3 x1 H2 X2 B1 B2
      go_upto_region 8 with (first | (refine wpList_al rfl 25 rfl alloc_blk ?_; simp only [Act.put]) | (refine wpList_st rfl 25 _ _ rfl ST.out ?_; simp only [Act.put]))
      try simp only [List.setIfInBounds_toArray, List.set_cons_zero, List.set_cons_succ]
      generalize w3.alloc (.cells (bvs B).toArray 25) = V2 at *
      generalize w3.heap.size = g10 at *
      have q : eqB B B = true := by simp [eqB]
      clear ST
      go_wp2_with (first | (refine wpList_ld rfl 25 (.tmp 8) rfl L1.out ?_; simp only [Act.put]) | (refine wpList_ld rfl 25 (.tmp 10) rfl L2.out ?_; simp only [Act.put]))
      go_roundw
      case rel => exact ⟨j + 1, by omega, by first | rfl | (simp; done) | go_num, H3, X3⟩
      case measure => first | (simp [intOf]; done) | (simp [intOf]; omega)
    · obtain rfl : j = l.length := by omega
      go_wp2_with fail
      go_ret
      exact ⟨rfl, H.out, HX.out⟩
end
end Go.Proofs.Ytobcfocbglkicaa
