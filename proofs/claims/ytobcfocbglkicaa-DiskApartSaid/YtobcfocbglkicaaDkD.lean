/- Walks of disk: slices.Clone of truth values, count, Fail, Cut, Flush. -/
import Derived.Test.YtobcfocbglkicaaDkC
set_option linter.unusedVariables false
set_option maxRecDepth 100000
namespace Go.Proofs.Ytobcfocbglkicaa
open Go.RowKit

theorem alloc_row0 (w : World) (T : TypeId) (B sz : Nat) (C : Value → Prop) (hB : B ≤ w.heap.size) : OwnR (w.alloc (.cells #[] T)) B T sz C (.slice (some ⟨w.heap.size, 0, none⟩) 0 0) 0 [] :=
  ⟨by simp, .inr ⟨w.heap.size, 0, [], rfl, hB, heap_alloc_last _ _, by simp, by simp⟩⟩
theorem RBo.src {w : World} {v : Value} {l : List Bool} {tx e' : TypeId} (h : RBo w v l) (hk : Try.prog.underlying tx = some (.slice e')) : Src Try.prog 1 tx v l.length (bcs l) w := by
  rcases h with ⟨A, c, rfl, rfl⟩ | ⟨b, off, c, rfl, hb, hc, hj⟩
  · cases A with
    | none => exact Src.ofNil w hk c
    | some a => exact Src.ofSlice w hk a 0 c [] rfl (fun j u h => by simp at h) (fun u h => by simp at h)
  · refine Src.ofSlice w hk ⟨b, off, none⟩ _ c (bcs l) (by simp [bcs]) (fun j u hu => ?_) (bcs_one l)
    rw [Addr.add_lit]
    have hjl : j < l.length := by have := (List.getElem?_eq_some_iff.1 hu).1; simpa [bcs] using this
    rw [hj j hjl, ← hu]
    simp [bcs, hjl]
theorem info_prt {P : Program} {t : TypeId} {z : Value} {n m : Nat} (h : (P.info? t).map (fun i => (i.zero, i.size, i.bytes)) = some (some z, n, m)) : ∃ i, P.info? t = some i ∧ i.zero = some z ∧ i.size = n ∧ i.bytes = m := by
  cases hi : P.info? t with
  | none => rw [hi] at h; simp at h
  | some i =>
    rw [hi] at h
    simp only [Option.map_some, Option.some.injEq, Prod.mk.injEq] at h
    exact ⟨i, rfl, h.1, h.2.1, h.2.2⟩
theorem app_bool {w : World} {B n : Nat} {v x : Value} {cs : List Value} {m : Nat} {new : List Value} {tx ty : TypeId} (ho : OwnR w B 4 1 One v n cs) (hs : Src Try.prog 1 tx x m new w) (hB : B ≤ w.heap.size) (hn : ∀ u ∈ new, One u) (hc : n + m ≤ 100000000) :
    ∃ v' w', (Builtin.append_ #[39, tx] ty #[v, x]).run Try.prog w = .ok v' w' ∧ OwnR w' B 4 1 One v' (n + m) (cs ++ new) ∧ Below B w w' := by
  have h : (Try.prog.info? 4).map (fun i => (i.zero, i.size, i.bytes)) = some (some (.bool false), 1, 1) := by kernel_rfl
  obtain ⟨i, hi, hz0, hz1, hz2⟩ := info_prt h
  obtain ⟨v', w', h1, h2, h3, _⟩ := appG (ty := ty) Try.underlying39 hi hz1 hz0 rfl ho hs hB (by omega) hn (by intro u hu; simp [Value.cells] at hu; subst hu; rfl) (by rw [hz2]; omega) (by omega)
  exact ⟨v', w', h1, h2, h3⟩
theorem app_wr {w : World} {B n : Nat} {v x : Value} {cs : List Value} {m : Nat} {new : List Value} {tx ty : TypeId} (ho : OwnR w B 107 513 One v n cs) (hs : Src Try.prog 513 tx x m new w) (hB : B ≤ w.heap.size) (hn : ∀ u ∈ new, One u) (hc : n + m ≤ 100000000) :
    ∃ v' w', (Builtin.append_ #[101, tx] ty #[v, x]).run Try.prog w = .ok v' w' ∧ OwnR w' B 107 513 One v' (n + m) (cs ++ new) ∧ Below B w w' ∧ w.grownBy w' v.ownBlock ∧ (∀ b, v'.ownBlock = some b → v.ownBlock = some b ∨ w.heap.size ≤ b) := by
  have h : (Try.prog.info? 107).map (fun i => (i.zero, i.size, i.bytes)) = some (some (.agg (wcell zW).toArray), 513, 520) := by kernel_rfl
  have h1 : (wcell zW).length = 513 := wcell_length zB_length
  have h2 := wcell_one zW
  generalize wcell zW = Z at *
  obtain ⟨i, hi, hz0, hz1, hz2⟩ := info_prt h
  refine appG2 (ty := ty) Try.underlying101 hi hz1 hz0 ?_ ho hs hB (by omega) hn (fun u hu => ?_) (by rw [hz2]; omega) (by omega)
  · show Z.toArray.size = 513
    simpa using h1
  · have hu' : u ∈ Z.toArray := hu
    exact h2 u (by simpa using hu')

theorem run_equalIn_slice_nil {P : Program} (w : World) (d : Nat) (t e : TypeId) (A : Option Addr) (n c : Nat) (h : P.underlying t = some (.slice e)) :
    (Op.equalIn (d + 1) t (.slice A n c) (.slice none 0 0)).run P w = .ok A.isNone w := by
  cases A <;> simp [Op.equalIn, run_underlying h]
theorem run_eql_slice_nil {P : Program} (w : World) (t e : TypeId) (A : Option Addr) (n c : Nat) (h : P.underlying t = some (.slice e)) :
    (binOp .eql t (.slice A n c) (.slice none 0 0)).run P w = .ok (.bool A.isNone) w := by
  simp only [binOp]
  simp [show Op.equal t (.slice A n c) (.slice none 0 0) = Op.equalIn (9999 + 1) t (.slice A n c) (.slice none 0 0) from rfl, run_equalIn_slice_nil w 9999 t e A n c h]
set_option maxHeartbeats 1000000 in
theorem clone_bools {v : Value} (l : List Bool) (w : World) (h : RBo w v l) (hl : l.length ≤ 1000000) :
    Calls Try.prog 67 #[v] w fun e w' => ∃ v', e = .returned v' ∧ OwnR w' w.heap.size 4 1 One v' l.length (bcs l) ∧ Below w.heap.size w w' := by
  have hf := h.form
  obtain ⟨A, c, rfl⟩ := hf
  have hq := fun w => run_eql_slice_nil (P := Try.prog) w 39 _ A l.length c Try.underlying39
  have ho := alloc_row0 w 4 w.heap.size 1 One (Nat.le_refl _)
  have hs := (h.ext (extAl w (.cells #[] 4))).src (tx := 39) Try.underlying39
  obtain ⟨v', w1, hr, ho1, hb⟩ := app_bool (tx := 39) (ty := 39) ho hs (by simp) (bcs_one l) (by omega)
  have hb' : Below w.heap.size w w1 := Below.trans (extAl w _) hb
  simp only [Nat.zero_add, List.nil_append] at ho1
  cases A with
  | none =>
    have h0 : l = [] := by
      rcases h with ⟨A, c, hv, h0⟩ | ⟨b, off, c, hv, _⟩
      · exact h0
      · simp at hv
    subst h0
    simp only [Option.isNone_none, List.length_nil] at hq
    go_enter Try.func67, Try.ntmps67
    go_wp2
    go_ret
    exact ⟨_, rfl, OwnR.nil, by (repeat' (first | (with_reducible assumption) | (with_reducible exact Below.refl _ _) | (with_reducible refine below_sc ?_ ?_) | ((with_reducible show (_ : Nat) ≤ _); omega) | refine Below.setCell ?_ (by first | omega | (simp; done) | (simp; omega)) _ | refine Below.alloc ?_ (by first | omega | (simp; done) | (simp; omega)) _ | refine Below.drew ?_ | refine below_drewN ?_ _ | refine Below.trans ?_ (Below.mono (by assumption) (by first | omega | (simp; done) | (simp; omega)))))⟩
  | some a =>
    have Hr := Lib.hid hr
    simp only [Option.isNone_some] at hq
    clear hr hs ho
    go_enter Try.func67, Try.ntmps67
    go_wp2_with (refine wpList_app rfl (.tmp 5) (.tmp 6) 39 39 rfl Hr.out ?_; simp only [Act.put])
    go_ret
    exact ⟨_, rfl, ho1, hb'⟩

theorem DkAt.rb {w : World} {S : Nat → Prop} {g mo mn : Nat} {sv kv : Value} {D : DK} (h : DkP w S g mo mn sv kv D) : RBo w kv D.keep := h.kp.rb
theorem dkTo_set {w : World} {S : Nat → Prop} {g mo mn : Nat} {sv kv : Value} {D' : DK} {row : Array Value} (h : DkP (w.setRow g row) S g mo mn sv kv D') (hs : S g) : DkTo S w (w.setRow g row) g D' :=
  ⟨⟨_, _, _, _, h.mono fun i hi => .inl hi⟩, mut_setRow hs _⟩
set_option maxHeartbeats 2000000 in
theorem count_any {S : Nat → Prop} {g : Nat} {D : DK} (w : World) (h : DkAt w S g D) (hkl : D.keep.length ≤ 1000000) (hwl : D.wt.length ≤ 1000000) :
    Calls Try.prog 68 #[.pointer (some ⟨g, 0, none⟩)] w fun e w' => e = .returned (.int .i64 D.count.2) ∧ DkTo S w w' g D.count.1 := by
  have h0 := h
  obtain ⟨mo, mn, sv, kv, h⟩ := h
  obtain ⟨c0, c1, c2, c3, c4, c5, c6, fz, hlt⟩ := blk7 h.hg
  obtain ⟨n, on, wt, cut, kp, dead⟩ := D
  simp only at c0 c1 c2 c3 c4 c5 c6
  have b0 := h.ok.c0
  have b1 := h.ok.c1
  simp only at b0 b1
  by_cases hc : cut = 0
  · subst hc
    rw [show DK.count ⟨n, on, wt, 0, kp, dead⟩ = (⟨n, on, wt, 0, kp, dead⟩, 0) from rfl]
    have F := Lib.hid (DkTo.refl h0)
    clear h h0
    go_enter Try.func68, Try.ntmps68
    go_wp2
    go_ret
    exact ⟨rfl, F.out⟩
  · have hok : DK.Ok ⟨n, on, wt, cut - 1, kp, dead⟩ := ⟨h.ok.n0, h.ok.n1, by simp only; omega, by simp only; omega, h.ok.on, h.ok.wt⟩
    have h1 := h.cells (D' := ⟨n, on, wt, cut - 1, kp, dead⟩) sv kv rfl rfl (fun _ => rfl) hok h.wt h.kp h.sw h.sk
    have hT := dkTo_set h1 h.sg
    have hs := set7_4 (.int .i64 (cut - 1)) h.hg
    simp only at h1 hT hs
    rw [← hs] at h1 hT
    clear hs
    by_cases h2 : 0 < cut - 1
    · rw [show DK.count ⟨n, on, wt, cut, kp, dead⟩ = (⟨n, on, wt, cut - 1, kp, dead⟩, 0) by simp only [DK.count]; rw [if_neg hc, if_pos h2]]
      have F := Lib.hid hT
      clear h h0 h1 hT hok
      go_enter Try.func68, Try.ntmps68
      go_wp2
      go_ret
      exact ⟨rfl, F.out⟩
    · rw [show DK.count ⟨n, on, wt, cut, kp, dead⟩ = (DK.fail ⟨n, on, wt, cut, kp, dead⟩ kp, 51) by simp only [DK.count]; rw [if_neg hc, if_neg h2]]
      have F := Lib.hid hT
      have R := Lib.hid h1.kp.rb
      obtain ⟨kA, kc, rfl⟩ := h.kp.form
      clear h h0 h1 hT hok
      go_enter Try.func68, Try.ntmps68
      go_wp2_with (go_at_call 71; refine (fail_any kp _ F.out.1 R.out hkl hwl).mono ?_; rintro e w1 ⟨rfl, hd1⟩)
      go_ret
      exact ⟨rfl, F.out.trans hd1⟩
end Go.Proofs.Ytobcfocbglkicaa
