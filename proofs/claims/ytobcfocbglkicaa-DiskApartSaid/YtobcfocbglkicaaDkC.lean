/- Walks of disk: forget, fail. -/
import Derived.Test.YtobcfocbglkicaaDkB
import Derived.Deep.DeepCutAuto
set_option linter.unusedVariables false
set_option maxRecDepth 100000
namespace Go.Proofs.Ytobcfocbglkicaa
open Go.RowKit

theorem loadAt_cs {P : Program} {w : World} {g off : Nat} {ty : TypeId} {fs : Array Field} {cs : List Value} (hu : P.underlying ty = some (.struct fs)) (hi : (P.info? ty).map (·.size) = some cs.length) (hc : ∀ j (h : j < cs.length), w.cell? ⟨g, off + j, none⟩ = some cs[j]) :
    (Instr.loadAt ty (.pointer (some ⟨g, off, none⟩))).run P w = .ok (.agg cs.toArray) w := by
  have hl : (loadCells ⟨g, off, none⟩ cs.length).run P w = .ok cs.toArray w :=
    run_loadCells_list (P := P) w ⟨g, off, none⟩ cs (fun j v hv => by
      rw [Addr.add_lit]
      have hj : j < cs.length := (List.getElem?_eq_some_iff.1 hv).1
      rw [hc j hj, ← hv]
      simp [hj])
  obtain ⟨i, hi', hs⟩ : ∃ i, P.info? ty = some i ∧ i.size = cs.length := by
    cases h : P.info? ty with
    | none => rw [h] at hi; simp at hi
    | some i => rw [h] at hi; exact ⟨i, rfl, by simpa using hi⟩
  simp only [Instr.loadAt, Instr.sureAddr, Sem.run_bind, Sem.run_pure, Result.andThen]
  simp [loadVar, isAgg, run_underlying hu, sizeOf, typeInfo, hi', hs, hl]
theorem loadAt_bk {w : World} {g off : Nat} {l : List UInt8} (h5 : l.length = 512) (hc : ∀ j (h : j < l.length), w.cell? ⟨g, off + j, none⟩ = some (bv l[j])) :
    (Instr.loadAt 25 (.pointer (some ⟨g, off, none⟩))).run Try.prog w = .ok (.agg (bvs l).toArray) w := by
  have hl : (loadCells ⟨g, off, none⟩ (bvs l).length).run Try.prog w = .ok (bvs l).toArray w :=
    run_loadCells_list (P := Try.prog) w ⟨g, off, none⟩ (bvs l) (fun j v hv => by
      rw [Addr.add_lit]
      have hj : j < l.length := by have := (List.getElem?_eq_some_iff.1 hv).1; simpa [bvs] using this
      rw [hc j hj, ← hv]
      simp [bvs, hj])
  have e5 : (bvs l).length = 512 := by rw [bvs_length, h5]
  rw [e5] at hl
  have h0 := info_blk
  obtain ⟨i, hi⟩ : ∃ i, Try.prog.info? 25 = some i := by
    cases h : Try.prog.info? 25 with
    | none => rw [h] at h0; simp at h0
    | some i => exact ⟨i, rfl⟩
  have hs : i.size = 512 := by rw [hi] at h0; simpa using h0
  simp only [Instr.loadAt, Instr.sureAddr, Sem.run_bind, Sem.run_pure, Result.andThen]
  simp [loadVar, isAgg, run_underlying Try.underlying25, sizeOf, typeInfo, hi, hs, hl]
theorem info_wr : (Try.prog.info? 107).map (·.size) = some 513 := by kernel_rfl
def zW : Wr := (0, zB)
theorem alloc_wr (w : World) : (Instr.alloc 107 true (.tuple #[])).run Try.prog w = .ok (.pointer (some ⟨w.heap.size, 0, none⟩)) (w.alloc (.cells (wcell zW).toArray 107)) := by kernel_rfl
theorem st_wr {w : World} {g : Nat} {t : TypeId} {p q : Wr} (hg : w.heap[g]? = some (.cells (wcell q).toArray t (0, 0))) (hp : p.2.length = 512) (hq : q.2.length = 512) :
    (Instr.storeAt 107 (.pointer (some ⟨g, 0, none⟩)) (.agg (wcell p).toArray)).run Try.prog w = .ok () (w.setRow g (wcell p).toArray) :=
  storeAt_row hg (by rw [info_wr]; simp [wcell_length hp]) (by simp [wcell_length hp, wcell_length hq]) (by rw [Array.all_eq_true_iff_forall_mem]; intro u hu; exact wcell_one p u (by simpa using hu))
/-- Element i of a row of writes. -/
theorem ld_wr {w : World} {B g c i : Nat} {l : List Wr} {p : Wr} (h : OwnR w B 107 513 One (.slice (some ⟨g, 0, none⟩) l.length c) l.length (wcs l)) (hl : ∀ q ∈ l, q.2.length = 512) (hi : l[i]? = some p) :
    (Instr.loadAt 107 (.pointer (some ⟨g, i * 513, none⟩))).run Try.prog w = .ok (.agg (wcell p).toArray) w := by
  have hil := (List.getElem?_eq_some_iff.1 hi).1
  have hp := wcell_length (hl p (List.mem_of_getElem? hi))
  obtain ⟨g', hA, _, _, _, hc⟩ := h.cells (by omega)
  simp only [Option.some.injEq, Addr.mk.injEq, and_true] at hA
  subst hA
  refine loadAt_cs (fs := _) Try.underlying107 (by rw [info_wr, hp]) fun j hj => ?_
  have hj' : j < 513 := by omega
  have hg := wcs_get l hl hi hj'
  rw [List.getElem?_eq_getElem hj] at hg
  obtain ⟨hlt, hg⟩ := List.getElem?_eq_some_iff.1 hg
  rw [hc _ hlt, hg]
/-- The block of a write that lies alone. -/
theorem ld_wrb {w : World} {g : Nat} {T : TypeId} {fr : Nat × Nat} {p : Wr} (hg : w.heap[g]? = some (.cells (wcell p).toArray T fr)) (hp : p.2.length = 512) :
    (Instr.loadAt 25 (.pointer (some ⟨g, 1, none⟩))).run Try.prog w = .ok (bval p.2) w :=
  loadAt_bk hp fun j hj => by
    rw [cell_of_row _ _ _ _ _ _ hg]
    simp [wcell, Nat.add_comm 1 j, bvs, hj]

theorem set7_2 {w : World} {g : Nat} {T : TypeId} {a b c d e f h : Value} (x : Value) (k : w.heap[g]? = some (.cells #[a, b, c, d, e, f, h] T (0, 0))) : w.setCell ⟨g, 2, none⟩ x = w.setRow g #[a, b, x, d, e, f, h] := by
  rw [setCell_eq_setRow w g 2 _ T (0, 0) _ k]; rfl
theorem set7_4 {w : World} {g : Nat} {T : TypeId} {a b c d e f h : Value} (x : Value) (k : w.heap[g]? = some (.cells #[a, b, c, d, e, f, h] T (0, 0))) : w.setCell ⟨g, 4, none⟩ x = w.setRow g #[a, b, c, d, x, f, h] := by
  rw [setCell_eq_setRow w g 4 _ T (0, 0) _ k]; rfl
theorem set7_5 {w : World} {g : Nat} {T : TypeId} {a b c d e f h : Value} (x : Value) (k : w.heap[g]? = some (.cells #[a, b, c, d, e, f, h] T (0, 0))) : w.setCell ⟨g, 5, none⟩ x = w.setRow g #[a, b, c, d, e, x, h] := by
  rw [setCell_eq_setRow w g 5 _ T (0, 0) _ k]; rfl
theorem set7_456 {w : World} {g : Nat} {T : TypeId} {a b c d e f h : Value} (x y z : Value) (k : w.heap[g]? = some (.cells #[a, b, c, d, e, f, h] T (0, 0))) : ((w.setCell ⟨g, 4, none⟩ x).setCell ⟨g, 5, none⟩ y).setCell ⟨g, 6, none⟩ z = w.setRow g #[a, b, c, d, x, y, z] := by
  rw [set7_4 x k]
  have h1 := setRow_heap w g _ #[a, b, c, d, x, f, h] T (0, 0) k
  rw [set7_5 y h1, setRow_setRow]
  have h2 := setRow_heap w g _ #[a, b, c, d, x, y, h] T (0, 0) k
  rw [setCell_eq_setRow _ g 6 _ T (0, 0) _ h2, setRow_setRow]
  rfl
theorem set7_45 {w : World} {g : Nat} {T : TypeId} {a b c d e f h : Value} (x y : Value) (k : w.heap[g]? = some (.cells #[a, b, c, d, e, f, h] T (0, 0))) : (w.setCell ⟨g, 4, none⟩ x).setCell ⟨g, 5, none⟩ y = w.setRow g #[a, b, c, d, x, y, h] := by
  rw [set7_4 x k]
  have h1 := setRow_heap w g _ #[a, b, c, d, x, f, h] T (0, 0) k
  rw [set7_5 y h1, setRow_setRow]

set_option maxHeartbeats 1000000 in
/-- Nothing waits any more: its row, and the map of the newest ones. -/
theorem forget_any {S : Nat → Prop} {g mo mn : Nat} {sv kv : Value} {D : DK} (w : World) (h : DkP w S g mo mn sv kv D) :
    Calls Try.prog 69 #[.pointer (some ⟨g, 0, none⟩)] w fun e w' => e = .returned (.tuple #[]) ∧ DkP w' S g mo mn (.slice none 0 0) kv { D with wt := [] } ∧ Mut (fun i => i = g ∨ i = mn) w w' := by
  obtain ⟨c0, c1, c2, c3, c4, c5, c6, fz, hlt⟩ := blk7 h.hg
  have hs := set7_2 (.slice none 0 0) h.hg
  have hg1 := setRow_heap w g _ #[.int .i64 D.n, .map (some mo), .slice none 0 0, .map (some mn), .int .i64 D.cut, kv, .bool D.dead] _ _ h.hg
  have hnew := h.nw.set (row' := #[.int .i64 D.n, .map (some mo), .slice none 0 0, .map (some mn), .int .i64 D.cut, kv, .bool D.dead]) h.hg
  have hon := h.on.set (row' := #[.int .i64 D.n, .map (some mo), .slice none 0 0, .map (some mn), .int .i64 D.cut, kv, .bool D.dead]) h.hg
  have hkp := h.kp.set (row' := #[.int .i64 D.n, .map (some mo), .slice none 0 0, .map (some mn), .int .i64 D.cut, kv, .bool D.dead]) h.hg (by decide)
  have hgm : g ≠ mn := by
    rintro rfl
    obtain ⟨es, cl, hb, _⟩ := h.nw
    rw [h.hg] at hb
    cases hb
  have hkm : ∀ b, kv.ownBlock = some b → b ≠ mn := by
    rintro b hb rfl
    obtain ⟨_, ⟨rfl, _⟩ | ⟨g', c, junk, rfl, _, hg', _⟩⟩ := h.kp
    · simp [Value.ownBlock] at hb
    · obtain rfl : g' = b := by simpa [Value.ownBlock] using hb
      obtain ⟨es, cl, hb, _⟩ := h.nw
      rw [hg'] at hb
      cases hb
  have hmut := mut_setRow (S := fun i => i = g ∨ i = mn) (w := w) (g := g) (.inl rfl) #[.int .i64 D.n, .map (some mo), .slice none 0 0, .map (some mn), .int .i64 D.cut, kv, .bool D.dead]
  rw [← hs] at hg1 hnew hon hkp hmut
  obtain ⟨w2, hr, hm, hgr⟩ := hnew.clear (P := Try.prog) (t := 102) Try.underlying102
  have hgl : g < (w.setCell ⟨g, 2, none⟩ (.slice none 0 0)).heap.size := (Array.getElem?_eq_some_iff.1 hg1).1
  have hM : Mut (fun i => i = mn) (w.setCell ⟨g, 2, none⟩ (.slice none 0 0)) w2 := Mut.of_grown hgr fun b hb => by simpa using hb.symm
  have Hr := Lib.hid hr
  have fin : DkP w2 S g mo mn (.slice none 0 0) kv { D with wt := [] } ∧ Mut (fun i => i = g ∨ i = mn) w w2 := by
    refine ⟨{
      hg := (hM.block g hgl hgm).trans hg1
      on := hon.mut hM h.ne
      nw := hm.cong fun a => rfl
      ne := h.ne
      wt := OwnR.nil
      kp := hkp.mutO hM hkm
      sg := h.sg
      so := h.so
      sn := h.sn
      sw := by simp [Value.ownBlock]
      sk := h.sk
      ok := ⟨h.ok.n0, h.ok.n1, h.ok.c0, h.ok.c1, h.ok.on, by simp⟩ }, hmut.trans (hM.mono fun i hi => .inr hi)⟩
  have Fin := Lib.hid fin
  have hns := h.sg
  clear fin hgr hm hM hg1 hnew hon hkp hmut hr hgl h hs
  go_enter Try.func69, Try.ntmps69
  go_wp2_with (refine wpList_clr rfl (.tmp 8) 102 rfl (Hr.out _) ?_; simp only [Act.put])
  go_end0
  exact ⟨rfl, Fin.out⟩

/-- v is a slice of the truth values l, which can be read in w. -/
def RBo (w : World) (v : Value) (l : List Bool) : Prop := (∃ A c, v = .slice A 0 c ∧ l = []) ∨ ∃ b off c, v = .slice (some ⟨b, off, none⟩) l.length c ∧ b < w.heap.size ∧ l.length ≤ c ∧ ∀ j (h : j < l.length), w.cell? ⟨b, off + j, none⟩ = some (.bool l[j])
theorem RBo.form {w : World} {v : Value} {l : List Bool} (h : RBo w v l) : ∃ A c, v = .slice A l.length c := by
  rcases h with ⟨A, c, rfl, rfl⟩ | ⟨b, off, c, rfl, _⟩
  · exact ⟨A, c, rfl⟩
  · exact ⟨_, c, rfl⟩
theorem RBo.mutO {S : Nat → Prop} {w w' : World} {v : Value} {l : List Bool} (h : RBo w v l) (k : Mut S w w') (hn : ∀ b off n c, v = .slice (some ⟨b, off, none⟩) n c → ¬ S b) : RBo w' v l := by
  rcases h with h | ⟨b, off, c, rfl, hb, hc, hj⟩
  · exact .inl h
  · exact .inr ⟨b, off, c, rfl, Nat.lt_of_lt_of_le hb k.size, hc, fun j hjl => (k.cell hb (hn b off _ c rfl)).trans (hj j hjl)⟩
theorem RBo.ext {w w' : World} {v : Value} {l : List Bool} (h : RBo w v l) (k : Ext w w') : RBo w' v l := h.mutO (S := fun _ => False) (Mut.of_ext k) fun _ _ _ _ _ h => h
theorem RBo.mutM {w w' : World} {v : Value} {l : List Bool} {mo : Nat} {F : Int → Option Value} (h : RBo w v l) (hm : MapI w mo F) (k : Mut (fun i => i = mo) w w') : RBo w' v l := by
  cases l with
  | nil =>
    rcases h with ⟨A, c, rfl, _⟩ | ⟨b, off, c, rfl, _⟩
    · exact .inl ⟨A, c, rfl, rfl⟩
    · exact .inl ⟨_, c, rfl, rfl⟩
  | cons x l =>
    refine h.mutO k fun b off n c hv hb => ?_
    rcases h with ⟨A, c', rfl, h0⟩ | ⟨b', off', c', rfl, hb', hc, hj⟩
    · cases h0
    · simp only [Value.slice.injEq, Option.some.injEq, Addr.mk.injEq] at hv
      obtain ⟨⟨rfl, _⟩, _⟩ := hv
      subst hb
      have h0 := hj 0 (by simp)
      obtain ⟨es, cl, hb, _⟩ := hm
      simp [World.cell?, hb] at h0
theorem OwnR.rb {w : World} {B : Nat} {T : TypeId} {v : Value} {l : List Bool} (h : OwnR w B T 1 One v l.length (bcs l)) : RBo w v l := by
  by_cases h0 : l = []
  · subst h0
    obtain ⟨A, c, rfl⟩ := h.form
    exact .inl ⟨A, c, rfl, rfl⟩
  · obtain ⟨A, c, rfl⟩ := h.form
    obtain ⟨g, rfl, _, hlt, hc, hj⟩ := h.cells (List.length_pos_iff.2 h0)
    refine .inr ⟨g, 0, c, rfl, hlt, hc (by omega), fun j hjl => ?_⟩
    have := hj j (by simp [bcs]; exact hjl)
    simpa [bcs] using this

theorem wf_i64 {a : Int} (h0 : -9223372036854775808 ≤ a) (h1 : a ≤ 9223372036854775807) : (Lit.int .i64 a).wf = true := by
  simp [Lit.wf, IntKind.min, IntKind.max, IntKind.signed, IntKind.bits]
  omega
/-- One block more is on the disk. -/
theorem DkP.on_upd {w w' : World} {S : Nat → Prop} {g mo mn : Nat} {sv kv : Value} {D : DK} {p : Wr} (h : DkP w S g mo mn sv kv D) (k : w.grownBy w' (some mo)) (hm : MapI w' mo (upd (fun a => (lastB D.on a).map bval) p.1 (bval p.2))) (hp : 0 ≤ p.1 ∧ p.1 < D.n ∧ p.2.length = 512) :
    DkP w' S g mo mn sv kv { D with on := D.on ++ [p] } := by
  have hM : Mut (fun i => i = mo) w w' := Mut.of_grown k fun b hb => by simpa using hb.symm
  obtain ⟨es, cl, hb, _⟩ := h.on
  have hnm : ∀ {b : Nat} {row : Array Value} {T : TypeId} {fr : Nat × Nat}, w.heap[b]? = some (.cells row T fr) → b ≠ mo := by
    rintro b row T fr h1 rfl
    rw [hb] at h1
    cases h1
  have hrow : ∀ {B : Nat} {T : TypeId} {sz : Nat} {C : Value → Prop} {v : Value} {n : Nat} {cs : List Value}, OwnR w B T sz C v n cs → ∀ b, v.ownBlock = some b → b ≠ mo := by
    intro B T sz C v n cs ho b hv
    obtain ⟨_, ⟨rfl, _⟩ | ⟨g', c, junk, rfl, _, hg', _⟩⟩ := ho
    · simp [Value.ownBlock] at hv
    · obtain rfl : g' = b := by simpa [Value.ownBlock] using hv
      exact hnm hg'
  exact {
    hg := (hM.block g (Array.getElem?_eq_some_iff.1 h.hg).1 (hnm h.hg)).trans h.hg
    on := hm.cong fun a => by
      simp only [lastB_snoc, upd]
      by_cases e : a = p.1
      · rw [if_pos e, if_pos e.symm]; rfl
      · rw [if_neg e, if_neg fun h => e h.symm]
    nw := h.nw.mut hM fun e => h.ne e.symm
    ne := h.ne
    wt := h.wt.mutO hM (hrow h.wt)
    kp := h.kp.mutO hM (hrow h.kp)
    sg := h.sg
    so := h.so
    sn := h.sn
    sw := h.sw
    sk := h.sk
    ok := ⟨h.ok.n0, h.ok.n1, h.ok.c0, h.ok.c1, fun q hq => by
      rcases List.mem_append.1 hq with hq | hq
      · exact h.ok.on q hq
      · rw [List.mem_singleton.1 hq]; exact hp, h.ok.wt⟩ }
theorem kept_step {keep : List Bool} {wt : List Wr} {p : Wr} {j : Nat} (hp : wt[j]? = some p) : kept keep (wt.take (j + 1)) = kept keep (wt.take j) ++ if keep.getD j false then [p] else [] := by
  have hj := (List.getElem?_eq_some_iff.1 hp).1
  have e : wt.take (j + 1) = wt.take j ++ [p] := by rw [List.take_add_one, hp]; rfl
  have e2 : (wt.take j).length = j := by simp; omega
  rw [e, kept_snoc, e2]
set_option maxHeartbeats 4000000 in
theorem fail_any {S : Nat → Prop} {g : Nat} {D : DK} {vk : Value} (keep : List Bool) (w : World) (h : DkAt w S g D) (hk : RBo w vk keep) (hkl : keep.length ≤ 1000000) (hwl : D.wt.length ≤ 1000000) :
    Calls Try.prog 71 #[.pointer (some ⟨g, 0, none⟩), vk] w fun e w' => e = .returned (.tuple #[]) ∧ DkTo S w w' g (D.fail keep) := by
  obtain ⟨mo, mn, sv, kv, h⟩ := h
  obtain ⟨c0, c1, c2, c3, c4, c5, c6, fz, hlt⟩ := blk7 h.hg
  obtain ⟨A, c, rfl⟩ := h.wt.form
  obtain ⟨kA, kc, rfl⟩ := hk.form
  obtain ⟨n, on, wt, cut, kp, dead⟩ := D
  simp only at *
  have h0k : ∀ q ∈ wt, 0 ≤ q.1 ∧ q.1 < n ∧ q.2.length = 512 := h.ok.wt
  have hw512 : ∀ q ∈ wt, q.2.length = 512 := fun q hq => (h0k q hq).2.2
  have H0 := Lib.hid h
  have K0 := Lib.hid hk
  clear h hk
  go_enter Try.func71, Try.ntmps71
  go_wp2_with fail
  go_loopw [11] (fun i wr => ∃ j : Nat, j ≤ wt.length ∧ i = .int .i64 j ∧ Hid (DkP wr (gr S w wr) g mo mn (.slice A wt.length c) kv ⟨n, on ++ kept keep (wt.take j), wt, cut, kp, dead⟩) ∧ Hid (Mut (fun i => i = mo) w wr)) (fun i _ => wt.length - (intOf i).toNat)
  case atStart => exact ⟨0, Nat.zero_le _, rfl, Lib.hid (by simpa [kept] using H0.out.mono fun i hi => .inl hi), Lib.hid (Mut.refl _ _)⟩
  case round =>
    obtain ⟨j, hj, rfl, HR, MR⟩ := hrel
    by_cases hjl : j < wt.length
    · obtain ⟨p, hp⟩ : ∃ p, wt[j]? = some p := ⟨_, List.getElem?_eq_getElem hjl⟩
      have hp5 := hw512 p (List.mem_of_getElem? hp)
      have hRw := HR.out.wt
      obtain ⟨gs, hA, _, hgs, hjc, _⟩ := hRw.cells (by omega)
      subst hA
      have hld := Lib.hid (ld_wr hRw hw512 hp)
      have hjc := hjc (by omega)
      clear hRw
      have st := st_wr (p := p) (heap_alloc_last wr (.cells (wcell zW).toArray 107)) hp5 zB_length
      rw [World.setRow_alloc_new] at st
      have St := Lib.hid st
      have hX := extAl wr (.cells (wcell p).toArray 107)
      have hgl := heap_alloc_last wr (.cells (wcell p).toArray 107)
      have HV := Lib.hid (HR.out.ext hX)
      have KV := Lib.hid ((K0.out.mutM H0.out.on MR.out).ext hX)
      have MV := Lib.hid (MR.out.trans (Mut.of_ext hX))
      have hgg : S g ∧ S mo ∧ S mn := ⟨H0.out.sg, H0.out.so, H0.out.sn⟩
      clear st
      go_upto_region 3 with (first | (refine wpList_ld rfl 107 (.tmp 14) rfl hld.out ?_; simp only [Act.put]) | (refine wpList_al rfl 107 rfl alloc_wr ?_; simp only [Act.put]) | (refine wpList_st rfl 107 (.tmp 5) (.tmp 15) rfl St.out ?_; simp only [Act.put]))
      have ht := kept_step (keep := keep) hp
      have hgV : g < (wr.alloc (.cells (wcell p).toArray 107)).heap.size := (Array.getElem?_eq_some_iff.1 HV.out.hg).1
      have hglV : wr.heap.size < (wr.alloc (.cells (wcell p).toArray 107)).heap.size := by simp
      have cg := cell_of_row _ _ 1 _ _ _ HV.out.hg
      have cl0 : (wr.alloc (.cells (wcell p).toArray 107)).cell? ⟨wr.heap.size, 0, none⟩ = some (.int .i64 p.1) := by
        rw [cell_of_row _ _ _ _ _ _ hgl]; rfl
      simp only [List.getElem?_toArray, List.getElem?_cons_succ, List.getElem?_cons_zero] at cg
      have hsz := hX.size
      have HV' := Lib.hid (HV.out.mono (S' := gr S w (wr.alloc (.cells (wcell p).toArray 107))) fun i hi => by
        rcases hi with hi | hi
        · exact .inl hi
        · exact .inr (by omega))
      have LB := Lib.hid fun w' (he : Ext (wr.alloc (.cells (wcell p).toArray 107)) w') => ld_wrb ((he.block wr.heap.size hglV).trans hgl) hp5
      have hpr := h0k p (List.mem_of_getElem? hp)
      clear hX hgl HV hsz hld St hp
      generalize wr.alloc (.cells (wcell p).toArray 107) = V at *
      generalize wr.heap.size = gl at *
      by_cases hjk : j < keep.length
      · have hkc : ∃ b off, kA = some ⟨b, off, none⟩ ∧ keep.length ≤ kc ∧ V.cell? ⟨b, off + j, none⟩ = some (.bool keep[j]) := by
          rcases KV.out with ⟨A', c', hv, h0⟩ | ⟨b, off, c', hv, _, hc', hcc⟩
          · rw [h0] at hjk; simp at hjk
          · simp only [Value.slice.injEq] at hv
            obtain ⟨rfl, -, rfl⟩ := hv
            exact ⟨b, off, rfl, hc', hcc j hjk⟩
        obtain ⟨b, off, rfl, hkc, hcell⟩ := hkc
        have hkj : keep.getD j false = keep[j] := by simp [List.getD, hjk]
        rw [hkj] at ht
        clear hkj KV K0
        cases hkb : keep[j] with
        | false =>
          rw [hkb] at ht hcell
          go_wp2
          go_roundw
          case rel => exact ⟨j + 1, by omega, by simp, Lib.hid (by rw [ht]; simpa using HV'.out), MV⟩
          case measure => simp [intOf]; omega
        | true =>
          rw [hkb] at ht hcell
          go_wp2_with fail
          have e1 : ∀ ψ (e : ExtP V.heap.size V ψ), e.val.cell? ⟨g, 1, none⟩ = some (.map (some mo)) := fun ψ e => e.cell cg hgV
          have e2 : ∀ ψ (e : ExtP V.heap.size V ψ), e.val.cell? ⟨gl, 0, none⟩ = some (.int .i64 p.1) := fun ψ e => e.cell cl0 hglV
          refine wp_region_pieces 8  [(true, [0, 1, 2, 3, 4, 5, 6, 7])] (by kernel_rfl) (by kernel_rfl) ?_; simp only [pick, List.map_cons, List.map_nil, List.flatMap_cons, List.flatMap_nil, Option.toList_some, List.singleton_append, List.drop_succ_cons, List.drop_zero, List.getElem?_cons_zero, List.getElem?_cons_succ]
          refine ⟨by kernel_rfl, ?_⟩; apply Exists.intro; refine ⟨fun ψ hψ hne => (by (repeat (first | ( go_big_quiet_want; refine quiet_ld 25 (.tmp 32) rfl (fun w' hw' => LB.out w' (ext_in hw')) ?_; go_simp; go_big_quiet_on ) | go_big_quiet_step ((  fail )))); exact wpQuiet_nil rfl), ?_⟩
          intro V' hV'
          obtain ⟨w3, hr, hm3, hg3⟩ := (HV'.out.ext hV').on.update (P := Try.prog) (t := 100) Try.underlying100 Try.underlying3 (wf_i64 (a := p.1) (by omega) (by have := H0.out.ok.n1; simp only at this; omega)) (bval p.2)
          have Hr := Lib.hid hr
          have fin : DkP w3 (gr S w w3) g mo mn (.slice (some ⟨gs, 0, none⟩) wt.length c) kv ⟨n, on ++ kept keep (wt.take (j + 1)), wt, cut, kp, dead⟩ := by
            have h4 := (HV'.out.ext hV').on_upd hg3 hm3 hpr
            rw [ht]
            simp only [if_true, ← List.append_assoc]
            refine h4.mono fun i hi => ?_
            have := hV'.size
            have := hg3.size
            rcases hi with hi | hi
            · exact .inl hi
            · exact .inr (by omega)
          have Fin := Lib.hid fin
          have M3 := Lib.hid ((MV.out.trans (Mut.of_ext hV')).trans (Mut.of_grown hg3 fun b hb => by simpa using hb.symm))
          clear fin hr hm3 hg3 HV' LB e1 e2
          go_wp2_with (refine wpList_mu rfl 100 (.tmp 29) (.tmp 31) (.tmp 33) rfl Hr.out ?_; simp only [Act.put])
          go_roundw
          case rel => exact ⟨j + 1, by omega, by simp, Fin, M3⟩
          case measure => simp [intOf]; omega
      · have hkj : keep.getD j false = false := by simp [List.getD, hjk]
        rw [hkj] at ht
        go_wp2
        go_roundw
        case rel => exact ⟨j + 1, by omega, by simp, Lib.hid (by rw [ht]; simpa using HV'.out), MV⟩
        case measure => simp [intOf]; omega
    · obtain rfl : j = wt.length := by omega
      rw [List.take_length] at HR
      clear c0 c1 c2 c3 c4 c5 c6 fz hlt
      go_wp2_with (go_at_call 69; refine (forget_any _ HR.out).mono ?_; rintro e w1 ⟨rfl, hd1, hm1⟩; obtain ⟨d0, d1, d2, d3, d4, d5, d6, fz, hlt1⟩ := blk7 hd1.hg)
      go_end0
      refine ⟨rfl, ?_⟩
      rw [set7_456 _ _ _ hd1.hg]
      have hfin := hd1.cells (D' := DK.fail ⟨n, on, wt, cut, kp, dead⟩ keep) (.slice none 0 0) (.slice none 0 0) rfl rfl (fun a => rfl) ((H0.out.ok).fail keep) OwnR.nil OwnR.nil (by simp [Value.ownBlock]) (by simp [Value.ownBlock])
      have hg1 := MR.out.size
      have hg2 := hm1.size
      refine ⟨⟨_, _, _, _, hfin.mono fun i hi => ?_⟩, ?_⟩
      · rcases hi with hi | hi
        · exact .inl hi
        · exact .inr (by simp [World.setRow]; omega)
      · refine (MR.out.mono (S' := S) (by rintro i rfl; exact H0.out.so)).trans ((hm1.mono (S' := S) ?_).trans (mut_setRow H0.out.sg _))
        rintro i (rfl | rfl)
        · exact H0.out.sg
        · exact H0.out.sn
end Go.Proofs.Ytobcfocbglkicaa
