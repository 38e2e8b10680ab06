/- Walks of locks: find, Has. -/
import Derived.Test.YtiihlbaajopllaaLkE
set_option linter.unusedVariables false
set_option maxRecDepth 100000
namespace Go.Proofs.Ytiihlbaajopllaa
open Go.RowKit

def prevPtr (ns : List Nd) : Nat → Value
  | 0 => .pointer none
  | i + 1 => ptrAt ns i
theorem prevPtr_form (ns : List Nd) (i : Nat) : ∃ P, prevPtr ns i = .pointer P := by
  cases i with
  | zero => exact ⟨_, rfl⟩
  | succ i => exact ⟨_, rfl⟩
theorem ptrAt_form (ns : List Nd) (i : Nat) : ∃ P, ptrAt ns i = .pointer P := ⟨_, rfl⟩
def fndI (ns : List Nd) (n : Int) : Nat := (atL (ns.map (·.p)) n).getD ns.length
theorem Ext.blk {w w' : World} {g : Nat} {o : Obj} (h : Ext w w') (k : w.heap[g]? = some o) : w'.heap[g]? = some o := (Below.block h g (Array.getElem?_eq_some_iff.1 k).1).trans k
theorem find1_hit {a tb pb ab : Nat} {m n : Int} {vp va : Value} (W : World) (hmn : m = n) (hn : W.cell? ⟨a, 0, none⟩ = some (.int .i64 m)) (hal : a < W.heap.size)
    (ht : W.heap[tb]? = some (.cells #[.int .i64 n] 3 (0, 0))) (hp : W.heap[pb]? = some (.cells #[vp] 89 (0, 0))) (ha : W.heap[ab]? = some (.cells #[va] 89 (0, 0))) :
    Calls Try.prog 78 #[.pointer (some ⟨a, 0, none⟩), .pointer (some ⟨tb, 0, none⟩), .pointer (some ⟨pb, 0, none⟩), .pointer (some ⟨ab, 0, none⟩)] W fun e W' =>
      e = .returned (.bool false) ∧ Mut (fun i => i = pb) W W' ∧ W'.heap[pb]? = some (.cells #[.pointer (some ⟨a, 0, none⟩)] 89 (0, 0)) := by
  have c0 := hn
  obtain ⟨ct, tf, tlt⟩ := blk1 ht
  have HP := Lib.hid hp
  have HA := Lib.hid ha
  clear hp ha ht hn tf
  subst hmn
  go_enter Try.func78, Try.ntmps78
  go_wp2
  have e0 : ∀ ψ (e : ExtP W.heap.size W ψ), e.val.cell? ⟨a, 0, none⟩ = some (.int .i64 m) := fun ψ e => e.cell c0 hal
  have e1 : ∀ ψ (e : ExtP W.heap.size W ψ), e.val.cell? ⟨tb, 0, none⟩ = some (.int .i64 m) := fun ψ e => e.cell ct tlt
  refine wp_region_pieces 6  [(true, [0, 1, 2, 3, 4, 5])] (by kernel_rfl) (by kernel_rfl) ?_; simp only [pick, List.map_cons, List.map_nil, List.flatMap_cons, List.flatMap_nil, Option.toList_some, List.singleton_append, List.drop_succ_cons, List.drop_zero, List.getElem?_cons_zero, List.getElem?_cons_succ]
  refine ⟨by kernel_rfl, ?_⟩; apply Exists.intro; refine ⟨fun ψ hψ hne => (by (repeat (go_big_quiet_step (( fail )))); exact wpQuiet_nil rfl), ?_⟩
  intro W1 h1
  clear e0 e1
  have hp1 := Ext.blk h1 HP.out
  obtain ⟨c1, f1, l1⟩ := blk1 hp1
  have st := set1_0 (.pointer (some ⟨a, 0, none⟩)) hp1
  have HM := Lib.hid ((Mut.of_ext h1).trans (mut_setRow (S := fun i => i = pb) rfl (w := W1) #[.pointer (some ⟨a, 0, none⟩)]))
  have HR := Lib.hid (setRow_heap W1 pb _ #[.pointer (some ⟨a, 0, none⟩)] _ _ hp1)
  clear hp1
  go_wp2
  go_ret
  exact ⟨rfl, HM.out, HR.out⟩
theorem find1_miss {a tb pb ab : Nat} {m n : Int} {vp va : Value} (W : World) (hmn : ¬ m = n) (hn : W.cell? ⟨a, 0, none⟩ = some (.int .i64 m)) (hal : a < W.heap.size)
    (ht : W.heap[tb]? = some (.cells #[.int .i64 n] 3 (0, 0))) (hp : W.heap[pb]? = some (.cells #[vp] 89 (0, 0))) (ha : W.heap[ab]? = some (.cells #[va] 89 (0, 0))) :
    Calls Try.prog 78 #[.pointer (some ⟨a, 0, none⟩), .pointer (some ⟨tb, 0, none⟩), .pointer (some ⟨pb, 0, none⟩), .pointer (some ⟨ab, 0, none⟩)] W fun e W' =>
      e = .returned (.bool true) ∧ Mut (fun i => i = ab) W W' ∧ W'.heap[ab]? = some (.cells #[.pointer (some ⟨a, 0, none⟩)] 89 (0, 0)) := by
  have c0 := hn
  obtain ⟨ct, tf, tlt⟩ := blk1 ht
  have HP := Lib.hid hp
  have HA := Lib.hid ha
  clear hp ha ht hn tf
  have hb : (m == n) = false := by rw [beq_eq_false_iff_ne]; exact hmn
  have HN := Lib.hid hmn
  clear hmn
  go_enter Try.func78, Try.ntmps78
  go_wp2
  have e0 : ∀ ψ (e : ExtP W.heap.size W ψ), e.val.cell? ⟨a, 0, none⟩ = some (.int .i64 m) := fun ψ e => e.cell c0 hal
  have e1 : ∀ ψ (e : ExtP W.heap.size W ψ), e.val.cell? ⟨tb, 0, none⟩ = some (.int .i64 n) := fun ψ e => e.cell ct tlt
  refine wp_region_pieces 6  [(true, [0, 1, 2, 3, 4, 5])] (by kernel_rfl) (by kernel_rfl) ?_; simp only [pick, List.map_cons, List.map_nil, List.flatMap_cons, List.flatMap_nil, Option.toList_some, List.singleton_append, List.drop_succ_cons, List.drop_zero, List.getElem?_cons_zero, List.getElem?_cons_succ]
  refine ⟨by kernel_rfl, ?_⟩; apply Exists.intro; refine ⟨fun ψ hψ hne => (by (repeat (go_big_quiet_step (( fail )))); exact wpQuiet_nil rfl), ?_⟩
  intro W1 h1
  clear e0 e1
  have hp1 := Ext.blk h1 HA.out
  obtain ⟨c1, f1, l1⟩ := blk1 hp1
  have st := set1_0 (.pointer (some ⟨a, 0, none⟩)) hp1
  have HM := Lib.hid ((Mut.of_ext h1).trans (mut_setRow (S := fun i => i = ab) rfl (w := W1) #[.pointer (some ⟨a, 0, none⟩)]))
  have HR := Lib.hid (setRow_heap W1 ab _ #[.pointer (some ⟨a, 0, none⟩)] _ _ hp1)
  clear hp1
  go_wp2
  go_ret
  exact ⟨rfl, HM.out, HR.out⟩
set_option maxHeartbeats 1000000 in
theorem find_any {S : Nat → Prop} {g : Nat} {ns : List Nd} (n : Int) (w : World) (h : LkP w S g ns) :
    Calls Try.prog 55 #[.pointer (some ⟨g, 0, none⟩), .int .i64 n] w fun e w' => e = .returned (.tuple #[prevPtr ns (fndI ns n), ptrAt ns (fndI ns n)]) ∧ Below w.heap.size w w' := by
  have hE : Ext w (((w.alloc (.cells #[.int .i64 n] 3)).alloc (.cells #[.pointer none] 89)).alloc (.cells #[.pointer none] 89)) := ((extAl _ _).trans (extAl _ _)).trans (extAl _ _)
  have hE2 : Ext (w.alloc (.cells #[.int .i64 n] 3)) (((w.alloc (.cells #[.int .i64 n] 3)).alloc (.cells #[.pointer none] 89)).alloc (.cells #[.pointer none] 89)) := (extAl _ _).trans (extAl _ _)
  have tb := hE2.blk (heap_alloc_last w (.cells #[.int .i64 n] 3))
  have ab := (extAl ((w.alloc (.cells #[.int .i64 n] 3)).alloc (.cells #[.pointer none] 89)) (.cells #[.pointer none] 89)).blk (heap_alloc_last (w.alloc (.cells #[.int .i64 n] 3)) (.cells #[.pointer none] 89))
  have pb := heap_alloc_last ((w.alloc (.cells #[.int .i64 n] 3)).alloc (.cells #[.pointer none] 89)) (.cells #[.pointer none] 89)
  simp only [World.size_alloc] at ab pb
  have g0 := ((hE.cell (p := ⟨g, 0, none⟩) (blk1 h.hg).2.2).trans (blk1 h.hg).1)
  have hsp := atL_spec (ns.map (·.p)) n
  have OV := Lib.hid (over_any (lb := #[.pointer (some ⟨w.heap.size, 0, none⟩), .pointer (some ⟨w.heap.size + 1 + 1, 0, none⟩), .pointer (some ⟨w.heap.size + 1, 0, none⟩)]) (enters_of Try.func78 (by kernel_rfl) rfl)
    (fun k W => Ext w W ∧ W.heap[w.heap.size]? = some (.cells #[.int .i64 n] 3 (0, 0)) ∧ W.heap[w.heap.size + 1 + 1]? = some (.cells #[.pointer none] 89 (0, 0)) ∧ W.heap[w.heap.size + 1]? = some (.cells #[prevPtr ns k] 89 (0, 0)) ∧ ∀ (j : Nat) (x : Nd), j < k → ns[j]? = some x → x.p.1 ≠ n)
    (fun W => Ext w W ∧ W.heap[w.heap.size + 1 + 1]? = some (.cells #[ptrAt ns (fndI ns n)] 89 (0, 0)) ∧ W.heap[w.heap.size + 1]? = some (.cells #[prevPtr ns (fndI ns n)] 89 (0, 0))) _ ⟨hE, tb, pb, ab, fun j x hj => absurd hj (Nat.not_lt_zero _)⟩ g0
    (fun k x W hx ⟨hW, htb, hpb, hab, hm⟩ => by
      obtain ⟨c0, _, _, c3, _, hxl⟩ := blk4 (h.nd k x hx)
      by_cases hn : x.p.1 = n
      · refine (find1_hit W hn ((hW.cell (p := ⟨x.a, 0, none⟩) hxl).trans c0) (Nat.lt_of_lt_of_le hxl hW.size) htb hpb hab).mono ?_
        rintro e W' ⟨rfl, hM, hR⟩
        have hk : fndI ns n = k := by
          unfold fndI
          rcases hsp with ⟨h1, h2⟩ | ⟨i, p, h1, h2, h3, h4⟩
          · exact absurd hn (h2 x.p (List.mem_map.2 ⟨x, List.mem_of_getElem? hx, rfl⟩))
          · rw [h1]
            simp only [Option.getD_some]
            rcases Nat.lt_trichotomy i k with hik | hik | hik
            · have hil : i < ns.length := by have := (List.getElem?_eq_some_iff.1 hx).1; omega
              have : (ns.map (·.p))[i]? = some ns[i].p := by simp [hil]
              rw [h2] at this
              cases this
              exact absurd h3 (hm i ns[i] hik (List.getElem?_eq_getElem hil))
            · exact hik
            · exact absurd hn (h4 k x.p hik (by simp [hx]))
        refine .inr ⟨rfl, Below.trans hW (hM.below (B := w.heap.size) (fun i hi => by omega) hW.size), ?_, ?_⟩
        · rw [hk, ptrAt_some hx]; exact hR
        · rw [hk]; exact (hM.block _ (blk1 hab).2.2 (by omega)).trans hab
      · refine (find1_miss W hn ((hW.cell (p := ⟨x.a, 0, none⟩) hxl).trans c0) (Nat.lt_of_lt_of_le hxl hW.size) htb hpb hab).mono ?_
        rintro e W' ⟨rfl, hM, hR⟩
        have hW' : Ext w W' := Below.trans hW (hM.below (B := w.heap.size) (fun i hi => by omega) hW.size)
        refine .inl ⟨rfl, ⟨hW', (hM.block _ (blk1 htb).2.2 (by omega)).trans htb, (hM.block _ (blk1 hpb).2.2 (by omega)).trans hpb, ?_, ?_⟩, (hW'.cell (p := ⟨x.a, 3, none⟩) hxl).trans c3⟩
        · show _ = some (Obj.cells #[ptrAt ns k] _ _)
          rw [ptrAt_some hx]; exact hR
        · intro j y hj hy
          by_cases e : j = k
          · subst e
            rw [hx] at hy
            cases hy
            exact hn
          · exact hm j y (by omega) hy)
    (fun W ⟨hW, _, hpb, hab, hm⟩ => by
      have hk : fndI ns n = ns.length := by
        unfold fndI
        rcases hsp with ⟨h1, _⟩ | ⟨i, p, h1, h2, h3, _⟩
        · rw [h1]; rfl
        · have hil : i < ns.length := by have := (List.getElem?_eq_some_iff.1 h2).1; simpa using this
          have : (ns.map (·.p))[i]? = some ns[i].p := by simp [hil]
          rw [h2] at this
          cases this
          exact absurd h3 (hm i ns[i] hil (List.getElem?_eq_getElem hil))
      rw [hk, ptrAt_none (Nat.le_refl _)]
      exact ⟨hW, hpb, hab⟩))
  clear h ab pb tb g0 hE hE2 hsp
  obtain ⟨P1, hP1⟩ := prevPtr_form ns (fndI ns n)
  obtain ⟨P2, hP2⟩ := ptrAt_form ns (fndI ns n)
  rw [hP1, hP2] at OV
  rw [hP1, hP2]
  clear hP1 hP2
  go_enter Try.func55, Try.ntmps55
  go_wp2_with fail
  refine OV.out.mono ?_
  rintro e w2 ⟨rfl, h2, hb1, hb2⟩
  have H2 := Lib.hid h2
  obtain ⟨c1, f1, l1⟩ := blk1 hb1
  obtain ⟨c2, f2, l2⟩ := blk1 hb2
  have e2 := setRow_heap w2 (w.heap.size + 1) _ #[.pointer P1] _ _ hb2
  have e1 := (setRow_other w2 (w.heap.size + 1) (w.heap.size + 1 + 1) #[.pointer P1] (by omega)).trans hb1
  have f2' := setRow_heap _ (w.heap.size + 1 + 1) _ #[.pointer P2] _ _ e1
  have f1' := (setRow_other _ (w.heap.size + 1 + 1) (w.heap.size + 1) #[.pointer P2] (by omega)).trans e2
  have s1 := Lib.hid (set1_0 (.pointer P1) hb2)
  have s2 := Lib.hid (set1_0 (.pointer P2) e1)
  have g1 := (blk1 f1').1
  have g2 := (blk1 f2').1
  have HV : Hid (Ext w ((w2.setRow (w.heap.size + 1) #[.pointer P1]).setRow (w.heap.size + 1 + 1) #[.pointer P2]).drew) := Lib.hid (Below.drew (below_setRow (below_setRow h2 (by omega) _) (by omega) _))
  clear h2 hb1 hb2 e1 e2 f1' f2'
  go_wp2
  go_region
  rw [s1.out, s2.out]
  generalize (w2.setRow (w.heap.size + 1) #[.pointer P1]).setRow (w.heap.size + 1 + 1) #[.pointer P2] = V at *
  clear c1 c2
  go_wp2
  exact bodyPost_ret (v := .tuple #[.pointer P1, .pointer P2]) (by simp [results, Try.results55, go_sem, g1, g2]) rfl ⟨rfl, HV.out⟩
end Go.Proofs.Ytiihlbaajopllaa
