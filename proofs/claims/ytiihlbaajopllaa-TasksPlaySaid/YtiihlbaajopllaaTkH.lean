/- Walks of tasks: Can. -/
import Derived.Test.YtiihlbaajopllaaTkG
set_option linter.unusedVariables false
set_option maxRecDepth 100000
namespace Go.Proofs.Ytiihlbaajopllaa
open Go.RowKit Go.MapKept

def tnC (x : Tn) : List Value := [.int .i64 x.1, .int .u8 x.2]
def tncs (l : List Tn) : List Value := l.flatMap tnC
theorem tnC_length (x : Tn) : (tnC x).length = 2 := rfl
theorem tncs_length (l : List Tn) : (tncs l).length = l.length * 2 := flat_length tnC_length l
theorem tnC_one (x : Tn) : ∀ u ∈ tnC x, One u := by intro u hu; simp [tnC] at hu; rcases hu with rfl | rfl <;> rfl
theorem tncs_one (l : List Tn) : ∀ u ∈ tncs l, One u := by
  intro u hu
  obtain ⟨x, _, hx⟩ := List.mem_flatMap.1 hu
  exact tnC_one x u hx
theorem tncs_app (l m : List Tn) : tncs (l ++ m) = tncs l ++ tncs m := by simp [tncs]
theorem app_turn {w : World} {B n : Nat} {v x : Value} {cs : List Value} {m : Nat} {new : List Value} {tx ty : TypeId} (ho : OwnR w B 64 2 One v n cs) (hs : Src Try.prog 2 tx x m new w) (hB : B ≤ w.heap.size) (hn : ∀ u ∈ new, One u) (hc : n + m ≤ 100000000) :
    ∃ v' w', (Builtin.append_ #[67, tx] ty #[v, x]).run Try.prog w = .ok v' w' ∧ OwnR w' B 64 2 One v' (n + m) (cs ++ new) ∧ Below B w w' ∧ w.grownBy w' v.ownBlock ∧ (∀ b, v'.ownBlock = some b → v.ownBlock = some b ∨ w.heap.size ≤ b) := by
  have h : (Try.prog.info? 64).map (fun i => (i.zero, i.size, i.bytes)) = some (some (.agg #[.int .i64 0, .int .u8 0]), 2, 16) := by kernel_rfl
  obtain ⟨i, hi, hz0, hz1, hz2⟩ := info_prt h
  exact appG2 (ty := ty) Try.underlying67 hi hz1 hz0 rfl ho hs hB (by omega) hn (by intro u hu; simp [Value.cells] at hu; rcases hu with rfl | rfl <;> rfl) (by rw [hz2]; omega) (by omega)
theorem canK_len (L : List Te) (k : Nat) : (canK L k).length ≤ 1 := by
  unfold canK
  split
  · split
    · split <;> simp
    · split <;> simp
  · simp
def canP (L : List Te) (k : Nat) : List Tn := (List.range k).flatMap (canK L)
theorem canP_succ (L : List Te) (k : Nat) : canP L (k + 1) = canP L k ++ canK L k := by unfold canP; rw [List.range_succ, List.flatMap_append]; simp
theorem canP_len (L : List Te) (k : Nat) : (canP L k).length ≤ k := by
  induction k with
  | zero => simp [canP]
  | succ k ih => rw [canP_succ, List.length_append]; have := canK_len L k; omega
theorem waits_take {L : List Te} {k : Nat} {x : Te} (h : L[k]? = some x) : waitsB (L.take (k + 1)) = (waitsB (L.take k) || decide (x.is = 1)) := by
  unfold waitsB
  rw [List.take_add_one, h, List.any_append]
  simp
theorem app_turn1 (x : Tn) {wr : World} {B n c : Nat} {A : Option Addr} {cs : List Value} (ho : OwnR wr B 64 2 One (.slice A n c) n cs) (hB : B ≤ wr.heap.size) (hn : n ≤ 1000000) :
    Hid (∀ w2, Ext wr w2 → ∃ v' W2, (Builtin.append_ #[67, 67] 67 #[.slice A n c, .slice (some ⟨w2.heap.size, 0, none⟩) 1 1]).run Try.prog (w2.alloc (.cells #[.int .i64 x.1, .int .u8 x.2] 64)) = .ok v' W2 ∧ OwnR W2 B 64 2 One v' (n + 1) (cs ++ tnC x) ∧ Below B wr W2) := Lib.hid fun w2 hE => by
  have a := extAl w2 (.cells #[.int .i64 x.1, .int .u8 x.2] 64)
  have hsrc : Src Try.prog 2 67 (.slice (some ⟨w2.heap.size, 0, none⟩) 1 1) 1 (tnC x) (w2.alloc (.cells #[.int .i64 x.1, .int .u8 x.2] 64)) := src_row Try.underlying67 (heap_alloc_last w2 (.cells #[.int .i64 x.1, .int .u8 x.2] 64)) rfl (tnC_one x)
  have hE2 := Ext.trans hE a
  have hs := hE2.size
  obtain ⟨v', W2, hr, ho2, hb2, -, -⟩ := app_turn (ty := 67) (ho.ext hE2) hsrc (by omega) (tnC_one x) (by omega)
  exact ⟨v', W2, hr, ho2, Below.trans (hE2.mono hB) hb2⟩
section
variable {S : Nat → Prop} {g : Nat} {T : TK}
set_option maxHeartbeats 4000000 in
theorem Can_any (w : World) (h : TkAt w S g T) :
    Calls Try.prog 31 #[.pointer (some ⟨g, 0, none⟩)] w fun e w' => ∃ v, e = .returned v ∧ OwnR w' w.heap.size 64 2 One v (canT T).length (tncs (canT T)) ∧ Below w.heap.size w w' := by
  obtain ⟨⟨tg, ms, mp, h⟩, hok⟩ := h
  have K := Lib.hid (row_any w h.lk)
  rw [show (lkL T.L).length = T.L.length by simp [lkL], show (lkL T.L).map (·.1) = T.L.map (·.p.1) by simp [lkL]] at K
  have hE : canT T = canP T.L T.L.length ++ if waitsB T.L then [(-1, 2)] else [] := rfl
  obtain ⟨R, hR⟩ : ∃ R, R = canT T := ⟨_, rfl⟩
  rw [← hR] at hE ⊢
  have HE0 := Lib.hid hE
  have ND := Lib.hid hok.nd
  have IS := Lib.hid hok.is
  have N0 := Lib.hid hok.n0
  have hlen := hok.len
  obtain ⟨c0, c1, -, -, -, -, hlt⟩ := blk5 h.hg
  have H := Lib.hid h
  clear h hok hE hR
  generalize T.L = L at *
  generalize T.cnt = cn at *
  generalize T.last = la at *
  go_enter Try.func31, Try.ntmps31
  go_wp2_with fail
  refine K.out.mono ?_
  rintro e w1 ⟨v, rfl, ho, hb⟩
  have Q1 := Lib.hid (H.out.ext hb)
  have B1 := Lib.hid hb
  have R1 := Lib.hid ho
  have s1 := hb.size
  obtain ⟨Ar, cr, rfl⟩ := ho.form
  clear ho hb K H c0 c1 hlt
  go_wp2
  go_loopg [3, 4, 15] L.length (fun gg u b s wr => ∃ k : Nat, k ≤ L.length ∧ L.length - k ≤ gg ∧ s = .int .i64 k ∧ Hid (Ext w1 wr) ∧ Hid (OwnR wr w1.heap.size 64 2 One u (canP L k).length (tncs (canP L k))) ∧ b = .bool (waitsB (L.take k)))
  case atStart => exact ⟨0, Nat.zero_le _, by omega, rfl, Lib.hid (Ext.refl _), Lib.hid OwnR.nil, rfl⟩
  case round =>
    obtain ⟨k, hk, hg, rfl, HE, HO, rfl⟩ := hrel
    obtain ⟨A2, c2, rfl⟩ := HO.out.form
    by_cases hlt : k < L.length
    · obtain ⟨x, hx⟩ : ∃ x, L[k]? = some x := ⟨_, List.getElem?_eq_getElem hlt⟩
      have hxi := IS.out x (List.mem_of_getElem? hx)
      have hxn := N0.out x (List.mem_of_getElem? hx)
      have hwf := wf_i64 (a := x.p.1) (by omega) (by omega)
      obtain ⟨b, rfl, -, hbl, hbc, hbj⟩ := R1.out.cells (by omega)
      have hbc := hbc (by omega)
      have x0 : wr.cell? ⟨b, k, none⟩ = some (.int .i64 x.p.1) := by
        have := hbj k (by rw [ics_length, List.length_map]; exact hlt)
        rw [HE.out.cell (p := ⟨b, k, none⟩) hbl, this]
        simp [ics, (List.getElem?_eq_some_iff.1 hx).2]
      have q := Q1.out.ext HE.out
      obtain ⟨c0, c1, -, -, -, -, hgl⟩ := blk5 q.hg
      have L1 := q.st.look (P := Try.prog) false (t := 103) Try.underlying103 Try.underlying3 (zero_u8 wr) hwf
      have e1 : stF L x.p.1 = some (.int .u8 (1 + x.is)) := by unfold stF; rw [findT_mem ND.out (List.mem_of_getElem? hx)]; rfl
      simp only [e1, Bool.false_eq_true, if_false, Option.getD_some] at L1
      have z0 := HE.out.size
      have z1 : (canP L k).length ≤ 16 := Nat.le_trans (canP_len L k) (by omega)
      have KH := Lib.hid (has_any x.p.1 wr q.lk)
      rw [hasL_of ND.out hx] at KH
      have hw := waits_take hx
      have hcan : canK L k = if x.is = 0 then (if hasAt (lkL L) k then [(x.p.1, 1)] else []) else if x.is = 2 then [(x.p.1, 3)] else [] := by unfold canK; rw [hx]
      have hcs := canP_succ L k
      rw [hcan] at hcs
      have z2 : b < wr.heap.size := by omega
      clear q hbj hbl e1 hcan hx
      rcases hxi with h0 | h0 | h0
      · rw [h0] at L1 hcs hw
        have H1 := Lib.hid L1
        rw [if_pos rfl] at hcs
        rw [show decide ((0 : Int) = 1) = false from rfl, Bool.or_false] at hw
        clear L1
        cases hh : hasAt (lkL L) k with
        | false =>
          rw [hh] at hcs KH
          simp only [Bool.false_eq_true, if_false, List.append_nil] at hcs
          have HC := Lib.hid hcs
          have HW := Lib.hid hw
          clear hcs hw hh h0
          go_wp2_with (first | (refine wpList_lk rfl 103 (.tmp 22) (.tmp 23) false rfl H1.out ?_; simp only [Act.put]; clear H1) | (go_at_call 17; refine KH.out.mono ?_; rintro e w2 ⟨rfl, hb2⟩))
          have HE2 := Lib.hid (Ext.trans HE.out hb2)
          have HO2 := Lib.hid (HO.out.ext hb2)
          go_roundg (L.length - (k + 1))
          case measure => omega
          case rel =>
            refine ⟨k + 1, by omega, by omega, by go_num, HE2, ?_, by rw [HW.out]⟩
            rw [HC.out]; exact HO2
        | true =>
          rw [hh] at hcs KH
          simp only [if_true] at hcs
          have HC := Lib.hid hcs
          have HW := Lib.hid hw
          have FA := app_turn1 (x.p.1, 1) HO.out z0 (by omega)
          clear hcs hw hh h0
          go_wp2_with (first | (refine wpList_lk rfl 103 (.tmp 22) (.tmp 23) false rfl H1.out ?_; simp only [Act.put]; clear H1) | (go_at_call 17; refine KH.out.mono ?_; rintro e w2 ⟨rfl, hb2⟩; obtain ⟨v', W2, hr, ho2, hb3⟩ := FA.out w2 hb2; have Hr := Lib.hid hr; have HO2 := Lib.hid ho2; have HE2 := Lib.hid (Below.trans HE.out hb3); clear hr ho2 hb3 FA KH) | (at_builtin; refine wpList_app rfl (.tmp 33) (.tmp 36) 67 67 rfl Hr.out ?_; simp only [Act.put]; clear Hr))
          go_roundg (L.length - (k + 1))
          case measure => omega
          case rel =>
            refine ⟨k + 1, by omega, by omega, by go_num, HE2, ?_, by rw [HW.out]⟩
            rw [HC.out, List.length_append, tncs_app]; exact HO2
      · rw [h0] at L1 hcs hw
        have H1 := Lib.hid L1
        rw [if_neg (by decide), if_neg (by decide), List.append_nil] at hcs
        rw [show decide ((1 : Int) = 1) = true from rfl, Bool.or_true] at hw
        have HC := Lib.hid hcs
        have HW := Lib.hid hw
        clear L1 hcs hw h0
        go_wp2_with (refine wpList_lk rfl 103 (.tmp 22) (.tmp 23) false rfl H1.out ?_; simp only [Act.put]; clear H1)
        go_roundg (L.length - (k + 1))
        case measure => omega
        case rel =>
          refine ⟨k + 1, by omega, by omega, by go_num, HE, ?_, by rw [HW.out]⟩
          rw [HC.out]; exact HO
      · rw [h0] at L1 hcs hw
        have H1 := Lib.hid L1
        rw [if_neg (by decide), if_pos rfl] at hcs
        rw [show decide ((2 : Int) = 1) = false from rfl, Bool.or_false] at hw
        have HC := Lib.hid hcs
        have HW := Lib.hid hw
        obtain ⟨v', W2, hr, ho2, hb3⟩ := (app_turn1 (x.p.1, 3) HO.out z0 (by omega)).out wr (Ext.refl wr)
        have Hr := Lib.hid hr
        have HO2 := Lib.hid ho2
        have HE2 := Lib.hid (Below.trans HE.out hb3)
        clear hr ho2 hb3 L1 hcs hw h0
        go_wp2_with (first | (refine wpList_lk rfl 103 (.tmp 22) (.tmp 23) false rfl H1.out ?_; simp only [Act.put]; clear H1) | (at_builtin; refine wpList_app rfl (.tmp 42) (.tmp 45) 67 67 rfl Hr.out ?_; simp only [Act.put]; clear Hr))
        go_roundg (L.length - (k + 1))
        case measure => omega
        case rel =>
          refine ⟨k + 1, by omega, by omega, by go_num, HE2, ?_, by rw [HW.out]⟩
          rw [HC.out, List.length_append, tncs_app]; exact HO2
    · obtain rfl : k = L.length := by omega
      rw [List.take_length]
      have z0 := HE.out.size
      have z1 : (canP L L.length).length ≤ 16 := Nat.le_trans (canP_len L _) (by omega)
      cases hw : waitsB L with
      | false =>
        have F := Lib.hid (Below.trans B1.out (HE.out.mono s1))
        have O := Lib.hid (HO.out.mono s1)
        have E : Hid (waitsB L = false) := Lib.hid hw
        clear hw Q1 B1 R1 HE HO
        go_wp2
        go_ret
        refine ⟨_, rfl, ?_, F.out⟩
        rw [HE0.out, E.out, if_neg (by decide), List.append_nil]
        exact O.out
      | true =>
        obtain ⟨v', W2, hr, ho2, hb3⟩ := (app_turn1 (-1, 2) HO.out z0 (by omega)).out wr (Ext.refl wr)
        have Hr := Lib.hid hr
        have F := Lib.hid (Below.trans B1.out ((Below.trans HE.out hb3).mono s1))
        have O := Lib.hid (ho2.mono s1)
        have E : Hid (waitsB L = true) := Lib.hid hw
        clear hw Q1 B1 R1 HE HO hr ho2 hb3
        go_wp2_with (at_builtin; refine wpList_app rfl (.tmp 49) (.tmp 51) 67 67 rfl Hr.out ?_; simp only [Act.put]; clear Hr)
        go_ret
        refine ⟨_, rfl, ?_, F.out⟩
        rw [HE0.out, E.out, if_pos rfl, List.length_append, tncs_app]
        exact O.out
end
end Go.Proofs.Ytiihlbaajopllaa
