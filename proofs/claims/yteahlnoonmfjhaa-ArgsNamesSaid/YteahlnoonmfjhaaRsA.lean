/- Results: the writer's attr. -/
import Derived.Test.YteahlnoonmfjhaaAgK
set_option linter.unusedVariables false
set_option maxRecDepth 100000
namespace Go.Proofs.Yteahlnoonmfjhaa
open Go.RowKit

def kindB (n : Int) : Bool := decide (n = 1 ∨ n = 2 ∨ n = 3)
theorem isKind_any (n : Int) (w : World) : Calls Try.prog 153 #[.int .u32 n] w fun e w' => e = .returned (.bool (kindB n)) ∧ Below w.heap.size w w' := by
  unfold kindB
  by_cases h1 : n = 1
  · subst h1
    go_enter Try.func153, Try.ntmps153
    go_wp2
    go_ret
    exact ⟨rfl, by (repeat' (first | (with_reducible assumption) | (with_reducible exact Below.refl _ _) | (with_reducible refine below_sc ?_ ?_) | ((with_reducible show (_ : Nat) ≤ _); omega) | refine Below.setCell ?_ (by first | omega | (simp; done) | (simp; omega)) _ | refine Below.alloc ?_ (by first | omega | (simp; done) | (simp; omega)) _ | refine Below.drew ?_ | refine below_drewN ?_ _ | refine Below.trans ?_ (Below.mono (by assumption) (by first | omega | (simp; done) | (simp; omega)))))⟩
  by_cases h2 : n = 2
  · subst h2
    go_enter Try.func153, Try.ntmps153
    go_wp2
    go_ret
    exact ⟨rfl, by (repeat' (first | (with_reducible assumption) | (with_reducible exact Below.refl _ _) | (with_reducible refine below_sc ?_ ?_) | ((with_reducible show (_ : Nat) ≤ _); omega) | refine Below.setCell ?_ (by first | omega | (simp; done) | (simp; omega)) _ | refine Below.alloc ?_ (by first | omega | (simp; done) | (simp; omega)) _ | refine Below.drew ?_ | refine below_drewN ?_ _ | refine Below.trans ?_ (Below.mono (by assumption) (by first | omega | (simp; done) | (simp; omega)))))⟩
  by_cases h3 : n = 3
  · subst h3
    go_enter Try.func153, Try.ntmps153
    go_wp2
    go_ret
    exact ⟨rfl, by (repeat' (first | (with_reducible assumption) | (with_reducible exact Below.refl _ _) | (with_reducible refine below_sc ?_ ?_) | ((with_reducible show (_ : Nat) ≤ _); omega) | refine Below.setCell ?_ (by first | omega | (simp; done) | (simp; omega)) _ | refine Below.alloc ?_ (by first | omega | (simp; done) | (simp; omega)) _ | refine Below.drew ?_ | refine below_drewN ?_ _ | refine Below.trans ?_ (Below.mono (by assumption) (by first | omega | (simp; done) | (simp; omega)))))⟩
  · have e : decide (n = 1 ∨ n = 2 ∨ n = 3) = false := decide_eq_false (by omega)
    rw [e]
    clear e
    go_enter Try.func153, Try.ntmps153
    go_wp2
    go_ret
    exact ⟨by simp [h1, h2, h3], by (repeat' (first | (with_reducible assumption) | (with_reducible exact Below.refl _ _) | (with_reducible refine below_sc ?_ ?_) | ((with_reducible show (_ : Nat) ≤ _); omega) | refine Below.setCell ?_ (by first | omega | (simp; done) | (simp; omega)) _ | refine Below.alloc ?_ (by first | omega | (simp; done) | (simp; omega)) _ | refine Below.drew ?_ | refine below_drewN ?_ _ | refine Below.trans ?_ (Below.mono (by assumption) (by first | omega | (simp; done) | (simp; omega)))))⟩
/-- The pointers to an Attr's seven numbers. -/
def ptrs (g o : Nat) : Array Value := #[.pointer (some ⟨g, o + 1, none⟩), .pointer (some ⟨g, o + 2, none⟩), .pointer (some ⟨g, o + 3, none⟩), .pointer (some ⟨g, o + 4, none⟩), .pointer (some ⟨g, o + 5, none⟩), .pointer (some ⟨g, o + 6, none⟩), .pointer (some ⟨g, o + 7, none⟩)]
set_option maxHeartbeats 4000000 in
theorem numbersOf_any (g o : Nat) (w : World) : Calls Try.prog 154 #[.pointer (some ⟨g, o, none⟩)] w fun e w' => ∃ gs, e = .returned (.slice (some ⟨gs, 0, none⟩) 7 7) ∧ w.heap.size ≤ gs ∧ w'.heap[gs]? = some (.cells (ptrs g o) 185 (0, 0)) ∧ Below w.heap.size w w' := by
  go_enter Try.func154, Try.ntmps154
  go_wp2_with fail
  refine wp_region_pieces 22  [(true, [0, 1, 2, 3, 4, 5, 6, 7, 8, 9, 10, 11, 12, 13, 14, 15, 16, 17, 18, 19, 20]), (false, [21])] (by kernel_rfl) (by kernel_rfl) ?_; simp only [pick, List.map_cons, List.map_nil, List.flatMap_cons, List.flatMap_nil, Option.toList_some, List.singleton_append, List.drop_succ_cons, List.drop_zero, List.getElem?_cons_zero, List.getElem?_cons_succ]
  refine ⟨by kernel_rfl, ?_⟩; apply Exists.intro; refine ⟨fun ψ hψ hne => (by (repeat (go_big_quiet_step (( fail )))); exact wpQuiet_nil rfl), ?_⟩
  intro w1 h1 K hK
  go_wp2_with fail
  refine hK _ _ (extAl _ _) ?_
  clear hK K
  intro w3 h3
  go_wp2_with fail
  go_ret
  exact ⟨w1.heap.size, rfl, Below.size h1, Ext.blk h3 (heap_alloc_last w1 _), Ext.trans h1 (Ext.trans (extAl _ _) h3)⟩
def numsL (a : AtT) : List Int := [a.mode, a.links, a.size, a.mtime, a.ctime, a.ino, a.gen]
/-- The first k numbers are zero. -/
def zk (k : Nat) (a : AtT) : AtT := ⟨a.kind, if 0 < k then 0 else a.mode, if 1 < k then 0 else a.links, if 2 < k then 0 else a.size, if 3 < k then 0 else a.mtime, if 4 < k then 0 else a.ctime, if 5 < k then 0 else a.ino, if 6 < k then 0 else a.gen⟩
def attrB (a : AtT) : List UInt8 := beN a.kind 4 ++ (numsL a).flatMap intL
section
variable {W0 : World} {B gw ga : Nat} {b : List UInt8} {x : RsT} {rv : Value}
theorem wAttr_no (w : World) (h : Wr W0 w B gw ga 41 b (rsC x rv).toArray) (hk : kindB x.at_.kind = false) (h0 : 0 ≤ x.at_.kind ∧ x.at_.kind ≤ 255) :
    Calls Try.prog 131 #[.pointer (some ⟨gw, 0, none⟩), .pointer (some ⟨ga, 4, none⟩)] w fun e w' => e = .returned (.tuple #[]) ∧ WrBad W0 w' gw ga := by
  obtain ⟨kd, hkd⟩ : ∃ kd, x.at_.kind = kd := ⟨_, rfl⟩
  have gal := h.lts.2
  have ca : w.cell? ⟨ga, 4, none⟩ = some (.int .u8 kd) := by rw [cell_of_row _ _ _ _ _ _ h.ha, ← hkd]; rfl
  rw [hkd] at hk h0
  have KI := isKind_any kd w
  rw [hk] at KI
  have HKI := Lib.hid KI
  have H := Lib.hid h
  clear h hk hkd KI
  have hm : kd % 4294967296 = kd := by omega
  go_enter Try.func131, Try.ntmps131
  go_wp2_with fail
  refine HKI.out.mono ?_
  rintro e w1 ⟨rfl, k1⟩
  have H1 := Lib.hid (H.out.ext k1)
  obtain ⟨v, hw, -⟩ := H1.out.hw
  obtain ⟨c0, c1, f0, f1, gl⟩ := blk2 hw
  have s1 := blk2_st1 (.bool true) hw
  have S1 := Lib.hid s1
  clear s1 hw k1 HKI H ca gal hm
  go_wp2_with fail
  (try simp only [Exit.inBlock, Exit.then])
  refine bodyPost_ret (results_none rfl _ _ _) rfl ?_
  rw [S1.out]
  exact ⟨rfl, H1.out.spoil⟩
theorem setC8 {w : World} {g o : Nat} {T : TypeId} {row : Array Value} {x0 x1 x2 x3 x4 x5 x6 x7 : Value} (h : w.heap[g]? = some (.cells row T (0, 0))) :
    (((((((w.setCell ⟨g, o, none⟩ x0).setCell ⟨g, o + 1, none⟩ x1).setCell ⟨g, o + 2, none⟩ x2).setCell ⟨g, o + 3, none⟩ x3).setCell ⟨g, o + 4, none⟩ x4).setCell ⟨g, o + 5, none⟩ x5).setCell ⟨g, o + 6, none⟩ x6).setCell ⟨g, o + 7, none⟩ x7 = w.setRow g ((((((((row.setIfInBounds o x0).setIfInBounds (o + 1) x1).setIfInBounds (o + 2) x2).setIfInBounds (o + 3) x3).setIfInBounds (o + 4) x4).setIfInBounds (o + 5) x5).setIfInBounds (o + 6) x6).setIfInBounds (o + 7) x7) := by
  rw [setCell_eq_setRow w g o _ T (0, 0) _ h]
  rw [setCell_eq_setRow _ g (o + 1) _ T (0, 0) _ (setRow_heap w g row _ T (0, 0) h), setRow_setRow]
  rw [setCell_eq_setRow _ g (o + 2) _ T (0, 0) _ (setRow_heap w g row _ T (0, 0) h), setRow_setRow]
  rw [setCell_eq_setRow _ g (o + 3) _ T (0, 0) _ (setRow_heap w g row _ T (0, 0) h), setRow_setRow]
  rw [setCell_eq_setRow _ g (o + 4) _ T (0, 0) _ (setRow_heap w g row _ T (0, 0) h), setRow_setRow]
  rw [setCell_eq_setRow _ g (o + 5) _ T (0, 0) _ (setRow_heap w g row _ T (0, 0) h), setRow_setRow]
  rw [setCell_eq_setRow _ g (o + 6) _ T (0, 0) _ (setRow_heap w g row _ T (0, 0) h), setRow_setRow]
  rw [setCell_eq_setRow _ g (o + 7) _ T (0, 0) _ (setRow_heap w g row _ T (0, 0) h), setRow_setRow]
/-- The state from here on, and back. -/
theorem WrQ.re {W0 w : World} {B gw ga : Nat} {Ta : TypeId} {q : Bool} {b : List UInt8} {row : Array Value} (h : WrQ W0 w B gw ga Ta q b row) : WrQ w w B gw ga Ta q b row := { h with mu := Mut.refl _ _ }
theorem WrQ.un {W0 w w' : World} {B gw ga : Nat} {Ta : TypeId} {q q' : Bool} {b b' : List UInt8} {row row' : Array Value} (h : WrQ W0 w B gw ga Ta q b row) (k : WrQ w w' B gw ga Ta q' b' row') : WrQ W0 w' B gw ga Ta q' b' row' := { k with mu := h.mu.trans k.mu }
set_option maxHeartbeats 8000000 in
theorem wAttr_yes (w : World) (h : Wr W0 w B gw ga 41 b (rsC x rv).toArray) (hk : kindB x.at_.kind = true) (h0 : x.at_.Ok) (hb : b.length ≤ 90000) :
    Calls Try.prog 131 #[.pointer (some ⟨gw, 0, none⟩), .pointer (some ⟨ga, 4, none⟩)] w fun e w' => e = .returned (.tuple #[]) ∧ Wr W0 w' B gw ga 41 (b ++ attrB x.at_) (rsC { x with at_ := at0 } rv).toArray := by
  obtain ⟨kd, hkd⟩ : ∃ kd, x.at_.kind = kd := ⟨_, rfl⟩
  have gal := h.lts.2
  have ca : w.cell? ⟨ga, 4, none⟩ = some (.int .u8 kd) := by rw [cell_of_row _ _ _ _ _ _ h.ha, ← hkd]; rfl
  rw [hkd] at hk
  have KI := isKind_any kd w
  rw [hk] at KI
  have HKI := Lib.hid KI
  have H := Lib.hid h
  have hk0 := h0.kind
  have HA0 := Lib.hid h0
  rw [hkd] at hk0
  have HKD := Lib.hid hkd
  clear h hk hkd KI h0
  have hm : kd % 4294967296 = kd := by omega
  go_enter Try.func131, Try.ntmps131
  go_wp2_with fail
  refine HKI.out.mono ?_
  rintro e w1 ⟨rfl, k1⟩
  have H1 := Lib.hid (H.out.ext k1)
  obtain ⟨v, hw, hv, -⟩ := H1.out.hw
  obtain ⟨A, c, rfl⟩ := hv.rs.form
  obtain ⟨c0, -, f0, -, gl⟩ := blk2 hw
  have ca : w1.cell? ⟨ga, 4, none⟩ = some (.int .u8 kd) := by rw [cell_of_row _ _ _ _ _ _ H1.out.ha, ← HKD.out]; rfl
  have gal := H1.out.lts.2
  have HV := Lib.hid hv
  clear hw k1 HKI H hv
  go_upto_region 2 with fail
  have e0 := fun (ψ : World → Prop) (e : ExtP w1.heap.size w1 ψ) => e.cell c0 gl
  have e1 := fun (ψ : World → Prop) (e : ExtP w1.heap.size w1 ψ) => e.cell ca gal
  clear c0 f0 ca
  refine wp_region_pieces 11  [(true, [0, 1, 2, 3, 4, 5, 6, 7, 8, 9]), (false, [10])] (by kernel_rfl) (by kernel_rfl) ?_; simp only [pick, List.map_cons, List.map_nil, List.flatMap_cons, List.flatMap_nil, Option.toList_some, List.singleton_append, List.drop_succ_cons, List.drop_zero, List.getElem?_cons_zero, List.getElem?_cons_succ]
  refine ⟨by kernel_rfl, ?_⟩; apply Exists.intro; refine ⟨fun ψ hψ hne => (by (repeat (go_big_quiet_step (( fail )))); exact wpQuiet_nil rfl), ?_⟩
  intro w2 h2 K hK
  clear e0 e1
  go_wp2_with fail
  refine (Word_any (.slice A b.length c) b kd w2 ((HV.out.ext h2).rs) hk0.1 (by omega) (by omega)).mono ?_
  rintro e w3 ⟨v2, rfl, o2, h3⟩
  have o2 : OwnZ w3 w2.heap.size 5 v2 (b ++ beN kd 4) := o2.z
  obtain ⟨b2, hb2⟩ : ∃ b2, b ++ beN kd 4 = b2 := ⟨_, rfl⟩
  have HL2 : Hid (b2.length = b.length + 4) := Lib.hid (by rw [← hb2]; simp [beN_length])
  rw [hb2] at o2
  have HB2 := Lib.hid hb2
  clear hb2
  obtain ⟨A2, c2, rfl⟩ := o2.rs.form
  have F2 := Lib.hid (And.intro (o2.off (H1.out.ext h2).lts.1) (o2.off (H1.out.ext h2).lts.2))
  go_wp2_with fail
  refine hK _ _ h3 ?_
  clear hK K
  intro w4 h4
  have H2 := H1.out.ext (Ext.trans (Ext.trans h2 h3) h4)
  have O2 : OwnZ w4 B 5 (.slice A2 b2.length c2) b2 := (o2.ext h4).mono (Nat.le_trans H1.out.lB (Below.size h2))
  obtain ⟨v0, hw2, -⟩ := H2.hw
  obtain ⟨c0, -, f0, -, gl⟩ := blk2 hw2
  have s0 := blk2_st0 (.slice A2 b2.length c2) hw2
  have ST := Lib.hid s0
  have H3 := Lib.hid (H2.put O2 F2.out)
  clear s0 hw2 H2 O2 o2 h2 h3 h4 HV
  go_upto_region 3 with fail
  rw [ST.out]
  clear ST c0 f0 gl H1
  generalize w4.setRow gw _ = V at *
  go_wp2_with fail
  refine (numbersOf_any ga 4 V).mono ?_
  rintro e w5 ⟨gs, rfl, hgs, hg5, k5⟩
  have HR0 := Lib.hid (H3.out.ext k5)
  have HG0 := Lib.hid hg5
  have hgw : gs ≠ gw := by have := H3.out.lts.1; omega
  have hga : gs ≠ ga := by have := H3.out.lts.2; omega
  have HNE := Lib.hid (And.intro hgw hga)
  clear hg5 k5 H3 hgw hga hgs gal
  go_wp2_with fail
  go_loopw [32] (fun iv wr => ∃ (k : Nat) (bb : List UInt8), k ≤ 7 ∧ iv = .int .i64 k ∧ Hid (WrQ W0 wr B gw ga 41 false bb (rsC { x with at_ := zk k x.at_ } rv).toArray) ∧ Hid (wr.heap[gs]? = some (.cells (ptrs ga 4) 185 (0, 0))) ∧ Hid (bb = b2 ++ ((numsL x.at_).take k).flatMap intL)) (fun iv _ => 7 - (intOf iv).toNat)
  case atStart => exact ⟨0, b2, by omega, rfl, HR0, HG0, Lib.hid (by simp)⟩
  case round =>
    obtain ⟨k, bb, hk7, rfl, HR, HG, HBB⟩ := hrel
    have HBL : Hid (bb.length ≤ 100000) := Lib.hid (by
      rw [HBB.out, List.length_append, HL2.out]
      have : (((numsL x.at_).take k).flatMap intL).length ≤ 56 := by
        have e : ∀ l : List Int, (l.flatMap intL).length = l.length * 8 := fun l => by
          induction l with
          | nil => rfl
          | cons y l ih => simp only [List.flatMap_cons, List.length_append, ih, List.length_cons, intL, beL_length]; omega
        rw [e, List.length_take]
        omega
      omega)
    have hgl := heap_lt HG.out
    clear HR0 HG0
    by_cases hk : k < 7
    · have h7 : k = 0 ∨ k = 1 ∨ k = 2 ∨ k = 3 ∨ k = 4 ∨ k = 5 ∨ k = 6 := by omega
      clear hk hk7
      rcases h7 with rfl | rfl | rfl | rfl | rfl | rfl | rfl
      · as_aux_lemma =>
          have hc : wr.cell? ⟨gs, 0, none⟩ = some (.pointer (some ⟨ga, 5, none⟩)) := by rw [cell_of_row _ _ _ _ _ _ HG.out]; rfl
          have KX : Hid (Calls Try.prog 116 #[.pointer (some ⟨gw, 0, none⟩), .pointer (some ⟨ga, 5, none⟩)] wr fun e w' => e = .returned (.tuple #[]) ∧ WrQ wr w' B gw ga 41 false (bb ++ intL x.at_.mode) (rsC { x with at_ := zk 1 x.at_ } rv).toArray) := Lib.hid (wInt wr HR.out.re rfl HA0.out.mode HBL.out)
          have HBB2 : Hid (bb ++ intL x.at_.mode = b2 ++ ((numsL x.at_).take 1).flatMap intL) := Lib.hid (by rw [HBB.out]; simp [numsL])
          clear HBB
          go_wp2_with fail
          refine KX.out.mono ?_
          rintro e w6 ⟨rfl, h6⟩
          have HR6 := Lib.hid (HR.out.un h6)
          have HG6 := Lib.hid ((h6.mu.block gs hgl (fun h => by have := HNE.out; omega)).trans HG.out)
          clear HR HG h6 KX hc
          go_wp2_with fail
          go_roundw
          case rel => exact ⟨1, _, by omega, by go_num, HR6, HG6, HBB2⟩
          case measure => simp only [intOf]; omega
      · as_aux_lemma =>
          have hc : wr.cell? ⟨gs, 1, none⟩ = some (.pointer (some ⟨ga, 6, none⟩)) := by rw [cell_of_row _ _ _ _ _ _ HG.out]; rfl
          have KX : Hid (Calls Try.prog 116 #[.pointer (some ⟨gw, 0, none⟩), .pointer (some ⟨ga, 6, none⟩)] wr fun e w' => e = .returned (.tuple #[]) ∧ WrQ wr w' B gw ga 41 false (bb ++ intL x.at_.links) (rsC { x with at_ := zk 2 x.at_ } rv).toArray) := Lib.hid (wInt wr HR.out.re rfl HA0.out.links HBL.out)
          have HBB2 : Hid (bb ++ intL x.at_.links = b2 ++ ((numsL x.at_).take 2).flatMap intL) := Lib.hid (by rw [HBB.out]; simp [numsL])
          clear HBB
          go_wp2_with fail
          refine KX.out.mono ?_
          rintro e w6 ⟨rfl, h6⟩
          have HR6 := Lib.hid (HR.out.un h6)
          have HG6 := Lib.hid ((h6.mu.block gs hgl (fun h => by have := HNE.out; omega)).trans HG.out)
          clear HR HG h6 KX hc
          go_wp2_with fail
          go_roundw
          case rel => exact ⟨2, _, by omega, by go_num, HR6, HG6, HBB2⟩
          case measure => simp only [intOf]; omega
      · as_aux_lemma =>
          have hc : wr.cell? ⟨gs, 2, none⟩ = some (.pointer (some ⟨ga, 7, none⟩)) := by rw [cell_of_row _ _ _ _ _ _ HG.out]; rfl
          have KX : Hid (Calls Try.prog 116 #[.pointer (some ⟨gw, 0, none⟩), .pointer (some ⟨ga, 7, none⟩)] wr fun e w' => e = .returned (.tuple #[]) ∧ WrQ wr w' B gw ga 41 false (bb ++ intL x.at_.size) (rsC { x with at_ := zk 3 x.at_ } rv).toArray) := Lib.hid (wInt wr HR.out.re rfl HA0.out.size HBL.out)
          have HBB2 : Hid (bb ++ intL x.at_.size = b2 ++ ((numsL x.at_).take 3).flatMap intL) := Lib.hid (by rw [HBB.out]; simp [numsL])
          clear HBB
          go_wp2_with fail
          refine KX.out.mono ?_
          rintro e w6 ⟨rfl, h6⟩
          have HR6 := Lib.hid (HR.out.un h6)
          have HG6 := Lib.hid ((h6.mu.block gs hgl (fun h => by have := HNE.out; omega)).trans HG.out)
          clear HR HG h6 KX hc
          go_wp2_with fail
          go_roundw
          case rel => exact ⟨3, _, by omega, by go_num, HR6, HG6, HBB2⟩
          case measure => simp only [intOf]; omega
      · as_aux_lemma =>
          have hc : wr.cell? ⟨gs, 3, none⟩ = some (.pointer (some ⟨ga, 8, none⟩)) := by rw [cell_of_row _ _ _ _ _ _ HG.out]; rfl
          have KX : Hid (Calls Try.prog 116 #[.pointer (some ⟨gw, 0, none⟩), .pointer (some ⟨ga, 8, none⟩)] wr fun e w' => e = .returned (.tuple #[]) ∧ WrQ wr w' B gw ga 41 false (bb ++ intL x.at_.mtime) (rsC { x with at_ := zk 4 x.at_ } rv).toArray) := Lib.hid (wInt wr HR.out.re rfl HA0.out.mtime HBL.out)
          have HBB2 : Hid (bb ++ intL x.at_.mtime = b2 ++ ((numsL x.at_).take 4).flatMap intL) := Lib.hid (by rw [HBB.out]; simp [numsL])
          clear HBB
          go_wp2_with fail
          refine KX.out.mono ?_
          rintro e w6 ⟨rfl, h6⟩
          have HR6 := Lib.hid (HR.out.un h6)
          have HG6 := Lib.hid ((h6.mu.block gs hgl (fun h => by have := HNE.out; omega)).trans HG.out)
          clear HR HG h6 KX hc
          go_wp2_with fail
          go_roundw
          case rel => exact ⟨4, _, by omega, by go_num, HR6, HG6, HBB2⟩
          case measure => simp only [intOf]; omega
      · as_aux_lemma =>
          have hc : wr.cell? ⟨gs, 4, none⟩ = some (.pointer (some ⟨ga, 9, none⟩)) := by rw [cell_of_row _ _ _ _ _ _ HG.out]; rfl
          have KX : Hid (Calls Try.prog 116 #[.pointer (some ⟨gw, 0, none⟩), .pointer (some ⟨ga, 9, none⟩)] wr fun e w' => e = .returned (.tuple #[]) ∧ WrQ wr w' B gw ga 41 false (bb ++ intL x.at_.ctime) (rsC { x with at_ := zk 5 x.at_ } rv).toArray) := Lib.hid (wInt wr HR.out.re rfl HA0.out.ctime HBL.out)
          have HBB2 : Hid (bb ++ intL x.at_.ctime = b2 ++ ((numsL x.at_).take 5).flatMap intL) := Lib.hid (by rw [HBB.out]; simp [numsL])
          clear HBB
          go_wp2_with fail
          refine KX.out.mono ?_
          rintro e w6 ⟨rfl, h6⟩
          have HR6 := Lib.hid (HR.out.un h6)
          have HG6 := Lib.hid ((h6.mu.block gs hgl (fun h => by have := HNE.out; omega)).trans HG.out)
          clear HR HG h6 KX hc
          go_wp2_with fail
          go_roundw
          case rel => exact ⟨5, _, by omega, by go_num, HR6, HG6, HBB2⟩
          case measure => simp only [intOf]; omega
      · as_aux_lemma =>
          have hc : wr.cell? ⟨gs, 5, none⟩ = some (.pointer (some ⟨ga, 10, none⟩)) := by rw [cell_of_row _ _ _ _ _ _ HG.out]; rfl
          have KX : Hid (Calls Try.prog 116 #[.pointer (some ⟨gw, 0, none⟩), .pointer (some ⟨ga, 10, none⟩)] wr fun e w' => e = .returned (.tuple #[]) ∧ WrQ wr w' B gw ga 41 false (bb ++ intL x.at_.ino) (rsC { x with at_ := zk 6 x.at_ } rv).toArray) := Lib.hid (wInt wr HR.out.re rfl HA0.out.ino HBL.out)
          have HBB2 : Hid (bb ++ intL x.at_.ino = b2 ++ ((numsL x.at_).take 6).flatMap intL) := Lib.hid (by rw [HBB.out]; simp [numsL])
          clear HBB
          go_wp2_with fail
          refine KX.out.mono ?_
          rintro e w6 ⟨rfl, h6⟩
          have HR6 := Lib.hid (HR.out.un h6)
          have HG6 := Lib.hid ((h6.mu.block gs hgl (fun h => by have := HNE.out; omega)).trans HG.out)
          clear HR HG h6 KX hc
          go_wp2_with fail
          go_roundw
          case rel => exact ⟨6, _, by omega, by go_num, HR6, HG6, HBB2⟩
          case measure => simp only [intOf]; omega
      · as_aux_lemma =>
          have hc : wr.cell? ⟨gs, 6, none⟩ = some (.pointer (some ⟨ga, 11, none⟩)) := by rw [cell_of_row _ _ _ _ _ _ HG.out]; rfl
          have KX : Hid (Calls Try.prog 116 #[.pointer (some ⟨gw, 0, none⟩), .pointer (some ⟨ga, 11, none⟩)] wr fun e w' => e = .returned (.tuple #[]) ∧ WrQ wr w' B gw ga 41 false (bb ++ intL x.at_.gen) (rsC { x with at_ := zk 7 x.at_ } rv).toArray) := Lib.hid (wInt wr HR.out.re rfl HA0.out.gen HBL.out)
          have HBB2 : Hid (bb ++ intL x.at_.gen = b2 ++ ((numsL x.at_).take 7).flatMap intL) := Lib.hid (by rw [HBB.out]; simp [numsL])
          clear HBB
          go_wp2_with fail
          refine KX.out.mono ?_
          rintro e w6 ⟨rfl, h6⟩
          have HR6 := Lib.hid (HR.out.un h6)
          have HG6 := Lib.hid ((h6.mu.block gs hgl (fun h => by have := HNE.out; omega)).trans HG.out)
          clear HR HG h6 KX hc
          go_wp2_with fail
          go_roundw
          case rel => exact ⟨7, _, by omega, by go_num, HR6, HG6, HBB2⟩
          case measure => simp only [intOf]; omega
    · obtain rfl : k = 7 := by omega
      have ha := HR.out.ha
      have gal := heap_lt ha
      have fa : ∀ o, wr.frozen? ⟨ga, o, none⟩ = false := fun o => by simp [World.frozen?, ha]
      have c4 : wr.cell? ⟨ga, 4, none⟩ = some (.int .u8 x.at_.kind) := by rw [cell_of_row _ _ _ _ _ _ ha]; rfl
      have c5 : wr.cell? ⟨ga, 5, none⟩ = some (.int .i64 (zk 7 x.at_).mode) := by rw [cell_of_row _ _ _ _ _ _ ha]; rfl
      have c6 : wr.cell? ⟨ga, 6, none⟩ = some (.int .i64 (zk 7 x.at_).links) := by rw [cell_of_row _ _ _ _ _ _ ha]; rfl
      have c7 : wr.cell? ⟨ga, 7, none⟩ = some (.int .i64 (zk 7 x.at_).size) := by rw [cell_of_row _ _ _ _ _ _ ha]; rfl
      have c8 : wr.cell? ⟨ga, 8, none⟩ = some (.int .i64 (zk 7 x.at_).mtime) := by rw [cell_of_row _ _ _ _ _ _ ha]; rfl
      have c9 : wr.cell? ⟨ga, 9, none⟩ = some (.int .i64 (zk 7 x.at_).ctime) := by rw [cell_of_row _ _ _ _ _ _ ha]; rfl
      have c10 : wr.cell? ⟨ga, 10, none⟩ = some (.int .i64 (zk 7 x.at_).ino) := by rw [cell_of_row _ _ _ _ _ _ ha]; rfl
      have c11 : wr.cell? ⟨ga, 11, none⟩ = some (.int .i64 (zk 7 x.at_).gen) := by rw [cell_of_row _ _ _ _ _ _ ha]; rfl
      have S8 := setC8 (o := 4) (x0 := .int .u8 0) (x1 := .int .i64 0) (x2 := .int .i64 0) (x3 := .int .i64 0) (x4 := .int .i64 0) (x5 := .int .i64 0) (x6 := .int .i64 0) (x7 := .int .i64 0) ha
      simp only [Nat.reduceAdd] at S8
      have HS8 := Lib.hid S8
      have HF := Lib.hid (HR.out.clr (rsC { x with at_ := at0 } rv).toArray)
      have HBF : Hid (bb = b ++ attrB x.at_) := Lib.hid (by rw [HBB.out, ← HB2.out, ← HKD.out]; simp [attrB, numsL])
      clear ha S8 HG hgl HBB HB2
      go_wp2_with fail
      go_end0
      refine ⟨rfl, ?_⟩
      rw [HS8.out, ← HBF.out]
      exact HF.out
end
end Go.Proofs.Yteahlnoonmfjhaa
