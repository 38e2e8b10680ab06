/- Records: begin. -/
import Derived.Test.YtbbkailmlaffjaaRcB
import Derived.Test.YtbbkailmlaffjaaCalmB
set_option linter.unusedVariables false
set_option maxRecDepth 100000
namespace Go.Proofs.Ytbbkailmlaffjaa
open Go.RowKit

theorem Ext.blk {w w' : World} {g : Nat} {o : Obj} (k : Ext w w') (h : w.heap[g]? = some o) : w'.heap[g]? = some o := (k.block g (heap_lt h)).trans h
theorem bvs_take (h : List UInt8) (n : Nat) : (bvs h).take n = bvs (h.take n) := by simp [bvs, List.map_take]
set_option maxHeartbeats 2000000 in
theorem begin_any {S : Nat → Prop} {g : Nat} {h : List UInt8} {v : Value} {s : Rc} (w : World) (q : RcP w S g h v s) (hd4 : s.hd.length = 4) (hb : s.body.length ≤ 4096) :
    Calls Try.prog 31 #[.pointer (some ⟨g, 0, none⟩)] w fun e w' => e = .returned (.tuple #[]) ∧ To S w w' (rcOb g s.begin) := by
  have h4 := q.h4
  have hhd : s.hd = h := by have := q.hh; rw [hd4, List.take_of_length_le (by omega)] at this; exact this.symm
  obtain ⟨A, c, rfl⟩ := q.row.form
  have hN := bn_lt h4
  have KR := newReader_any _ h w (rc_head q) (by omega)
  have KW := fun g2 w1 => word_any g2 (some h) w1
  have hw : (rdW (some h)).1 = (bn h : Int) := by
    show (if 4 ≤ h.length then (beV (h.take 4), some (h.drop 4)) else ((0 : Int), (none : St))).1 = _
    rw [if_pos (by omega), List.take_of_length_le (by omega)]
    exact beV_bn h
  rw [hw] at KW
  have hbeg : s.begin = if 4096 < s.body.length + bn h % 2147483648 then rcShut else { s with last := decide (2147483648 ≤ bn h), left := bn h % 2147483648 } := by unfold Rc.begin; rw [hhd]
  generalize bn h = N at *
  obtain ⟨lb, hlb⟩ : ∃ lb, decide (2147483648 ≤ N) = lb := ⟨_, rfl⟩
  obtain ⟨M, hM⟩ : ∃ M, N % 2147483648 = M := ⟨_, rfl⟩
  have b1 := bits_last N hN
  have b2 := bits_left N hN
  rw [hlb] at b1 hbeg
  rw [hM] at b2 hbeg
  have hM2 : M < 2147483648 := by omega
  have HBeg := Lib.hid hbeg
  have KR := Lib.hid KR
  have KW := Lib.hid KW
  have Q := Lib.hid q
  have HH := Lib.hid hhd
  clear hw hbeg hlb hM q hhd
  have B1 := Lib.hid b1
  have B2 := Lib.hid b2
  clear b1 b2
  go_enter Try.func31, Try.ntmps31
  go_wp2_with fail
  refine KR.out.mono ?_
  rintro e w1 ⟨g2, rfl, hr, hg2, h1⟩
  have KW1 := Lib.hid (KW.out g2 w1 hr)
  have hs1 := Below.size h1
  have HE1 : Hid (Ext w w1) := Lib.hid h1
  clear KW KR hr h1
  go_wp2_with fail
  refine KW1.out.mono ?_
  rintro e w2 ⟨rfl, -, hbut⟩
  have hX : Ext w w2 := Below.trans HE1.out (hbut.below hg2 hs1)
  have q2 := Q.out.ext hX
  have HX := Lib.hid hX
  have hgl := heap_lt Q.out.hg
  have ST1 : Hid (w2.setCell ⟨g, 6, none⟩ (.bool lb) = w2.setRow g (bvs h ++ rcR { s with last := lb } (.slice A s.body.length c)).toArray) := Lib.hid (rc_set 2 (.bool lb) q2.hg h4)
  have g1 := setRow_heap w2 g _ (bvs h ++ rcR { s with last := lb } (.slice A s.body.length c)).toArray _ _ q2.hg
  obtain ⟨-, -, c6, -, -, -, cf, cl⟩ := rc_cells q2.hg h4
  have M1 := Lib.hid ((Mut.of_ext (S := S) HX.out).trans (mut_setRow (S := S) q2.sg (bvs h ++ rcR { s with last := lb } (.slice A s.body.length c)).toArray))
  have hr2 := q2.row
  have R1 := Lib.hid (OwnR.set (row' := (bvs h ++ rcR { s with last := lb } (.slice A s.body.length c)).toArray) hr2 q2.hg (by decide))
  clear hX hbut KW1 HE1 q2 hs1 hr2
  go_upto_region 2 with fail
  rw [B1.out, ST1.out]
  clear ST1 c6 cf cl
  generalize w2.setRow g (bvs h ++ rcR { s with last := lb } (.slice A s.body.length c)).toArray = V1 at *
  obtain ⟨-, c5, -, -, -, -, cf, cl⟩ := rc_cells g1 h4
  have ST2 : Hid (V1.setCell ⟨g, 5, none⟩ (.int .i64 M) = V1.setRow g (bvs h ++ rcR { s with last := lb, left := M } (.slice A s.body.length c)).toArray) := Lib.hid (rc_set 1 (.int .i64 M) g1 h4)
  have g2 := setRow_heap V1 g _ (bvs h ++ rcR { s with last := lb, left := M } (.slice A s.body.length c)).toArray _ _ g1
  have M2 := Lib.hid (M1.out.trans (mut_setRow (S := S) Q.out.sg (bvs h ++ rcR { s with last := lb, left := M } (.slice A s.body.length c)).toArray))
  have R2 := Lib.hid (OwnR.set (row' := (bvs h ++ rcR { s with last := lb, left := M } (.slice A s.body.length c)).toArray) R1.out g1 (by decide))
  have b2 := B2.out
  go_upto_region 3 with fail
  rw [ST2.out]
  clear ST2 c5 cf cl b2 M1 R1 g1
  generalize V1.setRow g (bvs h ++ rcR { s with last := lb, left := M } (.slice A s.body.length c)).toArray = V2 at *
  obtain ⟨-, c5, -, c7, -, -, cf, cl⟩ := rc_cells g2 h4
  have hzV := M2.out.size
  have e0 := fun (ψ : World → Prop) (e : ExtP V2.heap.size V2 ψ) => e.cell c5 cl
  have e1 := fun (ψ : World → Prop) (e : ExtP V2.heap.size V2 ψ) => e.cell c7 cl
  clear c5 c7
  simp only at e0 e1
  have HG2 := Lib.hid g2
  clear g2
  refine wp_region_pieces 11  [(true, [0, 1, 2, 3, 4, 5, 6, 7, 8, 9, 10])] (by kernel_rfl) (by kernel_rfl) ?_; simp only [pick, List.map_cons, List.map_nil, List.flatMap_cons, List.flatMap_nil, Option.toList_some, List.singleton_append, List.drop_succ_cons, List.drop_zero, List.getElem?_cons_zero, List.getElem?_cons_succ]
  refine ⟨by kernel_rfl, ?_⟩; apply Exists.intro; refine ⟨fun ψ hψ hne => (by (repeat (go_big_quiet_step (( fail )))); exact wpQuiet_nil rfl), ?_⟩
  intro w3 h3
  clear e0 e1
  have g3 := Ext.blk h3 HG2.out
  have M3 := Lib.hid (M2.out.trans (Mut.of_ext h3))
  have R3 := Lib.hid (R2.out.ext h3)
  clear h3 M2 R2 HG2
  by_cases hbig : 4096 < s.body.length + M
  · have hbg : 4096 < (s.body.length : Int) + M := by omega
    have g4 := setRow_heap w3 g _ (bvs [0, 0, 0, 0] ++ rcR rcShut (.slice none 0 0)).toArray _ _ g3
    have F : Hid (To S w (w3.setRow g (bvs [0, 0, 0, 0] ++ rcR rcShut (.slice none 0 0)).toArray) (rcOb g s.begin)) := Lib.hid (by
      rw [HBeg.out, if_pos hbig]
      exact ⟨⟨[0, 0, 0, 0], .slice none 0 0, { hg := g4, h4 := rfl, hh := rfl, row := OwnR.nil, sg := .inl Q.out.sg, sv := fun b hb => by simp [Value.ownBlock] at hb }⟩, M3.out.trans (mut_setRow Q.out.sg _)⟩)
    have hst := storeAt_row (P := Try.prog) (ty := 48) (cs := (bvs [0, 0, 0, 0] ++ rcR rcShut (.slice none 0 0)).toArray) g3 (by kernel_rfl) (by simp [bvs, rcR, h4]) (by kernel_rfl)
    have ST := Lib.hid hst
    clear g3 M3 R3 HBeg HX g4 hst
    go_wp2_with (refine wpList_st rfl 48 (.tmp 34) (.tmp 33) rfl ST.out ?_; simp only [Act.put])
    go_end0
    exact ⟨rfl, F.out⟩
  · have hbg : ¬ (4096 < (s.body.length : Int) + M) := by omega
    have F : Hid (To S w w3 (rcOb g s.begin)) := Lib.hid (by
      rw [HBeg.out, if_neg hbig]
      exact ⟨⟨h, _, { hg := g3, h4 := h4, hh := by show h.take s.hd.length = s.hd; rw [HH.out, List.take_of_length_le (by omega)], row := R3.out, sg := .inl Q.out.sg, sv := fun b hb => .inl (Q.out.sv b hb) }⟩, M3.out⟩)
    clear g3 M3 R3 HBeg HX
    go_wp2
    go_end0
    exact ⟨rfl, F.out⟩
end Go.Proofs.Ytbbkailmlaffjaa
