/- Records: eat. -/
import Derived.Test.YtbbkailmlaffjaaRcC
import Derived.Test.YtbbkailmlaffjaaCalmS
import Derived.Deep.DeepCutAuto
set_option linter.unusedVariables false
set_option maxRecDepth 100000
namespace Go.Proofs.Ytbbkailmlaffjaa
open Go.RowKit

theorem app_byte {w : World} {B n : Nat} {v x : Value} {cs : List Value} {m : Nat} {new : List Value} {tx ty : TypeId} (ho : OwnR w B 5 1 One v n cs) (hs : Src Try.prog 1 tx x m new w) (hB : B ≤ w.heap.size) (hn : ∀ u ∈ new, One u) (hc : n + m ≤ 100000000) :
    ∃ v' w', (Builtin.append_ #[22, tx] ty #[v, x]).run Try.prog w = .ok v' w' ∧ OwnR w' B 5 1 One v' (n + m) (cs ++ new) ∧ Below B w w' ∧ w.grownBy w' v.ownBlock ∧ (∀ b, v'.ownBlock = some b → v.ownBlock = some b ∨ w.heap.size ≤ b) := by
  have h : (Try.prog.info? 5).map (fun i => (i.zero, i.size, i.bytes)) = some (some (.int .u8 0), 1, 1) := by kernel_rfl
  obtain ⟨i, hi, hz0, hz1, hz2⟩ := info_prt h
  exact appG2 (ty := ty) Try.underlying22 hi hz1 hz0 rfl ho hs hB (by omega) hn (by intro u hu; simp [Value.cells] at hu; subst hu; rfl) (by rw [hz2]; omega) (by omega)
theorem bvs_one (l : List UInt8) : ∀ u ∈ bvs l, One u := by
  intro u hu
  simp only [bvs, List.mem_map] at hu
  obtain ⟨b, _, rfl⟩ := hu
  rfl
theorem bvs_app (a b : List UInt8) : bvs (a ++ b) = bvs a ++ bvs b := by simp [bvs]
theorem RS.pre {w : World} {A : Option Addr} {c n : Nat} {l : List UInt8} (h : RS w (.slice A l.length c) l) (hn : n ≤ l.length) (h0 : 0 < n) : RS w (.slice A n n) (l.take n) := by
  rcases h with ⟨_, h⟩ | ⟨b, off, c', hv, hb, hc, hj⟩
  · rw [h] at hn; simp at hn; omega
  · simp only [Value.slice.injEq] at hv
    obtain ⟨rfl, -, rfl⟩ := hv
    have hl : (l.take n).length = n := by simp; omega
    refine .inr ⟨b, off, n, by rw [hl], hb, by omega, fun j hjl => ?_⟩
    rw [hj j (by omega)]
    simp only [bvs, List.getElem?_map, List.getElem?_take]
    rw [if_pos (by omega)]
/-- A stage of the walk: what lies at g, what of the row, what has changed. -/
structure Stg (w V : World) (S : Nat → Prop) (g : Nat) (h : List UInt8) (v : Value) (s : Rc) : Prop where
  hg : V.heap[g]? = some (.cells (bvs h ++ rcR s v).toArray 48 (0, 0))
  row : OwnR V 0 5 1 One v s.body.length (bvs s.body)
  m : Mut S w V
  sv : ∀ b, v.ownBlock = some b → S b ∨ (w.heap.size ≤ b ∧ b < V.heap.size)
theorem Stg.set {w V : World} {S : Nat → Prop} {g : Nat} {h h' : List UInt8} {v : Value} {s s' : Rc} (q : Stg w V S g h v s) (hS : S g) (hb : s'.body = s.body) : Stg w (V.setRow g (bvs h' ++ rcR s' v).toArray) S g h' v s' where
  hg := setRow_heap _ _ _ _ _ _ q.hg
  row := by rw [hb]; exact q.row.set q.hg (by decide)
  m := q.m.trans (mut_setRow hS _)
  sv := fun b hb => (q.sv b hb).imp id fun k => ⟨k.1, by simpa [World.setRow] using k.2⟩
theorem Stg.to {w V : World} {S : Nat → Prop} {g : Nat} {h : List UInt8} {v : Value} {s : Rc} (q : Stg w V S g h v s) (hS : S g) (h4 : h.length = 4) (hh : h.take s.hd.length = s.hd) : To S w V (rcOb g s) :=
  ⟨⟨h, v, { hg := q.hg, h4 := h4, hh := hh, row := q.row, sg := .inl hS, sv := fun b hb => q.sv b hb }⟩, q.m⟩
set_option maxHeartbeats 4000000 in
theorem eat_body {S : Nat → Prop} {g : Nat} {s : Rc} {A : Option Addr} {c : Nat} {ch : List UInt8} (w : World) (q : RcAt w S g s) (hok : s.Ok) (h4 : s.hd.length = 4) (hc : RS w (.slice A ch.length c) ch) (h0 : ch ≠ []) (hcl : ch.length ≤ 1000000000) (hhl : s.held ≤ 1000000000000) :
    Calls Try.prog 28 #[.pointer (some ⟨g, 0, none⟩), .slice A ch.length c] w fun e w' => e = .returned (.int .i64 (s.eatN ch)) ∧ To S w w' (rcOb g (s.eat (ch.take (s.eatN ch)))) := by
  obtain ⟨h, v, q⟩ := q
  obtain ⟨n, hn⟩ : ∃ n, s.eatN ch = n := ⟨_, rfl⟩
  have hleft := hok.bm h4
  have hbl := hok.bl
  have hpos : 0 < ch.length := List.length_pos_iff.2 h0
  have hn2 : n = min s.left ch.length := by rw [← hn]; unfold Rc.eatN; rw [if_pos h4]
  have hn0 : 0 < n := by omega
  have hnl : n ≤ s.left := by omega
  have hnc : n ≤ ch.length := by omega
  have hmin : min (s.left : Int) (ch.length : Int) = (n : Int) := by omega
  have heat : s.eat (ch.take n) = { s with body := s.body ++ ch.take n, left := s.left - n, held := s.held + n } := by
    unfold Rc.eat
    rw [if_pos h4]
    unfold Rc.eatB
    rw [show (ch.take n).length = n by simp; omega]
  rw [hn, heat]
  have hh4 := q.h4
  obtain ⟨b, off, rfl, -, hbw, hbc, -⟩ := hc.some_of h0
  have hpre := hc.pre hnc hn0
  have Q := Lib.hid q
  have HPre := Lib.hid hpre
  obtain ⟨Av, cv, rfl⟩ := q.row.form
  obtain ⟨c4, c5, -, c7, -, -, -, cl⟩ := rc_cells q.hg hh4
  rw [h4] at c4
  have HH := Lib.hid q.hh
  have hn3 : (ch.length < s.left → n = ch.length) ∧ (¬ ch.length < s.left → n = s.left) := by omega
  have HN3 := Lib.hid hn3
  clear q hc hpre hn heat hn2 h0 hmin hn3
  go_enter Try.func28, Try.ntmps28
  go_upto_region 2 with fail
  go_cut [5] (fun u wx => u = .int .i64 n ∧ Hid (w = wx))
  case first =>
    by_cases hlt : ch.length < s.left
    · have HE := Lib.hid (HN3.out.1 hlt)
      go_wp2_with fail
      go_meet
      case rel => exact ⟨by rw [HE.out], Lib.hid rfl⟩
    · have HE := Lib.hid (HN3.out.2 hlt)
      go_wp2_with fail
      go_meet
      case rel => exact ⟨by rw [HE.out], Lib.hid rfl⟩
  case rest =>
  obtain ⟨rfl, HW⟩ := hcut
  obtain rfl := HW.out
  clear HW
  go_wp2_with fail
  obtain ⟨So, HSo⟩ : ∃ So : Nat → Prop, Hid (So = fun j => (Value.slice Av s.body.length cv).ownBlock = some j) := ⟨_, Lib.hid rfl⟩
  have hng : ¬ So g := by rw [HSo.out]; exact fun e => Q.out.ne e
  have e0 : ∀ (ψ : World → Prop) (e : ExtS So w ψ), e.val.cell? ⟨g, 7, none⟩ = some (.slice Av s.body.length cv) := fun ψ e => e.cell c7 cl hng
  clear c4 c5 c7
  refine wp_region_piecesS So 10 [(true, [0, 1, 2, 3, 4, 5, 6, 7, 8]), (false, [9])] (by kernel_rfl) (by kernel_rfl) ?_
  simp only [pick, List.map_cons, List.map_nil, List.flatMap_cons, List.flatMap_nil, Option.toList_some, List.singleton_append, List.drop_succ_cons, List.drop_zero, List.getElem?_cons_zero, List.getElem?_cons_succ]
  refine ⟨by kernel_rfl, ?_⟩; apply Exists.intro; refine ⟨fun ψ hψ hne => (by (repeat (go_big_quiet_step (( fail )))); exact wpQuiet_nil rfl), ?_⟩
  clear e0
  intro W1 h1 K hK
  have hs1 := Below.size h1
  obtain ⟨v', W1', hr, ho, hb1, hg1, hs2⟩ := app_byte (tx := 22) (ty := 22) (Q.out.row.ext h1) ((HPre.out.ext h1).src Try.underlying22) (Nat.zero_le _) (bvs_one _) (by simp; omega)
  have MS : Hid (Mut So W1 W1') := Lib.hid (Mut.of_grown hg1 fun b hb => by rw [HSo.out]; exact hb)
  obtain ⟨Av', cv', rfl⟩ := ho.form
  rw [show (ch.take n).length = n by simp; omega] at hr ho hs2
  have Hr := Lib.hid hr
  have hg0 := (MS.out.block g (Nat.lt_of_lt_of_le cl hs1) hng).trans (Ext.blk h1 Q.out.hg)
  have HG0 := Lib.hid hg0
  have HO := Lib.hid ho
  have HS2 := Lib.hid hs2
  have HM0 : Hid (Mut S w W1') := Lib.hid ((Mut.of_ext h1).trans (MS.out.mono fun j hj => Q.out.sv j (by rw [HSo.out] at hj; exact hj)))
  clear hr ho hb1 hg1 hs2 hg0 h1
  go_wp2_with (at_builtin; refine wpList_app rfl (.tmp 23) (.tmp 27) 22 22 rfl Hr.out ?_; simp only [Act.put])
  refine hK _ _ MS.out ?_
  clear hK K
  simp only [List.setIfInBounds_toArray, List.set_cons_zero, List.set_cons_succ]
  intro W2 h2
  have hg2 := Ext.blk h2 HG0.out
  have hs2 := Below.size h2
  have ST0 : Hid (W2.setCell ⟨g, 7, none⟩ (.slice Av' (s.body.length + n) cv') = W2.setRow g (bvs h ++ rcR { s with body := s.body ++ ch.take n } (.slice Av' (s.body.length + n) cv')).toArray) := Lib.hid (rc_set 3 (.slice Av' (s.body.length + n) cv') hg2 hh4)
  have G0 : Hid (Stg w (W2.setRow g (bvs h ++ rcR { s with body := s.body ++ ch.take n } (.slice Av' (s.body.length + n) cv')).toArray) S g h (.slice Av' (s.body.length + n) cv') { s with body := s.body ++ ch.take n }) := Lib.hid
    { hg := setRow_heap _ _ _ _ _ _ hg2
      row := by
        have e : (s.body ++ ch.take n).length = s.body.length + n := by simp; omega
        show OwnR _ 0 _ 1 One _ (s.body ++ ch.take n).length (bvs (s.body ++ ch.take n))
        rw [e, bvs_app]
        exact (HO.out.ext h2).set hg2 (by decide)
      m := (HM0.out.trans (Mut.of_ext h2)).trans (mut_setRow Q.out.sg _)
      sv := fun b hb => by
        rcases HS2.out b hb with h | h
        · exact .inl (Q.out.sv b h)
        · refine .inr ⟨by omega, ?_⟩
          have := (own_lt (HO.out.ext h2) hb).2
          simpa [World.setRow] using this }
  obtain ⟨-, -, -, c7, -, -, cf, cl2⟩ := rc_cells hg2 hh4
  clear hg2 h2 HS2 HO HM0 HG0 MS Hr hs2 hs1
  go_upto_region 4 with fail
  rw [ST0.out]
  clear ST0 c7 cf cl2
  generalize W2.setRow g (bvs h ++ rcR { s with body := s.body ++ ch.take n } (.slice Av' (s.body.length + n) cv')).toArray = V1 at *
  have hsub : (s.left : Int) - (n : Int) = ((s.left - n : Nat) : Int) := by omega
  obtain ⟨-, c5, -, -, -, -, cf, cl2⟩ := rc_cells G0.out.hg hh4
  have ST1 : Hid (V1.setCell ⟨g, 5, none⟩ (.int .i64 ((s.left - n : Nat) : Int)) = V1.setRow g (bvs h ++ rcR { s with body := s.body ++ ch.take n, left := s.left - n } (.slice Av' (s.body.length + n) cv')).toArray) := Lib.hid (rc_set 1 _ G0.out.hg hh4)
  have G1 := Lib.hid (G0.out.set (h' := h) (s' := { s with body := s.body ++ ch.take n, left := s.left - n }) Q.out.sg rfl)
  clear G0
  simp only at c5
  go_upto_region 5 with fail
  rw [ST1.out]
  clear ST1 c5 cf cl2 hsub
  generalize V1.setRow g (bvs h ++ rcR { s with body := s.body ++ ch.take n, left := s.left - n } (.slice Av' (s.body.length + n) cv')).toArray = V2 at *
  obtain ⟨-, -, -, -, c8, -, cf, cl2⟩ := rc_cells G1.out.hg hh4
  have ST2 : Hid (V2.setCell ⟨g, 8, none⟩ (.int .i64 ((s.held : Int) + (n : Int))) = V2.setRow g (bvs h ++ rcR { s with body := s.body ++ ch.take n, left := s.left - n, held := s.held + n } (.slice Av' (s.body.length + n) cv')).toArray) := Lib.hid (rc_set 4 _ G1.out.hg hh4)
  have G2 := Lib.hid (G1.out.set (h' := h) (s' := { s with body := s.body ++ ch.take n, left := s.left - n, held := s.held + n }) Q.out.sg rfl)
  have F := Lib.hid (G2.out.to Q.out.sg hh4 HH.out)
  clear G1 G2
  simp only at c8
  go_wp2
  rw [ST2.out]
  go_ret
  exact ⟨rfl, F.out⟩
theorem copy_row (h x : List UInt8) (R : List Value) (k : Nat) (hk : k + x.length ≤ h.length) :
    (bvs h ++ R).toArray.toList.take k ++ (bvs x ++ (bvs h ++ R).toArray.toList.drop (k + (bvs x).length)) = bvs (h.take k ++ x ++ h.drop (k + x.length)) ++ R := by
  have hl : (bvs h).length = h.length := bvs_length h
  rw [bvs_length, bvs_app, bvs_app]
  simp only
  rw [List.take_append_of_le_length (by omega), List.drop_append_of_le_length (by omega)]
  simp [bvs, List.map_take, List.map_drop]
set_option maxHeartbeats 4000000 in
theorem eat_head {S : Nat → Prop} {g : Nat} {s : Rc} {A : Option Addr} {c : Nat} {ch : List UInt8} (w : World) (q : RcAt w S g s) (hok : s.Ok) (hd4 : s.hd.length ≠ 4) (hc : RS w (.slice A ch.length c) ch) (h0 : ch ≠ []) (hcl : ch.length ≤ 1000000000) (hhl : s.held ≤ 1000000000000) :
    Calls Try.prog 28 #[.pointer (some ⟨g, 0, none⟩), .slice A ch.length c] w fun e w' => e = .returned (.int .i64 (s.eatN ch)) ∧ To S w w' (rcOb g (s.eat (ch.take (s.eatN ch)))) := by
  obtain ⟨h, v, q⟩ := q
  obtain ⟨n, hn⟩ : ∃ n, s.eatN ch = n := ⟨_, rfl⟩
  obtain ⟨k, hk⟩ : ∃ k, s.hd.length = k := ⟨_, rfl⟩
  have hbl := hok.bl
  have hl4 := hok.hl
  have hpos : 0 < ch.length := List.length_pos_iff.2 h0
  have hn2 : n = min (4 - k) ch.length := by rw [← hn, ← hk]; unfold Rc.eatN; rw [if_neg hd4]
  rw [hk] at hd4 hl4
  have hk4 : k < 4 := by omega
  have hn0 : 0 < n := by omega
  have hnl : k + n ≤ 4 := by omega
  have hnc : n ≤ ch.length := by omega
  have htl : (ch.take n).length = n := by simp; omega
  obtain ⟨hd2, hhd2⟩ : ∃ hd2, s.hd ++ ch.take n = hd2 := ⟨_, rfl⟩
  have heat : s.eat (ch.take n) = if k + n = 4 then Rc.begin { s with hd := hd2, held := s.held + n } else { s with hd := hd2, held := s.held + n } := by
    unfold Rc.eat
    rw [if_neg (by omega)]
    unfold Rc.eatH
    rw [htl, hk, hhd2]
  have hne4 : ((k : Int) == 4) = false := by rw [beq_eq_false_iff_ne]; omega
  obtain ⟨E, hE⟩ : ∃ E, s.eat (ch.take n) = E := ⟨_, rfl⟩
  rw [hn, hE]
  have HEat := Lib.hid (hE.symm.trans heat)
  have hh4 := q.h4
  have hhd := q.hh
  rw [hk] at hhd
  obtain ⟨b, off, rfl, -, hbw, hbc, hbj⟩ := hc.some_of h0
  obtain ⟨Av, cv, rfl⟩ := q.row.form
  have hgq := q.hg
  obtain ⟨h', he'⟩ : ∃ h', h.take k ++ ch.take n ++ h.drop (k + n) = h' := ⟨_, rfl⟩
  have h4' : h'.length = 4 := by rw [← he']; simp; omega
  have hh' : h'.take (k + n) = hd2 := by
    rw [← he', List.take_left' (by simp; omega), hhd, hhd2]
  have hrow := copy_row h (ch.take n) (rcR s (.slice Av s.body.length cv)) k (by omega)
  rw [htl, he'] at hrow
  obtain ⟨cs, hcs⟩ : ∃ cs, bvs (ch.take n) = cs := ⟨_, rfl⟩
  have hcsl : cs.length = n := by rw [← hcs, bvs_length, htl]
  rw [hcs] at hrow
  have HROW := Lib.hid hrow
  have HCSL := Lib.hid hcsl
  have HCS := Lib.hid hcs
  have hcn : cs.length = Nat.min ch.length (4 - k) := by rw [hcsl]; show n = min _ _; omega
  have HCN := Lib.hid hcn
  have hfit : k + cs.length ≤ (bvs h ++ rcR s (.slice Av s.body.length cv)).toArray.size := by
    have : (bvs h).length = 4 := by rw [bvs_length]; exact hh4
    simp only [List.size_toArray, List.length_append]
    omega
  have HFIT := Lib.hid hfit
  have h1one : ∀ u ∈ cs, u.oneCell' = true := by rw [← hcs]; exact bvs_one _
  have H1ONE := Lib.hid h1one
  have hhl2 : hd2.length = k + n := by rw [← hhd2, List.length_append, hk, htl]
  have Q := Lib.hid q
  have HC := Lib.hid hbj
  have HH' := Lib.hid hh'
  have HTL := Lib.hid htl
  have HL2 := Lib.hid hhl2
  obtain ⟨c4, -, -, -, -, -, -, cl⟩ := rc_cells hgq hh4
  rw [hk] at c4
  have HHK := Lib.hid hk
  clear q hc hn heat hE hn2 h0 hbj hh' htl hhl2 hhd hgq hk he' hrow hcs hcsl hcn hfit h1one hhd2
  go_enter Try.func28, Try.ntmps28
  go_wp2_with fail
  obtain rfl | rfl | rfl | rfl : k = 0 ∨ k = 1 ∨ k = 2 ∨ k = 3 := by omega
  all_goals
    have e0 := fun (ψ : World → Prop) (e : ExtP w.heap.size w ψ) => e.cell c4 cl
    clear c4
    refine wp_region_pieces 9  [(true, [0, 1, 2, 3, 4, 5, 6, 7, 8])] (by kernel_rfl) (by kernel_rfl) ?_; simp only [pick, List.map_cons, List.map_nil, List.flatMap_cons, List.flatMap_nil, Option.toList_some, List.singleton_append, List.drop_succ_cons, List.drop_zero, List.getElem?_cons_zero, List.getElem?_cons_succ]
    refine ⟨by kernel_rfl, ?_⟩; apply Exists.intro; refine ⟨fun ψ hψ hne => (by (repeat (go_big_quiet_step (( fail )))); exact wpQuiet_nil rfl), ?_⟩
    clear e0
    intro w1 h1
    have hg1 := Ext.blk h1 Q.out.hg
    have hsrc : ∀ j v, cs[j]? = some v → w1.cell? ((⟨b, off, none⟩ : Addr).add j) = some v := fun j v hj => by
      have hjl := (List.getElem?_eq_some_iff.1 hj).1
      rw [HCSL.out] at hjl
      rw [Addr.add_lit]
      refine (h1.cell (p := ⟨b, off + j, none⟩) hbw).trans ?_
      rw [HC.out j (by omega), ← hj, ← HCS.out]
      simp only [bvs, List.getElem?_map, List.getElem?_take]
      rw [if_pos hjl]
    have HSRC := Lib.hid hsrc
    have HG1 := Lib.hid hg1
    have HE1 := Lib.hid h1
    clear h1 hg1 hsrc
    go_upto_region 8 with (refine wpList_copy_own rfl (.tmp 55) (.tmp 56) 22 22 rfl 5 Try.underlying22 (by kernel_rfl) g _ _ _ ⟨b, off, none⟩ _ _ rfl rfl (bvs h ++ rcR s (.slice Av s.body.length cv)).toArray 48 HG1.out cs HCN.out HSRC.out HFIT.out H1ONE.out ?_; rw [HROW.out, HCSL.out]; simp only [Act.put])
    have hgl1 : g < w1.heap.size := Nat.lt_of_lt_of_le cl (Below.size HE1.out)
    have G0 : Hid (Stg w (w1.setRow g (bvs h' ++ rcR s (.slice Av s.body.length cv)).toArray) S g h' (.slice Av s.body.length cv) s) := Lib.hid
      { hg := setRow_heap _ _ _ _ _ _ HG1.out
        row := (Q.out.row.ext HE1.out).set HG1.out (by decide)
        m := (Mut.of_ext HE1.out).trans (mut_setRow Q.out.sg _)
        sv := fun b hb => .inl (Q.out.sv b hb) }
    clear HG1 HSRC HE1 hgl1
    generalize w1.setRow g (bvs h' ++ rcR s (.slice Av s.body.length cv)).toArray = V0 at *
    obtain ⟨c4, -, -, -, -, -, cf, cl2⟩ := rc_cells G0.out.hg h4'
    rw [HHK.out] at c4
    go_upto_region 9 with fail
    first
      | rw [(show V0.setCell ⟨g, 4, none⟩ (.int .i64 ((n : Int))) = V0.setRow g (bvs h' ++ rcR { s with hd := hd2 } (.slice Av s.body.length cv)).toArray from by have := HL2.out; rw [show ((n : Int) : Int) = (hd2.length : Int) by omega]; exact rc_set 0 _ G0.out.hg h4')]
      | rw [(show V0.setCell ⟨g, 4, none⟩ (.int .i64 (1 + (n : Int))) = V0.setRow g (bvs h' ++ rcR { s with hd := hd2 } (.slice Av s.body.length cv)).toArray from by have := HL2.out; rw [show (1 + (n : Int) : Int) = (hd2.length : Int) by omega]; exact rc_set 0 _ G0.out.hg h4')]
      | rw [(show V0.setCell ⟨g, 4, none⟩ (.int .i64 (2 + (n : Int))) = V0.setRow g (bvs h' ++ rcR { s with hd := hd2 } (.slice Av s.body.length cv)).toArray from by have := HL2.out; rw [show (2 + (n : Int) : Int) = (hd2.length : Int) by omega]; exact rc_set 0 _ G0.out.hg h4')]
      | rw [(show V0.setCell ⟨g, 4, none⟩ (.int .i64 (3 + (n : Int))) = V0.setRow g (bvs h' ++ rcR { s with hd := hd2 } (.slice Av s.body.length cv)).toArray from by have := HL2.out; rw [show (3 + (n : Int) : Int) = (hd2.length : Int) by omega]; exact rc_set 0 _ G0.out.hg h4')]
    have G1 := Lib.hid (G0.out.set (h' := h') (s' := { s with hd := hd2 }) Q.out.sg rfl)
    clear G0 c4 cf cl2
    generalize V0.setRow g (bvs h' ++ rcR { s with hd := hd2 } (.slice Av s.body.length cv)).toArray = V1 at *
    obtain ⟨-, -, -, -, c8, -, cf, cl2⟩ := rc_cells G1.out.hg h4'
    have ST2 : Hid (V1.setCell ⟨g, 8, none⟩ (.int .i64 ((s.held : Int) + (n : Int))) = V1.setRow g (bvs h' ++ rcR { s with hd := hd2, held := s.held + n } (.slice Av s.body.length cv)).toArray) := Lib.hid (rc_set 4 _ G1.out.hg h4')
    have G2 := Lib.hid (G1.out.set (h' := h') (s' := { s with hd := hd2, held := s.held + n }) Q.out.sg rfl)
    clear G1
    simp only at c8
    go_upto_region 10 with fail
    rw [ST2.out]
    clear ST2 c8 cf cl2
    generalize V1.setRow g (bvs h' ++ rcR { s with hd := hd2, held := s.held + n } (.slice Av s.body.length cv)).toArray = V2 at *
    obtain ⟨c4, -, -, -, -, -, cf, cl2⟩ := rc_cells G2.out.hg h4'
    simp only at c4
    have h2h : h'.take hd2.length = hd2 := by rw [HL2.out]; exact HH'.out
    have F := Lib.hid (G2.out.to Q.out.sg h4' h2h)
    by_cases h5 : hd2.length = 4
    · have hb5 : ((hd2.length : Int) == 4) = true := by rw [beq_iff_eq]; omega
      have KB := Lib.hid (begin_any (S := gr S w V2) V2 { hg := G2.out.hg, h4 := h4', hh := h2h, row := G2.out.row, sg := .inl Q.out.sg, sv := G2.out.sv } h5 (by show s.body.length ≤ 4096; omega))
      have HL5 := Lib.hid h5
      clear h5 h2h G2
      go_wp2_with (go_at_call 31; refine KB.out.mono ?_; rintro e w5 ⟨rfl, h5⟩; have H5 := Lib.hid h5; clear h5 KB)
      go_ret
      refine ⟨rfl, ?_⟩
      rw [HEat.out, if_pos (by have := HL2.out; have := HL5.out; omega)]
      exact F.out.trans H5.out
    · have hb5 : ((hd2.length : Int) == 4) = false := by rw [beq_eq_false_iff_ne]; omega
      have HL5 := Lib.hid h5
      clear h5 h2h G2
      go_wp2
      go_ret
      refine ⟨rfl, ?_⟩
      rw [HEat.out, if_neg (by have := HL2.out; have := HL5.out; omega)]
      exact F.out
theorem eat_any {S : Nat → Prop} {g : Nat} {s : Rc} {A : Option Addr} {c : Nat} {ch : List UInt8} (w : World) (q : RcAt w S g s) (hok : s.Ok) (hc : RS w (.slice A ch.length c) ch) (h0 : ch ≠ []) (hcl : ch.length ≤ 1000000000) (hhl : s.held ≤ 1000000000000) :
    Calls Try.prog 28 #[.pointer (some ⟨g, 0, none⟩), .slice A ch.length c] w fun e w' => e = .returned (.int .i64 (s.eatN ch)) ∧ To S w w' (rcOb g (s.eat (ch.take (s.eatN ch)))) := by
  by_cases h4 : s.hd.length = 4
  · exact eat_body w q hok h4 hc h0 hcl hhl
  · exact eat_head w q hok h4 hc h0 hcl hhl
end Go.Proofs.Ytbbkailmlaffjaa
