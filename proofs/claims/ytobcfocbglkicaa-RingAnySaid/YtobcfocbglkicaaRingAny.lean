/- Proved: RingAny returns true whatever groups and text it is called with, and each argument reads behind the call as before. No condition. -/
import Derived.Test.YtobcfocbglkicaaRgI
import Derived.Test.YtobcfocbglkicaaCalmB
import Derived.Test.YtobcfocbglkicaaLift
import Derived.Deep.DeepCutAuto
set_option linter.unusedVariables false
set_option maxRecDepth 100000
namespace Go.Proofs.Ytobcfocbglkicaa
open Go.RowKit Go.ChangeShapes Go.WideShapes Go.ChangeAt Go.Deep
section
variable {H : Type} {enc : TypeId × Value → H} {W : World} {base : Nat} {b0 : Nat} {spare : Nat → Bool} {held : Bool}
theorem open_Wints {v : Value} {d : DataW H} {p : List MemPlace} {r : Reach} (hv : Value.okWide Try.prog W r b0 79 v) (h : DataW.Trod enc Try.prog W base spare held 79 v d p) : ∃ x : NumsT, v = x.v ∧ x.Ok .i64 W := open_nums Try.underlying79 Try.underlying3 (by kernel_rfl) hv h
end
end Go.Proofs.Ytobcfocbglkicaa
namespace Go.Proofs.Ytobcfocbglkicaa.ringAny
open Go.RowKit Go.ChangeShapes Go.WideShapes Go.ChangeAt Go.Deep Go.Proofs.Ytobcfocbglkicaa
attribute [local go_sem ↓] eql_root neq_root

set_option maxHeartbeats 32000000 in
theorem walk {w : World} (x : NumsT) (hx : x.Ok .i64 w) (bl : List UInt8) (wb : bl.length ≤ maxLen) :
    Calls Try.prog 12 #[x.v, .string (str bl)] w fun e w' => e = .returned (.bool true) ∧ Below w.heap.size w w' := by
  unfold maxLen at wb
  obtain ⟨vb, l⟩ := x
  have hvs := hx.vs
  have hlm := hx.len
  have hwf := hx.wf
  simp only at hvs hlm hwf ⊢
  unfold maxLen at hlm
  have z1 := str_size bl
  obtain ⟨A, n, c, rfl, hn, hcell⟩ : ∃ A n c, vb = .slice A n c ∧ n = l.length ∧ ∀ j (hj : j < l.length), ∃ b off, A = some ⟨b, off, none⟩ ∧ n ≤ c ∧ b < w.heap.size ∧ w.cell? ⟨b, off + j, none⟩ = some (.int .i64 l[j]) := by
    rcases hvs with ⟨rfl, h0⟩ | ⟨b, off, c, rfl, hlt, hc, hj⟩
    · have h1 : l = [] := by simpa using h0
      subst h1
      exact ⟨none, 0, 0, rfl, rfl, fun j hj => by simp at hj⟩
    · refine ⟨_, l.length, c, by simp, rfl, fun j hjl => ⟨b, off, rfl, by simpa using hc, hlt, ?_⟩⟩
      have := hj j (by simpa using hjl)
      simpa using this
  have Hc := Lib.hid hcell
  have hnm : n ≤ 9223372036854775807 := by omega
  have HN := Lib.hid hn
  clear hcell hvs hx hn hwf
  by_cases g1 : 100 < n
  · skip
    go_enter Try.func12, Try.ntmps12
    go_wp2_with fail
    refine (new_l (DSt.start w) 64 (by omega) (by omega)).mono ?_
    rintro e w1 ⟨g0, rfl, h1⟩
    go_wp2_with fail
    refine (rworks_any _).mono ?_
    rintro e w2 ⟨rfl, k2⟩
    go_wp2_with (go_at_call 46; refine (rworks_any _).mono ?_; rintro e w3 ⟨rfl, k3⟩)
    all_goals go_ret
    all_goals exact ⟨rfl, ((h1.ext k2).ext k3).bel⟩
  by_cases g2 : 300 < bl.length
  · skip
    go_enter Try.func12, Try.ntmps12
    go_wp2_with fail
    refine (new_l (DSt.start w) 64 (by omega) (by omega)).mono ?_
    rintro e w1 ⟨g0, rfl, h1⟩
    go_wp2_with fail
    refine (rworks_any _).mono ?_
    rintro e w2 ⟨rfl, k2⟩
    go_wp2_with (go_at_call 46; refine (rworks_any _).mono ?_; rintro e w3 ⟨rfl, k3⟩)
    all_goals go_ret
    all_goals exact ⟨rfl, ((h1.ext k2).ext k3).bel⟩
  have b1 : decide ((100 : Int) < (n : Int)) = false := by rw [decide_eq_false_iff_not]; omega
  have b2 : decide ((300 : Int) < (bl.length : Int)) = false := by rw [decide_eq_false_iff_not]; omega
  go_enter Try.func12, Try.ntmps12
  go_wp2_with fail
  refine (new_l (DSt.start w) 64 (by omega) (by omega)).mono ?_
  rintro e w1 ⟨g, rfl, h1⟩
  go_wp2_with fail
  refine (rworks_any _).mono ?_
  rintro e w2 ⟨rfl, k2⟩
  have h3 := (h1.ext k2).alloc (.cells (rt2 ⟨0, []⟩ ⟨0, []⟩) 80 (0, 0))
  replace h3 : DSt w [(w2.heap.size, .cells (rt2 ⟨0, []⟩ ⟨0, []⟩) 80 (0, 0))] [(g, ⟨64, [], [], 0, [], false⟩)] _ := h3
  have H3 := Lib.hid h3
  clear h1 h3 k2
  go_upto_region 5 with (refine wpList_al rfl 80 rfl alloc_rt2 ?_; simp only [Act.put])
  try simp only [List.setIfInBounds_toArray, List.set_cons_zero, List.set_cons_succ]
  change Code.wp _ _ _ _ (w2.alloc (.cells (rt2 ⟨0, []⟩ ⟨0, []⟩) 80 (0, 0)))
  generalize w2.alloc (.cells (rt2 ⟨0, []⟩ ⟨0, []⟩) 80 (0, 0)) = V3 at *
  generalize w2.heap.size = g7 at *
  go_wp2_with fail
  go_loopw [8] (fun i wr => ∃ (j : Nat) (on wt : List Wr) (a b : RoT), j ≤ n ∧ i = .int .i64 j ∧ wt.length ≤ j ∧ Hid (PlR (on ++ wt) 0 a) ∧ Hid (PlR (on ++ wt) 1 b) ∧ Hid (DSt w [(g7, .cells (rt2 a b) 80 (0, 0))] [(g, ⟨64, on, wt, 0, [], false⟩)] wr)) (fun i _ => n - (intOf i).toNat)
  case atStart => exact ⟨0, [], [], ⟨0, []⟩, ⟨0, []⟩, Nat.zero_le _, rfl, Nat.zero_le _, Lib.hid (PlR.nil _), Lib.hid (PlR.nil _), H3⟩
  case round =>
    clear H3
    obtain ⟨j, on, wt, a, b, hj, rfl, hwt, ha, hb, H⟩ := hrel
    by_cases hjl : j < n
    · have hjl' : j < l.length := by rw [← HN.out]; exact hjl
      obtain ⟨bb, off, rfl, hlc, hlt, hcell⟩ := Hc.out j hjl'
      obtain ⟨t, ht⟩ : ∃ t, t = l[j] := ⟨_, rfl⟩
      rw [← ht] at hcell
      clear ht
      have cx : wr.cell? ⟨bb, off + j, none⟩ = some (.int .i64 t) := (Below.cell (p := ⟨bb, off + j, none⟩) H.out.bel hlt).trans hcell
      have hltw : bb < wr.heap.size := Nat.lt_of_lt_of_le hlt H.out.bel.size
      obtain ⟨u, hu⟩ : ∃ u, u = UInt8.ofNat j := ⟨_, rfl⟩
      have hun : (j : Int) = (u.toNat : Int) := by rw [hu]; exact u8_ofNat (by omega)
      have HU := Lib.hid hun
      clear hu hun
      go_wp2_with fail
      have e1 : ∀ ψ (e : ExtS (fun k => wr.heap.size ≤ k) wr ψ), e.val.cell? ⟨bb, off + j, none⟩ = some (.int .i64 t) := fun ψ e => e.cell cx hltw (by omega)
      refine C.wp_region_piecesC (fun k => wr.heap.size ≤ k) (fun k => wr.heap.size ≤ k) 13 11 [(true, [0, 1, 2, 3, 4, 5, 6]), (false, [7]), (false, [8]), (true, [9, 10])] [(false, [12])] (O := .cells (rtC ⟨0, []⟩) 29) (by kernel_rfl) (fun _ h => h) (by kernel_rfl) rfl rfl (fun _ _ => by unfold execOp; simp only [Sem.run_bind, alloc_rt, Result.andThen_ok, Sem.run_pure]) ?_; simp only [pick, List.map_cons, List.map_nil, List.flatMap_cons, List.flatMap_nil, Option.toList_some, List.singleton_append, List.drop_succ_cons, List.drop_zero, List.getElem?_cons_zero, List.getElem?_cons_succ]
      refine ⟨by kernel_rfl, ?_⟩; apply Exists.intro; refine ⟨fun ψ hψ hne => (by (repeat (go_big_quiet_step (( fail )))); exact wpQuiet_nil rfl), ?_⟩
      intro wa ha1 K hK
      clear e1
      go_wp2_with fail
      refine hK _ _ (Mut.of_ext (extAl wa _)) ?_
      clear hK K
      intro wb1 hb1 K hK
      have hblk : wb1.heap[wa.heap.size]? = some (.cells (bvs [u]).toArray 5 (0, 0)) := by
        have e : (bvs [u]).toArray = #[Value.int .u8 (j : Int)] := by rw [HU.out]; rfl
        rw [e]
        exact (Below.block hb1 wa.heap.size (by simp)).trans (heap_alloc_last wa _)
      have rs := rs_block (l := [u]) (off := 0) (c := 1) hblk (by simp) (by simp)
      have cv : (convert 38 9 (.slice (some ⟨wa.heap.size, 0, none⟩) 1 1)).run Try.prog wb1 = .ok (.string (str [u])) wb1 := rs.conv Try.underlying38 Try.underlying5 Try.underlying9
      clear hblk rs
      go_wp2_with fail
      refine hK _ _ (Mut.of_ext (Ext.refl _)) ?_
      clear hK K cv
      have add : ∀ w, (binOp .add 9 (.string (str bl)) (.string (str [u]))).run Try.prog w = .ok (.string (str (bl ++ [u]))) w := fun w => by go_simp; rw [if_neg (by rw [str_size]; simp; omega), str_append]
      have ADD := Lib.hid add
      clear add
      refine ⟨by kernel_rfl, ?_⟩; apply Exists.intro; refine ⟨fun ψ hψ hne => (by (repeat (first | ( go_big_quiet_want; refine quiet_add 9 _ (.tmp 45) (.tmp 49) rfl (fun w' _ => ADD.out w') ?_; go_simp; go_big_quiet_on ) | go_big_quiet_step ((  go_at_call 47; exact extS_of hψ (r_any t (bl ++ [u]) _) )))); exact wpQuiet_nil rfl), ?_⟩
      intro wc hc g9 hg9 hO9
      intro wd hd K hK
      have ex : Ext wr wd := Ext.trans ha1 (Ext.trans (extAl wa _) (Ext.trans hb1 (Ext.trans hc hd)))
      have hO' := (Below.block hd g9 (Array.getElem?_eq_some_iff.1 hO9).1).trans hO9
      have hst := st_rt (r := ⟨t, bl ++ [u]⟩) hO'
      have hgd := setRow_heap wd g9 _ (rtC ⟨t, bl ++ [u]⟩) _ _ hO'
      refine wpList_st rfl 29 (.tmp 9) (.tmp 51) rfl hst ?_
      go_wp2_with fail
      refine hK _ _ ⟨rfl, rfl, rfl, by simp [World.setRow], fun i _ hn => setRow_other wd g9 i _ (by rintro rfl; exact hn hg9)⟩ ?_
      clear hK K
      intro wj hj1
      have b9 := (Below.block hj1 g9 (Array.getElem?_eq_some_iff.1 hgd).1).trans hgd
      have hE : Ext wr wj := Ext.trans (below_setRow ex hg9 _) hj1
      have h4 := H.out.adopt hE hg9 b9
      have ls : (bl ++ [u]).length ≤ 492 := by simp; omega
      generalize bl ++ [u] = s at *
      have hmx : s.length ≤ maxLen := by unfold maxLen; omega
      have H4 := Lib.hid h4
      have ld := ld_rt b9
      unfold rtC at ld
      have LD := Lib.hid ld
      clear hj1 hgd hst hO' ex hd hO9 hc hb1 ha1 h4 hE b9 ld cx H ADD
      by_cases hv : 1 ≤ t ∧ t ≤ 2147483647
      · obtain ⟨hv1, hv2⟩ := hv
        obtain ⟨S, hS⟩ := rkS_go (t := t) (l := s) hv1 hv2 ls
        have lS : S.length = 512 := by
          have := rkS_length (t := t) (l := s)
          rw [hS] at this
          exact this
        obtain ⟨p, hp, hpl⟩ : ∃ p : Nat, p < 2 ∧ placeR t = (p : Int) := ⟨(t % 2).toNat, by omega, by rw [placeR_pos (by omega)]; omega⟩
        have hput : DK.put ⟨64, on, wt, 0, [], false⟩ t s = (⟨64, on, wt ++ [((p : Int), S)], 0, [], false⟩, 0) := by
          rw [DK.put_eq hS, hpl]
          exact DK.write_go (by omega) (by omega)
        obtain ⟨ha2, hb2⟩ := pl2_put ha.out hb.out hv1 hS hp hpl
        have hnz : 1 ≤ (pick2 p ⟨t, s⟩ a).t ∨ 1 ≤ (pick2 p b ⟨t, s⟩).t := by
          rcases Nat.eq_zero_or_pos p with h | h
          · left; unfold pick2; rw [if_pos h]; exact hv1
          · right; unfold pick2; rw [if_neg (by omega)]; exact hv1
        have HPU := Lib.hid hput
        have HA2 := Lib.hid ha2
        have HB2 := Lib.hid hb2
        have HNZ := Lib.hid hnz
        clear hput ha2 hb2 hnz hS lS ha hb
        go_wp2_with (refine wpList_ld rfl 29 (.tmp 9) rfl LD.out ?_; simp only [Act.put])
        refine (put_k 0 H4.out rfl t s hmx _ _ HPU.out (by simp) (by dsimp only; omega)).mono ?_
        rintro e w5 ⟨rfl, h5⟩
        replace h5 : DSt w [(g9, .cells (rtC ⟨t, s⟩) 29 (0, 0)), (g7, .cells (rt2 a b) 80 (0, 0))] [(g, ⟨64, on, wt ++ [((p : Int), S)], 0, [], false⟩)] w5 := h5
        have cx5 : w5.cell? ⟨bb, off + j, none⟩ = some (.int .i64 t) := (Below.cell (p := ⟨bb, off + j, none⟩) h5.bel hlt).trans hcell
        clear LD H4
        go_wp2_with fail
        have hlt5 : bb < w5.heap.size := Nat.lt_of_lt_of_le hlt h5.bel.size
        have e1 : ∀ ψ (e : ExtP w5.heap.size w5 ψ), e.val.cell? ⟨bb, off + j, none⟩ = some (.int .i64 t) := fun ψ e => e.cell cx5 hlt5
        have b9 : w5.heap[g9]? = some (.cells (rtC ⟨t, s⟩) 29 (0, 0)) := h5.get 0 rfl
        have L9 := Lib.hid fun V2 (k : Ext w5 V2) => ld_rt ((Below.block k g9 (Array.getElem?_eq_some_iff.1 b9).1).trans b9)
        have H5 := Lib.hid h5
        clear b9 h5 cx5
        refine wp_region_pieces 7  [(true, [0, 1, 2, 3, 4, 5, 6])] (by kernel_rfl) (by kernel_rfl) ?_; simp only [pick, List.map_cons, List.map_nil, List.flatMap_cons, List.flatMap_nil, Option.toList_some, List.singleton_append, List.drop_succ_cons, List.drop_zero, List.getElem?_cons_zero, List.getElem?_cons_succ]
        refine ⟨by kernel_rfl, ?_⟩; apply Exists.intro; refine ⟨fun ψ hψ hne => (by (repeat (first | ( go_big_quiet_want; refine quiet_ld 29 (.tmp 9) rfl (fun w' hw' => L9.out w' (ext_in hw')) ?_; go_simp; go_big_quiet_on ) | go_big_quiet_step ((  go_at_call 20; exact extP_of hψ (Nat.le_refl _) (rgPlace_k t p hpl _) )))); exact wpQuiet_nil rfl), ?_⟩
        intro w6 h6
        clear e1 L9
        obtain ⟨hst, h7⟩ := (H5.out.ext h6).rtst 1 (x := ⟨t, s⟩) rfl p hp
        generalize hga : pick2 p ⟨t, s⟩ a = a' at *
        generalize hgb : pick2 p b ⟨t, s⟩ = b' at *
        clear hga hgb
        have ST := Lib.hid hst
        have H7 : Hid (DSt w [(g9, .cells (rtC ⟨t, s⟩) 29 (0, 0)), (g7, .cells (rt2 a' b') 80 (0, 0))] [(g, ⟨64, on, wt ++ [((p : Int), S)], 0, [], false⟩)] (w6.setRow g7 (rt2 a' b'))) := Lib.hid h7
        clear hst h7 h6 H5
        go_upto_region 14 with (refine wpList_st rfl 29 _ _ rfl ST.out ?_; simp only [Act.put])
        generalize w6.setRow g7 (rt2 a' b') = W6 at *
        clear ST
        rcases Nat.mod_two_eq_zero_or_one j with hev | hev
        · have e2 : (j : Int) % 2 = 0 := by omega
          go_wp2_with fail
          refine (flush_k 0 H7.out rfl _ _ DK.flush_go (by simp) (by dsimp only; rw [List.length_append, List.length_singleton]; omega)).mono ?_
          rintro e w8 ⟨rfl, h8⟩
          have H8 : Hid (DSt w [(g9, .cells (rtC ⟨t, s⟩) 29 (0, 0)), (g7, .cells (rt2 a' b') 80 (0, 0))] [(g, ⟨64, on ++ (wt ++ [((p : Int), S)]), [], 0, [], false⟩)] w8) := Lib.hid h8
          have HA3 : Hid (PlR ((on ++ (wt ++ [((p : Int), S)])) ++ []) 0 a') := by rw [List.append_nil]; exact HA2
          have HB3 : Hid (PlR ((on ++ (wt ++ [((p : Int), S)])) ++ []) 1 b') := by rw [List.append_nil]; exact HB2
          have hw3 : ([] : List Wr).length ≤ j + 1 := Nat.zero_le _
          generalize on ++ (wt ++ [((p : Int), S)]) = on3 at *
          generalize ([] : List Wr) = wt3 at *
          clear H7 HA2 HB2 h8 e2
          have L0 : Hid ((Instr.loadAt 29 (.pointer (some ⟨g7, 0, none⟩))).run Try.prog w8 = .ok (.agg (rtC a')) w8) := Lib.hid (H8.out.rtld 1 rfl 0 (by omega))
          have ST := Lib.hid (st_rtn a' w8)
          have H9 := Lib.hid (H8.out.alloc (.cells (rtC a') 29 (0, 0)))
          go_upto_region 17 with (first | (refine wpList_ld rfl 29 _ rfl L0.out ?_; simp only [Act.put]) | (refine wpList_al rfl 29 rfl alloc_rt ?_; simp only [Act.put]) | (refine wpList_st rfl 29 _ _ rfl ST.out ?_; simp only [Act.put]))
          try simp only [List.setIfInBounds_toArray, List.set_cons_zero, List.set_cons_succ]
          change Code.wp _ _ _ _ (w8.alloc (.cells (rtC a') 29 (0, 0)))
          generalize w8.alloc (.cells (rtC a') 29 (0, 0)) = V9 at *
          generalize w8.heap.size = g11 at *
          clear L0 ST H8
          have q7 : V9.heap[g7]? = some (.cells (rt2 a' b') 80 (0, 0)) := H9.out.get 2 rfl
          have q11 : V9.heap[g11]? = some (.cells (rtC a') 29 (0, 0)) := H9.out.get 0 rfl
          have d7 : V9.cell? ⟨g7, 2, none⟩ = some (.int .i64 b'.t) := by rw [cell_of_row _ _ _ _ _ _ q7]; rfl
          have d11 : V9.cell? ⟨g11, 0, none⟩ = some (.int .i64 a'.t) := by rw [cell_of_row _ _ _ _ _ _ q11]; rfl
          have L1 : Hid ((Instr.loadAt 29 (.pointer (some ⟨g7, 2, none⟩))).run Try.prog V9 = .ok (.agg (rtC b')) V9) := Lib.hid (H9.out.rtld 2 rfl 1 (by omega))
          have ST := Lib.hid (st_rt (r := b') q11)
          have H10 : Hid (DSt w [(g11, .cells (rtC b') 29 (0, 0)), (g9, .cells (rtC ⟨t, s⟩) 29 (0, 0)), (g7, .cells (rt2 a' b') 80 (0, 0))] [(g, ⟨64, on3, wt3, 0, [], false⟩)] (V9.setRow g11 (rtC b'))) := Lib.hid (H9.out.row 0 rfl (rtC b'))
          have hnew := newest_pl2 (n := 64) (c := 0) (keep := []) HA3.out HB3.out HNZ.out
          clear q7 q11
          by_cases hab : a'.t < b'.t
          · rw [if_pos hab] at hnew
            have NEW := Lib.hid hnew
            clear hnew H9
            go_wp2_with (first | (refine wpList_ld rfl 29 _ rfl L1.out ?_; simp only [Act.put]) | (refine wpList_st rfl 29 _ _ rfl ST.out ?_; simp only [Act.put]))
            generalize V9.setRow g11 (rtC b') = V10 at *
            clear L1 ST d7 d11
            refine (newest_k 0 H10.out rfl b'.t b'.l 0 NEW.out (by dsimp only; omega)).mono ?_
            rintro e w11 ⟨rfl, h11⟩
            have ST := Lib.hid (st_rtn b' w11)
            have H12 := Lib.hid (h11.alloc (.cells (rtC b') 29 (0, 0)))
            clear h11 NEW
            go_upto_region 20 with (first | (refine wpList_al rfl 29 rfl alloc_rt ?_; simp only [Act.put]) | (refine wpList_st rfl 29 _ _ rfl ST.out ?_; simp only [Act.put]))
            try simp only [List.setIfInBounds_toArray, List.set_cons_zero, List.set_cons_succ]
            change Code.wp _ _ _ _ (w11.alloc (.cells (rtC b') 29 (0, 0)))
            generalize w11.alloc (.cells (rtC b') 29 (0, 0)) = V12 at *
            generalize w11.heap.size = g12 at *
            have la := ld_rt (H12.out.get 0 rfl : V12.heap[g12]? = some (.cells (rtC b') 29 (0, 0)))
            have lb := ld_rt (H12.out.get 1 rfl : V12.heap[g11]? = some (.cells (rtC b') 29 (0, 0)))
            unfold rtC at la lb
            have LA := Lib.hid la
            have LB := Lib.hid lb
            have H13 := Lib.hid H12.out.drop.drop.drop
            have qq : eqRo b'.t b'.l b'.t b'.l = true := by simp [eqRo]
            clear la lb H12 ST H10
            go_wp2_with (first | (refine wpList_ldg 29 (.tmp 12) rfl (by rfl) LA.out ?_; simp only [Act.put]) | (refine wpList_ldg 29 (.tmp 11) rfl (by rfl) LB.out ?_; simp only [Act.put]))
            go_roundw
            case rel => exact ⟨j + 1, on3, wt3, a', b', hjl, by simp, hw3, HA3, HB3, H13⟩
            case measure => first | (simp [intOf]; done) | (simp [intOf]; omega)
          · rw [if_neg hab] at hnew
            have NEW := Lib.hid hnew
            have H11 := H9
            clear hnew H10 H9 ST L1
            have H10 := H11
            clear H11
            go_wp2_with fail
            clear d7 d11
            refine (newest_k 0 H10.out rfl a'.t a'.l 0 NEW.out (by dsimp only; omega)).mono ?_
            rintro e w11 ⟨rfl, h11⟩
            have ST := Lib.hid (st_rtn a' w11)
            have H12 := Lib.hid (h11.alloc (.cells (rtC a') 29 (0, 0)))
            clear h11 NEW
            go_upto_region 20 with (first | (refine wpList_al rfl 29 rfl alloc_rt ?_; simp only [Act.put]) | (refine wpList_st rfl 29 _ _ rfl ST.out ?_; simp only [Act.put]))
            try simp only [List.setIfInBounds_toArray, List.set_cons_zero, List.set_cons_succ]
            change Code.wp _ _ _ _ (w11.alloc (.cells (rtC a') 29 (0, 0)))
            generalize w11.alloc (.cells (rtC a') 29 (0, 0)) = V12 at *
            generalize w11.heap.size = g12 at *
            have la := ld_rt (H12.out.get 0 rfl : V12.heap[g12]? = some (.cells (rtC a') 29 (0, 0)))
            have lb := ld_rt (H12.out.get 1 rfl : V12.heap[g11]? = some (.cells (rtC a') 29 (0, 0)))
            unfold rtC at la lb
            have LA := Lib.hid la
            have LB := Lib.hid lb
            have H13 := Lib.hid H12.out.drop.drop.drop
            have qq : eqRo a'.t a'.l a'.t a'.l = true := by simp [eqRo]
            clear la lb H12 ST H10
            go_wp2_with (first | (refine wpList_ldg 29 (.tmp 12) rfl (by rfl) LA.out ?_; simp only [Act.put]) | (refine wpList_ldg 29 (.tmp 11) rfl (by rfl) LB.out ?_; simp only [Act.put]))
            go_roundw
            case rel => exact ⟨j + 1, on3, wt3, a', b', hjl, by simp, hw3, HA3, HB3, H13⟩
            case measure => first | (simp [intOf]; done) | (simp [intOf]; omega)
        · have e2 : (j : Int) % 2 = 1 := by omega
          have H8 := H7
          have HA3 := HA2
          have HB3 := HB2
          have hw3 : (wt ++ [((p : Int), S)]).length ≤ j + 1 := by rw [List.length_append, List.length_singleton]; omega
          generalize wt ++ [((p : Int), S)] = wt3 at *
          generalize hon3 : on = on3 at *
          clear hon3 H7 HA2 HB2
          have L0 : Hid ((Instr.loadAt 29 (.pointer (some ⟨g7, 0, none⟩))).run Try.prog W6 = .ok (.agg (rtC a')) W6) := Lib.hid (H8.out.rtld 1 rfl 0 (by omega))
          have ST := Lib.hid (st_rtn a' W6)
          have H9 := Lib.hid (H8.out.alloc (.cells (rtC a') 29 (0, 0)))
          go_upto_region 17 with (first | (refine wpList_ld rfl 29 _ rfl L0.out ?_; simp only [Act.put]) | (refine wpList_al rfl 29 rfl alloc_rt ?_; simp only [Act.put]) | (refine wpList_st rfl 29 _ _ rfl ST.out ?_; simp only [Act.put]))
          try simp only [List.setIfInBounds_toArray, List.set_cons_zero, List.set_cons_succ]
          change Code.wp _ _ _ _ (W6.alloc (.cells (rtC a') 29 (0, 0)))
          generalize W6.alloc (.cells (rtC a') 29 (0, 0)) = V9 at *
          generalize W6.heap.size = g11 at *
          clear L0 ST H8
          have q7 : V9.heap[g7]? = some (.cells (rt2 a' b') 80 (0, 0)) := H9.out.get 2 rfl
          have q11 : V9.heap[g11]? = some (.cells (rtC a') 29 (0, 0)) := H9.out.get 0 rfl
          have d7 : V9.cell? ⟨g7, 2, none⟩ = some (.int .i64 b'.t) := by rw [cell_of_row _ _ _ _ _ _ q7]; rfl
          have d11 : V9.cell? ⟨g11, 0, none⟩ = some (.int .i64 a'.t) := by rw [cell_of_row _ _ _ _ _ _ q11]; rfl
          have L1 : Hid ((Instr.loadAt 29 (.pointer (some ⟨g7, 2, none⟩))).run Try.prog V9 = .ok (.agg (rtC b')) V9) := Lib.hid (H9.out.rtld 2 rfl 1 (by omega))
          have ST := Lib.hid (st_rt (r := b') q11)
          have H10 : Hid (DSt w [(g11, .cells (rtC b') 29 (0, 0)), (g9, .cells (rtC ⟨t, s⟩) 29 (0, 0)), (g7, .cells (rt2 a' b') 80 (0, 0))] [(g, ⟨64, on3, wt3, 0, [], false⟩)] (V9.setRow g11 (rtC b'))) := Lib.hid (H9.out.row 0 rfl (rtC b'))
          have hnew := newest_pl2 (n := 64) (c := 0) (keep := []) HA3.out HB3.out HNZ.out
          clear q7 q11
          by_cases hab : a'.t < b'.t
          · rw [if_pos hab] at hnew
            have NEW := Lib.hid hnew
            clear hnew H9
            go_wp2_with (first | (refine wpList_ld rfl 29 _ rfl L1.out ?_; simp only [Act.put]) | (refine wpList_st rfl 29 _ _ rfl ST.out ?_; simp only [Act.put]))
            generalize V9.setRow g11 (rtC b') = V10 at *
            clear L1 ST d7 d11
            refine (newest_k 0 H10.out rfl b'.t b'.l 0 NEW.out (by dsimp only; omega)).mono ?_
            rintro e w11 ⟨rfl, h11⟩
            have ST := Lib.hid (st_rtn b' w11)
            have H12 := Lib.hid (h11.alloc (.cells (rtC b') 29 (0, 0)))
            clear h11 NEW
            go_upto_region 20 with (first | (refine wpList_al rfl 29 rfl alloc_rt ?_; simp only [Act.put]) | (refine wpList_st rfl 29 _ _ rfl ST.out ?_; simp only [Act.put]))
            try simp only [List.setIfInBounds_toArray, List.set_cons_zero, List.set_cons_succ]
            change Code.wp _ _ _ _ (w11.alloc (.cells (rtC b') 29 (0, 0)))
            generalize w11.alloc (.cells (rtC b') 29 (0, 0)) = V12 at *
            generalize w11.heap.size = g12 at *
            have la := ld_rt (H12.out.get 0 rfl : V12.heap[g12]? = some (.cells (rtC b') 29 (0, 0)))
            have lb := ld_rt (H12.out.get 1 rfl : V12.heap[g11]? = some (.cells (rtC b') 29 (0, 0)))
            unfold rtC at la lb
            have LA := Lib.hid la
            have LB := Lib.hid lb
            have H13 := Lib.hid H12.out.drop.drop.drop
            have qq : eqRo b'.t b'.l b'.t b'.l = true := by simp [eqRo]
            clear la lb H12 ST H10
            go_wp2_with (first | (refine wpList_ldg 29 (.tmp 12) rfl (by rfl) LA.out ?_; simp only [Act.put]) | (refine wpList_ldg 29 (.tmp 11) rfl (by rfl) LB.out ?_; simp only [Act.put]))
            go_roundw
            case rel => exact ⟨j + 1, on3, wt3, a', b', hjl, by simp, hw3, HA3, HB3, H13⟩
            case measure => first | (simp [intOf]; done) | (simp [intOf]; omega)
          · rw [if_neg hab] at hnew
            have NEW := Lib.hid hnew
            have H11 := H9
            clear hnew H10 H9 ST L1
            have H10 := H11
            clear H11
            go_wp2_with fail
            clear d7 d11
            refine (newest_k 0 H10.out rfl a'.t a'.l 0 NEW.out (by dsimp only; omega)).mono ?_
            rintro e w11 ⟨rfl, h11⟩
            have ST := Lib.hid (st_rtn a' w11)
            have H12 := Lib.hid (h11.alloc (.cells (rtC a') 29 (0, 0)))
            clear h11 NEW
            go_upto_region 20 with (first | (refine wpList_al rfl 29 rfl alloc_rt ?_; simp only [Act.put]) | (refine wpList_st rfl 29 _ _ rfl ST.out ?_; simp only [Act.put]))
            try simp only [List.setIfInBounds_toArray, List.set_cons_zero, List.set_cons_succ]
            change Code.wp _ _ _ _ (w11.alloc (.cells (rtC a') 29 (0, 0)))
            generalize w11.alloc (.cells (rtC a') 29 (0, 0)) = V12 at *
            generalize w11.heap.size = g12 at *
            have la := ld_rt (H12.out.get 0 rfl : V12.heap[g12]? = some (.cells (rtC a') 29 (0, 0)))
            have lb := ld_rt (H12.out.get 1 rfl : V12.heap[g11]? = some (.cells (rtC a') 29 (0, 0)))
            unfold rtC at la lb
            have LA := Lib.hid la
            have LB := Lib.hid lb
            have H13 := Lib.hid H12.out.drop.drop.drop
            have qq : eqRo a'.t a'.l a'.t a'.l = true := by simp [eqRo]
            clear la lb H12 ST H10
            go_wp2_with (first | (refine wpList_ldg 29 (.tmp 12) rfl (by rfl) LA.out ?_; simp only [Act.put]) | (refine wpList_ldg 29 (.tmp 11) rfl (by rfl) LB.out ?_; simp only [Act.put]))
            go_roundw
            case rel => exact ⟨j + 1, on3, wt3, a', b', hjl, by simp, hw3, HA3, HB3, H13⟩
            case measure => first | (simp [intOf]; done) | (simp [intOf]; omega)
      · have hput : DK.put ⟨64, on, wt, 0, [], false⟩ t s = (⟨64, on, wt, 0, [], false⟩, 1) := by
          unfold DK.put
          rw [rkS_no hv, if_neg (by simp)]
        have HPU := Lib.hid hput
        clear hput
        go_wp2_with (refine wpList_ld rfl 29 (.tmp 9) rfl LD.out ?_; simp only [Act.put])
        refine (put_k 0 H4.out rfl t s hmx _ _ HPU.out (by simp) (by dsimp only; omega)).mono ?_
        rintro e w5 ⟨rfl, h5⟩
        replace h5 : DSt w [(g9, .cells (rtC ⟨t, s⟩) 29 (0, 0)), (g7, .cells (rt2 a b) 80 (0, 0))] [(g, ⟨64, on, wt, 0, [], false⟩)] w5 := h5
        have cx5 : w5.cell? ⟨bb, off + j, none⟩ = some (.int .i64 t) := (Below.cell (p := ⟨bb, off + j, none⟩) h5.bel hlt).trans hcell
        have H5 := Lib.hid h5.drop
        clear LD H4 h5
        rcases Int.lt_or_le t 1 with ht1 | ht1
        · go_wp2_with fail
          go_roundw
          case rel => exact ⟨j + 1, on, wt, a, b, hjl, by simp, by omega, ha, hb, H5⟩
          case measure => first | (simp [intOf]; done) | (simp [intOf]; omega)
        · have ht2 : 2147483647 < t := by omega
          go_wp2_with fail
          go_roundw
          case rel => exact ⟨j + 1, on, wt, a, b, hjl, by simp, by omega, ha, hb, H5⟩
          case measure => first | (simp [intOf]; done) | (simp [intOf]; omega)
    · go_wp2_with fail
      go_ret
      exact ⟨rfl, H.out.bel⟩

theorem own : ownKnob Try.prog.godebug = none := by kernel_rfl
theorem laidOut : laidOutB Try.prog = true := by kernel_rfl

set_option maxRecDepth 100000 in
theorem lifted (os : Os) (started : os.Started) (H : Type) (enc : TypeId × Value → H) :
    ReturnsInHanded {} Try.checked os 12 .any (Rows.ringAnySpec.pre6 enc Try.prog Try.f12 Rows.ringAnyRow.domain false) (Rows.ringAnySpec.post enc Try.prog Try.f12 false true false false) := by
  refine returnsInHanded_of_change (C := Try.checked) own started (by kernel_rfl) Try.func12
    (ChangeSpec.witness6 (enc := enc) (C := Try.checked) false ⟨#[], #[.slice none 0 0, .string ⟨#[]⟩], []⟩ 8 (by kernel_rfl) (by kernel_rfl) (by kernel_rfl) (by kernel_rfl)) ?_
  intro W base args ds gs before hval0 hW hcnd _
  have hval : ∀ (j : Nat) t v, Try.f12.params[j]? = some t → args[j]? = some v → Value.okWide Try.prog W .any base t v := hval0
  have hW' := hW
  obtain ⟨p, q, hA0, hV, rfl, hfz, hnd⟩ := hW
  have hA : DataW.TrodAll enc Try.prog W 0 (fun _ => true) true Try.f12.params.toList args.toList ds p := hA0
  rw [Try.params12] at hA hval
  obtain ⟨v0, vs0, d0, ds0, p0, q0, hargs, rfl, rfl, h0, r0⟩ := trodAll_cons hA
  obtain ⟨v1, vs1, d1, ds1, p1, q1, rfl, rfl, rfl, h1, r1⟩ := trodAll_cons r0
  obtain ⟨rfl, rfl, rfl⟩ := trodAll_nil r1
  obtain rfl : args = #[v0, v1] := by cases args; simp_all
  obtain ⟨rfl, rfl⟩ := trodVars_none hV
  have k0 := h0
  have lt0 : ∀ x ∈ p0, x.block < W.heap.size := by obtain ⟨m, hm⟩ := k0; exact DataW.trod_lt m _ _ _ hm
  have k1 := h1
  have lt1 : ∀ x ∈ p1, x.block < W.heap.size := by obtain ⟨m, hm⟩ := k1; exact DataW.trod_lt m _ _ _ hm
  obtain ⟨x0, rfl, w0⟩ := open_Wints (hval 0 _ v0 rfl rfl) h0
  obtain ⟨l1, rfl, wl1⟩ := open_str Try.underlying9 (hval 1 _ v1 rfl rfl) h1
  refine (walk (w := W) x0 w0 l1 wl1).mono fun e W' ⟨he, bel⟩ => ?_
  subst he
  exact ⟨_, rfl, _, _, _, [], _, [], hW', trodAll_mk1 (shut_bool Try.underlying4 _), (trodAll_cons_mk (Below.trod laidOut (by kernel_rfl) (of_decide_eq_true (by kernel_rfl)) k0 bel lt0) (trodAll_cons_mk (Below.trod laidOut (by kernel_rfl) (of_decide_eq_true (by kernel_rfl)) k1 bel lt1) trodAll_mk0)), rfl, bel.frame _, fun h => by cases h⟩

theorem proved : Rows.RingAnySaid :=
  OpenClaim.holds_of_wide 12 Try.f12 rfl rfl rfl rfl rfl rfl rfl ⟨rfl, rfl, rfl, rfl, rfl⟩ rfl rfl rfl rfl rfl (by kernel_rfl) Try.func12 (by kernel_rfl)
    (of_decide_eq_true (by kernel_rfl)) (by unfold Func.isWrapper; first | (rw [if_pos (by decide +kernel)]; kernel_rfl) | (rw [if_neg (by decide +kernel)]; exact ⟨rfl, rfl⟩))
    (fun os started H enc _ => lifted os started H enc)
end Go.Proofs.Ytobcfocbglkicaa.ringAny
