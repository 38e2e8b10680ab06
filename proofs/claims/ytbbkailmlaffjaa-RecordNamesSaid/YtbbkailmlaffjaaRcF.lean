/- Records: a chunk is gone through, what becomes whole is handed to the loop. -/
import Derived.Test.YtbbkailmlaffjaaRcE
import Derived.ControlIn
import Derived.RangeFuncNested
import Derived.RangeFuncBound
import Derived.RangeFuncCalls
import Derived.RangeFuncLeaves
import Derived.Shelf.Abstract
import Derived.Shelf.RegionOpen
import Derived.OwnWalkIn
import Derived.TacticsInMore
import Derived.LoopNIn
import Derived.LoopIn
set_option linter.unusedVariables false
set_option maxRecDepth 100000
namespace Go.Proofs.Ytbbkailmlaffjaa
open Go.RowKit

/-- What the reader's block holds; it may be written. -/
theorem Jr.field {w W : World} {S : Nat → Prop} {g : Nat} {st : Rc} {chv : Value} {rest : List UInt8} {xs : List (List UInt8)} {o : Obj} (h : Jr w S g st chv rest xs o W) :
    ∃ hb v, RcP W (trS S w W) g hb v st ∧ ∀ (s' : Rc) (v' : Value), (v' = v ∧ s'.body = st.body ∨ v' = .slice none 0 0 ∧ s'.body = []) → hb.take s'.hd.length = s'.hd → Jr w S g s' chv rest xs o (W.setRow g (bvs hb ++ rcR s' v').toArray) := by
  obtain ⟨hb, v, q⟩ := h.rc
  refine ⟨hb, v, q, fun s' v' hv hh => ?_⟩
  have k := mut_setRow (S := fun i => i = g) (w := W) rfl (bvs hb ++ rcR s' v').toArray
  refine h.turn k (fun i hi => by subst hi; exact q.sg) ⟨hb, v', q.new (fun i hi => .inl hi) ?_ ?_ q.h4 hh⟩
  · rcases hv with ⟨rfl, e⟩ | ⟨rfl, e⟩
    · rw [e]; exact q.row
    · rw [e]; exact OwnR.nil
  · rcases hv with ⟨rfl, e⟩ | ⟨rfl, e⟩
    · exact fun b hb => .inl (q.sv b hb)
    · exact fun b hb => by simp [Value.ownBlock] at hb
theorem Jr.ext {w W W' : World} {S : Nat → Prop} {g : Nat} {st : Rc} {chv : Value} {rest : List UInt8} {xs : List (List UInt8)} {o : Obj} (h : Jr w S g st chv rest xs o W) (k : Ext W W') : Jr w S g st chv rest xs o W' :=
  h.turn (T := fun _ => False) (Mut.of_ext k) (fun _ h => h.elim) ((rcOb g st).mono ((rcOb g st).ext h.rc k) fun i hi => .inl hi)
/-- The measure of the loop: how much of the chunk is left. -/
def lenAt (W : World) (b : Nat) : Nat := match W.cell? ⟨b, 0, none⟩ with
  | some (.slice _ n _) => n
  | _ => 0
theorem own_rs {w : World} {B n : Nat} {v : Value} {l : List UInt8} (h : OwnR w B 5 1 One v n (bvs l)) : RS w v l := by
  have hl : l.length = n := by have := h.1; rw [bvs_length] at this; omega
  obtain ⟨_, ⟨rfl, rfl⟩ | ⟨g, c, junk, rfl, hB, hg, hc, _⟩⟩ := h
  · exact .inl ⟨rfl, List.length_eq_zero_iff.1 hl⟩
  · subst hl
    refine .inr ⟨g, 0, c, rfl, heap_lt hg, by rw [bvs_length] at hc; omega, fun j hj => ?_⟩
    rw [cell_of_row _ _ _ _ _ _ hg, Nat.zero_add, List.getElem?_toArray, List.getElem?_append_left (by rw [bvs_length]; exact hj)]
theorem eatN_bd {st : Rc} {c : List UInt8} (hok : st.Ok) (h0 : c ≠ []) : 0 < st.eatN c ∧ st.eatN c ≤ c.length ∧ (c.take (st.eatN c)).length ≤ if st.hd.length = 4 then st.left else 4 - st.hd.length := by
  have hpos := List.length_pos_iff.2 h0
  have h4 := hok.hl
  have hb := hok.bm
  unfold Rc.eatN
  by_cases e : st.hd.length = 4
  · have := hb e
    rw [if_pos e, if_pos e, List.length_take]
    omega
  · rw [if_neg e, if_neg e, List.length_take]
    omega
theorem feed_step {st : Rc} {c : List UInt8} (hok : st.Ok) (hs : st.shut = false) (h0 : c ≠ []) :
    feed st c = ((feed (st.eat (c.take (st.eatN c))).fin.1 (c.drop (st.eatN c))).1, (st.eat (c.take (st.eatN c))).fin.2 ++ (feed (st.eat (c.take (st.eatN c))).fin.1 (c.drop (st.eatN c))).2) := by
  obtain ⟨h1, h2, h3⟩ := eatN_bd hok h0
  have ht : c.take (st.eatN c) ≠ [] := by
    intro e
    have := congrArg List.length e
    rw [List.length_take, List.length_nil] at this
    omega
  conv => lhs; rw [← List.take_append_drop (st.eatN c) c]
  rw [feed_append, feed_eat hok hs ht h3]
theorem blk1 {w : World} {g : Nat} {T : TypeId} {a : Value} (h : w.heap[g]? = some (.cells #[a] T (0, 0))) : w.cell? ⟨g, 0, none⟩ = some a ∧ (∀ o, w.frozen? ⟨g, o, none⟩ = false) ∧ g < w.heap.size :=
  ⟨by simp [World.cell?, h], fun o => by simp [World.frozen?, h], heap_lt h⟩
theorem eat_held {st : Rc} (x : List UInt8) : (st.eat x).held ≤ st.held + x.length := by
  unfold Rc.eat
  split
  · exact Nat.le_refl _
  · unfold Rc.eatH
    split
    · unfold Rc.begin
      split
      · exact Nat.zero_le _
      · exact Nat.le_refl _
    · exact Nat.le_refl _
set_option maxHeartbeats 4000000 in
theorem records1_any {w W : World} {S : Nat → Prop} {g : Nat} {st0 : Rc} {chv0 : Value} {ch0 : List UInt8} {o : Obj} (hok : st0.Ok) (hcl : ch0.length ≤ 1000000000) (hhl : st0.held + ch0.length ≤ 1000000000000)
    (hY : ∀ (s : Rc × Value × List UInt8) pre x W1, Jr w S g s.1 s.2.1 s.2.2 pre o W1 → pre.length < ch0.length → YieldAt Fence.wide 2 Try.prog (w.heap.size + 3 + 1) #[.string (str x)] W1 fun e W' => e = .returned (.bool true) ∧ Jr w S g s.1 s.2.1 s.2.2 (pre ++ [x]) o W')
    (h : Jr w S g st0 chv0 ch0 [] o W) :
    Calls Try.prog 27 #[.func (.yield (w.heap.size + 3 + 1)) #[] #[], .pointer (some ⟨w.heap.size + 2, 0, none⟩), .pointer (some ⟨w.heap.size + 1, 0, none⟩)] W fun e W' => (∃ v, e = .returned v) ∧ ∃ (xs : List (List UInt8)) (s : Rc × Value × List UInt8), feed st0 ch0 = (s.1, xs) ∧ Jr w S g s.1 s.2.1 s.2.2 xs o W' := by
  have HY := Lib.hid hY
  have H := Lib.hid h
  clear h hY
  go_enter Try.func27, Try.ntmps27
  go_wp2
  go_loopw [4] (fun u wr => ∃ (st : Rc) (chv : Value) (rest : List UInt8) (xs : List (List UInt8)), rest.length ≤ 1000000000 ∧ st.held + rest.length ≤ 1000000000000 ∧ xs.length + rest.length ≤ ch0.length ∧ Hid (Jr w S g st chv rest xs o wr) ∧ Hid st.Ok ∧ Hid (feed st0 ch0 = ((feed st rest).1, xs ++ (feed st rest).2))) (fun u wr => lenAt wr (w.heap.size + 2))
  case atStart => exact ⟨st0, chv0, ch0, [], hcl, hhl, by simp, H, Lib.hid hok, Lib.hid (by simp)⟩
  case round =>
    obtain ⟨st, chv, rest, xs, hrl, hhr, hxr, HJ, HOK, HF⟩ := hrel
    obtain ⟨A, c, rfl⟩ := HJ.out.rs.form
    obtain ⟨hb, v, q, -⟩ := HJ.out.field
    obtain ⟨-, -, -, -, -, c9, -, gl⟩ := rc_cells q.hg q.h4
    obtain ⟨k0, kf, kl⟩ := blk1 HJ.out.hcb
    obtain ⟨r0, -, rl⟩ := blk1 HJ.out.hrb
    by_cases hr0 : rest = []
    · subst hr0
      have HF0 : Hid (feed st0 ch0 = (st, xs)) := Lib.hid (by rw [HF.out]; simp [feed_nil])
      clear q HF
      go_wp2
      go_end0
      exact ⟨⟨_, rfl⟩, xs, (st, _, []), HF0.out, HJ.out⟩
    · cases hs : st.shut with
      | true =>
        rw [hs] at c9
        have HF0 : Hid (feed st0 ch0 = (st, xs)) := Lib.hid (by rw [HF.out, feed_shut hs]; simp)
        have hpos : (0 : Int) < rest.length := by have := List.length_pos_iff.2 hr0; omega
        clear q HF hs
        go_wp2
        go_end0
        exact ⟨⟨_, rfl⟩, xs, (st, _, rest), HF0.out, HJ.out⟩
      | false =>
        rw [hs] at c9
        have hpos : (0 : Int) < rest.length := by have := List.length_pos_iff.2 hr0; omega
        have KE := Lib.hid (eat_any wr HJ.out.rc HOK.out HJ.out.rs hr0 hrl (by omega))
        obtain ⟨hn1, hn2, hn3⟩ := eatN_bd HOK.out hr0
        have HFS := Lib.hid (feed_step HOK.out hs hr0)
        have hpre := Rc.eat_pre HOK.out hs hn3
        have hheld := eat_held (st := st) (rest.take (st.eatN rest))
        rw [List.length_take, Nat.min_eq_left hn2] at hheld
        obtain ⟨n, hn⟩ : ∃ n, st.eatN rest = n := ⟨_, rfl⟩
        rw [hn] at KE HFS hpre hheld hn1 hn2
        obtain ⟨st1, hst1⟩ : ∃ st1, st.eat (rest.take n) = st1 := ⟨_, rfl⟩
        rw [hst1] at KE HFS hpre hheld
        have HPre := Lib.hid hpre
        clear hn hn3 hst1 q hs hpre
        go_wp2_with fail
        refine KE.out.mono ?_
        rintro e w1 ⟨rfl, hT⟩
        have H1 := Lib.hid (HJ.out.turn hT.2 (fun i hi => hi) hT.1)
        clear hT KE c9 gl k0 kf kl r0 rl
        obtain ⟨b, off, rfl, -, hbw, hbc, hbj⟩ := HJ.out.ch.some_of hr0
        obtain ⟨chv', hch, hrs', hcn'⟩ : ∃ chv', chv' = (if c = n then .slice (some ⟨b, off, none⟩) 0 0 else .slice (some ⟨b, off + n, none⟩) (rest.length - n) (c - n)) ∧ RS w chv' (rest.drop n) ∧ ∀ b off n c, chv' = .slice (some ⟨b, off, none⟩) n c → ¬ S b := by
          refine ⟨_, rfl, ?_, ?_⟩
          · by_cases e : c = n
            · rw [if_pos e]
              have : rest.drop n = [] := List.drop_of_length_le (by omega)
              rw [this]
              exact .inr ⟨b, off, 0, rfl, hbw, Nat.le_refl _, fun j hj => by simp at hj⟩
            · rw [if_neg e]
              refine .inr ⟨b, off + n, c - n, by rw [List.length_drop], hbw, by rw [List.length_drop]; omega, fun j hj => ?_⟩
              rw [List.length_drop] at hj
              have := hbj (n + j) (by omega)
              rw [show off + n + j = off + (n + j) by omega, this]
              simp [bvs]
          · intro b' off' n' c' e
            have hS : ¬ S b := HJ.out.cn b off _ c rfl
            by_cases e2 : c = n
            · rw [if_pos e2] at e
              cases e
              exact hS
            · rw [if_neg e2] at e
              cases e
              exact hS
        have H2 := Lib.hid (H1.out.cut chv' (rest.drop n) hrs' hcn')
        have ST : Hid (w1.setCell ⟨w.heap.size + 2, 0, none⟩ chv' = w1.setRow (w.heap.size + 2) #[chv']) := Lib.hid (setCell_eq_setRow w1 _ 0 _ _ (0, 0) chv' H1.out.hcb)
        have HCH := Lib.hid hch
        obtain ⟨k0, kf, kl⟩ := blk1 H1.out.hcb
        clear hbj hrs' hcn' hch
        go_upto_region 2 with fail
        go_cut [] (fun wx => Hid (w1.setRow (w.heap.size + 2) #[chv'] = wx))
        case first =>
          by_cases hcn : c = n
          · have HC2 := Lib.hid (HCH.out.trans (if_pos hcn))
            have hrn : rest.length ≤ n := by omega
            go_wp2_with fail
            go_meet
            case rel => exact Lib.hid (by rw [← ST.out, HC2.out])
          · have HC2 := Lib.hid (HCH.out.trans (if_neg hcn))
            go_wp2_with fail
            go_meet
            case rel => exact Lib.hid (by rw [← ST.out, HC2.out])
        case rest =>
          have hw := hcut.out
          subst hw
          clear hcut ST HCH k0 kf kl H1
          generalize w1.setRow (w.heap.size + 2) #[chv'] = V1 at *
          obtain ⟨hb1, v1, q1, hput⟩ := H2.out.field
          have HPut := Lib.hid hput
          have Q1 := Lib.hid q1
          obtain ⟨c4, c5, c6, c7, -, -, cf, gl⟩ := rc_cells q1.hg q1.h4
          obtain ⟨r0, -, rl⟩ := blk1 H2.out.hrb
          clear q1 hput
          by_cases hc4 : st1.hd.length < 4
          · have hfin : st1.fin = (st1, []) := by unfold Rc.fin; rw [if_pos (.inl hc4)]
            have hok1 := HPre.out.fin
            rw [hfin] at hok1
            have HFin := Lib.hid hfin
            have HOK1 := Lib.hid hok1
            have hc4' : (st1.hd.length : Int) < 4 := by omega
            clear hfin hok1
            go_wp2
            go_roundw
            case rel => exact ⟨_, _, _, _, by rw [List.length_drop]; omega, by rw [List.length_drop]; omega, by simp <;> omega, H2, HOK1, Lib.hid (by rw [HF.out, HFS.out, HFin.out]; simp)⟩
            case measure =>
              have e1 := (blk1 (H2).out.hcb).1
              have e2 := (blk1 HJ.out.hcb).1
              obtain ⟨A', c', e3⟩ := (H2).out.rs.form
              rw [e3] at e1
              unfold lenAt
              rw [e1, e2]
              simp only [List.length_drop]
              omega
          · have h4 : st1.hd.length = 4 := by have := HPre.out.hl; omega
            have hc4' : ((st1.hd.length : Int) < 4) = False := by simp; omega
            rw [h4] at c4
            by_cases hc5 : 0 < st1.left
            · have hfin : st1.fin = (st1, []) := by unfold Rc.fin; rw [if_pos (.inr hc5)]
              have hok1 := HPre.out.fin
              rw [hfin] at hok1
              have HFin := Lib.hid hfin
              have HOK1 := Lib.hid hok1
              have hc5' : (0 : Int) < st1.left := by omega
              clear hfin hok1 h4
              go_wp2
              go_roundw
              case rel => exact ⟨_, _, _, _, by rw [List.length_drop]; omega, by rw [List.length_drop]; omega, by simp <;> omega, H2, HOK1, Lib.hid (by rw [HF.out, HFS.out, HFin.out]; simp)⟩
              case measure =>
                have e1 := (blk1 (H2).out.hcb).1
                have e2 := (blk1 HJ.out.hcb).1
                obtain ⟨A', c', e3⟩ := (H2).out.rs.form
                rw [e3] at e1
                unfold lenAt
                rw [e1, e2]
                simp only [List.length_drop]
                omega
            · have hl0 : st1.left = 0 := by omega
              rw [hl0] at c5
              have hne : ¬ (st1.hd.length < 4 ∨ 0 < st1.left) := by omega
              have H3 := Lib.hid (HPut.out { st1 with hd := [] } v1 (.inl ⟨rfl, rfl⟩) (by simp))
              have ST4 : Hid (V1.setCell ⟨g, 4, none⟩ (.int .i64 0) = V1.setRow g (bvs hb1 ++ rcR { st1 with hd := [] } v1).toArray) := Lib.hid (rc_set 0 _ Q1.out.hg Q1.out.h4)
              have hfin0 : st1.fin = if st1.last then ({ st1 with hd := [], body := [], held := 0 }, [st1.body]) else ({ st1 with hd := [] }, []) := by unfold Rc.fin; rw [if_neg hne]
              have HFin0 := Lib.hid hfin0
              have hfok := HPre.out.fin
              have HFok := Lib.hid hfok
              clear hne hfin0 h4 hc4 hc5 hl0 hfok
              go_upto_region 5 with fail
              rw [ST4.out]
              clear ST4 c4 c5 c6 c7 cf gl r0 rl Q1 HPut
              generalize V1.setRow g (bvs hb1 ++ rcR { st1 with hd := [] } v1).toArray = V2 at *
              obtain ⟨hb2, v2, q2, hput2⟩ := H3.out.field
              obtain ⟨-, -, c6, c7, -, -, cf, gl⟩ := rc_cells q2.hg q2.h4
              obtain ⟨r0, -, rl⟩ := blk1 H3.out.hrb
              have HPut2 := Lib.hid hput2
              have Q2 := Lib.hid q2
              simp only at c6 c7
              clear hput2 q2
              cases hla : st1.last with
              | false =>
                rw [hla] at c6
                have hfin : st1.fin = ({ st1 with hd := [] }, []) := by rw [HFin0.out, hla]; rfl
                have hok1 := HFok.out
                rw [hfin] at hok1
                have HFin := Lib.hid hfin
                have HOK1 := Lib.hid hok1
                clear hfin hok1 hla
                go_wp2
                go_roundw
                case rel => exact ⟨_, _, _, _, by rw [List.length_drop]; omega, by show st1.held + (rest.drop n).length ≤ 1000000000000; rw [List.length_drop]; omega, by simp <;> omega, H3, HOK1, Lib.hid (by rw [HF.out, HFS.out, HFin.out]; simp)⟩
                case measure =>
                  have e1 := (blk1 (H3).out.hcb).1
                  have e2 := (blk1 HJ.out.hcb).1
                  obtain ⟨A', c', e3⟩ := (H3).out.rs.form
                  rw [e3] at e1
                  unfold lenAt
                  rw [e1, e2]
                  simp only [List.length_drop]
                  omega
              | true =>
                rw [hla] at c6
                have hfin : st1.fin = ({ st1 with hd := [], body := [], held := 0 }, [st1.body]) := by rw [HFin0.out, hla]; rfl
                have hok1 := HFok.out
                rw [hfin] at hok1
                have HFin := Lib.hid hfin
                have HOK1 := Lib.hid hok1
                have hrow := Q2.out.row
                obtain ⟨Av, cv, rfl⟩ := hrow.form
                have cvt : (convert 22 9 (.slice Av st1.body.length cv)).run Try.prog V2 = .ok (.string (str st1.body)) V2 := (own_rs hrow).conv Try.underlying22 Try.underlying5 Try.underlying9
                clear hfin hok1 hla hrow HFin0 HFok
                go_upto_region 7 with fail
                clear cvt c6 c7 cf gl
                have hgr : ¬ w.heap.size + 1 = g := by
                  intro e
                  have h1 := H3.out.hrb
                  rw [e, Q2.out.hg] at h1
                  simp only [Option.some.injEq, Obj.cells.injEq] at h1
                  exact absurd h1.2.1 (by decide)
                obtain ⟨So, HSo⟩ : ∃ So : Nat → Prop, Hid (So = fun j => j = g) := ⟨_, Lib.hid rfl⟩
                have hng : ¬ So (w.heap.size + 1) := by rw [HSo.out]; exact hgr
                have e0 : ∀ (ψ : World → Prop) (e : ExtS So V2 ψ), e.val.cell? ⟨w.heap.size + 1, 0, none⟩ = some (.pointer (some ⟨g, 0, none⟩)) := fun ψ e => e.cell r0 rl hng
                clear r0
                refine wp_region_piecesS So 5 [(true, [0, 1, 2, 3]), (false, [4])] (by kernel_rfl) (by kernel_rfl) ?_
                simp only [pick, List.map_cons, List.map_nil, List.flatMap_cons, List.flatMap_nil, Option.toList_some, List.singleton_append, List.drop_succ_cons, List.drop_zero, List.getElem?_cons_zero, List.getElem?_cons_succ]
                refine ⟨by kernel_rfl, ?_⟩; apply Exists.intro; refine ⟨fun ψ hψ hne => (by (repeat (go_big_quiet_step (( fail )))); exact wpQuiet_nil rfl), ?_⟩
                clear e0
                intro Wa ha K hK
                have H4 := Lib.hid (H3.out.ext ha)
                obtain ⟨hb3, v3, q3, hput3⟩ := H4.out.field
                have ST7 : Hid (Wa.setCell ⟨g, 7, none⟩ (.slice none 0 0) = Wa.setRow g (bvs hb3 ++ rcR { st1 with hd := [], body := [] } (.slice none 0 0)).toArray) := Lib.hid (rc_set 3 _ q3.hg q3.h4)
                have H5 := Lib.hid (hput3 { st1 with hd := [], body := [] } (.slice none 0 0) (.inr ⟨rfl, rfl⟩) (by simp))
                obtain ⟨-, -, -, c7, -, -, cf, gl⟩ := rc_cells q3.hg q3.h4
                have MS : Hid (Mut So Wa (Wa.setRow g (bvs hb3 ++ rcR { st1 with hd := [], body := [] } (.slice none 0 0)).toArray)) := Lib.hid (by rw [HSo.out]; exact mut_setRow (S := fun j => j = g) rfl _)
                clear q3 hput3 ha
                go_wp2_with fail
                rw [ST7.out]
                refine hK _ _ MS.out ?_
                clear hK K ST7 c7 cf gl MS H4
                generalize Wa.setRow g (bvs hb3 ++ rcR { st1 with hd := [], body := [] } (.slice none 0 0)).toArray = Wb at *
                intro W3 h3
                have H6 := Lib.hid (H5.out.ext h3)
                obtain ⟨hb4, v4, q4, hput4⟩ := H6.out.field
                have ST8 : Hid (W3.setCell ⟨g, 8, none⟩ (.int .i64 0) = W3.setRow g (bvs hb4 ++ rcR { st1 with hd := [], body := [], held := 0 } v4).toArray) := Lib.hid (rc_set 4 _ q4.hg q4.h4)
                have H7 := Lib.hid (hput4 { st1 with hd := [], body := [], held := 0 } v4 (.inl ⟨rfl, rfl⟩) (by simp))
                obtain ⟨-, -, -, -, c8, -, cf, gl⟩ := rc_cells q4.hg q4.h4
                clear q4 hput4 h3 H5
                go_upto_region 8 with fail
                rw [ST8.out]
                clear ST8 c8 cf gl H6
                generalize W3.setRow g (bvs hb4 ++ rcR { st1 with hd := [], body := [], held := 0 } v4).toArray = W5 at *
                obtain ⟨fn, tmps, assign, body, hy, hR⟩ := HY.out ({ st1 with hd := [], body := [], held := 0 }, chv', rest.drop n) xs st1.body W5 H7.out (by omega)
                refine (wpIn_wide (n := 3)).1 ?_
                gi_wp2
                refine hR.mono ?_
                rintro e W' ⟨rfl, hJ'⟩
                have H8 := Lib.hid hJ'
                clear hJ' hR hy H7
                gi_wp2
                go_wp2
                go_roundw
                case rel => exact ⟨_, _, _, _, by rw [List.length_drop]; omega, by show 0 + (rest.drop n).length ≤ 1000000000000; rw [List.length_drop]; omega, by simp <;> omega, H8, HOK1, Lib.hid (by rw [HF.out, HFS.out, HFin.out]; simp)⟩
                case measure =>
                  have e1 := (blk1 (H8).out.hcb).1
                  have e2 := (blk1 HJ.out.hcb).1
                  obtain ⟨A', c', e3⟩ := (H8).out.rs.form
                  rw [e3] at e1
                  unfold lenAt
                  rw [e1, e2]
                  simp only [List.length_drop]
                  omega
end Go.Proofs.Ytbbkailmlaffjaa
