/- The claim XdrWrites: the walk of its law, and the statement. -/
import Derived.Test.YtaccjneglaomhaaXdrD
import Derived.Test.YtaccjneglaomhaaLiftB
set_option linter.unusedVariables false
namespace Go.Proofs.Ytaccjneglaomhaa
open Go.RowKit
theorem convB {w : World} {v : Value} {l : List UInt8} (h : RS w v l) : ∀ w', Ext w w' → (convert 22 9 v).run Try.prog w' = .ok (.string (str l)) w' := fun w' k => (h.ext k).conv Try.underlying22 Try.underlying5 Try.underlying9
theorem ext_in {w w' : World} {ψ : World → Prop} (h : ∃ e : ExtP w.heap.size w ψ, w' = e.val) : Ext w w' := by obtain ⟨e, rfl⟩ := h; exact e.ok
theorem Flag_v (v : Value) (l : List UInt8) (b : Bool) (x : Value) (hx : Hid (x = .bool b)) (w : World) (hv : RS w v l) (h : l.length ≤ 900000) :
    Calls Try.prog 19 #[v, x] w fun e w' => ∃ v', e = .returned v' ∧ Own w' w.heap.size 5 v' (l ++ beN (b2i b) 4) (l.length + 4) ∧ Below w.heap.size w w' := by rw [hx.out]; exact Flag_any v l b w hv h
theorem rFlag_v (v : Value) (l : List UInt8) (b : Bool) (x : Value) (hx : Hid (x = .bool b)) (w : World) (hv : RS w v l) (h : l.length ≤ 800000) :
    Calls Try.prog 25 #[v, x] w fun e w' => ∃ v', e = .returned v' ∧ OwnZ w' w.heap.size 5 v' (l ++ beN (b2i b) 4) ∧ Below w.heap.size w w' := by rw [hx.out]; exact rFlag_any v l b w hv h
end Go.Proofs.Ytaccjneglaomhaa
namespace Go.Proofs.Ytaccjneglaomhaa.xdrWrites
open Go.RowKit Go.ChangeShapes Go.WideShapes Go.ChangeAt Go.Deep Go.Proofs.Ytaccjneglaomhaa

def sevens : List UInt8 := [7, 7, 7, 7, 7, 7, 7, 7]

set_option maxHeartbeats 8000000 in
set_option maxRecDepth 100000 in
theorem walk (v0 : Value) (lb : List UInt8) (w : World) (hv : RS w v0 lb) (wlb : lb.length ≤ maxLen) (n : Int) (wn : (Lit.int .u64 n).wf = true) (is : Bool) (s : List UInt8) (ws : s.length ≤ maxLen) :
    Calls Try.prog 3 #[v0, .int .u64 n, .bool is, .string (str s)] w fun e w' => e = .returned (.bool true) ∧ Below w.heap.size w w' := by
  have hn : 0 ≤ n ∧ n ≤ 18446744073709551615 := by simpa [Lit.wf, IntKind.has, IntKind.min, IntKind.max, IntKind.signed, IntKind.bits] using wn
  have hsz := str_size s
  obtain ⟨A, c, rfl⟩ := hv.form
  by_cases h1 : 3000 < lb.length
  · go_enter Try.func3, Try.ntmps3
    go_wp2_with fail
    go_ret
    exact ⟨rfl, by (repeat (first | exact Below.refl _ _ | refine Below.setCell ?_ (by first | omega | (simp; done) | (simp; omega)) _ | refine Below.alloc ?_ (by first | omega | (simp; done) | (simp; omega)) _ | refine Below.drew ?_ | refine below_drewN ?_ _ | refine Below.trans ?_ (Below.mono (by assumption) (by first | omega | (simp; done) | (simp; omega)))))⟩
  by_cases h2 : 3000 < s.length
  · go_enter Try.func3, Try.ntmps3
    go_wp2_with fail
    go_ret
    exact ⟨rfl, by (repeat (first | exact Below.refl _ _ | refine Below.setCell ?_ (by first | omega | (simp; done) | (simp; omega)) _ | refine Below.alloc ?_ (by first | omega | (simp; done) | (simp; omega)) _ | refine Below.drew ?_ | refine below_drewN ?_ _ | refine Below.trans ?_ (Below.mono (by assumption) (by first | omega | (simp; done) | (simp; omega)))))⟩
  obtain ⟨va, wa, hra, hoa, hba⟩ := appZ (ty := 22) (own_none (w := w) (T := 5)).z (srcS (hv.ext (ext_alloc w _))) (by simp) (by simp; omega)
  have hwa : w.heap.size ≤ wa.heap.size := by have := hba.size; simp at this; omega
  have hs7 : RS (wa.alloc (.cells (bvs sevens).toArray 5)) (.slice (some ⟨wa.heap.size, 0, none⟩) sevens.length 8) sevens := rs_block (m := sevens) (off := 0) (heap_alloc_last wa _) rfl (Nat.le_refl _)
  obtain ⟨vb, wb, hrb, hob, hbb⟩ := appZ (ty := 22) (hoa.ext (ext_alloc wa (.cells (bvs sevens).toArray 5))) (srcS hs7) (by simp; omega) (by simp [sevens]; omega)
  have hxb : Ext w wb := Below.trans (Below.trans (ext_alloc w _) hba) (Below.trans ((Below.refl _ _).alloc hwa _) hbb)
  obtain ⟨cb, g, junk, rfl, hBg, hg, hcb⟩ : ∃ c, Own wb w.heap.size 5 vb ([] ++ lb ++ sevens) c := by
    rcases hob with ⟨_, h⟩ | h
    · simp [sevens] at h
    · exact h
  have hin : RS wb (.slice (some ⟨g, 0, none⟩) lb.length cb) lb := rs_block hg (by rw [List.drop_zero, List.nil_append, List.append_assoc, List.take_left]) (by simp at hcb; omega)
  simp only [List.nil_append, List.length_append, show sevens.length = 8 from rfl] at hrb hcb
  have hcb8 : lb.length + 8 ≤ cb := by omega
  clear hob hoa hs7
  have hsv : (bvs sevens).toArray = #[.int .u8 7, .int .u8 7, .int .u8 7, .int .u8 7, .int .u8 7, .int .u8 7, .int .u8 7, .int .u8 7] := rfl
  rw [hsv] at hrb
  clear hsv
  have HG := Lib.hid hg
  clear hg
  obtain ⟨vis, hvis⟩ : ∃ v, v = Value.bool is := ⟨_, rfl⟩
  rw [← hvis]
  have HV := Lib.hid hvis
  clear hvis
  go_enter Try.func3, Try.ntmps3
  go_wp2_with (first | (at_builtin; refine wpList_app rfl _ _ _ _ rfl hra ?_) | (at_builtin; refine wpList_app rfl _ _ _ _ rfl hrb ?_))
  refine (Word_any _ lb (n % 4294967296) _ hin (by omega) (by omega) (by omega)).mono ?_
  rintro e w1 ⟨x1, rfl, o1, b1⟩
  go_wp2_with fail
  have e1 : Ext wb w1 := b1
  refine (Long_any _ lb n _ (hin.ext e1) (by omega) (by omega) (by omega)).mono ?_
  rintro e w2 ⟨x2, rfl, o2, b2⟩
  have e2 : Ext wb w2 := e1.trans b2
  go_wp2_with fail
  have hwr : -9223372036854775808 ≤ wrap64 n ∧ wrap64 n ≤ 9223372036854775807 := by unfold wrap64; omega
  refine (Int_any _ lb (wrap64 n) _ (hin.ext e2) hwr.1 hwr.2 (by omega)).mono ?_
  rintro e w3 ⟨x3, rfl, o3, b3⟩
  have e3 : Ext wb w3 := e2.trans b3
  go_wp2_with fail
  refine (Flag_v _ lb is _ HV _ (hin.ext e3) (by omega)).mono ?_
  rintro e w4 ⟨x4, rfl, o4, b4⟩
  have e4 : Ext wb w4 := e3.trans b4
  go_wp2_with fail
  refine (Text_any _ lb s _ (hin.ext e4) (by omega) (by omega)).mono ?_
  rintro e w5 ⟨x5, rfl, o5, b5⟩
  have e5 : Ext wb w5 := e4.trans b5
  go_wp2_with fail
  refine (Fixed_any _ lb s _ (hin.ext e5) (by omega) (by omega)).mono ?_
  rintro e w6 ⟨x6, rfl, o6, b6⟩
  have e6 : Ext wb w6 := e5.trans b6
  have f5 : Ext w5 w6 := b6
  have f4 : Ext w4 w6 := Ext.trans b5 f5
  have f3 : Ext w3 w6 := Ext.trans b4 f4
  have f2 : Ext w2 w6 := Ext.trans b3 f3
  have f1 : Ext w1 w6 := Ext.trans b2 f2
  have H1 := Lib.hid (convB (o1.rs.ext f1))
  have H2 := Lib.hid (convB (o2.rs.ext f2))
  have H3 := Lib.hid (convB (o3.rs.ext f3))
  have H4 := Lib.hid (convB (o4.rs.ext f4))
  have H5 := Lib.hid (convB (o5.rs.ext f5))
  have H6 := Lib.hid (convB o6.rs)
  have hx0 : Ext w6 w6 := Ext.refl _
  have hww : Ext w w6 := hxb.trans e6
  go_wp2_with fail
  refine wp_region_pieces 55  [(true, [0, 1, 2, 3, 4]), (false, [5]), (true, [6, 7, 8, 9, 10, 11, 12]), (false, [13]), (true, [14, 15, 16, 17, 18, 19, 20, 21, 22]), (false, [23]), (true, [24, 25, 26, 27, 28, 29, 30, 31]), (false, [32]), (true, [33, 34, 35, 36, 37, 38, 39, 40]), (false, [41]), (true, [42, 43, 44, 45, 46, 47, 48, 49]), (false, [50]), (true, [51, 52, 53, 54])] (by kernel_rfl) (by kernel_rfl) ?_; simp only [pick, List.map_cons, List.map_nil, List.flatMap_cons, List.flatMap_nil, Option.toList_some, List.singleton_append, List.drop_succ_cons, List.drop_zero, List.getElem?_cons_zero, List.getElem?_cons_succ]
  refine ⟨by kernel_rfl, ?_⟩; apply Exists.intro; refine ⟨fun ψ hψ hne => (by (repeat (first | ( first | (go_big_quiet_want; refine quiet_cv 22 9 _ rfl (fun w' hw' => H1.out w' (hx0.trans (ext_in hw'))) ?_; go_simp; go_big_quiet_on) ) | go_big_quiet_step ((  fail )))); exact wpQuiet_nil rfl), ?_⟩
  intro u1 a1 K hK
  go_wp2_with fail
  refine (rWord_any _ lb (n % 4294967296) _ (hv.ext (hww.trans (hx0.trans a1))) (by omega) (by omega) (by omega)).mono ?_
  rintro e t1 ⟨y1, rfl, p1, c1⟩
  go_wp2_with fail
  refine hK _ _ c1 ?_
  have hx1 : Ext w6 t1 := hx0.trans (Ext.trans a1 c1)
  have D1 := Lib.hid (convB p1.rs)
  refine ⟨by kernel_rfl, ?_⟩; apply Exists.intro; refine ⟨fun ψ hψ hne => (by (repeat (first | ( first | (go_big_quiet_want; refine quiet_cv 22 9 _ rfl (fun w' hw' => H2.out w' (hx1.trans (ext_in hw'))) ?_; go_simp; go_big_quiet_on) | (go_big_quiet_want; refine quiet_cv 22 9 _ rfl (fun w' hw' => D1.out w' (ext_in hw')) ?_; go_simp; go_big_quiet_on) ) | go_big_quiet_step ((  fail )))); exact wpQuiet_nil rfl), ?_⟩
  intro u2 a2 K hK
  go_wp2_with fail
  refine (rLong_any _ lb n _ (hv.ext (hww.trans (hx1.trans a2))) (by omega) (by omega) (by omega)).mono ?_
  rintro e t2 ⟨y2, rfl, p2, c2⟩
  go_wp2_with fail
  refine hK _ _ c2 ?_
  have hx2 : Ext w6 t2 := hx1.trans (Ext.trans a2 c2)
  have D2 := Lib.hid (convB p2.rs)
  refine ⟨by kernel_rfl, ?_⟩; apply Exists.intro; refine ⟨fun ψ hψ hne => (by (repeat (first | ( first | (go_big_quiet_want; refine quiet_cv 22 9 _ rfl (fun w' hw' => H3.out w' (hx2.trans (ext_in hw'))) ?_; go_simp; go_big_quiet_on) | (go_big_quiet_want; refine quiet_cv 22 9 _ rfl (fun w' hw' => D2.out w' (ext_in hw')) ?_; go_simp; go_big_quiet_on) ) | go_big_quiet_step ((  fail )))); exact wpQuiet_nil rfl), ?_⟩
  intro u3 a3 K hK
  go_wp2_with fail
  refine (rInt_any _ lb (wrap64 n) _ (hv.ext (hww.trans (hx2.trans a3))) hwr.1 hwr.2 (by omega)).mono ?_
  rintro e t3 ⟨y3, rfl, p3, c3⟩
  go_wp2_with fail
  refine hK _ _ c3 ?_
  have hx3 : Ext w6 t3 := hx2.trans (Ext.trans a3 c3)
  have D3 := Lib.hid (convB p3.rs)
  refine ⟨by kernel_rfl, ?_⟩; apply Exists.intro; refine ⟨fun ψ hψ hne => (by (repeat (first | ( first | (go_big_quiet_want; refine quiet_cv 22 9 _ rfl (fun w' hw' => H4.out w' (hx3.trans (ext_in hw'))) ?_; go_simp; go_big_quiet_on) | (go_big_quiet_want; refine quiet_cv 22 9 _ rfl (fun w' hw' => D3.out w' (ext_in hw')) ?_; go_simp; go_big_quiet_on) ) | go_big_quiet_step ((  fail )))); exact wpQuiet_nil rfl), ?_⟩
  intro u4 a4 K hK
  go_wp2_with fail
  refine (rFlag_v _ lb is _ HV _ (hv.ext (hww.trans (hx3.trans a4))) (by omega)).mono ?_
  rintro e t4 ⟨y4, rfl, p4, c4⟩
  go_wp2_with fail
  refine hK _ _ c4 ?_
  have hx4 : Ext w6 t4 := hx3.trans (Ext.trans a4 c4)
  have D4 := Lib.hid (convB p4.rs)
  refine ⟨by kernel_rfl, ?_⟩; apply Exists.intro; refine ⟨fun ψ hψ hne => (by (repeat (first | ( first | (go_big_quiet_want; refine quiet_cv 22 9 _ rfl (fun w' hw' => H5.out w' (hx4.trans (ext_in hw'))) ?_; go_simp; go_big_quiet_on) | (go_big_quiet_want; refine quiet_cv 22 9 _ rfl (fun w' hw' => D4.out w' (ext_in hw')) ?_; go_simp; go_big_quiet_on) ) | go_big_quiet_step ((  fail )))); exact wpQuiet_nil rfl), ?_⟩
  intro u5 a5 K hK
  go_wp2_with fail
  refine (rText_any _ lb s _ (hv.ext (hww.trans (hx4.trans a5))) (by omega) (by omega)).mono ?_
  rintro e t5 ⟨y5, rfl, p5, c5⟩
  go_wp2_with fail
  refine hK _ _ c5 ?_
  have hx5 : Ext w6 t5 := hx4.trans (Ext.trans a5 c5)
  have D5 := Lib.hid (convB p5.rs)
  refine ⟨by kernel_rfl, ?_⟩; apply Exists.intro; refine ⟨fun ψ hψ hne => (by (repeat (first | ( first | (go_big_quiet_want; refine quiet_cv 22 9 _ rfl (fun w' hw' => H6.out w' (hx5.trans (ext_in hw'))) ?_; go_simp; go_big_quiet_on) | (go_big_quiet_want; refine quiet_cv 22 9 _ rfl (fun w' hw' => D5.out w' (ext_in hw')) ?_; go_simp; go_big_quiet_on) ) | go_big_quiet_step ((  fail )))); exact wpQuiet_nil rfl), ?_⟩
  intro u6 a6 K hK
  go_wp2_with fail
  refine (rFixed_any _ lb s _ (hv.ext (hww.trans (hx5.trans a6))) (by omega) (by omega)).mono ?_
  rintro e t6 ⟨y6, rfl, p6, c6⟩
  go_wp2_with fail
  refine hK _ _ c6 ?_
  have hx6 : Ext w6 t6 := hx5.trans (Ext.trans a6 c6)
  have D6 := Lib.hid (convB p6.rs)
  refine ⟨by kernel_rfl, ?_⟩; apply Exists.intro; refine ⟨fun ψ hψ hne => (by (repeat (first | ( first | (go_big_quiet_want; refine quiet_cv 22 9 _ rfl (fun w' hw' => D6.out w' (ext_in hw')) ?_; go_simp; go_big_quiet_on) ) | go_big_quiet_step ((  fail )))); exact wpQuiet_nil rfl), ?_⟩
  intro wz hz
  obtain ⟨g2, cs, hx1', hB2, hg2, hcs⟩ : ∃ g2 cs, x1 = .slice (some ⟨g2, 0, none⟩) (lb.length + 4) (lb.length + 4) ∧ wb.heap.size ≤ g2 ∧ wz.heap[g2]? = some (.cells cs 5 (0, 0)) ∧ cs.size = lb.length + 4 := by
    obtain ⟨g2, junk2, h1, h2, h3, h4⟩ := o1
    refine ⟨g2, _, ?_, h2, ((f1.trans (hx6.trans hz)).block _ (Array.getElem?_eq_some_iff.1 h3).1).trans h3, ?_⟩
    · rw [h1]; simp [beN_length]
    · rw [bvs_size, List.length_append, h4]
  have hzz : Ext wb wz := e6.trans (hx6.trans hz)
  clear o1 o2 o3 o4 o5 o6 p1 p2 p3 p4 p5 p6 H1 H2 H3 H4 H5 H6 D1 D2 D3 D4 D5 D6 b1 b2 b3 b4 b5 b6 c1 c2 c3 c4 c5 c6 hrb hra hba hbb
  subst hx1'
  have G2 := Lib.hid hg2
  clear hg2
  go_wp2_with fail
  go_loopw [17] (fun i wr => ∃ k : Nat, k ≤ lb.length + 4 ∧ i = .int .i64 k ∧ Hid (Ext wb wr) ∧ Hid (∃ cs, wr.heap[g2]? = some (.cells cs 5 (0, 0)) ∧ cs.size = lb.length + 4)) (fun i _ => lb.length + 4 - (intOf i).toNat)
  case atStart => exact ⟨0, by omega, rfl, hzz, cs, G2.out, hcs⟩
  case round =>
    obtain ⟨k, hk, rfl, HX, HC⟩ := hrel
    by_cases hlt : k < lb.length + 4
    · obtain ⟨cs', hh, hs'⟩ := HC.out
      have hcell : wr.cell? ⟨g2, k, none⟩ = some (cs'[k]'(by omega)) := by
        rw [cell_of_row _ _ _ _ _ _ hh]; simp
      have hfro : wr.frozen? ⟨g2, k, none⟩ = false := by simp [World.frozen?, hh]
      have HH := Lib.hid hh
      clear hh
      go_wp2_with fail
      go_roundw
      case rel => exact ⟨k + 1, by omega, by go_num, HX.out.setCell (by simpa using hB2) _, (cs'.setIfInBounds k (.int .u8 9)), by rw [setCell_eq_setRow _ g2 k _ _ _ _ HH.out]; exact setRow_heap _ _ _ _ _ _ HH.out, by simpa using hs'⟩
      case measure => simp [intOf]; omega
    · obtain rfl : k = lb.length + 4 := by omega
      obtain ⟨wo, rfl⟩ : ∃ wo : World, wo = wr := ⟨_, rfl⟩
      have hgo := (HX.out.block g (Array.getElem?_eq_some_iff.1 HG.out).1).trans HG.out
      have h7 : ∀ k, k < 8 → wo.cell? ⟨g, lb.length + k, none⟩ = some (.int .u8 7) := by
        intro k hk
        rw [cell_of_row _ _ _ _ _ _ hgo]
        simp only [List.nil_append, bvs, List.map_append, List.getElem?_toArray, List.append_assoc]
        rw [List.getElem?_append_right (by simp), List.length_map, Nat.add_sub_cancel_left, List.getElem?_append_left (by simpa [sevens] using hk)]
        match k, hk with
        | 0, _ => rfl
        | 1, _ => rfl
        | 2, _ => rfl
        | 3, _ => rfl
        | 4, _ => rfl
        | 5, _ => rfl
        | 6, _ => rfl
        | 7, _ => rfl
      have H7 := Lib.hid h7
      clear hgo h7
      have hc1 := convB (hin.ext HX.out) wo (Ext.refl _)
      have hc2 := convB (hv.ext (hxb.trans HX.out)) wo (Ext.refl _)
      have hfin : Below w.heap.size w wo := hxb.trans HX.out
      go_wp2_with fail
      go_loop [16, 18] (fun b i => ∃ k : Nat, k ≤ 8 ∧ i = .int .i64 k ∧ b = .bool true) (fun _ i => 8 - (intOf i).toNat)
      case atStart => exact ⟨0, by omega, rfl, rfl⟩
      case round =>
        obtain ⟨k, hk, rfl, rfl⟩ := hrel
        by_cases hlt : k < 8
        · have hcell := H7.out k hlt
          go_wp2_with fail
          go_round
          case rel => exact ⟨k + 1, by omega, by go_num, rfl⟩
          case measure => simp [intOf]; omega
        · obtain rfl : k = 8 := by omega
          go_wp2_with fail
          go_ret
          exact ⟨rfl, hfin⟩

theorem own : ownKnob Try.prog.godebug = none := by kernel_rfl
theorem laidOut : laidOutB Try.prog = true := by kernel_rfl

set_option maxRecDepth 100000 in
theorem lifted (os : Os) (started : os.Started) (H : Type) (enc : TypeId × Value → H) :
    ReturnsInHanded {} Try.checked os 3 .any (Rows.xdrWritesSpec.pre6 enc Try.prog Try.f3 Rows.xdrWritesRow.domain false) (Rows.xdrWritesSpec.post enc Try.prog Try.f3 false true false false) := by
  refine returnsInHanded_of_change (C := Try.checked) own started (by kernel_rfl) Try.func3
    (ChangeSpec.witness6 (enc := enc) (C := Try.checked) false ⟨#[], #[.slice none 0 0, .int .u64 0, .bool false, .string ⟨#[]⟩], []⟩ 8 (by kernel_rfl) (by kernel_rfl) (by kernel_rfl) (by kernel_rfl)) ?_
  intro W base args ds gs before hval0 hW hcnd _
  have hval : ∀ (j : Nat) t v, Try.f3.params[j]? = some t → args[j]? = some v → Value.okWide Try.prog W .any base t v := hval0
  have hW' := hW
  obtain ⟨p, q, hA0, hV, rfl, hfz, hnd⟩ := hW
  have hA : DataW.TrodAll enc Try.prog W 0 (fun _ => true) true Try.f3.params.toList args.toList ds p := hA0
  rw [Try.params3] at hA hval
  obtain ⟨v0, vs0, d0, ds0, p0, q0, hargs, rfl, rfl, h0, r0⟩ := trodAll_cons hA
  obtain ⟨v1, vs1, d1, ds1, p1, q1, rfl, rfl, rfl, h1, r1⟩ := trodAll_cons r0
  obtain ⟨v2, vs2, d2, ds2, p2, q2, rfl, rfl, rfl, h2, r2⟩ := trodAll_cons r1
  obtain ⟨v3, vs3, d3, ds3, p3, q3, rfl, rfl, rfl, h3, r3⟩ := trodAll_cons r2
  obtain ⟨rfl, rfl, rfl⟩ := trodAll_nil r3
  obtain rfl : args = #[v0, v1, v2, v3] := by cases args; simp_all
  obtain ⟨rfl, rfl⟩ := trodVars_none hV
  have k0 := h0
  have lt0 : ∀ x ∈ p0, x.block < W.heap.size := by obtain ⟨m, hm⟩ := k0; exact DataW.trod_lt m _ _ _ hm
  have k1 := h1
  have lt1 : ∀ x ∈ p1, x.block < W.heap.size := by obtain ⟨m, hm⟩ := k1; exact DataW.trod_lt m _ _ _ hm
  have k2 := h2
  have lt2 : ∀ x ∈ p2, x.block < W.heap.size := by obtain ⟨m, hm⟩ := k2; exact DataW.trod_lt m _ _ _ hm
  have k3 := h3
  have lt3 : ∀ x ∈ p3, x.block < W.heap.size := by obtain ⟨m, hm⟩ := k3; exact DataW.trod_lt m _ _ _ hm
  obtain ⟨l0, y0, wl0⟩ := open_bytes Try.underlying22 Try.underlying5 (by kernel_rfl) (hval 0 _ v0 rfl rfl) h0
  obtain ⟨a1, rfl, -, -, wa1⟩ := open_int Try.underlying23 (hval 1 _ v1 rfl rfl) h1
  obtain ⟨a2, rfl, -, -⟩ := open_bool Try.underlying4 (hval 2 _ v2 rfl rfl) h2
  obtain ⟨l3, rfl, wl3⟩ := open_str Try.underlying9 (hval 3 _ v3 rfl rfl) h3
  refine (walk (w := W) v0 l0 y0 wl0 a1 wa1 a2 l3 wl3).mono fun e W' ⟨he, bel⟩ => ?_
  subst he
  exact ⟨_, rfl, _, _, _, [], _, [], hW', trodAll_mk1 (shut_bool Try.underlying4 _), (trodAll_cons_mk (Below.trod laidOut (by kernel_rfl) (of_decide_eq_true (by kernel_rfl)) k0 bel lt0) (trodAll_cons_mk (Below.trod laidOut (by kernel_rfl) (of_decide_eq_true (by kernel_rfl)) k1 bel lt1) (trodAll_cons_mk (Below.trod laidOut (by kernel_rfl) (of_decide_eq_true (by kernel_rfl)) k2 bel lt2) (trodAll_cons_mk (Below.trod laidOut (by kernel_rfl) (of_decide_eq_true (by kernel_rfl)) k3 bel lt3) trodAll_mk0)))), rfl, bel.frame _, fun h => by cases h⟩

theorem proved : Rows.XdrWritesSaid :=
  OpenClaim.holds_of_wide 3 Try.f3 rfl rfl rfl rfl rfl rfl rfl ⟨rfl, rfl, rfl, rfl, rfl⟩ rfl rfl rfl rfl rfl (by kernel_rfl) Try.func3 (by kernel_rfl)
    (of_decide_eq_true (by kernel_rfl)) (by unfold Func.isWrapper; first | (rw [if_pos (by decide +kernel)]; kernel_rfl) | (rw [if_neg (by decide +kernel)]; exact ⟨rfl, rfl⟩))
    (fun os started H enc _ => lifted os started H enc)
end Go.Proofs.Ytaccjneglaomhaa.xdrWrites
