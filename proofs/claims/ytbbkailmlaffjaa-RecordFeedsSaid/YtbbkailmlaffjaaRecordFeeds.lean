/- RecordFeeds: whatever chunks a reader is handed, what it tells, holds, and whether it is shut, are the document's. -/
import Derived.Test.YtbbkailmlaffjaaRcT
set_option linter.unusedVariables false
set_option maxRecDepth 100000
namespace Go.Proofs.Ytbbkailmlaffjaa.recordFeeds
open Go.Proofs.Ytbbkailmlaffjaa
open Go.RowKit Go.ChangeShapes Go.WideShapes Go.ChangeAt Go.Deep

def tot (l : List (Value × List UInt8)) : Nat := (l.map fun x => x.2.length).sum
theorem tot_take (l : List (Value × List UInt8)) (k : Nat) (x : Value × List UInt8) (h : l[k]? = some x) : tot (l.take (k + 1)) = tot (l.take k) + x.2.length := by
  rw [List.take_add_one, h]
  simp [tot]
theorem tot_le (l : List (Value × List UInt8)) : ∀ k, tot (l.take k) ≤ tot l := by
  induction l with
  | nil => intro k; simp [tot]
  | cons a l ih =>
    intro k
    cases k with
    | zero => simp [tot]
    | succ k =>
      have := ih k
      simp only [tot, List.take_succ_cons, List.map_cons, List.sum_cons] at this ⊢
      omega
theorem bss_cell {w : World} {b off c : Nat} {l : List (Value × List UInt8)} (h : RR w 1 (.slice (some ⟨b, off, none⟩) l.length c) l.length (l.map (·.1))) {k : Nat} {x : Value × List UInt8} (hx : l[k]? = some x) : w.cell? ⟨b, off + k, none⟩ = some x.1 := by
  have hk := (List.getElem?_eq_some_iff.1 hx).1
  obtain ⟨b', off', hA, _, _, hj⟩ := h.at (by omega)
  simp only [Option.some.injEq, Addr.mk.injEq, and_true] at hA
  obtain ⟨rfl, rfl⟩ := hA
  rw [hj k (by rw [List.length_map]; exact hk)]
  have h1 := (List.getElem?_eq_some_iff.1 hx).2
  simp [h1]
def LongP (l : List (Value × List UInt8)) (w : World) (e : Ending) (w' : World) : Prop := ∃ b, e = .returned (.bool b) ∧ Ext w w' ∧ (b = false → l.length ≤ 200 ∧ tot l ≤ 9000)
set_option maxHeartbeats 1000000 in
theorem long_any (w : World) (x : BssT) (hx : x.Ok w) : Calls Try.prog 18 #[x.v] w (LongP x.l w) := by
  obtain ⟨v, l⟩ := x
  obtain ⟨hr, he, hl⟩ := hx
  simp only at hr he hl ⊢
  obtain ⟨A, c, rfl⟩ := hr.form
  have HR := Lib.hid hr
  have HE := Lib.hid he
  clear hr he
  unfold maxLen at hl
  by_cases h2 : 200 < l.length
  · go_enter Try.func18, Try.ntmps18
    go_wp2_with fail
    go_ret
    exact ⟨true, rfl, Ext.refl _, fun h => by cases h⟩
  · have h2' : (l.length : Int) ≤ 200 := by omega
    go_enter Try.func18, Try.ntmps18
    go_wp2_with fail
    go_loopw [3, 4] (fun nv iv wr => ∃ k : Nat, k ≤ l.length ∧ iv = .int .i64 k ∧ nv = .int .i64 (tot (l.take k) : Nat) ∧ tot (l.take k) ≤ 9000 ∧ Hid (Ext w wr)) (fun _ iv _ => l.length - (intOf iv).toNat)
    case atStart => exact ⟨0, Nat.zero_le _, rfl, rfl, Nat.zero_le _, Lib.hid (Ext.refl _)⟩
    case round =>
      obtain ⟨k, hk, rfl, rfl, ht, HX⟩ := hrel
      by_cases hkl : k < l.length
      · obtain ⟨x, hx⟩ : ∃ x, l[k]? = some x := ⟨_, List.getElem?_eq_getElem hkl⟩
        obtain ⟨b, off, rfl, hb, hcl, -⟩ := HR.out.at (by omega)
        have cell := bss_cell (HR.out.ext HX.out) hx
        have hbl : b < wr.heap.size := Nat.lt_of_lt_of_le hb (Below.size HX.out)
        obtain ⟨hz, hzl⟩ := HE.out x (List.mem_of_getElem? hx)
        obtain ⟨Ax, cx, hxv⟩ := hz.form
        rw [hxv] at cell
        unfold maxLen at hzl
        have hn := tot_take l k x hx
        obtain ⟨n, hnn⟩ : ∃ n, x.2.length = n := ⟨_, rfl⟩
        obtain ⟨t, htt⟩ : ∃ t, tot (l.take k) = t := ⟨_, rfl⟩
        rw [hnn] at cell hzl hn
        rw [htt] at hn ht ⊢
        have HN := Lib.hid hn
        have HTT := Lib.hid htt
        clear hz hx hxv hn htt hnn
        by_cases h9 : 9000 < n
        · go_wp2_with fail
          go_ret
          exact ⟨true, rfl, HX.out, fun h => by cases h⟩
        · by_cases h10 : 9000 < t + n
          · go_wp2_with fail
            go_ret
            exact ⟨true, rfl, HX.out, fun h => by cases h⟩
          · go_wp2_with fail
            go_roundw
            case rel => exact ⟨k + 1, by omega, by go_num, by rw [HN.out]; go_num, by rw [HN.out]; omega, HX⟩
            case measure => simp only [intOf]; omega
      · obtain rfl : k = l.length := by omega
        rw [List.take_length] at ht
        have HT := Lib.hid ht
        clear ht
        rw [List.take_length]
        go_wp2_with fail
        go_ret
        exact ⟨false, rfl, HX.out, fun _ => ⟨by omega, HT.out⟩⟩
theorem same_ext {P : Program} {f : FuncId} {args : Array Value} {w : World} {v : Value} (h : Calls P f args w fun e w' => e = .returned v ∧ w' = w) : Calls P f args w fun e w' => e = .returned v ∧ Below w.heap.size w w' :=
  h.mono fun _ _ ⟨h1, h2⟩ => ⟨h1, by subst h2; exact Below.refl _ _⟩
set_option maxHeartbeats 8000000 in
theorem walk {w : World} (x : BssT) (hx : x.Ok w) : Calls Try.prog 6 #[x.v] w fun e w' => e = .returned (.bool true) ∧ Below w.heap.size w w' := by
  have hkl := long_any w x hx
  obtain ⟨v, l⟩ := x
  obtain ⟨hr, he, hl⟩ := hx
  simp only at hr he hl hkl ⊢
  obtain ⟨A, c, rfl⟩ := hr.form
  have HR := Lib.hid hr
  have HE := Lib.hid he
  have KL := Lib.hid hkl
  clear hr he hkl
  unfold maxLen at hl
  go_enter Try.func6, Try.ntmps6
  go_wp2_with fail
  refine KL.out.mono ?_
  rintro e w1 ⟨b, rfl, h1, hb⟩
  clear KL
  cases b with
  | true =>
    go_wp2_with fail
    refine (awake_any _).mono ?_
    rintro e w2 ⟨rfl, h2⟩
    go_wp2_with fail
    go_ret
    exact ⟨rfl, Below.trans h1 (Below.mono h2 (Below.size h1))⟩
  | false =>
    obtain ⟨h200, htot⟩ := hb rfl
    have O1 := Lib.hid ((OSt.start (Z := Zn) w).ext h1)
    clear h1 hb
    go_wp2_with fail
    refine (newO O1.out).mono ?_
    rintro e w2 ⟨g1, rfl, o2⟩
    have O3 := Lib.hid o2.newRd
    clear o2 O1
    go_upto_region 8 with fail
    generalize w2.heap.size = gx at *
    generalize w2.alloc (.cells #[.string ⟨#[]⟩, .int .i64 0, .bool false] 45) = w3 at *
    go_loopw [5, 6, 7, 8, 9, 10, 11, 12, 13, 14, 15] (fun iv _ _ _ _ _ _ _ _ _ _ wr => ∃ (k : Nat) (st : Rc), k ≤ l.length ∧ iv = .int .i64 k ∧ st.held ≤ tot (l.take k) ∧ Hid st.Ok ∧ Hid (OSt w [rdOb gx st (tot (l.take k)), rcOb g1 st] wr)) (fun iv _ _ _ _ _ _ _ _ _ _ _ => l.length - (intOf iv).toNat)
    case atStart => exact ⟨0, rc0, Nat.zero_le _, rfl, Nat.zero_le _, Lib.hid rc0_ok, O3⟩
    case round =>
      obtain ⟨k, st, hk, rfl, hhd, HOK, HO⟩ := hrel
      clear O3
      by_cases hkl : k < l.length
      · obtain ⟨⟨cv, ch⟩, hx⟩ : ∃ x, l[k]? = some x := ⟨_, List.getElem?_eq_getElem hkl⟩
        obtain ⟨b, off, rfl, hb, hcl, -⟩ := HR.out.at (by omega)
        obtain ⟨hz, hzl⟩ := HE.out _ (List.mem_of_getElem? hx)
        obtain ⟨Ax, cx, hxv⟩ := hz.form
        simp only at hz hzl hxv
        subst hxv
        have htk := tot_take l k _ hx
        have hmx := tot_le l (k + 1)
        simp only at htk
        have hch : ch.length ≤ 9000 := by omega
        obtain ⟨m, hm⟩ : ∃ m, tot (l.take k) = m := ⟨_, rfl⟩
        rw [hm] at htk hhd HO
        have HZ := Lib.hid hz
        have HC : Hid (∀ W', Below w.heap.size w W' → W'.cell? ⟨b, off + k, none⟩ = some (.slice Ax ch.length cx)) := Lib.hid fun W' h => (Below.cell h (p := ⟨b, off + k, none⟩) hb).trans (bss_cell HR.out hx)
        have HTK := Lib.hid htk
        have hm9 : m + ch.length ≤ 9000 := by omega
        have cell0 := HC.out wr HO.out.bel
        have hbr : b < wr.heap.size := Nat.lt_of_lt_of_le hb HO.out.bel.size
        obtain ⟨v0, w4, hr0, ho0, hb0⟩ := appZ (ty := 22) (own_none (w := wr) (T := 5)).z (((HZ.out.ext HO.out.bel).ext (extAl wr _)).src) (by simp) (by simp; omega)
        have hx0 : Ext wr w4 := Below.trans (extAl wr _) hb0
        rw [List.nil_append] at ho0
        have o4 := HO.out.pushOwn hx0 (ownZ_row ho0)
        obtain ⟨A0, c0, rfl⟩ := ho0.rs.form
        have O4 : Hid (OSt w [ownOb 5 1 (.slice A0 ch.length c0) ch.length (bvs ch), rdOb gx st m, rcOb g1 st] w4) := Lib.hid o4
        clear hx0 hb0 ho0 o4 hz hx htk hm hmx HO
        obtain ⟨wo, rfl⟩ : ∃ wo : World, wo = wr := ⟨_, rfl⟩
        go_wp2_with (at_builtin; refine wpList_app rfl (.tmp 30) (.tmp 34) 22 22 rfl hr0 ?_; simp only [Act.put])
        clear cell0
        refine (copyO O4.out 2 rfl HOK.out).mono ?_
        rintro e w5 ⟨gc, rfl, o5⟩
        have O5 : Hid (OSt w [rcOb gc st, ownOb 5 1 (.slice A0 ch.length c0) ch.length (bvs ch), rdOb gx st m, rcOb g1 st] w5) := Lib.hid o5
        clear o5 O4 hr0
        obtain ⟨st', ys, hF⟩ : ∃ st' ys, feed st ch = (st', ys) := ⟨_, _, rfl⟩
        have hok' := feed_ok ch HOK.out
        have hhd' := feed_held ch st
        have hyc := feedCount hF
        rw [hF] at hok' hhd'
        simp only at hok' hhd'
        have HF := Lib.hid hF
        have HOK' := Lib.hid hok'
        clear hF hok'
        have K := feedO O5.out 3 (g := g1) (s := st) (v := .slice A0 ch.length c0) (ch := ch) rfl HOK.out (own_rs (O5.out.own 1 rfl)) (away_at O5.out (j := 1) rfl (by decide)) (by omega) (by omega)
        rw [HF.out] at K
        have KF := Lib.hid K
        clear K
        go_wp2_with fail
        refine KF.out.mono ?_
        rintro e w6 ⟨av, rfl, o6⟩
        have O6 : Hid (OSt w [strOb av ys, rcOb gc st, ownOb 5 1 (.slice A0 ch.length c0) ch.length (bvs ch), rdOb gx st m, rcOb g1 st'] w6) := Lib.hid o6
        clear o6 O5 KF
        have cell6 := HC.out w6 O6.out.bel
        have hb6 : b < w6.heap.size := Nat.lt_of_lt_of_le hb O6.out.bel.size
        have K := rFeedO O6.out 3 (g := gx) (m := m) (st := st) (v := .slice Ax ch.length cx) (ch := ch) rfl (HZ.out.ext O6.out.bel) (by omega)
        rw [HF.out] at K
        have KF := Lib.hid K
        clear K
        go_wp2_with fail
        refine KF.out.mono ?_
        rintro e w7 ⟨bv, tv, n, cs, rfl, o7, hbv⟩
        have O7 : Hid (OSt w [ownOb 9 1 tv n cs, strOb av ys, rcOb gc st, ownOb 5 1 (.slice A0 ch.length c0) ch.length (bvs ch), rdOb gx st' (m + ch.length), rcOb g1 st'] w7) := Lib.hid o7
        have HBV := Lib.hid hbv
        clear o7 O6 KF cell6 hb6 hbv
        have K := feedO O7.out 2 (g := gc) (s := st) (v := .slice A0 ch.length c0) (ch := ch) rfl HOK.out (own_rs (O7.out.own 3 rfl)) (away_at O7.out (j := 3) rfl (by decide)) (by omega) (by omega)
        rw [HF.out] at K
        have KF := Lib.hid K
        clear K
        go_wp2_with fail
        refine KF.out.mono ?_
        rintro e w8 ⟨dv, rfl, o8⟩
        have O8 : Hid (OSt w [strOb dv ys, ownOb 9 1 tv n cs, strOb av ys, rcOb gc st', ownOb 5 1 (.slice A0 ch.length c0) ch.length (bvs ch), rdOb gx st' (m + ch.length), rcOb g1 st'] w8) := Lib.hid o8
        clear o8 O7 KF
        have cell8 := HC.out w8 O8.out.bel
        have hb8 : b < w8.heap.size := Nat.lt_of_lt_of_le hb O8.out.bel.size
        obtain ⟨xcell, hgx⟩ := rCellO O8.out 5 rfl
        have hy1 : ys.length ≤ 1000000 := by omega
        have K0 : Hid (∀ e : ExtOf w8.heap.size w8, Calls Try.prog 11 #[av, bv] e.val fun r w' => r = .returned (.bool true) ∧ Below e.val.heap.size e.val w') := Lib.hid fun e => Same_t ys e.val (((O8.out.ext e.ok).own 2 rfl).rr (by decide)) (HBV.out _ ((O8.out.ext e.ok).own 1 rfl)) hy1
        have K1 : Hid (∀ e : ExtOf w8.heap.size w8, Calls Try.prog 11 #[dv, bv] e.val fun r w' => r = .returned (.bool true) ∧ Below e.val.heap.size e.val w') := Lib.hid fun e => Same_t ys e.val (((O8.out.ext e.ok).own 0 rfl).rr (by decide)) (HBV.out _ ((O8.out.ext e.ok).own 1 rfl)) hy1
        have K2 : Hid (∀ e : ExtOf w8.heap.size w8, Calls Try.prog 12 #[.pointer (some ⟨g1, 0, none⟩)] e.val fun r w' => r = .returned (.int .i64 st'.held) ∧ Below e.val.heap.size e.val w') := Lib.hid fun e => same_ext (heldO (O8.out.ext e.ok) 6 rfl)
        have K3 : Hid (∀ e : ExtOf w8.heap.size w8, Calls Try.prog 21 #[.pointer (some ⟨gx, 0, none⟩)] e.val fun r w' => r = .returned (.int .i64 st'.held) ∧ Below e.val.heap.size e.val w') := Lib.hid fun e => rHeldO (O8.out.ext e.ok) 5 rfl (by omega)
        have K4 : Hid (∀ e : ExtOf w8.heap.size w8, Calls Try.prog 13 #[.pointer (some ⟨g1, 0, none⟩)] e.val fun r w' => r = .returned (.bool st'.shut) ∧ Below e.val.heap.size e.val w') := Lib.hid fun e => same_ext (shutO (O8.out.ext e.ok) 6 rfl)
        have K5 : Hid (∀ e : ExtOf w8.heap.size w8, Calls Try.prog 12 #[.pointer (some ⟨gc, 0, none⟩)] e.val fun r w' => r = .returned (.int .i64 st'.held) ∧ Below e.val.heap.size e.val w') := Lib.hid fun e => same_ext (heldO (O8.out.ext e.ok) 3 rfl)
        have CI : Hid (∀ w', Ext w8 w' → (convert 22 9 (.slice A0 ch.length c0)).run Try.prog w' = .ok (.string (str ch)) w') := Lib.hid fun w' k => (own_rs ((O8.out.ext k).own 4 rfl)).conv Try.underlying22 Try.underlying5 Try.underlying9
        have CL : Hid (∀ w', Ext w8 w' → (convert 22 9 (.slice Ax ch.length cx)).run Try.prog w' = .ok (.string (str ch)) w') := Lib.hid fun w' k => (HZ.out.ext (O8.out.ext k).bel).conv
        obtain ⟨Aa, ca, rfl⟩ := (O8.out.own 2 rfl).form
        obtain ⟨Ad, cd, rfl⟩ := (O8.out.own 0 rfl).form
        obtain ⟨Ab, cb, rfl⟩ := (HBV.out _ (O8.out.own 1 rfl)).form
        obtain ⟨S, hS⟩ : ∃ S, str ch = S := ⟨_, rfl⟩
        obtain ⟨sh, hsh⟩ : ∃ sh, st'.shut = sh := ⟨_, rfl⟩
        obtain ⟨E, hE⟩ : ∃ E, shN st'.shut = E := ⟨_, rfl⟩
        obtain ⟨Hd, hHd⟩ : ∃ Hd : Int, (st'.held : Int) = Hd := ⟨_, rfl⟩
        rw [hE]
        rw [hS] at CI CL
        rw [hHd] at K2 K3 K5
        rw [hsh] at K4 xcell
        clear hE hS hHd hsh
        go_upto_region 15 with fail
        have e0 := fun (e : ExtOf w8.heap.size w8) => e.cell xcell hgx
        have e1 := fun (e : ExtOf w8.heap.size w8) => e.cell cell8 hb8
        clear xcell cell8
        refine wp_region_ext w8.heap.size (by kernel_rfl) (by kernel_rfl) ?_
        try simp only [List.append_eq, List.cons_append, List.nil_append]
        repeat (go_big_quiet_step ((fail)))
        go_big_quiet_step ((go_at_call 11; exact ext_of (Nat.le_refl _) (K0.out _)))
        repeat (go_big_quiet_step ((fail)))
        go_big_quiet_step ((go_at_call 11; exact ext_of (Nat.le_refl _) (K1.out _)))
        repeat (go_big_quiet_step ((fail)))
        go_big_quiet_step ((go_at_call 12; exact ext_of (Nat.le_refl _) (K2.out _)))
        repeat (go_big_quiet_step ((fail)))
        go_big_quiet_step ((go_at_call 21; exact ext_of (Nat.le_refl _) (K3.out _)))
        repeat (go_big_quiet_step ((fail)))
        go_big_quiet_step ((go_at_call 13; exact ext_of (Nat.le_refl _) (K4.out _)))
        repeat (go_big_quiet_step ((fail)))
        go_big_quiet_step ((go_at_call 12; exact ext_of (Nat.le_refl _) (K5.out _)))
        repeat (go_big_quiet_step ((fail)))
        go_big_quiet_step ((go_at_call 21; exact ext_of (Nat.le_refl _) (K3.out _)))
        repeat (go_big_quiet_step ((fail)))
        go_big_quiet_want
        refine quiet_cv 22 9 _ rfl (fun w' hw' => CI.out w' (by obtain ⟨e, rfl⟩ := hw'; exact e.ok)) ?_
        go_simp
        go_big_quiet_on
        repeat (go_big_quiet_step ((fail)))
        go_big_quiet_want
        refine quiet_cv 22 9 _ rfl (fun w' hw' => CL.out w' (by obtain ⟨e, rfl⟩ := hw'; exact e.ok)) ?_
        go_simp
        go_big_quiet_on
        repeat (go_big_quiet_step ((fail)))
        refine wpQuiet_nil ?_
        rintro w9 ⟨⟨_, hb9⟩, rfl⟩
        have O9 : Hid (∃ cs, cs.length = ch.length ∧ OSt w [strOb (.slice Aa ys.length ca) ys, ownOb 5 1 (.slice A0 ch.length c0) ch.length cs, rdOb gx st' (m + ch.length), rcOb g1 st'] w9) := Lib.hid ⟨bvs ch, bvs_length _, (((O8.out.ext hb9).dropI 0).dropI 0).dropI 1⟩
        clear hb9 O8 K0 K1 K2 K3 K4 K5 CI CL e0 e1 HBV hgx
        obtain ⟨wo9, rfl⟩ : ∃ wo : World, wo = w9 := ⟨_, rfl⟩
        go_upto_region 18 with fail
        go_loopw [14] (fun iv wr => ∃ j : Nat, j ≤ ch.length ∧ iv = .int .i64 j ∧ Hid (∃ cs, cs.length = ch.length ∧ OSt w [strOb (.slice Aa ys.length ca) ys, ownOb 5 1 (.slice A0 ch.length c0) ch.length cs, rdOb gx st' (m + ch.length), rcOb g1 st'] wr)) (fun iv _ => ch.length - (intOf iv).toNat)
        case atStart => exact ⟨0, Nat.zero_le _, rfl, O9⟩
        case round =>
          obtain ⟨j, hj, rfl, HO⟩ := hrel
          by_cases hjl : j < ch.length
          · obtain ⟨cs, hcl', hO⟩ := HO.out
            have ho := hO.own 1 rfl
            obtain ⟨bi, rfl, -, hbl, hcc, hjc⟩ := ho.cells (by omega)
            have hcc := hcc (by decide)
            have hcell : wr.cell? ⟨bi, j, none⟩ = some cs[j] := hjc j (by omega)
            obtain ⟨row, hrow⟩ := own_blk ho (b := bi) (by simp [Value.ownBlock])
            have hfz : ∀ o, wr.frozen? ⟨bi, o, none⟩ = false := fun o => by simp [World.frozen?, hrow]
            have hO2 := hO.setOwn 1 (j := j) (x := .int .u8 238) rfl (by omega) rfl
            have HO2 := Lib.hid hO2
            clear ho hrow hjc HO hO hO2 O9
            go_wp2
            go_roundw
            case rel => exact ⟨j + 1, by omega, by go_num, Lib.hid ⟨cs.set j (.int .u8 238), by simpa using hcl', HO2.out⟩⟩
            case measure => simp only [intOf]; omega
          · obtain rfl : j = ch.length := by omega
            obtain ⟨cs, hcl', hO⟩ := HO.out
            have O10 : Hid (∃ cs, cs.length = ys.length ∧ OSt w [ownOb 9 1 (.slice Aa ys.length ca) ys.length cs, rdOb gx st' (m + ch.length), rcOb g1 st'] wr) := Lib.hid ⟨svs ys, svs_length _, hO.dropI 1⟩
            clear HO hO O9
            obtain ⟨wo10, rfl⟩ : ∃ wo : World, wo = wr := ⟨_, rfl⟩
            go_upto_region 22 with fail
            go_loopw [15] (fun iv wr => ∃ j : Nat, j ≤ ys.length ∧ iv = .int .i64 j ∧ Hid (∃ cs, cs.length = ys.length ∧ OSt w [ownOb 9 1 (.slice Aa ys.length ca) ys.length cs, rdOb gx st' (m + ch.length), rcOb g1 st'] wr)) (fun iv _ => ys.length - (intOf iv).toNat)
            case atStart => exact ⟨0, Nat.zero_le _, rfl, O10⟩
            case round =>
              obtain ⟨j, hj, rfl, HO⟩ := hrel
              by_cases hjl : j < ys.length
              · obtain ⟨cs, hcl', hO⟩ := HO.out
                have ho := hO.own 0 rfl
                obtain ⟨bi, rfl, -, hbl, hcc, hjc⟩ := ho.cells (by omega)
                have hcc := hcc (by decide)
                have hcell : wr.cell? ⟨bi, j, none⟩ = some cs[j] := hjc j (by omega)
                obtain ⟨row, hrow⟩ := own_blk ho (b := bi) (by simp [Value.ownBlock])
                have hfz : ∀ o, wr.frozen? ⟨bi, o, none⟩ = false := fun o => by simp [World.frozen?, hrow]
                have hO2 := hO.setOwn 0 (j := j) (x := .string ⟨#[115, 112, 111, 105, 108, 116]⟩) rfl (by omega) rfl
                have HO2 := Lib.hid hO2
                clear ho hrow hjc HO hO hO2 O10
                go_wp2
                go_roundw
                case rel => exact ⟨j + 1, by omega, by go_num, Lib.hid ⟨cs.set j _, by simpa using hcl', HO2.out⟩⟩
                case measure => simp only [intOf]; omega
              · obtain rfl : j = ys.length := by omega
                obtain ⟨cs, hcl', hO⟩ := HO.out
                have O11 : Hid (OSt w [rdOb gx st' (tot (l.take (k + 1))), rcOb g1 st'] wr) := Lib.hid (by rw [HTK.out]; exact hO.dropI 0)
                have htk := HTK.out
                have hh2 : st'.held ≤ tot (l.take (k + 1)) := by omega
                clear HO hO O10 HTK htk
                go_wp2
                go_roundw
                case rel => exact ⟨k + 1, st', by omega, by go_num, hh2, HOK', O11⟩
                case measure => simp only [intOf]; omega
      · obtain rfl : k = l.length := by omega
        have HB := Lib.hid HO.out.bel
        clear HO
        go_wp2_with fail
        refine (awake_any _).mono ?_
        rintro e w7 ⟨rfl, h7⟩
        go_wp2_with fail
        go_ret
        exact ⟨rfl, HB.out.trans (Below.mono h7 HB.out.size)⟩
theorem own : ownKnob Try.prog.godebug = none := by kernel_rfl
theorem laidOut : laidOutB Try.prog = true := by kernel_rfl

set_option maxRecDepth 100000 in
theorem lifted (os : Os) (started : os.Started) (H : Type) (enc : TypeId × Value → H) :
    ReturnsInHanded {} Try.checked os 6 .any (Rows.recordFeedsSpec.pre6 enc Try.prog Try.f6 Rows.recordFeedsRow.domain false) (Rows.recordFeedsSpec.post enc Try.prog Try.f6 false true false false) := by
  refine returnsInHanded_of_change (C := Try.checked) own started (by kernel_rfl) Try.func6
    (ChangeSpec.witness6 (enc := enc) (C := Try.checked) false ⟨#[], #[.slice none 0 0], []⟩ 8 (by kernel_rfl) (by kernel_rfl) (by kernel_rfl) (by kernel_rfl)) ?_
  intro W base args ds gs before hval0 hW hcnd _
  have hval : ∀ (j : Nat) t v, Try.f6.params[j]? = some t → args[j]? = some v → Value.okWide Try.prog W .any base t v := hval0
  have hW' := hW
  obtain ⟨p, q, hA0, hV, rfl, hfz, hnd⟩ := hW
  have hA : DataW.TrodAll enc Try.prog W 0 (fun _ => true) true Try.f6.params.toList args.toList ds p := hA0
  rw [Try.params6] at hA hval
  obtain ⟨v0, vs0, d0, ds0, p0, q0, hargs, rfl, rfl, h0, r0⟩ := trodAll_cons hA
  obtain ⟨rfl, rfl, rfl⟩ := trodAll_nil r0
  obtain rfl : args = #[v0] := by cases args; simp_all
  obtain ⟨rfl, rfl⟩ := trodVars_none hV
  have k0 := h0
  have lt0 : ∀ x ∈ p0, x.block < W.heap.size := by obtain ⟨m, hm⟩ := k0; exact DataW.trod_lt m _ _ _ hm
  obtain ⟨x0, rfl, w0⟩ := open_Wbss (hval 0 _ v0 rfl rfl) h0
  refine (walk (w := W) x0 w0).mono fun e W' ⟨he, bel⟩ => ?_
  subst he
  exact ⟨_, rfl, _, _, _, [], _, [], hW', trodAll_mk1 (shut_bool Try.underlying4 _), (trodAll_cons_mk (Below.trod laidOut (by kernel_rfl) (of_decide_eq_true (by kernel_rfl)) k0 bel lt0) trodAll_mk0), rfl, bel.frame _, fun h => by cases h⟩

theorem proved : Rows.RecordFeedsSaid :=
  OpenClaim.holds_of_wide 6 Try.f6 rfl rfl rfl rfl rfl rfl rfl ⟨rfl, rfl, rfl, rfl, rfl⟩ rfl rfl rfl rfl rfl (by kernel_rfl) Try.func6 (by kernel_rfl)
    (of_decide_eq_true (by kernel_rfl)) (by unfold Func.isWrapper; first | (rw [if_pos (by decide +kernel)]; kernel_rfl) | (rw [if_neg (by decide +kernel)]; exact ⟨rfl, rfl⟩))
    (fun os started H enc _ => lifted os started H enc)
end Go.Proofs.Ytbbkailmlaffjaa.recordFeeds
