/- Proved: NetOnce returns true whatever number and whatever steps it is called with, and the argument reads behind the call as before. No condition. -/
import Derived.Test.YteahlnoonmfjhaaNoA
import Derived.Test.YteahlnoonmfjhaaLift
set_option linter.unusedVariables false
set_option maxRecDepth 100000
namespace Go.Proofs.Yteahlnoonmfjhaa.netOnce
open Go.RowKit Go.ChangeShapes Go.WideShapes Go.ChangeAt Go.Deep Go.Proofs.Yteahlnoonmfjhaa

theorem okl_ok {a : AgT} (h : a.Okl) (h1 : a.name.length ≤ 20000) (h2 : a.other.length ≤ 20000) (h3 : a.text.length ≤ 20000) : a.Ok := ⟨h.h, h.t, h1, h2, h3, h.at_, h.n, h.mode, h.size, h.stable, h.guard, h.verf⟩
theorem cells {w : World} {b off c : Nat} {l : List AskE} (h : RR w 19 (.slice (some ⟨b, off, none⟩) l.length c) l.length (l.flatMap askC)) {k : Nat} {x : AskE} (hx : l[k]? = some x) :
    w.cell? ⟨b, off + k * 19, none⟩ = some (.int .u8 x.k) ∧ w.cell? ⟨b, off + k * 19 + 1, none⟩ = some (.int .i64 x.n) ∧ w.cell? ⟨b, off + k * 19 + 18, none⟩ = some (.string (str x.t)) ∧ w.cell? ⟨b, off + k * 19 + 10, none⟩ = some (.string (str x.a.text)) ∧ w.cell? ⟨b, off + k * 19 + 8, none⟩ = some (.string (str x.a.name)) ∧ w.cell? ⟨b, off + k * 19 + 9, none⟩ = some (.string (str x.a.other)) := by
  have ha := RR.cellAt (enc := askC) h askC_len hx (i := 0) rfl
  have hb := RR.cellAt (enc := askC) h askC_len hx (i := 1) rfl
  have h0 := RR.cellAt (enc := askC) h askC_len hx (i := 18) rfl
  have h1 := RR.cellAt (enc := askC) h askC_len hx (i := 10) rfl
  have h2 := RR.cellAt (enc := askC) h askC_len hx (i := 8) rfl
  have h3 := RR.cellAt (enc := askC) h askC_len hx (i := 9) rfl
  rw [← Nat.add_assoc] at ha hb h0 h1 h2 h3
  exact ⟨ha, hb, h0, h1, h2, h3⟩
theorem argc {w : World} {b off c : Nat} {l : List AskE} (h : RR w 19 (.slice (some ⟨b, off, none⟩) l.length c) l.length (l.flatMap askC)) {k : Nat} {x : AskE} (hx : l[k]? = some x) :
    ∀ j (hj : j < (agC x.a).length), w.cell? ⟨b, off + k * 19 + 2 + j, none⟩ = some (agC x.a)[j] := fun j hj => by
  have := RR.cellAt (enc := askC) h askC_len hx (i := j + 2) (v := (agC x.a)[j]) (by
    show (agC x.a ++ [.string (str x.t)])[j]? = _
    rw [List.getElem?_append_left hj, List.getElem?_eq_getElem hj])
  rw [show off + k * 19 + 2 + j = off + (k * 19 + (j + 2)) by omega]
  exact this
theorem ldargs {w : World} {b off k : Nat} {a : AgT} (h : ∀ j (hj : j < (agC a).length), w.cell? ⟨b, off + k * 19 + 2 + j, none⟩ = some (agC a)[j]) :
    (Instr.loadAt 35 (.pointer (some ⟨b, off + k * 19 + 2, none⟩))).run Try.prog w = .ok (.agg (agC a).toArray) w :=
  loadAt_cs (P := Try.prog) Try.underlying35 (by kernel_rfl) h
theorem bcs_set (l : List Bool) (j : Nat) (b : Bool) : (bcs l).set j (.bool b) = bcs (l.set j b) := by
  unfold bcs
  rw [List.map_set]
theorem heard_at {W w : World} {ds : List (Ob Z0)} {hb i m : Nat} {hd : List Bool} {B : Bool} (h : OSt W ds w) (hi : ds[i]? = some (heardOb hb hd)) (hm : hd[m]? = some B) :
    w.cell? ⟨hb, m, none⟩ = some (.bool B) ∧ hb < w.heap.size ∧ ∀ o, w.frozen? ⟨hb, o, none⟩ = false := by
  obtain ⟨h1, -, h3, h4⟩ := own_flat (enc := fun b => [Value.bool b]) (l := hd) (sz := 1) (n := 100) (c := 100) (by
    have := h.own i hi
    rw [show bcs hd = hd.flatMap (fun b => [Value.bool b]) by unfold bcs; rw [List.map_eq_flatMap]] at this
    exact this) (fun _ => rfl) (by
    have := (h.own i hi).1
    simpa [bcs] using this) hm
  exact ⟨by simpa using h3 0 (by omega), h1, h4⟩
theorem call_at {W w : World} {ds : List (Ob Z0)} {A : Option Addr} {i m c : Nat} {ca : List (List UInt8)} {s : List UInt8} (h : OSt W ds w) (hi : ds[i]? = some (callsOb (.slice A ca.length c) ca)) (hm : ca[m]? = some s) :
    ∃ b, A = some ⟨b, 0, none⟩ ∧ w.cell? ⟨b, m, none⟩ = some (.string (str s)) ∧ b < w.heap.size ∧ ca.length ≤ c := by
  have ho := h.own i hi
  have hml := (List.getElem?_eq_some_iff.1 hm).1
  obtain ⟨g, rfl, -⟩ := ho.cells (by omega)
  obtain ⟨h1, h2, h3, -⟩ := own_flat (enc := scC) (l := ca) ho (fun _ => rfl) rfl hm
  exact ⟨g, rfl, by simpa [scC] using h3 0 (by omega), h1, h2 (by omega)⟩
set_option maxHeartbeats 16000000 in
theorem walk {w : World} (number : Int) (hnum : (Lit.int .i64 number).wf = true) (x : AsksT) (hx : x.Ok w) : Calls Try.prog 9 #[.int .i64 number, x.v] w fun e w' => e = .returned (.bool true) ∧ Below w.heap.size w w' := by
  obtain ⟨v, l⟩ := x
  have hr := hx.r
  have he := hx.e
  have hlen := hx.len
  clear hx hnum
  simp only at hr he hlen ⊢
  show Calls _ _ #[.int .i64 number, v] w _
  obtain ⟨A, c, rfl⟩ := hr.form
  have HR := Lib.hid hr
  have HE := Lib.hid he
  unfold maxLen at hlen
  clear hr he
  by_cases h60 : 60 < l.length
  · have h60' : (60 : Int) < (l.length : Int) := by omega
    go_enter Try.func9, Try.ntmps9
    go_wp2_with fail
    refine (awake30 w).mono ?_
    rintro e w9 ⟨rfl, h9⟩
    have F := Lib.hid h9
    clear h9
    go_wp2
    go_ret
    exact ⟨rfl, F.out⟩
  have h60' : (l.length : Int) ≤ 60 := by omega
  have hll : l.length ≤ 60 := by omega
  obtain ⟨i0, hi0, hiw⟩ := umodI number 16 (by decide) (by decide)
  clear hlen h60
  go_enter Try.func9, Try.ntmps9
  go_wp2_with fail
  refine (awake30 w).mono ?_
  rintro e w1 ⟨rfl, h1⟩
  have H1 : Hid (OSt (Z := Z0) w [] w1) := Lib.hid ((OSt.start w).ext h1)
  clear h1
  go_wp2_with fail
  refine (cNewO_yes H1.out (1 + i0) (by omega)).mono ?_
  rintro e w2 ⟨g, rfl, h2⟩
  have H2 : Hid (OSt w [callsOb (.slice none 0 0) [], clO g (1 + i0) 0 []] w2) := Lib.hid (h2.ownNil 9 1)
  clear h2 H1
  generalize (1 + (i0 : Int)) = N at *
  obtain ⟨F, HF⟩ : ∃ F : List Bool, Hid (List.replicate 100 false = F) := ⟨_, Lib.hid rfl⟩
  have HFL : Hid (F.length = 100) := Lib.hid (by rw [← HF.out, List.length_replicate])
  have HMK : Hid ((Instr.makeSlice 91 (.int .i64 100) (.int .i64 100)).run Try.prog w2 = .ok (.slice (some ⟨w2.heap.size, 0, none⟩) 100 100) (w2.alloc (.cells (bcs F).toArray 4))) := Lib.hid (by rw [← HF.out]; exact mkBools w2 100 (by decide))
  go_upto_region 7 with fail
  have H3 : Hid (OSt w [heardOb w2.heap.size F, callsOb (.slice none 0 0) [], clO g N 0 []] (w2.alloc (.cells (bcs F).toArray 4))) := Lib.hid (H2.out.pushOwn (extAl w2 _) ⟨by simp [bcs, HFL.out], .inr ⟨w2.heap.size, 100, [], rfl, Nat.le_refl _, by rw [List.append_nil]; exact heap_alloc_last w2 _, by simp [bcs, HFL.out], by rw [List.append_nil]; exact bcs_one _⟩⟩)
  have hmk := HMK.out
  clear HMK H2
  go_upto_region 8 with fail
  generalize w2.alloc (.cells (bcs F).toArray 4) = w3 at *
  generalize w2.heap.size = hb at *
  clear hmk
  go_wp2_with fail
  go_loopg [7, 9, 10, 11, 12, 13, 14, 15, 16] l.length (fun gg s7 s9 _ _ _ _ _ _ _ wr => ∃ (k : Nat) (L : Int) (lc : List Cl) (ca : List (List UInt8)) (hd : List Bool) (v : Value), k ≤ l.length ∧ l.length - k ≤ gg ∧ s7 = v ∧ s9 = .int .i64 k ∧ Hid (OSt w [heardOb hb hd, callsOb v ca, clO g N L lc] wr) ∧ Hid (OInv L lc ca hd k ∧ Fresh L hd))
  case atStart => exact ⟨0, 0, [], [], _, _, Nat.zero_le _, by omega, rfl, rfl, H3, Lib.hid (by rw [← HF.out]; exact ⟨oinv_start, fun j h1 h2 => by rw [List.getElem?_replicate, if_pos (by omega)]⟩)⟩
  case round =>
    clear H3
    obtain ⟨k, L, lc, ca, hd, v, hk, hg, rfl, rfl, H, HI⟩ := hrel
    obtain ⟨cA, cc, rfl⟩ := (H.out.own 1 rfl).form
    have hcl : (ca.length : Int) ≤ 60 := by have := HI.out.1.ck; omega
    by_cases hlt : k < l.length
    · have hbw0 := RR.at (HR.out.ext H.out.bel) (by omega)
      obtain ⟨b, off, rfl, hb0, hc, -⟩ := HR.out.at (by omega)
      clear hbw0
      obtain ⟨x, hxk⟩ : ∃ x, l[k]? = some x := ⟨_, List.getElem?_eq_getElem hlt⟩
      have hok := HE.out x (List.mem_of_getElem? hxk)
      have HX := Lib.hid hxk
      obtain ⟨x0, x1, x2, x3, x4, x5⟩ := cells (HR.out.ext H.out.bel) hxk
      have HAC := Lib.hid (argc (HR.out.ext H.out.bel) hxk)
      have hbw : b < wr.heap.size := Nat.lt_of_lt_of_le hb0 (Below.size H.out.bel)
      have s0 := str_size x.t
      have s1 := str_size x.a.text
      have s2 := str_size x.a.name
      have s3 := str_size x.a.other
      clear hxk
      by_cases h0 : 5000 < x.t.length
      · have h0' : (5000 : Int) < (x.t.length : Int) := by omega
        go_wp2_with fail
        go_ret
        exact ⟨rfl, H.out.bel⟩
      have h0' : (x.t.length : Int) ≤ 5000 := by omega
      by_cases h1 : 5000 < x.a.text.length
      · have h1' : (5000 : Int) < (x.a.text.length : Int) := by omega
        go_wp2_with fail
        go_ret
        exact ⟨rfl, H.out.bel⟩
      have h1' : (x.a.text.length : Int) ≤ 5000 := by omega
      by_cases h2 : 1000 < x.a.name.length
      · have h2' : (1000 : Int) < (x.a.name.length : Int) := by omega
        go_wp2_with fail
        go_ret
        exact ⟨rfl, H.out.bel⟩
      have h2' : (x.a.name.length : Int) ≤ 1000 := by omega
      by_cases h3 : 1000 < x.a.other.length
      · have h3' : (1000 : Int) < (x.a.other.length : Int) := by omega
        go_wp2_with fail
        go_ret
        exact ⟨rfl, H.out.bel⟩
      have h3' : (x.a.other.length : Int) ≤ 1000 := by omega
      have hAo := okl_ok hok.a (by omega) (by omega) (by omega)
      obtain ⟨xk, n, a, t⟩ := x
      simp only at x0 x1 x2 x3 x4 x5 HAC h0' h1' h2' h3' s0 s1 s2 s3 hAo hok
      have hn : I64 n := hok.n
      have htl : t.length ≤ 5000 := by omega
      clear hok h0 h1 h2 h3
      by_cases hk0 : xk = 0
      · subst hk0
        clear s0
        have KC := Lib.hid fun (w' : World) (h' : OSt w [heardOb hb hd, callsOb (.slice cA ca.length cc) ca, clO g N L lc] w') => cCallM 2 h' rfl n a (by have := HI.out.1.len; omega) hn hAo (by have := HI.out.1.eL; omega)
        have HCC := Lib.hid (call_cases N L lc n a)
        generalize callR N L lc n a = R at *
        obtain ⟨⟨S, E⟩, L', l'⟩ := R
        simp only at KC HCC
        obtain ⟨SB, HSB⟩ : ∃ SB : ByteArray, Hid (str S = SB) := ⟨_, Lib.hid rfl⟩
        rw [HSB.out] at KC
        go_upto_region 20 with fail
        clear x0 x2 x3 x4 x5 h0' h1' h2' h3'
        obtain ⟨So, HSo⟩ : ∃ So : Nat → Prop, Hid (So = fun j => w.heap.size ≤ j) := ⟨_, Lib.hid rfl⟩
        have hnb : ¬ So b := by rw [HSo.out]; omega
        have q1 : ∀ (ψ : World → Prop) (e : ExtS So wr ψ), e.val.cell? ⟨b, off + k * 19 + 1, none⟩ = some (.int .i64 n) := fun ψ e => e.cell x1 hbw hnb
        have HLD : Hid (∀ (ψ : World → Prop) (e : ExtS So wr ψ), (Instr.loadAt 35 (.pointer (some ⟨b, off + k * 19 + 2, none⟩))).run Try.prog e.val = .ok (.agg (agC a).toArray) e.val) := Lib.hid fun ψ e => ldargs fun j hj => e.cell (HAC.out j hj) hbw hnb
        clear x1 HAC
        refine wp_region_piecesS So 16 [(true, [0, 1, 2, 3, 4, 5, 6, 7, 8, 9, 10]), (false, [11]), (true, [12, 13, 14, 15])] (by kernel_rfl) (by kernel_rfl) ?_
        simp only [pick, List.map_cons, List.map_nil, List.flatMap_cons, List.flatMap_nil, Option.toList_some, List.singleton_append, List.drop_succ_cons, List.drop_zero, List.getElem?_cons_zero, List.getElem?_cons_succ]
        refine ⟨by kernel_rfl, ?_⟩; apply Exists.intro; refine ⟨fun ψ hψ hne => ?_, ?_⟩
        · repeat (go_big_quiet_step ((fail)))
          go_big_quiet_want; refine quiet_ld 35 (.tmp 127) rfl (fun w' hw' => by obtain ⟨e, rfl⟩ := hw'; exact HLD.out _ e) ?_; go_simp; go_big_quiet_on
          repeat (go_big_quiet_step ((fail)))
          exact wpQuiet_nil rfl
        clear q1 HLD
        intro wb hb1 K hK
        go_wp2_with (go_at_call 12; refine (KC.out wb (H.out.ext hb1)).mono ?_; rintro e wc ⟨rfl, hc1, hm1⟩)
        refine hK _ _ (by rw [HSo.out]; exact hm1) ?_
        have HC : Hid (OSt w [heardOb hb hd, callsOb (.slice cA ca.length cc) ca, clO g N L' l'] wc) := Lib.hid hc1
        clear hK K hm1 hc1 KC H hb1
        refine ⟨by kernel_rfl, ?_⟩; apply Exists.intro; refine ⟨fun ψ hψ hne => (by (repeat (go_big_quiet_step (( fail )))); exact wpQuiet_nil rfl), ?_⟩
        intro wd hd1
        have HD := Lib.hid (HC.out.ext hd1)
        clear hd1 HC
        rcases HCC.out with ⟨hE, rfl, rfl⟩ | ⟨rfl, rfl, rfl, h8⟩
        · have z0 : (E == 0) = false := beq_eq_false_iff_ne.2 hE
          clear HCC
          go_wp2_with fail
          go_roundg (l.length - (k + 1))
          case measure => omega
          case rel => exact ⟨k + 1, L', l', ca, hd, _, by omega, by omega, rfl, by go_num, HD, Lib.hid ⟨HI.out.1.le (Nat.le_succ k), HI.out.2⟩⟩
        · clear HCC
          have HI2 : Hid (OInv (L + 1) (lc ++ [⟨L + 1, n, S⟩]) (ca ++ [S]) hd (k + 1) ∧ Fresh (L + 1) hd) := Lib.hid ⟨HI.out.1.call (by omega) HI.out.2 hn S h8, fun j h1 h2 => HI.out.2 j (by omega) h2⟩
          go_upto_region 22 with fail
          obtain ⟨v', we, hr, he⟩ := HD.out.appS 1 rfl SB (by omega)
          have e1 : callsOb v' (ca ++ [S]) = ownOb 9 1 v' (ca.length + 1) (ca.flatMap scC ++ [.string SB]) := by
            unfold callsOb
            rw [List.length_append, List.flatMap_append, ← HSB.out]
            rfl
          have HE2 : Hid (OSt w [heardOb hb hd, callsOb v' (ca ++ [S]), clO g N (L + 1) (lc ++ [⟨L + 1, n, S⟩])] we) := Lib.hid (by rw [e1]; exact he)
          have Hr := Lib.hid hr
          clear hr he e1
          go_wp2_with (at_builtin; refine wpList_app rfl (.tmp 134) (.tmp 136) 90 90 rfl Hr.out ?_; simp only [Act.put])
          go_roundg (l.length - (k + 1))
          case measure => omega
          case rel => exact ⟨k + 1, L + 1, lc ++ [⟨L + 1, n, S⟩], ca ++ [S], hd, v', by omega, by omega, rfl, by go_num, HE2, HI2⟩
      by_cases hk1 : xk = 1
      · subst hk1
        clear hk0 HAC
        have KA := Lib.hid (cAgainO 2 H.out rfl n (by have := HI.out.1.len; omega))
        rcases again_cases lc n with hA | ⟨o, ho, hox, hA⟩
        · rw [hA] at KA
          simp only at KA
          generalize str ([] : List UInt8) = SB at *
          clear hA H
          go_wp2_with fail
          refine KA.out.mono ?_
          rintro e wa ⟨rfl, ha⟩
          have HB := Lib.hid ha
          clear ha KA x0 x1 x2 x3 x4 x5
          go_wp2_with fail
          go_roundg (l.length - (k + 1))
          case measure => omega
          case rel => exact ⟨k + 1, L, lc, ca, hd, _, by omega, by omega, rfl, by go_num, HB, Lib.hid ⟨HI.out.1.le (Nat.le_succ k), HI.out.2⟩⟩
        · obtain ⟨-, i2, i3, i4, i5⟩ := HI.out.1.each o ho
          have i6 := HI.out.1.eL
          rw [hox] at i2 i3 i4 i5
          obtain ⟨m, rfl⟩ : ∃ m : Nat, n = (m : Int) + 1 := ⟨(n - 1).toNat, by omega⟩
          have j4 : hd[m + 1]? = some false := by rw [← i4]; congr 1
          have j5 : ca[m]? = some o.b := by rw [← i5]; congr 1; omega
          rw [hA] at KA
          simp only at KA
          obtain ⟨SB, HSB⟩ : ∃ SB : ByteArray, Hid (str o.b = SB) := ⟨_, Lib.hid rfl⟩
          rw [HSB.out] at KA
          have hm' : (m : Int) + 1 ≤ (ca.length : Int) := by omega
          clear hA i4 i5 i2 i3 i6 hox H
          go_wp2_with fail
          refine KA.out.mono ?_
          rintro e wa ⟨rfl, ha⟩
          have HB := Lib.hid ha
          clear ha KA x0 x1 x2 x3 x4 x5
          obtain ⟨y1, y2, -⟩ := heard_at (i := 0) HB.out rfl j4
          obtain ⟨cb, rfl, y3, y4, y5⟩ := call_at HB.out (i := 1) rfl j5
          rw [HSB.out] at y3
          obtain ⟨-, x1, -, -, -, -⟩ := cells (HR.out.ext HB.out.bel) HX.out
          simp only at x1
          have hbw' : b < wa.heap.size := Nat.lt_of_lt_of_le hb0 (Below.size HB.out.bel)
          go_wp2_with fail
          go_roundg (l.length - (k + 1))
          case measure => omega
          case rel => exact ⟨k + 1, L, lc, ca, hd, _, by omega, by omega, rfl, by go_num, HB, Lib.hid ⟨HI.out.1.le (Nat.le_succ k), HI.out.2⟩⟩
      · have KH := Lib.hid (cHearO 2 H.out rfl t (by have := HI.out.1.len; omega) (by omega) (fun o ho => (HI.out.1.each o ho).1))
        have HCs := Lib.hid (hear_cases lc t)
        generalize hearR lc t = R at *
        obtain ⟨n', X, E, l'⟩ := R
        simp only at KH HCs
        have z0 : (xk == 0) = false := beq_eq_false_iff_ne.2 hk0
        have z1 : (xk == 1) = false := beq_eq_false_iff_ne.2 hk1
        clear HAC H
        go_wp2_with fail
        refine KH.out.mono ?_
        rintro e w5 ⟨rv, rfl, h5⟩
        obtain ⟨rA, rc, rfl⟩ := (h5.own 0 rfl).form
        have H6 : Hid (OSt w [heardOb hb hd, callsOb (.slice cA ca.length cc) ca, clO g N L l'] (w5.alloc (.cells (rsC X (.slice rA X.ents.length rc)).toArray 41))) := Lib.hid (OSt.ext (h5.dropI 0) (extAl _ _))
        have HS5 := Lib.hid (new_rsA w5 X rA X.ents.length rc)
        clear h5 KH x0 x1 x2 x3 x4 x5
        go_upto_region 15 with (refine wpList_st rfl 41 (.tmp 15) (.tmp 94) rfl HS5.out ?_; simp only [Act.put]; clear HS5)
        generalize w5.alloc (.cells (rsC X (.slice rA X.ents.length rc)).toArray 41) = w6 at *
        rcases HCs.out with ⟨hE, rfl⟩ | ⟨rfl, i, o, ho, hno, rfl⟩
        · have z2 : (E == 0) = false := beq_eq_false_iff_ne.2 hE
          clear HCs
          go_wp2_with fail
          go_roundg (l.length - (k + 1))
          case measure => omega
          case rel => exact ⟨k + 1, L, l', ca, hd, _, by omega, by omega, rfl, by go_num, H6, Lib.hid ⟨HI.out.1.le (Nat.le_succ k), HI.out.2⟩⟩
        · clear HCs
          obtain ⟨-, i2, i3, i4, -⟩ := HI.out.1.each o (List.mem_of_getElem? ho)
          have i6 := HI.out.1.eL
          have HI2 := HI.out.1.hear HI.out.2 ho
          rw [← hno] at i2 i3 i4 HI2
          obtain ⟨m, rfl⟩ : ∃ m : Nat, n' = (m : Int) + 1 := ⟨(n' - 1).toNat, by omega⟩
          have ht : ((m : Int) + 1).toNat = m + 1 := by omega
          rw [ht] at i4 HI2
          have HI3 : Hid (OInv L (lc.eraseIdx i) ca (hd.set (m + 1) true) (k + 1) ∧ Fresh L (hd.set (m + 1) true)) := Lib.hid ⟨HI2.1.le (Nat.le_succ k), HI2.2⟩
          obtain ⟨y1, y2, y3⟩ := heard_at (i := 0) H6.out rfl i4
          have y3' := y3 (m + 1)
          have hhl : (bcs hd).length = 100 := by unfold bcs; rw [List.length_map]; exact HI.out.1.eh
          have hm' : (m : Int) + 1 ≤ (ca.length : Int) := by omega
          have HW : Hid (OSt w [heardOb hb (hd.set (m + 1) true), callsOb (.slice cA ca.length cc) ca, clO g N L (lc.eraseIdx i)] (w6.setCell ⟨hb, m + 1, none⟩ (.bool true))) := Lib.hid (by
            have := OSt.setOwn (j := m + 1) (x := .bool true) H6.out 0 rfl (by omega) rfl
            rw [bcs_set] at this
            exact this)
          clear ht i2 i3 i4 i6 HI2 y3 hno ho hhl H6
          go_wp2_with fail
          go_roundg (l.length - (k + 1))
          case measure => omega
          case rel => exact ⟨k + 1, L, lc.eraseIdx i, ca, hd.set (m + 1) true, _, by omega, by omega, rfl, by go_num, HW, HI3⟩
    · go_wp2_with fail
      go_ret
      exact ⟨rfl, H.out.bel⟩
theorem own : ownKnob Try.prog.godebug = none := by kernel_rfl
theorem laidOut : laidOutB Try.prog = true := by kernel_rfl

set_option maxRecDepth 100000 in
theorem lifted (os : Os) (started : os.Started) (H : Type) (enc : TypeId × Value → H) :
    ReturnsInHanded {} Try.checked os 9 .any (Rows.netOnceSpec.pre6 enc Try.prog Try.f9 Rows.netOnceRow.domain false) (Rows.netOnceSpec.post enc Try.prog Try.f9 false true false false) := by
  refine returnsInHanded_of_change (C := Try.checked) own started (by kernel_rfl) Try.func9
    (ChangeSpec.witness6 (enc := enc) (C := Try.checked) false ⟨#[], #[.int .i64 0, .slice none 0 0], []⟩ 8 (by kernel_rfl) (by kernel_rfl) (by kernel_rfl) (by kernel_rfl)) ?_
  intro W base args ds gs before hval0 hW hcnd _
  have hval : ∀ (j : Nat) t v, Try.f9.params[j]? = some t → args[j]? = some v → Value.okWide Try.prog W .any base t v := hval0
  have hW' := hW
  obtain ⟨p, q, hA0, hV, rfl, hfz, hnd⟩ := hW
  have hA : DataW.TrodAll enc Try.prog W 0 (fun _ => true) true Try.f9.params.toList args.toList ds p := hA0
  rw [Try.params9] at hA hval
  obtain ⟨v0, vs0, d0, ds0, p0, q0, hargs, rfl, rfl, h0, r0⟩ := trodAll_cons hA
  obtain ⟨v1, vs1, d1, ds1, p1, q1, rfl, rfl, rfl, h1, r1⟩ := trodAll_cons r0
  obtain ⟨rfl, rfl, rfl⟩ := trodAll_nil r1
  obtain rfl : args = #[v0, v1] := by cases args; simp_all
  obtain ⟨rfl, rfl⟩ := trodVars_none hV
  have k0 := h0
  have lt0 : ∀ x ∈ p0, x.block < W.heap.size := by obtain ⟨m, hm⟩ := k0; exact DataW.trod_lt m _ _ _ hm
  have k1 := h1
  have lt1 : ∀ x ∈ p1, x.block < W.heap.size := by obtain ⟨m, hm⟩ := k1; exact DataW.trod_lt m _ _ _ hm
  obtain ⟨a0, rfl, -, -, wa0⟩ := open_int Try.underlying3 (hval 0 _ v0 rfl rfl) h0
  obtain ⟨x1, rfl, w1⟩ := open_Wasks (hval 1 _ v1 rfl rfl) h1
  refine (walk (w := W) a0 wa0 x1 w1).mono fun e W' ⟨he, bel⟩ => ?_
  subst he
  exact ⟨_, rfl, _, _, _, [], _, [], hW', trodAll_mk1 (shut_bool Try.underlying4 _), (trodAll_cons_mk (Below.trod laidOut (by kernel_rfl) (of_decide_eq_true (by kernel_rfl)) k0 bel lt0) (trodAll_cons_mk (Below.trod laidOut (by kernel_rfl) (of_decide_eq_true (by kernel_rfl)) k1 bel lt1) trodAll_mk0)), rfl, bel.frame _, fun h => by cases h⟩

theorem proved : Rows.NetOnceSaid :=
  OpenClaim.holds_of_wide 9 Try.f9 rfl rfl rfl rfl rfl rfl rfl ⟨rfl, rfl, rfl, rfl, rfl⟩ rfl rfl rfl rfl rfl (by kernel_rfl) Try.func9 (by kernel_rfl)
    (of_decide_eq_true (by kernel_rfl)) (by unfold Func.isWrapper; first | (rw [if_pos (by decide +kernel)]; kernel_rfl) | (rw [if_neg (by decide +kernel)]; exact ⟨rfl, rfl⟩))
    (fun os started H enc _ => lifted os started H enc)
end Go.Proofs.Yteahlnoonmfjhaa.netOnce
