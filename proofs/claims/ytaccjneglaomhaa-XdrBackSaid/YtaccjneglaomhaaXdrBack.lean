/- The claim XdrBack: the walk of its law, and the statement. -/
import Derived.Test.YtaccjneglaomhaaRdsB
set_option linter.unusedVariables false
namespace Go.Proofs.Ytaccjneglaomhaa.xdrBack
open Go.RowKit Go.ChangeShapes Go.WideShapes Go.ChangeAt Go.Deep Go.Proofs.Ytaccjneglaomhaa

set_option maxHeartbeats 16000000 in
set_option maxRecDepth 100000 in
theorem walk (n : Int) (wn : (Lit.int .u64 n).wf = true) (is : Bool) (s : List UInt8) (ws : s.length ≤ maxLen) (t : List UInt8) (wt : t.length ≤ maxLen) (v : Value) (rest : List UInt8) (w : World) (hv : RS w v rest) (wr : rest.length ≤ maxLen) :
    Calls Try.prog 14 #[.int .u64 n, .bool is, .string (str s), .string (str t), v] w fun e w' => e = .returned (.bool true) ∧ Below w.heap.size w w' := by
  have hn : 0 ≤ n ∧ n ≤ 18446744073709551615 := by simpa [Lit.wf, IntKind.has, IntKind.min, IntKind.max, IntKind.signed, IntKind.bits] using wn
  have hs := str_size s
  have ht := str_size t
  obtain ⟨A, c, rfl⟩ := hv.form
  by_cases h1 : 3000 < s.length
  · go_enter Try.func14, Try.ntmps14
    go_wp2_with (go_at_call 58; refine (works01_any _).mono ?_; rintro e w0 ⟨rfl, hb0⟩; have hz0 := hb0.size; (try simp only [World.size_alloc] at hz0))
    go_ret
    exact ⟨rfl, by (repeat' (first | (with_reducible assumption) | (with_reducible exact Below.refl _ _) | (with_reducible refine below_sc ?_ ?_) | ((with_reducible show (_ : Nat) ≤ _); omega) | refine Below.setCell ?_ (by first | omega | (simp; done) | (simp; omega)) _ | refine Below.alloc ?_ (by first | omega | (simp; done) | (simp; omega)) _ | refine Below.drew ?_ | refine below_drewN ?_ _ | refine Below.trans ?_ (Below.mono (by assumption) (by first | omega | (simp; done) | (simp; omega)))))⟩
  by_cases h2 : 3000 < t.length
  · go_enter Try.func14, Try.ntmps14
    go_wp2_with (go_at_call 58; refine (works01_any _).mono ?_; rintro e w0 ⟨rfl, hb0⟩; have hz0 := hb0.size; (try simp only [World.size_alloc] at hz0))
    go_ret
    exact ⟨rfl, by (repeat' (first | (with_reducible assumption) | (with_reducible exact Below.refl _ _) | (with_reducible refine below_sc ?_ ?_) | ((with_reducible show (_ : Nat) ≤ _); omega) | refine Below.setCell ?_ (by first | omega | (simp; done) | (simp; omega)) _ | refine Below.alloc ?_ (by first | omega | (simp; done) | (simp; omega)) _ | refine Below.drew ?_ | refine below_drewN ?_ _ | refine Below.trans ?_ (Below.mono (by assumption) (by first | omega | (simp; done) | (simp; omega)))))⟩
  by_cases h3 : 3000 < rest.length
  · go_enter Try.func14, Try.ntmps14
    go_wp2_with (go_at_call 58; refine (works01_any _).mono ?_; rintro e w0 ⟨rfl, hb0⟩; have hz0 := hb0.size; (try simp only [World.size_alloc] at hz0))
    go_ret
    exact ⟨rfl, by (repeat' (first | (with_reducible assumption) | (with_reducible exact Below.refl _ _) | (with_reducible refine below_sc ?_ ?_) | ((with_reducible show (_ : Nat) ≤ _); omega) | refine Below.setCell ?_ (by first | omega | (simp; done) | (simp; omega)) _ | refine Below.alloc ?_ (by first | omega | (simp; done) | (simp; omega)) _ | refine Below.drew ?_ | refine below_drewN ?_ _ | refine Below.trans ?_ (Below.mono (by assumption) (by first | omega | (simp; done) | (simp; omega)))))⟩
  have f1 := fixL_length s
  have f2 := fixL_length t
  have p1 := padN_le s.length
  have p2 := padN_le t.length
  have m1 := fixL_mod s
  have m2 := fixL_mod t
  have hwr : -9223372036854775808 ≤ wrap64 n ∧ wrap64 n ≤ 9223372036854775807 := by unfold wrap64; omega
  have hwm : wrap64 n % 18446744073709551616 = n := by unfold wrap64; omega
  obtain ⟨b1, e1⟩ : ∃ b, b = beN (n % 4294967296) 4 := ⟨_, rfl⟩
  obtain ⟨b2, e2⟩ : ∃ b, b = b1 ++ beL n := ⟨_, rfl⟩
  obtain ⟨b3, e3⟩ : ∃ b, b = b2 ++ beL n := ⟨_, rfl⟩
  obtain ⟨b4, e4⟩ : ∃ b, b = b3 ++ beN (b2i is) 4 := ⟨_, rfl⟩
  obtain ⟨b5, e5⟩ : ∃ b, b = b4 ++ (beN s.length 4 ++ fixL s) := ⟨_, rfl⟩
  obtain ⟨b6, e6⟩ : ∃ b, b = b5 ++ fixL t := ⟨_, rfl⟩
  have l1 : b1.length = 4 := by rw [e1, beN_length]
  have l2 : b2.length = 12 := by rw [e2, List.length_append, beL_length, l1]
  have l3 : b3.length = 20 := by rw [e3, List.length_append, beL_length, l2]
  have l4 : b4.length = 24 := by rw [e4, List.length_append, beN_length, l3]
  have l5 : b5.length = 28 + (fixL s).length := by rw [e5, List.length_append, List.length_append, beN_length, l4]; omega
  have l6 : b6.length = 28 + (fixL s).length + (fixL t).length := by rw [e6, List.length_append, l5]
  have l6m : (b6.length : Int) % 4 = 0 := by omega
  have q1 := rdW_be (n % 4294967296) (beL n ++ (beL n ++ (beN (b2i is) 4 ++ (beN s.length 4 ++ (fixL s ++ (fixL t ++ rest)))))) (by omega) (by omega)
  have q2 := rdL_be n (beL n ++ (beN (b2i is) 4 ++ (beN s.length 4 ++ (fixL s ++ (fixL t ++ rest))))) hn.1 hn.2
  have q3 := rdL_be n (beN (b2i is) 4 ++ (beN s.length 4 ++ (fixL s ++ (fixL t ++ rest)))) hn.1 hn.2
  have q4 := rdF_be is (beN s.length 4 ++ (fixL s ++ (fixL t ++ rest)))
  have q5 := rdT_be s (fixL t ++ rest) (by omega)
  have q6 := rdX_be t rest
  have htot : b6 ++ rest = beN (n % 4294967296) 4 ++ (beL n ++ (beL n ++ (beN (b2i is) 4 ++ (beN s.length 4 ++ (fixL s ++ (fixL t ++ rest)))))) := by
    rw [e6, e5, e4, e3, e2, e1]; simp only [List.append_assoc]
  have hlen5 : (beN s.length 4 ++ (fixL s ++ (fixL t ++ rest))).length ≤ 900000 := by simp only [List.length_append, beN_length]; omega
  have hlen6 : (fixL t ++ rest).length ≤ 900000 := by simp only [List.length_append]; omega
  have Q1 := Lib.hid q1
  have Q2 := Lib.hid q2
  have Q3 := Lib.hid q3
  have Q4 := Lib.hid q4
  have Q5 := Lib.hid q5
  have Q6 := Lib.hid q6
  have E2 := Lib.hid e2
  have E3 := Lib.hid e3
  have E4 := Lib.hid e4
  have E5 := Lib.hid e5
  have E6 := Lib.hid e6
  have E1 := Lib.hid e1
  have HW := Lib.hid hwm
  have HT := Lib.hid htot
  have L6 := Lib.hid l6
  clear q1 q2 q3 q4 q5 q6 e1 e2 e3 e4 e5 e6 hwm htot f1 f2 m1 m2 l6
  have g6 : b6.length ≤ 20000 := by rw [L6.out]; have := fixL_length s; have := fixL_length t; omega
  have k1 : b1.length ≤ 900000 := by omega
  have k2 : b2.length ≤ 900000 := by omega
  have k3 : b3.length ≤ 900000 := by omega
  have k4 : b4.length ≤ 400000 := by omega
  have k5 : b5.length ≤ 400000 := by rw [l5]; have := fixL_length s; omega
  clear l1 l2 l3 l4 l5
  have hB : w.heap.size ≤ w.heap.size := Nat.le_refl _
  cases is
  all_goals
    go_enter Try.func14, Try.ntmps14
    go_wp2_with (go_at_call 58; refine (works01_any _).mono ?_; rintro e w0 ⟨rfl, hb0⟩; have hz0 := hb0.size; (try simp only [World.size_alloc] at hz0))
    refine (Word_l _ [] b1 (n % 4294967296) RS.nil (by omega) (by omega) (by simp) (by rw [E1.out]; rfl)).mono ?_
    rintro e w1 ⟨v1, rfl, r1, x1⟩
    go_wp2_with fail
    refine (Long_l v1 b1 b2 n r1 hn.1 hn.2 k1 E2.out.symm).mono ?_
    rintro e w2 ⟨v2, rfl, r2, x2⟩
    go_wp2_with fail
    refine (Int_l v2 b2 b3 (wrap64 n) r2 hwr.1 hwr.2 k2 (by rw [HW.out]; exact E3.out.symm)).mono ?_
    rintro e w3 ⟨v3, rfl, r3, x3⟩
    go_wp2_with fail
    refine (Flag_l v3 b3 b4 _ r3 k3 E4.out.symm).mono ?_
    rintro e w4 ⟨v4, rfl, r4, x4⟩
    go_wp2_with fail
    refine (Text_l v4 b4 b5 s r4 k4 (by omega) E5.out.symm).mono ?_
    rintro e w5 ⟨v5, rfl, r5, x5⟩
    go_wp2_with fail
    refine (Fixed_any v5 b5 t _ r5 k5 (by omega)).mono ?_
    rintro e w6 ⟨v6, rfl, o6, x6⟩
    rw [← E6.out] at o6
    have X5 : Ext w w5 := Ext.trans hb0 (Ext.trans x1 (Ext.trans x2 (Ext.trans x3 (Ext.trans x4 x5))))
    have X6 : Ext w w6 := Ext.trans X5 x6
    obtain ⟨va, wa, hra, hoa, hba⟩ := appZ (ty := 22) (o6.mono X5.size).z (srcS (hv.ext X6)) X6.size (by omega)
    have hBa : w.heap.size ≤ wa.heap.size := Nat.le_trans X6.size hba.size
    obtain ⟨A6, c6, rfl⟩ := o6.rs.form
    clear r1 r2 r3 r4 r5 x1 x2 x3 x4 x5 x6 hb0 hz0
    go_wp2_with (at_builtin; refine wpList_app rfl _ _ _ _ rfl hra ?_)
    rw [HT.out] at hoa
    refine (newReader_l _ _ (Rds.nil hBa) hoa.rs (by rw [← HT.out, List.length_append]; omega)).mono ?_
    rintro e w7 ⟨g, rfl, h7, x7⟩
    have K7 : Below w.heap.size w w7 := (Below.trans X6 (Below.refl _ _)).trans (hba.trans (Below.mono x7 hBa))
    clear hra hoa hba
    go_wp2_with fail
    refine (word_l 0 (n % 4294967296) _ h7 rfl (by rw [Q1.out]) (by rw [Q1.out])).mono ?_
    rintro e w8 ⟨rfl, h8, x8⟩
    go_wp2_with fail
    refine (long_l 0 n _ h8 rfl (by rw [Q2.out]) (by rw [Q2.out])).mono ?_
    rintro e w9 ⟨rfl, h9, x9⟩
    go_wp2_with fail
    refine (int_l 0 (wrap64 n) _ h9 rfl (by rw [Q3.out]) (by rw [Q3.out])).mono ?_
    rintro e w10 ⟨rfl, h10, x10⟩
    go_wp2_with fail
    refine (flag_l 0 _ _ h10 rfl (by rw [Q4.out]) (by rw [Q4.out])).mono ?_
    rintro e w11 ⟨rfl, h11, x11⟩
    go_wp2_with fail
    refine (text_l 0 s.length (str s) _ h11 rfl hlen5 (by rw [Q5.out]) (by rw [Q5.out])).mono ?_
    rintro e w12 ⟨rfl, h12, x12⟩
    go_wp2_with fail
    refine (fixed_l 0 t.length (str t) _ h12 rfl hlen6 (by rw [Q6.out]) (by rw [Q6.out])).mono ?_
    rintro e w13 ⟨rfl, h13, x13⟩
    go_wp2_with fail
    refine (ok_l 0 true h13 rfl rfl).mono ?_
    rintro e w' ⟨rfl, rfl⟩
    go_wp2_with fail
    refine (left_l 0 rest.length h13 rfl rfl).mono ?_
    rintro e w' ⟨rfl, rfl⟩
    go_wp2_with fail
    refine (done_l 0 (decide ((rest.length : Int) = 0)) h13 rfl (by cases rest <;> simp [doneB]; omega)).mono ?_
    rintro e w' ⟨rfl, rfl⟩
    have K13 := ((((((K7.trans x8).trans x9).trans x10).trans x11).trans x12).trans x13)
    cases rest with
    | nil =>
      go_wp2_with fail
      go_ret
      exact ⟨rfl, K13⟩
    | cons a r =>
      have hc : ((r.length : Int) + 1 == 0) = false := by rw [beq_eq_false_iff_ne]; omega
      have hd : decide ((r.length : Int) + 1 = 0) = false := by simp; omega
      go_wp2_with fail
      go_ret
      exact ⟨rfl, K13⟩

theorem own : ownKnob Try.prog.godebug = none := by kernel_rfl
theorem laidOut : laidOutB Try.prog = true := by kernel_rfl

set_option maxRecDepth 100000 in
theorem lifted (os : Os) (started : os.Started) (H : Type) (enc : TypeId × Value → H) :
    ReturnsInHanded {} Try.checked os 14 .any (Rows.xdrBackSpec.pre6 enc Try.prog Try.f14 Rows.xdrBackRow.domain false) (Rows.xdrBackSpec.post enc Try.prog Try.f14 false true false false) := by
  refine returnsInHanded_of_change (C := Try.checked) own started (by kernel_rfl) Try.func14
    (ChangeSpec.witness6 (enc := enc) (C := Try.checked) false ⟨#[], #[.int .u64 0, .bool false, .string ⟨#[]⟩, .string ⟨#[]⟩, .slice none 0 0], []⟩ 8 (by kernel_rfl) (by kernel_rfl) (by kernel_rfl) (by kernel_rfl)) ?_
  intro W base args ds gs before hval0 hW hcnd _
  have hval : ∀ (j : Nat) t v, Try.f14.params[j]? = some t → args[j]? = some v → Value.okWide Try.prog W .any base t v := hval0
  have hW' := hW
  obtain ⟨p, q, hA0, hV, rfl, hfz, hnd⟩ := hW
  have hA : DataW.TrodAll enc Try.prog W 0 (fun _ => true) true Try.f14.params.toList args.toList ds p := hA0
  rw [Try.params14] at hA hval
  obtain ⟨v0, vs0, d0, ds0, p0, q0, hargs, rfl, rfl, h0, r0⟩ := trodAll_cons hA
  obtain ⟨v1, vs1, d1, ds1, p1, q1, rfl, rfl, rfl, h1, r1⟩ := trodAll_cons r0
  obtain ⟨v2, vs2, d2, ds2, p2, q2, rfl, rfl, rfl, h2, r2⟩ := trodAll_cons r1
  obtain ⟨v3, vs3, d3, ds3, p3, q3, rfl, rfl, rfl, h3, r3⟩ := trodAll_cons r2
  obtain ⟨v4, vs4, d4, ds4, p4, q4, rfl, rfl, rfl, h4, r4⟩ := trodAll_cons r3
  obtain ⟨rfl, rfl, rfl⟩ := trodAll_nil r4
  obtain rfl : args = #[v0, v1, v2, v3, v4] := by cases args; simp_all
  obtain ⟨rfl, rfl⟩ := trodVars_none hV
  have k0 := h0
  have lt0 : ∀ x ∈ p0, x.block < W.heap.size := by obtain ⟨m, hm⟩ := k0; exact DataW.trod_lt m _ _ _ hm
  have k1 := h1
  have lt1 : ∀ x ∈ p1, x.block < W.heap.size := by obtain ⟨m, hm⟩ := k1; exact DataW.trod_lt m _ _ _ hm
  have k2 := h2
  have lt2 : ∀ x ∈ p2, x.block < W.heap.size := by obtain ⟨m, hm⟩ := k2; exact DataW.trod_lt m _ _ _ hm
  have k3 := h3
  have lt3 : ∀ x ∈ p3, x.block < W.heap.size := by obtain ⟨m, hm⟩ := k3; exact DataW.trod_lt m _ _ _ hm
  have k4 := h4
  have lt4 : ∀ x ∈ p4, x.block < W.heap.size := by obtain ⟨m, hm⟩ := k4; exact DataW.trod_lt m _ _ _ hm
  obtain ⟨a0, rfl, -, -, wa0⟩ := open_int Try.underlying23 (hval 0 _ v0 rfl rfl) h0
  obtain ⟨a1, rfl, -, -⟩ := open_bool Try.underlying4 (hval 1 _ v1 rfl rfl) h1
  obtain ⟨l2, rfl, wl2⟩ := open_str Try.underlying9 (hval 2 _ v2 rfl rfl) h2
  obtain ⟨l3, rfl, wl3⟩ := open_str Try.underlying9 (hval 3 _ v3 rfl rfl) h3
  obtain ⟨l4, y4, wl4⟩ := open_bytes Try.underlying22 Try.underlying5 (by kernel_rfl) (hval 4 _ v4 rfl rfl) h4
  refine (walk (w := W) a0 wa0 a1 l2 wl2 l3 wl3 v4 l4 y4 wl4).mono fun e W' ⟨he, bel⟩ => ?_
  subst he
  exact ⟨_, rfl, _, _, _, [], _, [], hW', trodAll_mk1 (shut_bool Try.underlying4 _), (trodAll_cons_mk (Below.trod laidOut (by kernel_rfl) (of_decide_eq_true (by kernel_rfl)) k0 bel lt0) (trodAll_cons_mk (Below.trod laidOut (by kernel_rfl) (of_decide_eq_true (by kernel_rfl)) k1 bel lt1) (trodAll_cons_mk (Below.trod laidOut (by kernel_rfl) (of_decide_eq_true (by kernel_rfl)) k2 bel lt2) (trodAll_cons_mk (Below.trod laidOut (by kernel_rfl) (of_decide_eq_true (by kernel_rfl)) k3 bel lt3) (trodAll_cons_mk (Below.trod laidOut (by kernel_rfl) (of_decide_eq_true (by kernel_rfl)) k4 bel lt4) trodAll_mk0))))), rfl, bel.frame _, fun h => by cases h⟩

theorem proved : Rows.XdrBackSaid :=
  OpenClaim.holds_of_wide 14 Try.f14 rfl rfl rfl rfl rfl rfl rfl ⟨rfl, rfl, rfl, rfl, rfl⟩ rfl rfl rfl rfl rfl (by kernel_rfl) Try.func14 (by kernel_rfl)
    (of_decide_eq_true (by kernel_rfl)) (by unfold Func.isWrapper; first | (rw [if_pos (by decide +kernel)]; kernel_rfl) | (rw [if_neg (by decide +kernel)]; exact ⟨rfl, rfl⟩))
    (fun os started H enc _ => lifted os started H enc)
end Go.Proofs.Ytaccjneglaomhaa.xdrBack
