/- The claim XdrOnly: the walk of its law, and the statement. -/
import Derived.Test.YtaccjneglaomhaaRdsB
set_option linter.unusedVariables false
namespace Go.Proofs.Ytaccjneglaomhaa.xdrOnly
open Go.RowKit Go.ChangeShapes Go.WideShapes Go.ChangeAt Go.Deep Go.Proofs.Ytaccjneglaomhaa

theorem beN_beV4 {l : List UInt8} (h : l.length = 4) : beN (beV l) 4 = l := by
  obtain ⟨p, q, r, t, rfl⟩ := four h
  have e : ∀ (x : Int) (b : UInt8), x % 256 = b.toNat → byteOf x = b := fun x b h => by
    apply UInt8.toNat_inj.1
    have := byteOf_toNat x
    omega
  have pb := p.toNat_lt
  have qb := q.toNat_lt
  have rb := r.toNat_lt
  have tb := t.toNat_lt
  simp only [beV, List.foldl_cons, List.foldl_nil, beN, List.cons.injEq, and_true]
  refine ⟨e _ _ ?_, e _ _ ?_, e _ _ ?_, e _ _ ?_⟩ <;> omega
theorem rdW_back {l r : List UInt8} (h : (rdW (some l)).2 = some r) : l = beN (rdW (some l)).1 4 ++ r := by
  simp only [rdW] at h ⊢
  split at h
  · rename_i h4
    simp only [Option.some.injEq] at h
    subst h
    rw [if_pos h4]
    simp only
    rw [beN_beV4 (by simp; omega), List.take_append_drop]
  · simp at h
theorem rdW_none : rdW none = (0, none) := rfl
theorem rdL_back {l r : List UInt8} (h : (rdL (some l)).2 = some r) : l = beL (rdL (some l)).1 ++ r := by
  have h0 := h
  unfold rdL at h
  split at h
  · simp at h
  · rename_i h1
    simp only at h
    cases h2 : (rdW (some l)).2 with
    | none => rw [h2] at h; simp [rdW] at h
    | some m =>
      have e1 := rdW_back h2
      rw [h2] at h h1
      have e2 := rdW_back h
      have b1 := rdW_bd (some l)
      have b2 := rdW_bd (some m)
      have e3 : (rdL (some l)).1 = (rdW (some l)).1 * 4294967296 + (rdW (some m)).1 := by
        unfold rdL; rw [h2, if_neg h1]
      rw [e3, beL, show ((rdW (some l)).1 * 4294967296 + (rdW (some m)).1) / 4294967296 = (rdW (some l)).1 by omega, show ((rdW (some l)).1 * 4294967296 + (rdW (some m)).1) % 4294967296 = (rdW (some m)).1 by omega, List.append_assoc, ← e2]
      exact e1
theorem rdF_back {l r : List UInt8} (h : (rdF (some l)).2 = some r) : l = beN (b2i (rdF (some l)).1) 4 ++ r := by
  have b := rdW_bd (some l)
  unfold rdF at h ⊢
  split at h
  · simp at h
  · rename_i h1
    rw [if_neg h1]
    simp only at h ⊢
    have e := rdW_back h
    have : b2i ((rdW (some l)).1 == 1) = (rdW (some l)).1 := by
      by_cases h2 : (rdW (some l)).1 = 1
      · rw [h2]; rfl
      · have h3 : (rdW (some l)).1 = 0 := by omega
        rw [h3]; rfl
    rw [this]
    exact e
theorem rdC_back {l r : List UInt8} {m : Int} (h : (rdC (some l) m).2 = some r) : l = beN (rdC (some l) m).1 4 ++ r := by
  unfold rdC at h ⊢
  split at h
  · simp at h
  · rename_i h1
    rw [if_neg h1]
    exact rdW_back h
theorem rdX_back {l r : List UInt8} {n : Int} (h : (rdX (some l) n).2 = some r) : l = fixL (rdX (some l) n).1 ++ r ∧ (0 ≤ n ∧ ((rdX (some l) n).1.length : Int) = n) := by
  simp only [rdX] at h ⊢
  split at h
  · rename_i h1
    rw [if_pos h1]
    simp only [Option.some.injEq] at h
    subst h
    simp only [fixB, Bool.and_eq_true, decide_eq_true_eq, List.all_eq_true] at h1
    obtain ⟨⟨h2, h3⟩, h4⟩ := h1
    have hl : (l.take n.toNat).length = n.toNat := by simp; omega
    have hz : (l.drop n.toNat).take (padN n.toNat) = List.replicate (padN n.toNat) 0 := by
      apply List.eq_replicate_iff.2
      refine ⟨by simp; omega, fun x hx => by simpa using h4 x hx⟩
    refine ⟨?_, h2, by simp only; omega⟩
    simp only
    rw [fixL_eq, hl, ← hz, ← List.drop_drop, List.append_assoc, List.take_append_drop, List.take_append_drop]
  · simp at h
theorem rdX_str (s : St) (n : Int) : (rdX s n).1.length ≤ s.l.length := by
  cases s with
  | none => simp [rdX]
  | some l => simp only [rdX, St.l, Option.getD_some]; split <;> simp; omega
theorem rdT_str (s : St) (n : Int) : (rdT s n).1.length ≤ s.l.length := Nat.le_trans (rdX_str _ _) (rdC_len _ _)
theorem rdT_back {l r : List UInt8} {m : Int} (h : (rdT (some l) m).2 = some r) : l = (beN (rdT (some l) m).1.length 4 ++ fixL (rdT (some l) m).1) ++ r := by
  unfold rdT at h ⊢
  cases h2 : (rdC (some l) (max m 0)).2 with
  | none => rw [h2] at h; simp [rdX] at h
  | some k =>
    rw [h2] at h
    obtain ⟨e1, e2, e3⟩ := rdX_back h
    have e4 := rdC_back h2
    rw [e3, List.append_assoc, ← e1]
    exact e4
theorem RS.take {w : World} {A : Option Addr} {n c m : Nat} {l : List UInt8} (h : RS w (.slice A n c) l) (hm : m ≤ l.length) : RS w (.slice A m c) (l.take m) ∧ m ≤ c := by
  rcases h with ⟨h1, h2⟩ | ⟨b, off, c', h1, hb, hc, hj⟩
  · subst h2
    simp only [Value.slice.injEq] at h1
    obtain ⟨rfl, rfl, rfl⟩ := h1
    obtain rfl : m = 0 := by simpa using hm
    exact ⟨.inl ⟨rfl, rfl⟩, Nat.le_refl _⟩
  · simp only [Value.slice.injEq] at h1
    obtain ⟨rfl, rfl, rfl⟩ := h1
    have hl : (l.take m).length = m := by simp; omega
    refine ⟨.inr ⟨b, off, c, by rw [hl], hb, by omega, fun j hjm => ?_⟩, by omega⟩
    rw [hj j (by omega)]
    simp only [bvs, List.getElem?_map, List.getElem?_take, if_pos (show j < m by omega)]

def I (w : World) (g : Nat) (lb : List UInt8) (out : Value) (wr : World) : Prop := ∃ o rest, RS wr out o ∧ o ++ rest = lb ∧ Rds w.heap.size wr [(g, some rest)] ∧ Below w.heap.size w wr

set_option maxHeartbeats 16000000 in
set_option maxRecDepth 100000 in
theorem walk (v : Value) (lb : List UInt8) (w : World) (hv : RS w v lb) (wlb : lb.length ≤ maxLen) (x : StepsT) (hx : x.Ok w) :
    Calls Try.prog 15 #[v, x.v] w fun e w' => e = .returned (.bool true) ∧ Below w.heap.size w w' := by
  obtain ⟨xv, l⟩ := x
  obtain ⟨hS, wl⟩ := hx
  simp only at hS wl ⊢
  obtain ⟨A, c, rfl⟩ := hv.form
  obtain ⟨A2, c2, rfl⟩ := hS.form
  by_cases h1 : 3000 < lb.length
  · go_enter Try.func15, Try.ntmps15
    go_wp2_with (go_at_call 58; refine (works01_any _).mono ?_; rintro e w0 ⟨rfl, hb0⟩; have hz0 := hb0.size; (try simp only [World.size_alloc] at hz0))
    go_ret
    exact ⟨rfl, by (repeat' (first | (with_reducible assumption) | (with_reducible exact Below.refl _ _) | (with_reducible refine below_sc ?_ ?_) | ((with_reducible show (_ : Nat) ≤ _); omega) | refine Below.setCell ?_ (by first | omega | (simp; done) | (simp; omega)) _ | refine Below.alloc ?_ (by first | omega | (simp; done) | (simp; omega)) _ | refine Below.drew ?_ | refine below_drewN ?_ _ | refine Below.trans ?_ (Below.mono (by assumption) (by first | omega | (simp; done) | (simp; omega)))))⟩
  by_cases h2 : 100 < l.length
  · go_enter Try.func15, Try.ntmps15
    go_wp2_with (go_at_call 58; refine (works01_any _).mono ?_; rintro e w0 ⟨rfl, hb0⟩; have hz0 := hb0.size; (try simp only [World.size_alloc] at hz0))
    go_ret
    exact ⟨rfl, by (repeat' (first | (with_reducible assumption) | (with_reducible exact Below.refl _ _) | (with_reducible refine below_sc ?_ ?_) | ((with_reducible show (_ : Nat) ≤ _); omega) | refine Below.setCell ?_ (by first | omega | (simp; done) | (simp; omega)) _ | refine Below.alloc ?_ (by first | omega | (simp; done) | (simp; omega)) _ | refine Below.drew ?_ | refine below_drewN ?_ _ | refine Below.trans ?_ (Below.mono (by assumption) (by first | omega | (simp; done) | (simp; omega)))))⟩
  have HS := Lib.hid hS
  clear hS
  go_enter Try.func15, Try.ntmps15
  go_wp2_with (go_at_call 58; refine (works01_any _).mono ?_; rintro e w0 ⟨rfl, hb0⟩; have hz0 := hb0.size; (try simp only [World.size_alloc] at hz0))
  refine (newReader_l _ lb (Rds.nil hz0) (hv.ext hb0) (by omega)).mono ?_
  rintro e w1 ⟨g, rfl, h1', x1⟩
  have X1 : Ext w w1 := Ext.trans hb0 x1
  have HI : Hid (I w g lb (.slice none 0 0) w1) := ⟨[], lb, RS.nil, rfl, h1', X1⟩
  clear h1' x1 X1
  go_wp2_with fail
  go_loopw [6, 7] (fun o i wr => ∃ k : Nat, k ≤ l.length ∧ i = .int .i64 k ∧ Hid (I w g lb o wr)) (fun _ i _ => l.length - (intOf i).toNat)
  case atStart => exact ⟨0, by omega, rfl, HI⟩
  case round =>
    obtain ⟨k, hk, rfl, HK⟩ := hrel
    obtain ⟨o, rest, ho, hor, hr, hb⟩ := HK.out
    have hol : o.length + rest.length = lb.length := by rw [← hor]; simp
    by_cases hlt : k < l.length
    case neg =>
      obtain ⟨wo, rfl⟩ : ∃ wo : World, wo = wr := ⟨_, rfl⟩
      obtain ⟨Ao, co, rfl⟩ := ho.form
      have hv2 : RS wo (.slice A lb.length c) lb := by
        rcases hv with h | ⟨b, off, c', h, hbl, hc, hj⟩
        · exact .inl h
        · exact .inr ⟨b, off, c', h, Nat.lt_of_lt_of_le hbl hb.size, hc, fun j hj2 => (hb.cell (p := ⟨b, off + j, none⟩) hbl).trans (hj j hj2)⟩
      obtain ⟨hv3, hcc⟩ := RS.take hv2 (m := o.length) (by omega)
      have hto : lb.take o.length = o := by rw [← hor, List.take_left]
      rw [hto] at hv3
      have HC1 : Hid (∀ w', Ext wo w' → (convert 22 9 (.slice Ao o.length co)).run Try.prog w' = .ok (.string (str o)) w') := Lib.hid fun w' k => (ho.ext k).cv
      have HC2 : Hid (∀ w', Ext wo w' → (convert 22 9 (.slice A o.length c)).run Try.prog w' = .ok (.string (str o)) w') := Lib.hid fun w' k => (hv3.ext k).cv
      have HL : Hid (∀ e : ExtOf wo.heap.size wo, _) := Lib.hid fun e => same_ext (left_any g (some rest) e.val ((hr.at (i := 0) rfl).1.ext e.ok))
      have hle : St.l (some rest) = rest := rfl
      have hsum : ((o.length : Int) + rest.length == lb.length) = true := by rw [beq_iff_eq]; omega
      have hol2 : o.length ≤ lb.length := by omega
      clear hto hv2 hv3 HK
      go_wp2_with fail
      refine wp_region_ext wo.heap.size (by kernel_rfl) (by kernel_rfl) ?_
      repeat (first | (go_big_quiet_want; refine quiet_cv 22 9 _ rfl (fun w' hw' => HC1.out w' (by obtain ⟨e, rfl⟩ := hw'; exact e.ok)) ?_; go_simp; go_big_quiet_on) | (go_big_quiet_want; refine quiet_cv 22 9 _ rfl (fun w' hw' => HC2.out w' (by obtain ⟨e, rfl⟩ := hw'; exact e.ok)) ?_; go_simp; go_big_quiet_on) | go_big_quiet_step ((go_at_call 53; exact ext_of (Nat.le_refl _) (HL.out _))))
      refine wpQuiet_nil ?_
      rintro w9 ⟨⟨_, hb9⟩, rfl⟩
      go_wp2_with fail
      go_ret
      exact ⟨rfl, hb.trans (Below.mono hb9 hb.size)⟩
    obtain ⟨b, off, rfl, -, hbl, hcc, hj⟩ := HS.out.some_of (by omega)
    obtain ⟨hk0, hn0⟩ := hj k hlt
    obtain ⟨kd, hkd⟩ : ∃ kd, kd = l[k].1 := ⟨_, rfl⟩
    obtain ⟨N, hN⟩ : ∃ N, N = l[k].2 := ⟨_, rfl⟩
    rw [← hkd] at hk0
    rw [← hN] at hn0
    have hk1 : wr.cell? ⟨b, off + k * 2, none⟩ = some (.int .u8 kd) := (hb.cell (p := ⟨b, off + k * 2, none⟩) hbl).trans hk0
    have hn1 : wr.cell? ⟨b, off + k * 2 + 1, none⟩ = some (.int .i64 N) := (hb.cell (p := ⟨b, off + k * 2 + 1, none⟩) hbl).trans hn0
    have hrl : (St.l (some rest)).length ≤ 900000 := by show rest.length ≤ 900000; omega
    have hstl : (St.l (some rest)).length = rest.length := rfl
    clear hj hk0 hn0 hkd hN hv HK
    have hg := (hr.at (i := 0) rfl)
    by_cases q0 : kd = 0
    · subst q0
      go_wp2_with fail
      refine (word_any g (some rest) _ hg.1).mono ?_
      rintro e w3 ⟨rfl, r3, j3⟩
      have ho3 := ho.butR j3 hg.1
      obtain ⟨h3, k3⟩ := hr.set (i := 0) rfl r3 j3
      clear r3 j3
      have b1 := rdW_bd (some rest)
      go_wp2_with fail
      refine (Word_l _ o (o ++ beN (rdW (some rest)).1 4) _ ho3 b1.1 b1.2 (by omega) rfl).mono ?_
      rintro e w4 ⟨v4, rfl, r4, x4⟩
      have K4 : Below w.heap.size w w4 := (hb.trans k3).trans (Below.mono x4 (Nat.le_trans hb.size k3.size))
      have h4 := h3.ext x4
      clear h3 k3 x4 ho hr
      cases hq : (rdW (some rest)).2 with
      | none =>
        rw [hq] at h4
        go_wp2_with fail
        refine (ok_l 0 false h4 rfl rfl).mono ?_
        rintro e w' ⟨rfl, rfl⟩
        go_wp2_with fail
        refine (left_l 0 0 h4 rfl rfl).mono ?_
        rintro e w' ⟨rfl, rfl⟩
        go_wp2_with fail
        go_ret
        exact ⟨rfl, K4⟩
      | some rest' =>
        have hback := rdW_back hq
        rw [hq] at h4
        have HI2 : Hid (I w g lb v4 w4) := ⟨_, rest', r4, by rw [← hor, List.append_assoc]; exact congrArg (o ++ ·) hback.symm, h4, K4⟩
        clear hback hq r4
        go_wp2_with fail
        refine (ok_l 0 true h4 rfl rfl).mono ?_
        rintro e w' ⟨rfl, rfl⟩
        go_wp2_with fail
        go_roundw
        case rel => exact ⟨k + 1, by omega, by go_num, HI2⟩
        case measure => simp [intOf]; omega
    have z0 : (kd == 0) = false := beq_eq_false_iff_ne.2 q0
    by_cases q1 : kd = 1
    · subst q1
      go_wp2_with fail
      refine (long_any g (some rest) _ hg.1).mono ?_
      rintro e w3 ⟨rfl, r3, j3⟩
      have ho3 := ho.butR j3 hg.1
      obtain ⟨h3, k3⟩ := hr.set (i := 0) rfl r3 j3
      clear r3 j3
      have b1 := rdL_bd (some rest)
      go_wp2_with fail
      refine (Long_l _ o (o ++ beL (rdL (some rest)).1) _ ho3 b1.1 b1.2 (by omega) rfl).mono ?_
      rintro e w4 ⟨v4, rfl, r4, x4⟩
      have K4 : Below w.heap.size w w4 := (hb.trans k3).trans (Below.mono x4 (Nat.le_trans hb.size k3.size))
      have h4 := h3.ext x4
      clear h3 k3 x4 ho hr
      cases hq : (rdL (some rest)).2 with
      | none =>
        rw [hq] at h4
        go_wp2_with fail
        refine (ok_l 0 false h4 rfl rfl).mono ?_
        rintro e w' ⟨rfl, rfl⟩
        go_wp2_with fail
        refine (left_l 0 0 h4 rfl rfl).mono ?_
        rintro e w' ⟨rfl, rfl⟩
        go_wp2_with fail
        go_ret
        exact ⟨rfl, K4⟩
      | some rest' =>
        have hback := rdL_back hq
        rw [hq] at h4
        have HI2 : Hid (I w g lb v4 w4) := ⟨_, rest', r4, by rw [← hor, List.append_assoc]; exact congrArg (o ++ ·) hback.symm, h4, K4⟩
        clear hback hq r4
        go_wp2_with fail
        refine (ok_l 0 true h4 rfl rfl).mono ?_
        rintro e w' ⟨rfl, rfl⟩
        go_wp2_with fail
        go_roundw
        case rel => exact ⟨k + 1, by omega, by go_num, HI2⟩
        case measure => simp [intOf]; omega
    have z1 : (kd == 1) = false := beq_eq_false_iff_ne.2 q1
    by_cases q2 : kd = 2
    · subst q2
      go_wp2_with fail
      refine (int_any g (some rest) _ hg.1).mono ?_
      rintro e w3 ⟨rfl, r3, j3⟩
      have ho3 := ho.butR j3 hg.1
      obtain ⟨h3, k3⟩ := hr.set (i := 0) rfl r3 j3
      clear r3 j3
      have b1 := rdL_bd (some rest)
      have b2 : -9223372036854775808 ≤ wrap64 (rdL (some rest)).1 ∧ wrap64 (rdL (some rest)).1 ≤ 9223372036854775807 := by unfold wrap64; omega
      have b3 : wrap64 (rdL (some rest)).1 % 18446744073709551616 = (rdL (some rest)).1 := by unfold wrap64; omega
      have B3 := Lib.hid b3
      clear b3
      go_wp2_with fail
      refine (Int_l _ o (o ++ beL (rdL (some rest)).1) _ ho3 b2.1 b2.2 (by omega) (by rw [B3.out])).mono ?_
      rintro e w4 ⟨v4, rfl, r4, x4⟩
      have K4 : Below w.heap.size w w4 := (hb.trans k3).trans (Below.mono x4 (Nat.le_trans hb.size k3.size))
      have h4 := h3.ext x4
      clear h3 k3 x4 ho hr
      cases hq : (rdL (some rest)).2 with
      | none =>
        rw [hq] at h4
        go_wp2_with fail
        refine (ok_l 0 false h4 rfl rfl).mono ?_
        rintro e w' ⟨rfl, rfl⟩
        go_wp2_with fail
        refine (left_l 0 0 h4 rfl rfl).mono ?_
        rintro e w' ⟨rfl, rfl⟩
        go_wp2_with fail
        go_ret
        exact ⟨rfl, K4⟩
      | some rest' =>
        have hback := rdL_back hq
        rw [hq] at h4
        have HI2 : Hid (I w g lb v4 w4) := ⟨_, rest', r4, by rw [← hor, List.append_assoc]; exact congrArg (o ++ ·) hback.symm, h4, K4⟩
        clear hback hq r4
        go_wp2_with fail
        refine (ok_l 0 true h4 rfl rfl).mono ?_
        rintro e w' ⟨rfl, rfl⟩
        go_wp2_with fail
        go_roundw
        case rel => exact ⟨k + 1, by omega, by go_num, HI2⟩
        case measure => simp [intOf]; omega
    have z2 : (kd == 2) = false := beq_eq_false_iff_ne.2 q2
    by_cases q3 : kd = 3
    · subst q3
      go_wp2_with fail
      refine (flag_any g (some rest) _ hg.1).mono ?_
      rintro e w3 ⟨rfl, r3, j3⟩
      have ho3 := ho.butR j3 hg.1
      obtain ⟨h3, k3⟩ := hr.set (i := 0) rfl r3 j3
      clear r3 j3
      go_wp2_with fail
      refine (Flag_l _ o (o ++ beN (b2i (rdF (some rest)).1) 4) _ ho3 (by omega) rfl).mono ?_
      rintro e w4 ⟨v4, rfl, r4, x4⟩
      have K4 : Below w.heap.size w w4 := (hb.trans k3).trans (Below.mono x4 (Nat.le_trans hb.size k3.size))
      have h4 := h3.ext x4
      clear h3 k3 x4 ho hr
      cases hq : (rdF (some rest)).2 with
      | none =>
        rw [hq] at h4
        go_wp2_with fail
        refine (ok_l 0 false h4 rfl rfl).mono ?_
        rintro e w' ⟨rfl, rfl⟩
        go_wp2_with fail
        refine (left_l 0 0 h4 rfl rfl).mono ?_
        rintro e w' ⟨rfl, rfl⟩
        go_wp2_with fail
        go_ret
        exact ⟨rfl, K4⟩
      | some rest' =>
        have hback := rdF_back hq
        rw [hq] at h4
        have HI2 : Hid (I w g lb v4 w4) := ⟨_, rest', r4, by rw [← hor, List.append_assoc]; exact congrArg (o ++ ·) hback.symm, h4, K4⟩
        clear hback hq r4
        go_wp2_with fail
        refine (ok_l 0 true h4 rfl rfl).mono ?_
        rintro e w' ⟨rfl, rfl⟩
        go_wp2_with fail
        go_roundw
        case rel => exact ⟨k + 1, by omega, by go_num, HI2⟩
        case measure => simp [intOf]; omega
    have z3 : (kd == 3) = false := beq_eq_false_iff_ne.2 q3
    by_cases q4 : kd = 4
    · subst q4
      go_wp2_with fail
      refine (text_any g (some rest) N _ hg.1 hrl).mono ?_
      rintro e w3 ⟨rfl, r3, j3⟩
      have ho3 := ho.butR j3 hg.1
      obtain ⟨h3, k3⟩ := hr.set (i := 0) rfl r3 j3
      clear r3 j3
      have b1 := rdT_str (some rest) N
      go_wp2_with fail
      refine (Text_l _ o (o ++ (beN (rdT (some rest) N).1.length 4 ++ fixL (rdT (some rest) N).1)) _ ho3 (by omega) (by omega) rfl).mono ?_
      rintro e w4 ⟨v4, rfl, r4, x4⟩
      have K4 : Below w.heap.size w w4 := (hb.trans k3).trans (Below.mono x4 (Nat.le_trans hb.size k3.size))
      have h4 := h3.ext x4
      clear h3 k3 x4 ho hr
      cases hq : (rdT (some rest) N).2 with
      | none =>
        rw [hq] at h4
        go_wp2_with fail
        refine (ok_l 0 false h4 rfl rfl).mono ?_
        rintro e w' ⟨rfl, rfl⟩
        go_wp2_with fail
        refine (left_l 0 0 h4 rfl rfl).mono ?_
        rintro e w' ⟨rfl, rfl⟩
        go_wp2_with fail
        go_ret
        exact ⟨rfl, K4⟩
      | some rest' =>
        have hback := rdT_back hq
        rw [hq] at h4
        have HI2 : Hid (I w g lb v4 w4) := ⟨_, rest', r4, by rw [← hor, List.append_assoc]; exact congrArg (o ++ ·) hback.symm, h4, K4⟩
        clear hback hq r4
        go_wp2_with fail
        refine (ok_l 0 true h4 rfl rfl).mono ?_
        rintro e w' ⟨rfl, rfl⟩
        go_wp2_with fail
        go_roundw
        case rel => exact ⟨k + 1, by omega, by go_num, HI2⟩
        case measure => simp [intOf]; omega
    have z4 : (kd == 4) = false := beq_eq_false_iff_ne.2 q4
    by_cases q5 : kd = 5
    · subst q5
      go_wp2_with fail
      refine (fixed_any g (some rest) N _ hg.1 hrl).mono ?_
      rintro e w3 ⟨rfl, r3, j3⟩
      have ho3 := ho.butR j3 hg.1
      obtain ⟨h3, k3⟩ := hr.set (i := 0) rfl r3 j3
      clear r3 j3
      have b1 := rdX_str (some rest) N
      go_wp2_with fail
      refine (Fixed_l _ o (o ++ fixL (rdX (some rest) N).1) _ ho3 (by omega) (by omega) rfl).mono ?_
      rintro e w4 ⟨v4, rfl, r4, x4⟩
      have K4 : Below w.heap.size w w4 := (hb.trans k3).trans (Below.mono x4 (Nat.le_trans hb.size k3.size))
      have h4 := h3.ext x4
      clear h3 k3 x4 ho hr
      cases hq : (rdX (some rest) N).2 with
      | none =>
        rw [hq] at h4
        go_wp2_with fail
        refine (ok_l 0 false h4 rfl rfl).mono ?_
        rintro e w' ⟨rfl, rfl⟩
        go_wp2_with fail
        refine (left_l 0 0 h4 rfl rfl).mono ?_
        rintro e w' ⟨rfl, rfl⟩
        go_wp2_with fail
        go_ret
        exact ⟨rfl, K4⟩
      | some rest' =>
        have hback := rdX_back hq
        rw [hq] at h4
        have HI2 : Hid (I w g lb v4 w4) := ⟨_, rest', r4, by rw [← hor, List.append_assoc]; exact congrArg (o ++ ·) hback.1.symm, h4, K4⟩
        clear hback hq r4
        go_wp2_with fail
        refine (ok_l 0 true h4 rfl rfl).mono ?_
        rintro e w' ⟨rfl, rfl⟩
        go_wp2_with fail
        go_roundw
        case rel => exact ⟨k + 1, by omega, by go_num, HI2⟩
        case measure => simp [intOf]; omega
    have z5 : (kd == 5) = false := beq_eq_false_iff_ne.2 q5
    go_wp2_with fail
    refine (count_any g (some rest) N _ hg.1).mono ?_
    rintro e w3 ⟨rfl, r3, j3⟩
    have ho3 := ho.butR j3 hg.1
    obtain ⟨h3, k3⟩ := hr.set (i := 0) rfl r3 j3
    clear r3 j3
    have b1 := rdC_bd (some rest) N
    go_wp2_with fail
    refine (Word_l _ o (o ++ beN (rdC (some rest) N).1 4) _ ho3 b1.1 b1.2 (by omega) rfl).mono ?_
    rintro e w4 ⟨v4, rfl, r4, x4⟩
    have K4 : Below w.heap.size w w4 := (hb.trans k3).trans (Below.mono x4 (Nat.le_trans hb.size k3.size))
    have h4 := h3.ext x4
    clear h3 k3 x4 ho hr
    cases hq : (rdC (some rest) N).2 with
    | none =>
      rw [hq] at h4
      go_wp2_with fail
      refine (ok_l 0 false h4 rfl rfl).mono ?_
      rintro e w' ⟨rfl, rfl⟩
      go_wp2_with fail
      refine (left_l 0 0 h4 rfl rfl).mono ?_
      rintro e w' ⟨rfl, rfl⟩
      go_wp2_with fail
      go_ret
      exact ⟨rfl, K4⟩
    | some rest' =>
      have hback := rdC_back hq
      rw [hq] at h4
      have HI2 : Hid (I w g lb v4 w4) := ⟨_, rest', r4, by rw [← hor, List.append_assoc]; exact congrArg (o ++ ·) hback.symm, h4, K4⟩
      clear hback hq r4
      go_wp2_with fail
      refine (ok_l 0 true h4 rfl rfl).mono ?_
      rintro e w' ⟨rfl, rfl⟩
      go_wp2_with fail
      go_roundw
      case rel => exact ⟨k + 1, by omega, by go_num, HI2⟩
      case measure => simp [intOf]; omega

theorem own : ownKnob Try.prog.godebug = none := by kernel_rfl
theorem laidOut : laidOutB Try.prog = true := by kernel_rfl

set_option maxRecDepth 100000 in
theorem lifted (os : Os) (started : os.Started) (H : Type) (enc : TypeId × Value → H) :
    ReturnsInHanded {} Try.checked os 15 .any (Rows.xdrOnlySpec.pre6 enc Try.prog Try.f15 Rows.xdrOnlyRow.domain false) (Rows.xdrOnlySpec.post enc Try.prog Try.f15 false true false false) := by
  refine returnsInHanded_of_change (C := Try.checked) own started (by kernel_rfl) Try.func15
    (ChangeSpec.witness6 (enc := enc) (C := Try.checked) false ⟨#[], #[.slice none 0 0, .slice none 0 0], []⟩ 8 (by kernel_rfl) (by kernel_rfl) (by kernel_rfl) (by kernel_rfl)) ?_
  intro W base args ds gs before hval0 hW hcnd _
  have hval : ∀ (j : Nat) t v, Try.f15.params[j]? = some t → args[j]? = some v → Value.okWide Try.prog W .any base t v := hval0
  have hW' := hW
  obtain ⟨p, q, hA0, hV, rfl, hfz, hnd⟩ := hW
  have hA : DataW.TrodAll enc Try.prog W 0 (fun _ => true) true Try.f15.params.toList args.toList ds p := hA0
  rw [Try.params15] at hA hval
  obtain ⟨v0, vs0, d0, ds0, p0, q0, hargs, rfl, rfl, h0, r0⟩ := trodAll_cons hA
  obtain ⟨v1, vs1, d1, ds1, p1, q1, rfl, rfl, rfl, h1, r1⟩ := trodAll_cons r0
  obtain ⟨rfl, rfl, rfl⟩ := trodAll_nil r1
  obtain rfl : args = #[v0, v1] := by cases args; simp_all
  obtain ⟨rfl, rfl⟩ := trodVars_none hV
  have k0 := h0
  have lt0 : ∀ x ∈ p0, x.block < W.heap.size := by obtain ⟨m, hm⟩ := k0; exact DataW.trod_lt m _ _ _ hm
  have k1 := h1
  have lt1 : ∀ x ∈ p1, x.block < W.heap.size := by obtain ⟨m, hm⟩ := k1; exact DataW.trod_lt m _ _ _ hm
  obtain ⟨l0, y0, wl0⟩ := open_bytes Try.underlying22 Try.underlying5 (by kernel_rfl) (hval 0 _ v0 rfl rfl) h0
  obtain ⟨x1, rfl, w1⟩ := open_Wsteps (hval 1 _ v1 rfl rfl) h1
  refine (walk (w := W) v0 l0 y0 wl0 x1 w1).mono fun e W' ⟨he, bel⟩ => ?_
  subst he
  exact ⟨_, rfl, _, _, _, [], _, [], hW', trodAll_mk1 (shut_bool Try.underlying4 _), (trodAll_cons_mk (Below.trod laidOut (by kernel_rfl) (of_decide_eq_true (by kernel_rfl)) k0 bel lt0) (trodAll_cons_mk (Below.trod laidOut (by kernel_rfl) (of_decide_eq_true (by kernel_rfl)) k1 bel lt1) trodAll_mk0)), rfl, bel.frame _, fun h => by cases h⟩

theorem proved : Rows.XdrOnlySaid :=
  OpenClaim.holds_of_wide 15 Try.f15 rfl rfl rfl rfl rfl rfl rfl ⟨rfl, rfl, rfl, rfl, rfl⟩ rfl rfl rfl rfl rfl (by kernel_rfl) Try.func15 (by kernel_rfl)
    (of_decide_eq_true (by kernel_rfl)) (by unfold Func.isWrapper; first | (rw [if_pos (by decide +kernel)]; kernel_rfl) | (rw [if_neg (by decide +kernel)]; exact ⟨rfl, rfl⟩))
    (fun os started H enc _ => lifted os started H enc)
end Go.Proofs.Ytaccjneglaomhaa.xdrOnly
