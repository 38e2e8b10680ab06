/- The claim XdrBad: the walk of its law, and the statement. -/
import Derived.Test.YtaccjneglaomhaaRdsB
set_option linter.unusedVariables false
namespace Go.Proofs.Ytaccjneglaomhaa.xdrBad
open Go.RowKit Go.ChangeShapes Go.WideShapes Go.ChangeAt Go.Deep Go.Proofs.Ytaccjneglaomhaa

theorem or32 (x y : Nat) (h : x ||| y = x + y) (hx : x + y < 4294967296) : bits .or .u32 (x : Int) (y : Int) = ((x + y : Nat) : Int) := by
  have h1 : (BitVec.ofInt 32 (x : Int)).toNat = x := by rw [BitVec.ofInt_natCast, BitVec.toNat_ofNat]; exact Nat.mod_eq_of_lt (by omega)
  have h2 : (BitVec.ofInt 32 (y : Int)).toNat = y := by rw [BitVec.ofInt_natCast, BitVec.toNat_ofNat]; exact Nat.mod_eq_of_lt (by omega)
  show IntKind.u32.wrap ((BitVec.ofInt 32 (x : Int) ||| BitVec.ofInt 32 (y : Int)).toNat : Int) = _
  rw [BitVec.toNat_or, h1, h2, h]
  simp only [IntKind.wrap, IntKind.bits, IntKind.signed]
  simp
  omega
set_option maxRecDepth 100000 in
theorem or_four (p q r t : Nat) (hp : p < 256) (hq : q < 256) (hr : r < 256) (ht : t < 256) :
    bits .or .u32 ((p : Int) * 16777216) ((q : Int) * 65536) = p * 16777216 + q * 65536 ∧
    bits .or .u32 ((p : Int) * 16777216 + (q : Int) * 65536) ((r : Int) * 256) = p * 16777216 + q * 65536 + r * 256 ∧
    bits .or .u32 ((p : Int) * 16777216 + (q : Int) * 65536 + r * 256) (t : Int) = p * 16777216 + q * 65536 + r * 256 + t := by
  have e1 : (p : Int) * 16777216 = ((p * 16777216 : Nat) : Int) := by omega
  have e2 : (q : Int) * 65536 = ((q * 65536 : Nat) : Int) := by omega
  have e3 : (r : Int) * 256 = ((r * 256 : Nat) : Int) := by omega
  have e4 : ((p * 16777216 : Nat) : Int) + ((q * 65536 : Nat) : Int) = ((p * 16777216 + q * 65536 : Nat) : Int) := by omega
  have e5 : ((p * 16777216 + q * 65536 : Nat) : Int) + ((r * 256 : Nat) : Int) = ((p * 16777216 + q * 65536 + r * 256 : Nat) : Int) := (Int.natCast_add _ _).symm
  have e6 : ((p * 16777216 + q * 65536 : Nat) : Int) = (p : Int) * 16777216 + (q : Int) * 65536 := by omega
  have e7 : ((p * 16777216 + q * 65536 + r * 256 : Nat) : Int) = (p : Int) * 16777216 + (q : Int) * 65536 + r * 256 := by rw [Int.natCast_add, e6, ← e3]
  have e8 : ((p * 16777216 + q * 65536 + r * 256 + t : Nat) : Int) = (p : Int) * 16777216 + (q : Int) * 65536 + r * 256 + t := by rw [Int.natCast_add, e7]
  have a1 : p * 16777216 ||| q * 65536 = p * 16777216 + q * 65536 := by
    have := Nat.two_pow_add_eq_or_of_lt (i := 24) (b := q * 65536) (by omega) p
    rw [show p * 16777216 = 2 ^ 24 * p by omega]; omega
  have a2 : (p * 16777216 + q * 65536) ||| r * 256 = p * 16777216 + q * 65536 + r * 256 := by
    have := Nat.two_pow_add_eq_or_of_lt (i := 16) (b := r * 256) (by omega) (p * 256 + q)
    rw [show p * 16777216 + q * 65536 = 2 ^ 16 * (p * 256 + q) by omega]; omega
  have a3 : (p * 16777216 + q * 65536 + r * 256) ||| t = p * 16777216 + q * 65536 + r * 256 + t := by
    have := Nat.two_pow_add_eq_or_of_lt (i := 8) (b := t) (by omega) (p * 65536 + q * 256 + r)
    rw [show p * 16777216 + q * 65536 + r * 256 = 2 ^ 8 * (p * 65536 + q * 256 + r) by omega]; omega
  have b1 := or32 _ _ a1 (by omega)
  have b2 := or32 _ _ a2 (by omega)
  have b3 := or32 _ _ a3 (by omega)
  rw [← e1, ← e2, e6] at b1
  rw [e6, ← e3, e7] at b2
  rw [e7, e8] at b3
  exact ⟨b1, b2, b3⟩

theorem beV_four (p q r t : UInt8) : beV [p, q, r, t] = (p.toNat : Int) * 16777216 + (q.toNat : Int) * 65536 + (r.toNat : Int) * 256 + t.toNat := by
  simp only [beV, List.foldl_cons, List.foldl_nil]; omega
theorem times_of (n l : Int) (h : -9223372036854775808 ≤ n ∧ n ≤ 9223372036854775807) (hl : 0 ≤ l ∧ l ≤ 5000) : ∃ K : Nat, wrap64 ((IntKind.u64.wrap n).tmod (l / 4 + 1)) = (K : Int) ∧ (K : Int) ≤ l / 4 := by
  have e : IntKind.u64.wrap n = n % 18446744073709551616 := by simp [IntKind.wrap, IntKind.bits, IntKind.signed]
  rw [e, Int.tmod_eq_emod_of_nonneg (by omega)]
  have h1 := Int.emod_nonneg (n % 18446744073709551616) (show l / 4 + 1 ≠ 0 by omega)
  have h2 := Int.emod_lt_of_pos (n % 18446744073709551616) (show 0 < l / 4 + 1 by omega)
  refine ⟨(n % 18446744073709551616 % (l / 4 + 1)).toNat, ?_, by omega⟩
  unfold wrap64
  omega

set_option maxHeartbeats 16000000 in
set_option maxRecDepth 100000 in
theorem walk (v : Value) (lb : List UInt8) (w : World) (hv : RS w v lb) (wlb : lb.length ≤ maxLen) (n : Int) (wn : (Lit.int .i64 n).wf = true) :
    Calls Try.prog 12 #[v, .int .i64 n] w fun e w' => e = .returned (.bool true) ∧ Below w.heap.size w w' := by
  have hn : -9223372036854775808 ≤ n ∧ n ≤ 9223372036854775807 := by simpa [Lit.wf, IntKind.has, IntKind.min, IntKind.max, IntKind.signed, IntKind.bits] using wn
  obtain ⟨A, c, rfl⟩ := hv.form
  by_cases h1 : 5000 < lb.length
  · go_enter Try.func12, Try.ntmps12
    go_wp2_with (go_at_call 58; refine (works01_any _).mono ?_; rintro e w0 ⟨rfl, hb0⟩; have hz0 := hb0.size; (try simp only [World.size_alloc] at hz0))
    go_ret
    exact ⟨rfl, by (repeat' (first | (with_reducible assumption) | (with_reducible exact Below.refl _ _) | (with_reducible refine below_sc ?_ ?_) | ((with_reducible show (_ : Nat) ≤ _); omega) | refine Below.setCell ?_ (by first | omega | (simp; done) | (simp; omega)) _ | refine Below.alloc ?_ (by first | omega | (simp; done) | (simp; omega)) _ | refine Below.drew ?_ | refine below_drewN ?_ _ | refine Below.trans ?_ (Below.mono (by assumption) (by first | omega | (simp; done) | (simp; omega)))))⟩
  obtain ⟨K, hK, hKl⟩ := times_of n lb.length hn (by omega)
  go_enter Try.func12, Try.ntmps12
  go_wp2_with (go_at_call 58; refine (works01_any _).mono ?_; rintro e w0 ⟨rfl, hb0⟩; have hz0 := hb0.size; (try simp only [World.size_alloc] at hz0))
  refine (newReader_l _ lb (Rds.nil hz0) (hv.ext hb0) (by omega)).mono ?_
  rintro e w1 ⟨g, rfl, h1', x1⟩
  have X1 : Ext w w1 := Ext.trans hb0 x1
  have HI : Hid (Rds w.heap.size w1 [(g, some (lb.drop (4 * 0)))] ∧ Below w.heap.size w w1) := ⟨by simpa using h1', X1⟩
  go_wp2_with fail
  go_loopw [7] (fun i wr => ∃ k : Nat, k ≤ K ∧ i = .int .i64 k ∧ Hid (Rds w.heap.size wr [(g, some (lb.drop (4 * k)))] ∧ Below w.heap.size w wr)) (fun i _ => K - (intOf i).toNat)
  case atStart => exact ⟨0, by omega, rfl, HI⟩
  case round =>
    obtain ⟨k, hk, rfl, HK⟩ := hrel
    obtain ⟨hr, hb⟩ := HK.out
    by_cases hlt : k < K
    · have h4 : 4 * k + 4 ≤ lb.length := by omega
      obtain ⟨b, off, rfl, -, hbl, hcc, hj⟩ := hv.some_of (by intro h; rw [h] at h4; simp at h4)
      obtain ⟨p, q, r, t, hl4⟩ := four (l := (lb.drop (4 * k)).take 4) (by simp; omega)
      have hjj : ∀ j (h : j < 4), wr.cell? ⟨b, off + (4 * k + j), none⟩ = (bvs [p, q, r, t])[j]? := fun j h => by
        rw [hb.cell (p := ⟨b, off + (4 * k + j), none⟩) hbl, hj _ (by omega), ← hl4]
        simp only [bvs, List.getElem?_map, List.getElem?_take, if_pos h, List.getElem?_drop]
      have d0 : ∀ e : ExtOf wr.heap.size wr, e.val.cell? ⟨b, off + 4 * k, none⟩ = some (.int .u8 p.toNat) := fun e => e.cell (hjj 0 (by simp)) (Nat.lt_of_lt_of_le hbl hb.size)
      have d1 : ∀ e : ExtOf wr.heap.size wr, e.val.cell? ⟨b, off + (4 * k + 1), none⟩ = some (.int .u8 q.toNat) := fun e => e.cell (hjj 1 (by simp)) (Nat.lt_of_lt_of_le hbl hb.size)
      have d2 : ∀ e : ExtOf wr.heap.size wr, e.val.cell? ⟨b, off + (4 * k + 2), none⟩ = some (.int .u8 r.toNat) := fun e => e.cell (hjj 2 (by simp)) (Nat.lt_of_lt_of_le hbl hb.size)
      have d3 : ∀ e : ExtOf wr.heap.size wr, e.val.cell? ⟨b, off + (4 * k + 3), none⟩ = some (.int .u8 t.toNat) := fun e => e.cell (hjj 3 (by simp)) (Nat.lt_of_lt_of_le hbl hb.size)
      obtain ⟨o1, o2, o3⟩ := or_four p.toNat q.toNat r.toNat t.toNat p.toNat_lt q.toNat_lt r.toNat_lt t.toNat_lt
      have pb := p.toNat_lt
      have qb := q.toNat_lt
      have rb := r.toNat_lt
      have tb := t.toNat_lt
      have i1 : (4 * (k : Int) + 1).toNat = 4 * k + 1 := by omega
      have i2 : (4 * (k : Int) + 2).toNat = 4 * k + 2 := by omega
      have i3 : (4 * (k : Int) + 3).toNat = 4 * k + 3 := by omega
      have i0 : (4 * (k : Int)).toNat = 4 * k := by omega
      have hw : rdW (some (lb.drop (4 * k))) = ((p.toNat : Int) * 16777216 + (q.toNat : Int) * 65536 + (r.toNat : Int) * 256 + t.toNat, some (lb.drop (4 * (k + 1)))) := by
        simp only [rdW, List.length_drop, show 4 ≤ lb.length - 4 * k by omega, if_true, hl4, beV_four, List.drop_drop]
        rw [show 4 * k + 4 = 4 * (k + 1) by omega]
      have HW := Lib.hid hw
      clear hw hl4 hjj hj
      go_wp2_with fail
      refine wp_region_ext wr.heap.size (by kernel_rfl) (by kernel_rfl) ?_
      repeat (go_big_quiet_step ((fail)))
      refine wpQuiet_nil ?_
      rintro w2 ⟨⟨_, hb2⟩, rfl⟩
      have hr2 := hr.ext hb2
      have hbb := hb.trans (hb2.mono hb.size)
      go_wp2_with fail
      refine (word_l 0 _ _ hr2 rfl (by rw [HW.out]) (by rw [HW.out])).mono ?_
      rintro e w3 ⟨rfl, h3, x3⟩
      go_wp2_with fail
      refine (ok_l 0 true h3 rfl rfl).mono ?_
      rintro e w' ⟨rfl, rfl⟩
      go_wp2_with fail
      refine (left_l 0 ((lb.length : Int) - 4 * k - 4) h3 rfl (by simp [St.l]; omega)).mono ?_
      rintro e w' ⟨rfl, rfl⟩
      go_wp2_with fail
      go_roundw
      case rel => exact ⟨k + 1, by omega, by go_num, h3, hbb.trans x3⟩
      case measure => simp [intOf]; omega
    · obtain rfl : k = K := by omega
      obtain ⟨wo, rfl⟩ : ∃ wo : World, wo = wr := ⟨_, rfl⟩
      have hx : rdX (some (lb.drop (4 * k))) ((lb.length : Int) + 1) = ([], none) := by
        have : fixB (lb.drop (4 * k)) ((lb.length : Int) + 1) = false := by simp [fixB]; omega
        simp [rdX, this]
      have HX := Lib.hid hx
      clear hx
      go_wp2_with fail
      refine (fixed_l 0 ((lb.length : Int) + 1) ⟨#[]⟩ none hr rfl (by simp [St.l]; omega) (by rw [HX.out]; rfl) (by rw [HX.out])).mono ?_
      rintro e w2 ⟨rfl, h2, x2⟩
      go_wp2_with fail
      refine (ok_l 0 false h2 rfl rfl).mono ?_
      rintro e w' ⟨rfl, rfl⟩
      go_wp2_with fail
      refine (done_l 0 false h2 rfl rfl).mono ?_
      rintro e w' ⟨rfl, rfl⟩
      go_wp2_with fail
      refine (left_l 0 0 h2 rfl rfl).mono ?_
      rintro e w' ⟨rfl, rfl⟩
      go_wp2_with fail
      refine (word_l 0 0 none h2 rfl rfl rfl).mono ?_
      rintro e w3 ⟨rfl, h3, x3⟩
      go_wp2_with fail
      refine (long_l 0 0 none h3 rfl rfl rfl).mono ?_
      rintro e w4 ⟨rfl, h4, x4⟩
      go_wp2_with fail
      refine (int_l 0 0 none h4 rfl (by decide +kernel) rfl).mono ?_
      rintro e w5 ⟨rfl, h5, x5⟩
      go_wp2_with fail
      refine (flag_l 0 false none h5 rfl (by decide +kernel) (by decide +kernel)).mono ?_
      rintro e w6 ⟨rfl, h6, x6⟩
      go_wp2_with fail
      refine (text_l 0 99 ⟨#[]⟩ none h6 rfl (by decide +kernel) (by decide +kernel) (by decide +kernel)).mono ?_
      rintro e w7 ⟨rfl, h7, x7⟩
      go_wp2_with fail
      refine (fixed_l 0 0 ⟨#[]⟩ none h7 rfl (by decide +kernel) rfl rfl).mono ?_
      rintro e w8 ⟨rfl, h8, x8⟩
      go_wp2_with fail
      refine (count_l 0 99 0 none h8 rfl (by decide +kernel) (by decide +kernel)).mono ?_
      rintro e w9 ⟨rfl, h9, x9⟩
      go_wp2_with fail
      refine (left_l 0 0 h9 rfl rfl).mono ?_
      rintro e w' ⟨rfl, rfl⟩
      go_wp2_with fail
      refine (ok_l 0 false h9 rfl rfl).mono ?_
      rintro e w' ⟨rfl, rfl⟩
      go_wp2_with fail
      go_ret
      exact ⟨rfl, (((((((hb.trans x2).trans x3).trans x4).trans x5).trans x6).trans x7).trans x8).trans x9⟩

theorem own : ownKnob Try.prog.godebug = none := by kernel_rfl
theorem laidOut : laidOutB Try.prog = true := by kernel_rfl

set_option maxRecDepth 100000 in
theorem lifted (os : Os) (started : os.Started) (H : Type) (enc : TypeId × Value → H) :
    ReturnsInHanded {} Try.checked os 12 .any (Rows.xdrBadSpec.pre6 enc Try.prog Try.f12 Rows.xdrBadRow.domain false) (Rows.xdrBadSpec.post enc Try.prog Try.f12 false true false false) := by
  refine returnsInHanded_of_change (C := Try.checked) own started (by kernel_rfl) Try.func12
    (ChangeSpec.witness6 (enc := enc) (C := Try.checked) false ⟨#[], #[.slice none 0 0, .int .i64 0], []⟩ 8 (by kernel_rfl) (by kernel_rfl) (by kernel_rfl) (by kernel_rfl)) ?_
  intro W base args ds gs before hval0 hW hcnd _
  have hval : ∀ (j : Nat) t v, Try.f12.params[j]? = some t → args[j]? = some v → Value.okWide Try.prog W .any base t v := hval0
  have hW' := hW
  obtain ⟨p, q, hA0, hV, rfl, hfz, hnd⟩ := hW
  have hA : DataW.TrodAll enc Try.prog W 0 (fun _ => true) true Try.f12.params.toList args.toList ds p := hA0
  rw [Try.params12] at hA hval
  obtain ⟨v0, vs0, d0, ds0, p0, q0, hargs, rfl, rfl, h0, r0⟩ := trodAll_cons hA
  obtain ⟨v1, vs1, d1, ds1, p1, q1, rfl, rfl, rfl, h1, r1⟩ := trodAll_cons r0
  obtain ⟨rfl, rfl, rfl⟩ := trodAll_nil r1
  obtain rfl : args = #[v0, v1] := by cases args; simp_all
  obtain ⟨rfl, rfl⟩ := trodVars_none hV
  have k0 := h0
  have lt0 : ∀ x ∈ p0, x.block < W.heap.size := by obtain ⟨m, hm⟩ := k0; exact DataW.trod_lt m _ _ _ hm
  have k1 := h1
  have lt1 : ∀ x ∈ p1, x.block < W.heap.size := by obtain ⟨m, hm⟩ := k1; exact DataW.trod_lt m _ _ _ hm
  obtain ⟨l0, y0, wl0⟩ := open_bytes Try.underlying22 Try.underlying5 (by kernel_rfl) (hval 0 _ v0 rfl rfl) h0
  obtain ⟨a1, rfl, -, -, wa1⟩ := open_int Try.underlying3 (hval 1 _ v1 rfl rfl) h1
  refine (walk (w := W) v0 l0 y0 wl0 a1 wa1).mono fun e W' ⟨he, bel⟩ => ?_
  subst he
  exact ⟨_, rfl, _, _, _, [], _, [], hW', trodAll_mk1 (shut_bool Try.underlying4 _), (trodAll_cons_mk (Below.trod laidOut (by kernel_rfl) (of_decide_eq_true (by kernel_rfl)) k0 bel lt0) (trodAll_cons_mk (Below.trod laidOut (by kernel_rfl) (of_decide_eq_true (by kernel_rfl)) k1 bel lt1) trodAll_mk0)), rfl, bel.frame _, fun h => by cases h⟩

theorem proved : Rows.XdrBadSaid :=
  OpenClaim.holds_of_wide 12 Try.f12 rfl rfl rfl rfl rfl rfl rfl ⟨rfl, rfl, rfl, rfl, rfl⟩ rfl rfl rfl rfl rfl (by kernel_rfl) Try.func12 (by kernel_rfl)
    (of_decide_eq_true (by kernel_rfl)) (by unfold Func.isWrapper; first | (rw [if_pos (by decide +kernel)]; kernel_rfl) | (rw [if_neg (by decide +kernel)]; exact ⟨rfl, rfl⟩))
    (fun os started H enc _ => lifted os started H enc)
end Go.Proofs.Ytaccjneglaomhaa.xdrBad
