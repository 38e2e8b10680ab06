/- Proved: CallWord returns true whatever head, place and word it is called with, and each argument reads behind the call as before. No condition. -/
import Derived.Test.YtaccjneglaomhaaCallK
import Derived.Test.YtaccjneglaomhaaCalmB
set_option linter.unusedVariables false
namespace Go.Proofs.Ytaccjneglaomhaa.callWord
open Go.RowKit Go.ChangeShapes Go.WideShapes Go.ChangeAt Go.Deep Go.Proofs.Ytaccjneglaomhaa
attribute [local go_sem ↓] eql_chead

theorem umod (x m : Int) (h0 : 0 < m) (h1 : m ≤ 4611686018427387904) : ∃ i : Nat, (i : Int) < m ∧ wrap64 ((IntKind.u64.wrap x).tmod m) = i := by
  have hw : 0 ≤ IntKind.u64.wrap x := by simp [IntKind.wrap, IntKind.bits, IntKind.signed]; omega
  rw [Int.tmod_eq_emod_of_nonneg hw]
  have h2 := Int.emod_nonneg (IntKind.u64.wrap x) (show m ≠ 0 by omega)
  have h3 := Int.emod_lt_of_pos (IntKind.u64.wrap x) h0
  obtain ⟨i, hi⟩ := Int.eq_ofNat_of_zero_le h2
  exact ⟨i, by omega, by rw [IntWalk.wrap64_in _ ⟨by omega, by omega⟩, hi]⟩
theorem vs_one {w : World} {g : Nat} {q : Int} {T : TypeId} (h : w.heap[g]? = some (.cells #[.int .i64 q] T (0, 0))) : VS w (.slice (some ⟨g, 0, none⟩) 1 1) ([q].map (Value.int .i64)) := by
  refine .inr ⟨g, 0, 1, rfl, (Array.getElem?_eq_some_iff.1 h).1, by simp, fun j hj => ?_⟩
  obtain rfl : j = 0 := by simpa using hj
  rw [cell_of_row _ _ _ _ _ _ h]; rfl
set_option maxHeartbeats 16000000 in
set_option maxRecDepth 100000 in
theorem walk0 (c x p : Int) (l : List UInt8) (at_ : Int) (q : Int) (w : World) (w1 : l.length ≤ maxLen) (w2 : isW q = true) :
    Calls Try.prog 7 #[.agg #[.int .i64 c, .int .i64 x, .int .i64 p, .string (str l)], .int .i64 at_, .int .u32 q] w fun r w' => r = .returned (.bool true) ∧ Below w.heap.size w w' := by
  unfold maxLen at w1
  have s1 := str_size l
  by_cases h1 : 5000 < l.length
  · go_enter Try.func7, Try.ntmps7
    go_wp2_with (go_at_call 56; refine (works03_any _).mono ?_; rintro e w0 ⟨rfl, hb0⟩; have hz0 := hb0.size; (try simp only [World.size_alloc] at hz0); have hc0 := cellB (hb0.mono (B' := w.heap.size + 1) (by first | omega | (simp; done) | (simp; omega))))
    go_ret
    exact ⟨rfl, by (repeat' (first | (with_reducible assumption) | (with_reducible exact Below.refl _ _) | (with_reducible refine below_sc ?_ ?_) | ((with_reducible show (_ : Nat) ≤ _); omega) | refine Below.setCell ?_ (by first | omega | (simp; done) | (simp; omega)) _ | refine Below.alloc ?_ (by first | omega | (simp; done) | (simp; omega)) _ | refine Below.drew ?_ | refine below_drewN ?_ _ | refine Below.trans ?_ (Below.mono (by assumption) (by first | omega | (simp; done) | (simp; omega)))))⟩
  obtain ⟨R1, hR1⟩ : ∃ R, R = cW c x p l := ⟨_, rfl⟩
  have f1 : R1.2 = 0 → _ := fun h i hi => cW_word (hR1 ▸ h) i q hi
  have f2 : R1.2 = 0 → p < 19 → _ := fun h hp => cW_other (hR1 ▸ h) hp q w2
  have k1 := fun w => cWrite_any c x p l w (by omega)
  rw [← hR1] at k1 f1
  clear hR1
  obtain ⟨S, E⟩ := R1
  simp only at f1 f2
  have hv : ∀ r : List UInt8 × Int, seV r = .tuple #[.string (str r.1), .int .i64 r.2] := fun _ => rfl
  have hh : ∀ (a b c : Int) l n, heV (⟨a, b, c, l⟩, n) = .tuple #[.agg #[.int .i64 a, .int .i64 b, .int .i64 c, .string (str l)], .int .i64 n] := fun _ _ _ _ _ => rfl
  simp only [hv, headV] at k1
  have K1 := Lib.hid k1
  have HH := Lib.hid hh
  have F1 := Lib.hid f1
  have F2 := Lib.hid f2
  have W2 := Lib.hid w2
  clear f1 f2 k1 hv hh w2
  by_cases g1 : E = 0
  case neg =>
    have z1 : (E == 0) = false := beq_eq_false_iff_ne.2 g1
    have z2 : (E != 0) = true := bne_iff_ne.2 g1
    go_enter Try.func7, Try.ntmps7
    go_wp2_with (go_at_call 56; refine (works03_any _).mono ?_; rintro e w0 ⟨rfl, hb0⟩; have hz0 := hb0.size; (try simp only [World.size_alloc] at hz0); have hc0 := cellB (hb0.mono (B' := w.heap.size + 1) (by first | omega | (simp; done) | (simp; omega))); have lt0 : w.heap.size < w0.heap.size := (by omega))
    refine (K1.out _).mono ?_
    rintro e w1 ⟨rfl, hb1⟩; have hz1 := hb1.size; (try simp only [World.size_alloc] at hz1)
    go_wp2_with fail
    go_ret
    exact ⟨rfl, by (repeat' (first | (with_reducible assumption) | (with_reducible exact Below.refl _ _) | (with_reducible refine below_sc ?_ ?_) | ((with_reducible show (_ : Nat) ≤ _); omega) | refine Below.setCell ?_ (by first | omega | (simp; done) | (simp; omega)) _ | refine Below.alloc ?_ (by first | omega | (simp; done) | (simp; omega)) _ | refine Below.drew ?_ | refine below_drewN ?_ _ | refine Below.trans ?_ (Below.mono (by assumption) (by first | omega | (simp; done) | (simp; omega)))))⟩
  subst g1
  by_cases g2 : p < 19
  case neg =>
    go_enter Try.func7, Try.ntmps7
    go_wp2_with (go_at_call 56; refine (works03_any _).mono ?_; rintro e w0 ⟨rfl, hb0⟩; have hz0 := hb0.size; (try simp only [World.size_alloc] at hz0); have hc0 := cellB (hb0.mono (B' := w.heap.size + 1) (by first | omega | (simp; done) | (simp; omega))); have lt0 : w.heap.size < w0.heap.size := (by omega))
    refine (K1.out _).mono ?_
    rintro e w1 ⟨rfl, hb1⟩; have hz1 := hb1.size; (try simp only [World.size_alloc] at hz1)
    obtain ⟨a0, a1, a2, a3, -, -, -, -, lt7⟩ := blk4 ((hb1.block w0.heap.size (by first | omega | (simp; done) | (simp; omega))).trans (heap_alloc_last w0 _))
    go_wp2_with fail
    go_ret
    exact ⟨rfl, by (repeat' (first | (with_reducible assumption) | (with_reducible exact Below.refl _ _) | (with_reducible refine below_sc ?_ ?_) | ((with_reducible show (_ : Nat) ≤ _); omega) | refine Below.setCell ?_ (by first | omega | (simp; done) | (simp; omega)) _ | refine Below.alloc ?_ (by first | omega | (simp; done) | (simp; omega)) _ | refine Below.drew ?_ | refine below_drewN ?_ _ | refine Below.trans ?_ (Below.mono (by assumption) (by first | omega | (simp; done) | (simp; omega)))))⟩
  obtain ⟨i, hi6, hi⟩ := umod at_ 6 (by omega) (by omega)
  have hi6' : i < 6 := by omega
  obtain ⟨hT, hS⟩ := F1.out rfl i hi6'
  have G2 := Lib.hid (F2.out rfl g2)
  clear F1 F2
  have hs := str_size S
  rw [hS] at hs
  have hq := isW_iff.1 W2.out
  have hx1 : (str S).extract 0 (4 * i) = str (S.take (4 * i)) := by rw [str_extract]; simp
  have hx2 : (str S).extract (4 * i + 4) (24 + l.length) = str (S.drop (4 * i + 4)) := by rw [str_extract, List.take_of_length_le (by simp; omega)]
  have sa := fun a b => str_append a b
  have ss := fun l => str_size l
  have y1 : (S.take (4 * i)).length = 4 * i := by rw [List.length_take, hS]; omega
  have y2 : (wordsL [q]).length = 4 := by rw [wordsL_len]; rfl
  have y3 : (S.drop (4 * i + 4)).length = 20 + l.length - 4 * i := by rw [List.length_drop, hS]; omega
  have lT : (S.take (4 * i) ++ wordsL [q] ++ S.drop (4 * i + 4)).length ≤ 20000 := by rw [hT, List.length_append, wordsL_len]; simp; omega
  have kR := fun w => cRead_any (S.take (4 * i) ++ wordsL [q] ++ S.drop (4 * i + 4)) w lT
  rw [hT] at kR
  obtain ⟨⟨⟨c', x', p', l'⟩, n'⟩, hR⟩ : ∃ R, R = cR (wordsL ([x, 0, 284, 3, c, p].set i q) ++ l) := ⟨_, rfl⟩
  rw [← hR, HH.out, ← hT, List.append_assoc] at kR
  have KR := Lib.hid kR
  have HR := Lib.hid hR
  obtain ⟨hq0, hq1⟩ := hq
  clear kR hR lT
  have HI := Lib.hid hi
  clear hi hT
  go_enter Try.func7, Try.ntmps7
  go_wp2_with (go_at_call 56; refine (works03_any _).mono ?_; rintro e w0 ⟨rfl, hb0⟩; have hz0 := hb0.size; (try simp only [World.size_alloc] at hz0); have hc0 := cellB (hb0.mono (B' := w.heap.size + 1) (by first | omega | (simp; done) | (simp; omega))); have lt0 : w.heap.size < w0.heap.size := (by omega))
  refine (K1.out _).mono ?_
  rintro e w1 ⟨rfl, hb1⟩; have hz1 := hb1.size; (try simp only [World.size_alloc] at hz1)
  have B7 := Lib.hid ((hb1.block w0.heap.size (by first | omega | (simp; done) | (simp; omega))).trans (heap_alloc_last w0 _))
  have X1 : Below w.heap.size w w1 := by (repeat' (first | (with_reducible assumption) | (with_reducible exact Below.refl _ _) | (with_reducible refine below_sc ?_ ?_) | ((with_reducible show (_ : Nat) ≤ _); omega) | refine Below.setCell ?_ (by first | omega | (simp; done) | (simp; omega)) _ | refine Below.alloc ?_ (by first | omega | (simp; done) | (simp; omega)) _ | refine Below.drew ?_ | refine below_drewN ?_ _ | refine Below.trans ?_ (Below.mono (by assumption) (by first | omega | (simp; done) | (simp; omega)))))
  clear hb1 hb0 hc0 K1
  obtain ⟨a0, a1, a2, a3, -, -, -, -, lt7⟩ := blk4 B7.out
  go_wp2_with fail
  rw [HI.out]
  clear HI a0 a1 a2 a3
  refine C.wp_region_piecesC (fun _ => True) (fun k => w1.heap.size ≤ k) 21 19 [(true, [0, 1, 2, 3, 4, 5, 9, 10, 11, 12, 13]), (false, [6]), (false, [7]), (true, [8, 14]), (false, [15]), (true, [16, 17, 18])] [(false, [20])] (O := .cells #[.int .i64 0, .int .i64 0, .int .i64 0, .string ⟨#[]⟩] 38) (by kernel_rfl) (fun _ _ => trivial) (by kernel_rfl) rfl rfl (fun _ _ => by go_simp) ?_; simp only [pick, List.map_cons, List.map_nil, List.flatMap_cons, List.flatMap_nil, Option.toList_some, List.singleton_append, List.drop_succ_cons, List.drop_zero, List.getElem?_cons_zero, List.getElem?_cons_succ]
  refine ⟨by kernel_rfl, ?_⟩; apply Exists.intro; refine ⟨fun ψ hψ hne => (by (repeat (go_big_quiet_step (( fail )))); exact wpQuiet_nil rfl), ?_⟩
  intro wa ha K hK
  go_wp2_with fail
  refine hK _ _ (Mut.of_ext (ext_alloc wa _)) ?_
  clear hK K
  intro wb hb K hK
  have hvs : VS wb (.slice (some ⟨wa.heap.size, 0, none⟩) 1 1) ([q].map (Value.int .i64)) := vs_one ((Below.block hb wa.heap.size (by simp)).trans (heap_alloc_last wa _))
  go_wp2_with fail
  refine (lwords_any [q] _ wb hvs (by simp)).mono ?_
  rintro e wc ⟨rfl, hbc⟩
  clear hvs
  go_wp2_with fail
  refine hK _ _ (Mut.of_ext hbc) ?_
  clear hK K
  refine ⟨by kernel_rfl, ?_⟩; apply Exists.intro; refine ⟨fun ψ hψ hne => (by (repeat (go_big_quiet_step (( fail )))); exact wpQuiet_nil rfl), ?_⟩
  intro wd hd K hK
  go_wp2_with fail
  refine (KR.out wd).mono ?_
  rintro e we ⟨rfl, hbe⟩
  go_wp2_with fail
  refine hK _ _ (Mut.of_ext hbe) ?_
  clear hK K
  refine ⟨by kernel_rfl, ?_⟩; apply Exists.intro; refine ⟨fun ψ hψ hne => (by (repeat (go_big_quiet_step (( fail )))); exact wpQuiet_nil rfl), ?_⟩
  intro wf hf g hg hO
  intro wg hg2 K hK
  have ex : Ext w1 wg := Ext.trans ha (Ext.trans (ext_alloc wa _) (Ext.trans hb (Ext.trans hbc (Ext.trans hd (Ext.trans hbe (Ext.trans hf hg2))))))
  have hO' := (Below.block hg2 g (Array.getElem?_eq_some_iff.1 hO).1).trans hO
  obtain ⟨wi, hst, hgd, hbd⟩ := st_struct (P := Try.prog) (cs := #[.int .i64 c', .int .i64 x', .int .i64 p', .string (str l')]) hO' (by kernel_rfl) rfl (by simp [Value.oneCell'])
  refine wpList_st rfl 38 (.tmp 11) (.tmp 63) rfl hst ?_
  go_wp2_with fail
  refine hK _ _ (Mut.of_grown hbd (fun b hb => by simp at hb; omega)) ?_
  clear hK K
  intro wj hj
  have BB := Lib.hid ((Below.block hj g (Array.getElem?_eq_some_iff.1 hgd).1).trans hgd)
  have n1 : w0.heap.size ≠ g := by omega
  have b7 := (Below.block ex w0.heap.size lt7).trans B7.out
  have b7' := (hbd.block w0.heap.size (Array.getElem?_eq_some_iff.1 b7).1 (by simpa using n1)).trans b7
  have BX := Lib.hid ((Below.block hj w0.heap.size (Array.getElem?_eq_some_iff.1 b7').1).trans b7')
  have X9 : Below w.heap.size w wj := by
    have e1 : Below w.heap.size w wg := X1.trans (Below.mono ex X1.size)
    have e2 : Below w.heap.size w wi := e1.trans (hbd.below (by omega) e1.size)
    exact e2.trans (Below.mono hj e2.size)
  have z0 : w.heap.size ≤ w0.heap.size := by omega
  clear y1 y2 y3 ss sa ha hb hbc hd hbe hf hg hO hg2 ex hO' hst hgd hbd hj b7 b7' B7 X1 lt7 lt0 hx1 hx2 hs hS KR hz0 hz1
  obtain ⟨u0, u1, u2, u3, v0, v1, v2, v3, ltu⟩ := blk4 BX.out
  obtain ⟨d0, d1, d2, d3, -, -, -, -, ltd⟩ := blk4 BB.out
  clear BX BB
  obtain ⟨r0, ⟨r1, r1'⟩, ⟨r2, r2'⟩, ⟨r3, r3'⟩, ⟨r4, r4'⟩, ⟨r5, r5'⟩⟩ := G2.out
  clear G2
  have hi0 : i = 0 ∨ i = 1 ∨ i = 2 ∨ i = 3 ∨ i = 4 ∨ i = 5 := by omega
  have HR' := HR.out
  clear HR
  have n1' := n1.symm
  have inj : ∀ {a b c a' b' c' : Int} {l l' : List UInt8} {n n' : Int}, ((⟨a, b, c, l⟩, n) : HeadT × Int) = (⟨a', b', c', l'⟩, n') → a = a' ∧ b = b' ∧ c = c' ∧ l = l' ∧ n = n' := by
    intro a b c a' b' c' l l' n n' h
    simp only [Prod.mk.injEq, HeadT.mk.injEq] at h
    exact ⟨h.1.1, h.1.2.1, h.1.2.2.1, h.1.2.2.2, h.2⟩
  rcases hi0 with rfl | rfl | rfl | rfl | rfl | rfl
  · obtain ⟨rfl, rfl, rfl, rfl, rfl⟩ := inj (HR'.trans r0)
    have eS := eqHd_self c' x' p' l'
    clear HR' r0 r1 r1' r2 r2' r3 r3' r4 r4' r5 r5' inj
    go_wp2_with fail
    go_ret
    exact ⟨rfl, by (repeat' (first | (with_reducible assumption) | (with_reducible refine below_sc ?_ ?_) | (with_reducible refine Below.alloc ?_ ?_ _) | omega))⟩
  · by_cases hz : q = 0
    · subst hz
      obtain ⟨rfl, rfl, rfl, rfl, rfl⟩ := inj (HR'.trans (r1 rfl))
      have eS := eqHd_self c' x' p' l'
      clear HR' r0 r1 r1' r2 r2' r3 r3' r4 r4' r5 r5' inj
      go_wp2_with fail
      go_ret
      exact ⟨rfl, by (repeat' (first | (with_reducible assumption) | (with_reducible refine below_sc ?_ ?_) | (with_reducible refine Below.alloc ?_ ?_ _) | omega))⟩
    · have e : n' = 4 := (congrArg Prod.snd HR').trans (r1' hz)
      subst e
      have z1 : (q == 0) = false := beq_eq_false_iff_ne.2 hz
      have z2 : (q != 0) = true := bne_iff_ne.2 hz
      clear HR' r0 r1 r1' r2 r2' r3 r3' r4 r4' r5 r5' inj
      go_wp2_with fail
      go_ret
      exact ⟨rfl, by (repeat' (first | (with_reducible assumption) | (with_reducible refine below_sc ?_ ?_) | (with_reducible refine Below.alloc ?_ ?_ _) | omega))⟩
  · by_cases hz : q = 284
    · subst hz
      have e : n' = 0 := (congrArg Prod.snd HR').trans (r2 rfl)
      subst e
      clear HR' r0 r1 r1' r2 r2' r3 r3' r4 r4' r5 r5' inj
      go_wp2_with fail
      go_ret
      exact ⟨rfl, by (repeat' (first | (with_reducible assumption) | (with_reducible refine below_sc ?_ ?_) | (with_reducible refine Below.alloc ?_ ?_ _) | omega))⟩
    · have e : n' = 63 := (congrArg Prod.snd HR').trans (r2' hz)
      subst e
      have z1 : (q == 284) = false := beq_eq_false_iff_ne.2 hz
      have z2 : (q != 284) = true := bne_iff_ne.2 hz
      clear HR' r0 r1 r1' r2 r2' r3 r3' r4 r4' r5 r5' inj
      go_wp2_with fail
      go_ret
      exact ⟨rfl, by (repeat' (first | (with_reducible assumption) | (with_reducible refine below_sc ?_ ?_) | (with_reducible refine Below.alloc ?_ ?_ _) | omega))⟩
  · by_cases hz : q = 3
    · subst hz
      have e : n' = 0 := (congrArg Prod.snd HR').trans (r3 rfl)
      subst e
      clear HR' r0 r1 r1' r2 r2' r3 r3' r4 r4' r5 r5' inj
      go_wp2_with fail
      go_ret
      exact ⟨rfl, by (repeat' (first | (with_reducible assumption) | (with_reducible refine below_sc ?_ ?_) | (with_reducible refine Below.alloc ?_ ?_ _) | omega))⟩
    · have e : n' = 63 := (congrArg Prod.snd HR').trans (r3' hz)
      subst e
      have z1 : (q == 3) = false := beq_eq_false_iff_ne.2 hz
      have z2 : (q != 3) = true := bne_iff_ne.2 hz
      clear HR' r0 r1 r1' r2 r2' r3 r3' r4 r4' r5 r5' inj
      go_wp2_with fail
      go_ret
      exact ⟨rfl, by (repeat' (first | (with_reducible assumption) | (with_reducible refine below_sc ?_ ?_) | (with_reducible refine Below.alloc ?_ ?_ _) | omega))⟩
  · by_cases hz : 1 ≤ q ∧ q ≤ 16
    · obtain ⟨rfl, rfl, rfl, rfl, rfl⟩ := inj (HR'.trans (r4 hz))
      have eS := eqHd_self c' x' p' l'
      obtain ⟨hz1, hz2⟩ := hz
      clear HR' r0 r1 r1' r2 r2' r3 r3' r4 r4' r5 r5' inj
      go_wp2_with fail
      go_ret
      exact ⟨rfl, by (repeat' (first | (with_reducible assumption) | (with_reducible refine below_sc ?_ ?_) | (with_reducible refine Below.alloc ?_ ?_ _) | omega))⟩
    · have e : n' = 4 := (congrArg Prod.snd HR').trans (r4' hz)
      subst e
      clear HR' r0 r1 r1' r2 r2' r3 r3' r4 r4' r5 r5' inj
      by_cases hz1 : 1 ≤ q
      · have hz2 : 16 < q := by omega
        clear hz
        go_wp2_with fail
        go_ret
        exact ⟨rfl, by (repeat' (first | (with_reducible assumption) | (with_reducible refine below_sc ?_ ?_) | (with_reducible refine Below.alloc ?_ ?_ _) | omega))⟩
      · have hz2 : q < 1 := by omega
        clear hz
        go_wp2_with fail
        go_ret
        exact ⟨rfl, by (repeat' (first | (with_reducible assumption) | (with_reducible refine below_sc ?_ ?_) | (with_reducible refine Below.alloc ?_ ?_ _) | omega))⟩
  · by_cases hz : q < 19
    · obtain ⟨rfl, rfl, rfl, rfl, rfl⟩ := inj (HR'.trans (r5 hz))
      have eS := eqHd_self c' x' p' l'
      clear HR' r0 r1 r1' r2 r2' r3 r3' r4 r4' r5 r5' inj
      go_wp2_with fail
      go_ret
      exact ⟨rfl, by (repeat' (first | (with_reducible assumption) | (with_reducible refine below_sc ?_ ?_) | (with_reducible refine Below.alloc ?_ ?_ _) | omega))⟩
    · obtain ⟨rfl, rfl, rfl, rfl, rfl⟩ := inj (HR'.trans (r5' (by omega)))
      clear HR' r0 r1 r1' r2 r2' r3 r3' r4 r4' r5 r5' inj
      go_wp2_with fail
      go_ret
      exact ⟨rfl, by (repeat' (first | (with_reducible assumption) | (with_reducible refine below_sc ?_ ?_) | (with_reducible refine Below.alloc ?_ ?_ _) | omega))⟩

theorem walk (h : HeadT) (wh : h.Ok) (a : Int) (wa : (Lit.int .i64 a).wf = true) (q : Int) (wq : (Lit.int .u32 q).wf = true) (w : World) :
    Calls Try.prog 7 #[h.v, .int .i64 a, .int .u32 q] w fun r w' => r = .returned (.bool true) ∧ Below w.heap.size w w' :=
  walk0 _ _ _ _ a q w wh.l (isW_iff.2 (by simp [Lit.wf, IntKind.min, IntKind.max, IntKind.signed, IntKind.bits] at wq; omega))

theorem own : ownKnob Try.prog.godebug = none := by kernel_rfl
theorem laidOut : laidOutB Try.prog = true := by kernel_rfl

set_option maxRecDepth 100000 in
theorem lifted (os : Os) (started : os.Started) (H : Type) (enc : TypeId × Value → H) :
    ReturnsInHanded {} Try.checked os 7 .any (Rows.callWordSpec.pre6 enc Try.prog Try.f7 Rows.callWordRow.domain false) (Rows.callWordSpec.post enc Try.prog Try.f7 false true false false) := by
  refine returnsInHanded_of_change (C := Try.checked) own started (by kernel_rfl) Try.func7
    (ChangeSpec.witness6 (enc := enc) (C := Try.checked) false ⟨#[], #[.agg #[.int .i64 0, .int .i64 0, .int .i64 0, .string ⟨#[]⟩], .int .i64 0, .int .u32 0], []⟩ 8 (by kernel_rfl) (by kernel_rfl) (by kernel_rfl) (by kernel_rfl)) ?_
  intro W base args ds gs before hval0 hW hcnd _
  have hval : ∀ (j : Nat) t v, Try.f7.params[j]? = some t → args[j]? = some v → Value.okWide Try.prog W .any base t v := hval0
  have hW' := hW
  obtain ⟨p, q, hA0, hV, rfl, hfz, hnd⟩ := hW
  have hA : DataW.TrodAll enc Try.prog W 0 (fun _ => true) true Try.f7.params.toList args.toList ds p := hA0
  rw [Try.params7] at hA hval
  obtain ⟨v0, vs0, d0, ds0, p0, q0, hargs, rfl, rfl, h0, r0⟩ := trodAll_cons hA
  obtain ⟨v1, vs1, d1, ds1, p1, q1, rfl, rfl, rfl, h1, r1⟩ := trodAll_cons r0
  obtain ⟨v2, vs2, d2, ds2, p2, q2, rfl, rfl, rfl, h2, r2⟩ := trodAll_cons r1
  obtain ⟨rfl, rfl, rfl⟩ := trodAll_nil r2
  obtain rfl : args = #[v0, v1, v2] := by cases args; simp_all
  obtain ⟨rfl, rfl⟩ := trodVars_none hV
  have k0 := h0
  have lt0 : ∀ x ∈ p0, x.block < W.heap.size := by obtain ⟨m, hm⟩ := k0; exact DataW.trod_lt m _ _ _ hm
  have k1 := h1
  have lt1 : ∀ x ∈ p1, x.block < W.heap.size := by obtain ⟨m, hm⟩ := k1; exact DataW.trod_lt m _ _ _ hm
  have k2 := h2
  have lt2 : ∀ x ∈ p2, x.block < W.heap.size := by obtain ⟨m, hm⟩ := k2; exact DataW.trod_lt m _ _ _ hm
  obtain ⟨x0, rfl, w0⟩ := open_head (hval 0 _ v0 rfl rfl) h0
  obtain ⟨a1, rfl, -, -, wa1⟩ := open_int Try.underlying3 (hval 1 _ v1 rfl rfl) h1
  obtain ⟨a2, rfl, -, -, wa2⟩ := open_int Try.underlying25 (hval 2 _ v2 rfl rfl) h2
  refine (walk x0 w0 a1 wa1 a2 wa2 W).mono fun e W' ⟨he, bel⟩ => ?_
  subst he
  exact ⟨_, rfl, _, _, _, [], _, [], hW', trodAll_mk1 (shut_bool Try.underlying4 _), (trodAll_cons_mk (Below.trod laidOut (by kernel_rfl) (of_decide_eq_true (by kernel_rfl)) k0 bel lt0) (trodAll_cons_mk (Below.trod laidOut (by kernel_rfl) (of_decide_eq_true (by kernel_rfl)) k1 bel lt1) (trodAll_cons_mk (Below.trod laidOut (by kernel_rfl) (of_decide_eq_true (by kernel_rfl)) k2 bel lt2) trodAll_mk0))), rfl, bel.frame _, fun h => by cases h⟩

theorem proved : Rows.CallWordSaid :=
  OpenClaim.holds_of_wide 7 Try.f7 rfl rfl rfl rfl rfl rfl rfl ⟨rfl, rfl, rfl, rfl, rfl⟩ rfl rfl rfl rfl rfl (by kernel_rfl) Try.func7 (by kernel_rfl)
    (of_decide_eq_true (by kernel_rfl)) (by unfold Func.isWrapper; first | (rw [if_pos (by decide +kernel)]; kernel_rfl) | (rw [if_neg (by decide +kernel)]; exact ⟨rfl, rfl⟩))
    (fun os started H enc _ => lifted os started H enc)
end Go.Proofs.Ytaccjneglaomhaa.callWord
