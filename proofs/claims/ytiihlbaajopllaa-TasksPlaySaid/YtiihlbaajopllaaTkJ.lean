/- Walks of tasks: Next. -/
import Derived.Test.YtiihlbaajopllaaTkI
import Derived.Test.YtiihlbaajopllaaRtE
set_option linter.unusedVariables false
set_option maxRecDepth 100000
namespace Go.Proofs.Ytiihlbaajopllaa
open Go.RowKit Go.MapKept

theorem rot_no {T : TK} (h : waitsB T.L = false) : canT T = rotT T.L := by
  unfold canT rotT
  rw [h]
  simp
theorem rot_yes {T : TK} (h : waitsB T.L = true) : canT T = canR T.L ++ [(-1, 2)] ∧ rotT T.L = (-1, 2) :: canR T.L := by
  unfold canT rotT
  rw [h]
  exact ⟨rfl, rfl⟩
theorem canR_nn {T : TK} (hok : T.Ok) {x : Tn} (h : x ∈ canR T.L) : 0 ≤ x.1 := by
  unfold canR at h
  obtain ⟨k, _, hk⟩ := List.mem_flatMap.1 h
  obtain ⟨_, e, he, hx⟩ := canK_mem hk
  have := hok.n0 e he
  omega
theorem rot_mem {T : TK} {x : Tn} (h : x ∈ rotT T.L) : x ∈ canT T := by
  unfold rotT at h
  unfold canT
  simp only [List.mem_append] at h ⊢
  exact h.symm
theorem rot_len {T : TK} : (rotT T.L).length = (canT T).length := by
  unfold rotT canT
  simp only [List.length_append]
  omega
theorem next_at {T : TK} {x0 y : Tn} {tl : List Tn} (h : rotT T.L = x0 :: tl) (hy : ((x0 :: tl).find? fun x => decide (T.last < placeT T.L x.1)).getD x0 = y) : T.next = ({ T with last := placeT T.L y.1 }, y, 0) := by
  unfold TK.next
  rw [h]
  subst hy
  rfl
theorem find_take {α : Type} {p : α → Bool} {l : List α} {k : Nat} {x : α} (hx : l[k]? = some x) (hp : p x = true) (h : ∀ y ∈ l.take k, p y = false) : l.find? p = some x := by
  obtain ⟨hk, rfl⟩ := List.getElem?_eq_some_iff.1 hx
  have e : l = l.take k ++ l[k] :: l.drop (k + 1) := by rw [← List.drop_eq_getElem_cons hk, List.take_append_drop]
  generalize l[k] = x at *
  rw [e, List.find?_append, List.find?_eq_none.2 (fun y hy => by simp [h y hy]), Option.none_or, List.find?_cons, hp]
theorem turn_at {w : World} {b c n k : Nat} {R : List Tn} {z : Tn} (h : RR w 2 (.slice (some ⟨b, 0, none⟩) n c) n (tncs R)) (hn : R.length = n) (hk : R[k]? = some z) :
    b < w.heap.size ∧ n ≤ c ∧ w.cell? ⟨b, k * 2, none⟩ = some (.int .i64 z.1) ∧ w.cell? ⟨b, k * 2 + 1, none⟩ = some (.int .u8 z.2) := by
  subst hn
  have hkl := (List.getElem?_eq_some_iff.1 hk).1
  have h0 := RR.cellAt h tnC_length hk (i := 0) (v := .int .i64 z.1) rfl
  have h1 := RR.cellAt h tnC_length hk (i := 1) (v := .int .u8 z.2) rfl
  obtain ⟨b', off, hA, hb, hc, _⟩ := h.at (by omega)
  simp only [Option.some.injEq, Addr.mk.injEq, and_true] at hA
  obtain ⟨rfl, -⟩ := hA
  simp only [Nat.zero_add, Nat.add_zero] at h0 h1
  exact ⟨hb, hc, h0, h1⟩
theorem own_turn1 (x : Tn) {W1 : World} {r B : Nat} (h : W1.heap[r]? = some (.cells #[.int .i64 x.1, .int .u8 x.2] 64 (0, 0))) (hB : B ≤ r) : OwnR W1 B 64 2 One (.slice (some ⟨r, 0, none⟩) 1 1) 1 (tnC x) :=
  ⟨rfl, .inr ⟨r, 1, [], rfl, hB, by rw [List.append_nil]; exact h, rfl, by rw [List.append_nil]; exact tnC_one x⟩⟩
theorem turn_take {w : World} {b c k : Nat} {M : List Tn} {z : Tn} (h : RR w 2 (.slice (some ⟨b, 0, none⟩) (k + 1) c) (k + 1) (tncs (M ++ [z]))) (hk : M.length = k) : RR w 2 (.slice (some ⟨b, 0, none⟩) k c) k (tncs M) := by
  have hl : (M ++ [z]).length = k + 1 := by simp [hk]
  rw [← hl] at h
  have := RR.take tnC_length h (k := k) (by omega)
  rw [show (M ++ [z]).take k = M by rw [← hk]; simp] at this
  exact this
section
variable {S : Nat → Prop} {g : Nat} {T : TK}
set_option maxHeartbeats 4000000 in
theorem Next_any (w : World) (h : TkAt w S g T) :
    Calls Try.prog 32 #[.pointer (some ⟨g, 0, none⟩)] w fun e w' => e = .returned (.tuple #[tnV T.next.2.1, .int .i64 T.next.2.2]) ∧ To S w w' (tkOb g T.next.1) := by
  have HT : Hid (TkAt w S g T) := Lib.hid h
  have x0 := extAl w (.cells #[.int .i64 0, .int .u8 0] 64)
  have K := Lib.hid (Can_any _ ((tkOb g T).ext h x0))
  obtain ⟨⟨tg, ms, mp, h⟩, hok⟩ := h
  have hg0 := heap_alloc_last w (.cells #[.int .i64 0, .int .u8 0] 64)
  by_cases hc : canT T = []
  · have hp : T.next = (T, (0, 0), 5) := by
      have : rotT T.L = [] := List.length_eq_zero_iff.1 (by rw [rot_len, hc]; rfl)
      unfold TK.next
      rw [this]
    rw [hp]
    rw [hc] at K
    clear hp hc h hok
    go_enter Try.func32, Try.ntmps32
    go_wp2_with fail
    refine K.out.mono ?_
    rintro e w1 ⟨v, rfl, ho, hb⟩
    have hr := Ext.blk hb hg0
    have HB := Lib.hid (Ext.trans x0 hb)
    obtain ⟨A, c, rfl⟩ := ho.form
    obtain ⟨d0, d1, df, dl⟩ := blk2 hr
    have ST := Lib.hid (set2_01 (.int .i64 0) (.int .u8 0) hr)
    obtain ⟨r0, r1, rf, rl⟩ := blk2 (setRow_heap w1 w.heap.size _ #[.int .i64 0, .int .u8 0] _ _ hr)
    have HF := Lib.hid (To.of_ext (D := tkOb g T) HT.out (below_setRow HB.out (Nat.le_refl _) #[.int .i64 0, .int .u8 0]))
    clear ho hb hr hg0 K x0 HB
    go_wp2
    rw [ST.out]
    exact bodyPost_ret (v := .tuple #[tnV (0, 0), .int .i64 5]) (by simp [results, Try.results32, go_sem, r0, r1, tnV]) rfl ⟨rfl, HF.out⟩
  obtain ⟨x1, tl, hrot⟩ : ∃ x1 tl, rotT T.L = x1 :: tl := by
    cases hr : rotT T.L with
    | nil => exact absurd (List.length_eq_zero_iff.1 (by rw [← rot_len, hr]; rfl)) hc
    | cons a l => exact ⟨a, l, rfl⟩
  obtain ⟨k, hk⟩ : ∃ k, (canT T).length = k + 1 := ⟨(canT T).length - 1, by have := List.length_pos_iff.2 hc; omega⟩
  obtain ⟨y, hy⟩ : ∃ y, ((x1 :: tl).find? fun x => decide (T.last < placeT T.L x.1)).getD x1 = y := ⟨_, rfl⟩
  have hyr : y ∈ x1 :: tl := by
    subst hy
    cases hf : (x1 :: tl).find? fun x => decide (T.last < placeT T.L x.1) with
    | none => exact List.mem_cons_self ..
    | some z => exact List.mem_of_find?_eq_some hf
  have hyw := canT_wf hok (rot_mem (hrot ▸ hyr))
  have hok' := Ok_last hok y.1
  have hl0 := hok.l0
  rw [next_at hrot hy]
  obtain ⟨S', h', HS⟩ := h.old
  have H := Lib.hid h'
  have OK' := Lib.hid hok'
  have HY := Lib.hid hy
  have RW := Lib.hid fun x (hx : x ∈ x1 :: tl) => canT_wf hok (rot_mem (hrot ▸ hx))
  have PL := Lib.hid fun x => placeT_le hok x
  have hlen := canT_len hok
  rw [hk] at hlen
  have hRl : (x1 :: tl).length = k + 1 := by rw [← hrot, rot_len, hk]
  cases hw : waitsB T.L with
  | false =>
    rw [rot_no hw, hrot] at K
    rw [hRl] at K
    obtain ⟨z, hz⟩ : ∃ z, (x1 :: tl)[k]? = some z := ⟨_, List.getElem?_eq_getElem (by omega)⟩
    have hzn : ¬ z.1 = -1 := by
      have h1 := List.mem_of_getElem? hz
      rw [← hrot] at h1
      unfold rotT at h1
      rw [hw] at h1
      have := canR_nn hok (by simpa using h1)
      omega
    have HZ := Lib.hid hz
    have HRL := Lib.hid hRl
    clear hw hrot hc h hok h' hok' hy hyr hk hz HT hRl
    obtain ⟨R, hR⟩ : ∃ R, R = x1 :: tl := ⟨_, rfl⟩
    have HR1 := Lib.hid hR
    rw [← hR] at K HZ HRL RW HY
    clear hR
    go_enter Try.func32, Try.ntmps32
    go_wp2_with fail
    refine K.out.mono ?_
    rintro e w1 ⟨v, rfl, ho, hb⟩
    obtain ⟨A, c, rfl⟩ := ho.form
    obtain ⟨b, rfl, -, -, -, -⟩ := ho.cells (by omega)
    obtain ⟨hbl, hbc, y0, y1⟩ := turn_at (OwnR.rr ho (by omega)) HRL.out HZ.out
    have HRR := Lib.hid (OwnR.rr ho (by omega))
    have HM0 := Lib.hid (Mut.of_ext (S := S') (Ext.trans x0 hb))
    have HR0 := Lib.hid (Ext.blk hb hg0)
    have Q0 := Lib.hid (H.out.ext (Ext.trans x0 hb))
    clear ho hb hg0 K x0 H y1
    go_upto_region 9 with fail
    clear y0 hbl hbc
    have hz0 : (z.1 == -1) = false := by simp [hzn]
    rw [hz0]
    clear hz0
    have hk0 : ((k : Int) + 1 == 0) = false := by simp; omega
    (try rw [hk0])
    clear hk0
    obtain ⟨hbl, hbc, f0, f1⟩ := turn_at HRR.out HRL.out (k := 0) (z := x1) (by rw [HR1.out]; rfl)
    simp only [Nat.zero_mul, Nat.zero_add] at f0 f1
    go_wp2
    have hE := extAl w1 (.cells #[.int .i64 x1.1, .int .u8 x1.2] 64)
    have HR6 := Lib.hid (heap_alloc_last w1 (.cells #[.int .i64 x1.1, .int .u8 x1.2] 64))
    have HRx := Lib.hid (Ext.blk hE HR0.out)
    have HRR' := Lib.hid (HRR.out.ext hE)
    have HM := Lib.hid (HM0.out.trans (Mut.of_ext hE))
    have Q := Lib.hid (Q0.out.ext hE)
    have zr := heap_lt HR0.out
    have zb := Nat.lt_of_lt_of_le hbl (Below.size hE)
    clear hE HR0 HRR HM0 Q0 f0 f1 hbl
    generalize w1.alloc (.cells #[.int .i64 x1.1, .int .u8 x1.2] 64) = V6 at *
    generalize w1.heap.size = r6 at *
    go_loopg [41] (k + 1) (fun gg s wr => ∃ j : Nat, j ≤ k + 1 ∧ k + 1 - j ≤ gg ∧ s = .int .i64 j ∧ Hid (Ext V6 wr) ∧ Hid (∀ y ∈ R.take j, decide (T.last < placeT T.L y.1) = false))
    case atStart => exact ⟨0, by omega, by omega, rfl, Lib.hid (Ext.refl _), Lib.hid (by simp)⟩
    case round =>
      obtain ⟨j, hj, hg, rfl, HE, HF⟩ := hrel
      by_cases hlt : j < k + 1
      · obtain ⟨x, hx⟩ : ∃ x, R[j]? = some x := ⟨_, List.getElem?_eq_getElem (by have := HRL.out; omega)⟩
        have HX := Lib.hid hx
        obtain ⟨hbl, hbc, f0, f1⟩ := turn_at (HRR'.out.ext HE.out) HRL.out hx
        have hxm := List.mem_of_getElem? hx
        have MEM := Lib.hid hxm
        have hwz := RW.out x hxm
        have hwf := wf_i64 hwz.1 hwz.2
        clear hx hxm hwz
        go_wp2
        have HR8 := Lib.hid (heap_alloc_last wr (.cells #[.int .i64 x.1, .int .u8 x.2] 64))
        have HE8 := Lib.hid (Ext.trans HE.out (extAl wr (.cells #[.int .i64 x.1, .int .u8 x.2] 64)))
        have z8 := Below.size HE.out
        have z6 := heap_lt HR6.out
        clear f0 f1 hbl HE
        generalize wr.alloc (.cells #[.int .i64 x.1, .int .u8 x.2] 64) = V8 at *
        generalize wr.heap.size = r8 at *
        have Q8 := Lib.hid (Q.out.ext HE8.out)
        have LL := Lib.hid fun w' (hw' : Ext V8 w') => ((Q8.out.ext hw').pl.look (P := Try.prog) false (t := 104) Try.underlying104 Try.underlying3 (zero_int w') hwf).trans (by rw [if_neg (by decide), plF_val])
        obtain ⟨-, -, c2, -, c4, -, gl⟩ := blk5 Q8.out.hg
        obtain ⟨u0, -, -, ul⟩ := blk2 HR8.out
        have e0 := fun (ψ : World → Prop) (e : ExtP V8.heap.size V8 ψ) => e.cell c2 gl
        have e1 := fun (ψ : World → Prop) (e : ExtP V8.heap.size V8 ψ) => e.cell c4 gl
        have e2 := fun (ψ : World → Prop) (e : ExtP V8.heap.size V8 ψ) => e.cell u0 ul
        have hpp := PL.out x.1
        clear c2 c4 gl u0 ul
        obtain ⟨p, hp⟩ : ∃ p, p = placeT T.L x.1 := ⟨_, rfl⟩
        have HP0 := Lib.hid hp
        rw [← hp] at LL hpp
        clear hp
        by_cases hgt : T.last < p
        · refine wp_region_pieces 12  [(true, [0, 1, 2, 3, 4, 5, 6, 7, 8, 9, 10, 11])] (by kernel_rfl) (by kernel_rfl) ?_; simp only [pick, List.map_cons, List.map_nil, List.flatMap_cons, List.flatMap_nil, Option.toList_some, List.singleton_append, List.drop_succ_cons, List.drop_zero, List.getElem?_cons_zero, List.getElem?_cons_succ]
          refine ⟨by kernel_rfl, ?_⟩; apply Exists.intro; refine ⟨fun ψ hψ hne => (by (repeat (first | ( go_big_quiet_want; refine quiet_lk 104 (.tmp 48) (.tmp 50) false rfl (fun w' hw' => LL.out w' (ext_in hw')) ?_; go_simp; go_big_quiet_on ) | go_big_quiet_step ((  fail )))); exact wpQuiet_nil rfl), ?_⟩
          intro w3 h3
          clear e0 e1 e2 LL
          obtain ⟨g0, g1, gf, gl⟩ := blk2 (Ext.blk h3 HR8.out)
          have hr6 := Ext.blk h3 (Ext.blk HE8.out HR6.out)
          obtain ⟨k0, k1, kf, kl⟩ := blk2 hr6
          have n68 : ¬ r6 = r8 := by omega
          have ST6 := Lib.hid (set2_01 (.int .i64 x.1) (.int .u8 x.2) hr6)
          have HYZ : Hid (y = x) := Lib.hid (by
            rw [← HY.out, find_take HX.out (by rw [← HP0.out]; simpa using hgt) HF.out]
            rfl)
          have HR6' := Lib.hid (setRow_heap w3 r6 _ #[.int .i64 x.1, .int .u8 x.2] _ _ hr6)
          have m6 := mut_setRow (S := fun i => w.heap.size ≤ i) (w := w3) (Nat.le_of_lt zr) #[.int .i64 x.1, .int .u8 x.2]
          have HRx' := Lib.hid ((setRow_other w3 r6 w.heap.size #[.int .i64 x.1, .int .u8 x.2] (by omega)).trans (Ext.blk h3 (Ext.blk HE8.out HRx.out)))
          have Q9 := Lib.hid ((Q8.out.ext h3).mutw m6 fun i hi hB => by have := (HS.out i hi).2; omega)
          have HM9 := Lib.hid ((HM.out.trans (Mut.of_ext (Ext.trans HE8.out h3))).thenM m6 (fun i hi => hi))
          clear hr6 m6 h3 HE8 HR8 Q8 Q HM HRx HR6 HRR' HF HX hpp hgt HP0
          go_upto_region 16 with fail
          rw [ST6.out]
          clear ST6 g0 g1 gf gl k0 k1 kf kl
          generalize w3.setRow r6 #[.int .i64 x.1, .int .u8 x.2] = W9 at *
          have Q := Q9
          have HM := HM9
          have HR6 := HR6'
          have HRx := HRx'
          clear Q9 HM9 HR6' HRx' hwf
          have OKz : Hid (TK.Ok { T with last := placeT T.L x.1 }) := by rw [← HYZ.out]; exact OK'
          obtain ⟨-, -, c2, -, -, -, gl⟩ := blk5 Q.out.hg
          obtain ⟨u0, -, -, ul⟩ := blk2 HR6.out
          have hwz := RW.out x MEM.out
          have hwf := wf_i64 hwz.1 hwz.2
          have LL := Lib.hid fun w' (hw' : Ext W9 w') => ((Q.out.ext hw').pl.look (P := Try.prog) false (t := 104) Try.underlying104 Try.underlying3 (zero_int w') hwf).trans (by rw [if_neg (by decide), plF_val])
          have e0 := fun (ψ : World → Prop) (e : ExtP W9.heap.size W9 ψ) => e.cell c2 gl
          have e1 := fun (ψ : World → Prop) (e : ExtP W9.heap.size W9 ψ) => e.cell u0 ul
          clear c2 u0 gl ul OK'
          generalize hpl : placeT T.L x.1 = pl at *
          have HP := Lib.hid hpl
          clear hpl
          refine wp_region_pieces 10  [(true, [0, 1, 2, 3, 4, 5, 6, 7, 8, 9])] (by kernel_rfl) (by kernel_rfl) ?_; simp only [pick, List.map_cons, List.map_nil, List.flatMap_cons, List.flatMap_nil, Option.toList_some, List.singleton_append, List.drop_succ_cons, List.drop_zero, List.getElem?_cons_zero, List.getElem?_cons_succ]
          refine ⟨by kernel_rfl, ?_⟩; apply Exists.intro; refine ⟨fun ψ hψ hne => (by (repeat (first | ( go_big_quiet_want; refine quiet_lk 104 (.tmp 63) (.tmp 65) false rfl (fun w' hw' => LL.out w' (ext_in hw')) ?_; go_simp; go_big_quiet_on ) | go_big_quiet_step ((  fail )))); exact wpQuiet_nil rfl), ?_⟩
          intro w3 h3
          clear e0 e1 LL
          have q3 := Q.out.ext h3
          have hr3 := Ext.blk h3 HRx.out
          have hr73 := Ext.blk h3 HR6.out
          obtain ⟨-, -, -, -, c4, cf, cl⟩ := blk5 q3.hg
          obtain ⟨d0, d1, df, dl⟩ := blk2 hr3
          obtain ⟨u0, u1, uf, ul⟩ := blk2 hr73
          have hgl := (HS.out g q3.sg).2
          have n1 : ¬ g = w.heap.size := by omega
          have n2 : ¬ g = r6 := by omega
          have n3 : ¬ w.heap.size = r6 := by omega
          have ST4 := Lib.hid (set5_4 (.int .i64 pl) q3.hg)
          obtain ⟨q4, m4⟩ := q3.cells' T.cnt pl
          have hr4 := (setRow_other w3 g w.heap.size #[.pointer (some ⟨tg, 0, none⟩), .map (some ms), .map (some mp), .int .i64 T.cnt, .int .i64 pl] (Ne.symm n1)).trans hr3
          have ST5 := Lib.hid (set2_01 (.int .i64 x.1) (.int .u8 x.2) hr4)
          have m5 := mut_setRow (S := fun i => w.heap.size ≤ i) (w := w3.setRow g #[.pointer (some ⟨tg, 0, none⟩), .map (some ms), .map (some mp), .int .i64 T.cnt, .int .i64 pl]) (Nat.le_refl _) #[.int .i64 x.1, .int .u8 x.2]
          have q5 := q4.mutw m5 fun i hi hB => by have := (HS.out i hi).2; omega
          have F := Lib.hid (To.of_old (T := { T with last := pl }) HS.out q5 (((HM.out.trans (Mut.of_ext h3)).trans m4).thenM m5 (fun i hi => hi)) OKz.out)
          obtain ⟨v0, v1, -, -⟩ := blk2 (setRow_heap _ _ _ #[.int .i64 x.1, .int .u8 x.2] _ _ hr4)
          have V0 := Lib.hid v0
          have V1 := Lib.hid v1
          clear q3 hr3 hr73 q4 m4 hr4 m5 q5 h3 v0 v1 Q HRx HR6 HM
          go_wp2
          rw [ST4.out, ST5.out]
          have v0 := V0.out
          have v1 := V1.out
          exact bodyPost_ret (v := .tuple #[tnV x, .int .i64 0]) (by simp [results, Try.results32, go_sem, v0, v1, tnV]) rfl ⟨by rw [HYZ.out], by rw [HYZ.out, HP.out]; exact F.out⟩
        · refine wp_region_pieces 12  [(true, [0, 1, 2, 3, 4, 5, 6, 7, 8, 9, 10, 11])] (by kernel_rfl) (by kernel_rfl) ?_; simp only [pick, List.map_cons, List.map_nil, List.flatMap_cons, List.flatMap_nil, Option.toList_some, List.singleton_append, List.drop_succ_cons, List.drop_zero, List.getElem?_cons_zero, List.getElem?_cons_succ]
          refine ⟨by kernel_rfl, ?_⟩; apply Exists.intro; refine ⟨fun ψ hψ hne => (by (repeat (first | ( go_big_quiet_want; refine quiet_lk 104 (.tmp 48) (.tmp 50) false rfl (fun w' hw' => LL.out w' (ext_in hw')) ?_; go_simp; go_big_quiet_on ) | go_big_quiet_step ((  fail )))); exact wpQuiet_nil rfl), ?_⟩
          intro w3 h3
          clear e0 e1 e2 LL
          have HE9 := Lib.hid (Ext.trans HE8.out h3)
          have HF9 : Hid (∀ y ∈ R.take (j + 1), decide (T.last < placeT T.L y.1) = false) := Lib.hid fun y hy => by
            rw [List.take_add_one, HX.out] at hy
            rcases List.mem_append.1 hy with hy | hy
            · exact HF.out y hy
            · have hy : y = x := by simpa using hy
              rw [hy, ← HP0.out]
              simpa using hgt
          clear h3 HE8
          go_wp2
          go_roundg (k + 1 - (j + 1))
          case measure => omega
          case rel => exact ⟨j + 1, by omega, by omega, by go_num, HE9, HF9⟩
      · have MEM : Hid (x1 ∈ x1 :: tl) := Lib.hid (List.mem_cons_self ..)
        rw [← HR1.out] at MEM
        have HYZ : Hid (y = x1) := Lib.hid (by
          have h1 : j = k + 1 := by omega
          have h2 := HF.out
          rw [h1, ← HRL.out, List.take_length] at h2
          rw [← HY.out, List.find?_eq_none.2 (fun z hz => by simp [h2 z hz])]
          rfl)
        have HQ := Lib.hid (Q.out.ext HE.out)
        have HM' := Lib.hid (HM.out.trans (Mut.of_ext HE.out))
        have HR6' := Lib.hid (Ext.blk HE.out HR6.out)
        have HRx' := Lib.hid (Ext.blk HE.out HRx.out)
        clear Q HM HR6 HRx HF HE
        have Q := HQ
        have HM := HM'
        have HR6 := HR6'
        have HRx := HRx'
        clear HQ HM' HR6' HRx' HRR'
        go_upto_region 16 with fail
        have OKz : Hid (TK.Ok { T with last := placeT T.L x1.1 }) := by rw [← HYZ.out]; exact OK'
        obtain ⟨-, -, c2, -, -, -, gl⟩ := blk5 Q.out.hg
        obtain ⟨u0, -, -, ul⟩ := blk2 HR6.out
        have hwz := RW.out x1 MEM.out
        have hwf := wf_i64 hwz.1 hwz.2
        have LL := Lib.hid fun w' (hw' : Ext wr w') => ((Q.out.ext hw').pl.look (P := Try.prog) false (t := 104) Try.underlying104 Try.underlying3 (zero_int w') hwf).trans (by rw [if_neg (by decide), plF_val])
        have e0 := fun (ψ : World → Prop) (e : ExtP wr.heap.size wr ψ) => e.cell c2 gl
        have e1 := fun (ψ : World → Prop) (e : ExtP wr.heap.size wr ψ) => e.cell u0 ul
        clear c2 u0 gl ul OK'
        generalize hpl : placeT T.L x1.1 = pl at *
        have HP := Lib.hid hpl
        clear hpl
        refine wp_region_pieces 10  [(true, [0, 1, 2, 3, 4, 5, 6, 7, 8, 9])] (by kernel_rfl) (by kernel_rfl) ?_; simp only [pick, List.map_cons, List.map_nil, List.flatMap_cons, List.flatMap_nil, Option.toList_some, List.singleton_append, List.drop_succ_cons, List.drop_zero, List.getElem?_cons_zero, List.getElem?_cons_succ]
        refine ⟨by kernel_rfl, ?_⟩; apply Exists.intro; refine ⟨fun ψ hψ hne => (by (repeat (first | ( go_big_quiet_want; refine quiet_lk 104 (.tmp 63) (.tmp 65) false rfl (fun w' hw' => LL.out w' (ext_in hw')) ?_; go_simp; go_big_quiet_on ) | go_big_quiet_step ((  fail )))); exact wpQuiet_nil rfl), ?_⟩
        intro w3 h3
        clear e0 e1 LL
        have q3 := Q.out.ext h3
        have hr3 := Ext.blk h3 HRx.out
        have hr73 := Ext.blk h3 HR6.out
        obtain ⟨-, -, -, -, c4, cf, cl⟩ := blk5 q3.hg
        obtain ⟨d0, d1, df, dl⟩ := blk2 hr3
        obtain ⟨u0, u1, uf, ul⟩ := blk2 hr73
        have hgl := (HS.out g q3.sg).2
        have n1 : ¬ g = w.heap.size := by omega
        have n2 : ¬ g = r6 := by omega
        have n3 : ¬ w.heap.size = r6 := by omega
        have ST4 := Lib.hid (set5_4 (.int .i64 pl) q3.hg)
        obtain ⟨q4, m4⟩ := q3.cells' T.cnt pl
        have hr4 := (setRow_other w3 g w.heap.size #[.pointer (some ⟨tg, 0, none⟩), .map (some ms), .map (some mp), .int .i64 T.cnt, .int .i64 pl] (Ne.symm n1)).trans hr3
        have ST5 := Lib.hid (set2_01 (.int .i64 x1.1) (.int .u8 x1.2) hr4)
        have m5 := mut_setRow (S := fun i => w.heap.size ≤ i) (w := w3.setRow g #[.pointer (some ⟨tg, 0, none⟩), .map (some ms), .map (some mp), .int .i64 T.cnt, .int .i64 pl]) (Nat.le_refl _) #[.int .i64 x1.1, .int .u8 x1.2]
        have q5 := q4.mutw m5 fun i hi hB => by have := (HS.out i hi).2; omega
        have F := Lib.hid (To.of_old (T := { T with last := pl }) HS.out q5 (((HM.out.trans (Mut.of_ext h3)).trans m4).thenM m5 (fun i hi => hi)) OKz.out)
        obtain ⟨v0, v1, -, -⟩ := blk2 (setRow_heap _ _ _ #[.int .i64 x1.1, .int .u8 x1.2] _ _ hr4)
        have V0 := Lib.hid v0
        have V1 := Lib.hid v1
        clear q3 hr3 hr73 q4 m4 hr4 m5 q5 h3 v0 v1 Q HRx HR6 HM
        go_wp2
        rw [ST4.out, ST5.out]
        have v0 := V0.out
        have v1 := V1.out
        exact bodyPost_ret (v := .tuple #[tnV x1, .int .i64 0]) (by simp [results, Try.results32, go_sem, v0, v1, tnV]) rfl ⟨by rw [HYZ.out], by rw [HYZ.out, HP.out]; exact F.out⟩
  | true =>
    obtain ⟨hr1, hr2⟩ := rot_yes hw
    rw [hrot] at hr2
    have hM : tl = canR T.L := (List.cons.inj hr2).2
    have hx1 : x1 = (-1, 2) := (List.cons.inj hr2).1
    rw [hr1, ← hM] at K hk
    rw [hk] at K
    have hkl : tl.length = k := by simpa using hk
    have HRL := Lib.hid hRl
    have HKL := Lib.hid hkl
    clear hw hrot hc h hok h' hok' hy hyr hk HT hRl hr1 hr2 hM hkl
    obtain ⟨R, hR⟩ : ∃ R, R = x1 :: tl := ⟨_, rfl⟩
    have HR1 := Lib.hid hR
    rw [← hR] at HRL RW HY
    clear hR
    have HX1 := Lib.hid hx1
    clear hx1
    go_enter Try.func32, Try.ntmps32
    go_wp2_with fail
    refine K.out.mono ?_
    rintro e w1 ⟨v, rfl, ho, hb⟩
    obtain ⟨A, c, rfl⟩ := ho.form
    obtain ⟨b, rfl, -, -, -, -⟩ := ho.cells (by omega)
    have hLL : (tl ++ [((-1 : Int), (2 : Int))]).length = k + 1 := by rw [List.length_append, HKL.out]; rfl
    obtain ⟨hbl, hbc, y0, y1⟩ := turn_at (R := tl ++ [(-1, 2)]) (k := k) (z := (-1, 2)) (OwnR.rr ho (by omega)) hLL (by rw [List.getElem?_append_right (by rw [HKL.out]; exact Nat.le_refl _), HKL.out]; simp)
    have HRR := Lib.hid (OwnR.rr ho (by omega))
    have HM0 := Lib.hid (Mut.of_ext (S := S') (Ext.trans x0 hb))
    have HR0 := Lib.hid (Ext.blk hb hg0)
    have Q0 := Lib.hid (H.out.ext (Ext.trans x0 hb))
    have HLL := Lib.hid hLL
    have e0 := fun (ψ : World → Prop) (e : ExtP w1.heap.size w1 ψ) => e.cell y0 hbl
    have e1 := fun (ψ : World → Prop) (e : ExtP w1.heap.size w1 ψ) => e.cell y1 hbl
    clear ho hb hg0 K x0 H hLL
    simp only at y0 y1 e0 e1
    go_upto_region 8 with fail
    clear y0 y1
    refine wp_region_pieces 8  [(true, [0, 1, 2, 3, 5, 6, 7]), (false, [4])] (by kernel_rfl) (by kernel_rfl) ?_; simp only [pick, List.map_cons, List.map_nil, List.flatMap_cons, List.flatMap_nil, Option.toList_some, List.singleton_append, List.drop_succ_cons, List.drop_zero, List.getElem?_cons_zero, List.getElem?_cons_succ]
    refine ⟨by kernel_rfl, ?_⟩; apply Exists.intro; refine ⟨fun ψ hψ hne => (by (repeat (go_big_quiet_step (( fail )))); exact wpQuiet_nil rfl), ?_⟩
    intro W0 h0 K hK
    clear e0 e1
    go_wp2_with fail
    refine hK _ _ (extAl _ _) ?_
    intro W1 h01
    clear hK K
    have hE1 := Ext.trans (Ext.trans h0 (extAl W0 (.cells #[.int .i64 (-1), .int .u8 2] 64))) h01
    have hown := own_turn1 (-1, 2) (Ext.blk h01 (heap_alloc_last W0 (.cells #[.int .i64 (-1), .int .u8 2] 64))) (Nat.le_refl _)
    have hsrc := (turn_take (HRR.out.ext hE1) HKL.out).src (P := Try.prog) (tx := 67) Try.underlying67 (tncs_one tl)
    have z0 := Below.size h0
    have z1 := Below.size h01
    simp only [World.size_alloc] at z1
    obtain ⟨v', W2, hr, ho2, hb2, -, -⟩ := app_turn (ty := 67) hown hsrc (by omega) (tncs_one tl) (by omega)
    have hE2 : Ext w1 W2 := Below.trans hE1 (hb2.mono z0)
    have hcs : tnC (-1, 2) ++ tncs tl = tncs R := by
      rw [HR1.out, HX1.out]
      rfl
    rw [hcs, show 1 + k = k + 1 by omega] at ho2
    obtain ⟨A', c', rfl⟩ := ho2.form
    obtain ⟨b', rfl, -, -, -, -⟩ := ho2.cells (by omega)
    have HRR' := Lib.hid (OwnR.rr ho2 (by omega))
    have HM1 := Lib.hid (HM0.out.trans (Mut.of_ext hE2))
    have HR2 := Lib.hid (Ext.blk hE2 HR0.out)
    have Q1 := Lib.hid (Q0.out.ext hE2)
    have Hr := Lib.hid hr
    clear HRR HM0 HR0 Q0 hE1 hown hsrc z0 z1 hr ho2 hb2 hE2 hcs h0 h01 hbl hbc
    have HRR := HRR'
    have HM0 := HM1
    have HR0 := HR2
    have Q0 := Q1
    clear HRR' HM1 HR2 Q1
    go_upto_region 9 with (at_builtin; refine wpList_app rfl (.tmp 31) (.tmp 34) 67 67 rfl Hr.out ?_; simp only [Act.put])
    clear Hr
    have hk0 : ((k : Int) + 1 == 0) = false := by simp; omega
    (try rw [hk0])
    clear hk0
    obtain ⟨hbl, hbc, f0, f1⟩ := turn_at HRR.out HRL.out (k := 0) (z := x1) (by rw [HR1.out]; rfl)
    simp only [Nat.zero_mul, Nat.zero_add] at f0 f1
    go_wp2
    have hE := extAl W2 (.cells #[.int .i64 x1.1, .int .u8 x1.2] 64)
    have HR6 := Lib.hid (heap_alloc_last W2 (.cells #[.int .i64 x1.1, .int .u8 x1.2] 64))
    have HRx := Lib.hid (Ext.blk hE HR0.out)
    have HRR' := Lib.hid (HRR.out.ext hE)
    have HM := Lib.hid (HM0.out.trans (Mut.of_ext hE))
    have Q := Lib.hid (Q0.out.ext hE)
    have zr := heap_lt HR0.out
    have zb := Nat.lt_of_lt_of_le hbl (Below.size hE)
    clear hE HR0 HRR HM0 Q0 f0 f1 hbl
    generalize W2.alloc (.cells #[.int .i64 x1.1, .int .u8 x1.2] 64) = V6 at *
    generalize W2.heap.size = r6 at *
    go_loopg [41] (k + 1) (fun gg s wr => ∃ j : Nat, j ≤ k + 1 ∧ k + 1 - j ≤ gg ∧ s = .int .i64 j ∧ Hid (Ext V6 wr) ∧ Hid (∀ y ∈ R.take j, decide (T.last < placeT T.L y.1) = false))
    case atStart => exact ⟨0, by omega, by omega, rfl, Lib.hid (Ext.refl _), Lib.hid (by simp)⟩
    case round =>
      obtain ⟨j, hj, hg, rfl, HE, HF⟩ := hrel
      by_cases hlt : j < k + 1
      · obtain ⟨x, hx⟩ : ∃ x, R[j]? = some x := ⟨_, List.getElem?_eq_getElem (by have := HRL.out; omega)⟩
        have HX := Lib.hid hx
        obtain ⟨hbl, hbc, f0, f1⟩ := turn_at (HRR'.out.ext HE.out) HRL.out hx
        have hxm := List.mem_of_getElem? hx
        have MEM := Lib.hid hxm
        have hwz := RW.out x hxm
        have hwf := wf_i64 hwz.1 hwz.2
        clear hx hxm hwz
        go_wp2
        have HR8 := Lib.hid (heap_alloc_last wr (.cells #[.int .i64 x.1, .int .u8 x.2] 64))
        have HE8 := Lib.hid (Ext.trans HE.out (extAl wr (.cells #[.int .i64 x.1, .int .u8 x.2] 64)))
        have z8 := Below.size HE.out
        have z6 := heap_lt HR6.out
        clear f0 f1 hbl HE
        generalize wr.alloc (.cells #[.int .i64 x.1, .int .u8 x.2] 64) = V8 at *
        generalize wr.heap.size = r8 at *
        have Q8 := Lib.hid (Q.out.ext HE8.out)
        have LL := Lib.hid fun w' (hw' : Ext V8 w') => ((Q8.out.ext hw').pl.look (P := Try.prog) false (t := 104) Try.underlying104 Try.underlying3 (zero_int w') hwf).trans (by rw [if_neg (by decide), plF_val])
        obtain ⟨-, -, c2, -, c4, -, gl⟩ := blk5 Q8.out.hg
        obtain ⟨u0, -, -, ul⟩ := blk2 HR8.out
        have e0 := fun (ψ : World → Prop) (e : ExtP V8.heap.size V8 ψ) => e.cell c2 gl
        have e1 := fun (ψ : World → Prop) (e : ExtP V8.heap.size V8 ψ) => e.cell c4 gl
        have e2 := fun (ψ : World → Prop) (e : ExtP V8.heap.size V8 ψ) => e.cell u0 ul
        have hpp := PL.out x.1
        clear c2 c4 gl u0 ul
        obtain ⟨p, hp⟩ : ∃ p, p = placeT T.L x.1 := ⟨_, rfl⟩
        have HP0 := Lib.hid hp
        rw [← hp] at LL hpp
        clear hp
        by_cases hgt : T.last < p
        · refine wp_region_pieces 12  [(true, [0, 1, 2, 3, 4, 5, 6, 7, 8, 9, 10, 11])] (by kernel_rfl) (by kernel_rfl) ?_; simp only [pick, List.map_cons, List.map_nil, List.flatMap_cons, List.flatMap_nil, Option.toList_some, List.singleton_append, List.drop_succ_cons, List.drop_zero, List.getElem?_cons_zero, List.getElem?_cons_succ]
          refine ⟨by kernel_rfl, ?_⟩; apply Exists.intro; refine ⟨fun ψ hψ hne => (by (repeat (first | ( go_big_quiet_want; refine quiet_lk 104 (.tmp 48) (.tmp 50) false rfl (fun w' hw' => LL.out w' (ext_in hw')) ?_; go_simp; go_big_quiet_on ) | go_big_quiet_step ((  fail )))); exact wpQuiet_nil rfl), ?_⟩
          intro w3 h3
          clear e0 e1 e2 LL
          obtain ⟨g0, g1, gf, gl⟩ := blk2 (Ext.blk h3 HR8.out)
          have hr6 := Ext.blk h3 (Ext.blk HE8.out HR6.out)
          obtain ⟨k0, k1, kf, kl⟩ := blk2 hr6
          have n68 : ¬ r6 = r8 := by omega
          have ST6 := Lib.hid (set2_01 (.int .i64 x.1) (.int .u8 x.2) hr6)
          have HYZ : Hid (y = x) := Lib.hid (by
            rw [← HY.out, find_take HX.out (by rw [← HP0.out]; simpa using hgt) HF.out]
            rfl)
          have HR6' := Lib.hid (setRow_heap w3 r6 _ #[.int .i64 x.1, .int .u8 x.2] _ _ hr6)
          have m6 := mut_setRow (S := fun i => w.heap.size ≤ i) (w := w3) (Nat.le_of_lt zr) #[.int .i64 x.1, .int .u8 x.2]
          have HRx' := Lib.hid ((setRow_other w3 r6 w.heap.size #[.int .i64 x.1, .int .u8 x.2] (by omega)).trans (Ext.blk h3 (Ext.blk HE8.out HRx.out)))
          have Q9 := Lib.hid ((Q8.out.ext h3).mutw m6 fun i hi hB => by have := (HS.out i hi).2; omega)
          have HM9 := Lib.hid ((HM.out.trans (Mut.of_ext (Ext.trans HE8.out h3))).thenM m6 (fun i hi => hi))
          clear hr6 m6 h3 HE8 HR8 Q8 Q HM HRx HR6 HRR' HF HX hpp hgt HP0
          go_upto_region 16 with fail
          rw [ST6.out]
          clear ST6 g0 g1 gf gl k0 k1 kf kl
          generalize w3.setRow r6 #[.int .i64 x.1, .int .u8 x.2] = W9 at *
          have Q := Q9
          have HM := HM9
          have HR6 := HR6'
          have HRx := HRx'
          clear Q9 HM9 HR6' HRx' hwf
          have OKz : Hid (TK.Ok { T with last := placeT T.L x.1 }) := by rw [← HYZ.out]; exact OK'
          obtain ⟨-, -, c2, -, -, -, gl⟩ := blk5 Q.out.hg
          obtain ⟨u0, -, -, ul⟩ := blk2 HR6.out
          have hwz := RW.out x MEM.out
          have hwf := wf_i64 hwz.1 hwz.2
          have LL := Lib.hid fun w' (hw' : Ext W9 w') => ((Q.out.ext hw').pl.look (P := Try.prog) false (t := 104) Try.underlying104 Try.underlying3 (zero_int w') hwf).trans (by rw [if_neg (by decide), plF_val])
          have e0 := fun (ψ : World → Prop) (e : ExtP W9.heap.size W9 ψ) => e.cell c2 gl
          have e1 := fun (ψ : World → Prop) (e : ExtP W9.heap.size W9 ψ) => e.cell u0 ul
          clear c2 u0 gl ul OK'
          generalize hpl : placeT T.L x.1 = pl at *
          have HP := Lib.hid hpl
          clear hpl
          refine wp_region_pieces 10  [(true, [0, 1, 2, 3, 4, 5, 6, 7, 8, 9])] (by kernel_rfl) (by kernel_rfl) ?_; simp only [pick, List.map_cons, List.map_nil, List.flatMap_cons, List.flatMap_nil, Option.toList_some, List.singleton_append, List.drop_succ_cons, List.drop_zero, List.getElem?_cons_zero, List.getElem?_cons_succ]
          refine ⟨by kernel_rfl, ?_⟩; apply Exists.intro; refine ⟨fun ψ hψ hne => (by (repeat (first | ( go_big_quiet_want; refine quiet_lk 104 (.tmp 63) (.tmp 65) false rfl (fun w' hw' => LL.out w' (ext_in hw')) ?_; go_simp; go_big_quiet_on ) | go_big_quiet_step ((  fail )))); exact wpQuiet_nil rfl), ?_⟩
          intro w3 h3
          clear e0 e1 LL
          have q3 := Q.out.ext h3
          have hr3 := Ext.blk h3 HRx.out
          have hr73 := Ext.blk h3 HR6.out
          obtain ⟨-, -, -, -, c4, cf, cl⟩ := blk5 q3.hg
          obtain ⟨d0, d1, df, dl⟩ := blk2 hr3
          obtain ⟨u0, u1, uf, ul⟩ := blk2 hr73
          have hgl := (HS.out g q3.sg).2
          have n1 : ¬ g = w.heap.size := by omega
          have n2 : ¬ g = r6 := by omega
          have n3 : ¬ w.heap.size = r6 := by omega
          have ST4 := Lib.hid (set5_4 (.int .i64 pl) q3.hg)
          obtain ⟨q4, m4⟩ := q3.cells' T.cnt pl
          have hr4 := (setRow_other w3 g w.heap.size #[.pointer (some ⟨tg, 0, none⟩), .map (some ms), .map (some mp), .int .i64 T.cnt, .int .i64 pl] (Ne.symm n1)).trans hr3
          have ST5 := Lib.hid (set2_01 (.int .i64 x.1) (.int .u8 x.2) hr4)
          have m5 := mut_setRow (S := fun i => w.heap.size ≤ i) (w := w3.setRow g #[.pointer (some ⟨tg, 0, none⟩), .map (some ms), .map (some mp), .int .i64 T.cnt, .int .i64 pl]) (Nat.le_refl _) #[.int .i64 x.1, .int .u8 x.2]
          have q5 := q4.mutw m5 fun i hi hB => by have := (HS.out i hi).2; omega
          have F := Lib.hid (To.of_old (T := { T with last := pl }) HS.out q5 (((HM.out.trans (Mut.of_ext h3)).trans m4).thenM m5 (fun i hi => hi)) OKz.out)
          obtain ⟨v0, v1, -, -⟩ := blk2 (setRow_heap _ _ _ #[.int .i64 x.1, .int .u8 x.2] _ _ hr4)
          have V0 := Lib.hid v0
          have V1 := Lib.hid v1
          clear q3 hr3 hr73 q4 m4 hr4 m5 q5 h3 v0 v1 Q HRx HR6 HM
          go_wp2
          rw [ST4.out, ST5.out]
          have v0 := V0.out
          have v1 := V1.out
          exact bodyPost_ret (v := .tuple #[tnV x, .int .i64 0]) (by simp [results, Try.results32, go_sem, v0, v1, tnV]) rfl ⟨by rw [HYZ.out], by rw [HYZ.out, HP.out]; exact F.out⟩
        · refine wp_region_pieces 12  [(true, [0, 1, 2, 3, 4, 5, 6, 7, 8, 9, 10, 11])] (by kernel_rfl) (by kernel_rfl) ?_; simp only [pick, List.map_cons, List.map_nil, List.flatMap_cons, List.flatMap_nil, Option.toList_some, List.singleton_append, List.drop_succ_cons, List.drop_zero, List.getElem?_cons_zero, List.getElem?_cons_succ]
          refine ⟨by kernel_rfl, ?_⟩; apply Exists.intro; refine ⟨fun ψ hψ hne => (by (repeat (first | ( go_big_quiet_want; refine quiet_lk 104 (.tmp 48) (.tmp 50) false rfl (fun w' hw' => LL.out w' (ext_in hw')) ?_; go_simp; go_big_quiet_on ) | go_big_quiet_step ((  fail )))); exact wpQuiet_nil rfl), ?_⟩
          intro w3 h3
          clear e0 e1 e2 LL
          have HE9 := Lib.hid (Ext.trans HE8.out h3)
          have HF9 : Hid (∀ y ∈ R.take (j + 1), decide (T.last < placeT T.L y.1) = false) := Lib.hid fun y hy => by
            rw [List.take_add_one, HX.out] at hy
            rcases List.mem_append.1 hy with hy | hy
            · exact HF.out y hy
            · have hy : y = x := by simpa using hy
              rw [hy, ← HP0.out]
              simpa using hgt
          clear h3 HE8
          go_wp2
          go_roundg (k + 1 - (j + 1))
          case measure => omega
          case rel => exact ⟨j + 1, by omega, by omega, by go_num, HE9, HF9⟩
      · have MEM : Hid (x1 ∈ x1 :: tl) := Lib.hid (List.mem_cons_self ..)
        rw [← HR1.out] at MEM
        have HYZ : Hid (y = x1) := Lib.hid (by
          have h1 : j = k + 1 := by omega
          have h2 := HF.out
          rw [h1, ← HRL.out, List.take_length] at h2
          rw [← HY.out, List.find?_eq_none.2 (fun z hz => by simp [h2 z hz])]
          rfl)
        have HQ := Lib.hid (Q.out.ext HE.out)
        have HM' := Lib.hid (HM.out.trans (Mut.of_ext HE.out))
        have HR6' := Lib.hid (Ext.blk HE.out HR6.out)
        have HRx' := Lib.hid (Ext.blk HE.out HRx.out)
        clear Q HM HR6 HRx HF HE
        have Q := HQ
        have HM := HM'
        have HR6 := HR6'
        have HRx := HRx'
        clear HQ HM' HR6' HRx' HRR'
        go_upto_region 16 with fail
        have OKz : Hid (TK.Ok { T with last := placeT T.L x1.1 }) := by rw [← HYZ.out]; exact OK'
        obtain ⟨-, -, c2, -, -, -, gl⟩ := blk5 Q.out.hg
        obtain ⟨u0, -, -, ul⟩ := blk2 HR6.out
        have hwz := RW.out x1 MEM.out
        have hwf := wf_i64 hwz.1 hwz.2
        have LL := Lib.hid fun w' (hw' : Ext wr w') => ((Q.out.ext hw').pl.look (P := Try.prog) false (t := 104) Try.underlying104 Try.underlying3 (zero_int w') hwf).trans (by rw [if_neg (by decide), plF_val])
        have e0 := fun (ψ : World → Prop) (e : ExtP wr.heap.size wr ψ) => e.cell c2 gl
        have e1 := fun (ψ : World → Prop) (e : ExtP wr.heap.size wr ψ) => e.cell u0 ul
        clear c2 u0 gl ul OK'
        generalize hpl : placeT T.L x1.1 = pl at *
        have HP := Lib.hid hpl
        clear hpl
        refine wp_region_pieces 10  [(true, [0, 1, 2, 3, 4, 5, 6, 7, 8, 9])] (by kernel_rfl) (by kernel_rfl) ?_; simp only [pick, List.map_cons, List.map_nil, List.flatMap_cons, List.flatMap_nil, Option.toList_some, List.singleton_append, List.drop_succ_cons, List.drop_zero, List.getElem?_cons_zero, List.getElem?_cons_succ]
        refine ⟨by kernel_rfl, ?_⟩; apply Exists.intro; refine ⟨fun ψ hψ hne => (by (repeat (first | ( go_big_quiet_want; refine quiet_lk 104 (.tmp 63) (.tmp 65) false rfl (fun w' hw' => LL.out w' (ext_in hw')) ?_; go_simp; go_big_quiet_on ) | go_big_quiet_step ((  fail )))); exact wpQuiet_nil rfl), ?_⟩
        intro w3 h3
        clear e0 e1 LL
        have q3 := Q.out.ext h3
        have hr3 := Ext.blk h3 HRx.out
        have hr73 := Ext.blk h3 HR6.out
        obtain ⟨-, -, -, -, c4, cf, cl⟩ := blk5 q3.hg
        obtain ⟨d0, d1, df, dl⟩ := blk2 hr3
        obtain ⟨u0, u1, uf, ul⟩ := blk2 hr73
        have hgl := (HS.out g q3.sg).2
        have n1 : ¬ g = w.heap.size := by omega
        have n2 : ¬ g = r6 := by omega
        have n3 : ¬ w.heap.size = r6 := by omega
        have ST4 := Lib.hid (set5_4 (.int .i64 pl) q3.hg)
        obtain ⟨q4, m4⟩ := q3.cells' T.cnt pl
        have hr4 := (setRow_other w3 g w.heap.size #[.pointer (some ⟨tg, 0, none⟩), .map (some ms), .map (some mp), .int .i64 T.cnt, .int .i64 pl] (Ne.symm n1)).trans hr3
        have ST5 := Lib.hid (set2_01 (.int .i64 x1.1) (.int .u8 x1.2) hr4)
        have m5 := mut_setRow (S := fun i => w.heap.size ≤ i) (w := w3.setRow g #[.pointer (some ⟨tg, 0, none⟩), .map (some ms), .map (some mp), .int .i64 T.cnt, .int .i64 pl]) (Nat.le_refl _) #[.int .i64 x1.1, .int .u8 x1.2]
        have q5 := q4.mutw m5 fun i hi hB => by have := (HS.out i hi).2; omega
        have F := Lib.hid (To.of_old (T := { T with last := pl }) HS.out q5 (((HM.out.trans (Mut.of_ext h3)).trans m4).thenM m5 (fun i hi => hi)) OKz.out)
        obtain ⟨v0, v1, -, -⟩ := blk2 (setRow_heap _ _ _ #[.int .i64 x1.1, .int .u8 x1.2] _ _ hr4)
        have V0 := Lib.hid v0
        have V1 := Lib.hid v1
        clear q3 hr3 hr73 q4 m4 hr4 m5 q5 h3 v0 v1 Q HRx HR6 HM
        go_wp2
        rw [ST4.out, ST5.out]
        have v0 := V0.out
        have v1 := V1.out
        exact bodyPost_ret (v := .tuple #[tnV x1, .int .i64 0]) (by simp [results, Try.results32, go_sem, v0, v1, tnV]) rfl ⟨by rw [HYZ.out], by rw [HYZ.out, HP.out]; exact F.out⟩
end
end Go.Proofs.Ytiihlbaajopllaa
