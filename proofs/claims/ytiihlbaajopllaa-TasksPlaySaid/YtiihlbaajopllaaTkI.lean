/- Walks of tasks: Pick. -/
import Derived.Test.YtiihlbaajopllaaTkH
set_option linter.unusedVariables false
set_option maxRecDepth 100000
namespace Go.Proofs.Ytiihlbaajopllaa
open Go.RowKit Go.MapKept

def tnV (x : Tn) : Value := .agg #[.int .i64 x.1, .int .u8 x.2]
theorem blk2 {w : World} {g : Nat} {T : TypeId} {a b : Value} (h : w.heap[g]? = some (.cells #[a, b] T (0, 0))) :
    w.cell? ⟨g, 0, none⟩ = some a ∧ w.cell? ⟨g, 1, none⟩ = some b ∧ (∀ o, w.frozen? ⟨g, o, none⟩ = false) ∧ g < w.heap.size :=
  ⟨by simp [World.cell?, h], by simp [World.cell?, h], fun o => by simp [World.frozen?, h], heap_lt h⟩
theorem wrap_u64 (n : Int) : IntKind.u64.wrap n = n % 18446744073709551616 := by
  simp [IntKind.wrap, IntKind.bits, IntKind.signed]
theorem ext_in {w w' : World} {ψ : World → Prop} (h : ∃ e : ExtP w.heap.size w ψ, w' = e.val) : Ext w w' := by obtain ⟨e, rfl⟩ := h; exact e.ok
theorem set2_01 {w : World} {g : Nat} {T : TypeId} {a b : Value} (x y : Value) (k : w.heap[g]? = some (.cells #[a, b] T (0, 0))) : (w.setCell ⟨g, 0, none⟩ x).setCell ⟨g, 1, none⟩ y = w.setRow g #[x, y] := by
  rw [setCell_eq_setRow w g 0 _ T (0, 0) _ k]
  rw [setCell_eq_setRow _ g 1 _ T (0, 0) _ (setRow_heap _ _ _ _ _ _ k)]
  rw [setRow_setRow]
  rfl
theorem placeT_le {T : TK} (h : T.Ok) (n : Int) : 0 ≤ placeT T.L n ∧ placeT T.L n ≤ T.cnt := by
  unfold placeT
  split
  · rename_i e he
    have := h.pl e (findT_some he).1
    omega
  · exact ⟨Int.le_refl _, h.c0⟩
theorem plF_val (L : List Te) (a : Int) : (plF L a).getD (.int .i64 0) = .int .i64 (placeT L a) := by
  unfold plF placeT
  cases findT L a <;> rfl
theorem Ok_last {T : TK} (h : T.Ok) (n : Int) : TK.Ok { T with last := placeT T.L n } := { h with l0 := placeT_le h n }
theorem canK_mem {L : List Te} {k : Nat} {x : Tn} (h : x ∈ canK L k) : (x.2 = 1 ∨ x.2 = 3) ∧ ∃ e ∈ L, e.p.1 = x.1 := by
  unfold canK at h
  split at h
  · rename_i e he
    have hm := List.mem_of_getElem? he
    split at h
    · split at h
      · obtain rfl := List.mem_singleton.1 h; exact ⟨.inl rfl, e, hm, rfl⟩
      · cases h
    · split at h
      · obtain rfl := List.mem_singleton.1 h; exact ⟨.inr rfl, e, hm, rfl⟩
      · cases h
  · cases h
theorem canT_mem {T : TK} {x : Tn} (h : x ∈ canT T) : (x.2 = 1 ∨ x.2 = 2 ∨ x.2 = 3) ∧ ((∃ e ∈ T.L, e.p.1 = x.1) ∨ x.1 = -1) := by
  unfold canT canR at h
  rcases List.mem_append.1 h with h | h
  · obtain ⟨k, _, hk⟩ := List.mem_flatMap.1 h
    obtain ⟨h1, h2⟩ := canK_mem hk
    exact ⟨by omega, .inl h2⟩
  · split at h
    · obtain rfl := List.mem_singleton.1 h
      exact ⟨.inr (.inl rfl), .inr rfl⟩
    · cases h
theorem canT_wf {T : TK} (hok : T.Ok) {x : Tn} (h : x ∈ canT T) : -9223372036854775808 ≤ x.1 ∧ x.1 ≤ 9223372036854775807 := by
  obtain ⟨_, ⟨e, he, hx⟩ | hx⟩ := canT_mem h
  · have := hok.n0 e he; omega
  · omega
theorem canT_len {T : TK} (hok : T.Ok) : (canT T).length ≤ 17 := by
  have h1 : canT T = canP T.L T.L.length ++ if waitsB T.L then [(-1, 2)] else [] := rfl
  have h2 := canP_len T.L T.L.length
  have h3 := hok.len
  rw [h1, List.length_append]
  have : (if waitsB T.L then [((-1 : Int), (2 : Int))] else []).length ≤ 1 := by split <;> simp
  omega
theorem pickI_lt {l : List Tn} (h : 0 < l.length) (n : Int) : pickI l n < l.length := by
  unfold pickI
  have h1 := Int.emod_nonneg (n % 18446744073709551616) (b := (l.length : Int)) (by omega)
  have h2 := Int.emod_lt_of_pos (n % 18446744073709551616) (b := (l.length : Int)) (by omega)
  omega
theorem TkQ.cells' {w : World} {S : Nat → Prop} {g tg ms mp : Nat} {c l : Int} {LT : List Tk} {F G : FI} (h : TkQ w S g tg ms mp c l LT F G) (c' l' : Int) :
    TkQ (w.setRow g #[.pointer (some ⟨tg, 0, none⟩), .map (some ms), .map (some mp), .int .i64 c', .int .i64 l']) S g tg ms mp c' l' LT F G ∧ Mut S w (w.setRow g #[.pointer (some ⟨tg, 0, none⟩), .map (some ms), .map (some mp), .int .i64 c', .int .i64 l']) :=
  ⟨{ hg := setRow_heap _ _ _ _ _ _ h.hg
     lk := h.lk.mutK (mut_setRow (S := fun i => i = g) rfl _) fun i o hi ho hk => by
       subst hi
       rw [h.hg] at ho
       cases ho
       revert hk
       show ¬ (_ ∨ _ ∨ _)
       decide
     st := h.st.set h.hg
     pl := h.pl.set h.hg
     ne := h.ne
     sg := h.sg
     sm := h.sm
     sp := h.sp }, mut_setRow h.sg _⟩
/-- Tasks whose own blocks are old ones. -/
theorem TkQ.old {w : World} {S : Nat → Prop} {g tg ms mp : Nat} {c l : Int} {LT : List Tk} {F G : FI} (h : TkQ w S g tg ms mp c l LT F G) : ∃ S' : Nat → Prop, TkQ w S' g tg ms mp c l LT F G ∧ Hid (∀ i, S' i → S i ∧ i < w.heap.size) :=
  ⟨_, (tqOb ..).trim h, Lib.hid fun i hi => ⟨hi.1, heap_lt hi.2.choose_spec.1⟩⟩
theorem Mut.thenM {S R : Nat → Prop} {a b c : World} (h : Mut S a b) (k : Mut R b c) (hR : ∀ i, R i → a.heap.size ≤ i) : Mut S a c :=
  ⟨k.os.trans h.os, k.tape.trans h.tape, k.output.trans h.output, Nat.le_trans h.size k.size, fun i hi hn => (k.block i (Nat.lt_of_lt_of_le hi h.size) fun hr => by have := hR i hr; omega).trans (h.block i hi hn)⟩
theorem To.of_old {w w' : World} {S S' : Nat → Prop} {g tg ms mp : Nat} {T : TK} (HS : ∀ i, S' i → S i ∧ i < w.heap.size) (h : TkQ w' S' g tg ms mp T.cnt T.last (lkL T.L) (stF T.L) (plF T.L)) (hm : Mut S' w w') (hok : T.Ok) : To S w w' (tkOb g T) :=
  To.tk (tg := tg) (ms := ms) (mp := mp) ⟨(tqOb ..).mono h fun i hi => .inl (HS i hi).1, hm.mono fun i hi => (HS i hi).1⟩ (fun _ => rfl) (fun _ => rfl) hok
section
variable {S : Nat → Prop} {g : Nat} {T : TK}
set_option maxHeartbeats 4000000 in
theorem Pick_any (n : Int) (w : World) (h : TkAt w S g T) (hn0 : -9223372036854775808 ≤ n) (hn1 : n ≤ 9223372036854775807) :
    Calls Try.prog 30 #[.pointer (some ⟨g, 0, none⟩), .int .i64 n] w fun e w' => e = .returned (.tuple #[tnV (T.pick n).2.1, .int .i64 (T.pick n).2.2]) ∧ To S w w' (tkOb g (T.pick n).1) := by
  have HT : Hid (TkAt w S g T) := Lib.hid h
  have x0 := extAl w (.cells #[.int .i64 0, .int .u8 0] 64)
  have K := Lib.hid (Can_any _ ((tkOb g T).ext h x0))
  obtain ⟨⟨tg, ms, mp, h⟩, hok⟩ := h
  by_cases hc : canT T = []
  · have hp : T.pick n = (T, (0, 0), 5) := by unfold TK.pick; rw [hc]; rfl
    rw [hp]
    rw [hc] at K
    have hg0 := heap_alloc_last w (.cells #[.int .i64 0, .int .u8 0] 64)
    clear hp hc h hok
    go_enter Try.func30, Try.ntmps30
    go_wp2_with fail
    refine K.out.mono ?_
    rintro e w1 ⟨v, rfl, ho, hb⟩
    have hr := Ext.blk hb hg0
    have HB := Lib.hid (Ext.trans x0 hb)
    obtain ⟨A, c, rfl⟩ := ho.form
    obtain ⟨d0, d1, df, dl⟩ := blk2 hr
    have ST := Lib.hid (set2_01 (.int .i64 0) (.int .u8 0) hr)
    obtain ⟨r0, r1, rf, rl⟩ := blk2 (setRow_heap w1 w.heap.size _ #[.int .i64 0, .int .u8 0] _ _ hr)
    have HF := Lib.hid (To.of_ext (D := tkOb g T) HT.out (below_setRow HB.out (Nat.le_refl _) #[.int .i64 0, .int .u8 0]))
    clear ho hb hr hg0 K x0 HB
    go_wp2
    rw [ST.out]
    exact bodyPost_ret (v := .tuple #[tnV (0, 0), .int .i64 5]) (by simp [results, Try.results30, go_sem, r0, r1, tnV]) rfl ⟨rfl, HF.out⟩
  · have hl := List.length_pos_iff.2 hc
    have hlt := pickI_lt hl n
    obtain ⟨x, hx⟩ : ∃ x, (canT T)[pickI (canT T) n]? = some x := ⟨_, List.getElem?_eq_getElem hlt⟩
    have hp : T.pick n = ({ T with last := placeT T.L x.1 }, x, 0) := by unfold TK.pick; rw [hx]
    have hxm := List.mem_of_getElem? hx
    have hxw := canT_wf hok hxm
    have hxu := (canT_mem hxm).1
    have hwf := wf_i64 hxw.1 hxw.2
    have hlen := canT_len hok
    have hok' := Ok_last hok x.1
    rw [hp]
    obtain ⟨S', h', HS⟩ := h.old
    have H := Lib.hid h'
    have OK' := Lib.hid hok'
    have hg0 := heap_alloc_last w (.cells #[.int .i64 0, .int .u8 0] 64)
    have HX := Lib.hid hx
    clear hp hc h hok h' hok' hx hxm HT
    generalize canT T = l at *
    have hW : (IntKind.u64.wrap n).tmod (l.length : Int) = (pickI l n : Nat) := by
      have h0 := Int.emod_nonneg n (b := 18446744073709551616) (by omega)
      rw [wrap_u64, Int.tmod_eq_emod_of_nonneg h0]
      unfold pickI
      have h1 := Int.emod_nonneg (n % 18446744073709551616) (b := (l.length : Int)) (by omega)
      omega
    obtain ⟨k, hk⟩ : ∃ k, k = pickI l n := ⟨_, rfl⟩
    rw [← hk] at HX hW hlt
    clear hk
    go_enter Try.func30, Try.ntmps30
    go_wp2_with fail
    refine K.out.mono ?_
    rintro e w1 ⟨v, rfl, ho, hb⟩
    obtain ⟨A, c, rfl⟩ := ho.form
    obtain ⟨b, rfl, hbB, hbl, hbc, hbj⟩ := ho.cells hl
    have hbc := hbc (by omega)
    have hr := Ext.blk hb hg0
    have HB := Lib.hid (Ext.trans x0 hb)
    have y0 : w1.cell? ⟨b, k * 2 + 0, none⟩ = some (.int .i64 x.1) := by
      have h1 := flat_at tnC_length l k 0 x HX.out (by omega)
      have h2 := hbj (k * 2 + 0) (by rw [tncs_length]; omega)
      rw [h2, ← List.getElem?_eq_getElem]
      exact h1
    have y1 : w1.cell? ⟨b, k * 2 + 1, none⟩ = some (.int .u8 x.2) := by
      have h1 := flat_at tnC_length l k 1 x HX.out (by omega)
      have h2 := hbj (k * 2 + 1) (by rw [tncs_length]; omega)
      rw [h2, ← List.getElem?_eq_getElem]
      exact h1
    rw [Nat.add_zero] at y0
    have hne : b ≠ w.heap.size := by have := own_lt ho (b := b) rfl; simp only [World.size_alloc] at this; omega
    clear ho hb hbj hg0 K x0
    go_wp2
    have hr7 := heap_alloc_last w1 (.cells #[.int .i64 x.1, .int .u8 x.2] 64)
    have hE := Ext.trans HB.out (extAl w1 (.cells #[.int .i64 x.1, .int .u8 x.2] 64))
    have hr' := Ext.blk (extAl w1 (.cells #[.int .i64 x.1, .int .u8 x.2] 64)) hr
    have zr := heap_lt hr
    generalize w1.alloc (.cells #[.int .i64 x.1, .int .u8 x.2] 64) = V at *
    generalize w1.heap.size = r7 at *
    have Q := Lib.hid (H.out.ext hE)
    obtain ⟨-, -, c2, -, -, -, gl⟩ := blk5 Q.out.hg
    obtain ⟨u0, -, -, ul⟩ := blk2 hr7
    have LL := Lib.hid fun w' (hw' : Ext V w') => ((Q.out.ext hw').pl.look (P := Try.prog) false (t := 104) Try.underlying104 Try.underlying3 (zero_int w') hwf).trans (by rw [if_neg (by decide), plF_val])
    have e0 := fun (ψ : World → Prop) (e : ExtP V.heap.size V ψ) => e.cell c2 gl
    have e1 := fun (ψ : World → Prop) (e : ExtP V.heap.size V ψ) => e.cell u0 ul
    have HR := Lib.hid hr'
    have HR7 := Lib.hid hr7
    have HE := Lib.hid hE
    clear y0 y1 hbl hbc hbB hW hr hr' hr7 hE c2 u0 gl ul HB HX H
    generalize hpl : placeT T.L x.1 = pl at *
    have HP := Lib.hid hpl
    clear hpl
    refine wp_region_pieces 10  [(true, [0, 1, 2, 3, 4, 5, 6, 7, 8, 9])] (by kernel_rfl) (by kernel_rfl) ?_; simp only [pick, List.map_cons, List.map_nil, List.flatMap_cons, List.flatMap_nil, Option.toList_some, List.singleton_append, List.drop_succ_cons, List.drop_zero, List.getElem?_cons_zero, List.getElem?_cons_succ]
    refine ⟨by kernel_rfl, ?_⟩; apply Exists.intro; refine ⟨fun ψ hψ hne => (by (repeat (first | ( go_big_quiet_want; refine quiet_lk 104 (.tmp 30) (.tmp 32) false rfl (fun w' hw' => LL.out w' (ext_in hw')) ?_; go_simp; go_big_quiet_on ) | go_big_quiet_step ((  fail )))); exact wpQuiet_nil rfl), ?_⟩
    intro w3 h3
    clear e0 e1 LL
    have q3 := Q.out.ext h3
    have hr3 := Ext.blk h3 HR.out
    have hr73 := Ext.blk h3 HR7.out
    obtain ⟨-, -, -, -, c4, cf, cl⟩ := blk5 q3.hg
    obtain ⟨d0, d1, df, dl⟩ := blk2 hr3
    obtain ⟨u0, u1, uf, ul⟩ := blk2 hr73
    have hgl := (HS.out g q3.sg).2
    have n1 : ¬ g = w.heap.size := by omega
    have n2 : ¬ g = r7 := by omega
    have n3 : ¬ w.heap.size = r7 := by omega
    have ST4 := Lib.hid (set5_4 (.int .i64 pl) q3.hg)
    obtain ⟨q4, m4⟩ := q3.cells' T.cnt pl
    have hr4 := (setRow_other w3 g w.heap.size #[.pointer (some ⟨tg, 0, none⟩), .map (some ms), .map (some mp), .int .i64 T.cnt, .int .i64 pl] (Ne.symm n1)).trans hr3
    have ST5 := Lib.hid (set2_01 (.int .i64 x.1) (.int .u8 x.2) hr4)
    have m5 := mut_setRow (S := fun i => w.heap.size ≤ i) (w := w3.setRow g #[.pointer (some ⟨tg, 0, none⟩), .map (some ms), .map (some mp), .int .i64 T.cnt, .int .i64 pl]) (Nat.le_refl _) #[.int .i64 x.1, .int .u8 x.2]
    have q5 := q4.mutw m5 fun i hi hB => by have := (HS.out i hi).2; omega
    have F := Lib.hid (To.of_old (T := { T with last := pl }) HS.out q5 (((Mut.of_ext (S := S') (Ext.trans HE.out h3)).trans m4).thenM m5 (fun i hi => hi)) OK'.out)
    obtain ⟨v0, v1, -, -⟩ := blk2 (setRow_heap _ _ _ #[.int .i64 x.1, .int .u8 x.2] _ _ hr4)
    have V0 := Lib.hid v0
    have V1 := Lib.hid v1
    clear q3 hr3 hr73 q4 m4 hr4 m5 q5 h3 v0 v1 Q HR HR7 HE
    go_wp2
    rw [ST4.out, ST5.out]
    have v0 := V0.out
    have v1 := V1.out
    exact bodyPost_ret (v := .tuple #[tnV x, .int .i64 0]) (by simp [results, Try.results30, go_sem, v0, v1, tnV]) rfl ⟨rfl, by rw [HP.out]; exact F.out⟩
end
end Go.Proofs.Ytiihlbaajopllaa
