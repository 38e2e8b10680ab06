/- Walks of tasks: nobody's tasks, New, Row, Did. -/
import Derived.Test.YtiihlbaajopllaaTkB
set_option linter.unusedVariables false
set_option maxRecDepth 100000
namespace Go.Proofs.Ytiihlbaajopllaa
open Go.RowKit Go.MapKept

theorem wf_i64 {a : Int} (h0 : -9223372036854775808 ≤ a) (h1 : a ≤ 9223372036854775807) : (Lit.int .i64 a).wf = true := by
  simp [Lit.wf, IntKind.min, IntKind.max, IntKind.signed, IntKind.bits]
  omega
theorem tadd_nil (n : Int) (v : Value)(w : World) : Calls Try.prog 27 #[.pointer none, .int .i64 n, v] w fun e w' => e = .returned (.int .i64 2) ∧ Below w.heap.size w w' := by
  go_enter Try.func27, Try.ntmps27
  go_wp2
  go_ret
  exact ⟨rfl, by (repeat' (first | (with_reducible assumption) | (with_reducible exact Below.refl _ _) | (with_reducible refine below_sc ?_ ?_) | ((with_reducible show (_ : Nat) ≤ _); omega) | refine Below.setCell ?_ (by first | omega | (simp; done) | (simp; omega)) _ | refine Below.alloc ?_ (by first | omega | (simp; done) | (simp; omega)) _ | refine Below.drew ?_ | refine below_drewN ?_ _ | refine Below.trans ?_ (Below.mono (by assumption) (by first | omega | (simp; done) | (simp; omega)))))⟩
theorem tdid_nil (n : Int) (b : Bool)(w : World) : Calls Try.prog 29 #[.pointer none, .int .i64 n, .bool b] w fun e w' => e = .returned (.int .i64 2) ∧ Below w.heap.size w w' := by
  go_enter Try.func29, Try.ntmps29
  go_wp2
  go_ret
  exact ⟨rfl, by (repeat' (first | (with_reducible assumption) | (with_reducible exact Below.refl _ _) | (with_reducible refine below_sc ?_ ?_) | ((with_reducible show (_ : Nat) ≤ _); omega) | refine Below.setCell ?_ (by first | omega | (simp; done) | (simp; omega)) _ | refine Below.alloc ?_ (by first | omega | (simp; done) | (simp; omega)) _ | refine Below.drew ?_ | refine below_drewN ?_ _ | refine Below.trans ?_ (Below.mono (by assumption) (by first | omega | (simp; done) | (simp; omega)))))⟩
theorem trep_nil (n : Int)(w : World) : Calls Try.prog 37 #[.pointer none, .int .i64 n] w fun e w' => e = .returned (.int .i64 2) ∧ Below w.heap.size w w' := by
  go_enter Try.func37, Try.ntmps37
  go_wp2
  go_ret
  exact ⟨rfl, by (repeat' (first | (with_reducible assumption) | (with_reducible exact Below.refl _ _) | (with_reducible refine below_sc ?_ ?_) | ((with_reducible show (_ : Nat) ≤ _); omega) | refine Below.setCell ?_ (by first | omega | (simp; done) | (simp; omega)) _ | refine Below.alloc ?_ (by first | omega | (simp; done) | (simp; omega)) _ | refine Below.drew ?_ | refine below_drewN ?_ _ | refine Below.trans ?_ (Below.mono (by assumption) (by first | omega | (simp; done) | (simp; omega)))))⟩
theorem tcan_nil (w : World) : Calls Try.prog 31 #[.pointer none] w fun e w' => e = .returned (.slice none 0 0) ∧ Below w.heap.size w w' := by
  go_enter Try.func31, Try.ntmps31
  go_wp2
  go_ret
  exact ⟨rfl, by (repeat' (first | (with_reducible assumption) | (with_reducible exact Below.refl _ _) | (with_reducible refine below_sc ?_ ?_) | ((with_reducible show (_ : Nat) ≤ _); omega) | refine Below.setCell ?_ (by first | omega | (simp; done) | (simp; omega)) _ | refine Below.alloc ?_ (by first | omega | (simp; done) | (simp; omega)) _ | refine Below.drew ?_ | refine below_drewN ?_ _ | refine Below.trans ?_ (Below.mono (by assumption) (by first | omega | (simp; done) | (simp; omega)))))⟩
theorem trow_nil (w : World) : Calls Try.prog 33 #[.pointer none] w fun e w' => e = .returned (.slice none 0 0) ∧ Below w.heap.size w w' := by
  go_enter Try.func33, Try.ntmps33
  go_wp2
  go_ret
  exact ⟨rfl, by (repeat' (first | (with_reducible assumption) | (with_reducible exact Below.refl _ _) | (with_reducible refine below_sc ?_ ?_) | ((with_reducible show (_ : Nat) ≤ _); omega) | refine Below.setCell ?_ (by first | omega | (simp; done) | (simp; omega)) _ | refine Below.alloc ?_ (by first | omega | (simp; done) | (simp; omega)) _ | refine Below.drew ?_ | refine below_drewN ?_ _ | refine Below.trans ?_ (Below.mono (by assumption) (by first | omega | (simp; done) | (simp; omega)))))⟩
theorem tcopy_nil (w : World) : Calls Try.prog 41 #[.pointer none] w fun e w' => e = .returned (.pointer none) ∧ Below w.heap.size w w' := by
  go_enter Try.func41, Try.ntmps41
  go_wp2
  go_ret
  exact ⟨rfl, by (repeat' (first | (with_reducible assumption) | (with_reducible exact Below.refl _ _) | (with_reducible refine below_sc ?_ ?_) | ((with_reducible show (_ : Nat) ≤ _); omega) | refine Below.setCell ?_ (by first | omega | (simp; done) | (simp; omega)) _ | refine Below.alloc ?_ (by first | omega | (simp; done) | (simp; omega)) _ | refine Below.drew ?_ | refine below_drewN ?_ _ | refine Below.trans ?_ (Below.mono (by assumption) (by first | omega | (simp; done) | (simp; omega)))))⟩
theorem tsync_nil (w : World) : Calls Try.prog 36 #[.pointer none] w fun e w' => e = .returned (.tuple #[.slice none 0 0, .int .i64 2]) ∧ Below w.heap.size w w' := by
  go_enter Try.func36, Try.ntmps36
  go_wp2
  exact bodyPost_ret (v := (.tuple #[.slice none 0 0, .int .i64 2])) (by simp [results, Try.results36, go_sem]) rfl ⟨rfl, by (repeat' (first | (with_reducible assumption) | (with_reducible exact Below.refl _ _) | (with_reducible refine below_sc ?_ ?_) | ((with_reducible show (_ : Nat) ≤ _); omega) | refine Below.setCell ?_ (by first | omega | (simp; done) | (simp; omega)) _ | refine Below.alloc ?_ (by first | omega | (simp; done) | (simp; omega)) _ | refine Below.drew ?_ | refine below_drewN ?_ _ | refine Below.trans ?_ (Below.mono (by assumption) (by first | omega | (simp; done) | (simp; omega)))))⟩
theorem tclear_nil (w : World) : Calls Try.prog 43 #[.pointer none] w fun e w' => e = .returned (.tuple #[]) ∧ Below w.heap.size w w' := by
  go_enter Try.func43, Try.ntmps43
  go_wp2
  exact bodyPost_ret (v := (.tuple #[])) (by simp [results, Try.results43, go_sem]) rfl ⟨rfl, by (repeat' (first | (with_reducible assumption) | (with_reducible exact Below.refl _ _) | (with_reducible refine below_sc ?_ ?_) | ((with_reducible show (_ : Nat) ≤ _); omega) | refine Below.setCell ?_ (by first | omega | (simp; done) | (simp; omega)) _ | refine Below.alloc ?_ (by first | omega | (simp; done) | (simp; omega)) _ | refine Below.drew ?_ | refine below_drewN ?_ _ | refine Below.trans ?_ (Below.mono (by assumption) (by first | omega | (simp; done) | (simp; omega)))))⟩
theorem tpick_nil (n : Int)(w : World) : Calls Try.prog 30 #[.pointer none, .int .i64 n] w fun e w' => e = .returned (.tuple #[.agg #[.int .i64 0, .int .u8 0], .int .i64 2]) ∧ Below w.heap.size w w' := by
  go_enter Try.func30, Try.ntmps30
  go_wp2
  exact bodyPost_ret (v := (.tuple #[.agg #[.int .i64 0, .int .u8 0], .int .i64 2])) (by simp [results, Try.results30, go_sem]) rfl ⟨rfl, by (repeat' (first | (with_reducible assumption) | (with_reducible exact Below.refl _ _) | (with_reducible refine below_sc ?_ ?_) | ((with_reducible show (_ : Nat) ≤ _); omega) | refine Below.setCell ?_ (by first | omega | (simp; done) | (simp; omega)) _ | refine Below.alloc ?_ (by first | omega | (simp; done) | (simp; omega)) _ | refine Below.drew ?_ | refine below_drewN ?_ _ | refine Below.trans ?_ (Below.mono (by assumption) (by first | omega | (simp; done) | (simp; omega)))))⟩
theorem tnext_nil (w : World) : Calls Try.prog 32 #[.pointer none] w fun e w' => e = .returned (.tuple #[.agg #[.int .i64 0, .int .u8 0], .int .i64 2]) ∧ Below w.heap.size w w' := by
  go_enter Try.func32, Try.ntmps32
  go_wp2
  exact bodyPost_ret (v := (.tuple #[.agg #[.int .i64 0, .int .u8 0], .int .i64 2])) (by simp [results, Try.results32, go_sem]) rfl ⟨rfl, by (repeat' (first | (with_reducible assumption) | (with_reducible exact Below.refl _ _) | (with_reducible refine below_sc ?_ ?_) | ((with_reducible show (_ : Nat) ≤ _); omega) | refine Below.setCell ?_ (by first | omega | (simp; done) | (simp; omega)) _ | refine Below.alloc ?_ (by first | omega | (simp; done) | (simp; omega)) _ | refine Below.drew ?_ | refine below_drewN ?_ _ | refine Below.trans ?_ (Below.mono (by assumption) (by first | omega | (simp; done) | (simp; omega)))))⟩
def T0 : TK := ⟨[], 0, 0⟩
theorem T0_ok : T0.Ok := ⟨by simp [T0], by simp [T0], by simp [T0], by simp [T0], by simp [T0], by simp [T0], Int.le_refl _, ⟨Int.le_refl _, Int.le_refl _⟩⟩
set_option maxHeartbeats 1000000 in
theorem tnew_any (w : World) : Calls Try.prog 26 #[] w fun e w' => ∃ g, e = .returned (.pointer (some ⟨g, 0, none⟩)) ∧ (tkOb g T0).is w' (fun i => w.heap.size ≤ i ∧ i < w'.heap.size) ∧ Below w.heap.size w w' := by
  have hmm := @run_makeMap Try.prog
  go_enter Try.func26, Try.ntmps26
  go_wp2_with fail
  refine (locksNew_any _).mono ?_
  rintro e w1 ⟨g1, rfl, -, hl1, hb1⟩
  have hz := hb1.size
  have H1 := Lib.hid hl1
  have HB := Lib.hid hb1
  clear hl1 hb1
  have hmm := @run_makeMap Try.prog
  go_wp2
  go_ret
  have a1 := extAl w1 (.map #[] 0)
  have a2 := extAl (w1.alloc (.map #[] 0)) (.map #[] 0)
  have a3 := extAl ((w1.alloc (.map #[] 0)).alloc (.map #[] 0)) (.cells #[.pointer (some ⟨g1, 0, none⟩), .map (some w1.heap.size), .map (some (w1.heap.size + 1)), .int .i64 0, .int .i64 0] 106)
  have hE := Ext.trans a1 (Ext.trans a2 a3)
  have m1 := (mapI_made w1).ext (Ext.trans a2 a3)
  have m2 := (mapI_made (w1.alloc (.map #[] 0))).ext a3
  have hl := (lkOb g1 []).ext H1.out hE
  have hg := heap_alloc_last ((w1.alloc (.map #[] 0)).alloc (.map #[] 0)) (.cells #[.pointer (some ⟨g1, 0, none⟩), .map (some w1.heap.size), .map (some (w1.heap.size + 1)), .int .i64 0, .int .i64 0] 106)
  simp only [World.size_alloc] at hl hg m1 m2 hE ⊢
  refine ⟨_, rfl, ⟨⟨g1, w1.heap.size, w1.heap.size + 1, ?_⟩, T0_ok⟩, Below.trans HB.out (Below.mono hE hz)⟩
  exact {
    hg := hg
    lk := (lkOb g1 []).mono hl fun i hi => by omega
    st := m1.cong fun a => rfl
    pl := m2.cong fun a => rfl
    ne := by omega
    sg := by omega
    sm := by omega
    sp := by omega }
section
variable {S : Nat → Prop} {g : Nat} {T : TK}
theorem zero_int (w : World) : (zeroValue 3).run Try.prog w = .ok (.int .i64 0) w := by kernel_rfl
theorem zero_u8 (w : World) : (zeroValue 5).run Try.prog w = .ok (.int .u8 0) w := by kernel_rfl
theorem trow_any (w : World) (h : TkAt w S g T) : Calls Try.prog 33 #[.pointer (some ⟨g, 0, none⟩)] w fun e w' => ∃ v, e = .returned v ∧ OwnR w' w.heap.size 3 1 One v T.L.length (ics (T.L.map (·.p.1))) ∧ Below w.heap.size w w' := by
  obtain ⟨⟨tg, ms, mp, h⟩, hok⟩ := h
  have K := Lib.hid (row_any w h.lk)
  rw [show (lkL T.L).length = T.L.length by simp [lkL], show (lkL T.L).map (·.1) = T.L.map (·.p.1) by simp [lkL]] at K
  obtain ⟨c0, -, -, -, -, -, hlt⟩ := blk5 h.hg
  clear h hok
  go_enter Try.func33, Try.ntmps33
  go_wp2_with (go_at_call 18; refine K.out.mono ?_; rintro e w1 ⟨v, rfl, ho, hb⟩)
  go_ret
  exact ⟨_, rfl, ho, hb⟩
theorem To.tk' {w w' : World} {g tg ms mp : Nat} {LT : List Tk} {F G : FI} (h : To S w w' (tqOb g tg ms mp T.cnt T.last LT F G)) (hL : LT = lkL T.L) (hF : ∀ a, F a = stF T.L a) (hG : ∀ a, G a = plF T.L a) (hok : T.Ok) : To S w w' (tkOb g T) := by
  subst hL
  exact h.tk hF hG hok
/-! Plain: what becomes of tasks stays in order. -/
theorem lk_fix {L : List Te} {f : Te → Te} (h : ∀ e, (f e).p = e.p) : lkL (L.map f) = lkL L := by
  unfold lkL
  rw [List.map_map]
  exact List.map_congr_left fun e _ => h e
theorem Ok_map {T : TK} (h : T.Ok) {f : Te → Te} (hp : ∀ e, (f e).p = e.p) (hl : ∀ e, (f e).pl = e.pl) (hi : ∀ e, e.is = 0 ∨ e.is = 1 ∨ e.is = 2 → (f e).is = 0 ∨ (f e).is = 1 ∨ (f e).is = 2) : TK.Ok { T with L := T.L.map f } where
  nd := by
    have := h.nd
    rw [show (T.L.map f).map (fun x => x.p.1) = T.L.map (fun x => x.p.1) by rw [List.map_map]; exact List.map_congr_left fun e _ => by simp [hp]]
    exact this
  n0 := fun e he => by obtain ⟨x, hx, rfl⟩ := List.mem_map.1 he; rw [hp]; exact h.n0 x hx
  is := fun e he => by obtain ⟨x, hx, rfl⟩ := List.mem_map.1 he; exact hi x (h.is x hx)
  pl := fun e he => by obtain ⟨x, hx, rfl⟩ := List.mem_map.1 he; rw [hl]; exact h.pl x hx
  up := by
    rw [List.pairwise_map]
    exact h.up.imp fun {a b} hab => by rw [hl, hl]; exact hab
  len := by simpa using h.len
  c0 := h.c0
  l0 := h.l0
theorem findT_map {L : List Te} {f : Te → Te} (hp : ∀ e, (f e).p = e.p) (n : Int) : findT (L.map f) n = (findT L n).map f := by
  induction L with
  | nil => rfl
  | cons a L ih =>
    unfold findT at ih ⊢
    rw [List.map_cons, List.find?_cons, List.find?_cons, hp]
    cases decide (a.p.1 = n)
    · exact ih
    · rfl
theorem stF_setIs (L : List Te) (n is : Int) (hn : (findT L n).isSome = true) (a : Int) : stF (setIs L n is) a = upd (stF L) n (.int .u8 (1 + is)) a := by
  unfold stF setIs upd
  rw [findT_map fun e => by split <;> rfl]
  by_cases e : a = n
  · subst e
    rw [if_pos rfl]
    cases hf : findT L a with
    | none => rw [hf] at hn; cases hn
    | some x =>
      obtain ⟨_, hx⟩ := findT_some hf
      simp only [Option.map_some]
      rw [if_pos hx]
  · rw [if_neg e]
    cases hf : findT L a with
    | none => simp [hf]
    | some x =>
      obtain ⟨_, hx⟩ := findT_some hf
      simp only [Option.map_some, hf]
      rw [if_neg (by omega)]
theorem plF_setIs (L : List Te) (n is : Int) (a : Int) : plF (setIs L n is) a = plF L a := by
  unfold plF setIs
  rw [findT_map fun e => by split <;> rfl]
  cases findT L a with
  | none => rfl
  | some x => simp only [Option.map_some]; split <;> rfl
theorem Ok_setIs {T : TK} (h : T.Ok) (n is : Int) (hi : is = 0 ∨ is = 1 ∨ is = 2) : TK.Ok { T with L := setIs T.L n is } :=
  Ok_map h (fun e => by split <;> rfl) (fun e => by split <;> rfl) fun e he => by
    split
    · exact hi
    · exact he
set_option maxHeartbeats 2000000 in
theorem Did_any (n : Int) (b : Bool) (w : World) (h : TkAt w S g T) (hw : (Lit.int .i64 n).wf = true) :
    Calls Try.prog 29 #[.pointer (some ⟨g, 0, none⟩), .int .i64 n, .bool b] w fun e w' => e = .returned (.int .i64 (T.didE n)) ∧ To S w w' (tkOb g (T.did n b)) := by
  have HT := Lib.hid (To.refl (D := tkOb g T) h)
  obtain ⟨⟨tg, ms, mp, h⟩, hok⟩ := h
  obtain ⟨c0, c1, -, -, -, -, hlt⟩ := blk5 h.hg
  have L1 := h.st.look (P := Try.prog) true (t := 103) Try.underlying103 Try.underlying3 (zero_u8 w) hw
  cases hf : findT T.L n with
  | none =>
    have hE : T.didE n = 5 := by unfold TK.didE; rw [hf]
    have hd : T.did n b = T := by unfold TK.did; rw [if_neg (by rw [hE]; decide)]
    rw [hE, hd]
    have e1 : stF T.L n = none := by unfold stF; rw [hf]; rfl
    simp only [e1, if_true, Option.getD_none, Option.isSome_none] at L1
    have H1 := Lib.hid L1
    clear L1 h c0 hok hE hd e1 hf
    go_enter Try.func29, Try.ntmps29
    go_wp2_with (refine wpList_lk rfl 103 (.tmp 15) (.tmp 16) true rfl H1.out ?_; simp only [Act.put])
    go_ret
    exact ⟨rfl, HT.out⟩
  | some x =>
    obtain ⟨hx, hxn⟩ := findT_some hf
    have hxi := hok.is x hx
    have e1 : stF T.L n = some (.int .u8 (1 + x.is)) := by unfold stF; rw [hf]; rfl
    simp only [e1, if_true, Option.getD_some, Option.isSome_some] at L1
    by_cases h0 : x.is = 0
    case neg =>
      have hE : T.didE n = 50 := by unfold TK.didE; rw [hf]; simp [h0]
      have hd : T.did n b = T := by unfold TK.did; rw [if_neg (by rw [hE]; decide)]
      rw [hE, hd]
      rcases hxi with hxi | hxi | hxi
      · exact absurd hxi h0
      · rw [hxi] at L1
        have H1 := Lib.hid L1
        clear L1 h c0 hok hE hd e1 hf
        go_enter Try.func29, Try.ntmps29
        go_wp2_with (refine wpList_lk rfl 103 (.tmp 15) (.tmp 16) true rfl H1.out ?_; simp only [Act.put])
        go_ret
        exact ⟨rfl, HT.out⟩
      · rw [hxi] at L1
        have H1 := Lib.hid L1
        clear L1 h c0 hok hE hd e1 hf
        go_enter Try.func29, Try.ntmps29
        go_wp2_with (refine wpList_lk rfl 103 (.tmp 15) (.tmp 16) true rfl H1.out ?_; simp only [Act.put])
        go_ret
        exact ⟨rfl, HT.out⟩
    rw [h0] at L1
    have H1 := Lib.hid L1
    have K := Lib.hid (has_any n w h.lk)
    by_cases hh : hasL (lkL T.L) n = true
    case neg =>
      have hh' : hasL (lkL T.L) n = false := by simpa using hh
      have hE : T.didE n = 50 := by unfold TK.didE; rw [hf]; simp [hh']
      have hd : T.did n b = T := by unfold TK.did; rw [if_neg (by rw [hE]; decide)]
      rw [hE, hd]
      rw [hh'] at K
      clear L1 h hok hE hd e1 hf hh hh' hxi h0
      go_enter Try.func29, Try.ntmps29
      go_wp2_with (first | (refine wpList_lk rfl 103 (.tmp 15) (.tmp 16) true rfl H1.out ?_; simp only [Act.put]) | (go_at_call 17; refine K.out.mono ?_; rintro e w1 ⟨rfl, hb1⟩))
      go_ret
      exact ⟨rfl, HT.out.then_ext hb1⟩
    have hE : T.didE n = 0 := by unfold TK.didE; rw [hf]; simp [h0, hh]
    have hd : T.did n b = { T with L := setIs T.L n (if b then 1 else 2) } := by unfold TK.did; rw [if_pos hE]
    rw [hE, hd]
    rw [hh] at K
    have hsm : (findT T.L n).isSome = true := by rw [hf]; rfl
    have hok1 := Ok_setIs hok n 1 (by omega)
    have hok2 := Ok_setIs hok n 2 (by omega)
    have hF1 := stF_setIs T.L n 1 hsm
    have hF2 := stF_setIs T.L n 2 hsm
    have F : Hid (∀ w1, Ext w w1 → ∃ w2, (Instr.mapUpdate 103 (.map (some ms)) (.int .i64 n) (.int .u8 3)).run Try.prog w1 = .ok () w2 ∧ w1.cell? ⟨g, 1, none⟩ = some (.map (some ms)) ∧ g < w1.heap.size ∧ w2.cell? ⟨g, 1, none⟩ = some (.map (some ms)) ∧ g < w2.heap.size ∧ To S w w2 (tkOb g { T with L := setIs T.L n 2 }) ∧
        ∃ w3, (Instr.mapUpdate 103 (.map (some ms)) (.int .i64 n) (.int .u8 2)).run Try.prog w2 = .ok () w3 ∧ To S w w3 (tkOb g { T with L := setIs T.L n 1 })) := Lib.hid fun w1 hb1 => by
      have h1 := h.ext hb1
      obtain ⟨w2, hr2, hm2, hg2⟩ := h1.st.update (P := Try.prog) (t := 103) Try.underlying103 Try.underlying3 hw (.int .u8 3)
      have T2 := h1.mapS hm2 hg2
      obtain ⟨w3, hr3, hm3, hg3⟩ := T2.1.st.update (P := Try.prog) (t := 103) Try.underlying103 Try.underlying3 hw (.int .u8 2)
      have T3 := T2.trans (T2.1.mapS hm3 hg3)
      have hk := fun i => lk_fix (L := T.L) (f := fun e => if e.p.1 = n then { e with is := i } else e) fun e => by split <;> rfl
      obtain ⟨-, d1, -, -, -, -, dl⟩ := blk5 h1.hg
      obtain ⟨-, e1, -, -, -, -, el⟩ := blk5 T2.1.hg
      refine ⟨w2, hr2, d1, dl, e1, el, (To.after_ext hb1 T2).tk' (T := { T with L := setIs T.L n 2 }) (hk 2).symm ?_ ?_ hok2, w3, hr3, (To.after_ext hb1 T3).tk' (T := { T with L := setIs T.L n 1 }) (hk 1).symm ?_ ?_ hok1⟩
      · intro a; exact (hF2 a).symm
      · intro a; exact (plF_setIs T.L n 2 a).symm
      · intro a
        rw [hF1 a]
        unfold upd
        split <;> rfl
      · intro a; exact (plF_setIs T.L n 1 a).symm
    clear L1 h hok hE hd e1 hf hh hxi h0 hok1 hok2 hF1 hF2 hsm hx hxn HT
    cases b
    case false =>
      rw [if_neg (by decide)]
      go_enter Try.func29, Try.ntmps29
      go_wp2_with (first | (refine wpList_lk rfl 103 (.tmp 15) (.tmp 16) true rfl H1.out ?_; simp only [Act.put]) | (go_at_call 17; refine K.out.mono ?_; rintro e w1 ⟨rfl, hb1⟩; obtain ⟨w2, hr2, d1, dl, e1, el, t2, w3, hr3, t3⟩ := F.out w1 hb1; have R2 := Lib.hid hr2; have R3 := Lib.hid hr3; have X2 := Lib.hid t2; have X3 := Lib.hid t3; clear hr2 hr3 t2 t3) | (refine wpList_mu rfl 103 (.tmp 36) (.tmp 37) _ rfl R2.out ?_; simp only [Act.put]; clear R2) | (refine wpList_mu rfl 103 (.tmp 42) (.tmp 43) _ rfl R3.out ?_; simp only [Act.put]))
      go_ret
      exact ⟨rfl, X2.out⟩
    case true =>
      rw [if_pos rfl]
      go_enter Try.func29, Try.ntmps29
      go_wp2_with (first | (refine wpList_lk rfl 103 (.tmp 15) (.tmp 16) true rfl H1.out ?_; simp only [Act.put]) | (go_at_call 17; refine K.out.mono ?_; rintro e w1 ⟨rfl, hb1⟩; obtain ⟨w2, hr2, d1, dl, e1, el, t2, w3, hr3, t3⟩ := F.out w1 hb1; have R2 := Lib.hid hr2; have R3 := Lib.hid hr3; have X2 := Lib.hid t2; have X3 := Lib.hid t3; clear hr2 hr3 t2 t3) | (refine wpList_mu rfl 103 (.tmp 36) (.tmp 37) _ rfl R2.out ?_; simp only [Act.put]; clear R2) | (refine wpList_mu rfl 103 (.tmp 42) (.tmp 43) _ rfl R3.out ?_; simp only [Act.put]))
      go_ret
      exact ⟨rfl, X3.out⟩
end
end Go.Proofs.Ytiihlbaajopllaa
