/- Records: New, Held, Shut, Copy; readers and rows side by side. -/
import Derived.Test.YtbbkailmlaffjaaRcG
set_option linter.unusedVariables false
set_option maxRecDepth 100000
namespace Go.Proofs.Ytbbkailmlaffjaa
open Go.RowKit

theorem own_row {w : World} {B : Nat} {T : TypeId} {v : Value} {l : List UInt8} {c : Nat} (h : Own w B T v l c) : OwnR w B T 1 One v l.length (bvs l) := by
  obtain ⟨g, junk, rfl, hB, hg, hc⟩ := h
  refine ⟨by rw [bvs_length]; omega, .inr ⟨g, c, bvs junk, rfl, hB, ?_, by rw [bvs_length, bvs_length]; omega, ?_⟩⟩
  · rw [hg, bvs_app]
  · rw [← bvs_app]; exact bvs_one _
theorem ownZ_row {w : World} {B : Nat} {T : TypeId} {v : Value} {l : List UInt8} (h : OwnZ w B T v l) : OwnR w B T 1 One v l.length (bvs l) := by
  rcases h with ⟨rfl, rfl⟩ | ⟨c, h⟩
  · exact OwnR.nil
  · exact own_row h
theorem sclone_any (v : Value) (l : List UInt8) (w : World) (hv : RS w v l) (h : l.length ≤ 900000) :
    Calls Try.prog 25 #[v] w fun e w' => ∃ v', e = .returned v' ∧ OwnZ w' w.heap.size 5 v' l ∧ Below w.heap.size w w' := by
  have e1 := eq_nil
  rcases hv with ⟨rfl, rfl⟩ | hv'
  · go_enter Try.func25, Try.ntmps25
    go_wp2
    go_ret
    exact ⟨_, rfl, OwnZ.nil, by (repeat' (first | (with_reducible assumption) | (with_reducible exact Below.refl _ _) | (with_reducible refine below_sc ?_ ?_) | ((with_reducible show (_ : Nat) ≤ _); omega) | refine Below.setCell ?_ (by first | omega | (simp; done) | (simp; omega)) _ | refine Below.alloc ?_ (by first | omega | (simp; done) | (simp; omega)) _ | refine Below.drew ?_ | refine below_drewN ?_ _ | refine Below.trans ?_ (Below.mono (by assumption) (by first | omega | (simp; done) | (simp; omega)))))⟩
  · have hv : RS w v l := .inr hv'
    obtain ⟨b, off, c, rfl, -⟩ := hv'
    obtain ⟨v0, w0, hr0, ho0, hb0⟩ := appZ (ty := 22) (own_none (w := w) (T := 5)).z (srcS (hv.ext (ext_alloc w _))) (by simp) (by simp; omega)
    go_enter Try.func25, Try.ntmps25
    go_wp2_with (at_builtin; refine wpList_app rfl _ _ _ _ rfl hr0 ?_)
    go_ret
    exact ⟨_, rfl, ho0, Below.trans (ext_alloc w _) hb0⟩
theorem New_any (w : World) : Calls Try.prog 9 #[] w fun e w' => e = .returned (.pointer (some ⟨w.heap.size, 0, none⟩)) ∧ Ext w w' ∧ (rcOb w.heap.size rc0).is w' (fun i => i = w.heap.size) := by
  go_enter Try.func9, Try.ntmps9
  go_wp2
  go_ret
  exact ⟨rfl, extAl _ _, [0, 0, 0, 0], .slice none 0 0, { hg := heap_alloc_last _ _, h4 := rfl, hh := rfl, row := OwnR.nil, sg := rfl, sv := fun b hb => by simp [Value.ownBlock] at hb }⟩
theorem Held_any {S : Nat → Prop} {g : Nat} {s : Rc} (w : World) (q : RcAt w S g s) : Calls Try.prog 12 #[.pointer (some ⟨g, 0, none⟩)] w fun e w' => e = .returned (.int .i64 s.held) ∧ w' = w := by
  obtain ⟨h, v, q⟩ := q
  obtain ⟨-, -, -, -, c8, -, cf, gl⟩ := rc_cells q.hg q.h4
  clear q
  go_enter Try.func12, Try.ntmps12
  go_wp2
  go_ret
  exact ⟨rfl, rfl⟩
theorem Shut_any {S : Nat → Prop} {g : Nat} {s : Rc} (w : World) (q : RcAt w S g s) : Calls Try.prog 13 #[.pointer (some ⟨g, 0, none⟩)] w fun e w' => e = .returned (.bool s.shut) ∧ w' = w := by
  obtain ⟨h, v, q⟩ := q
  obtain ⟨-, -, -, -, -, c9, cf, gl⟩ := rc_cells q.hg q.h4
  clear q
  go_enter Try.func13, Try.ntmps13
  go_wp2
  go_ret
  exact ⟨rfl, rfl⟩
theorem Held_nil (w : World) : Calls Try.prog 12 #[.pointer none] w fun e w' => e = .returned (.int .i64 0) ∧ w' = w := by
  go_enter Try.func12, Try.ntmps12
  go_wp2
  go_ret
  exact ⟨rfl, rfl⟩
theorem Shut_nil (w : World) : Calls Try.prog 13 #[.pointer none] w fun e w' => e = .returned (.bool false) ∧ w' = w := by
  go_enter Try.func13, Try.ntmps13
  go_wp2
  go_ret
  exact ⟨rfl, rfl⟩
theorem Copy_nil (w : World) : Calls Try.prog 19 #[.pointer none] w fun e w' => e = .returned (.pointer none) ∧ w' = w := by
  go_enter Try.func19, Try.ntmps19
  go_wp2
  go_ret
  exact ⟨rfl, rfl⟩
theorem Feed_nil (w : World) : Calls Try.prog 10 #[.pointer none, .slice none 0 0] w fun e w' => e = .returned (.tuple #[.slice none 0 0, .int .i64 2]) ∧ w' = w := by
  go_enter Try.func10, Try.ntmps10
  go_wp2
  go_ret2
  exact ⟨rfl, rfl⟩
theorem OwnZ_form {w : World} {B : Nat} {T : TypeId} {C : Value → Prop} {A : Option Addr} {n c : Nat} {cs : List Value} (h : OwnR w B T 1 C (.slice A n c) n cs) : (A = none ∧ n = 0) ∨ ∃ b, A = some ⟨b, 0, none⟩ ∧ n ≤ c := by
  obtain ⟨h0, ⟨h1, h2⟩ | ⟨g, c', junk, h1, hB, hg, hc, _⟩⟩ := h
  · simp only [Value.slice.injEq] at h1
    exact .inl ⟨h1.1, h2⟩
  · simp only [Value.slice.injEq] at h1
    obtain ⟨rfl, -, rfl⟩ := h1
    exact .inr ⟨g, rfl, by omega⟩
theorem body_cut {w w' : World} {b c : Nat} {l : List UInt8} (h : RS w (.slice (some ⟨b, 0, none⟩) l.length c) l) (k : Ext w w') : RS w' (.slice (some ⟨b, 0, none⟩) l.length l.length) l := by
  rcases h with ⟨h, _⟩ | ⟨b', off, c', h, hb, hc, hj⟩
  · simp at h
  · simp only [Value.slice.injEq, Option.some.injEq, Addr.mk.injEq, and_true] at h
    obtain ⟨⟨rfl, rfl⟩, -, rfl⟩ := h
    exact .inr ⟨b, 0, l.length, rfl, Nat.lt_of_lt_of_le hb (Below.size k), Nat.le_refl _, fun j hj' => (k.cell hb).trans (hj j hj')⟩
theorem copy_ext {w w' : World} {g : Nat} {row : Array Value} (h : Ext w w') (hg : w.heap.size ≤ g) : Ext w (w'.setRow g row) :=
  Below.trans h ((mut_setRow (S := fun i => i = g) (w := w') rfl row).below (B := w.heap.size) (fun i hi => by omega) (Below.size h))
theorem Copy_any {S : Nat → Prop} {g : Nat} {s : Rc} (w : World) (q : RcAt w S g s) (hb : s.body.length ≤ 4096) : Calls Try.prog 19 #[.pointer (some ⟨g, 0, none⟩)] w fun e w' => e = .returned (.pointer (some ⟨w.heap.size, 0, none⟩)) ∧ Ext w w' ∧ (rcOb w.heap.size s).is w' (fun i => w.heap.size ≤ i) := by
  obtain ⟨h, v, q⟩ := q
  have h4 := q.h4
  obtain ⟨A, c, rfl⟩ := q.row.form
  obtain ⟨b0, b1, b2, b3, rfl⟩ : ∃ b0 b1 b2 b3, h = [b0, b1, b2, b3] := by
    rcases h with _ | ⟨b0, _ | ⟨b1, _ | ⟨b2, _ | ⟨b3, _ | _⟩⟩⟩⟩ <;> simp at h4
    exact ⟨_, _, _, _, rfl⟩
  have hld : (Instr.loadAt 48 (.pointer (some ⟨g, 0, none⟩))).run Try.prog w = .ok (.agg (bvs [b0, b1, b2, b3] ++ rcR s (.slice A s.body.length c)).toArray) w := loadAt_cs (P := Try.prog) Try.underlying48 (by kernel_rfl) fun j hj => by
    rw [cell_of_row _ _ _ _ _ _ q.hg, Nat.zero_add, List.getElem?_toArray, List.getElem?_eq_getElem hj]
  have hst := storeAt_row (P := Try.prog) (ty := 48) (cs := (bvs [b0, b1, b2, b3] ++ rcR s (.slice A s.body.length c)).toArray) (heap_alloc_last w (.cells (bvs [0, 0, 0, 0] ++ rcR rc0 (.slice none 0 0)).toArray 48)) (by kernel_rfl) (by simp [bvs, rcR]) (by kernel_rfl)
  obtain ⟨row, hrow⟩ : ∃ row, (bvs [b0, b1, b2, b3] ++ rcR s (.slice A s.body.length c)).toArray = row := ⟨_, rfl⟩
  rw [hrow] at hld hst
  have gl := heap_lt q.hg
  have Q := Lib.hid q
  have HL := Lib.hid hld
  have HS := Lib.hid hst
  have HR := Lib.hid hrow
  clear hld hst hrow q h4
  go_enter Try.func19, Try.ntmps19
  go_wp2_with (first | (refine wpList_ld rfl 48 (.tmp 7) rfl HL.out ?_; simp only [Act.put]) | (refine wpList_st rfl 48 (.tmp 3) (.tmp 8) rfl HS.out ?_; simp only [Act.put]))
  rw [World.setRow_alloc_new]
  have hx := extAl w (.cells row 48)
  have hg1 := heap_alloc_last w (.cells row 48)
  have HG1 := Lib.hid hg1
  have q1 := Q.out.ext hx
  have HX := Lib.hid hx
  obtain ⟨-, -, -, c7, -, -, -, gl⟩ := rc_cells q1.hg rfl
  have hsz : (w.alloc (.cells row 48)).heap.size > w.heap.size := by simp
  have Q1 := Lib.hid q1
  have hh4 := Q.out.hh
  clear HL HS hx hg1 q1 Q
  generalize w.alloc (.cells row 48) = V at *
  rw [← HR.out] at HG1
  clear HR
  have e0 : ∀ (ψ : World → Prop) (e : ExtP V.heap.size V ψ), e.val.cell? ⟨g, 7, none⟩ = some (.slice A s.body.length c) := fun ψ e => e.cell c7 gl
  clear c7
  rcases OwnZ_form Q1.out.row with ⟨rfl, hn⟩ | ⟨b, rfl, hc⟩
  · have hn0 : (s.body.length : Int) = 0 := by omega
    refine wp_region_pieces 15  [(true, [0, 1, 2, 3, 4, 5, 6, 7, 8, 9, 10, 11, 12, 13, 14])] (by kernel_rfl) (by kernel_rfl) ?_; simp only [pick, List.map_cons, List.map_nil, List.flatMap_cons, List.flatMap_nil, Option.toList_some, List.singleton_append, List.drop_succ_cons, List.drop_zero, List.getElem?_cons_zero, List.getElem?_cons_succ]
    refine ⟨by kernel_rfl, ?_⟩; apply Exists.intro; refine ⟨fun ψ hψ hne => (by (repeat (go_big_quiet_step (( fail )))); exact wpQuiet_nil rfl), ?_⟩
    intro W2 h2
    clear e0
    have HG2 := Lib.hid (Ext.blk h2 HG1.out)
    have hRS : RS W2 (.slice none 0 0) s.body := .inl ⟨rfl, List.length_eq_zero_iff.1 hn⟩
    have KC := Lib.hid (sclone_any _ _ W2 hRS (by omega))
    have hs2 := Below.size h2
    have HX2 := Lib.hid (Ext.trans HX.out h2)
    clear h2 hRS HG1 Q1 HX hn hn0
    go_wp2_with (go_at_call 25; refine KC.out.mono ?_; rintro e w3 ⟨v3, rfl, o3, hb3⟩; obtain ⟨A3, c3, rfl⟩ := o3.rs.form; have hg3 := Ext.blk hb3 HG2.out; obtain ⟨-, -, -, c7, -, -, cf, cl⟩ := rc_cells hg3 rfl; have hST : w3.setCell ⟨w.heap.size, 7, none⟩ (.slice A3 s.body.length c3) = w3.setRow w.heap.size (bvs [b0, b1, b2, b3] ++ rcR s (.slice A3 s.body.length c3)).toArray := rc_set 3 (.slice A3 s.body.length c3) hg3 rfl; have ST := Lib.hid hST; have O3 := Lib.hid (ownZ_row o3); have HX3 := Lib.hid (Ext.trans HX2.out hb3); have hgl3 := heap_lt hg3; have hgn := setRow_heap w3 w.heap.size _ (bvs [b0, b1, b2, b3] ++ rcR s (.slice A3 s.body.length c3)).toArray _ _ hg3; have HGN := Lib.hid hgn; have hOs := OwnR.set (row' := (bvs [b0, b1, b2, b3] ++ rcR s (.slice A3 s.body.length c3)).toArray) O3.out hg3 (by decide); have HOS := Lib.hid hOs; clear KC o3 hb3 hg3 hST hgn hOs)
    go_ret
    refine ⟨rfl, ?_, ?_⟩
    · rw [ST.out]; exact copy_ext HX3.out (Nat.le_refl _)
    · rw [ST.out]
      exact ⟨[b0, b1, b2, b3], .slice A3 s.body.length c3, { hg := HGN.out, h4 := rfl, hh := hh4, row := HOS.out.mono (Nat.zero_le _), sg := Nat.le_refl _, sv := fun b hb => by have := (own_lt O3.out hb).1; omega }⟩
  · have hcc : (s.body.length : Int) ≤ c := by omega
    refine wp_region_pieces 15  [(true, [0, 1, 2, 3, 4, 5, 6, 7, 8, 9, 10, 11, 12, 13, 14])] (by kernel_rfl) (by kernel_rfl) ?_; simp only [pick, List.map_cons, List.map_nil, List.flatMap_cons, List.flatMap_nil, Option.toList_some, List.singleton_append, List.drop_succ_cons, List.drop_zero, List.getElem?_cons_zero, List.getElem?_cons_succ]
    refine ⟨by kernel_rfl, ?_⟩; apply Exists.intro; refine ⟨fun ψ hψ hne => (by (repeat (go_big_quiet_step (( fail )))); exact wpQuiet_nil rfl), ?_⟩
    intro W2 h2
    clear e0
    have HG2 := Lib.hid (Ext.blk h2 HG1.out)
    have hRS : RS W2 (.slice (some ⟨b, 0, none⟩) s.body.length s.body.length) s.body := body_cut (own_rs Q1.out.row) h2
    have KC := Lib.hid (sclone_any _ _ W2 hRS (by omega))
    have hs2 := Below.size h2
    have HX2 := Lib.hid (Ext.trans HX.out h2)
    clear h2 hRS HG1 Q1 HX hcc
    go_wp2_with (go_at_call 25; refine KC.out.mono ?_; rintro e w3 ⟨v3, rfl, o3, hb3⟩; obtain ⟨A3, c3, rfl⟩ := o3.rs.form; have hg3 := Ext.blk hb3 HG2.out; obtain ⟨-, -, -, c7, -, -, cf, cl⟩ := rc_cells hg3 rfl; have hST : w3.setCell ⟨w.heap.size, 7, none⟩ (.slice A3 s.body.length c3) = w3.setRow w.heap.size (bvs [b0, b1, b2, b3] ++ rcR s (.slice A3 s.body.length c3)).toArray := rc_set 3 (.slice A3 s.body.length c3) hg3 rfl; have ST := Lib.hid hST; have O3 := Lib.hid (ownZ_row o3); have HX3 := Lib.hid (Ext.trans HX2.out hb3); have hgl3 := heap_lt hg3; have hgn := setRow_heap w3 w.heap.size _ (bvs [b0, b1, b2, b3] ++ rcR s (.slice A3 s.body.length c3)).toArray _ _ hg3; have HGN := Lib.hid hgn; have hOs := OwnR.set (row' := (bvs [b0, b1, b2, b3] ++ rcR s (.slice A3 s.body.length c3)).toArray) O3.out hg3 (by decide); have HOS := Lib.hid hOs; clear KC o3 hb3 hg3 hST hgn hOs)
    go_ret
    refine ⟨rfl, ?_, ?_⟩
    · rw [ST.out]; exact copy_ext HX3.out (Nat.le_refl _)
    · rw [ST.out]
      exact ⟨[b0, b1, b2, b3], .slice A3 s.body.length c3, { hg := HGN.out, h4 := rfl, hh := hh4, row := HOS.out.mono (Nat.zero_le _), sg := Nat.le_refl _, sv := fun b hb => by have := (own_lt O3.out hb).1; omega }⟩
end Go.Proofs.Ytbbkailmlaffjaa
