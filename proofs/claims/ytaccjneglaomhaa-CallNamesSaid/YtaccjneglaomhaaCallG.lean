/- Walks of packages call and jettyref03, that read: Hear. -/
import Derived.Test.YtaccjneglaomhaaCallF
import Derived.Test.YtaccjneglaomhaaCalmS
set_option linter.unusedVariables false
namespace Go.Proofs.Ytaccjneglaomhaa
open Go.RowKit

theorem st_struct {P : Program} {w : World} {g : Nat} {T : TypeId} {old cs : Array Value} (hg : w.heap[g]? = some (.cells old T (0, 0))) (hi : (P.info? T).map (·.size) = some cs.size) (ho : old.size = cs.size) (h1 : cs.all (·.oneCell') = true) :
    ∃ wd, (Instr.storeAt T (.pointer (some ⟨g, 0, none⟩)) (.agg cs)).run P w = .ok () wd ∧ wd.heap[g]? = some (.cells cs T (0, 0)) ∧ But g w wd :=
  ⟨_, storeAt_row hg hi ho h1, setRow_heap _ _ _ _ _ _ hg, rfl, rfl, rfl, by simp [World.setRow], fun i _ hne => setRow_other w g i _ (by simpa using hne)⟩

theorem sc_same {w : World} {g i : Nat} {T : TypeId} {cs : Array Value} (v : Value) (h : w.heap[g]? = some (.cells cs T (0, 0))) : (w.setCell ⟨g, i, none⟩ v).heap[g]? = some (.cells (cs.setIfInBounds i v) T (0, 0)) := by
  rw [setCell_eq_setRow _ g i _ _ _ _ h]; exact setRow_heap _ _ _ _ _ _ h
theorem sc_other {w : World} {g g' i : Nat} {T : TypeId} {cs : Array Value} {o : Option Obj} (v : Value) (h : w.heap[g]? = some (.cells cs T (0, 0))) (hne : g' ≠ g) (ho : w.heap[g']? = o) : (w.setCell ⟨g, i, none⟩ v).heap[g']? = o := by
  rw [setCell_eq_setRow _ g i _ _ _ _ h, setRow_other w g g' _ hne]; exact ho
theorem sc_size {w : World} {p : Addr} {v : Value} : (w.setCell p v).heap.size = w.heap.size := by
  unfold World.setCell; split <;> simp

/-- What a text is as an answer. -/
def cH (s : List UInt8) : AnsT × Int :=
  if 12 ≤ s.length ∧ wv s 1 = 1 ∧ mayB (wv s 2) (s.drop 12) = true then (⟨wv s 0, wv s 2, s.drop 12⟩, 0) else (⟨0, 0, []⟩, 4)
def aeV (r : AnsT × Int) : Value := .tuple #[r.1.v, .int .i64 r.2]

set_option maxHeartbeats 8000000 in
set_option maxRecDepth 100000 in
theorem cHear_any (s : List UInt8) (w : World) (hl : s.length ≤ 20000) :
    Calls Try.prog 34 #[.string (str s)] w fun e w' => e = .returned (aeV (cH s)) ∧ Below w.heap.size w w' := by
  have hs := str_size s
  have hz : aeV (⟨0, 0, []⟩, 4) = .tuple #[.agg #[.int .i64 0, .int .i64 0, .string ⟨#[]⟩], .int .i64 4] := rfl
  by_cases h5 : 12 ≤ s.length
  case neg =>
    rw [show cH s = (⟨0, 0, []⟩, 4) by simp [cH, h5], hz]
    go_enter Try.func34, Try.ntmps34
    go_wp2
    exact bodyPost_ret (by simp only [results, Try.results34]; go_simp) rfl ⟨rfl, by (repeat' (first | (with_reducible assumption) | (with_reducible exact Below.refl _ _) | (with_reducible refine below_sc ?_ ?_) | ((with_reducible show (_ : Nat) ≤ _); omega) | refine Below.setCell ?_ (by first | omega | (simp; done) | (simp; omega)) _ | refine Below.alloc ?_ (by first | omega | (simp; done) | (simp; omega)) _ | refine Below.drew ?_ | refine below_drewN ?_ _ | refine Below.trans ?_ (Below.mono (by assumption) (by first | omega | (simp; done) | (simp; omega)))))⟩
  clear hz
  have fin : ∀ v : AnsT × Int, cH s = v → aeV (cH s) = aeV v := fun v h => by rw [h]
  have FIN := Lib.hid fin
  clear fin
  have hx : (str s).extract 0 12 = str (s.take 12) := by rw [str_extract]; simp
  have hx2 : (str s).extract 12 s.length = str (s.drop 12) := by rw [str_extract, List.take_of_length_le (by simp)]
  have b0 := wv_bd s 0
  have b1 := wv_bd s 1
  have b2 := wv_bd s 2
  obtain ⟨vs, wb, hcv, hrs, hxb⟩ := conv_str (w.alloc (.cells #[.int .i64 0, .int .i64 0, .string ⟨#[]⟩] 41)) (s.take 12)
  go_enter Try.func34, Try.ntmps34
  go_wp2_with fail
  refine (newReader_o vs (s.take 12) wb hrs (by simp; omega)).mono ?_
  rintro e y0 ⟨g, rfl, o0, k0⟩
  have r0 := o0.rd
  rw [← rst_zero] at r0
  have hgl := r0.lt
  have hy0 : Ext (w.alloc (.cells #[.int .i64 0, .int .i64 0, .string ⟨#[]⟩] 41)) y0 := hxb.trans k0
  have hgb : w.heap.size + 1 ≤ g := by
    obtain ⟨_, _, _, h⟩ := o0
    have := hxb.size
    simp at this
    omega
  clear hcv
  go_wp2_with fail
  refine (word_at g s 12 0 _ r0 (by omega) h5).mono ?_
  rintro e y1 ⟨rfl, r1, j1⟩
  go_wp2_with fail
  refine (word_at g s 12 1 _ r1 (by omega) h5).mono ?_
  rintro e y2 ⟨rfl, r2, j2⟩
  have hyy : Mut (fun i => i = g) (w.alloc (.cells #[.int .i64 0, .int .i64 0, .string ⟨#[]⟩] 41)) y2 := (Mut.of_ext hy0).trans ((Mut.of_grown j1 (fun b hb => by simpa using hb.symm)).trans (Mut.of_grown j2 (fun b hb => by simpa using hb.symm)))
  go_wp2_with fail
  refine wp_region_piecesA (fun i => i = g) 8 7 [(true, [0, 1, 4, 5]), (false, [2]), (true, [3, 6])] (O := .cells #[.int .i64 0, .int .i64 0, .string ⟨#[]⟩] 41) (by kernel_rfl) (by kernel_rfl) rfl rfl (fun _ _ => by go_simp) (by rintro k rfl; exact r2.lt) ?_; simp only [pick, List.map_cons, List.map_nil, List.flatMap_cons, List.flatMap_nil, Option.toList_some, List.singleton_append, List.drop_succ_cons, List.drop_zero, List.getElem?_cons_zero, List.getElem?_cons_succ]
  refine ⟨by kernel_rfl, ?_⟩; apply Exists.intro; refine ⟨fun ψ hψ hne => (by (repeat (go_big_quiet_step (( fail )))); exact wpQuiet_nil rfl), ?_⟩
  intro wa ha K hK
  go_wp2_with fail
  refine (word_at g s 12 2 _ (r2.ext ha) (by omega) h5).mono ?_
  rintro e y3 ⟨rfl, r3, j3⟩
  go_wp2_with fail
  refine hK _ _ (Mut.of_grown j3 (fun b hb => by simpa using hb.symm)) ?_
  clear hK K
  refine ⟨by kernel_rfl, ?_⟩; apply Exists.intro; refine ⟨fun ψ hψ hne => (by (repeat (go_big_quiet_step (( fail )))); exact wpQuiet_nil rfl), ?_⟩
  intro wc hc gh hgh hns hblk2
  have hyc := (hyy.trans ((Mut.of_ext ha).trans (Mut.of_grown j3 (fun b hb => by simpa using hb.symm)))).trans (Mut.of_ext hc)
  have hys := hyy.size
  simp only [World.size_alloc] at hys
  have hg0 : w.heap.size ≠ g := by omega
  have hg1 : w.heap.size < gh := by omega
  have hres := (hyc.block w.heap.size (by simp) hg0).trans (heap_alloc_last w _)
  have hbel : Below w.heap.size w wc := Below.trans (ext_alloc w _) (hyc.below (by rintro i rfl; omega) (by simp))
  obtain ⟨wd, hst, hgd, hbd⟩ := st_struct (P := Try.prog) (cs := #[.int .i64 (wv s 0), .int .i64 (wv s 2), .string (str (s.drop 12))]) hblk2 (by kernel_rfl) rfl (by simp [Value.oneCell'])
  obtain ⟨p0, p1, p2, q0, q1, q2, hlt2⟩ := blk3 hgd
  obtain ⟨c0, c1, c2, f0, f1, f2, hlt0⟩ := blk3 ((hbd.block w.heap.size (Nat.lt_of_lt_of_le (by simp) hyc.size) (by simp; omega)).trans hres)
  have hbel : Below w.heap.size w wd := hbel.trans (hbd.below (by omega) hbel.size)
  have hne := Nat.ne_of_lt hg1
  have hne' := hne.symm
  refine wpList_st rfl 41 (.tmp 7) (.tmp 27) rfl hst ?_
  clear hst hgd hbd hres hyc hyy hblk2 hc hns hgh ha r0 r1 r2 r3 o0 k0 hy0 hxb hrs hgb hgl hys j1 j2 j3
  by_cases h6 : wv s 1 = 1
  case neg =>
    have e := Lib.hid (FIN.out (⟨0, 0, []⟩, 4) (by simp [cH, h6]))
    have h6b : (wv s 1 != 1) = true := bne_iff_ne.2 h6
    go_wp2_with fail
    exact bodyPost_ret (v := .tuple #[.agg #[.int .i64 0, .int .i64 0, .string ⟨#[]⟩], .int .i64 4]) (by simp only [results, Try.results34]; go_simp) rfl ⟨by rw [e.out]; rfl, by (repeat' (first | (with_reducible assumption) | (with_reducible refine below_sc ?_ ?_) | (with_reducible refine Below.alloc ?_ ?_ _) | omega))⟩
  cases h7 : mayB (wv s 2) (s.drop 12) with
  | false =>
    have e := Lib.hid (FIN.out (⟨0, 0, []⟩, 4) (by simp [cH, h7]))
    go_wp2_with (go_at_call 68; with_reducible refine (may_any _ _ _ h7 _).mono ?_; rintro r w' ⟨rfl, rfl⟩)
    exact bodyPost_ret (v := .tuple #[.agg #[.int .i64 0, .int .i64 0, .string ⟨#[]⟩], .int .i64 4]) (by simp only [results, Try.results34]; go_simp) rfl ⟨by rw [e.out]; rfl, by (repeat' (first | (with_reducible assumption) | (with_reducible refine below_sc ?_ ?_) | (with_reducible refine Below.alloc ?_ ?_ _) | omega))⟩
  | true =>
    have e := Lib.hid (FIN.out (⟨wv s 0, wv s 2, s.drop 12⟩, 0) (by simp [cH, h5, h6, h7]))
    go_wp2_with (go_at_call 68; with_reducible refine (may_any _ _ _ h7 _).mono ?_; rintro r w' ⟨rfl, rfl⟩)
    exact bodyPost_ret (v := .tuple #[.agg #[.int .i64 (wv s 0), .int .i64 (wv s 2), .string (str (s.drop 12))], .int .i64 0]) (by simp only [results, Try.results34]; go_simp) rfl ⟨by rw [e.out]; rfl, by (repeat' (first | (with_reducible assumption) | (with_reducible refine below_sc ?_ ?_) | (with_reducible refine Below.alloc ?_ ?_ _) | omega))⟩

theorem isW_wv (s : List UInt8) (i : Nat) : isW (wv s i) = true := by
  have := wv_bd s i
  simp only [isW, decide_eq_true_eq]
  omega

set_option maxHeartbeats 8000000 in
set_option maxRecDepth 100000 in
theorem rHear_any (s : List UInt8) (w : World) (hl : s.length ≤ 10000) :
    Calls Try.prog 35 #[.string (str s)] w fun e w' => e = .returned (aeV (cH s)) ∧ Below w.heap.size w w' := by
  have hs := str_size s
  have hz : aeV (⟨0, 0, []⟩, 4) = .tuple #[.agg #[.int .i64 0, .int .i64 0, .string ⟨#[]⟩], .int .i64 4] := rfl
  by_cases h5 : 12 ≤ s.length
  case neg =>
    rw [show cH s = (⟨0, 0, []⟩, 4) by simp [cH, h5], hz]
    go_enter Try.func35, Try.ntmps35
    go_wp2
    exact bodyPost_ret (by simp only [results, Try.results35]; go_simp) rfl ⟨rfl, by (repeat' (first | (with_reducible assumption) | (with_reducible exact Below.refl _ _) | (with_reducible refine below_sc ?_ ?_) | ((with_reducible show (_ : Nat) ≤ _); omega) | refine Below.setCell ?_ (by first | omega | (simp; done) | (simp; omega)) _ | refine Below.alloc ?_ (by first | omega | (simp; done) | (simp; omega)) _ | refine Below.drew ?_ | refine below_drewN ?_ _ | refine Below.trans ?_ (Below.mono (by assumption) (by first | omega | (simp; done) | (simp; omega)))))⟩
  clear hz
  have fin : ∀ v : AnsT × Int, cH s = v → aeV (cH s) = aeV v := fun v h => by rw [h]
  have FIN := Lib.hid fin
  clear fin
  have hx : (str s).extract 0 12 = str (s.take 12) := by rw [str_extract]; simp
  have hx2 : (str s).extract 12 s.length = str (s.drop 12) := by rw [str_extract, List.take_of_length_le (by simp)]
  have b0 := wv_bd s 0
  have b1 := wv_bd s 1
  have b2 := wv_bd s 2
  obtain ⟨vs, wb, hcv, hrs, hxb⟩ := conv_str (w.alloc (.cells #[.int .i64 0, .int .i64 0, .string ⟨#[]⟩] 35)) (s.take 12)
  go_enter Try.func35, Try.ntmps35
  go_wp2_with fail
  refine (rnewReader_o vs (s.take 12) wb hrs (by simp; omega)).mono ?_
  rintro e y0 ⟨g, rfl, o0, k0⟩
  have r0 := o0.rd
  rw [← rst_zero] at r0
  have hgl := r0.lt
  have hy0 : Ext (w.alloc (.cells #[.int .i64 0, .int .i64 0, .string ⟨#[]⟩] 35)) y0 := hxb.trans k0
  have hgb : w.heap.size + 1 ≤ g := by
    obtain ⟨_, _, _, h⟩ := o0
    have := hxb.size
    simp at this
    omega
  clear hcv
  go_wp2_with fail
  refine (rword_at g s 12 0 _ r0 (by omega) h5).mono ?_
  rintro e y1 ⟨rfl, r1, j1⟩
  have xa : Ext y1 (y1.alloc (.cells #[.int .i64 (wv s 0), .int .i64 0, .string ⟨#[]⟩] 35)) := ext_alloc _ _
  have hga : (y1.alloc (.cells #[.int .i64 (wv s 0), .int .i64 0, .string ⟨#[]⟩] 35)).heap[y1.heap.size]? = some (.cells #[.int .i64 (wv s 0), .int .i64 0, .string ⟨#[]⟩] 35 (0, 0)) := heap_alloc_last _ _
  go_wp2_with fail
  have hgg : g < y1.heap.size := r1.lt
  refine (rword_at g s 12 1 _ (r1.ext xa) (by omega) h5).mono ?_
  rintro e y2 ⟨rfl, r2, j2⟩
  go_wp2_with fail
  refine (rword_at g s 12 2 _ r2 (by omega) h5).mono ?_
  rintro e y3 ⟨rfl, r3, j3⟩
  have m23 : Mut (fun i => i = g) (y1.alloc (.cells #[.int .i64 (wv s 0), .int .i64 0, .string ⟨#[]⟩] 35)) y3 := (Mut.of_grown j2 (fun b hb => by simpa using hb.symm)).trans (Mut.of_grown j3 (fun b hb => by simpa using hb.symm))
  have hg3 := (m23.block y1.heap.size (Array.getElem?_eq_some_iff.1 hga).1 (by omega)).trans hga
  have hyc : Mut (fun i => i = g) (w.alloc (.cells #[.int .i64 0, .int .i64 0, .string ⟨#[]⟩] 35)) y3 := (Mut.of_ext hy0).trans ((Mut.of_grown j1 (fun b hb => by simpa using hb.symm)).trans ((Mut.of_ext xa).trans m23))
  have hg0 : w.heap.size ≠ g := by omega
  have hg1 : w.heap.size < y1.heap.size := by omega
  have hres := (hyc.block w.heap.size (by simp) hg0).trans (heap_alloc_last w _)
  have hbel : Below w.heap.size w y3 := Below.trans (ext_alloc w _) (hyc.below (by rintro i rfl; omega) (by simp))
  obtain ⟨p0, p1, p2, q0, q1, q2, hlt2⟩ := blk3 hg3
  obtain ⟨c0, c1, c2, f0, f1, f2, hlt0⟩ := blk3 hres
  have hne := Nat.ne_of_lt hg1
  have hne' := hne.symm
  have HG := Lib.hid hg3
  have HR := Lib.hid hres
  clear hres hyc m23 hg3 hga xa r0 r1 r2 r3 o0 k0 hy0 hxb hrs hgb hgl j1 j2 j3
  by_cases h6 : wv s 1 = 1
  case neg =>
    have e := Lib.hid (FIN.out (⟨0, 0, []⟩, 4) (by simp [cH, h6]))
    have h6b : (wv s 1 != 1) = true := bne_iff_ne.2 h6
    go_wp2_with fail
    exact bodyPost_ret (v := .tuple #[.agg #[.int .i64 0, .int .i64 0, .string ⟨#[]⟩], .int .i64 4]) (by simp only [results, Try.results35]; go_simp) rfl ⟨by rw [e.out]; rfl, by (repeat' (first | (with_reducible assumption) | (with_reducible refine below_sc ?_ ?_) | (with_reducible refine Below.alloc ?_ ?_ _) | omega))⟩
  have hd : ansV (wv s 0) (wv s 2) (s.drop 12) = .agg #[.int .i64 (wv s 0), .int .i64 (wv s 2), .string (str (s.drop 12))] := rfl
  cases h7 : mayB (wv s 2) (s.drop 12) with
  | false =>
    have hmay := fun w => rmay_any (wv s 0) (wv s 2) (s.drop 12) false (by rw [h7, isW_wv]; rfl) w
    rw [hd] at hmay
    have e := Lib.hid (FIN.out (⟨0, 0, []⟩, 4) (by simp [cH, h7]))
    have HM := Lib.hid hmay
    clear hmay hd h7
    go_wp2_with fail
    refine (HM.out _).mono ?_
    rintro e4 w4 ⟨rfl, hb4⟩
    have hh1 := sc_same (i := 2) (.string (str (s.drop 12))) (sc_same (i := 1) (.int .i64 (wv s 2)) HG.out)
    have hh2 := sc_other (i := 2) (.string (str (s.drop 12))) (sc_same (i := 1) (.int .i64 (wv s 2)) HG.out) hne (sc_other (i := 1) (.int .i64 (wv s 2)) HG.out hne HR.out)
    have hs4 := hb4.size
    have hh1' := (hb4.block y1.heap.size (by simp only [sc_size]; exact hlt2)).trans hh1
    have hh2' := (hb4.block w.heap.size (by simp only [sc_size]; exact hlt0)).trans hh2
    simp only [sc_size] at hs4
    obtain ⟨p0, p1, p2, q0, q1, q2, hlt2⟩ := blk3 hh1'
    obtain ⟨c0, c1, c2, f0, f1, f2, hlt0⟩ := blk3 hh2'
    have hbel : Below w.heap.size w w4 := Below.trans (below_sc (below_sc hbel (Nat.le_of_lt hg1)) (Nat.le_of_lt hg1)) (hb4.mono (by simp only [sc_size]; omega))
    clear hh1 hh2 hh1' hh2' hb4
    go_wp2_with fail
    exact bodyPost_ret (v := .tuple #[.agg #[.int .i64 0, .int .i64 0, .string ⟨#[]⟩], .int .i64 4]) (by simp only [results, Try.results35]; go_simp) rfl ⟨by rw [e.out]; rfl, by (repeat' (first | (with_reducible assumption) | (with_reducible refine below_sc ?_ ?_) | (with_reducible refine Below.alloc ?_ ?_ _) | omega))⟩
  | true =>
    have hmay := fun w => rmay_any (wv s 0) (wv s 2) (s.drop 12) true (by rw [h7, isW_wv]; rfl) w
    rw [hd] at hmay
    have e := Lib.hid (FIN.out (⟨wv s 0, wv s 2, s.drop 12⟩, 0) (by simp [cH, h5, h6, h7]))
    have HM := Lib.hid hmay
    clear hmay hd h7
    go_wp2_with fail
    refine (HM.out _).mono ?_
    rintro e4 w4 ⟨rfl, hb4⟩
    have hh1 := sc_same (i := 2) (.string (str (s.drop 12))) (sc_same (i := 1) (.int .i64 (wv s 2)) HG.out)
    have hh2 := sc_other (i := 2) (.string (str (s.drop 12))) (sc_same (i := 1) (.int .i64 (wv s 2)) HG.out) hne (sc_other (i := 1) (.int .i64 (wv s 2)) HG.out hne HR.out)
    have hs4 := hb4.size
    have hh1' := (hb4.block y1.heap.size (by simp only [sc_size]; exact hlt2)).trans hh1
    have hh2' := (hb4.block w.heap.size (by simp only [sc_size]; exact hlt0)).trans hh2
    simp only [sc_size] at hs4
    obtain ⟨p0, p1, p2, q0, q1, q2, hlt2⟩ := blk3 hh1'
    obtain ⟨c0, c1, c2, f0, f1, f2, hlt0⟩ := blk3 hh2'
    have hbel : Below w.heap.size w w4 := Below.trans (below_sc (below_sc hbel (Nat.le_of_lt hg1)) (Nat.le_of_lt hg1)) (hb4.mono (by simp only [sc_size]; omega))
    clear hh1 hh2 hh1' hh2' hb4
    go_wp2_with fail
    exact bodyPost_ret (v := .tuple #[.agg #[.int .i64 (wv s 0), .int .i64 (wv s 2), .string (str (s.drop 12))], .int .i64 0]) (by simp only [results, Try.results35]; go_simp) rfl ⟨by rw [e.out]; rfl, by (repeat' (first | (with_reducible assumption) | (with_reducible refine below_sc ?_ ?_) | (with_reducible refine Below.alloc ?_ ?_ _) | omega))⟩
end Go.Proofs.Ytaccjneglaomhaa
