/- Walks of package jettyref03, that read: Read. -/
import Derived.Test.YtaccjneglaomhaaCallE
set_option linter.unusedVariables false
namespace Go.Proofs.Ytaccjneglaomhaa
open Go.RowKit

theorem Rd.grown {T : TypeId} {w w' : World} {g : Nat} {gb : Option Nat} {s : St} (h : Rd T w g s) (k : w.grownBy w' gb) (hne : some g ≠ gb) (hn : ∀ b o u, gb = some b → w.cell? ⟨b, o, none⟩ = some u → NoB u) : Rd T w' g s := by
  have hl := h.lt
  obtain ⟨A, c, hg, hr⟩ := h
  exact ⟨A, c, (k.block g hl hne).trans hg, hr.grown k hn⟩
theorem OwnR.ne {w : World} {B : Nat} {T : TypeId} {sz : Nat} {C : Value → Prop} {v : Value} {n : Nat} {cs : List Value} {g : Nat} (h : OwnR w B T sz C v n cs) (hg : g < B) : some g ≠ v.ownBlock := by
  intro he
  obtain ⟨_, ⟨rfl, rfl⟩ | ⟨g', c, junk, rfl, hB, _, _⟩⟩ := h
  · simp [Value.ownBlock] at he
  · have : g = g' := by simpa [Value.ownBlock] using he
    omega
theorem nob_int (n : Int) : NoB (.int .i64 n) := by intro x h; simp [bv] at h
theorem nob_ints (l : List Int) : ∀ u ∈ l.map (Value.int .i64), NoB u := by
  intro u hu
  obtain ⟨n, _, rfl⟩ := List.mem_map.1 hu
  exact nob_int n
theorem one_ints (l : List Int) : ∀ u ∈ l.map (Value.int .i64), u.oneCell' = true := by
  intro u hu
  obtain ⟨n, _, rfl⟩ := List.mem_map.1 hu
  rfl
theorem appI {w : World} {B : Nat} {v x : Value} {n m : Nat} {cs new : List Value} {tx ty : TypeId} (ho : OwnR w B 3 1 NoB v n cs) (hs : Src Try.prog 1 tx x m new w) (hB : B ≤ w.heap.size) (hCn : ∀ u ∈ new, NoB u) (hc : n + m ≤ 100000000) :
    ∃ v' w', (Builtin.append_ #[71, tx] ty #[v, x]).run Try.prog w = .ok v' w' ∧ OwnR w' B 3 1 NoB v' (n + m) (cs ++ new) ∧ Below B w w' ∧ w.grownBy w' v.ownBlock := by
  have h : (Try.prog.info? 3).map (fun i => (i.zero, i.size, i.bytes)) = some (some (.int .i64 0), 1, 8) := by kernel_rfl
  obtain ⟨i, hi, hz0, hz1, hz2⟩ := info_parts h
  exact appG Try.underlying71 hi hz1 hz0 rfl ho hs hB (by omega) hCn (by intro u hu; simp [Value.cells] at hu; subst hu; exact nob_int 0) (by rw [hz2]; omega) (by omega)
theorem int_src {w : World} {g n c : Nat} {T : TypeId} {fr : Nat × Nat} {l : List Int} (hg : w.heap[g]? = some (.cells (l.map (Value.int .i64)).toArray T fr)) (hl : l.length = n) : Src Try.prog 1 71 (.slice (some ⟨g, 0, none⟩) n c) n (l.map (Value.int .i64)) w :=
  src_row Try.underlying71 hg (by simpa using hl) (one_ints l)

/-- The first k words of a text. -/
def wvs (s : List UInt8) (k : Nat) : List Int := (List.range k).map (wv s)
theorem wvs_succ (s : List UInt8) (k : Nat) : wvs s (k + 1) = wvs s k ++ [wv s k] := by simp [wvs, List.range_succ]
def InL (s : List UInt8) (n : Nat) (w0 : World) (g B : Nat) (v : Value) (k : Nat) (wr : World) : Prop := OwnR wr B 3 1 NoB v k ((wvs s k).map (Value.int .i64)) ∧ Rd 67 wr g (rst s n k) ∧ Below g w0 wr ∧ B ≤ wr.heap.size

set_option maxHeartbeats 8000000 in
set_option maxRecDepth 100000 in
theorem rRead_any (s : List UInt8) (w : World) (hl : s.length ≤ 10000) :
    Calls Try.prog 33 #[.string (str s)] w fun e w' => e = .returned (heV (cR s)) ∧ Below w.heap.size w w' := by
  have hs := str_size s
  have hz : heV (⟨0, 0, 0, []⟩, 4) = .tuple #[.agg #[.int .i64 0, .int .i64 0, .int .i64 0, .string ⟨#[]⟩], .int .i64 4] := rfl
  by_cases h1 : s.length ≤ 4096
  case neg =>
    rw [show cR s = (⟨0, 0, 0, []⟩, 4) by simp [cR, h1], hz]
    go_enter Try.func33, Try.ntmps33
    go_wp2
    exact bodyPost_ret (by simp only [results, Try.results33]; go_simp) rfl ⟨rfl, by (repeat' (first | (with_reducible assumption) | (with_reducible exact Below.refl _ _) | (with_reducible refine below_sc ?_ ?_) | ((with_reducible show (_ : Nat) ≤ _); omega) | refine Below.setCell ?_ (by first | omega | (simp; done) | (simp; omega)) _ | refine Below.alloc ?_ (by first | omega | (simp; done) | (simp; omega)) _ | refine Below.drew ?_ | refine below_drewN ?_ _ | refine Below.trans ?_ (Below.mono (by assumption) (by first | omega | (simp; done) | (simp; omega)))))⟩
  by_cases h4 : s.length % 4 = 0
  case neg =>
    have h4' : ¬ (s.length : Int) % 4 = 0 := by omega
    have h4b : ((s.length : Int) % 4 != 0) = true := bne_iff_ne.2 h4'
    rw [show cR s = (⟨0, 0, 0, []⟩, 4) by simp [cR, wh, h4], hz]
    go_enter Try.func33, Try.ntmps33
    go_wp2
    exact bodyPost_ret (by simp only [results, Try.results33]; go_simp) rfl ⟨rfl, by (repeat' (first | (with_reducible assumption) | (with_reducible exact Below.refl _ _) | (with_reducible refine below_sc ?_ ?_) | ((with_reducible show (_ : Nat) ≤ _); omega) | refine Below.setCell ?_ (by first | omega | (simp; done) | (simp; omega)) _ | refine Below.alloc ?_ (by first | omega | (simp; done) | (simp; omega)) _ | refine Below.drew ?_ | refine below_drewN ?_ _ | refine Below.trans ?_ (Below.mono (by assumption) (by first | omega | (simp; done) | (simp; omega)))))⟩
  have h4' : (s.length : Int) % 4 = 0 := by omega
  have hwh : wh s = true := by simp [wh, h4]
  by_cases h5 : 24 ≤ s.length
  case neg =>
    rw [show cR s = (⟨0, 0, 0, []⟩, 4) by simp [cR, h5], hz]
    go_enter Try.func33, Try.ntmps33
    go_wp2
    exact bodyPost_ret (by simp only [results, Try.results33]; go_simp) rfl ⟨rfl, by (repeat' (first | (with_reducible assumption) | (with_reducible exact Below.refl _ _) | (with_reducible refine below_sc ?_ ?_) | ((with_reducible show (_ : Nat) ≤ _); omega) | refine Below.setCell ?_ (by first | omega | (simp; done) | (simp; omega)) _ | refine Below.alloc ?_ (by first | omega | (simp; done) | (simp; omega)) _ | refine Below.drew ?_ | refine below_drewN ?_ _ | refine Below.trans ?_ (Below.mono (by assumption) (by first | omega | (simp; done) | (simp; omega)))))⟩
  clear hz
  have hx : (str s).extract 0 24 = str (s.take 24) := by rw [str_extract]; simp
  have hx2 : (str s).extract 24 s.length = str (s.drop 24) := by rw [str_extract, List.take_of_length_le (by simp)]
  have hb := wv_bd s
  have b0 := hb 0
  have b1 := hb 1
  have b2 := hb 2
  have b3 := hb 3
  have b4 := hb 4
  have b5 := hb 5
  have HB := Lib.hid hb
  clear hb
  obtain ⟨vs, wb, hcv, hrs, hxb⟩ := conv_str (w.alloc (.cells #[.int .i64 0, .int .i64 0, .int .i64 0, .string ⟨#[]⟩] 32)) (s.take 24)
  go_enter Try.func33, Try.ntmps33
  go_wp2_with fail
  refine (rnewReader_o vs (s.take 24) wb hrs (by simp; omega)).mono ?_
  rintro e y0 ⟨g, rfl, o0, k0⟩
  have r0 := o0.rd
  rw [← rst_zero] at r0
  have hgl := r0.lt
  have hy0 : Ext (w.alloc (.cells #[.int .i64 0, .int .i64 0, .int .i64 0, .string ⟨#[]⟩] 32)) y0 := hxb.trans k0
  have hgb : w.heap.size + 1 ≤ g := by
    obtain ⟨_, _, _, h⟩ := o0
    have := hxb.size
    simp at this
    omega
  have HL : Hid (InL s 24 y0 g y0.heap.size (.slice none 0 0) 0 y0) := ⟨OwnR.nil, r0, Below.refl _ _, Nat.le_refl _⟩
  clear hcv
  go_wp2_with fail
  go_loopw [5, 6] (fun v i wr => ∃ k : Nat, k ≤ 6 ∧ i = .int .i64 k ∧ Hid (InL s 24 y0 g y0.heap.size v k wr)) (fun _ i _ => 6 - (intOf i).toNat)
  case atStart => exact ⟨0, by omega, rfl, HL⟩
  case round =>
    obtain ⟨k, hk, rfl, HK⟩ := hrel
    obtain ⟨ho, hr, hbut, hsz⟩ := HK.out
    by_cases hlt : k < 6
    · have hbk := HB.out k
      obtain ⟨A, c, rfl⟩ := ho.form
      go_wp2_with fail
      refine (rword_at g s 24 k _ hr (by omega) h5).mono ?_
      rintro e w1 ⟨rfl, r1, k1⟩
      obtain ⟨v2, w2, hr2, ho2, hb2, hg2⟩ := appI (ty := 71) ((ho.grown k1 hgl).ext (ext_alloc w1 (.cells #[.int .i64 (wv s k)] 3))) (int_src (n := 1) (c := 1) (l := [wv s k]) (heap_alloc_last w1 _) rfl) (by have := k1.size; simp; omega) (nob_ints _) (by omega)
      have H2 : Hid (InL s 24 y0 g y0.heap.size v2 (k + 1) w2) := by
        have ho1 := (ho.grown k1 hgl).ext (ext_alloc w1 (.cells #[.int .i64 (wv s k)] 3))
        have hgw : g ≤ w1.heap.size := Nat.le_trans (Nat.le_of_lt hgl) (Nat.le_trans hsz k1.size)
        refine ⟨?_, (r1.ext (ext_alloc _ _)).grown hg2 (ho1.ne hgl) ho1.nob, (hbut.trans (k1.below (Nat.le_refl _) (by omega))).trans (((ext_alloc _ _ : Ext w1 _).mono hgw).trans (hb2.mono (by omega))), Nat.le_trans hsz (Nat.le_trans k1.size (Nat.le_trans (by simp) hb2.size))⟩
        rw [wvs_succ, List.map_append]
        exact ho2
      clear hb2 hg2 ho2
      go_wp2_with (at_builtin; refine wpList_app rfl _ _ _ _ rfl hr2 ?_)
      go_roundw
      case rel => exact ⟨k + 1, by omega, by go_num, H2⟩
      case measure => simp [intOf]; omega
    · obtain rfl : k = 6 := by omega
      obtain ⟨A, c, rfl⟩ := ho.form
      obtain ⟨gr, rfl, hgr, hgrl, hcap, hcs⟩ := ho.cells (by omega)
      have hcap := hcap (by omega)
      have d0 : wr.cell? ⟨gr, 0, none⟩ = some (.int .i64 (wv s 0)) := hcs 0 (by simp [wvs])
      have d1 : wr.cell? ⟨gr, 1, none⟩ = some (.int .i64 (wv s 1)) := hcs 1 (by simp [wvs])
      have d2 : wr.cell? ⟨gr, 2, none⟩ = some (.int .i64 (wv s 2)) := hcs 2 (by simp [wvs])
      have d3 : wr.cell? ⟨gr, 3, none⟩ = some (.int .i64 (wv s 3)) := hcs 3 (by simp [wvs])
      have d4 : wr.cell? ⟨gr, 4, none⟩ = some (.int .i64 (wv s 4)) := hcs 4 (by simp [wvs])
      have d5 : wr.cell? ⟨gr, 5, none⟩ = some (.int .i64 (wv s 5)) := hcs 5 (by simp [wvs])
      obtain ⟨wo, rfl⟩ : ∃ wo : World, wo = wr := ⟨_, rfl⟩
      have hblk : wo.heap[w.heap.size]? = some (.cells #[.int .i64 0, .int .i64 0, .int .i64 0, .string ⟨#[]⟩] 32 (0, 0)) :=
        (hbut.block _ (by omega)).trans ((hy0.block _ (by simp)).trans (heap_alloc_last _ _))
      have hbel : Below w.heap.size w wo := Below.trans ((ext_alloc w _).trans (hy0.mono (by simp))) (hbut.mono (by omega))
      have HBK := Lib.hid hblk
      obtain ⟨c0, c1, c2, c3, f0, f1, f2, f3, hlt0⟩ := blk4 hblk
      clear hblk hcs hrs o0 k0 r0 HL HK HB ho hr hxb
      have fin : ∀ v : HeadT × Int, cR s = v → heV (cR s) = heV v := fun v h => by rw [h]
      by_cases h6 : wv s 1 = 0
      case neg =>
        have e := Lib.hid (fin (⟨0, 0, 0, []⟩, 4) (by simp [cR, h6]))
        have h6b : (wv s 1 != 0) = true := bne_iff_ne.2 h6
        go_wp2_with fail
        exact bodyPost_ret (v := .tuple #[.agg #[.int .i64 0, .int .i64 0, .int .i64 0, .string ⟨#[]⟩], .int .i64 4]) (by simp only [results, Try.results33]; go_simp) rfl ⟨by rw [e.out]; rfl, by (repeat' (first | (with_reducible assumption) | (with_reducible refine below_sc ?_ ?_) | (with_reducible refine Below.alloc ?_ ?_ _) | omega))⟩
      by_cases h7 : 1 ≤ wv s 4
      case neg =>
        have e := Lib.hid (fin (⟨0, 0, 0, []⟩, 4) (by simp [cR, h7]))
        go_wp2_with fail
        exact bodyPost_ret (v := .tuple #[.agg #[.int .i64 0, .int .i64 0, .int .i64 0, .string ⟨#[]⟩], .int .i64 4]) (by simp only [results, Try.results33]; go_simp) rfl ⟨by rw [e.out]; rfl, by (repeat' (first | (with_reducible assumption) | (with_reducible refine below_sc ?_ ?_) | (with_reducible refine Below.alloc ?_ ?_ _) | omega))⟩
      by_cases h8 : wv s 4 ≤ 16
      case neg =>
        have e := Lib.hid (fin (⟨0, 0, 0, []⟩, 4) (by simp [cR, h8]))
        go_wp2_with fail
        exact bodyPost_ret (v := .tuple #[.agg #[.int .i64 0, .int .i64 0, .int .i64 0, .string ⟨#[]⟩], .int .i64 4]) (by simp only [results, Try.results33]; go_simp) rfl ⟨by rw [e.out]; rfl, by (repeat' (first | (with_reducible assumption) | (with_reducible refine below_sc ?_ ?_) | (with_reducible refine Below.alloc ?_ ?_ _) | omega))⟩
      go_wp2_with fail
      refine wp_region_pieces 11 [(true, [0, 1, 2, 3, 4, 5, 6, 7, 8, 9]), (false, [10])] (by kernel_rfl) (by kernel_rfl) ?_; simp only [pick, List.map_cons, List.map_nil, List.flatMap_cons, List.flatMap_nil, Option.toList_some, List.singleton_append, List.drop_succ_cons, List.drop_zero, List.getElem?_cons_zero, List.getElem?_cons_succ]
      refine ⟨by kernel_rfl, ?_⟩; apply Exists.intro; refine ⟨fun ψ hψ hne => (by (have x0 : ∀ e : ExtP wo.heap.size wo ψ, _ := fun e => e.cell d0 hgrl); (have x4 : ∀ e : ExtP wo.heap.size wo ψ, _ := fun e => e.cell d4 hgrl); (have x5 : ∀ e : ExtP wo.heap.size wo ψ, _ := fun e => e.cell d5 hgrl); (repeat (go_big_quiet_step (( fail )))); exact wpQuiet_nil rfl), ?_⟩
      intro wa ha K hK
      go_wp2_with fail
      refine hK _ _ (ext_alloc _ _) ?_
      clear hK K
      intro wc hc
      have hac : Ext wo wc := (ha.trans (ext_alloc _ _)).trans hc
      have hblk2 := (hc.block _ (by simp)).trans (heap_alloc_last wa (.cells #[.int .i64 0, .int .i64 0, .int .i64 0, .string ⟨#[]⟩] 32))
      obtain ⟨gh, hgh⟩ : ∃ gh, gh = wa.heap.size := ⟨_, rfl⟩
      rw [← hgh] at hblk2
      have hlw : w.heap.size < gh := by have := ha.size; omega
      have hwg : wo.heap.size ≤ gh := by rw [hgh]; exact ha.size
      obtain ⟨wd, hst, hgd, hbd⟩ : ∃ wd, (Instr.storeAt 32 (.pointer (some ⟨gh, 0, none⟩)) (.agg #[.int .i64 (wv s 4), .int .i64 (wv s 0), .int .i64 (wv s 5), .string ⟨#[]⟩])).run Try.prog wc = .ok () wd ∧ wd.heap[gh]? = some (.cells #[.int .i64 (wv s 4), .int .i64 (wv s 0), .int .i64 (wv s 5), .string ⟨#[]⟩] 32 (0, 0)) ∧ But gh wc wd :=
        ⟨_, storeAt_row hblk2 (by kernel_rfl) rfl (by simp [Value.oneCell']), setRow_heap _ _ _ _ _ _ hblk2, rfl, rfl, rfl, by simp [World.setRow], fun i _ hne => setRow_other wc gh i _ (by simpa using hne)⟩
      have hod : Ext wo wd := Below.trans hac (hbd.below hwg hac.size)
      obtain ⟨p0, p1, p2, p3, q0, q1, q2, q3, hlt2⟩ := blk4 hgd
      obtain ⟨c0, c1, c2, c3, f0, f1, f2, f3, hlt1⟩ := blk4 ((hod.block _ hlt0).trans HBK.out)
      have d2 := (hod.cell (p := ⟨gr, 2, none⟩) hgrl).trans d2
      have d3 := (hod.cell (p := ⟨gr, 3, none⟩) hgrl).trans d3
      have d5 := (hod.cell (p := ⟨gr, 5, none⟩) hgrl).trans d5
      have hbel : Below w.heap.size w wd := hbel.trans (hod.mono hbel.size)
      rw [← hgh]
      refine wpList_st rfl 32 (.tmp 7) (.tmp 63) rfl hst ?_
      have hne1 : gh ≠ gr := by omega
      have hne2 : gh ≠ w.heap.size := by omega
      have hn1 := hne1.symm
      have hn2 := hne2.symm
      have hlw' : w.heap.size ≤ gh := by omega
      clear hgd hst hblk2 hgh hac hc ha hbd hod hbut
      by_cases h9 : wv s 2 = 284
      case neg =>
        have e := Lib.hid (fin (⟨wv s 4, wv s 0, wv s 5, []⟩, 63) (by simp [cR, h1, hwh, h5, h6, h7, h8, h9]))
        have h6b : (wv s 2 != 284) = true := bne_iff_ne.2 h9
        go_wp2_with fail
        exact bodyPost_ret (v := .tuple #[.agg #[.int .i64 (wv s 4), .int .i64 (wv s 0), .int .i64 (wv s 5), .string ⟨#[]⟩], .int .i64 63]) (by simp only [results, Try.results33]; go_simp) rfl ⟨by rw [e.out]; rfl, by (repeat' (first | (with_reducible assumption) | (with_reducible refine below_sc ?_ ?_) | (with_reducible refine Below.alloc ?_ ?_ _) | omega))⟩
      by_cases h10 : wv s 3 = 3
      case neg =>
        have e := Lib.hid (fin (⟨wv s 4, wv s 0, wv s 5, []⟩, 63) (by simp [cR, h1, hwh, h5, h6, h7, h8, h9, h10]))
        have h6b : (wv s 3 != 3) = true := bne_iff_ne.2 h10
        go_wp2_with fail
        exact bodyPost_ret (v := .tuple #[.agg #[.int .i64 (wv s 4), .int .i64 (wv s 0), .int .i64 (wv s 5), .string ⟨#[]⟩], .int .i64 63]) (by simp only [results, Try.results33]; go_simp) rfl ⟨by rw [e.out]; rfl, by (repeat' (first | (with_reducible assumption) | (with_reducible refine below_sc ?_ ?_) | (with_reducible refine Below.alloc ?_ ?_ _) | omega))⟩
      by_cases h11 : wv s 5 < 19
      case neg =>
        have e := Lib.hid (fin (⟨wv s 4, wv s 0, wv s 5, []⟩, 62) (by simp [cR, h1, hwh, h5, h6, h7, h8, h9, h10, h11]))
        go_wp2_with fail
        exact bodyPost_ret (v := .tuple #[.agg #[.int .i64 (wv s 4), .int .i64 (wv s 0), .int .i64 (wv s 5), .string ⟨#[]⟩], .int .i64 62]) (by simp only [results, Try.results33]; go_simp) rfl ⟨by rw [e.out]; rfl, by (repeat' (first | (with_reducible assumption) | (with_reducible refine below_sc ?_ ?_) | (with_reducible refine Below.alloc ?_ ?_ _) | omega))⟩
      have e := Lib.hid (fin (⟨wv s 4, wv s 0, wv s 5, s.drop 24⟩, 0) (by simp [cR, h1, hwh, h5, h6, h7, h8, h9, h10, h11]))
      go_wp2_with fail
      exact bodyPost_ret (v := .tuple #[.agg #[.int .i64 (wv s 4), .int .i64 (wv s 0), .int .i64 (wv s 5), .string (str (s.drop 24))], .int .i64 0]) (by simp only [results, Try.results33]; go_simp) rfl ⟨by rw [e.out]; rfl, by (repeat' (first | (with_reducible assumption) | (with_reducible refine below_sc ?_ ?_) | (with_reducible refine Below.alloc ?_ ?_ _) | omega))⟩
end Go.Proofs.Ytaccjneglaomhaa
