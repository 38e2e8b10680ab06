/- Walks of package call, that read: Read. -/
import Derived.Test.YtaccjneglaomhaaRdN
import Derived.Test.YtaccjneglaomhaaRowz
import Derived.Test.YtaccjneglaomhaaCallD
import Derived.Test.YtaccjneglaomhaaCallLift
set_option linter.unusedVariables false
namespace Go.Proofs.Ytaccjneglaomhaa
open Go.RowKit

/-- Word number i of a text. -/
def wv (s : List UInt8) (i : Nat) : Int := beV ((s.drop (4 * i)).take 4)
theorem wv_bd (s : List UInt8) (i : Nat) : 0 ≤ wv s i ∧ wv s i ≤ 4294967295 := by
  have h := beV_bd ((s.drop (4 * i)).take 4)
  have hl : ((s.drop (4 * i)).take 4).length ≤ 4 := by simp; omega
  unfold wv
  match hk : ((s.drop (4 * i)).take 4).length, hl with
  | 0, _ => rw [hk] at h; omega
  | 1, _ => rw [hk] at h; omega
  | 2, _ => rw [hk] at h; omega
  | 3, _ => rw [hk] at h; omega
  | 4, _ => rw [hk] at h; omega
/-- What a reader of the first n bytes still has, behind i words. -/
def rst (s : List UInt8) (n i : Nat) : St := some ((s.take n).drop (4 * i))
theorem rst_zero (s : List UInt8) (n : Nat) : rst s n 0 = some (s.take n) := by simp [rst]
theorem rdW_rst {s : List UInt8} {n i : Nat} (h1 : 4 * (i + 1) ≤ n) (h2 : n ≤ s.length) : rdW (rst s n i) = (wv s i, rst s n (i + 1)) := by
  have hl : 4 ≤ ((s.take n).drop (4 * i)).length := by simp; omega
  simp only [rst, rdW, if_pos hl, wv, List.drop_drop, Prod.mk.injEq, Option.some.injEq]
  refine ⟨?_, by rw [show 4 * i + 4 = 4 * (i + 1) by omega]⟩
  rw [List.drop_take, List.take_take, show min 4 (n - 4 * i) = 4 by omega]
theorem word_at (g : Nat) (s : List UInt8) (n i : Nat) (w : World) (h : Rd 92 w g (rst s n i)) (h1 : 4 * (i + 1) ≤ n) (h2 : n ≤ s.length) :
    Calls Try.prog 38 #[.pointer (some ⟨g, 0, none⟩)] w fun e w' => e = .returned (.int .u32 (wv s i)) ∧ Rd 92 w' g (rst s n (i + 1)) ∧ But g w w' := by
  have := word_any g _ w h
  rw [rdW_rst h1 h2] at this
  exact this
theorem rword_at (g : Nat) (s : List UInt8) (n i : Nat) (w : World) (h : Rd 67 w g (rst s n i)) (h1 : 4 * (i + 1) ≤ n) (h2 : n ≤ s.length) :
    Calls Try.prog 39 #[.pointer (some ⟨g, 0, none⟩)] w fun e w' => e = .returned (.int .u32 (wv s i)) ∧ Rd 67 w' g (rst s n (i + 1)) ∧ But g w w' := by
  have := rword_any g _ w h
  rw [rdW_rst h1 h2] at this
  exact this

/-- What a text is as a call. -/
def cR (s : List UInt8) : HeadT × Int :=
  if s.length ≤ 4096 ∧ wh s = true ∧ 24 ≤ s.length ∧ wv s 1 = 0 ∧ 1 ≤ wv s 4 ∧ wv s 4 ≤ 16 then
    if wv s 2 = 284 ∧ wv s 3 = 3 then
      if wv s 5 < 19 then (⟨wv s 4, wv s 0, wv s 5, s.drop 24⟩, 0) else (⟨wv s 4, wv s 0, wv s 5, []⟩, 62)
    else (⟨wv s 4, wv s 0, wv s 5, []⟩, 63)
  else (⟨0, 0, 0, []⟩, 4)
def heV (r : HeadT × Int) : Value := .tuple #[r.1.v, .int .i64 r.2]

/-- A block of four cells. -/
theorem blk4 {w : World} {g : Nat} {T : TypeId} {a b c d : Value} (h : w.heap[g]? = some (.cells #[a, b, c, d] T (0, 0))) :
    w.cell? ⟨g, 0, none⟩ = some a ∧ w.cell? ⟨g, 1, none⟩ = some b ∧ w.cell? ⟨g, 2, none⟩ = some c ∧ w.cell? ⟨g, 3, none⟩ = some d ∧ w.frozen? ⟨g, 0, none⟩ = false ∧ w.frozen? ⟨g, 1, none⟩ = false ∧ w.frozen? ⟨g, 2, none⟩ = false ∧ w.frozen? ⟨g, 3, none⟩ = false ∧ g < w.heap.size :=
  ⟨by simp [World.cell?, h], by simp [World.cell?, h], by simp [World.cell?, h], by simp [World.cell?, h], by simp [World.frozen?, h], by simp [World.frozen?, h], by simp [World.frozen?, h], by simp [World.frozen?, h], (Array.getElem?_eq_some_iff.1 h).1⟩

theorem conv_str (w : World) (l : List UInt8) : ∃ v' w', (convert 9 22 (.string (str l))).run Try.prog w = .ok v' w' ∧ RS w' v' l ∧ Ext w w' := by
  refine ⟨_, _, bytes_of w l Try.underlying9 Try.underlying22 Try.underlying5, ?_, (Below.refl _ w).drew.alloc (Nat.le_refl _) _⟩
  exact rs_block (m := l ++ List.replicate (grownCap w l.length 0 5 - l.length) 0) (off := 0) (heap_alloc_last w.drew _) (by simp) (grownCap_ge w l.length 0 5)

set_option maxHeartbeats 4000000 in
theorem cRead_any (s : List UInt8) (w : World) (hl : s.length ≤ 20000) :
    Calls Try.prog 32 #[.string (str s)] w fun e w' => e = .returned (heV (cR s)) ∧ Below w.heap.size w w' := by
  have hs := str_size s
  have hz : heV (⟨0, 0, 0, []⟩, 4) = .tuple #[.agg #[.int .i64 0, .int .i64 0, .int .i64 0, .string ⟨#[]⟩], .int .i64 4] := rfl
  by_cases h1 : s.length ≤ 4096
  case neg =>
    rw [show cR s = (⟨0, 0, 0, []⟩, 4) by simp [cR, h1], hz]
    go_enter Try.func32, Try.ntmps32
    go_wp2
    exact bodyPost_ret (by simp only [results, Try.results32]; go_simp) rfl ⟨rfl, by (repeat' (first | (with_reducible assumption) | (with_reducible exact Below.refl _ _) | (with_reducible refine below_sc ?_ ?_) | ((with_reducible show (_ : Nat) ≤ _); omega) | refine Below.setCell ?_ (by first | omega | (simp; done) | (simp; omega)) _ | refine Below.alloc ?_ (by first | omega | (simp; done) | (simp; omega)) _ | refine Below.drew ?_ | refine below_drewN ?_ _ | refine Below.trans ?_ (Below.mono (by assumption) (by first | omega | (simp; done) | (simp; omega)))))⟩
  cases h4 : wh s
  case false =>
    rw [show cR s = (⟨0, 0, 0, []⟩, 4) by simp [cR, h4], hz]
    go_enter Try.func32, Try.ntmps32
    go_wp2_with (go_at_call 65; with_reducible refine (whole_b _ _ h4 _).mono ?_; rintro r w' ⟨rfl, rfl⟩)
    exact bodyPost_ret (by simp only [results, Try.results32]; go_simp) rfl ⟨rfl, by (repeat' (first | (with_reducible assumption) | (with_reducible exact Below.refl _ _) | (with_reducible refine below_sc ?_ ?_) | ((with_reducible show (_ : Nat) ≤ _); omega) | refine Below.setCell ?_ (by first | omega | (simp; done) | (simp; omega)) _ | refine Below.alloc ?_ (by first | omega | (simp; done) | (simp; omega)) _ | refine Below.drew ?_ | refine below_drewN ?_ _ | refine Below.trans ?_ (Below.mono (by assumption) (by first | omega | (simp; done) | (simp; omega)))))⟩
  by_cases h5 : 24 ≤ s.length
  case neg =>
    rw [show cR s = (⟨0, 0, 0, []⟩, 4) by simp [cR, h5], hz]
    go_enter Try.func32, Try.ntmps32
    go_wp2_with (go_at_call 65; with_reducible refine (whole_b _ _ h4 _).mono ?_; rintro r w' ⟨rfl, rfl⟩)
    exact bodyPost_ret (by simp only [results, Try.results32]; go_simp) rfl ⟨rfl, by (repeat' (first | (with_reducible assumption) | (with_reducible exact Below.refl _ _) | (with_reducible refine below_sc ?_ ?_) | ((with_reducible show (_ : Nat) ≤ _); omega) | refine Below.setCell ?_ (by first | omega | (simp; done) | (simp; omega)) _ | refine Below.alloc ?_ (by first | omega | (simp; done) | (simp; omega)) _ | refine Below.drew ?_ | refine below_drewN ?_ _ | refine Below.trans ?_ (Below.mono (by assumption) (by first | omega | (simp; done) | (simp; omega)))))⟩
  have hx : (str s).extract 0 24 = str (s.take 24) := by rw [str_extract]; simp
  have hx2 : (str s).extract 24 s.length = str (s.drop 24) := by rw [str_extract, List.take_of_length_le (by simp)]
  have b0 := wv_bd s 0
  have b1 := wv_bd s 1
  have b2 := wv_bd s 2
  have b3 := wv_bd s 3
  have b4 := wv_bd s 4
  have b5 := wv_bd s 5
  by_cases h6 : wv s 1 = 0
  case neg =>
    rw [show cR s = (⟨0, 0, 0, []⟩, 4) by simp [cR, h1, h4, h5, h6], hz]
    have h6b : (wv s 1 != 0) = true := bne_iff_ne.2 h6
    have h6c : (wv s 1 == 0) = false := beq_eq_false_iff_ne.2 h6
    obtain ⟨vs, wb, hcv, hrs, hxb⟩ := conv_str (w.alloc (.cells #[.int .i64 0, .int .i64 0, .int .i64 0, .string ⟨#[]⟩] 38)) (s.take 24)
    go_enter Try.func32, Try.ntmps32
    go_wp2_with (go_at_call 65; with_reducible refine (whole_b _ _ h4 _).mono ?_; rintro r w' ⟨rfl, rfl⟩)
    refine (newReader_o vs (s.take 24) wb hrs (by simp; omega)).mono ?_
    rintro e y0 ⟨g, rfl, o0, k0⟩
    have r0 := o0.rd
    rw [← rst_zero] at r0
    have m0 := But.refl g y0
    go_wp2_with fail
    refine (word_at g s 24 0 _ r0 (by omega) h5).mono ?_
    rintro e y1 ⟨rfl, r1, j1⟩
    have m1 := m0.trans j1
    go_wp2_with fail
    refine (word_at g s 24 1 _ r1 (by omega) h5).mono ?_
    rintro e y2 ⟨rfl, r2, j2⟩
    have m2 := m1.trans j2
    go_wp2_with fail
    refine (word_at g s 24 2 _ r2 (by omega) h5).mono ?_
    rintro e y3 ⟨rfl, r3, j3⟩
    have m3 := m2.trans j3
    go_wp2_with fail
    refine (word_at g s 24 3 _ r3 (by omega) h5).mono ?_
    rintro e y4 ⟨rfl, r4, j4⟩
    have m4 := m3.trans j4
    go_wp2_with fail
    refine (word_at g s 24 4 _ r4 (by omega) h5).mono ?_
    rintro e y5 ⟨rfl, r5, j5⟩
    have m5 := m4.trans j5
    go_wp2_with fail
    refine (word_at g s 24 5 _ r5 (by omega) h5).mono ?_
    rintro e y6 ⟨rfl, r6, j6⟩
    have m6 := m5.trans j6
    have hgb : w.heap.size + 1 ≤ g := by
      obtain ⟨_, _, _, h⟩ := o0
      have := hxb.size
      simp at this
      omega
    have hy0 : Ext (w.alloc (.cells #[.int .i64 0, .int .i64 0, .int .i64 0, .string ⟨#[]⟩] 38)) y0 := hxb.trans k0
    have hblk : y6.heap[w.heap.size]? = some (.cells #[.int .i64 0, .int .i64 0, .int .i64 0, .string ⟨#[]⟩] 38 (0, 0)) :=
      (m6.block _ (Nat.lt_of_lt_of_le (by simp) hy0.size) (by simp; omega)).trans ((hy0.block _ (by simp)).trans (heap_alloc_last _ _))
    obtain ⟨c0, c1, c2, c3, f0, f1, f2, f3, hlt⟩ := blk4 hblk
    have hbel : Below w.heap.size w y6 := Below.trans ((ext_alloc w _).trans (hy0.mono (by simp))) (m6.below (by omega) (by have := hy0.size; simp at this; omega))
    clear hblk hcv
    go_wp2_with fail
    exact bodyPost_ret (by simp only [results, Try.results32]; go_simp) rfl ⟨rfl, by (repeat' (first | (with_reducible assumption) | (with_reducible exact Below.refl _ _) | (with_reducible refine below_sc ?_ ?_) | ((with_reducible show (_ : Nat) ≤ _); omega) | refine Below.setCell ?_ (by first | omega | (simp; done) | (simp; omega)) _ | refine Below.alloc ?_ (by first | omega | (simp; done) | (simp; omega)) _ | refine Below.drew ?_ | refine below_drewN ?_ _ | refine Below.trans ?_ (Below.mono (by assumption) (by first | omega | (simp; done) | (simp; omega)))))⟩
  by_cases h7 : 1 ≤ wv s 4
  case neg =>
    rw [show cR s = (⟨0, 0, 0, []⟩, 4) by simp [cR, h7], hz]
    obtain ⟨vs, wb, hcv, hrs, hxb⟩ := conv_str (w.alloc (.cells #[.int .i64 0, .int .i64 0, .int .i64 0, .string ⟨#[]⟩] 38)) (s.take 24)
    go_enter Try.func32, Try.ntmps32
    go_wp2_with (go_at_call 65; with_reducible refine (whole_b _ _ h4 _).mono ?_; rintro r w' ⟨rfl, rfl⟩)
    refine (newReader_o vs (s.take 24) wb hrs (by simp; omega)).mono ?_
    rintro e y0 ⟨g, rfl, o0, k0⟩
    have r0 := o0.rd
    rw [← rst_zero] at r0
    have m0 := But.refl g y0
    go_wp2_with fail
    refine (word_at g s 24 0 _ r0 (by omega) h5).mono ?_
    rintro e y1 ⟨rfl, r1, j1⟩
    have m1 := m0.trans j1
    go_wp2_with fail
    refine (word_at g s 24 1 _ r1 (by omega) h5).mono ?_
    rintro e y2 ⟨rfl, r2, j2⟩
    have m2 := m1.trans j2
    go_wp2_with fail
    refine (word_at g s 24 2 _ r2 (by omega) h5).mono ?_
    rintro e y3 ⟨rfl, r3, j3⟩
    have m3 := m2.trans j3
    go_wp2_with fail
    refine (word_at g s 24 3 _ r3 (by omega) h5).mono ?_
    rintro e y4 ⟨rfl, r4, j4⟩
    have m4 := m3.trans j4
    go_wp2_with fail
    refine (word_at g s 24 4 _ r4 (by omega) h5).mono ?_
    rintro e y5 ⟨rfl, r5, j5⟩
    have m5 := m4.trans j5
    go_wp2_with fail
    refine (word_at g s 24 5 _ r5 (by omega) h5).mono ?_
    rintro e y6 ⟨rfl, r6, j6⟩
    have m6 := m5.trans j6
    have hgb : w.heap.size + 1 ≤ g := by
      obtain ⟨_, _, _, h⟩ := o0
      have := hxb.size
      simp at this
      omega
    have hy0 : Ext (w.alloc (.cells #[.int .i64 0, .int .i64 0, .int .i64 0, .string ⟨#[]⟩] 38)) y0 := hxb.trans k0
    have hblk : y6.heap[w.heap.size]? = some (.cells #[.int .i64 0, .int .i64 0, .int .i64 0, .string ⟨#[]⟩] 38 (0, 0)) :=
      (m6.block _ (Nat.lt_of_lt_of_le (by simp) hy0.size) (by simp; omega)).trans ((hy0.block _ (by simp)).trans (heap_alloc_last _ _))
    obtain ⟨c0, c1, c2, c3, f0, f1, f2, f3, hlt⟩ := blk4 hblk
    have hbel : Below w.heap.size w y6 := Below.trans ((ext_alloc w _).trans (hy0.mono (by simp))) (m6.below (by omega) (by have := hy0.size; simp at this; omega))
    clear hblk hcv
    go_wp2_with fail
    exact bodyPost_ret (by simp only [results, Try.results32]; go_simp) rfl ⟨rfl, by (repeat' (first | (with_reducible assumption) | (with_reducible exact Below.refl _ _) | (with_reducible refine below_sc ?_ ?_) | ((with_reducible show (_ : Nat) ≤ _); omega) | refine Below.setCell ?_ (by first | omega | (simp; done) | (simp; omega)) _ | refine Below.alloc ?_ (by first | omega | (simp; done) | (simp; omega)) _ | refine Below.drew ?_ | refine below_drewN ?_ _ | refine Below.trans ?_ (Below.mono (by assumption) (by first | omega | (simp; done) | (simp; omega)))))⟩
  by_cases h8 : wv s 4 ≤ 16
  case neg =>
    rw [show cR s = (⟨0, 0, 0, []⟩, 4) by simp [cR, h8], hz]
    obtain ⟨vs, wb, hcv, hrs, hxb⟩ := conv_str (w.alloc (.cells #[.int .i64 0, .int .i64 0, .int .i64 0, .string ⟨#[]⟩] 38)) (s.take 24)
    go_enter Try.func32, Try.ntmps32
    go_wp2_with (go_at_call 65; with_reducible refine (whole_b _ _ h4 _).mono ?_; rintro r w' ⟨rfl, rfl⟩)
    refine (newReader_o vs (s.take 24) wb hrs (by simp; omega)).mono ?_
    rintro e y0 ⟨g, rfl, o0, k0⟩
    have r0 := o0.rd
    rw [← rst_zero] at r0
    have m0 := But.refl g y0
    go_wp2_with fail
    refine (word_at g s 24 0 _ r0 (by omega) h5).mono ?_
    rintro e y1 ⟨rfl, r1, j1⟩
    have m1 := m0.trans j1
    go_wp2_with fail
    refine (word_at g s 24 1 _ r1 (by omega) h5).mono ?_
    rintro e y2 ⟨rfl, r2, j2⟩
    have m2 := m1.trans j2
    go_wp2_with fail
    refine (word_at g s 24 2 _ r2 (by omega) h5).mono ?_
    rintro e y3 ⟨rfl, r3, j3⟩
    have m3 := m2.trans j3
    go_wp2_with fail
    refine (word_at g s 24 3 _ r3 (by omega) h5).mono ?_
    rintro e y4 ⟨rfl, r4, j4⟩
    have m4 := m3.trans j4
    go_wp2_with fail
    refine (word_at g s 24 4 _ r4 (by omega) h5).mono ?_
    rintro e y5 ⟨rfl, r5, j5⟩
    have m5 := m4.trans j5
    go_wp2_with fail
    refine (word_at g s 24 5 _ r5 (by omega) h5).mono ?_
    rintro e y6 ⟨rfl, r6, j6⟩
    have m6 := m5.trans j6
    have hgb : w.heap.size + 1 ≤ g := by
      obtain ⟨_, _, _, h⟩ := o0
      have := hxb.size
      simp at this
      omega
    have hy0 : Ext (w.alloc (.cells #[.int .i64 0, .int .i64 0, .int .i64 0, .string ⟨#[]⟩] 38)) y0 := hxb.trans k0
    have hblk : y6.heap[w.heap.size]? = some (.cells #[.int .i64 0, .int .i64 0, .int .i64 0, .string ⟨#[]⟩] 38 (0, 0)) :=
      (m6.block _ (Nat.lt_of_lt_of_le (by simp) hy0.size) (by simp; omega)).trans ((hy0.block _ (by simp)).trans (heap_alloc_last _ _))
    obtain ⟨c0, c1, c2, c3, f0, f1, f2, f3, hlt⟩ := blk4 hblk
    have hbel : Below w.heap.size w y6 := Below.trans ((ext_alloc w _).trans (hy0.mono (by simp))) (m6.below (by omega) (by have := hy0.size; simp at this; omega))
    clear hblk hcv
    go_wp2_with fail
    exact bodyPost_ret (by simp only [results, Try.results32]; go_simp) rfl ⟨rfl, by (repeat' (first | (with_reducible assumption) | (with_reducible exact Below.refl _ _) | (with_reducible refine below_sc ?_ ?_) | ((with_reducible show (_ : Nat) ≤ _); omega) | refine Below.setCell ?_ (by first | omega | (simp; done) | (simp; omega)) _ | refine Below.alloc ?_ (by first | omega | (simp; done) | (simp; omega)) _ | refine Below.drew ?_ | refine below_drewN ?_ _ | refine Below.trans ?_ (Below.mono (by assumption) (by first | omega | (simp; done) | (simp; omega)))))⟩
  have hv : ∀ l e, heV (⟨wv s 4, wv s 0, wv s 5, l⟩, e) = .tuple #[.agg #[.int .i64 (wv s 4), .int .i64 (wv s 0), .int .i64 (wv s 5), .string (str l)], .int .i64 e] := fun _ _ => rfl
  have hn : str [] = ⟨#[]⟩ := rfl
  by_cases h9 : wv s 2 = 284
  case neg =>
    rw [show cR s = (⟨wv s 4, wv s 0, wv s 5, []⟩, 63) by simp [cR, h1, h4, h5, h6, h7, h8, h9], hv, hn]
    have h9b : (wv s 2 != 284) = true := bne_iff_ne.2 h9
    have h9c : (wv s 2 == 284) = false := beq_eq_false_iff_ne.2 h9
    obtain ⟨vs, wb, hcv, hrs, hxb⟩ := conv_str (w.alloc (.cells #[.int .i64 0, .int .i64 0, .int .i64 0, .string ⟨#[]⟩] 38)) (s.take 24)
    go_enter Try.func32, Try.ntmps32
    go_wp2_with (go_at_call 65; with_reducible refine (whole_b _ _ h4 _).mono ?_; rintro r w' ⟨rfl, rfl⟩)
    refine (newReader_o vs (s.take 24) wb hrs (by simp; omega)).mono ?_
    rintro e y0 ⟨g, rfl, o0, k0⟩
    have r0 := o0.rd
    rw [← rst_zero] at r0
    have m0 := But.refl g y0
    go_wp2_with fail
    refine (word_at g s 24 0 _ r0 (by omega) h5).mono ?_
    rintro e y1 ⟨rfl, r1, j1⟩
    have m1 := m0.trans j1
    go_wp2_with fail
    refine (word_at g s 24 1 _ r1 (by omega) h5).mono ?_
    rintro e y2 ⟨rfl, r2, j2⟩
    have m2 := m1.trans j2
    go_wp2_with fail
    refine (word_at g s 24 2 _ r2 (by omega) h5).mono ?_
    rintro e y3 ⟨rfl, r3, j3⟩
    have m3 := m2.trans j3
    go_wp2_with fail
    refine (word_at g s 24 3 _ r3 (by omega) h5).mono ?_
    rintro e y4 ⟨rfl, r4, j4⟩
    have m4 := m3.trans j4
    go_wp2_with fail
    refine (word_at g s 24 4 _ r4 (by omega) h5).mono ?_
    rintro e y5 ⟨rfl, r5, j5⟩
    have m5 := m4.trans j5
    go_wp2_with fail
    refine (word_at g s 24 5 _ r5 (by omega) h5).mono ?_
    rintro e y6 ⟨rfl, r6, j6⟩
    have m6 := m5.trans j6
    have hgb : w.heap.size + 1 ≤ g := by
      obtain ⟨_, _, _, h⟩ := o0
      have := hxb.size
      simp at this
      omega
    have hy0 : Ext (w.alloc (.cells #[.int .i64 0, .int .i64 0, .int .i64 0, .string ⟨#[]⟩] 38)) y0 := hxb.trans k0
    have hblk : y6.heap[w.heap.size]? = some (.cells #[.int .i64 0, .int .i64 0, .int .i64 0, .string ⟨#[]⟩] 38 (0, 0)) :=
      (m6.block _ (Nat.lt_of_lt_of_le (by simp) hy0.size) (by simp; omega)).trans ((hy0.block _ (by simp)).trans (heap_alloc_last _ _))
    obtain ⟨c0, c1, c2, c3, f0, f1, f2, f3, hlt⟩ := blk4 hblk
    have hbel : Below w.heap.size w y6 := Below.trans ((ext_alloc w _).trans (hy0.mono (by simp))) (m6.below (by omega) (by have := hy0.size; simp at this; omega))
    clear hblk hcv
    go_wp2_with fail
    exact bodyPost_ret (by simp only [results, Try.results32]; go_simp) rfl ⟨rfl, by (repeat' (first | (with_reducible assumption) | (with_reducible exact Below.refl _ _) | (with_reducible refine below_sc ?_ ?_) | ((with_reducible show (_ : Nat) ≤ _); omega) | refine Below.setCell ?_ (by first | omega | (simp; done) | (simp; omega)) _ | refine Below.alloc ?_ (by first | omega | (simp; done) | (simp; omega)) _ | refine Below.drew ?_ | refine below_drewN ?_ _ | refine Below.trans ?_ (Below.mono (by assumption) (by first | omega | (simp; done) | (simp; omega)))))⟩
  by_cases h10 : wv s 3 = 3
  case neg =>
    rw [show cR s = (⟨wv s 4, wv s 0, wv s 5, []⟩, 63) by simp [cR, h1, h4, h5, h6, h7, h8, h9, h10], hv, hn]
    have h10b : (wv s 3 != 3) = true := bne_iff_ne.2 h10
    have h10c : (wv s 3 == 3) = false := beq_eq_false_iff_ne.2 h10
    obtain ⟨vs, wb, hcv, hrs, hxb⟩ := conv_str (w.alloc (.cells #[.int .i64 0, .int .i64 0, .int .i64 0, .string ⟨#[]⟩] 38)) (s.take 24)
    go_enter Try.func32, Try.ntmps32
    go_wp2_with (go_at_call 65; with_reducible refine (whole_b _ _ h4 _).mono ?_; rintro r w' ⟨rfl, rfl⟩)
    refine (newReader_o vs (s.take 24) wb hrs (by simp; omega)).mono ?_
    rintro e y0 ⟨g, rfl, o0, k0⟩
    have r0 := o0.rd
    rw [← rst_zero] at r0
    have m0 := But.refl g y0
    go_wp2_with fail
    refine (word_at g s 24 0 _ r0 (by omega) h5).mono ?_
    rintro e y1 ⟨rfl, r1, j1⟩
    have m1 := m0.trans j1
    go_wp2_with fail
    refine (word_at g s 24 1 _ r1 (by omega) h5).mono ?_
    rintro e y2 ⟨rfl, r2, j2⟩
    have m2 := m1.trans j2
    go_wp2_with fail
    refine (word_at g s 24 2 _ r2 (by omega) h5).mono ?_
    rintro e y3 ⟨rfl, r3, j3⟩
    have m3 := m2.trans j3
    go_wp2_with fail
    refine (word_at g s 24 3 _ r3 (by omega) h5).mono ?_
    rintro e y4 ⟨rfl, r4, j4⟩
    have m4 := m3.trans j4
    go_wp2_with fail
    refine (word_at g s 24 4 _ r4 (by omega) h5).mono ?_
    rintro e y5 ⟨rfl, r5, j5⟩
    have m5 := m4.trans j5
    go_wp2_with fail
    refine (word_at g s 24 5 _ r5 (by omega) h5).mono ?_
    rintro e y6 ⟨rfl, r6, j6⟩
    have m6 := m5.trans j6
    have hgb : w.heap.size + 1 ≤ g := by
      obtain ⟨_, _, _, h⟩ := o0
      have := hxb.size
      simp at this
      omega
    have hy0 : Ext (w.alloc (.cells #[.int .i64 0, .int .i64 0, .int .i64 0, .string ⟨#[]⟩] 38)) y0 := hxb.trans k0
    have hblk : y6.heap[w.heap.size]? = some (.cells #[.int .i64 0, .int .i64 0, .int .i64 0, .string ⟨#[]⟩] 38 (0, 0)) :=
      (m6.block _ (Nat.lt_of_lt_of_le (by simp) hy0.size) (by simp; omega)).trans ((hy0.block _ (by simp)).trans (heap_alloc_last _ _))
    obtain ⟨c0, c1, c2, c3, f0, f1, f2, f3, hlt⟩ := blk4 hblk
    have hbel : Below w.heap.size w y6 := Below.trans ((ext_alloc w _).trans (hy0.mono (by simp))) (m6.below (by omega) (by have := hy0.size; simp at this; omega))
    clear hblk hcv
    go_wp2_with fail
    exact bodyPost_ret (by simp only [results, Try.results32]; go_simp) rfl ⟨rfl, by (repeat' (first | (with_reducible assumption) | (with_reducible exact Below.refl _ _) | (with_reducible refine below_sc ?_ ?_) | ((with_reducible show (_ : Nat) ≤ _); omega) | refine Below.setCell ?_ (by first | omega | (simp; done) | (simp; omega)) _ | refine Below.alloc ?_ (by first | omega | (simp; done) | (simp; omega)) _ | refine Below.drew ?_ | refine below_drewN ?_ _ | refine Below.trans ?_ (Below.mono (by assumption) (by first | omega | (simp; done) | (simp; omega)))))⟩
  by_cases h11 : wv s 5 < 19
  case neg =>
    rw [show cR s = (⟨wv s 4, wv s 0, wv s 5, []⟩, 62) by simp [cR, h1, h4, h5, h6, h7, h8, h9, h10, h11], hv, hn]
    obtain ⟨vs, wb, hcv, hrs, hxb⟩ := conv_str (w.alloc (.cells #[.int .i64 0, .int .i64 0, .int .i64 0, .string ⟨#[]⟩] 38)) (s.take 24)
    go_enter Try.func32, Try.ntmps32
    go_wp2_with (go_at_call 65; with_reducible refine (whole_b _ _ h4 _).mono ?_; rintro r w' ⟨rfl, rfl⟩)
    refine (newReader_o vs (s.take 24) wb hrs (by simp; omega)).mono ?_
    rintro e y0 ⟨g, rfl, o0, k0⟩
    have r0 := o0.rd
    rw [← rst_zero] at r0
    have m0 := But.refl g y0
    go_wp2_with fail
    refine (word_at g s 24 0 _ r0 (by omega) h5).mono ?_
    rintro e y1 ⟨rfl, r1, j1⟩
    have m1 := m0.trans j1
    go_wp2_with fail
    refine (word_at g s 24 1 _ r1 (by omega) h5).mono ?_
    rintro e y2 ⟨rfl, r2, j2⟩
    have m2 := m1.trans j2
    go_wp2_with fail
    refine (word_at g s 24 2 _ r2 (by omega) h5).mono ?_
    rintro e y3 ⟨rfl, r3, j3⟩
    have m3 := m2.trans j3
    go_wp2_with fail
    refine (word_at g s 24 3 _ r3 (by omega) h5).mono ?_
    rintro e y4 ⟨rfl, r4, j4⟩
    have m4 := m3.trans j4
    go_wp2_with fail
    refine (word_at g s 24 4 _ r4 (by omega) h5).mono ?_
    rintro e y5 ⟨rfl, r5, j5⟩
    have m5 := m4.trans j5
    go_wp2_with fail
    refine (word_at g s 24 5 _ r5 (by omega) h5).mono ?_
    rintro e y6 ⟨rfl, r6, j6⟩
    have m6 := m5.trans j6
    have hgb : w.heap.size + 1 ≤ g := by
      obtain ⟨_, _, _, h⟩ := o0
      have := hxb.size
      simp at this
      omega
    have hy0 : Ext (w.alloc (.cells #[.int .i64 0, .int .i64 0, .int .i64 0, .string ⟨#[]⟩] 38)) y0 := hxb.trans k0
    have hblk : y6.heap[w.heap.size]? = some (.cells #[.int .i64 0, .int .i64 0, .int .i64 0, .string ⟨#[]⟩] 38 (0, 0)) :=
      (m6.block _ (Nat.lt_of_lt_of_le (by simp) hy0.size) (by simp; omega)).trans ((hy0.block _ (by simp)).trans (heap_alloc_last _ _))
    obtain ⟨c0, c1, c2, c3, f0, f1, f2, f3, hlt⟩ := blk4 hblk
    have hbel : Below w.heap.size w y6 := Below.trans ((ext_alloc w _).trans (hy0.mono (by simp))) (m6.below (by omega) (by have := hy0.size; simp at this; omega))
    clear hblk hcv
    go_wp2_with fail
    exact bodyPost_ret (by simp only [results, Try.results32]; go_simp) rfl ⟨rfl, by (repeat' (first | (with_reducible assumption) | (with_reducible exact Below.refl _ _) | (with_reducible refine below_sc ?_ ?_) | ((with_reducible show (_ : Nat) ≤ _); omega) | refine Below.setCell ?_ (by first | omega | (simp; done) | (simp; omega)) _ | refine Below.alloc ?_ (by first | omega | (simp; done) | (simp; omega)) _ | refine Below.drew ?_ | refine below_drewN ?_ _ | refine Below.trans ?_ (Below.mono (by assumption) (by first | omega | (simp; done) | (simp; omega)))))⟩
  rw [show cR s = (⟨wv s 4, wv s 0, wv s 5, s.drop 24⟩, 0) by simp [cR, h1, h4, h5, h6, h7, h8, h9, h10, h11], hv]
  obtain ⟨vs, wb, hcv, hrs, hxb⟩ := conv_str (w.alloc (.cells #[.int .i64 0, .int .i64 0, .int .i64 0, .string ⟨#[]⟩] 38)) (s.take 24)
  go_enter Try.func32, Try.ntmps32
  go_wp2_with (go_at_call 65; with_reducible refine (whole_b _ _ h4 _).mono ?_; rintro r w' ⟨rfl, rfl⟩)
  refine (newReader_o vs (s.take 24) wb hrs (by simp; omega)).mono ?_
  rintro e y0 ⟨g, rfl, o0, k0⟩
  have r0 := o0.rd
  rw [← rst_zero] at r0
  have m0 := But.refl g y0
  go_wp2_with fail
  refine (word_at g s 24 0 _ r0 (by omega) h5).mono ?_
  rintro e y1 ⟨rfl, r1, j1⟩
  have m1 := m0.trans j1
  go_wp2_with fail
  refine (word_at g s 24 1 _ r1 (by omega) h5).mono ?_
  rintro e y2 ⟨rfl, r2, j2⟩
  have m2 := m1.trans j2
  go_wp2_with fail
  refine (word_at g s 24 2 _ r2 (by omega) h5).mono ?_
  rintro e y3 ⟨rfl, r3, j3⟩
  have m3 := m2.trans j3
  go_wp2_with fail
  refine (word_at g s 24 3 _ r3 (by omega) h5).mono ?_
  rintro e y4 ⟨rfl, r4, j4⟩
  have m4 := m3.trans j4
  go_wp2_with fail
  refine (word_at g s 24 4 _ r4 (by omega) h5).mono ?_
  rintro e y5 ⟨rfl, r5, j5⟩
  have m5 := m4.trans j5
  go_wp2_with fail
  refine (word_at g s 24 5 _ r5 (by omega) h5).mono ?_
  rintro e y6 ⟨rfl, r6, j6⟩
  have m6 := m5.trans j6
  have hgb : w.heap.size + 1 ≤ g := by
    obtain ⟨_, _, _, h⟩ := o0
    have := hxb.size
    simp at this
    omega
  have hy0 : Ext (w.alloc (.cells #[.int .i64 0, .int .i64 0, .int .i64 0, .string ⟨#[]⟩] 38)) y0 := hxb.trans k0
  have hblk : y6.heap[w.heap.size]? = some (.cells #[.int .i64 0, .int .i64 0, .int .i64 0, .string ⟨#[]⟩] 38 (0, 0)) :=
    (m6.block _ (Nat.lt_of_lt_of_le (by simp) hy0.size) (by simp; omega)).trans ((hy0.block _ (by simp)).trans (heap_alloc_last _ _))
  obtain ⟨c0, c1, c2, c3, f0, f1, f2, f3, hlt⟩ := blk4 hblk
  have hbel : Below w.heap.size w y6 := Below.trans ((ext_alloc w _).trans (hy0.mono (by simp))) (m6.below (by omega) (by have := hy0.size; simp at this; omega))
  clear hblk hcv
  go_wp2_with fail
  exact bodyPost_ret (by simp only [results, Try.results32]; go_simp) rfl ⟨rfl, by (repeat' (first | (with_reducible assumption) | (with_reducible exact Below.refl _ _) | (with_reducible refine below_sc ?_ ?_) | ((with_reducible show (_ : Nat) ≤ _); omega) | refine Below.setCell ?_ (by first | omega | (simp; done) | (simp; omega)) _ | refine Below.alloc ?_ (by first | omega | (simp; done) | (simp; omega)) _ | refine Below.drew ?_ | refine below_drewN ?_ _ | refine Below.trans ?_ (Below.mono (by assumption) (by first | omega | (simp; done) | (simp; omega)))))⟩
end Go.Proofs.Ytaccjneglaomhaa
