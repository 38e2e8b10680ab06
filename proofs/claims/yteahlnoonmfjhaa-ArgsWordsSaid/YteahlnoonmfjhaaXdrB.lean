/- Walks of package xdr, that write: Word, Long, Int, Flag. -/
import Derived.Test.YteahlnoonmfjhaaXdrA
set_option linter.unusedVariables false
set_option maxRecDepth 100000
namespace Go.Proofs.Yteahlnoonmfjhaa
open Go.RowKit

theorem Word_any (v : Value) (l : List UInt8) (n : Int) (w : World) (hv : RS w v l) (h0 : 0 ≤ n) (h1 : n ≤ 4294967295) (h : l.length ≤ 900000) :
    Calls Try.prog 44 #[v, .int .u32 n] w fun e w' => ∃ v', e = .returned v' ∧ Own w' w.heap.size 5 v' (l ++ beN n 4) (l.length + 4) ∧ Below w.heap.size w w' := by
  obtain ⟨A, c, rfl⟩ := hv.form
  go_enter Try.func44, Try.ntmps44
  go_wp2_with fail
  refine (wordOf_any n h0 h1 _).mono ?_
  rintro e w1 ⟨rfl, hb1⟩; have hz1 := hb1.size; (try simp only [World.size_alloc] at hz1)
  obtain ⟨w2, hst, hx2, hg2, hs2⟩ := st_new (P := Try.prog) w1 (beN n 4) #[.int .u8 0, .int .u8 0, .int .u8 0, .int .u8 0] 163 (by simp [beN_length])
  have hlen : (bvs (beN n 4)).length = 4 := by simp [bvs_length, beN_length]
  go_wp2_with fail
  refine wp_region_pieces 3  [(true, [0, 2]), (false, [1])] (by kernel_rfl) (by kernel_rfl) ?_; simp only [pick, List.map_cons, List.map_nil, List.flatMap_cons, List.flatMap_nil, Option.toList_some, List.singleton_append, List.drop_succ_cons, List.drop_zero, List.getElem?_cons_zero, List.getElem?_cons_succ]
  refine ⟨by kernel_rfl, ?_⟩; apply Exists.intro; refine ⟨fun ψ hψ hne => (by (repeat (go_big_quiet_step (( fail )))); exact wpQuiet_nil rfl), ?_⟩
  intro wa ha K hK
  have hxa : Ext w wa := (Ext.trans (Ext.trans hb1 hx2) ha)
  go_wp2_with fail
  refine (behind_any (.slice A l.length c) l 4 wa (hv.ext hxa) (by omega)).mono ?_
  rintro e wb ⟨vb, rfl, hob, hbb⟩
  go_wp2_with fail
  refine hK _ _ hbb ?_
  intro wc hc
  have hgc := ((ha.trans hbb).trans hc).block _ hs2 |>.trans hg2
  have hsrc := srcS (rs_block (l := beN n 4) (off := 0) (c := 4) hgc (by simp) (by simp [beN_length]))
  obtain ⟨v', w', hr, ho, hb, hz⟩ := appR (ty := 47) (hob.ext hc) hsrc (by simp [beN_length])
  simp only [beN_length] at hr
  go_wp2_with (at_builtin; refine wpList_app rfl _ _ _ _ rfl hr ?_)
  go_ret
  exact ⟨_, rfl, ho.mono hxa.size, Below.trans ((hxa.trans hbb).trans hc : Ext w wc) (hb.mono hxa.size)⟩

/-- A truth value's number. -/
def b2i (b : Bool) : Int := if b then 1 else 0
/-- The bytes of a number of 64 bits. -/
def beL (n : Int) : List UInt8 := beN (n / 4294967296) 4 ++ beN (n % 4294967296) 4
theorem beL_length (n : Int) : (beL n).length = 8 := by simp [beL, beN_length]

set_option maxRecDepth 100000 in
theorem Long_any (v : Value) (l : List UInt8) (n : Int) (w : World) (hv : RS w v l) (h0 : 0 ≤ n) (h1 : n ≤ 18446744073709551615) (h : l.length ≤ 900000) :
    Calls Try.prog 142 #[v, .int .u64 n] w fun e w' => ∃ v', e = .returned v' ∧ Own w' w.heap.size 5 v' (l ++ beL n) (l.length + 8) ∧ Below w.heap.size w w' := by
  obtain ⟨A, c, rfl⟩ := hv.form
  go_enter Try.func142, Try.ntmps142
  go_wp2_with fail
  refine (wordOf_any (n / 4294967296) (by omega) (by omega) _).mono ?_
  rintro e w1 ⟨rfl, hb1⟩; have hz1 := hb1.size; (try simp only [World.size_alloc] at hz1)
  go_wp2_with fail
  refine (wordOf_any (n % 4294967296) (by omega) (by omega) _).mono ?_
  rintro e w2 ⟨rfl, hb2⟩; have hz2 := hb2.size; (try simp only [World.size_alloc] at hz2)
  have hx0 : Ext w w2 := Ext.trans hb1 hb2
  have hlen : ∀ n, (bvs (beN n 4)).length = 4 := by simp [bvs_length, beN_length]
  obtain ⟨w3, hst3, hx3, hg3, hk3, hs3⟩ := st_at (P := Try.prog) (w0 := w2) (w := (w2.alloc (.cells #[.int .u8 0, .int .u8 0, .int .u8 0, .int .u8 0] 163)).alloc (.cells #[.int .u8 0, .int .u8 0, .int .u8 0, .int .u8 0] 163)) (l := beN (n / 4294967296) 4)
    (((Below.refl _ _).alloc (Nat.le_refl _) _).alloc (by simp) _) (Nat.le_refl _) ((Go.heap_alloc_old _ _ (r := w2.heap.size) (by simp)).trans (heap_alloc_last _ _)) (by simp [beN_length])
  obtain ⟨w4, hst4, hx4, hg4, hk4, hs4⟩ := st_at (P := Try.prog) (g := w2.heap.size + 1) (l := beN (n % 4294967296) 4) hx3 (Nat.le_succ _) (hk3 _ _ (by omega) (by simpa using heap_alloc_last (w2.alloc (.cells #[.int .u8 0, .int .u8 0, .int .u8 0, .int .u8 0] 163)) (.cells #[.int .u8 0, .int .u8 0, .int .u8 0, .int .u8 0] 163))) (by simp [beN_length])
  have hg3' := hk4 _ _ (by omega) hg3
  have hs5 : w2.heap.size + 2 ≤ w4.heap.size := by simp at hs3; omega
  clear hk3 hk4 hg3
  go_wp2_with fail
  refine wp_region_pieces 3  [(true, [0, 2]), (false, [1])] (by kernel_rfl) (by kernel_rfl) ?_; simp only [pick, List.map_cons, List.map_nil, List.flatMap_cons, List.flatMap_nil, Option.toList_some, List.singleton_append, List.drop_succ_cons, List.drop_zero, List.getElem?_cons_zero, List.getElem?_cons_succ]
  refine ⟨by kernel_rfl, ?_⟩; apply Exists.intro; refine ⟨fun ψ hψ hne => (by (repeat (go_big_quiet_step (( fail )))); exact wpQuiet_nil rfl), ?_⟩
  intro wa ha K hK
  have hxa : Ext w wa := hx0.trans (hx4.trans ha)
  go_wp2_with fail
  refine (behind_any (.slice A l.length c) l 8 wa (hv.ext hxa) (by omega)).mono ?_
  rintro e wb ⟨vb, rfl, hob, hbb⟩
  go_wp2_with fail
  refine hK _ _ hbb ?_
  intro wc hc
  have hxc : Ext w4 wc := (ha.trans hbb).trans hc
  have hgc := hxc.block _ (by omega) |>.trans hg3'
  obtain ⟨v5, w5, hr5, ho5, hb5, hz5⟩ := appR (ty := 47) (hob.ext hc) (srcS (rs_block (l := beN (n / 4294967296) 4) (off := 0) (c := 4) hgc (by simp) (by simp [beN_length]))) (by simp [beN_length])
  have hgd := (Below.mono (B' := w4.heap.size) hb5 (by exact ha.size)).block _ (by omega) |>.trans (hxc.block _ (by omega) |>.trans hg4)
  obtain ⟨v6, w6, hr6, ho6, hb6, hz6⟩ := appR (ty := 47) ho5 (srcS (rs_block (l := beN (n % 4294967296) 4) (off := 0) (c := 4) hgd (by simp) (by simp [beN_length]))) (by simp [beN_length])
  simp only [beN_length] at hr5 hr6
  go_wp2_with (first | (at_builtin; refine wpList_app rfl _ _ _ _ rfl hr5 ?_) | (at_builtin; refine wpList_app rfl _ _ _ _ rfl hr6 ?_))
  go_ret
  rw [List.append_assoc] at ho6
  exact ⟨_, rfl, ho6.mono hxa.size, Below.trans (Below.trans ((hxa.trans hbb).trans hc : Ext w wc) (hb5.mono hxa.size)) (hb6.mono hxa.size)⟩

theorem Int_any (v : Value) (l : List UInt8) (n : Int) (w : World) (hv : RS w v l) (h0 : -9223372036854775808 ≤ n) (h1 : n ≤ 9223372036854775807) (h : l.length ≤ 900000) :
    Calls Try.prog 97 #[v, .int .i64 n] w fun e w' => ∃ v', e = .returned v' ∧ Own w' w.heap.size 5 v' (l ++ beL (n % 18446744073709551616)) (l.length + 8) ∧ Below w.heap.size w w' := by
  obtain ⟨A, c, rfl⟩ := hv.form
  go_enter Try.func97, Try.ntmps97
  go_wp2_with fail
  refine (Long_any _ l (n % 18446744073709551616) _ hv (by omega) (by omega) h).mono ?_
  rintro e w1 ⟨v', rfl, ho, hb⟩
  go_wp2_with fail
  go_ret
  exact ⟨_, rfl, ho, hb⟩

theorem Flag_any (v : Value) (l : List UInt8) (b : Bool) (w : World) (hv : RS w v l) (h : l.length ≤ 900000) :
    Calls Try.prog 132 #[v, .bool b] w fun e w' => ∃ v', e = .returned v' ∧ Own w' w.heap.size 5 v' (l ++ beN (b2i b) 4) (l.length + 4) ∧ Below w.heap.size w w' := by
  obtain ⟨A, c, rfl⟩ := hv.form
  cases b
  · go_enter Try.func132, Try.ntmps132
    go_wp2_with fail
    refine (Word_any _ l 0 _ hv (by omega) (by omega) h).mono ?_
    rintro e w1 ⟨v', rfl, ho, hb⟩
    go_wp2_with fail
    go_ret
    exact ⟨_, rfl, ho, hb⟩
  · go_enter Try.func132, Try.ntmps132
    go_wp2_with fail
    refine (Word_any _ l 1 _ hv (by omega) (by omega) h).mono ?_
    rintro e w1 ⟨v', rfl, ho, hb⟩
    go_wp2_with fail
    go_ret
    exact ⟨_, rfl, ho, hb⟩
end Go.Proofs.Yteahlnoonmfjhaa
