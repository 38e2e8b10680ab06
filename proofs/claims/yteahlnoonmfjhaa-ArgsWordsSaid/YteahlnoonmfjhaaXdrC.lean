/- Walks of package xdr, that write: pad, Text, Fixed. -/
import Derived.Test.YteahlnoonmfjhaaXdrB
set_option linter.unusedVariables false
set_option maxRecDepth 100000
namespace Go.Proofs.Yteahlnoonmfjhaa
open Go.RowKit

def zs (n : Nat) : List UInt8 := List.replicate n 0
theorem zs_length (n : Nat) : (zs n).length = n := by simp [zs]

/-- One byte in a new block. -/
theorem rs_one {w : World} {T : TypeId} (b : UInt8) : RS (w.alloc (.cells #[bv b] T)) (.slice (some ⟨w.heap.size, 0, none⟩) 1 1) [b] :=
  rs_block (l := [b]) (m := [b]) (off := 0) (c := 1) (heap_alloc_last w _) rfl (Nat.le_refl _)

theorem pad_m (v : Value) (l : List UInt8) (c n B m : Nat) (hmn : padN n = m) (w : World) (hv : Own w B 5 v l c) (hn : n ≤ 1000000) (hc : l.length + m ≤ c) (hB : B ≤ w.heap.size) :
    Calls Try.prog 144 #[v, .int .i64 n] w fun e w' => ∃ v', e = .returned v' ∧ Own w' B 5 v' (l ++ zs m) c ∧ Below B w w' := by
  have H := Lib.hid hv
  have hp := padding_any n w hn
  rw [hmn] at hp
  have hm : m ≤ 3 := by rw [← hmn]; unfold padN; omega
  clear hv hmn
  go_enter Try.func144, Try.ntmps144
  go_wp2_with fail
  refine hp.mono ?_
  rintro e w1 ⟨rfl, hb1⟩
  have H1 := Lib.hid (H.out.ext (Ext.of hb1))
  clear H
  go_wp2_with fail
  go_loopw [0, 7] (fun x i wr => ∃ k : Nat, k ≤ m ∧ i = .int .i64 k ∧ Hid (Own wr B 5 x (l ++ zs k) c) ∧ Below B w wr) (fun _ i _ => m - (intOf i).toNat)
  case atStart => exact ⟨0, Nat.zero_le _, rfl, by unfold Hid; simpa [zs] using H1.out, hb1.mono hB⟩
  case round =>
    obtain ⟨k, hk, rfl, HO, hbr⟩ := hrel
    have hBr : B ≤ wr.heap.size := Nat.le_trans hB hbr.size
    by_cases hlt : k < m
    · obtain ⟨v', w', hr, ho, hb, hz⟩ := appR (ty := 47) (HO.out.ext (Ext.of ((Below.refl _ wr).alloc (Nat.le_refl _) (.cells #[bv 0] 5)))) (srcS (rs_one (w := wr) (T := 5) 0)) (by simp [zs]; omega)
      go_wp2_with (at_builtin; refine wpList_app rfl _ _ _ _ rfl hr ?_)
      go_roundw
      case rel => exact ⟨k + 1, by omega, by go_num, by unfold Hid; rw [zs, List.replicate_succ', ← List.append_assoc]; exact ho, hbr.trans (((Below.refl _ _).alloc hBr _).trans hb)⟩
      case measure => simp [intOf]; omega
    · obtain rfl : k = m := by omega
      go_wp2_with fail
      go_ret
      exact ⟨_, rfl, HO.out, hbr⟩
theorem pad_any (v : Value) (l : List UInt8) (c n B : Nat) (w : World) (hv : Own w B 5 v l c) (hn : n ≤ 1000000) (hc : l.length + padN n ≤ c) (hB : B ≤ w.heap.size) :
    Calls Try.prog 144 #[v, .int .i64 n] w fun e w' => ∃ v', e = .returned v' ∧ Own w' B 5 v' (l ++ zs (padN n)) c ∧ Below B w w' := pad_m v l c n B _ rfl w hv hn hc hB

/-- A text, and the 00s behind it. -/
def fixL (s : List UInt8) : List UInt8 := s ++ zs (padN s.length)
theorem padN_le (n : Nat) : padN n ≤ 3 := by unfold padN; omega
theorem fixL_length (s : List UInt8) : (fixL s).length = s.length + padN s.length := by simp [fixL, zs]

theorem Fixed_any (v : Value) (l s : List UInt8) (w : World) (hv : RS w v l) (h : l.length ≤ 400000) (hs : s.length ≤ 400000) :
    Calls Try.prog 147 #[v, .string (str s)] w fun e w' => ∃ v', e = .returned v' ∧ Own w' w.heap.size 5 v' (l ++ fixL s) (l.length + (fixL s).length) ∧ Below w.heap.size w w' := by
  obtain ⟨A, c, rfl⟩ := hv.form
  have hsz := str_size s
  have hp := padN_le s.length
  go_enter Try.func147, Try.ntmps147
  go_wp2_with fail
  refine (padding_any s.length _ (by omega)).mono ?_
  rintro e w1 ⟨rfl, hb1⟩; have hz1 := hb1.size; (try simp only [World.size_alloc] at hz1)
  go_wp2_with fail
  refine (behind_any (.slice A l.length c) l (s.length + padN s.length) w1 (hv.ext (Ext.of hb1)) (by omega)).mono ?_
  rintro e w2 ⟨v2, rfl, ho2, hb2⟩
  obtain ⟨v3, w3, hr, ho, hb, hz⟩ := appR (ty := 47) ho2 (srcT s) (by omega)
  go_wp2_with (at_builtin; refine wpList_app rfl _ _ _ _ rfl hr ?_)
  refine (pad_any v3 _ _ s.length w1.heap.size w3 ho (by omega) (by simp; omega) (Nat.le_trans hb2.size hb.size)).mono ?_
  rintro e w4 ⟨v4, rfl, ho4, hb4⟩
  go_wp2_with fail
  go_ret
  rw [List.append_assoc] at ho4
  rw [fixL_length]
  exact ⟨_, rfl, ho4.mono hz1, Below.trans hb1 ((Below.trans (Below.trans hb2 hb) hb4).mono hz1)⟩

theorem Text_any (v : Value) (l s : List UInt8) (w : World) (hv : RS w v l) (h : l.length ≤ 400000) (hs : s.length ≤ 400000) :
    Calls Try.prog 98 #[v, .string (str s)] w fun e w' => ∃ v', e = .returned v' ∧ Own w' w.heap.size 5 v' (l ++ (beN s.length 4 ++ fixL s)) (l.length + (4 + (fixL s).length)) ∧ Below w.heap.size w w' := by
  obtain ⟨A, c, rfl⟩ := hv.form
  have hsz := str_size s
  have hp := padN_le s.length
  go_enter Try.func98, Try.ntmps98
  go_wp2_with fail
  refine (wordOf_any s.length (by omega) (by omega) _).mono ?_
  rintro e w1 ⟨rfl, hb1⟩; have hz1 := hb1.size; (try simp only [World.size_alloc] at hz1)
  obtain ⟨w2, hst, hx2, hg2, hs2⟩ := st_new (P := Try.prog) w1 (beN s.length 4) #[.int .u8 0, .int .u8 0, .int .u8 0, .int .u8 0] 163 (by simp [beN_length])
  have hlen : (bvs (beN s.length 4)).length = 4 := by simp [bvs_length, beN_length]
  go_wp2_with fail
  refine wp_region_pieces 10  [(true, [0, 1, 2, 3, 4, 5, 6, 7, 9]), (false, [8])] (by kernel_rfl) (by kernel_rfl) ?_; simp only [pick, List.map_cons, List.map_nil, List.flatMap_cons, List.flatMap_nil, Option.toList_some, List.singleton_append, List.drop_succ_cons, List.drop_zero, List.getElem?_cons_zero, List.getElem?_cons_succ]
  refine ⟨by kernel_rfl, ?_⟩; apply Exists.intro; refine ⟨fun ψ hψ hne => (by (repeat (go_big_quiet_step (( go_at_call 143; exact extP_of hψ (Nat.le_refl _) (padding_any s.length _ (by omega)) )))); exact wpQuiet_nil rfl), ?_⟩
  intro wa ha K hK
  have hxa : Ext w wa := (Ext.trans (Ext.trans hb1 hx2) ha)
  have hbeh := behind_any (.slice A l.length c) l (4 + s.length + padN s.length) wa (hv.ext hxa) (by omega)
  simp only [Int.natCast_add, show ((4 : Nat) : Int) = 4 from rfl] at hbeh
  go_wp2_with fail
  refine hbeh.mono ?_
  rintro e wb ⟨vb, rfl, hob, hbb⟩
  go_wp2_with fail
  refine hK _ _ hbb ?_
  intro wc hc
  have hgc := ((ha.trans hbb).trans hc).block _ hs2 |>.trans hg2
  obtain ⟨v5, w5, hr5, ho5, hb5, hz5⟩ := appR (ty := 47) (hob.ext hc) (srcS (rs_block (l := beN s.length 4) (off := 0) (c := 4) hgc (by simp) (by simp [beN_length]))) (by simp [beN_length]; omega)
  obtain ⟨v6, w6, hr6, ho6, hb6, hz6⟩ := appR (ty := 47) ho5 (srcT s) (by simp [beN_length]; omega)
  have hwa : wa.heap.size ≤ w6.heap.size := Nat.le_trans hbb.size (Nat.le_trans hc.size (Nat.le_trans hb5.size hb6.size))
  simp only [beN_length] at hr5
  go_wp2_with (first | (at_builtin; refine wpList_app rfl _ _ _ _ rfl hr5 ?_) | (at_builtin; refine wpList_app rfl _ _ _ _ rfl hr6 ?_))
  refine (pad_any v6 _ _ s.length wa.heap.size w6 ho6 (by omega) (by simp [beN_length]; omega) hwa).mono ?_
  rintro e w7 ⟨v7, rfl, ho7, hb7⟩
  go_wp2_with fail
  go_ret
  simp only [List.append_assoc] at ho7
  rw [fixL_length, ← Nat.add_assoc 4]
  exact ⟨_, rfl, ho7.mono hxa.size, Below.trans ((hxa.trans hbb).trans hc : Ext w wc) ((Below.trans (Below.trans hb5 hb6) hb7).mono hxa.size)⟩
end Go.Proofs.Yteahlnoonmfjhaa
