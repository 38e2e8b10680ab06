/- jettylaw09.works, walked (printed by gen_ringworks.py). -/
import Derived.Test.YtobcfocbglkicaaRgE
set_option linter.unusedVariables false
set_option maxRecDepth 100000
namespace Go.Proofs.Ytobcfocbglkicaa
open Go.RowKit

theorem rgPlace_k (n p : Int) (h : placeR n = p) (w : World) : Calls Try.prog 20 #[.int .i64 n] w fun e w' => e = .returned (.int .i64 p) ∧ Below w.heap.size w w' := by
  subst h
  exact rgPlace_any n w
set_option maxHeartbeats 16000000 in
theorem rworks_any (w : World) : Calls Try.prog 46 #[] w fun e w' => e = .returned (.bool true) ∧ Below w.heap.size w w' := by
  go_enter Try.func46, Try.ntmps46
  have h0 : DSt w [] [] w := DSt.start w
  go_wp2_with fail
  refine (new_l h0 64 (by omega) (by omega)).mono ?_
  rintro e w1 ⟨g_d, rfl, h1⟩
  replace h1 : DSt w [] [(g_d, ⟨64, [], [], 0, [], false⟩)] w1 := h1
  go_wp2_with fail
  refine (newest_k 0 h1 rfl 0 [] 5 (by kernel_rfl) (by decide)).mono ?_
  rintro e w2 ⟨rfl, h2⟩
  replace h2 : DSt w [] [(g_d, ⟨64, [], [], 0, [], false⟩)] w2 := h2
  clear h1
  replace h2 := h2.ext (extAl _ (.cells (rtC ⟨0, []⟩) 29))
  go_wp2_with (first | (refine wpList_al rfl 29 rfl alloc_rt ?_; simp only [Act.put]) | (refine wpList_st rfl 29 _ _ rfl (st_rtn ⟨0, []⟩ _) ?_; simp only [Act.put]))
  refine (rgPlace_k 7 1 (by decide) _).mono ?_
  rintro e w3 ⟨rfl, h3⟩
  replace h3 := h2.ext h3
  replace h3 : DSt w [] [(g_d, ⟨64, [], [], 0, [], false⟩)] w3 := h3
  clear h2
  go_wp2_with fail
  refine (r_any 1 [97] _).mono ?_
  rintro e w4 ⟨rfl, h4⟩
  replace h4 := h3.ext h4
  replace h4 : DSt w [] [(g_d, ⟨64, [], [], 0, [], false⟩)] w4 := h4
  clear h3
  go_wp2_with fail
  refine (put_k 0 h4 rfl 1 [97] (by decide) ⟨64, [], [(1, (rkS 1 [97]).1)], 0, [], false⟩ 0 (by kernel_rfl) (by decide) (by decide)).mono ?_
  rintro e w5 ⟨rfl, h5⟩
  replace h5 : DSt w [] [(g_d, ⟨64, [], [(1, (rkS 1 [97]).1)], 0, [], false⟩)] w5 := h5
  clear h4
  go_wp2_with fail
  refine (r_any 2 [98] _).mono ?_
  rintro e w6 ⟨rfl, h6⟩
  replace h6 := h5.ext h6
  replace h6 : DSt w [] [(g_d, ⟨64, [], [(1, (rkS 1 [97]).1)], 0, [], false⟩)] w6 := h6
  clear h5
  go_wp2_with fail
  refine (put_k 0 h6 rfl 2 [98] (by decide) ⟨64, [], [(1, (rkS 1 [97]).1), (0, (rkS 2 [98]).1)], 0, [], false⟩ 0 (by kernel_rfl) (by decide) (by decide)).mono ?_
  rintro e w7 ⟨rfl, h7⟩
  replace h7 : DSt w [] [(g_d, ⟨64, [], [(1, (rkS 1 [97]).1), (0, (rkS 2 [98]).1)], 0, [], false⟩)] w7 := h7
  clear h6
  go_wp2_with fail
  refine (nw_k 0 h7 rfl 2 [98] true (by decide +kernel) (by decide)).mono ?_
  rintro e w8 ⟨rfl, h8⟩
  replace h8 : DSt w [] [(g_d, ⟨64, [], [(1, (rkS 1 [97]).1), (0, (rkS 2 [98]).1)], 0, [], false⟩)] w8 := h8
  clear h7
  go_wp2_with fail
  refine (r_any 3 [99] _).mono ?_
  rintro e w9 ⟨rfl, h9⟩
  replace h9 := h8.ext h9
  replace h9 : DSt w [] [(g_d, ⟨64, [], [(1, (rkS 1 [97]).1), (0, (rkS 2 [98]).1)], 0, [], false⟩)] w9 := h9
  clear h8
  go_wp2_with fail
  refine (put_k 0 h9 rfl 3 [99] (by decide) ⟨64, [], [(1, (rkS 1 [97]).1), (0, (rkS 2 [98]).1), (1, (rkS 3 [99]).1)], 0, [], false⟩ 0 (by kernel_rfl) (by decide) (by decide)).mono ?_
  rintro e w10 ⟨rfl, h10⟩
  replace h10 : DSt w [] [(g_d, ⟨64, [], [(1, (rkS 1 [97]).1), (0, (rkS 2 [98]).1), (1, (rkS 3 [99]).1)], 0, [], false⟩)] w10 := h10
  clear h9
  go_wp2_with fail
  refine (nw_k 0 h10 rfl 3 [99] true (by decide +kernel) (by decide)).mono ?_
  rintro e w11 ⟨rfl, h11⟩
  replace h11 : DSt w [] [(g_d, ⟨64, [], [(1, (rkS 1 [97]).1), (0, (rkS 2 [98]).1), (1, (rkS 3 [99]).1)], 0, [], false⟩)] w11 := h11
  clear h10
  go_wp2_with fail
  refine (r_any 0 [] _).mono ?_
  rintro e w12 ⟨rfl, h12⟩
  replace h12 := h11.ext h12
  replace h12 : DSt w [] [(g_d, ⟨64, [], [(1, (rkS 1 [97]).1), (0, (rkS 2 [98]).1), (1, (rkS 3 [99]).1)], 0, [], false⟩)] w12 := h12
  clear h11
  go_wp2_with fail
  refine (rgSeal_k 0 [] zB 1 (by decide) (by kernel_rfl) _).mono ?_
  rintro e w13 ⟨rfl, h13⟩
  replace h13 := h12.ext h13
  replace h13 : DSt w [] [(g_d, ⟨64, [], [(1, (rkS 1 [97]).1), (0, (rkS 2 [98]).1), (1, (rkS 3 [99]).1)], 0, [], false⟩)] w13 := h13
  clear h12
  replace h13 := h13.ext (extAl _ (.cells (bvs zB).toArray 25))
  go_wp2_with (first | (refine wpList_al rfl 25 rfl alloc_blk ?_; simp only [Act.put]) | (refine wpList_st rfl 25 _ _ rfl (st_blkn zB zB_length _) ?_; simp only [Act.put]) | (refine wpList_bd rfl 25 rfl build_blk ?_; simp only [Act.put]))
  refine (write_k 0 h13 rfl 1 zB_length ⟨64, [], [(1, (rkS 1 [97]).1), (0, (rkS 2 [98]).1), (1, (rkS 3 [99]).1), (1, zB)], 0, [], false⟩ 0 (by kernel_rfl) (by decide) (by decide)).mono ?_
  rintro e w14 ⟨rfl, h14⟩
  replace h14 : DSt w [] [(g_d, ⟨64, [], [(1, (rkS 1 [97]).1), (0, (rkS 2 [98]).1), (1, (rkS 3 [99]).1), (1, zB)], 0, [], false⟩)] w14 := h14
  clear h13
  go_wp2_with fail
  refine (nw_k 0 h14 rfl 2 [98] true (by decide +kernel) (by decide)).mono ?_
  rintro e w15 ⟨rfl, h15⟩
  replace h15 : DSt w [] [(g_d, ⟨64, [], [(1, (rkS 1 [97]).1), (0, (rkS 2 [98]).1), (1, (rkS 3 [99]).1), (1, zB)], 0, [], false⟩)] w15 := h15
  clear h14
  go_wp2_with fail
  go_ret
  exact ⟨rfl, h15.bel⟩
end Go.Proofs.Ytobcfocbglkicaa
