/- jettylaw07.works, walked (printed by gen_diskworks.py). -/
import Derived.Test.YtobcfocbglkicaaDkM
set_option linter.unusedVariables false
set_option maxRecDepth 100000
namespace Go.Proofs.Ytobcfocbglkicaa
open Go.RowKit

set_option maxHeartbeats 16000000 in
theorem dworks_any (w : World) : Calls Try.prog 22 #[] w fun e w' => e = .returned (.bool true) ∧ Below w.heap.size w w' := by
  go_enter Try.func22, Try.ntmps22
  have h0 : St w [] [] w := St.start w
  go_wp2_with fail
  refine (new_l h0 64 (by omega) (by omega)).mono ?_
  rintro e w1 ⟨g_d, rfl, h1⟩
  replace h1 : St w [] [(g_d, ⟨64, [], [], 0, [], false⟩)] w1 := h1
  go_wp2_with fail
  refine (block_k h1 97 97 (by rfl)).mono ?_
  rintro e w2 ⟨rfl, h2⟩
  replace h2 : St w [] [(g_d, ⟨64, [], [], 0, [], false⟩)] w2 := h2
  clear h1
  go_wp2_with fail
  refine (write_k 0 h2 rfl 1 (blkC_length 97) ⟨64, [], [(1, blkC 97)], 0, [], false⟩ 0 (by kernel_rfl) (by decide) (by decide)).mono ?_
  rintro e w3 ⟨rfl, h3⟩
  replace h3 : St w [] [(g_d, ⟨64, [], [(1, blkC 97)], 0, [], false⟩)] w3 := h3
  clear h2
  go_wp2_with fail
  refine (block_k h3 98 98 (by rfl)).mono ?_
  rintro e w4 ⟨rfl, h4⟩
  replace h4 : St w [] [(g_d, ⟨64, [], [(1, blkC 97)], 0, [], false⟩)] w4 := h4
  clear h3
  go_wp2_with fail
  refine (write_k 0 h4 rfl 1 (blkC_length 98) ⟨64, [], [(1, blkC 97), (1, blkC 98)], 0, [], false⟩ 0 (by kernel_rfl) (by decide) (by decide)).mono ?_
  rintro e w5 ⟨rfl, h5⟩
  replace h5 : St w [] [(g_d, ⟨64, [], [(1, blkC 97), (1, blkC 98)], 0, [], false⟩)] w5 := h5
  clear h4
  go_wp2_with fail
  refine (is_k 0 h5 rfl 1 98 98 true (by rfl) (by decide +kernel) (by decide)).mono ?_
  rintro e w6 ⟨rfl, h6⟩
  replace h6 : St w [] [(g_d, ⟨64, [], [(1, blkC 97), (1, blkC 98)], 0, [], false⟩)] w6 := h6
  clear h5
  go_wp2_with fail
  refine (waiting_k 0 h6 rfl 2 (by rfl)).mono ?_
  rintro e w7 ⟨rfl, h7⟩
  replace h7 : St w [] [(g_d, ⟨64, [], [(1, blkC 97), (1, blkC 98)], 0, [], false⟩)] w7 := h7
  clear h6
  have r7 := h7.alloc (.cells (bcs [true]).toArray 4 (0, 0))
  go_wp2_with fail
  refine (fail_k 0 r7 rfl [true] (r7.rb (l := [true]) 0 rfl) ⟨64, [(1, blkC 97)], [], 0, [], true⟩ 0 (by kernel_rfl) (by decide) (by decide)).mono ?_
  rintro e w8 ⟨rfl, h8⟩
  replace h8 := h8.drop
  clear r7
  replace h8 : St w [] [(g_d, ⟨64, [(1, blkC 97)], [], 0, [], true⟩)] w8 := h8
  clear h7
  go_wp2_with fail
  refine (dead_k 0 h8 rfl true rfl).mono ?_
  rintro e w9 ⟨rfl, h9⟩
  replace h9 : St w [] [(g_d, ⟨64, [(1, blkC 97)], [], 0, [], true⟩)] w9 := h9
  clear h8
  go_wp2_with fail
  refine (booted_l 0 h9 rfl rfl).mono ?_
  rintro e w10 ⟨g_x, rfl, h10⟩
  replace h10 : St w [] [(g_x, ⟨64, [(1, blkC 97)], [], 0, [], false⟩), (g_d, ⟨64, [(1, blkC 97)], [], 0, [], true⟩)] w10 := h10
  clear h9
  replace h10 := h10.dropI 1
  replace h10 : St w [] [(g_x, ⟨64, [(1, blkC 97)], [], 0, [], false⟩)] w10 := h10
  go_wp2_with fail
  refine (is_k 0 h10 rfl 1 97 97 true (by rfl) (by decide +kernel) (by decide)).mono ?_
  rintro e w11 ⟨rfl, h11⟩
  replace h11 : St w [] [(g_x, ⟨64, [(1, blkC 97)], [], 0, [], false⟩)] w11 := h11
  clear h10
  go_wp2_with fail
  refine (block_k h11 99 99 (by rfl)).mono ?_
  rintro e w12 ⟨rfl, h12⟩
  replace h12 : St w [] [(g_x, ⟨64, [(1, blkC 97)], [], 0, [], false⟩)] w12 := h12
  clear h11
  go_wp2_with fail
  refine (write_k 0 h12 rfl 2 (blkC_length 99) ⟨64, [(1, blkC 97)], [(2, blkC 99)], 0, [], false⟩ 0 (by kernel_rfl) (by decide) (by decide)).mono ?_
  rintro e w13 ⟨rfl, h13⟩
  replace h13 : St w [] [(g_x, ⟨64, [(1, blkC 97)], [(2, blkC 99)], 0, [], false⟩)] w13 := h13
  clear h12
  go_wp2_with fail
  refine (flush_k 0 h13 rfl ⟨64, [(1, blkC 97), (2, blkC 99)], [], 0, [], false⟩ 0 (by kernel_rfl) (by decide) (by decide)).mono ?_
  rintro e w14 ⟨rfl, h14⟩
  replace h14 : St w [] [(g_x, ⟨64, [(1, blkC 97), (2, blkC 99)], [], 0, [], false⟩)] w14 := h14
  clear h13
  go_wp2_with fail
  refine (block_k h14 100 100 (by rfl)).mono ?_
  rintro e w15 ⟨rfl, h15⟩
  replace h15 : St w [] [(g_x, ⟨64, [(1, blkC 97), (2, blkC 99)], [], 0, [], false⟩)] w15 := h15
  clear h14
  go_wp2_with fail
  refine (write_k 0 h15 rfl 2 (blkC_length 100) ⟨64, [(1, blkC 97), (2, blkC 99)], [(2, blkC 100)], 0, [], false⟩ 0 (by kernel_rfl) (by decide) (by decide)).mono ?_
  rintro e w16 ⟨rfl, h16⟩
  replace h16 : St w [] [(g_x, ⟨64, [(1, blkC 97), (2, blkC 99)], [(2, blkC 100)], 0, [], false⟩)] w16 := h16
  clear h15
  have r16 := h16.alloc (.cells (bcs [false, true]).toArray 4 (0, 0))
  go_wp2_with fail
  refine (cut_k 0 r16 rfl 1 [false, true] (r16.rb (l := [false, true]) 0 rfl) ⟨64, [(1, blkC 97), (2, blkC 99)], [(2, blkC 100)], 1, [false, true], false⟩ 0 (by kernel_rfl) (by decide) (by decide) (by rintro b off m c e; cases e; exact .inr ⟨_, List.mem_cons_self⟩)).mono ?_
  rintro e w17 ⟨rfl, h17⟩
  replace h17 := h17.drop
  clear r16
  replace h17 : St w [] [(g_x, ⟨64, [(1, blkC 97), (2, blkC 99)], [(2, blkC 100)], 1, [false, true], false⟩)] w17 := h17
  clear h16
  go_wp2_with fail
  refine (block_k h17 101 101 (by rfl)).mono ?_
  rintro e w18 ⟨rfl, h18⟩
  replace h18 : St w [] [(g_x, ⟨64, [(1, blkC 97), (2, blkC 99)], [(2, blkC 100)], 1, [false, true], false⟩)] w18 := h18
  clear h17
  go_wp2_with fail
  refine (write_k 0 h18 rfl 3 (blkC_length 101) ⟨64, [(1, blkC 97), (2, blkC 99), (3, blkC 101)], [], 0, [], true⟩ 51 (by kernel_rfl) (by decide) (by decide)).mono ?_
  rintro e w19 ⟨rfl, h19⟩
  replace h19 : St w [] [(g_x, ⟨64, [(1, blkC 97), (2, blkC 99), (3, blkC 101)], [], 0, [], true⟩)] w19 := h19
  clear h18
  go_wp2_with fail
  refine (booted_l 0 h19 rfl rfl).mono ?_
  rintro e w20 ⟨g_y, rfl, h20⟩
  replace h20 : St w [] [(g_y, ⟨64, [(1, blkC 97), (2, blkC 99), (3, blkC 101)], [], 0, [], false⟩), (g_x, ⟨64, [(1, blkC 97), (2, blkC 99), (3, blkC 101)], [], 0, [], true⟩)] w20 := h20
  clear h19
  replace h20 := h20.dropI 1
  replace h20 : St w [] [(g_y, ⟨64, [(1, blkC 97), (2, blkC 99), (3, blkC 101)], [], 0, [], false⟩)] w20 := h20
  go_wp2_with fail
  refine (is_k 0 h20 rfl 2 99 99 true (by rfl) (by decide +kernel) (by decide)).mono ?_
  rintro e w21 ⟨rfl, h21⟩
  replace h21 : St w [] [(g_y, ⟨64, [(1, blkC 97), (2, blkC 99), (3, blkC 101)], [], 0, [], false⟩)] w21 := h21
  clear h20
  go_wp2_with fail
  refine (is_k 0 h21 rfl 3 101 101 true (by rfl) (by decide +kernel) (by decide)).mono ?_
  rintro e w22 ⟨rfl, h22⟩
  replace h22 : St w [] [(g_y, ⟨64, [(1, blkC 97), (2, blkC 99), (3, blkC 101)], [], 0, [], false⟩)] w22 := h22
  clear h21
  go_wp2_with fail
  refine (cut_k 0 h22 rfl 2 [] (.inl ⟨none, 0, rfl, rfl⟩) ⟨64, [(1, blkC 97), (2, blkC 99), (3, blkC 101)], [], 2, [], false⟩ 0 (by kernel_rfl) (by decide) (by decide) (by rintro b off m c e; cases e)).mono ?_
  rintro e w23 ⟨rfl, h23⟩
  replace h23 : St w [] [(g_y, ⟨64, [(1, blkC 97), (2, blkC 99), (3, blkC 101)], [], 2, [], false⟩)] w23 := h23
  clear h22
  go_wp2_with fail
  refine (block_k h23 102 102 (by rfl)).mono ?_
  rintro e w24 ⟨rfl, h24⟩
  replace h24 : St w [] [(g_y, ⟨64, [(1, blkC 97), (2, blkC 99), (3, blkC 101)], [], 2, [], false⟩)] w24 := h24
  clear h23
  go_wp2_with fail
  refine (write_k 0 h24 rfl 5 (blkC_length 102) ⟨64, [(1, blkC 97), (2, blkC 99), (3, blkC 101)], [(5, blkC 102)], 1, [], false⟩ 0 (by kernel_rfl) (by decide) (by decide)).mono ?_
  rintro e w25 ⟨rfl, h25⟩
  replace h25 : St w [] [(g_y, ⟨64, [(1, blkC 97), (2, blkC 99), (3, blkC 101)], [(5, blkC 102)], 1, [], false⟩)] w25 := h25
  clear h24
  go_wp2_with fail
  refine (flush_k 0 h25 rfl ⟨64, [(1, blkC 97), (2, blkC 99), (3, blkC 101)], [], 0, [], true⟩ 51 (by kernel_rfl) (by decide) (by decide)).mono ?_
  rintro e w26 ⟨rfl, h26⟩
  replace h26 : St w [] [(g_y, ⟨64, [(1, blkC 97), (2, blkC 99), (3, blkC 101)], [], 0, [], true⟩)] w26 := h26
  clear h25
  go_wp2_with fail
  refine (dead_k 0 h26 rfl true rfl).mono ?_
  rintro e w27 ⟨rfl, h27⟩
  replace h27 : St w [] [(g_y, ⟨64, [(1, blkC 97), (2, blkC 99), (3, blkC 101)], [], 0, [], true⟩)] w27 := h27
  clear h26
  go_wp2_with fail
  go_ret
  exact ⟨rfl, h27.bel⟩
end Go.Proofs.Ytobcfocbglkicaa
