/- Proved: DiskNames, which has no argument, returns true. No condition. (Printed by a program of my own, gen_disknames.py.) -/
import Derived.Test.YtobcfocbglkicaaDkW
import Derived.Test.YtobcfocbglkicaaDkN
import Derived.Test.YtobcfocbglkicaaLift
import Derived.Deep.DeepCutAuto
set_option linter.unusedVariables false
set_option maxRecDepth 100000
namespace Go.Proofs.Ytobcfocbglkicaa.diskNames
open Go.RowKit Go.ChangeShapes Go.WideShapes Go.ChangeAt Go.Deep Go.Proofs.Ytobcfocbglkicaa

set_option maxHeartbeats 32000000 in
theorem walk (w : World) : Calls Try.prog 7 #[] w fun e w' => e = .returned (.bool true) ∧ Below w.heap.size w w' := by
  go_enter Try.func7, Try.ntmps7
  have h0 : St w [] [] w := St.start w
  go_wp2_with fail
  refine (dworks_any _).mono ?_
  rintro e w1 ⟨rfl, h1⟩
  replace h1 := h0.ext h1
  replace h1 : St w [] [] w1 := h1
  go_wp2_with fail
  refine (nonew_l h1 63 (by omega)).mono ?_
  rintro e w2 ⟨rfl, h2⟩
  replace h2 : St w [] [] w2 := h2
  clear h1
  go_wp2_with fail
  refine (nonew_l h2 8193 (by omega)).mono ?_
  rintro e w3 ⟨rfl, h3⟩
  replace h3 : St w [] [] w3 := h3
  clear h2
  go_wp2_with fail
  refine (new_l h3 8192 (by omega) (by omega)).mono ?_
  rintro e w4 ⟨g_d, rfl, h4⟩
  replace h4 : St w [] [(g_d, ⟨8192, [], [], 0, [], false⟩)] w4 := h4
  clear h3
  go_wp2_with fail
  refine (noboot_l 0 h4 rfl rfl).mono ?_
  rintro e w5 ⟨rfl, h5⟩
  replace h5 : St w [] [(g_d, ⟨8192, [], [], 0, [], false⟩)] w5 := h5
  clear h4
  go_wp2_with fail
  refine (read_k 0 h5 rfl 8192 zB 1 (by kernel_rfl) (by decide)).mono ?_
  rintro e w6 ⟨rfl, h6⟩
  replace h6 : St w [] [(g_d, ⟨8192, [], [], 0, [], false⟩)] w6 := h6
  clear h5
  replace h6 := h6.ext (extAl _ (.cells (bvs zB).toArray 25))
  go_wp2_with (first | (refine wpList_al rfl 25 rfl alloc_blk ?_; simp only [Act.put]) | (refine wpList_st rfl 25 _ _ rfl (st_blkn zB zB_length _) ?_; simp only [Act.put]))
  refine (read_k 0 h6 rfl (-1) zB 1 (by kernel_rfl) (by decide)).mono ?_
  rintro e w7 ⟨rfl, h7⟩
  replace h7 : St w [] [(g_d, ⟨8192, [], [], 0, [], false⟩)] w7 := h7
  clear h6
  replace h7 := h7.ext (extAl _ (.cells (bvs zB).toArray 25))
  go_wp2_with (first | (refine wpList_al rfl 25 rfl alloc_blk ?_; simp only [Act.put]) | (refine wpList_st rfl 25 _ _ rfl (st_blkn zB zB_length _) ?_; simp only [Act.put]))
  refine (blocks_l 0 h7 rfl).mono ?_
  rintro e w8 ⟨rfl, h8⟩
  replace h8 : St w [] [(g_d, ⟨8192, [], [], 0, [], false⟩)] w8 := h8
  clear h7
  go_wp2_with fail
  refine (block_k h8 1 1 (by rfl)).mono ?_
  rintro e w9 ⟨rfl, h9⟩
  replace h9 : St w [] [(g_d, ⟨8192, [], [], 0, [], false⟩)] w9 := h9
  clear h8
  go_wp2_with fail
  refine (write_k 0 h9 rfl 8192 (blkC_length 1) ⟨8192, [], [], 0, [], false⟩ 1 (by kernel_rfl) (by decide) (by decide)).mono ?_
  rintro e w10 ⟨rfl, h10⟩
  replace h10 : St w [] [(g_d, ⟨8192, [], [], 0, [], false⟩)] w10 := h10
  clear h9
  go_wp2_with fail
  refine (block_k h10 1 1 (by rfl)).mono ?_
  rintro e w11 ⟨rfl, h11⟩
  replace h11 : St w [] [(g_d, ⟨8192, [], [], 0, [], false⟩)] w11 := h11
  clear h10
  go_wp2_with fail
  refine (write_k 0 h11 rfl (-1) (blkC_length 1) ⟨8192, [], [], 0, [], false⟩ 1 (by kernel_rfl) (by decide) (by decide)).mono ?_
  rintro e w12 ⟨rfl, h12⟩
  replace h12 : St w [] [(g_d, ⟨8192, [], [], 0, [], false⟩)] w12 := h12
  clear h11
  go_wp2_with fail
  refine (cut_k 0 h12 rfl (-1) [] (.inl ⟨none, 0, rfl, rfl⟩) ⟨8192, [], [], 0, [], false⟩ 1 (by kernel_rfl) (by decide) (by decide) (by rintro b off m c e; cases e)).mono ?_
  rintro e w13 ⟨rfl, h13⟩
  replace h13 : St w [] [(g_d, ⟨8192, [], [], 0, [], false⟩)] w13 := h13
  clear h12
  go_wp2_with fail
  refine (is_k 0 h13 rfl 8191 0 0 true (by rfl) (by decide +kernel) (by decide)).mono ?_
  rintro e w14 ⟨rfl, h14⟩
  replace h14 : St w [] [(g_d, ⟨8192, [], [], 0, [], false⟩)] w14 := h14
  clear h13
  go_wp2_with fail
  refine (block_k h14 1 1 (by rfl)).mono ?_
  rintro e w15 ⟨rfl, h15⟩
  replace h15 : St w [] [(g_d, ⟨8192, [], [], 0, [], false⟩)] w15 := h15
  clear h14
  go_wp2_with fail
  refine (write_k 0 h15 rfl 8191 (blkC_length 1) ⟨8192, [], [(8191, blkC 1)], 0, [], false⟩ 0 (by kernel_rfl) (by decide) (by decide)).mono ?_
  rintro e w16 ⟨rfl, h16⟩
  replace h16 : St w [] [(g_d, ⟨8192, [], [(8191, blkC 1)], 0, [], false⟩)] w16 := h16
  clear h15
  go_wp2_with fail
  refine (cut_k 0 h16 rfl 1 [] (.inl ⟨none, 0, rfl, rfl⟩) ⟨8192, [], [(8191, blkC 1)], 1, [], false⟩ 0 (by kernel_rfl) (by decide) (by decide) (by rintro b off m c e; cases e)).mono ?_
  rintro e w17 ⟨rfl, h17⟩
  replace h17 : St w [] [(g_d, ⟨8192, [], [(8191, blkC 1)], 1, [], false⟩)] w17 := h17
  clear h16
  go_wp2_with fail
  refine (cut_k 0 h17 rfl 0 [] (.inl ⟨none, 0, rfl, rfl⟩) ⟨8192, [], [(8191, blkC 1)], 0, [], false⟩ 0 (by kernel_rfl) (by decide) (by decide) (by rintro b off m c e; cases e)).mono ?_
  rintro e w18 ⟨rfl, h18⟩
  replace h18 : St w [] [(g_d, ⟨8192, [], [(8191, blkC 1)], 0, [], false⟩)] w18 := h18
  clear h17
  go_wp2_with fail
  refine (flush_k 0 h18 rfl ⟨8192, [(8191, blkC 1)], [], 0, [], false⟩ 0 (by kernel_rfl) (by decide) (by decide)).mono ?_
  rintro e w19 ⟨rfl, h19⟩
  replace h19 : St w [] [(g_d, ⟨8192, [(8191, blkC 1)], [], 0, [], false⟩)] w19 := h19
  clear h18
  go_wp2_with fail
  refine (cut_k 0 h19 rfl 1 [] (.inl ⟨none, 0, rfl, rfl⟩) ⟨8192, [(8191, blkC 1)], [], 1, [], false⟩ 0 (by kernel_rfl) (by decide) (by decide) (by rintro b off m c e; cases e)).mono ?_
  rintro e w20 ⟨rfl, h20⟩
  replace h20 : St w [] [(g_d, ⟨8192, [(8191, blkC 1)], [], 1, [], false⟩)] w20 := h20
  clear h19
  have r20 := h20.alloc (.cells (bcs [true, false]).toArray 4 (0, 0))
  go_wp2_with fail
  refine (cut_k 0 r20 rfl 2 [true, false] (r20.rb (l := [true, false]) 0 rfl) ⟨8192, [(8191, blkC 1)], [], 2, [true, false], false⟩ 0 (by kernel_rfl) (by decide) (by decide) (by rintro b off m c e; cases e; exact .inr ⟨_, List.mem_cons_self⟩)).mono ?_
  rintro e w21 ⟨rfl, h21⟩
  replace h21 := h21.drop
  clear r20
  replace h21 : St w [] [(g_d, ⟨8192, [(8191, blkC 1)], [], 2, [true, false], false⟩)] w21 := h21
  clear h20
  go_wp2_with fail
  refine (block_k h21 2 2 (by rfl)).mono ?_
  rintro e w22 ⟨rfl, h22⟩
  replace h22 : St w [] [(g_d, ⟨8192, [(8191, blkC 1)], [], 2, [true, false], false⟩)] w22 := h22
  clear h21
  go_wp2_with fail
  refine (write_k 0 h22 rfl 9000 (blkC_length 2) ⟨8192, [(8191, blkC 1)], [], 2, [true, false], false⟩ 1 (by kernel_rfl) (by decide) (by decide)).mono ?_
  rintro e w23 ⟨rfl, h23⟩
  replace h23 : St w [] [(g_d, ⟨8192, [(8191, blkC 1)], [], 2, [true, false], false⟩)] w23 := h23
  clear h22
  go_wp2_with fail
  refine (block_k h23 2 2 (by rfl)).mono ?_
  rintro e w24 ⟨rfl, h24⟩
  replace h24 : St w [] [(g_d, ⟨8192, [(8191, blkC 1)], [], 2, [true, false], false⟩)] w24 := h24
  clear h23
  go_wp2_with fail
  refine (write_k 0 h24 rfl 7 (blkC_length 2) ⟨8192, [(8191, blkC 1)], [(7, blkC 2)], 1, [true, false], false⟩ 0 (by kernel_rfl) (by decide) (by decide)).mono ?_
  rintro e w25 ⟨rfl, h25⟩
  replace h25 : St w [] [(g_d, ⟨8192, [(8191, blkC 1)], [(7, blkC 2)], 1, [true, false], false⟩)] w25 := h25
  clear h24
  go_wp2_with fail
  refine (block_k h25 3 3 (by rfl)).mono ?_
  rintro e w26 ⟨rfl, h26⟩
  replace h26 : St w [] [(g_d, ⟨8192, [(8191, blkC 1)], [(7, blkC 2)], 1, [true, false], false⟩)] w26 := h26
  clear h25
  go_wp2_with fail
  refine (write_k 0 h26 rfl 8191 (blkC_length 3) ⟨8192, [(8191, blkC 1), (7, blkC 2)], [], 0, [], true⟩ 51 (by kernel_rfl) (by decide) (by decide)).mono ?_
  rintro e w27 ⟨rfl, h27⟩
  replace h27 : St w [] [(g_d, ⟨8192, [(8191, blkC 1), (7, blkC 2)], [], 0, [], true⟩)] w27 := h27
  clear h26
  go_wp2_with fail
  refine (read_k 0 h27 rfl 7 zB 51 (by kernel_rfl) (by decide)).mono ?_
  rintro e w28 ⟨rfl, h28⟩
  replace h28 : St w [] [(g_d, ⟨8192, [(8191, blkC 1), (7, blkC 2)], [], 0, [], true⟩)] w28 := h28
  clear h27
  replace h28 := h28.ext (extAl _ (.cells (bvs zB).toArray 25))
  go_wp2_with (first | (refine wpList_al rfl 25 rfl alloc_blk ?_; simp only [Act.put]) | (refine wpList_st rfl 25 _ _ rfl (st_blkn zB zB_length _) ?_; simp only [Act.put]))
  refine (dead_k 0 h28 rfl true rfl).mono ?_
  rintro e w29 ⟨rfl, h29⟩
  replace h29 : St w [] [(g_d, ⟨8192, [(8191, blkC 1), (7, blkC 2)], [], 0, [], true⟩)] w29 := h29
  clear h28
  go_wp2_with fail
  refine (waiting_k 0 h29 rfl 0 (by rfl)).mono ?_
  rintro e w30 ⟨rfl, h30⟩
  replace h30 : St w [] [(g_d, ⟨8192, [(8191, blkC 1), (7, blkC 2)], [], 0, [], true⟩)] w30 := h30
  clear h29
  go_wp2_with fail
  refine (block_k h30 1 1 (by rfl)).mono ?_
  rintro e w31 ⟨rfl, h31⟩
  replace h31 : St w [] [(g_d, ⟨8192, [(8191, blkC 1), (7, blkC 2)], [], 0, [], true⟩)] w31 := h31
  clear h30
  go_wp2_with fail
  refine (write_k 0 h31 rfl 7 (blkC_length 1) ⟨8192, [(8191, blkC 1), (7, blkC 2)], [], 0, [], true⟩ 51 (by kernel_rfl) (by decide) (by decide)).mono ?_
  rintro e w32 ⟨rfl, h32⟩
  replace h32 : St w [] [(g_d, ⟨8192, [(8191, blkC 1), (7, blkC 2)], [], 0, [], true⟩)] w32 := h32
  clear h31
  go_wp2_with fail
  refine (flush_k 0 h32 rfl ⟨8192, [(8191, blkC 1), (7, blkC 2)], [], 0, [], true⟩ 51 (by kernel_rfl) (by decide) (by decide)).mono ?_
  rintro e w33 ⟨rfl, h33⟩
  replace h33 : St w [] [(g_d, ⟨8192, [(8191, blkC 1), (7, blkC 2)], [], 0, [], true⟩)] w33 := h33
  clear h32
  go_wp2_with fail
  refine (cut_k 0 h33 rfl 1 [] (.inl ⟨none, 0, rfl, rfl⟩) ⟨8192, [(8191, blkC 1), (7, blkC 2)], [], 0, [], true⟩ 51 (by kernel_rfl) (by decide) (by decide) (by rintro b off m c e; cases e)).mono ?_
  rintro e w34 ⟨rfl, h34⟩
  replace h34 : St w [] [(g_d, ⟨8192, [(8191, blkC 1), (7, blkC 2)], [], 0, [], true⟩)] w34 := h34
  clear h33
  go_wp2_with fail
  refine (fail_k 0 h34 rfl [] (.inl ⟨none, 0, rfl, rfl⟩) ⟨8192, [(8191, blkC 1), (7, blkC 2)], [], 0, [], true⟩ 51 (by kernel_rfl) (by decide) (by decide)).mono ?_
  rintro e w35 ⟨rfl, h35⟩
  replace h35 : St w [] [(g_d, ⟨8192, [(8191, blkC 1), (7, blkC 2)], [], 0, [], true⟩)] w35 := h35
  clear h34
  go_wp2_with fail
  refine (block_k h35 1 1 (by rfl)).mono ?_
  rintro e w36 ⟨rfl, h36⟩
  replace h36 : St w [] [(g_d, ⟨8192, [(8191, blkC 1), (7, blkC 2)], [], 0, [], true⟩)] w36 := h36
  clear h35
  go_wp2_with fail
  refine (write_k 0 h36 rfl (-1) (blkC_length 1) ⟨8192, [(8191, blkC 1), (7, blkC 2)], [], 0, [], true⟩ 51 (by kernel_rfl) (by decide) (by decide)).mono ?_
  rintro e w37 ⟨rfl, h37⟩
  replace h37 : St w [] [(g_d, ⟨8192, [(8191, blkC 1), (7, blkC 2)], [], 0, [], true⟩)] w37 := h37
  clear h36
  go_wp2_with fail
  refine (booted_l 0 h37 rfl rfl).mono ?_
  rintro e w38 ⟨g_one, rfl, h38⟩
  replace h38 : St w [] [(g_one, ⟨8192, [(8191, blkC 1), (7, blkC 2)], [], 0, [], false⟩), (g_d, ⟨8192, [(8191, blkC 1), (7, blkC 2)], [], 0, [], true⟩)] w38 := h38
  clear h37
  go_wp2_with fail
  refine (booted_l 1 h38 rfl rfl).mono ?_
  rintro e w39 ⟨g_two, rfl, h39⟩
  replace h39 : St w [] [(g_two, ⟨8192, [(8191, blkC 1), (7, blkC 2)], [], 0, [], false⟩), (g_one, ⟨8192, [(8191, blkC 1), (7, blkC 2)], [], 0, [], false⟩), (g_d, ⟨8192, [(8191, blkC 1), (7, blkC 2)], [], 0, [], true⟩)] w39 := h39
  clear h38
  go_wp2_with fail
  refine (is_k 1 h39 rfl 7 2 2 true (by rfl) (by decide +kernel) (by decide)).mono ?_
  rintro e w40 ⟨rfl, h40⟩
  replace h40 : St w [] [(g_two, ⟨8192, [(8191, blkC 1), (7, blkC 2)], [], 0, [], false⟩), (g_one, ⟨8192, [(8191, blkC 1), (7, blkC 2)], [], 0, [], false⟩), (g_d, ⟨8192, [(8191, blkC 1), (7, blkC 2)], [], 0, [], true⟩)] w40 := h40
  clear h39
  go_wp2_with fail
  refine (is_k 1 h40 rfl 8191 1 1 true (by rfl) (by decide +kernel) (by decide)).mono ?_
  rintro e w41 ⟨rfl, h41⟩
  replace h41 : St w [] [(g_two, ⟨8192, [(8191, blkC 1), (7, blkC 2)], [], 0, [], false⟩), (g_one, ⟨8192, [(8191, blkC 1), (7, blkC 2)], [], 0, [], false⟩), (g_d, ⟨8192, [(8191, blkC 1), (7, blkC 2)], [], 0, [], true⟩)] w41 := h41
  clear h40
  go_wp2_with fail
  refine (block_k h41 5 5 (by rfl)).mono ?_
  rintro e w42 ⟨rfl, h42⟩
  replace h42 : St w [] [(g_two, ⟨8192, [(8191, blkC 1), (7, blkC 2)], [], 0, [], false⟩), (g_one, ⟨8192, [(8191, blkC 1), (7, blkC 2)], [], 0, [], false⟩), (g_d, ⟨8192, [(8191, blkC 1), (7, blkC 2)], [], 0, [], true⟩)] w42 := h42
  clear h41
  go_wp2_with fail
  refine (write_k 1 h42 rfl 7 (blkC_length 5) ⟨8192, [(8191, blkC 1), (7, blkC 2)], [(7, blkC 5)], 0, [], false⟩ 0 (by kernel_rfl) (by decide) (by decide)).mono ?_
  rintro e w43 ⟨rfl, h43⟩
  replace h43 : St w [] [(g_two, ⟨8192, [(8191, blkC 1), (7, blkC 2)], [], 0, [], false⟩), (g_one, ⟨8192, [(8191, blkC 1), (7, blkC 2)], [(7, blkC 5)], 0, [], false⟩), (g_d, ⟨8192, [(8191, blkC 1), (7, blkC 2)], [], 0, [], true⟩)] w43 := h43
  clear h42
  go_wp2_with fail
  refine (flush_k 1 h43 rfl ⟨8192, [(8191, blkC 1), (7, blkC 2), (7, blkC 5)], [], 0, [], false⟩ 0 (by kernel_rfl) (by decide) (by decide)).mono ?_
  rintro e w44 ⟨rfl, h44⟩
  replace h44 : St w [] [(g_two, ⟨8192, [(8191, blkC 1), (7, blkC 2)], [], 0, [], false⟩), (g_one, ⟨8192, [(8191, blkC 1), (7, blkC 2), (7, blkC 5)], [], 0, [], false⟩), (g_d, ⟨8192, [(8191, blkC 1), (7, blkC 2)], [], 0, [], true⟩)] w44 := h44
  clear h43
  go_wp2_with fail
  refine (is_k 0 h44 rfl 7 2 2 true (by rfl) (by decide +kernel) (by decide)).mono ?_
  rintro e w45 ⟨rfl, h45⟩
  replace h45 : St w [] [(g_two, ⟨8192, [(8191, blkC 1), (7, blkC 2)], [], 0, [], false⟩), (g_one, ⟨8192, [(8191, blkC 1), (7, blkC 2), (7, blkC 5)], [], 0, [], false⟩), (g_d, ⟨8192, [(8191, blkC 1), (7, blkC 2)], [], 0, [], true⟩)] w45 := h45
  clear h44
  go_wp2_with fail
  refine (booted_l 2 h45 rfl rfl).mono ?_
  rintro e w46 ⟨g_x, rfl, h46⟩
  replace h46 : St w [] [(g_x, ⟨8192, [(8191, blkC 1), (7, blkC 2)], [], 0, [], false⟩), (g_two, ⟨8192, [(8191, blkC 1), (7, blkC 2)], [], 0, [], false⟩), (g_one, ⟨8192, [(8191, blkC 1), (7, blkC 2), (7, blkC 5)], [], 0, [], false⟩), (g_d, ⟨8192, [(8191, blkC 1), (7, blkC 2)], [], 0, [], true⟩)] w46 := h46
  clear h45
  go_wp2_with fail
  refine (is_k 0 h46 rfl 7 2 2 true (by rfl) (by decide +kernel) (by decide)).mono ?_
  rintro e w47 ⟨rfl, h47⟩
  replace h47 : St w [] [(g_x, ⟨8192, [(8191, blkC 1), (7, blkC 2)], [], 0, [], false⟩), (g_two, ⟨8192, [(8191, blkC 1), (7, blkC 2)], [], 0, [], false⟩), (g_one, ⟨8192, [(8191, blkC 1), (7, blkC 2), (7, blkC 5)], [], 0, [], false⟩), (g_d, ⟨8192, [(8191, blkC 1), (7, blkC 2)], [], 0, [], true⟩)] w47 := h47
  clear h46
  replace h47 := h47.dropI 0
  replace h47 : St w [] [(g_two, ⟨8192, [(8191, blkC 1), (7, blkC 2)], [], 0, [], false⟩), (g_one, ⟨8192, [(8191, blkC 1), (7, blkC 2), (7, blkC 5)], [], 0, [], false⟩), (g_d, ⟨8192, [(8191, blkC 1), (7, blkC 2)], [], 0, [], true⟩)] w47 := h47
  replace h47 := h47.dropI 2
  replace h47 : St w [] [(g_two, ⟨8192, [(8191, blkC 1), (7, blkC 2)], [], 0, [], false⟩), (g_one, ⟨8192, [(8191, blkC 1), (7, blkC 2), (7, blkC 5)], [], 0, [], false⟩)] w47 := h47
  replace h47 := h47.dropI 0
  replace h47 : St w [] [(g_one, ⟨8192, [(8191, blkC 1), (7, blkC 2), (7, blkC 5)], [], 0, [], false⟩)] w47 := h47
  go_wp2_with fail
  refine (block_k h47 6 6 (by rfl)).mono ?_
  rintro e w48 ⟨rfl, h48⟩
  replace h48 : St w [] [(g_one, ⟨8192, [(8191, blkC 1), (7, blkC 2), (7, blkC 5)], [], 0, [], false⟩)] w48 := h48
  clear h47
  go_wp2_with fail
  refine (write_k 0 h48 rfl 8 (blkC_length 6) ⟨8192, [(8191, blkC 1), (7, blkC 2), (7, blkC 5)], [(8, blkC 6)], 0, [], false⟩ 0 (by kernel_rfl) (by decide) (by decide)).mono ?_
  rintro e w49 ⟨rfl, h49⟩
  replace h49 : St w [] [(g_one, ⟨8192, [(8191, blkC 1), (7, blkC 2), (7, blkC 5)], [(8, blkC 6)], 0, [], false⟩)] w49 := h49
  clear h48
  have r49 := h49.alloc (.cells (bcs [true]).toArray 4 (0, 0))
  go_wp2_with fail
  refine (cut_k 0 r49 rfl 1 [true] (r49.rb (l := [true]) 0 rfl) ⟨8192, [(8191, blkC 1), (7, blkC 2), (7, blkC 5)], [(8, blkC 6)], 1, [true], false⟩ 0 (by kernel_rfl) (by decide) (by decide) (by rintro b off m c e; cases e; exact .inr ⟨_, List.mem_cons_self⟩)).mono ?_
  rintro e w50 ⟨rfl, h50⟩
  replace h50 := h50.drop
  clear r49
  replace h50 : St w [] [(g_one, ⟨8192, [(8191, blkC 1), (7, blkC 2), (7, blkC 5)], [(8, blkC 6)], 1, [true], false⟩)] w50 := h50
  clear h49
  go_wp2_with fail
  refine (copy_l 0 h50 rfl (by decide) (by decide)).mono ?_
  rintro e w51 ⟨g_three, rfl, h51⟩
  replace h51 : St w [] [(g_three, ⟨8192, [(8191, blkC 1), (7, blkC 2), (7, blkC 5)], [(8, blkC 6)], 1, [true], false⟩), (g_one, ⟨8192, [(8191, blkC 1), (7, blkC 2), (7, blkC 5)], [(8, blkC 6)], 1, [true], false⟩)] w51 := h51
  clear h50
  go_wp2_with fail
  refine (flush_k 1 h51 rfl ⟨8192, [(8191, blkC 1), (7, blkC 2), (7, blkC 5), (8, blkC 6)], [], 0, [], true⟩ 51 (by kernel_rfl) (by decide) (by decide)).mono ?_
  rintro e w52 ⟨rfl, h52⟩
  replace h52 : St w [] [(g_three, ⟨8192, [(8191, blkC 1), (7, blkC 2), (7, blkC 5)], [(8, blkC 6)], 1, [true], false⟩), (g_one, ⟨8192, [(8191, blkC 1), (7, blkC 2), (7, blkC 5), (8, blkC 6)], [], 0, [], true⟩)] w52 := h52
  clear h51
  go_wp2_with fail
  refine (dead_k 0 h52 rfl false rfl).mono ?_
  rintro e w53 ⟨rfl, h53⟩
  replace h53 : St w [] [(g_three, ⟨8192, [(8191, blkC 1), (7, blkC 2), (7, blkC 5)], [(8, blkC 6)], 1, [true], false⟩), (g_one, ⟨8192, [(8191, blkC 1), (7, blkC 2), (7, blkC 5), (8, blkC 6)], [], 0, [], true⟩)] w53 := h53
  clear h52
  go_wp2_with fail
  refine (cut_k 0 h53 rfl 0 [] (.inl ⟨none, 0, rfl, rfl⟩) ⟨8192, [(8191, blkC 1), (7, blkC 2), (7, blkC 5)], [(8, blkC 6)], 0, [], false⟩ 0 (by kernel_rfl) (by decide) (by decide) (by rintro b off m c e; cases e)).mono ?_
  rintro e w54 ⟨rfl, h54⟩
  replace h54 : St w [] [(g_three, ⟨8192, [(8191, blkC 1), (7, blkC 2), (7, blkC 5)], [(8, blkC 6)], 0, [], false⟩), (g_one, ⟨8192, [(8191, blkC 1), (7, blkC 2), (7, blkC 5), (8, blkC 6)], [], 0, [], true⟩)] w54 := h54
  clear h53
  go_wp2_with fail
  refine (flush_k 0 h54 rfl ⟨8192, [(8191, blkC 1), (7, blkC 2), (7, blkC 5), (8, blkC 6)], [], 0, [], false⟩ 0 (by kernel_rfl) (by decide) (by decide)).mono ?_
  rintro e w55 ⟨rfl, h55⟩
  replace h55 : St w [] [(g_three, ⟨8192, [(8191, blkC 1), (7, blkC 2), (7, blkC 5), (8, blkC 6)], [], 0, [], false⟩), (g_one, ⟨8192, [(8191, blkC 1), (7, blkC 2), (7, blkC 5), (8, blkC 6)], [], 0, [], true⟩)] w55 := h55
  clear h54
  go_wp2_with fail
  refine (is_k 0 h55 rfl 8 6 6 true (by rfl) (by decide +kernel) (by decide)).mono ?_
  rintro e w56 ⟨rfl, h56⟩
  replace h56 : St w [] [(g_three, ⟨8192, [(8191, blkC 1), (7, blkC 2), (7, blkC 5), (8, blkC 6)], [], 0, [], false⟩), (g_one, ⟨8192, [(8191, blkC 1), (7, blkC 2), (7, blkC 5), (8, blkC 6)], [], 0, [], true⟩)] w56 := h56
  clear h55
  go_wp2_with fail
  refine (booted_l 1 h56 rfl rfl).mono ?_
  rintro e w57 ⟨g_y, rfl, h57⟩
  replace h57 : St w [] [(g_y, ⟨8192, [(8191, blkC 1), (7, blkC 2), (7, blkC 5), (8, blkC 6)], [], 0, [], false⟩), (g_three, ⟨8192, [(8191, blkC 1), (7, blkC 2), (7, blkC 5), (8, blkC 6)], [], 0, [], false⟩), (g_one, ⟨8192, [(8191, blkC 1), (7, blkC 2), (7, blkC 5), (8, blkC 6)], [], 0, [], true⟩)] w57 := h57
  clear h56
  go_wp2_with fail
  refine (is_k 0 h57 rfl 8 6 6 true (by rfl) (by decide +kernel) (by decide)).mono ?_
  rintro e w58 ⟨rfl, h58⟩
  replace h58 : St w [] [(g_y, ⟨8192, [(8191, blkC 1), (7, blkC 2), (7, blkC 5), (8, blkC 6)], [], 0, [], false⟩), (g_three, ⟨8192, [(8191, blkC 1), (7, blkC 2), (7, blkC 5), (8, blkC 6)], [], 0, [], false⟩), (g_one, ⟨8192, [(8191, blkC 1), (7, blkC 2), (7, blkC 5), (8, blkC 6)], [], 0, [], true⟩)] w58 := h58
  clear h57
  replace h58 := h58.dropI 0
  replace h58 : St w [] [(g_three, ⟨8192, [(8191, blkC 1), (7, blkC 2), (7, blkC 5), (8, blkC 6)], [], 0, [], false⟩), (g_one, ⟨8192, [(8191, blkC 1), (7, blkC 2), (7, blkC 5), (8, blkC 6)], [], 0, [], true⟩)] w58 := h58
  replace h58 := h58.dropI 1
  replace h58 : St w [] [(g_three, ⟨8192, [(8191, blkC 1), (7, blkC 2), (7, blkC 5), (8, blkC 6)], [], 0, [], false⟩)] w58 := h58
  go_upto_region 26 with fail
  replace h58 := h58.alloc (.cells (bcs [true]).toArray 4 (0, 0))
  replace h58 : St w [(w58.heap.size, .cells (bcs [true]).toArray 4 (0, 0))] [(g_three, ⟨8192, [(8191, blkC 1), (7, blkC 2), (7, blkC 5), (8, blkC 6)], [], 0, [], false⟩)] (w58.alloc (.cells (bcs [true]).toArray 4 (0, 0))) := h58
  change Code.wp _ _ _ _ (w58.alloc (.cells (bcs [true]).toArray 4 (0, 0)))
  generalize w58.alloc (.cells (bcs [true]).toArray 4 (0, 0)) = v58 at *
  generalize w58.heap.size = gk at *
  go_wp2_with fail
  refine (block_k h58 4 4 (by rfl)).mono ?_
  rintro e w59 ⟨rfl, h59⟩
  replace h59 : St w [(gk, .cells (bcs [true]).toArray 4 (0, 0))] [(g_three, ⟨8192, [(8191, blkC 1), (7, blkC 2), (7, blkC 5), (8, blkC 6)], [], 0, [], false⟩)] w59 := h59
  clear h58
  go_wp2_with fail
  refine (write_k 0 h59 rfl 9 (blkC_length 4) ⟨8192, [(8191, blkC 1), (7, blkC 2), (7, blkC 5), (8, blkC 6)], [(9, blkC 4)], 0, [], false⟩ 0 (by kernel_rfl) (by decide) (by decide)).mono ?_
  rintro e w60 ⟨rfl, h60⟩
  replace h60 : St w [(gk, .cells (bcs [true]).toArray 4 (0, 0))] [(g_three, ⟨8192, [(8191, blkC 1), (7, blkC 2), (7, blkC 5), (8, blkC 6)], [(9, blkC 4)], 0, [], false⟩)] w60 := h60
  clear h59
  go_wp2_with fail
  refine (cut_k 0 h60 rfl 1 [true] (h60.rb (l := [true]) 0 rfl) ⟨8192, [(8191, blkC 1), (7, blkC 2), (7, blkC 5), (8, blkC 6)], [(9, blkC 4)], 1, [true], false⟩ 0 (by kernel_rfl) (by decide) (by decide) (by rintro b off m c e; cases e; exact .inr ⟨_, List.mem_cons_self⟩)).mono ?_
  rintro e w61 ⟨rfl, h61⟩
  replace h61 : St w [(gk, .cells (bcs [true]).toArray 4 (0, 0))] [(g_three, ⟨8192, [(8191, blkC 1), (7, blkC 2), (7, blkC 5), (8, blkC 6)], [(9, blkC 4)], 1, [true], false⟩)] w61 := h61
  clear h60
  have hk := h61.get 0 rfl
  have ck : w61.cell? ⟨gk, 0, none⟩ = some (.bool true) := by rw [cell_of_row _ _ _ _ _ _ hk]; rfl
  have fk : w61.frozen? ⟨gk, 0, none⟩ = false := by simp [World.frozen?, hk]
  go_upto_region 29 with fail
  rw [setCell_eq_setRow _ gk 0 _ _ _ _ hk]
  replace h61 := (h61.row 0 rfl ((bcs [true]).toArray.setIfInBounds 0 (.bool false))).drop
  generalize w61.setRow gk _ = v61 at *
  clear hk ck fk
  go_wp2_with fail
  refine (flush_k 0 h61 rfl ⟨8192, [(8191, blkC 1), (7, blkC 2), (7, blkC 5), (8, blkC 6), (9, blkC 4)], [], 0, [], true⟩ 51 (by kernel_rfl) (by decide) (by decide)).mono ?_
  rintro e w62 ⟨rfl, h62⟩
  replace h62 : St w [] [(g_three, ⟨8192, [(8191, blkC 1), (7, blkC 2), (7, blkC 5), (8, blkC 6), (9, blkC 4)], [], 0, [], true⟩)] w62 := h62
  clear h61
  go_wp2_with fail
  refine (booted_l 0 h62 rfl rfl).mono ?_
  rintro e w63 ⟨g_z, rfl, h63⟩
  replace h63 : St w [] [(g_z, ⟨8192, [(8191, blkC 1), (7, blkC 2), (7, blkC 5), (8, blkC 6), (9, blkC 4)], [], 0, [], false⟩), (g_three, ⟨8192, [(8191, blkC 1), (7, blkC 2), (7, blkC 5), (8, blkC 6), (9, blkC 4)], [], 0, [], true⟩)] w63 := h63
  clear h62
  go_wp2_with fail
  refine (is_k 0 h63 rfl 9 4 4 true (by rfl) (by decide +kernel) (by decide)).mono ?_
  rintro e w64 ⟨rfl, h64⟩
  replace h64 : St w [] [(g_z, ⟨8192, [(8191, blkC 1), (7, blkC 2), (7, blkC 5), (8, blkC 6), (9, blkC 4)], [], 0, [], false⟩), (g_three, ⟨8192, [(8191, blkC 1), (7, blkC 2), (7, blkC 5), (8, blkC 6), (9, blkC 4)], [], 0, [], true⟩)] w64 := h64
  clear h63
  go_wp2_with fail
  refine (read_nil 0 _).mono ?_
  rintro e w65 ⟨rfl, h65⟩
  replace h65 := h64.ext h65
  replace h65 : St w [] [(g_z, ⟨8192, [(8191, blkC 1), (7, blkC 2), (7, blkC 5), (8, blkC 6), (9, blkC 4)], [], 0, [], false⟩), (g_three, ⟨8192, [(8191, blkC 1), (7, blkC 2), (7, blkC 5), (8, blkC 6), (9, blkC 4)], [], 0, [], true⟩)] w65 := h65
  clear h64
  replace h65 := h65.ext (extAl _ (.cells (bvs zB).toArray 25))
  go_wp2_with (first | (refine wpList_al rfl 25 rfl alloc_blk ?_; simp only [Act.put]) | (refine wpList_st rfl 25 _ _ rfl (st_blkn zB zB_length _) ?_; simp only [Act.put]))
  refine (boot_nil _).mono ?_
  rintro e w66 ⟨rfl, h66⟩
  replace h66 := h65.ext h66
  replace h66 : St w [] [(g_z, ⟨8192, [(8191, blkC 1), (7, blkC 2), (7, blkC 5), (8, blkC 6), (9, blkC 4)], [], 0, [], false⟩), (g_three, ⟨8192, [(8191, blkC 1), (7, blkC 2), (7, blkC 5), (8, blkC 6), (9, blkC 4)], [], 0, [], true⟩)] w66 := h66
  clear h65
  go_wp2_with fail
  refine (block_k h66 0 0 (by rfl)).mono ?_
  rintro e w67 ⟨rfl, h67⟩
  replace h67 : St w [] [(g_z, ⟨8192, [(8191, blkC 1), (7, blkC 2), (7, blkC 5), (8, blkC 6), (9, blkC 4)], [], 0, [], false⟩), (g_three, ⟨8192, [(8191, blkC 1), (7, blkC 2), (7, blkC 5), (8, blkC 6), (9, blkC 4)], [], 0, [], true⟩)] w67 := h67
  clear h66
  go_wp2_with fail
  refine (write_nil 0 (blkC_length 0) _).mono ?_
  rintro e w68 ⟨rfl, h68⟩
  replace h68 := h67.ext h68
  replace h68 : St w [] [(g_z, ⟨8192, [(8191, blkC 1), (7, blkC 2), (7, blkC 5), (8, blkC 6), (9, blkC 4)], [], 0, [], false⟩), (g_three, ⟨8192, [(8191, blkC 1), (7, blkC 2), (7, blkC 5), (8, blkC 6), (9, blkC 4)], [], 0, [], true⟩)] w68 := h68
  clear h67
  go_wp2_with fail
  refine (flush_nil _).mono ?_
  rintro e w69 ⟨rfl, h69⟩
  replace h69 := h68.ext h69
  replace h69 : St w [] [(g_z, ⟨8192, [(8191, blkC 1), (7, blkC 2), (7, blkC 5), (8, blkC 6), (9, blkC 4)], [], 0, [], false⟩), (g_three, ⟨8192, [(8191, blkC 1), (7, blkC 2), (7, blkC 5), (8, blkC 6), (9, blkC 4)], [], 0, [], true⟩)] w69 := h69
  clear h68
  go_wp2_with fail
  refine (cut_nil 0 _ _).mono ?_
  rintro e w70 ⟨rfl, h70⟩
  replace h70 := h69.ext h70
  replace h70 : St w [] [(g_z, ⟨8192, [(8191, blkC 1), (7, blkC 2), (7, blkC 5), (8, blkC 6), (9, blkC 4)], [], 0, [], false⟩), (g_three, ⟨8192, [(8191, blkC 1), (7, blkC 2), (7, blkC 5), (8, blkC 6), (9, blkC 4)], [], 0, [], true⟩)] w70 := h70
  clear h69
  go_wp2_with fail
  refine (fail_nil _ _).mono ?_
  rintro e w71 ⟨rfl, h71⟩
  replace h71 := h70.ext h71
  replace h71 : St w [] [(g_z, ⟨8192, [(8191, blkC 1), (7, blkC 2), (7, blkC 5), (8, blkC 6), (9, blkC 4)], [], 0, [], false⟩), (g_three, ⟨8192, [(8191, blkC 1), (7, blkC 2), (7, blkC 5), (8, blkC 6), (9, blkC 4)], [], 0, [], true⟩)] w71 := h71
  clear h70
  go_wp2_with fail
  refine (blocks_nil _).mono ?_
  rintro e w72 ⟨rfl, h72⟩
  replace h72 := h71.ext h72
  replace h72 : St w [] [(g_z, ⟨8192, [(8191, blkC 1), (7, blkC 2), (7, blkC 5), (8, blkC 6), (9, blkC 4)], [], 0, [], false⟩), (g_three, ⟨8192, [(8191, blkC 1), (7, blkC 2), (7, blkC 5), (8, blkC 6), (9, blkC 4)], [], 0, [], true⟩)] w72 := h72
  clear h71
  go_wp2_with fail
  refine (waiting_nil _).mono ?_
  rintro e w73 ⟨rfl, h73⟩
  replace h73 := h72.ext h73
  replace h73 : St w [] [(g_z, ⟨8192, [(8191, blkC 1), (7, blkC 2), (7, blkC 5), (8, blkC 6), (9, blkC 4)], [], 0, [], false⟩), (g_three, ⟨8192, [(8191, blkC 1), (7, blkC 2), (7, blkC 5), (8, blkC 6), (9, blkC 4)], [], 0, [], true⟩)] w73 := h73
  clear h72
  go_wp2_with fail
  refine (dead_nil _).mono ?_
  rintro e w74 ⟨rfl, h74⟩
  replace h74 := h73.ext h74
  replace h74 : St w [] [(g_z, ⟨8192, [(8191, blkC 1), (7, blkC 2), (7, blkC 5), (8, blkC 6), (9, blkC 4)], [], 0, [], false⟩), (g_three, ⟨8192, [(8191, blkC 1), (7, blkC 2), (7, blkC 5), (8, blkC 6), (9, blkC 4)], [], 0, [], true⟩)] w74 := h74
  clear h73
  go_wp2_with fail
  refine (copy_nil _).mono ?_
  rintro e w75 ⟨rfl, h75⟩
  replace h75 := h74.ext h75
  replace h75 : St w [] [(g_z, ⟨8192, [(8191, blkC 1), (7, blkC 2), (7, blkC 5), (8, blkC 6), (9, blkC 4)], [], 0, [], false⟩), (g_three, ⟨8192, [(8191, blkC 1), (7, blkC 2), (7, blkC 5), (8, blkC 6), (9, blkC 4)], [], 0, [], true⟩)] w75 := h75
  clear h74
  go_wp2_with fail
  go_ret
  exact ⟨rfl, h75.bel⟩

theorem own : ownKnob Try.prog.godebug = none := by kernel_rfl
theorem laidOut : laidOutB Try.prog = true := by kernel_rfl

set_option maxRecDepth 100000 in
theorem lifted (os : Os) (started : os.Started) (H : Type) (enc : TypeId × Value → H) :
    ReturnsInHanded {} Try.checked os 7 .any (Rows.diskNamesSpec.pre6 enc Try.prog Try.f7 Rows.diskNamesRow.domain false) (Rows.diskNamesSpec.post enc Try.prog Try.f7 false true false false) := by
  refine returnsInHanded_of_change (C := Try.checked) own started (by kernel_rfl) Try.func7
    (ChangeSpec.witness6 (enc := enc) (C := Try.checked) false ⟨#[], #[], []⟩ 8 (by kernel_rfl) (by kernel_rfl) (by kernel_rfl) (by kernel_rfl)) ?_
  intro W base args ds gs before hval0 hW hcnd _
  have hval : ∀ (j : Nat) t v, Try.f7.params[j]? = some t → args[j]? = some v → Value.okWide Try.prog W .any base t v := hval0
  have hW' := hW
  obtain ⟨p, q, hA0, hV, rfl, hfz, hnd⟩ := hW
  have hA : DataW.TrodAll enc Try.prog W 0 (fun _ => true) true Try.f7.params.toList args.toList ds p := hA0
  rw [Try.params7] at hA hval
  obtain ⟨rfl, rfl, rfl⟩ := trodAll_none hA
  obtain ⟨rfl, rfl⟩ := trodVars_none hV
  refine (walk  W).mono fun e W' ⟨he, bel⟩ => ?_
  subst he
  exact ⟨_, rfl, _, _, _, [], _, [], hW', trodAll_mk1 (shut_bool Try.underlying4 _), trodAll_mk0, rfl, bel.frame _, fun h => by cases h⟩

theorem proved : Rows.DiskNamesSaid :=
  OpenClaim.holds_of_wide 7 Try.f7 rfl rfl rfl rfl rfl rfl rfl ⟨rfl, rfl, rfl, rfl, rfl⟩ rfl rfl rfl rfl rfl (by kernel_rfl) Try.func7 (by kernel_rfl)
    (of_decide_eq_true (by kernel_rfl)) (by unfold Func.isWrapper; first | (rw [if_pos (by decide +kernel)]; kernel_rfl) | (rw [if_neg (by decide +kernel)]; exact ⟨rfl, rfl⟩))
    (fun os started H enc _ => lifted os started H enc)
end Go.Proofs.Ytobcfocbglkicaa.diskNames
