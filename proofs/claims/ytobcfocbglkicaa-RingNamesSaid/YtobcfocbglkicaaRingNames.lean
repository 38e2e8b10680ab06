/- Proved: RingNames, which has no argument, returns true. No condition. (Printed by a program of my own, gen_ringnames.py.) -/
import Derived.Test.YtobcfocbglkicaaRgF
import Derived.Test.YtobcfocbglkicaaRgL
import Derived.Test.YtobcfocbglkicaaLift
import Derived.Deep.DeepCutAuto
set_option linter.unusedVariables false
set_option maxRecDepth 100000
namespace Go.Proofs.Ytobcfocbglkicaa.ringNames
open Go.RowKit Go.ChangeShapes Go.WideShapes Go.ChangeAt Go.Deep Go.Proofs.Ytobcfocbglkicaa
attribute [local go_sem ↓] eql_root neq_root

theorem ext_of_in {V w' : World} (h : ∃ e : ExtOf V.heap.size V, w' = e.val) : Ext V w' := by obtain ⟨e, rfl⟩ := h; exact e.ok
set_option maxHeartbeats 32000000 in
theorem walk (w : World) : Calls Try.prog 11 #[] w fun e w' => e = .returned (.bool true) ∧ Below w.heap.size w w' := by
  go_enter Try.func11, Try.ntmps11
  have h0 : DSt w [] [] w := DSt.start w
  go_wp2_with fail
  refine (rworks_any _).mono ?_
  rintro e w1 ⟨rfl, h1⟩
  replace h1 := h0.ext h1
  replace h1 : DSt w [] [] w1 := h1
  go_wp2_with fail
  refine (many_k 493 493 (by decide) (by decide) _).mono ?_
  rintro e w2 ⟨rfl, h2⟩
  replace h2 := h1.ext h2
  replace h2 : DSt w [] [] w2 := h2
  clear h1
  go_wp2_with fail
  refine (r_any 1 (zr 493) _).mono ?_
  rintro e w3 ⟨rfl, h3⟩
  replace h3 := h2.ext h3
  replace h3 : DSt w [] [] w3 := h3
  clear h2
  go_wp2_with fail
  refine (rgSeal_k 1 (zr 493) zB 40 (by decide) (by kernel_rfl) _).mono ?_
  rintro e w4 ⟨rfl, h4⟩
  replace h4 := h3.ext h4
  replace h4 : DSt w [] [] w4 := h4
  clear h3
  replace h4 := h4.ext (extAl _ (.cells (bvs zB).toArray 25))
  go_wp2_with (first | (refine wpList_al rfl 25 rfl alloc_blk ?_; simp only [Act.put]) | (refine wpList_st rfl 25 _ _ rfl (st_blkn zB zB_length _) ?_; simp only [Act.put]))
  refine (many_k 492 492 (by decide) (by decide) _).mono ?_
  rintro e w5 ⟨rfl, h5⟩
  replace h5 := h4.ext h5
  replace h5 : DSt w [] [] w5 := h5
  clear h4
  go_wp2_with fail
  refine (r_any 2147483647 (zr 492) _).mono ?_
  rintro e w6 ⟨rfl, h6⟩
  replace h6 := h5.ext h6
  replace h6 : DSt w [] [] w6 := h6
  clear h5
  go_wp2_with fail
  refine (rgSeal_k 2147483647 (zr 492) (rkS 2147483647 (zr 492)).1 0 (by decide) (by kernel_rfl) _).mono ?_
  rintro e w7 ⟨rfl, h7⟩
  replace h7 := h6.ext h7
  replace h7 : DSt w [] [] w7 := h7
  clear h6
  replace h7 := h7.alloc (.cells (bvs (rkS 2147483647 (zr 492)).1).toArray 25 (0, 0))
  replace h7 : DSt w [(w7.heap.size, .cells (bvs (rkS 2147483647 (zr 492)).1).toArray 25 (0, 0))] [] (w7.alloc (.cells (bvs (rkS 2147483647 (zr 492)).1).toArray 25 (0, 0))) := h7
  go_wp2_with (first | (refine wpList_al rfl 25 rfl alloc_blk ?_; simp only [Act.put]) | (refine wpList_st rfl 25 _ _ rfl (st_blkn (rkS 2147483647 (zr 492)).1 rkS_length _) ?_; simp only [Act.put]))
  refine (many_k 493 493 (by decide) (by decide) _).mono ?_
  rintro e w8 ⟨rfl, h8⟩
  replace h8 := h7.ext h8
  replace h8 : DSt w [(w7.heap.size, .cells (bvs (rkS 2147483647 (zr 492)).1).toArray 25 (0, 0))] [] w8 := h8
  clear h7
  go_wp2_with fail
  refine (r_any 2147483648 (zr 493) _).mono ?_
  rintro e w9 ⟨rfl, h9⟩
  replace h9 := h8.ext h9
  replace h9 : DSt w [(w7.heap.size, .cells (bvs (rkS 2147483647 (zr 492)).1).toArray 25 (0, 0))] [] w9 := h9
  clear h8
  go_wp2_with fail
  refine (rgSeal_k 2147483648 (zr 493) zB 1 (by decide) (by kernel_rfl) _).mono ?_
  rintro e w10 ⟨rfl, h10⟩
  replace h10 := h9.ext h10
  replace h10 : DSt w [(w7.heap.size, .cells (bvs (rkS 2147483647 (zr 492)).1).toArray 25 (0, 0))] [] w10 := h10
  clear h9
  replace h10 := h10.ext (extAl _ (.cells (bvs zB).toArray 25))
  go_wp2_with (first | (refine wpList_al rfl 25 rfl alloc_blk ?_; simp only [Act.put]) | (refine wpList_st rfl 25 _ _ rfl (st_blkn zB zB_length _) ?_; simp only [Act.put]))
  refine (r_any (-1) [] _).mono ?_
  rintro e w11 ⟨rfl, h11⟩
  replace h11 := h10.ext h11
  replace h11 : DSt w [(w7.heap.size, .cells (bvs (rkS 2147483647 (zr 492)).1).toArray 25 (0, 0))] [] w11 := h11
  clear h10
  go_wp2_with fail
  refine (rgSeal_k (-1) [] zB 1 (by decide) (by kernel_rfl) _).mono ?_
  rintro e w12 ⟨rfl, h12⟩
  replace h12 := h11.ext h12
  replace h12 : DSt w [(w7.heap.size, .cells (bvs (rkS 2147483647 (zr 492)).1).toArray 25 (0, 0))] [] w12 := h12
  clear h11
  replace h12 := h12.ext (extAl _ (.cells (bvs zB).toArray 25))
  go_wp2_with (first | (refine wpList_al rfl 25 rfl alloc_blk ?_; simp only [Act.put]) | (refine wpList_st rfl 25 _ _ rfl (st_blkn zB zB_length _) ?_; simp only [Act.put]) | (refine wpList_ld rfl 25 _ rfl (ld_blk (h12.get 0 rfl) rkS_length) ?_; simp only [Act.put]))
  refine (rgOpen_k (rkS 2147483647 (zr 492)).1 rkS_length 2147483647 (zr 492) 0 (by kernel_rfl) _).mono ?_
  rintro e w13 ⟨rfl, h13⟩
  replace h13 := h12.ext h13
  replace h13 : DSt w [(w7.heap.size, .cells (bvs (rkS 2147483647 (zr 492)).1).toArray 25 (0, 0))] [] w13 := h13
  clear h12
  replace h13 := h13.alloc (.cells (rtC ⟨2147483647, (zr 492)⟩) 29 (0, 0))
  replace h13 : DSt w [(w13.heap.size, .cells (rtC ⟨2147483647, (zr 492)⟩) 29 (0, 0)), (w7.heap.size, .cells (bvs (rkS 2147483647 (zr 492)).1).toArray 25 (0, 0))] [] (w13.alloc (.cells (rtC ⟨2147483647, (zr 492)⟩) 29 (0, 0))) := h13
  go_wp2_with (first | (refine wpList_al rfl 29 rfl alloc_rt ?_; simp only [Act.put]) | (refine wpList_st rfl 29 _ _ rfl (st_rtn ⟨2147483647, (zr 492)⟩ _) ?_; simp only [Act.put]))
  refine (many_k 9 9 (by decide) (by decide) _).mono ?_
  rintro e w14 ⟨rfl, h14⟩
  replace h14 := h13.ext h14
  replace h14 : DSt w [(w13.heap.size, .cells (rtC ⟨2147483647, (zr 492)⟩) 29 (0, 0)), (w7.heap.size, .cells (bvs (rkS 2147483647 (zr 492)).1).toArray 25 (0, 0))] [] w14 := h14
  clear h13
  go_wp2_with fail
  refine (bSeal_k 2 2 (by decide) 1 (zr 9) _ (rfl) (sealR 2 1 (zr 9)).1 0 (by decide) (by kernel_rfl) _).mono ?_
  rintro e w15 ⟨rfl, h15⟩
  replace h15 := h14.ext h15
  replace h15 : DSt w [(w13.heap.size, .cells (rtC ⟨2147483647, (zr 492)⟩) 29 (0, 0)), (w7.heap.size, .cells (bvs (rkS 2147483647 (zr 492)).1).toArray 25 (0, 0))] [] w15 := h15
  clear h14
  replace h15 := h15.alloc (.cells (bvs (sealR 2 1 (zr 9)).1).toArray 25 (0, 0))
  replace h15 : DSt w [(w15.heap.size, .cells (bvs (sealR 2 1 (zr 9)).1).toArray 25 (0, 0)), (w13.heap.size, .cells (rtC ⟨2147483647, (zr 492)⟩) 29 (0, 0)), (w7.heap.size, .cells (bvs (rkS 2147483647 (zr 492)).1).toArray 25 (0, 0))] [] (w15.alloc (.cells (bvs (sealR 2 1 (zr 9)).1).toArray 25 (0, 0))) := h15
  go_wp2_with (first | (refine wpList_al rfl 25 rfl alloc_blk ?_; simp only [Act.put]) | (refine wpList_st rfl 25 _ _ rfl (st_blkn (sealR 2 1 (zr 9)).1 sealR_length _) ?_; simp only [Act.put]) | (refine wpList_ld rfl 25 _ rfl (ld_blk (h15.get 0 rfl) sealR_length) ?_; simp only [Act.put]))
  refine (rgOpen_k (sealR 2 1 (zr 9)).1 sealR_length 0 [] 4 (by kernel_rfl) _).mono ?_
  rintro e w16 ⟨rfl, h16⟩
  replace h16 := h15.ext h16
  replace h16 : DSt w [(w15.heap.size, .cells (bvs (sealR 2 1 (zr 9)).1).toArray 25 (0, 0)), (w13.heap.size, .cells (rtC ⟨2147483647, (zr 492)⟩) 29 (0, 0)), (w7.heap.size, .cells (bvs (rkS 2147483647 (zr 492)).1).toArray 25 (0, 0))] [] w16 := h16
  clear h15
  replace h16 := h16.ext (extAl _ (.cells (rtC ⟨0, []⟩) 29))
  go_wp2_with (first | (refine wpList_al rfl 29 rfl alloc_rt ?_; simp only [Act.put]) | (refine wpList_st rfl 29 _ _ rfl (st_rtn ⟨0, []⟩ _) ?_; simp only [Act.put]))
  refine (many_k 7 7 (by decide) (by decide) _).mono ?_
  rintro e w17 ⟨rfl, h17⟩
  replace h17 := h16.ext h17
  replace h17 : DSt w [(w15.heap.size, .cells (bvs (sealR 2 1 (zr 9)).1).toArray 25 (0, 0)), (w13.heap.size, .cells (rtC ⟨2147483647, (zr 492)⟩) 29 (0, 0)), (w7.heap.size, .cells (bvs (rkS 2147483647 (zr 492)).1).toArray 25 (0, 0))] [] w17 := h17
  clear h16
  go_wp2_with fail
  refine (bSeal_k 3 3 (by decide) 1 (zr 7) _ (rfl) (sealR 3 1 (zr 7)).1 0 (by decide) (by kernel_rfl) _).mono ?_
  rintro e w18 ⟨rfl, h18⟩
  replace h18 := h17.ext h18
  replace h18 : DSt w [(w15.heap.size, .cells (bvs (sealR 2 1 (zr 9)).1).toArray 25 (0, 0)), (w13.heap.size, .cells (rtC ⟨2147483647, (zr 492)⟩) 29 (0, 0)), (w7.heap.size, .cells (bvs (rkS 2147483647 (zr 492)).1).toArray 25 (0, 0))] [] w18 := h18
  clear h17
  replace h18 := h18.alloc (.cells (bvs (sealR 3 1 (zr 7)).1).toArray 25 (0, 0))
  replace h18 : DSt w [(w18.heap.size, .cells (bvs (sealR 3 1 (zr 7)).1).toArray 25 (0, 0)), (w15.heap.size, .cells (bvs (sealR 2 1 (zr 9)).1).toArray 25 (0, 0)), (w13.heap.size, .cells (rtC ⟨2147483647, (zr 492)⟩) 29 (0, 0)), (w7.heap.size, .cells (bvs (rkS 2147483647 (zr 492)).1).toArray 25 (0, 0))] [] (w18.alloc (.cells (bvs (sealR 3 1 (zr 7)).1).toArray 25 (0, 0))) := h18
  go_wp2_with (first | (refine wpList_al rfl 25 rfl alloc_blk ?_; simp only [Act.put]) | (refine wpList_st rfl 25 _ _ rfl (st_blkn (sealR 3 1 (zr 7)).1 sealR_length _) ?_; simp only [Act.put]) | (refine wpList_ld rfl 25 _ rfl (ld_blk (h18.get 0 rfl) sealR_length) ?_; simp only [Act.put]))
  refine (rgOpen_k (sealR 3 1 (zr 7)).1 sealR_length 0 [] 4 (by kernel_rfl) _).mono ?_
  rintro e w19 ⟨rfl, h19⟩
  replace h19 := h18.ext h19
  replace h19 : DSt w [(w18.heap.size, .cells (bvs (sealR 3 1 (zr 7)).1).toArray 25 (0, 0)), (w15.heap.size, .cells (bvs (sealR 2 1 (zr 9)).1).toArray 25 (0, 0)), (w13.heap.size, .cells (rtC ⟨2147483647, (zr 492)⟩) 29 (0, 0)), (w7.heap.size, .cells (bvs (rkS 2147483647 (zr 492)).1).toArray 25 (0, 0))] [] w19 := h19
  clear h18
  replace h19 := h19.ext (extAl _ (.cells (rtC ⟨0, []⟩) 29))
  go_wp2_with (first | (refine wpList_al rfl 29 rfl alloc_rt ?_; simp only [Act.put]) | (refine wpList_st rfl 29 _ _ rfl (st_rtn ⟨0, []⟩ _) ?_; simp only [Act.put]))
  refine (many_k 8 8 (by decide) (by decide) _).mono ?_
  rintro e w20 ⟨rfl, h20⟩
  replace h20 := h19.ext h20
  replace h20 : DSt w [(w18.heap.size, .cells (bvs (sealR 3 1 (zr 7)).1).toArray 25 (0, 0)), (w15.heap.size, .cells (bvs (sealR 2 1 (zr 9)).1).toArray 25 (0, 0)), (w13.heap.size, .cells (rtC ⟨2147483647, (zr 492)⟩) 29 (0, 0)), (w7.heap.size, .cells (bvs (rkS 2147483647 (zr 492)).1).toArray 25 (0, 0))] [] w20 := h20
  clear h19
  go_wp2_with fail
  refine (bSeal_k 3 3 (by decide) 1 (zr 8 ++ [120]) _ (str_append (zr 8) [120]) (sealR 3 1 (zr 8 ++ [120])).1 0 (by decide) (by kernel_rfl) _).mono ?_
  rintro e w21 ⟨rfl, h21⟩
  replace h21 := h20.ext h21
  replace h21 : DSt w [(w18.heap.size, .cells (bvs (sealR 3 1 (zr 7)).1).toArray 25 (0, 0)), (w15.heap.size, .cells (bvs (sealR 2 1 (zr 9)).1).toArray 25 (0, 0)), (w13.heap.size, .cells (rtC ⟨2147483647, (zr 492)⟩) 29 (0, 0)), (w7.heap.size, .cells (bvs (rkS 2147483647 (zr 492)).1).toArray 25 (0, 0))] [] w21 := h21
  clear h20
  replace h21 := h21.alloc (.cells (bvs (sealR 3 1 (zr 8 ++ [120])).1).toArray 25 (0, 0))
  replace h21 : DSt w [(w21.heap.size, .cells (bvs (sealR 3 1 (zr 8 ++ [120])).1).toArray 25 (0, 0)), (w18.heap.size, .cells (bvs (sealR 3 1 (zr 7)).1).toArray 25 (0, 0)), (w15.heap.size, .cells (bvs (sealR 2 1 (zr 9)).1).toArray 25 (0, 0)), (w13.heap.size, .cells (rtC ⟨2147483647, (zr 492)⟩) 29 (0, 0)), (w7.heap.size, .cells (bvs (rkS 2147483647 (zr 492)).1).toArray 25 (0, 0))] [] (w21.alloc (.cells (bvs (sealR 3 1 (zr 8 ++ [120])).1).toArray 25 (0, 0))) := h21
  go_wp2_with (first | (refine wpList_al rfl 25 rfl alloc_blk ?_; simp only [Act.put]) | (refine wpList_st rfl 25 _ _ rfl (st_blkn (sealR 3 1 (zr 8 ++ [120])).1 sealR_length _) ?_; simp only [Act.put]) | (refine wpList_ld rfl 25 _ rfl (ld_blk (h21.get 0 rfl) sealR_length) ?_; simp only [Act.put]))
  refine (rgOpen_k (sealR 3 1 (zr 8 ++ [120])).1 sealR_length 0 [] 52 (by kernel_rfl) _).mono ?_
  rintro e w22 ⟨rfl, h22⟩
  replace h22 := h21.ext h22
  replace h22 : DSt w [(w21.heap.size, .cells (bvs (sealR 3 1 (zr 8 ++ [120])).1).toArray 25 (0, 0)), (w18.heap.size, .cells (bvs (sealR 3 1 (zr 7)).1).toArray 25 (0, 0)), (w15.heap.size, .cells (bvs (sealR 2 1 (zr 9)).1).toArray 25 (0, 0)), (w13.heap.size, .cells (rtC ⟨2147483647, (zr 492)⟩) 29 (0, 0)), (w7.heap.size, .cells (bvs (rkS 2147483647 (zr 492)).1).toArray 25 (0, 0))] [] w22 := h22
  clear h21
  replace h22 := h22.ext (extAl _ (.cells (rtC ⟨0, []⟩) 29))
  go_wp2_with (first | (refine wpList_al rfl 29 rfl alloc_rt ?_; simp only [Act.put]) | (refine wpList_st rfl 29 _ _ rfl (st_rtn ⟨0, []⟩ _) ?_; simp only [Act.put]))
  refine (bSeal_k 3 3 (by decide) 0 [203, 242, 156, 228, 132, 34, 35, 37] _ (rfl) (sealR 3 0 [203, 242, 156, 228, 132, 34, 35, 37]).1 0 (by decide) (by kernel_rfl) _).mono ?_
  rintro e w23 ⟨rfl, h23⟩
  replace h23 := h22.ext h23
  replace h23 : DSt w [(w21.heap.size, .cells (bvs (sealR 3 1 (zr 8 ++ [120])).1).toArray 25 (0, 0)), (w18.heap.size, .cells (bvs (sealR 3 1 (zr 7)).1).toArray 25 (0, 0)), (w15.heap.size, .cells (bvs (sealR 2 1 (zr 9)).1).toArray 25 (0, 0)), (w13.heap.size, .cells (rtC ⟨2147483647, (zr 492)⟩) 29 (0, 0)), (w7.heap.size, .cells (bvs (rkS 2147483647 (zr 492)).1).toArray 25 (0, 0))] [] w23 := h23
  clear h22
  replace h23 := h23.alloc (.cells (bvs (sealR 3 0 [203, 242, 156, 228, 132, 34, 35, 37]).1).toArray 25 (0, 0))
  replace h23 : DSt w [(w23.heap.size, .cells (bvs (sealR 3 0 [203, 242, 156, 228, 132, 34, 35, 37]).1).toArray 25 (0, 0)), (w21.heap.size, .cells (bvs (sealR 3 1 (zr 8 ++ [120])).1).toArray 25 (0, 0)), (w18.heap.size, .cells (bvs (sealR 3 1 (zr 7)).1).toArray 25 (0, 0)), (w15.heap.size, .cells (bvs (sealR 2 1 (zr 9)).1).toArray 25 (0, 0)), (w13.heap.size, .cells (rtC ⟨2147483647, (zr 492)⟩) 29 (0, 0)), (w7.heap.size, .cells (bvs (rkS 2147483647 (zr 492)).1).toArray 25 (0, 0))] [] (w23.alloc (.cells (bvs (sealR 3 0 [203, 242, 156, 228, 132, 34, 35, 37]).1).toArray 25 (0, 0))) := h23
  go_wp2_with (first | (refine wpList_al rfl 25 rfl alloc_blk ?_; simp only [Act.put]) | (refine wpList_st rfl 25 _ _ rfl (st_blkn (sealR 3 0 [203, 242, 156, 228, 132, 34, 35, 37]).1 sealR_length _) ?_; simp only [Act.put]) | (refine wpList_ld rfl 25 _ rfl (ld_blk (h23.get 0 rfl) sealR_length) ?_; simp only [Act.put]))
  refine (rgOpen_k (sealR 3 0 [203, 242, 156, 228, 132, 34, 35, 37]).1 sealR_length 0 [] 4 (by kernel_rfl) _).mono ?_
  rintro e w24 ⟨rfl, h24⟩
  replace h24 := h23.ext h24
  replace h24 : DSt w [(w23.heap.size, .cells (bvs (sealR 3 0 [203, 242, 156, 228, 132, 34, 35, 37]).1).toArray 25 (0, 0)), (w21.heap.size, .cells (bvs (sealR 3 1 (zr 8 ++ [120])).1).toArray 25 (0, 0)), (w18.heap.size, .cells (bvs (sealR 3 1 (zr 7)).1).toArray 25 (0, 0)), (w15.heap.size, .cells (bvs (sealR 2 1 (zr 9)).1).toArray 25 (0, 0)), (w13.heap.size, .cells (rtC ⟨2147483647, (zr 492)⟩) 29 (0, 0)), (w7.heap.size, .cells (bvs (rkS 2147483647 (zr 492)).1).toArray 25 (0, 0))] [] w24 := h24
  clear h23
  replace h24 := h24.ext (extAl _ (.cells (rtC ⟨0, []⟩) 29))
  go_wp2_with (first | (refine wpList_al rfl 29 rfl alloc_rt ?_; simp only [Act.put]) | (refine wpList_st rfl 29 _ _ rfl (st_rtn ⟨0, []⟩ _) ?_; simp only [Act.put]))
  refine (bSeal_k 3 3 (by decide) 1 [203, 242, 156, 228, 132, 34, 35, 37] _ (rfl) (sealR 3 1 [203, 242, 156, 228, 132, 34, 35, 37]).1 0 (by decide) (by kernel_rfl) _).mono ?_
  rintro e w25 ⟨rfl, h25⟩
  replace h25 := h24.ext h25
  replace h25 : DSt w [(w23.heap.size, .cells (bvs (sealR 3 0 [203, 242, 156, 228, 132, 34, 35, 37]).1).toArray 25 (0, 0)), (w21.heap.size, .cells (bvs (sealR 3 1 (zr 8 ++ [120])).1).toArray 25 (0, 0)), (w18.heap.size, .cells (bvs (sealR 3 1 (zr 7)).1).toArray 25 (0, 0)), (w15.heap.size, .cells (bvs (sealR 2 1 (zr 9)).1).toArray 25 (0, 0)), (w13.heap.size, .cells (rtC ⟨2147483647, (zr 492)⟩) 29 (0, 0)), (w7.heap.size, .cells (bvs (rkS 2147483647 (zr 492)).1).toArray 25 (0, 0))] [] w25 := h25
  clear h24
  replace h25 := h25.alloc (.cells (bvs (sealR 3 1 [203, 242, 156, 228, 132, 34, 35, 37]).1).toArray 25 (0, 0))
  replace h25 : DSt w [(w25.heap.size, .cells (bvs (sealR 3 1 [203, 242, 156, 228, 132, 34, 35, 37]).1).toArray 25 (0, 0)), (w23.heap.size, .cells (bvs (sealR 3 0 [203, 242, 156, 228, 132, 34, 35, 37]).1).toArray 25 (0, 0)), (w21.heap.size, .cells (bvs (sealR 3 1 (zr 8 ++ [120])).1).toArray 25 (0, 0)), (w18.heap.size, .cells (bvs (sealR 3 1 (zr 7)).1).toArray 25 (0, 0)), (w15.heap.size, .cells (bvs (sealR 2 1 (zr 9)).1).toArray 25 (0, 0)), (w13.heap.size, .cells (rtC ⟨2147483647, (zr 492)⟩) 29 (0, 0)), (w7.heap.size, .cells (bvs (rkS 2147483647 (zr 492)).1).toArray 25 (0, 0))] [] (w25.alloc (.cells (bvs (sealR 3 1 [203, 242, 156, 228, 132, 34, 35, 37]).1).toArray 25 (0, 0))) := h25
  go_wp2_with (first | (refine wpList_al rfl 25 rfl alloc_blk ?_; simp only [Act.put]) | (refine wpList_st rfl 25 _ _ rfl (st_blkn (sealR 3 1 [203, 242, 156, 228, 132, 34, 35, 37]).1 sealR_length _) ?_; simp only [Act.put]) | (refine wpList_ld rfl 25 _ rfl (ld_blk (h25.get 0 rfl) sealR_length) ?_; simp only [Act.put]))
  refine (rgOpen_k (sealR 3 1 [203, 242, 156, 228, 132, 34, 35, 37]).1 sealR_length 1 [] 0 (by kernel_rfl) _).mono ?_
  rintro e w26 ⟨rfl, h26⟩
  replace h26 := h25.ext h26
  replace h26 : DSt w [(w25.heap.size, .cells (bvs (sealR 3 1 [203, 242, 156, 228, 132, 34, 35, 37]).1).toArray 25 (0, 0)), (w23.heap.size, .cells (bvs (sealR 3 0 [203, 242, 156, 228, 132, 34, 35, 37]).1).toArray 25 (0, 0)), (w21.heap.size, .cells (bvs (sealR 3 1 (zr 8 ++ [120])).1).toArray 25 (0, 0)), (w18.heap.size, .cells (bvs (sealR 3 1 (zr 7)).1).toArray 25 (0, 0)), (w15.heap.size, .cells (bvs (sealR 2 1 (zr 9)).1).toArray 25 (0, 0)), (w13.heap.size, .cells (rtC ⟨2147483647, (zr 492)⟩) 29 (0, 0)), (w7.heap.size, .cells (bvs (rkS 2147483647 (zr 492)).1).toArray 25 (0, 0))] [] w26 := h26
  clear h25
  replace h26 := h26.alloc (.cells (rtC ⟨1, []⟩) 29 (0, 0))
  replace h26 : DSt w [(w26.heap.size, .cells (rtC ⟨1, []⟩) 29 (0, 0)), (w25.heap.size, .cells (bvs (sealR 3 1 [203, 242, 156, 228, 132, 34, 35, 37]).1).toArray 25 (0, 0)), (w23.heap.size, .cells (bvs (sealR 3 0 [203, 242, 156, 228, 132, 34, 35, 37]).1).toArray 25 (0, 0)), (w21.heap.size, .cells (bvs (sealR 3 1 (zr 8 ++ [120])).1).toArray 25 (0, 0)), (w18.heap.size, .cells (bvs (sealR 3 1 (zr 7)).1).toArray 25 (0, 0)), (w15.heap.size, .cells (bvs (sealR 2 1 (zr 9)).1).toArray 25 (0, 0)), (w13.heap.size, .cells (rtC ⟨2147483647, (zr 492)⟩) 29 (0, 0)), (w7.heap.size, .cells (bvs (rkS 2147483647 (zr 492)).1).toArray 25 (0, 0))] [] (w26.alloc (.cells (rtC ⟨1, []⟩) 29 (0, 0))) := h26
  go_wp2_with (first | (refine wpList_al rfl 29 rfl alloc_rt ?_; simp only [Act.put]) | (refine wpList_st rfl 29 _ _ rfl (st_rtn ⟨1, []⟩ _) ?_; simp only [Act.put]) | (refine wpList_bd rfl 25 rfl build_blk ?_; simp only [Act.put]))
  refine (rgOpen_k zB zB_length 0 [] 4 (by kernel_rfl) _).mono ?_
  rintro e w27 ⟨rfl, h27⟩
  replace h27 := h26.ext h27
  replace h27 : DSt w [(w26.heap.size, .cells (rtC ⟨1, []⟩) 29 (0, 0)), (w25.heap.size, .cells (bvs (sealR 3 1 [203, 242, 156, 228, 132, 34, 35, 37]).1).toArray 25 (0, 0)), (w23.heap.size, .cells (bvs (sealR 3 0 [203, 242, 156, 228, 132, 34, 35, 37]).1).toArray 25 (0, 0)), (w21.heap.size, .cells (bvs (sealR 3 1 (zr 8 ++ [120])).1).toArray 25 (0, 0)), (w18.heap.size, .cells (bvs (sealR 3 1 (zr 7)).1).toArray 25 (0, 0)), (w15.heap.size, .cells (bvs (sealR 2 1 (zr 9)).1).toArray 25 (0, 0)), (w13.heap.size, .cells (rtC ⟨2147483647, (zr 492)⟩) 29 (0, 0)), (w7.heap.size, .cells (bvs (rkS 2147483647 (zr 492)).1).toArray 25 (0, 0))] [] w27 := h27
  clear h26
  replace h27 := h27.ext (extAl _ (.cells (rtC ⟨0, []⟩) 29))
  go_upto_region 19 with (first | (refine wpList_al rfl 29 rfl alloc_rt ?_; simp only [Act.put]) | (refine wpList_st rfl 29 _ _ rfl (st_rtn ⟨0, []⟩ _) ?_; simp only [Act.put]))
  change Code.wp _ _ _ _ (w27.alloc (.cells (rtC ⟨0, []⟩) 29 (0, 0)))
  generalize w27.alloc (.cells (rtC ⟨0, []⟩) 29 (0, 0)) = V at *
  have hX : V.heap[w13.heap.size]? = some (.cells (rtC ⟨2147483647, zr 492⟩) 29 (0, 0)) := h27.get 6 rfl
  have hY : V.heap[w26.heap.size]? = some (.cells (rtC ⟨1, []⟩) 29 (0, 0)) := h27.get 0 rfl
  generalize w13.heap.size = gX at *
  generalize w26.heap.size = gY at *
  have LX := fun V2 (k : Ext V V2) => ld_rt ((Below.block k gX (Array.getElem?_eq_some_iff.1 hX).1).trans hX)
  have LY := fun V2 (k : Ext V V2) => ld_rt ((Below.block k gY (Array.getElem?_eq_some_iff.1 hY).1).trans hY)
  unfold rtC at LX LY
  have LX := Lib.hid LX
  have LY := Lib.hid LY
  have H19 := Lib.hid h27
  clear hX hY h27
  have q1 : eqRo 2147483647 (zr 492) 2147483647 (zr 492) = true := by simp [eqRo]
  have q2 : eqRo 1 [] 1 [] = true := by simp [eqRo]
  have KM := Lib.hid fun w => many_k 492 492 (by decide) (by decide) w
  have p1 : placeR (-3) = 0 := by decide
  have p2 : placeR 0 = 0 := by decide
  have p3 : placeR 4 = 0 := by decide
  refine wp_region_ext V.heap.size (by kernel_rfl) ((congrArg (Region.lexB .any) (show _ = (findR 19 (Try.f11.body.getD .skip)).getD #[] from by kernel_rfl)).trans lex19) ?_
  try simp only [List.append_eq, List.cons_append, List.nil_append]
  repeat (first | (go_big_quiet_want; refine quiet_ld 29 (.tmp 9) rfl (fun w' hw' => LX.out w' (ext_of_in hw')) ?_; go_simp; go_big_quiet_on) | (go_big_quiet_want; refine quiet_ld 29 (.tmp 29) rfl (fun w' hw' => LY.out w' (ext_of_in hw')) ?_; go_simp; go_big_quiet_on) | go_big_quiet_step (first | (go_at_call 48; exact ext_of (Nat.le_refl _) (KM.out _)) | (go_at_call 47; exact ext_of (Nat.le_refl _) (r_any _ _ _)) | (go_at_call 20; exact ext_of (Nat.le_refl _) (rgPlace_any _ _))))
  refine wpQuiet_nil ?_
  rintro w28 ⟨⟨_, hd⟩, rfl⟩
  have h28 : DSt w [] [] w28 := (DSt.start w).ext (H19.out.bel.trans (Below.mono hd H19.out.bel.size))
  clear LX LY H19 hd
  go_wp2_with fail
  refine (new_l h28 64 (by omega) (by omega)).mono ?_
  rintro e w29 ⟨g_t, rfl, h29⟩
  replace h29 : DSt w [] [(g_t, ⟨64, [], [], 0, [], false⟩)] w29 := h29
  clear h28
  go_wp2_with fail
  refine (r_any 4 [100] _).mono ?_
  rintro e w30 ⟨rfl, h30⟩
  replace h30 := h29.ext h30
  replace h30 : DSt w [] [(g_t, ⟨64, [], [], 0, [], false⟩)] w30 := h30
  clear h29
  go_wp2_with fail
  refine (put_k 0 h30 rfl 4 [100] (by decide) ⟨64, [], [(0, (rkS 4 [100]).1)], 0, [], false⟩ 0 (by kernel_rfl) (by decide) (by decide)).mono ?_
  rintro e w31 ⟨rfl, h31⟩
  replace h31 : DSt w [] [(g_t, ⟨64, [], [(0, (rkS 4 [100]).1)], 0, [], false⟩)] w31 := h31
  clear h30
  go_wp2_with fail
  refine (r_any 0 [] _).mono ?_
  rintro e w32 ⟨rfl, h32⟩
  replace h32 := h31.ext h32
  replace h32 : DSt w [] [(g_t, ⟨64, [], [(0, (rkS 4 [100]).1)], 0, [], false⟩)] w32 := h32
  clear h31
  go_wp2_with fail
  refine (put_k 0 h32 rfl 0 [] (by decide) ⟨64, [], [(0, (rkS 4 [100]).1)], 0, [], false⟩ 1 (by kernel_rfl) (by decide) (by decide)).mono ?_
  rintro e w33 ⟨rfl, h33⟩
  replace h33 : DSt w [] [(g_t, ⟨64, [], [(0, (rkS 4 [100]).1)], 0, [], false⟩)] w33 := h33
  clear h32
  go_wp2_with fail
  refine (many_k 493 493 (by decide) (by decide) _).mono ?_
  rintro e w34 ⟨rfl, h34⟩
  replace h34 := h33.ext h34
  replace h34 : DSt w [] [(g_t, ⟨64, [], [(0, (rkS 4 [100]).1)], 0, [], false⟩)] w34 := h34
  clear h33
  go_wp2_with fail
  refine (r_any 1 (zr 493) _).mono ?_
  rintro e w35 ⟨rfl, h35⟩
  replace h35 := h34.ext h35
  replace h35 : DSt w [] [(g_t, ⟨64, [], [(0, (rkS 4 [100]).1)], 0, [], false⟩)] w35 := h35
  clear h34
  go_wp2_with fail
  refine (put_k 0 h35 rfl 1 (zr 493) (by decide) ⟨64, [], [(0, (rkS 4 [100]).1)], 0, [], false⟩ 40 (by kernel_rfl) (by decide) (by decide)).mono ?_
  rintro e w36 ⟨rfl, h36⟩
  replace h36 : DSt w [] [(g_t, ⟨64, [], [(0, (rkS 4 [100]).1)], 0, [], false⟩)] w36 := h36
  clear h35
  go_wp2_with fail
  refine (nw_k 0 h36 rfl 4 [100] true (by decide +kernel) (by decide)).mono ?_
  rintro e w37 ⟨rfl, h37⟩
  replace h37 : DSt w [] [(g_t, ⟨64, [], [(0, (rkS 4 [100]).1)], 0, [], false⟩)] w37 := h37
  clear h36
  go_wp2_with fail
  refine (r_any 9 [105] _).mono ?_
  rintro e w38 ⟨rfl, h38⟩
  replace h38 := h37.ext h38
  replace h38 : DSt w [] [(g_t, ⟨64, [], [(0, (rkS 4 [100]).1)], 0, [], false⟩)] w38 := h38
  clear h37
  go_wp2_with fail
  refine (rgSeal_k 9 [105] (rkS 9 [105]).1 0 (by decide) (by kernel_rfl) _).mono ?_
  rintro e w39 ⟨rfl, h39⟩
  replace h39 := h38.ext h39
  replace h39 : DSt w [] [(g_t, ⟨64, [], [(0, (rkS 4 [100]).1)], 0, [], false⟩)] w39 := h39
  clear h38
  replace h39 := h39.alloc (.cells (bvs (rkS 9 [105]).1).toArray 25 (0, 0))
  replace h39 : DSt w [(w39.heap.size, .cells (bvs (rkS 9 [105]).1).toArray 25 (0, 0))] [(g_t, ⟨64, [], [(0, (rkS 4 [100]).1)], 0, [], false⟩)] (w39.alloc (.cells (bvs (rkS 9 [105]).1).toArray 25 (0, 0))) := h39
  go_wp2_with (first | (refine wpList_al rfl 25 rfl alloc_blk ?_; simp only [Act.put]) | (refine wpList_st rfl 25 _ _ rfl (st_blkn (rkS 9 [105]).1 rkS_length _) ?_; simp only [Act.put]) | (refine wpList_ldg 25 (.tmp 35) rfl (by rfl) (ld_blk (h39.get 0 rfl) rkS_length) ?_; simp only [Act.put]))
  refine (write_k 0 h39 rfl 0 rkS_length ⟨64, [], [(0, (rkS 4 [100]).1), (0, (rkS 9 [105]).1)], 0, [], false⟩ 0 (by kernel_rfl) (by decide) (by decide)).mono ?_
  rintro e w40 ⟨rfl, h40⟩
  replace h40 : DSt w [(w39.heap.size, .cells (bvs (rkS 9 [105]).1).toArray 25 (0, 0))] [(g_t, ⟨64, [], [(0, (rkS 4 [100]).1), (0, (rkS 9 [105]).1)], 0, [], false⟩)] w40 := h40
  clear h39
  go_wp2_with fail
  refine (newest_k 0 h40 rfl 0 [] 5 (by kernel_rfl) (by decide)).mono ?_
  rintro e w41 ⟨rfl, h41⟩
  replace h41 : DSt w [(w39.heap.size, .cells (bvs (rkS 9 [105]).1).toArray 25 (0, 0))] [(g_t, ⟨64, [], [(0, (rkS 4 [100]).1), (0, (rkS 9 [105]).1)], 0, [], false⟩)] w41 := h41
  clear h40
  replace h41 := h41.ext (extAl _ (.cells (rtC ⟨0, []⟩) 29))
  go_wp2_with (first | (refine wpList_al rfl 29 rfl alloc_rt ?_; simp only [Act.put]) | (refine wpList_st rfl 29 _ _ rfl (st_rtn ⟨0, []⟩ _) ?_; simp only [Act.put]) | (refine wpList_ldg 25 (.tmp 35) rfl (by rfl) (ld_blk (h41.get 0 rfl) rkS_length) ?_; simp only [Act.put]))
  refine (write_k 0 h41 rfl 1 rkS_length ⟨64, [], [(0, (rkS 4 [100]).1), (0, (rkS 9 [105]).1), (1, (rkS 9 [105]).1)], 0, [], false⟩ 0 (by kernel_rfl) (by decide) (by decide)).mono ?_
  rintro e w42 ⟨rfl, h42⟩
  replace h42 : DSt w [(w39.heap.size, .cells (bvs (rkS 9 [105]).1).toArray 25 (0, 0))] [(g_t, ⟨64, [], [(0, (rkS 4 [100]).1), (0, (rkS 9 [105]).1), (1, (rkS 9 [105]).1)], 0, [], false⟩)] w42 := h42
  clear h41
  go_wp2_with fail
  refine (nw_k 0 h42 rfl 9 [105] true (by decide +kernel) (by decide)).mono ?_
  rintro e w43 ⟨rfl, h43⟩
  replace h43 : DSt w [(w39.heap.size, .cells (bvs (rkS 9 [105]).1).toArray 25 (0, 0))] [(g_t, ⟨64, [], [(0, (rkS 4 [100]).1), (0, (rkS 9 [105]).1), (1, (rkS 9 [105]).1)], 0, [], false⟩)] w43 := h43
  clear h42
  go_wp2_with fail
  refine (fail_k 0 h43 rfl [] (.inl ⟨none, 0, rfl, rfl⟩) ⟨64, [], [], 0, [], true⟩ 0 (by kernel_rfl) (by decide) (by decide)).mono ?_
  rintro e w44 ⟨rfl, h44⟩
  replace h44 : DSt w [(w39.heap.size, .cells (bvs (rkS 9 [105]).1).toArray 25 (0, 0))] [(g_t, ⟨64, [], [], 0, [], true⟩)] w44 := h44
  clear h43
  go_wp2_with fail
  refine (r_any 1 [] _).mono ?_
  rintro e w45 ⟨rfl, h45⟩
  replace h45 := h44.ext h45
  replace h45 : DSt w [(w39.heap.size, .cells (bvs (rkS 9 [105]).1).toArray 25 (0, 0))] [(g_t, ⟨64, [], [], 0, [], true⟩)] w45 := h45
  clear h44
  go_wp2_with fail
  refine (put_k 0 h45 rfl 1 [] (by decide) ⟨64, [], [], 0, [], true⟩ 51 (by kernel_rfl) (by decide) (by decide)).mono ?_
  rintro e w46 ⟨rfl, h46⟩
  replace h46 : DSt w [(w39.heap.size, .cells (bvs (rkS 9 [105]).1).toArray 25 (0, 0))] [(g_t, ⟨64, [], [], 0, [], true⟩)] w46 := h46
  clear h45
  go_wp2_with fail
  refine (newest_k 0 h46 rfl 0 [] 51 (by kernel_rfl) (by decide)).mono ?_
  rintro e w47 ⟨rfl, h47⟩
  replace h47 : DSt w [(w39.heap.size, .cells (bvs (rkS 9 [105]).1).toArray 25 (0, 0))] [(g_t, ⟨64, [], [], 0, [], true⟩)] w47 := h47
  clear h46
  replace h47 := h47.ext (extAl _ (.cells (rtC ⟨0, []⟩) 29))
  go_wp2_with (first | (refine wpList_al rfl 29 rfl alloc_rt ?_; simp only [Act.put]) | (refine wpList_st rfl 29 _ _ rfl (st_rtn ⟨0, []⟩ _) ?_; simp only [Act.put]))
  refine (newest_nil _).mono ?_
  rintro e w48 ⟨rfl, h48⟩
  replace h48 := h47.ext h48
  replace h48 : DSt w [(w39.heap.size, .cells (bvs (rkS 9 [105]).1).toArray 25 (0, 0))] [(g_t, ⟨64, [], [], 0, [], true⟩)] w48 := h48
  clear h47
  replace h48 := h48.ext (extAl _ (.cells (rtC ⟨0, []⟩) 29))
  go_wp2_with (first | (refine wpList_al rfl 29 rfl alloc_rt ?_; simp only [Act.put]) | (refine wpList_st rfl 29 _ _ rfl (st_rtn ⟨0, []⟩ _) ?_; simp only [Act.put]))
  refine (r_any 0 [] _).mono ?_
  rintro e w49 ⟨rfl, h49⟩
  replace h49 := h48.ext h49
  replace h49 : DSt w [(w39.heap.size, .cells (bvs (rkS 9 [105]).1).toArray 25 (0, 0))] [(g_t, ⟨64, [], [], 0, [], true⟩)] w49 := h49
  clear h48
  go_wp2_with fail
  refine (put_nil 0 [] _).mono ?_
  rintro e w50 ⟨rfl, h50⟩
  replace h50 := h49.ext h50
  replace h50 : DSt w [(w39.heap.size, .cells (bvs (rkS 9 [105]).1).toArray 25 (0, 0))] [(g_t, ⟨64, [], [], 0, [], true⟩)] w50 := h50
  clear h49
  go_wp2_with fail
  go_ret
  exact ⟨rfl, h50.bel⟩

theorem own : ownKnob Try.prog.godebug = none := by kernel_rfl
theorem laidOut : laidOutB Try.prog = true := by kernel_rfl

set_option maxRecDepth 100000 in
theorem lifted (os : Os) (started : os.Started) (H : Type) (enc : TypeId × Value → H) :
    ReturnsInHanded {} Try.checked os 11 .any (Rows.ringNamesSpec.pre6 enc Try.prog Try.f11 Rows.ringNamesRow.domain false) (Rows.ringNamesSpec.post enc Try.prog Try.f11 false true false false) := by
  refine returnsInHanded_of_change (C := Try.checked) own started (by kernel_rfl) Try.func11
    (ChangeSpec.witness6 (enc := enc) (C := Try.checked) false ⟨#[], #[], []⟩ 8 (by kernel_rfl) (by kernel_rfl) (by kernel_rfl) (by kernel_rfl)) ?_
  intro W base args ds gs before hval0 hW hcnd _
  have hval : ∀ (j : Nat) t v, Try.f11.params[j]? = some t → args[j]? = some v → Value.okWide Try.prog W .any base t v := hval0
  have hW' := hW
  obtain ⟨p, q, hA0, hV, rfl, hfz, hnd⟩ := hW
  have hA : DataW.TrodAll enc Try.prog W 0 (fun _ => true) true Try.f11.params.toList args.toList ds p := hA0
  rw [Try.params11] at hA hval
  obtain ⟨rfl, rfl, rfl⟩ := trodAll_none hA
  obtain ⟨rfl, rfl⟩ := trodVars_none hV
  refine (walk  W).mono fun e W' ⟨he, bel⟩ => ?_
  subst he
  exact ⟨_, rfl, _, _, _, [], _, [], hW', trodAll_mk1 (shut_bool Try.underlying4 _), trodAll_mk0, rfl, bel.frame _, fun h => by cases h⟩

theorem proved : Rows.RingNamesSaid :=
  OpenClaim.holds_of_wide 11 Try.f11 rfl rfl rfl rfl rfl rfl rfl ⟨rfl, rfl, rfl, rfl, rfl⟩ rfl rfl rfl rfl rfl (by kernel_rfl) Try.func11 (by kernel_rfl)
    (of_decide_eq_true (by kernel_rfl)) (by unfold Func.isWrapper; first | (rw [if_pos (by decide +kernel)]; kernel_rfl) | (rw [if_neg (by decide +kernel)]; exact ⟨rfl, rfl⟩))
    (fun os started H enc _ => lifted os started H enc)
end Go.Proofs.Ytobcfocbglkicaa.ringNames
