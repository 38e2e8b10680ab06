/- Proved: TasksNames returns true. No condition. (Printed by gtask.py.) -/
import Derived.Test.YtiihlbaajopllaaTkM
import Derived.Test.YtiihlbaajopllaaLift
set_option linter.unusedVariables false
set_option maxRecDepth 100000
namespace Go.Proofs.Ytiihlbaajopllaa.tasksNames
open Go.RowKit Go.ChangeShapes Go.WideShapes Go.ChangeAt Go.Deep Go.Proofs.Ytiihlbaajopllaa


def ns9 : TK := ⟨[⟨(0, []), 1, 0⟩, ⟨(1, []), 2, 0⟩, ⟨(2, []), 3, 0⟩, ⟨(3, []), 4, 0⟩, ⟨(4, []), 5, 0⟩, ⟨(5, []), 6, 0⟩, ⟨(6, []), 7, 0⟩, ⟨(7, []), 8, 0⟩, ⟨(8, []), 9, 0⟩, ⟨(9, []), 10, 0⟩, ⟨(10, []), 11, 0⟩, ⟨(11, []), 12, 0⟩, ⟨(12, []), 13, 0⟩, ⟨(13, []), 14, 0⟩, ⟨(14, []), 15, 0⟩, ⟨(15, []), 16, 0⟩], 16, 0⟩
def ns10 : TK := ⟨[⟨(0, []), 1, 0⟩, ⟨(1, []), 2, 0⟩, ⟨(2, []), 3, 0⟩, ⟨(3, []), 4, 0⟩, ⟨(4, []), 5, 0⟩, ⟨(5, []), 6, 0⟩, ⟨(6, []), 7, 0⟩, ⟨(7, []), 8, 0⟩, ⟨(8, []), 9, 0⟩, ⟨(9, []), 10, 0⟩, ⟨(10, []), 11, 0⟩, ⟨(11, []), 12, 0⟩, ⟨(12, []), 13, 0⟩, ⟨(13, []), 14, 0⟩, ⟨(14, []), 15, 0⟩, ⟨(15, []), 16, 0⟩], 16, 1⟩
def ns11 : TK := ⟨[⟨(0, []), 1, 0⟩, ⟨(1, []), 2, 0⟩, ⟨(2, []), 3, 0⟩, ⟨(3, []), 4, 0⟩, ⟨(4, []), 5, 0⟩, ⟨(5, []), 6, 0⟩, ⟨(6, []), 7, 0⟩, ⟨(7, []), 8, 0⟩, ⟨(8, []), 9, 0⟩, ⟨(9, []), 10, 0⟩, ⟨(10, []), 11, 0⟩, ⟨(11, []), 12, 0⟩, ⟨(12, []), 13, 0⟩, ⟨(13, []), 14, 0⟩, ⟨(14, []), 15, 0⟩, ⟨(15, []), 16, 0⟩], 16, 2⟩
def ns12 : TK := ⟨[⟨(0, []), 1, 0⟩, ⟨(1, []), 2, 0⟩, ⟨(2, []), 3, 0⟩, ⟨(3, []), 4, 0⟩, ⟨(4, []), 5, 0⟩, ⟨(5, []), 6, 0⟩, ⟨(6, []), 7, 0⟩, ⟨(7, []), 8, 0⟩, ⟨(8, []), 9, 0⟩, ⟨(9, []), 10, 0⟩, ⟨(10, []), 11, 0⟩, ⟨(11, []), 12, 0⟩, ⟨(12, []), 13, 0⟩, ⟨(13, []), 14, 0⟩, ⟨(14, []), 15, 0⟩, ⟨(15, []), 16, 0⟩], 16, 16⟩
def ns13 : TK := ⟨[⟨(0, []), 1, 0⟩, ⟨(1, []), 2, 0⟩, ⟨(2, []), 3, 0⟩, ⟨(3, []), 4, 0⟩, ⟨(4, []), 5, 0⟩, ⟨(5, []), 6, 0⟩, ⟨(6, []), 7, 0⟩, ⟨(7, []), 8, 0⟩, ⟨(8, []), 9, 0⟩, ⟨(9, []), 10, 0⟩, ⟨(10, []), 11, 0⟩, ⟨(11, []), 12, 0⟩, ⟨(12, []), 13, 0⟩, ⟨(13, []), 14, 0⟩, ⟨(14, []), 15, 0⟩, ⟨(15, []), 16, 0⟩], 16, 5⟩
def ns14 : TK := ⟨[⟨(0, []), 1, 0⟩, ⟨(1, []), 2, 0⟩, ⟨(2, []), 3, 1⟩, ⟨(3, []), 4, 0⟩, ⟨(4, []), 5, 0⟩, ⟨(5, []), 6, 0⟩, ⟨(6, []), 7, 0⟩, ⟨(7, []), 8, 0⟩, ⟨(8, []), 9, 0⟩, ⟨(9, []), 10, 0⟩, ⟨(10, []), 11, 0⟩, ⟨(11, []), 12, 0⟩, ⟨(12, []), 13, 0⟩, ⟨(13, []), 14, 0⟩, ⟨(14, []), 15, 0⟩, ⟨(15, []), 16, 0⟩], 16, 5⟩
def ns15 : TK := ⟨[⟨(0, []), 1, 0⟩, ⟨(1, []), 2, 0⟩, ⟨(2, []), 3, 1⟩, ⟨(3, []), 4, 0⟩, ⟨(4, []), 5, 0⟩, ⟨(5, []), 6, 0⟩, ⟨(6, []), 7, 0⟩, ⟨(7, []), 8, 0⟩, ⟨(8, []), 9, 0⟩, ⟨(9, []), 10, 0⟩, ⟨(10, []), 11, 0⟩, ⟨(11, []), 12, 0⟩, ⟨(12, []), 13, 0⟩, ⟨(13, []), 14, 0⟩, ⟨(14, []), 15, 0⟩, ⟨(15, []), 16, 0⟩], 16, 6⟩
def ns16 : TK := ⟨[⟨(0, []), 1, 0⟩, ⟨(1, []), 2, 0⟩, ⟨(2, []), 3, 1⟩, ⟨(3, []), 4, 0⟩, ⟨(4, []), 5, 0⟩, ⟨(5, []), 6, 0⟩, ⟨(6, []), 7, 0⟩, ⟨(7, []), 8, 0⟩, ⟨(8, []), 9, 0⟩, ⟨(9, []), 10, 0⟩, ⟨(10, []), 11, 0⟩, ⟨(11, []), 12, 0⟩, ⟨(12, []), 13, 0⟩, ⟨(13, []), 14, 0⟩, ⟨(14, []), 15, 0⟩, ⟨(15, []), 16, 0⟩], 16, 16⟩
def ns17 : TK := ⟨[⟨(0, []), 1, 0⟩, ⟨(1, []), 2, 0⟩, ⟨(2, []), 3, 1⟩, ⟨(3, []), 4, 0⟩, ⟨(4, []), 5, 0⟩, ⟨(5, []), 6, 0⟩, ⟨(6, []), 7, 0⟩, ⟨(7, []), 8, 0⟩, ⟨(8, []), 9, 0⟩, ⟨(9, []), 10, 0⟩, ⟨(10, []), 11, 0⟩, ⟨(11, []), 12, 0⟩, ⟨(12, []), 13, 0⟩, ⟨(13, []), 14, 0⟩, ⟨(14, []), 15, 0⟩, ⟨(15, []), 16, 0⟩], 16, 0⟩
def ns18 : TK := ⟨[⟨(0, []), 1, 0⟩, ⟨(1, []), 2, 0⟩, ⟨(2, []), 3, 1⟩, ⟨(3, []), 4, 0⟩, ⟨(4, []), 5, 0⟩, ⟨(5, []), 6, 0⟩, ⟨(6, []), 7, 0⟩, ⟨(7, []), 8, 0⟩, ⟨(8, []), 9, 0⟩, ⟨(9, []), 10, 0⟩, ⟨(10, []), 11, 0⟩, ⟨(11, []), 12, 0⟩, ⟨(12, []), 13, 0⟩, ⟨(13, []), 14, 0⟩, ⟨(14, []), 15, 0⟩, ⟨(15, []), 16, 0⟩], 16, 1⟩
def ns19 : TK := ⟨[⟨(0, []), 1, 0⟩, ⟨(1, []), 2, 0⟩, ⟨(2, []), 3, 2⟩, ⟨(3, []), 4, 0⟩, ⟨(4, []), 5, 0⟩, ⟨(5, []), 6, 0⟩, ⟨(6, []), 7, 0⟩, ⟨(7, []), 8, 0⟩, ⟨(8, []), 9, 0⟩, ⟨(9, []), 10, 0⟩, ⟨(10, []), 11, 0⟩, ⟨(11, []), 12, 0⟩, ⟨(12, []), 13, 0⟩, ⟨(13, []), 14, 0⟩, ⟨(14, []), 15, 0⟩, ⟨(15, []), 16, 0⟩], 16, 1⟩
def ns20 : TK := ⟨[⟨(0, []), 1, 0⟩, ⟨(1, []), 2, 0⟩, ⟨(2, []), 3, 2⟩, ⟨(3, []), 4, 0⟩, ⟨(4, []), 5, 0⟩, ⟨(5, []), 6, 0⟩, ⟨(6, []), 7, 0⟩, ⟨(7, []), 8, 0⟩, ⟨(8, []), 9, 0⟩, ⟨(9, []), 10, 0⟩, ⟨(10, []), 11, 0⟩, ⟨(11, []), 12, 0⟩, ⟨(12, []), 13, 0⟩, ⟨(13, []), 14, 0⟩, ⟨(14, []), 15, 0⟩, ⟨(15, []), 16, 0⟩], 16, 2⟩
def ns21 : TK := ⟨[⟨(0, []), 1, 0⟩, ⟨(1, []), 2, 0⟩, ⟨(2, []), 3, 2⟩, ⟨(3, []), 4, 0⟩, ⟨(4, []), 5, 0⟩, ⟨(5, []), 6, 0⟩, ⟨(6, []), 7, 0⟩, ⟨(7, []), 8, 0⟩, ⟨(8, []), 9, 0⟩, ⟨(9, []), 10, 0⟩, ⟨(10, []), 11, 0⟩, ⟨(11, []), 12, 0⟩, ⟨(12, []), 13, 0⟩, ⟨(13, []), 14, 0⟩, ⟨(14, []), 15, 0⟩, ⟨(15, []), 16, 0⟩], 16, 3⟩
def ns22 : TK := ⟨[⟨(0, []), 1, 0⟩, ⟨(1, []), 2, 0⟩, ⟨(3, []), 4, 0⟩, ⟨(4, []), 5, 0⟩, ⟨(5, []), 6, 0⟩, ⟨(6, []), 7, 0⟩, ⟨(7, []), 8, 0⟩, ⟨(8, []), 9, 0⟩, ⟨(9, []), 10, 0⟩, ⟨(10, []), 11, 0⟩, ⟨(11, []), 12, 0⟩, ⟨(12, []), 13, 0⟩, ⟨(13, []), 14, 0⟩, ⟨(14, []), 15, 0⟩, ⟨(15, []), 16, 0⟩], 16, 3⟩
def ns23 : TK := ⟨[⟨(0, []), 1, 0⟩, ⟨(1, []), 2, 0⟩, ⟨(3, []), 4, 0⟩, ⟨(4, []), 5, 0⟩, ⟨(5, []), 6, 0⟩, ⟨(6, []), 7, 0⟩, ⟨(7, []), 8, 0⟩, ⟨(8, []), 9, 0⟩, ⟨(9, []), 10, 0⟩, ⟨(10, []), 11, 0⟩, ⟨(11, []), 12, 0⟩, ⟨(12, []), 13, 0⟩, ⟨(13, []), 14, 0⟩, ⟨(14, []), 15, 0⟩, ⟨(15, []), 16, 0⟩, ⟨(2, []), 17, 0⟩], 17, 3⟩
def ns24 : TK := ⟨[⟨(0, []), 1, 0⟩, ⟨(1, []), 2, 0⟩, ⟨(3, []), 4, 0⟩, ⟨(4, []), 5, 0⟩, ⟨(5, []), 6, 0⟩, ⟨(6, []), 7, 0⟩, ⟨(7, []), 8, 0⟩, ⟨(8, []), 9, 0⟩, ⟨(9, []), 10, 0⟩, ⟨(10, []), 11, 0⟩, ⟨(11, []), 12, 0⟩, ⟨(12, []), 13, 0⟩, ⟨(13, []), 14, 0⟩, ⟨(14, []), 15, 0⟩, ⟨(15, []), 16, 0⟩, ⟨(2, []), 17, 0⟩], 17, 4⟩
def ns25 : TK := ⟨[⟨(0, []), 1, 0⟩, ⟨(1, []), 2, 0⟩, ⟨(3, []), 4, 0⟩, ⟨(4, []), 5, 0⟩, ⟨(5, []), 6, 0⟩, ⟨(6, []), 7, 0⟩, ⟨(7, []), 8, 0⟩, ⟨(8, []), 9, 0⟩, ⟨(9, []), 10, 0⟩, ⟨(10, []), 11, 0⟩, ⟨(11, []), 12, 0⟩, ⟨(12, []), 13, 0⟩, ⟨(13, []), 14, 0⟩, ⟨(14, []), 15, 0⟩, ⟨(15, []), 16, 0⟩, ⟨(2, []), 17, 0⟩], 17, 17⟩
def ns26 : TK := ⟨[⟨(0, []), 1, 0⟩, ⟨(1, []), 2, 0⟩, ⟨(3, []), 4, 0⟩, ⟨(4, []), 5, 0⟩, ⟨(5, []), 6, 0⟩, ⟨(6, []), 7, 0⟩, ⟨(7, []), 8, 0⟩, ⟨(8, []), 9, 0⟩, ⟨(9, []), 10, 0⟩, ⟨(10, []), 11, 0⟩, ⟨(11, []), 12, 0⟩, ⟨(12, []), 13, 0⟩, ⟨(13, []), 14, 0⟩, ⟨(14, []), 15, 0⟩, ⟨(15, []), 16, 0⟩, ⟨(2, []), 17, 0⟩], 17, 1⟩
def ns27 : TK := ⟨[⟨(0, []), 1, 0⟩, ⟨(1, []), 2, 0⟩, ⟨(2, []), 3, 1⟩, ⟨(3, []), 4, 0⟩, ⟨(4, []), 5, 0⟩, ⟨(5, []), 6, 0⟩, ⟨(6, []), 7, 0⟩, ⟨(7, []), 8, 0⟩, ⟨(8, []), 9, 0⟩, ⟨(9, []), 10, 0⟩, ⟨(10, []), 11, 0⟩, ⟨(11, []), 12, 0⟩, ⟨(12, []), 13, 0⟩, ⟨(13, []), 14, 0⟩, ⟨(14, []), 15, 0⟩, ⟨(15, []), 16, 0⟩], 16, 2⟩
def ns28 : TK := ⟨[⟨(0, []), 1, 0⟩, ⟨(1, []), 2, 0⟩, ⟨(2, []), 3, 1⟩, ⟨(3, []), 4, 0⟩, ⟨(4, []), 5, 0⟩, ⟨(5, []), 6, 0⟩, ⟨(6, []), 7, 0⟩, ⟨(7, []), 8, 0⟩, ⟨(8, []), 9, 0⟩, ⟨(9, []), 10, 0⟩, ⟨(10, []), 11, 0⟩, ⟨(11, []), 12, 0⟩, ⟨(12, []), 13, 0⟩, ⟨(13, []), 14, 0⟩, ⟨(14, []), 15, 0⟩, ⟨(15, []), 16, 0⟩], 16, 4⟩
def ns29 : TK := ⟨[], 17, 1⟩
def ns30 : TK := ⟨[⟨(5, [(1, true)]), 18, 0⟩], 18, 1⟩
def ns31 : TK := ⟨[⟨(5, [(1, true)]), 18, 0⟩, ⟨(6, [(1, false)]), 19, 0⟩], 19, 1⟩
def ns32 : TK := ⟨[⟨(5, [(1, true)]), 18, 0⟩, ⟨(6, [(1, false)]), 19, 0⟩], 19, 18⟩
def ns33 : TK := ⟨[⟨(5, [(1, true)]), 18, 2⟩, ⟨(6, [(1, false)]), 19, 0⟩], 19, 18⟩
def ns34 : TK := ⟨[⟨(6, [(1, false)]), 19, 0⟩], 19, 18⟩
def tkN (k : Nat) : TK := ⟨(List.range k).map fun (j : Nat) => ⟨((j : Int), []), (j : Int) + 1, 0⟩, k, 0⟩
theorem stepN : ∀ k : Nat, k < 16 → (tkN k).addE (k : Int) [] = 0 ∧ (tkN k).add (k : Int) [] = tkN (k + 1) ∧ (tkN k).cnt ≤ 1000000 := by decide +kernel
set_option maxHeartbeats 16000000 in
theorem walk (w : World) : Calls Try.prog 8 #[] w fun e w' => e = .returned (.bool true) ∧ Below w.heap.size w w' := by
  go_enter Try.func8, Try.ntmps8
  go_wp2_with fail
  refine (works_any w).mono ?_
  rintro e w0 ⟨rfl, h⟩
  have H0 : Hid (OSt (Z := Zf) w [] w0) := Lib.hid ((OSt.start w).ext h)
  clear h
  go_wp2_with fail
  refine (tnewO H0.out).mono ?_
  rintro e w1 ⟨g, rfl, h⟩
  have H1 : Hid (OSt w [tkOb g T0] w1) := Lib.hid (h)
  clear h H0
  go_wp2_with fail
  refine (tnextO 0 H1.out rfl (0, 0) 5 (T' := T0) (by decide +kernel)).mono ?_
  rintro e w2 ⟨rfl, h⟩
  have H2 : Hid (OSt w [tkOb g T0] (w2.alloc (.cells #[.int .i64 0, .int .u8 0] 64))) := Lib.hid (h.ext (extAl _ _))
  clear h H1
  go_wp2_with fail
  refine (tpickO 0 H2.out rfl 0 (by decide) (by decide) (0, 0) 5 (T' := T0) (by decide +kernel)).mono ?_
  rintro e w3 ⟨rfl, h⟩
  have H3 : Hid (OSt w [tkOb g T0] (w3.alloc (.cells #[.int .i64 0, .int .u8 0] 64))) := Lib.hid (h.ext (extAl _ _))
  clear h H2
  go_wp2_with fail
  refine (tsync0 0 H3.out rfl (by decide +kernel) (T' := T0) (by decide +kernel)).mono ?_
  rintro e w4 ⟨A, c, rfl, h⟩
  have H4 : Hid (OSt w [tkOb g T0] w4) := Lib.hid (h)
  clear h H3
  go_wp2_with fail
  refine (tdidO 0 H4.out rfl 1 false (by decide) (by decide) 5 (by decide +kernel) (T' := T0) (by decide +kernel)).mono ?_
  rintro e w5 ⟨rfl, h⟩
  have H5 : Hid (OSt w [tkOb g T0] w5) := Lib.hid (h)
  clear h H4
  go_wp2_with fail
  refine (treplO 0 H5.out rfl 1 (by decide) (by decide) 5 (by decide +kernel) (T' := T0) (by decide +kernel)).mono ?_
  rintro e w6 ⟨rfl, h⟩
  have H6 : Hid (OSt w [tkOb g T0] w6) := Lib.hid (h)
  clear h H5
  go_wp2_with fail
  refine (taddO 0 H6.out rfl (-1) [] RR.nil (by decide) (by decide) (by decide) (by decide +kernel) 1 (by decide +kernel) (T' := T0) (by decide +kernel)).mono ?_
  rintro e w7 ⟨rfl, h⟩
  have H7 : Hid (OSt w [tkOb g T0] w7) := Lib.hid (h)
  clear h H6
  go_wp2_with fail
  refine (wantO H7.out 0 false).mono ?_
  rintro e w8 ⟨k, rfl, h⟩
  have HA := Lib.hid h
  clear h H7
  go_wp2_with fail
  refine (taddO 1 HA.out rfl 1 [(0, false)] (rwn_row (l := [(0, false)]) (HA.out.get 0 rfl)) (by decide) (by decide) (by decide) (by decide +kernel) 1 (by decide +kernel) (T' := T0) (by decide +kernel)).mono ?_
  rintro e w9 ⟨rfl, h⟩
  have H9 : Hid (OSt w [tkOb g T0] w9) := Lib.hid (h.dropI 0)
  clear h HA
  have HB0 : Hid (OSt w [tkOb g (tkN 0)] w9) := H9
  clear H9
  go_wp2
  go_loopg [8] 17 (fun gg s wr => ∃ k : Nat, k ≤ 16 ∧ 17 - k ≤ gg ∧ s = .int .i64 (k : Int) ∧ Hid (OSt w [tkOb g (tkN k)] wr))
  case atStart => exact ⟨0, by omega, by omega, rfl, HB0⟩
  case round =>
    obtain ⟨k, hk, hg, rfl, H⟩ := hrel
    by_cases hlt : k < 16
    · have hlt' : (k : Int) < 16 := by omega
      obtain ⟨q1, q2, q3⟩ := stepN k hlt
      have K := Lib.hid (taddO 0 H.out rfl (k : Int) [] RR.nil (by decide) (by omega) (by omega) q3 0 q1 q2)
      clear q1 q2 q3
      go_wp2_with fail
      refine K.out.mono ?_
      rintro e wn ⟨rfl, h⟩
      have HN : Hid (OSt w [tkOb g (tkN (k + 1))] wn) := Lib.hid h
      clear h K H
      go_wp2
      go_roundg (17 - (k + 1))
      case measure => omega
      case rel => exact ⟨k + 1, by omega, by omega, by go_num, HN⟩
    · obtain rfl : k = 16 := by omega
      have HL : Hid (OSt w [tkOb g ns9] wr) := Lib.hid (by rw [show ns9 = tkN 16 by decide +kernel]; exact H.out)
      clear H
      go_wp2_with fail
      refine (taddO 0 HL.out rfl 3 [] RR.nil (by decide) (by decide) (by decide) (by decide +kernel) 6 (by decide +kernel) (T' := ns9) (by decide +kernel)).mono ?_
      rintro e w10 ⟨rfl, h⟩
      have H10 : Hid (OSt w [tkOb g ns9] w10) := Lib.hid (h)
      clear h HL
      go_wp2_with fail
      refine (taddO 0 H10.out rfl 16 [] RR.nil (by decide) (by decide) (by decide) (by decide +kernel) 3 (by decide +kernel) (T' := ns9) (by decide +kernel)).mono ?_
      rintro e w11 ⟨rfl, h⟩
      have H11 : Hid (OSt w [tkOb g ns9] w11) := Lib.hid (h)
      clear h H10
      go_wp2_with fail
      refine (treplO 0 H11.out rfl 3 (by decide) (by decide) 50 (by decide +kernel) (T' := ns9) (by decide +kernel)).mono ?_
      rintro e w12 ⟨rfl, h⟩
      have H12 : Hid (OSt w [tkOb g ns9] w12) := Lib.hid (h)
      clear h H11
      go_wp2_with fail
      refine (nextO 0 H12.out rfl (0, 1) (T' := ns10) (by decide +kernel)).mono ?_
      rintro e w13 ⟨rfl, h⟩
      have H13 : Hid (OSt w [tkOb g ns10] w13) := Lib.hid (h)
      clear h H12
      go_wp2_with fail
      refine (nextO 0 H13.out rfl (1, 1) (T' := ns11) (by decide +kernel)).mono ?_
      rintro e w14 ⟨rfl, h⟩
      have H14 : Hid (OSt w [tkOb g ns11] w14) := Lib.hid (h)
      clear h H13
      go_wp2_with fail
      refine (pickedO 0 H14.out rfl (-1) (by decide) (by decide) (15, 1) (T' := ns12) (by decide +kernel)).mono ?_
      rintro e w15 ⟨rfl, h⟩
      have H15 : Hid (OSt w [tkOb g ns12] w15) := Lib.hid (h)
      clear h H14
      go_wp2_with fail
      refine (nextO 0 H15.out rfl (0, 1) (T' := ns10) (by decide +kernel)).mono ?_
      rintro e w16 ⟨rfl, h⟩
      have H16 : Hid (OSt w [tkOb g ns10] w16) := Lib.hid (h)
      clear h H15
      go_wp2_with fail
      refine (pickedO 0 H16.out rfl 20 (by decide) (by decide) (4, 1) (T' := ns13) (by decide +kernel)).mono ?_
      rintro e w17 ⟨rfl, h⟩
      have H17 : Hid (OSt w [tkOb g ns13] w17) := Lib.hid (h)
      clear h H16
      go_wp2_with fail
      refine (tdidO 0 H17.out rfl 2 true (by decide) (by decide) 0 (by decide +kernel) (T' := ns14) (by decide +kernel)).mono ?_
      rintro e w18 ⟨rfl, h⟩
      have H18 : Hid (OSt w [tkOb g ns14] w18) := Lib.hid (h)
      clear h H17
      go_wp2_with fail
      refine (tdidO 0 H18.out rfl 2 true (by decide) (by decide) 50 (by decide +kernel) (T' := ns14) (by decide +kernel)).mono ?_
      rintro e w19 ⟨rfl, h⟩
      have H19 : Hid (OSt w [tkOb g ns14] w19) := Lib.hid (h)
      clear h H18
      go_wp2_with fail
      refine (nextO 0 H19.out rfl (5, 1) (T' := ns15) (by decide +kernel)).mono ?_
      rintro e w20 ⟨rfl, h⟩
      have H20 : Hid (OSt w [tkOb g ns15] w20) := Lib.hid (h)
      clear h H19
      go_wp2_with fail
      refine (pickedO 0 H20.out rfl 14 (by decide) (by decide) (15, 1) (T' := ns16) (by decide +kernel)).mono ?_
      rintro e w21 ⟨rfl, h⟩
      have H21 : Hid (OSt w [tkOb g ns16] w21) := Lib.hid (h)
      clear h H20
      go_wp2_with fail
      refine (nextO 0 H21.out rfl ((-1), 2) (T' := ns17) (by decide +kernel)).mono ?_
      rintro e w22 ⟨rfl, h⟩
      have H22 : Hid (OSt w [tkOb g ns17] w22) := Lib.hid (h)
      clear h H21
      go_wp2_with fail
      refine (nextO 0 H22.out rfl (0, 1) (T' := ns18) (by decide +kernel)).mono ?_
      rintro e w23 ⟨rfl, h⟩
      have H23 : Hid (OSt w [tkOb g ns18] w23) := Lib.hid (h)
      clear h H22
      go_wp2_with fail
      refine (tcopyO 0 H23.out rfl).mono ?_
      rintro e w24 ⟨u, rfl, h⟩
      have H24 : Hid (OSt w [tkOb u ns18, tkOb g ns18] w24) := Lib.hid (h)
      clear h H23
      go_wp2_with fail
      refine (tsync1 1 H24.out rfl [2] (by decide +kernel) (by decide) (T' := ns19) (by decide +kernel)).mono ?_
      rintro e w25 ⟨b, c, junk, rfl, hc, h⟩
      have hA := h.alloc (.cells #[.int .i64 2] 3 (0, 0)) (nz (by decide))
      have X := Lib.hid (ints_t [2] _ (rin_row (c := c) (hA.get 1 rfl) hc) (rin_row (l := [2]) (c := 1) (junk := []) (hA.get 0 rfl) (Nat.le_refl _)) (by decide))
      have HA := Lib.hid hA
      clear hA h H24
      go_wp2_with fail
      refine (X.out).mono ?_
      rintro e w26 ⟨rfl, h⟩
      have H26 : Hid (OSt w [tkOb u ns18, tkOb g ns19] w26) := Lib.hid (((HA.out.ext h).dropI 0).dropI 0)
      clear h HA
      clear X hc
      go_wp2_with fail
      refine (nextO 1 H26.out rfl (1, 1) (T' := ns20) (by decide +kernel)).mono ?_
      rintro e w27 ⟨rfl, h⟩
      have H27 : Hid (OSt w [tkOb u ns18, tkOb g ns20] w27) := Lib.hid (h)
      clear h H26
      go_wp2_with fail
      refine (nextO 1 H27.out rfl (2, 3) (T' := ns21) (by decide +kernel)).mono ?_
      rintro e w28 ⟨rfl, h⟩
      have H28 : Hid (OSt w [tkOb u ns18, tkOb g ns21] w28) := Lib.hid (h)
      clear h H27
      go_wp2_with fail
      refine (treplO 1 H28.out rfl 2 (by decide) (by decide) 0 (by decide +kernel) (T' := ns22) (by decide +kernel)).mono ?_
      rintro e w29 ⟨rfl, h⟩
      have H29 : Hid (OSt w [tkOb u ns18, tkOb g ns22] w29) := Lib.hid (h)
      clear h H28
      go_wp2_with fail
      refine (taddO 1 H29.out rfl 2 [] RR.nil (by decide) (by decide) (by decide) (by decide +kernel) 0 (by decide +kernel) (T' := ns23) (by decide +kernel)).mono ?_
      rintro e w30 ⟨rfl, h⟩
      have H30 : Hid (OSt w [tkOb u ns18, tkOb g ns23] w30) := Lib.hid (h)
      clear h H29
      go_wp2_with fail
      refine (nextO 1 H30.out rfl (3, 1) (T' := ns24) (by decide +kernel)).mono ?_
      rintro e w31 ⟨rfl, h⟩
      have H31 : Hid (OSt w [tkOb u ns18, tkOb g ns24] w31) := Lib.hid (h)
      clear h H30
      go_wp2_with fail
      refine (pickedO 1 H31.out rfl 15 (by decide) (by decide) (2, 1) (T' := ns25) (by decide +kernel)).mono ?_
      rintro e w32 ⟨rfl, h⟩
      have H32 : Hid (OSt w [tkOb u ns18, tkOb g ns25] w32) := Lib.hid (h)
      clear h H31
      go_wp2_with fail
      refine (nextO 1 H32.out rfl (0, 1) (T' := ns26) (by decide +kernel)).mono ?_
      rintro e w33 ⟨rfl, h⟩
      have H33 : Hid (OSt w [tkOb u ns18, tkOb g ns26] w33) := Lib.hid (h)
      clear h H32
      go_wp2_with fail
      refine (trowK 1 H33.out rfl [0, 1, 3, 4, 5, 6, 7, 8, 9, 10, 11, 12, 13, 14, 15, 2] (by decide +kernel) 16 (by decide) (by decide)).mono ?_
      rintro e w34 ⟨b1, c1, junk, rfl, hc, h⟩
      have H34 : Hid (OSt w [tkOb u ns18, tkOb g ns26] w34) := Lib.hid (h.dropI 0)
      clear h H33
      clear hc
      go_wp2_with fail
      refine (trowK 1 H34.out rfl [0, 1, 3, 4, 5, 6, 7, 8, 9, 10, 11, 12, 13, 14, 15, 2] (by decide +kernel) 16 (by decide) (by decide)).mono ?_
      rintro e w35 ⟨b2, c2, junk, rfl, hc, h⟩
      have rc2 := in_cell (h.get 0 rfl) (j := 15) (n := 2) (by rfl)
      have rl2 := heap_lt (h.get 0 rfl)
      have H35 : Hid (OSt w [tkOb u ns18, tkOb g ns26] w35) := Lib.hid (h.dropI 0)
      clear h H34
      go_wp2_with fail
      refine (trowK 0 H35.out rfl [0, 1, 2, 3, 4, 5, 6, 7, 8, 9, 10, 11, 12, 13, 14, 15] (by decide +kernel) 16 (by decide) (by decide)).mono ?_
      rintro e w36 ⟨b3, c3, junk, rfl, hc, h⟩
      have rc3 := in_cell (h.get 0 rfl) (j := 2) (n := 2) (by rfl)
      have rl3 := heap_lt (h.get 0 rfl)
      have H36 : Hid (OSt w [tkOb u ns18, tkOb g ns26] w36) := Lib.hid (h.dropI 0)
      clear h H35
      go_wp2_with fail
      refine (nextO 0 H36.out rfl (1, 1) (T' := ns27) (by decide +kernel)).mono ?_
      rintro e w37 ⟨rfl, h⟩
      have H37 : Hid (OSt w [tkOb u ns27, tkOb g ns26] w37) := Lib.hid (h)
      clear h H36
      go_wp2_with fail
      refine (nextO 0 H37.out rfl (3, 1) (T' := ns28) (by decide +kernel)).mono ?_
      rintro e w38 ⟨rfl, h⟩
      have H38 : Hid (OSt w [tkOb u ns28, tkOb g ns26] w38) := Lib.hid (h)
      clear h H37
      go_wp2_with fail
      refine (tclearO 1 H38.out rfl (T' := ns29) (by decide +kernel)).mono ?_
      rintro e w39 ⟨rfl, h⟩
      have H39 : Hid (OSt w [tkOb u ns28, tkOb g ns29] w39) := Lib.hid (h)
      clear h H38
      go_wp2_with fail
      refine (tcanO 1 H39.out rfl [] (by decide +kernel)).mono ?_
      rintro e w40 ⟨v, rfl, ho, h⟩
      obtain ⟨A39, c39, rfl⟩ := ho.form
      clear ho
      have H40 : Hid (OSt w [tkOb u ns28, tkOb g ns29] w40) := Lib.hid (H39.out.ext h)
      clear h H39
      go_wp2_with fail
      refine (trowO 1 H40.out rfl [] (by decide +kernel)).mono ?_
      rintro e w41 ⟨v, rfl, ho, h⟩
      obtain ⟨A40, c40, rfl⟩ := ho.form
      clear ho
      have H41 : Hid (OSt w [tkOb u ns28, tkOb g ns29] w41) := Lib.hid (H40.out.ext h)
      clear h H40
      go_wp2_with fail
      refine (wantO H41.out 1 true).mono ?_
      rintro e w42 ⟨k, rfl, h⟩
      have HA := Lib.hid h
      clear h H41
      go_wp2_with fail
      refine (taddO 2 HA.out rfl 5 [(1, true)] (rwn_row (l := [(1, true)]) (HA.out.get 0 rfl)) (by decide) (by decide) (by decide) (by decide +kernel) 0 (by decide +kernel) (T' := ns30) (by decide +kernel)).mono ?_
      rintro e w43 ⟨rfl, h⟩
      have H43 : Hid (OSt w [tkOb u ns28, tkOb g ns30] w43) := Lib.hid (h.dropI 0)
      clear h HA
      go_wp2_with fail
      refine (wantO H43.out 1 false).mono ?_
      rintro e w44 ⟨k, rfl, h⟩
      have HA := Lib.hid h
      clear h H43
      go_wp2_with fail
      refine (taddO 2 HA.out rfl 6 [(1, false)] (rwn_row (l := [(1, false)]) (HA.out.get 0 rfl)) (by decide) (by decide) (by decide) (by decide +kernel) 0 (by decide +kernel) (T' := ns31) (by decide +kernel)).mono ?_
      rintro e w45 ⟨rfl, h⟩
      have H45 : Hid (OSt w [tkOb u ns28, tkOb g ns31] w45) := Lib.hid (h.dropI 0)
      clear h HA
      go_wp2_with fail
      refine (tdidO 1 H45.out rfl 6 false (by decide) (by decide) 50 (by decide +kernel) (T' := ns31) (by decide +kernel)).mono ?_
      rintro e w46 ⟨rfl, h⟩
      have H46 : Hid (OSt w [tkOb u ns28, tkOb g ns31] w46) := Lib.hid (h)
      clear h H45
      go_wp2_with fail
      refine (nextO 1 H46.out rfl (5, 1) (T' := ns32) (by decide +kernel)).mono ?_
      rintro e w47 ⟨rfl, h⟩
      have H47 : Hid (OSt w [tkOb u ns28, tkOb g ns32] w47) := Lib.hid (h)
      clear h H46
      go_wp2_with fail
      refine (tdidO 1 H47.out rfl 5 false (by decide) (by decide) 0 (by decide +kernel) (T' := ns33) (by decide +kernel)).mono ?_
      rintro e w48 ⟨rfl, h⟩
      have H48 : Hid (OSt w [tkOb u ns28, tkOb g ns33] w48) := Lib.hid (h)
      clear h H47
      go_wp2_with fail
      refine (tdidO 1 H48.out rfl 6 false (by decide) (by decide) 50 (by decide +kernel) (T' := ns33) (by decide +kernel)).mono ?_
      rintro e w49 ⟨rfl, h⟩
      have H49 : Hid (OSt w [tkOb u ns28, tkOb g ns33] w49) := Lib.hid (h)
      clear h H48
      go_wp2_with fail
      refine (treplO 1 H49.out rfl 5 (by decide) (by decide) 0 (by decide +kernel) (T' := ns34) (by decide +kernel)).mono ?_
      rintro e w50 ⟨rfl, h⟩
      have H50 : Hid (OSt w [tkOb u ns28, tkOb g ns34] w50) := Lib.hid (h)
      clear h H49
      have hA := H50.out.alloc (.cells #[.int .i64 6, .int .i64 1] 3 (0, 0)) (nz (by decide))
      have X := Lib.hid (canLaw_t 2 hA rfl [(6, 1)] (by decide +kernel) (rin_row (l := flat2 [(6, 1)]) (c := 2) (junk := []) (hA.get 0 rfl) (by decide)) (by decide) (by decide))
      have HA := Lib.hid hA
      clear hA H50
      go_wp2_with fail
      refine (X.out).mono ?_
      rintro e w51 ⟨rfl, h⟩
      have H51 : Hid (OSt w [tkOb u ns28, tkOb g ns34] w51) := Lib.hid ((HA.out.ext h).dropI 0)
      clear h HA
      clear X
      go_wp2_with fail
      refine (tclear_nil _).mono ?_
      rintro e w52 ⟨rfl, h⟩
      have H52 : Hid (OSt w [tkOb u ns28, tkOb g ns34] w52) := Lib.hid (H51.out.ext h)
      clear h H51
      go_wp2_with fail
      refine (tpick_nil 0 _).mono ?_
      rintro e w53 ⟨rfl, h⟩
      have H53 : Hid (OSt w [tkOb u ns28, tkOb g ns34] (w53.alloc (.cells #[.int .i64 0, .int .u8 0] 64))) := Lib.hid ((H52.out.ext h).ext (extAl _ _))
      clear h H52
      go_wp2_with fail
      refine (tnext_nil _).mono ?_
      rintro e w54 ⟨rfl, h⟩
      have H54 : Hid (OSt w [tkOb u ns28, tkOb g ns34] (w54.alloc (.cells #[.int .i64 0, .int .u8 0] 64))) := Lib.hid ((H53.out.ext h).ext (extAl _ _))
      clear h H53
      go_wp2_with fail
      refine (tsync_nil _).mono ?_
      rintro e w55 ⟨rfl, h⟩
      have H55 : Hid (OSt w [tkOb u ns28, tkOb g ns34] w55) := Lib.hid (H54.out.ext h)
      clear h H54
      go_wp2_with fail
      refine (tadd_nil 0 _ _).mono ?_
      rintro e w56 ⟨rfl, h⟩
      have H56 : Hid (OSt w [tkOb u ns28, tkOb g ns34] w56) := Lib.hid (H55.out.ext h)
      clear h H55
      go_wp2_with fail
      refine (tdid_nil 0 false _).mono ?_
      rintro e w57 ⟨rfl, h⟩
      have H57 : Hid (OSt w [tkOb u ns28, tkOb g ns34] w57) := Lib.hid (H56.out.ext h)
      clear h H56
      go_wp2_with fail
      refine (trep_nil 0 _).mono ?_
      rintro e w58 ⟨rfl, h⟩
      have H58 : Hid (OSt w [tkOb u ns28, tkOb g ns34] w58) := Lib.hid (H57.out.ext h)
      clear h H57
      go_wp2_with fail
      refine (tcan_nil _).mono ?_
      rintro e w59 ⟨rfl, h⟩
      have H59 : Hid (OSt w [tkOb u ns28, tkOb g ns34] w59) := Lib.hid (H58.out.ext h)
      clear h H58
      go_wp2_with fail
      refine (trow_nil _).mono ?_
      rintro e w60 ⟨rfl, h⟩
      have H60 : Hid (OSt w [tkOb u ns28, tkOb g ns34] w60) := Lib.hid (H59.out.ext h)
      clear h H59
      go_wp2_with fail
      refine (tcopy_nil _).mono ?_
      rintro e w61 ⟨rfl, h⟩
      have H61 : Hid (OSt w [tkOb u ns28, tkOb g ns34] w61) := Lib.hid (H60.out.ext h)
      clear h H60
      have HF := Lib.hid H61.out.bel
      clear H61
      go_wp2
      go_ret
      exact ⟨rfl, HF.out⟩
theorem own : ownKnob Try.prog.godebug = none := by kernel_rfl
theorem laidOut : laidOutB Try.prog = true := by kernel_rfl

set_option maxRecDepth 100000 in
theorem lifted (os : Os) (started : os.Started) (H : Type) (enc : TypeId × Value → H) :
    ReturnsInHanded {} Try.checked os 8 .any (Rows.tasksNamesSpec.pre6 enc Try.prog Try.f8 Rows.tasksNamesRow.domain false) (Rows.tasksNamesSpec.post enc Try.prog Try.f8 false true false false) := by
  refine returnsInHanded_of_change (C := Try.checked) own started (by kernel_rfl) Try.func8
    (ChangeSpec.witness6 (enc := enc) (C := Try.checked) false ⟨#[], #[], []⟩ 8 (by kernel_rfl) (by kernel_rfl) (by kernel_rfl) (by kernel_rfl)) ?_
  intro W base args ds gs before hval0 hW hcnd _
  have hval : ∀ (j : Nat) t v, Try.f8.params[j]? = some t → args[j]? = some v → Value.okWide Try.prog W .any base t v := hval0
  have hW' := hW
  obtain ⟨p, q, hA0, hV, rfl, hfz, hnd⟩ := hW
  have hA : DataW.TrodAll enc Try.prog W 0 (fun _ => true) true Try.f8.params.toList args.toList ds p := hA0
  rw [Try.params8] at hA hval
  obtain ⟨rfl, rfl, rfl⟩ := trodAll_none hA
  obtain ⟨rfl, rfl⟩ := trodVars_none hV
  refine (walk  W).mono fun e W' ⟨he, bel⟩ => ?_
  subst he
  exact ⟨_, rfl, _, _, _, [], _, [], hW', trodAll_mk1 (shut_bool Try.underlying4 _), trodAll_mk0, rfl, bel.frame _, fun h => by cases h⟩

theorem proved : Rows.TasksNamesSaid :=
  OpenClaim.holds_of_wide 8 Try.f8 rfl rfl rfl rfl rfl rfl rfl ⟨rfl, rfl, rfl, rfl, rfl⟩ rfl rfl rfl rfl rfl (by kernel_rfl) Try.func8 (by kernel_rfl)
    (of_decide_eq_true (by kernel_rfl)) (by unfold Func.isWrapper; first | (rw [if_pos (by decide +kernel)]; kernel_rfl) | (rw [if_neg (by decide +kernel)]; exact ⟨rfl, rfl⟩))
    (fun os started H enc _ => lifted os started H enc)
end Go.Proofs.Ytiihlbaajopllaa.tasksNames
