/- Proved: CallNames returns true. Closed; no condition. -/
import Derived.Test.YtaccjneglaomhaaCallW
import Derived.Test.YtaccjneglaomhaaCallK
import Derived.Test.YtaccjneglaomhaaLiftB
set_option linter.unusedVariables false
set_option maxRecDepth 100000
namespace Go.Proofs.Ytaccjneglaomhaa.callNames
open Go.RowKit Go.ChangeShapes Go.WideShapes Go.ChangeAt Go.Deep Go.Proofs.Ytaccjneglaomhaa
attribute [local go_sem ↓] eql_chead neq_chead

theorem lmany_any (n : Nat) (w : World) (h : n ≤ 100000) : Calls Try.prog 59 #[.int .i64 n] w fun e w' => e = .returned (.string (str (zs n))) ∧ Ext w w' := by
  have mk := mkR w n n (by omega) (Nat.le_refl _)
  have hrs : RS (w.alloc (.cells (bvs (List.replicate n 0)).toArray 5)) (.slice (some ⟨w.heap.size, 0, none⟩) n n) (zs n) := by
    have := rs_block (w := w.alloc (.cells (bvs (List.replicate n 0)).toArray 5)) (c := n) (m := List.replicate n 0) (off := 0) (l := zs n) (heap_alloc_last w _) (by simp [zs]) (by rw [zs_length]; omega)
    rwa [zs_length] at this
  have cv := hrs.cv
  go_enter Try.func59, Try.ntmps59
  go_wp2
  go_ret
  exact ⟨rfl, ext_alloc w _⟩
theorem vs_one {w : World} {g : Nat} {q : Int} {T : TypeId} (h : w.heap[g]? = some (.cells #[.int .i64 q] T (0, 0))) : VS w (.slice (some ⟨g, 0, none⟩) 1 1) ([q].map (Value.int .i64)) := by
  refine .inr ⟨g, 0, 1, rfl, (Array.getElem?_eq_some_iff.1 h).1, by simp, fun j hj => ?_⟩
  obtain rfl : j = 0 := by simpa using hj
  rw [cell_of_row _ _ _ _ _ _ h]; rfl
/-- A row of the first list. -/
structure Row1 (w : World) (g n : Nat) (c x p : Int) (l : List UInt8) (e : Int) : Prop where
  h0 : w.cell? ⟨g, n * 5, none⟩ = some (.int .i64 c)
  h1 : w.cell? ⟨g, n * 5 + 1, none⟩ = some (.int .i64 x)
  h2 : w.cell? ⟨g, n * 5 + 2, none⟩ = some (.int .i64 p)
  h3 : w.cell? ⟨g, n * 5 + 3, none⟩ = some (.string (str l))
  h4 : w.cell? ⟨g, n * 5 + 4, none⟩ = some (.int .i64 e)
  he : (cW c x p l).2 = e
  hl : e = 0 → (cW c x p l).1.length = 24 + l.length
  hb : l.length ≤ 20000
theorem rows1 {w : World} {g n : Nat} {T : TypeId} {A B C : List UInt8} (hA : A = zs 4072) (hB : B = zs 4076) (hC : C = zs 4075)
    (hg : w.heap[g]? = some (.cells #[.int .i64 16, .int .i64 4294967295, .int .i64 4294967295, .string (str A), .int .i64 0, .int .i64 1, .int .i64 0, .int .i64 0, .string (str B), .int .i64 40, .int .i64 1, .int .i64 0, .int .i64 0, .string (str C), .int .i64 1, .int .i64 0, .int .i64 0, .int .i64 0, .string ⟨#[]⟩, .int .i64 1, .int .i64 17, .int .i64 0, .int .i64 0, .string ⟨#[]⟩, .int .i64 1, .int .i64 1, .int .i64 (-1), .int .i64 0, .string ⟨#[]⟩, .int .i64 1, .int .i64 1, .int .i64 4294967296, .int .i64 0, .string ⟨#[]⟩, .int .i64 1, .int .i64 1, .int .i64 0, .int .i64 (-1), .string ⟨#[]⟩, .int .i64 1, .int .i64 1, .int .i64 0, .int .i64 4294967296, .string ⟨#[]⟩, .int .i64 1] T (0, 0))) (hn : n < 9) : ∃ c x p l e, Row1 w g n c x p l e := by
  have hn9 : n = 0 ∨ n = 1 ∨ n = 2 ∨ n = 3 ∨ n = 4 ∨ n = 5 ∨ n = 6 ∨ n = 7 ∨ n = 8 := by omega
  rcases hn9 with rfl | rfl | rfl | rfl | rfl | rfl | rfl | rfl | rfl
  · exact ⟨16, 4294967295, 4294967295, A, 0, by rw [cell_of_row _ _ _ _ _ _ hg]; rfl, by rw [cell_of_row _ _ _ _ _ _ hg]; rfl, by rw [cell_of_row _ _ _ _ _ _ hg]; rfl, by rw [cell_of_row _ _ _ _ _ _ hg]; rfl, by rw [cell_of_row _ _ _ _ _ _ hg]; rfl, by subst hA; decide +kernel, fun _ => by subst hA; decide +kernel, by rw [hA, zs_length]; omega⟩
  · exact ⟨1, 0, 0, B, 40, by rw [cell_of_row _ _ _ _ _ _ hg]; rfl, by rw [cell_of_row _ _ _ _ _ _ hg]; rfl, by rw [cell_of_row _ _ _ _ _ _ hg]; rfl, by rw [cell_of_row _ _ _ _ _ _ hg]; rfl, by rw [cell_of_row _ _ _ _ _ _ hg]; rfl, by subst hB; decide +kernel, fun h => absurd h (by decide), by rw [hB, zs_length]; omega⟩
  · exact ⟨1, 0, 0, C, 1, by rw [cell_of_row _ _ _ _ _ _ hg]; rfl, by rw [cell_of_row _ _ _ _ _ _ hg]; rfl, by rw [cell_of_row _ _ _ _ _ _ hg]; rfl, by rw [cell_of_row _ _ _ _ _ _ hg]; rfl, by rw [cell_of_row _ _ _ _ _ _ hg]; rfl, by subst hC; decide +kernel, fun h => absurd h (by decide), by rw [hC, zs_length]; omega⟩
  · exact ⟨0, 0, 0, [], 1, by rw [cell_of_row _ _ _ _ _ _ hg]; rfl, by rw [cell_of_row _ _ _ _ _ _ hg]; rfl, by rw [cell_of_row _ _ _ _ _ _ hg]; rfl, by rw [cell_of_row _ _ _ _ _ _ hg]; rfl, by rw [cell_of_row _ _ _ _ _ _ hg]; rfl, by decide +kernel, fun h => absurd h (by decide), by simp⟩
  · exact ⟨17, 0, 0, [], 1, by rw [cell_of_row _ _ _ _ _ _ hg]; rfl, by rw [cell_of_row _ _ _ _ _ _ hg]; rfl, by rw [cell_of_row _ _ _ _ _ _ hg]; rfl, by rw [cell_of_row _ _ _ _ _ _ hg]; rfl, by rw [cell_of_row _ _ _ _ _ _ hg]; rfl, by decide +kernel, fun h => absurd h (by decide), by simp⟩
  · exact ⟨1, -1, 0, [], 1, by rw [cell_of_row _ _ _ _ _ _ hg]; rfl, by rw [cell_of_row _ _ _ _ _ _ hg]; rfl, by rw [cell_of_row _ _ _ _ _ _ hg]; rfl, by rw [cell_of_row _ _ _ _ _ _ hg]; rfl, by rw [cell_of_row _ _ _ _ _ _ hg]; rfl, by decide +kernel, fun h => absurd h (by decide), by simp⟩
  · exact ⟨1, 4294967296, 0, [], 1, by rw [cell_of_row _ _ _ _ _ _ hg]; rfl, by rw [cell_of_row _ _ _ _ _ _ hg]; rfl, by rw [cell_of_row _ _ _ _ _ _ hg]; rfl, by rw [cell_of_row _ _ _ _ _ _ hg]; rfl, by rw [cell_of_row _ _ _ _ _ _ hg]; rfl, by decide +kernel, fun h => absurd h (by decide), by simp⟩
  · exact ⟨1, 0, -1, [], 1, by rw [cell_of_row _ _ _ _ _ _ hg]; rfl, by rw [cell_of_row _ _ _ _ _ _ hg]; rfl, by rw [cell_of_row _ _ _ _ _ _ hg]; rfl, by rw [cell_of_row _ _ _ _ _ _ hg]; rfl, by rw [cell_of_row _ _ _ _ _ _ hg]; rfl, by decide +kernel, fun h => absurd h (by decide), by simp⟩
  · exact ⟨1, 0, 4294967296, [], 1, by rw [cell_of_row _ _ _ _ _ _ hg]; rfl, by rw [cell_of_row _ _ _ _ _ _ hg]; rfl, by rw [cell_of_row _ _ _ _ _ _ hg]; rfl, by rw [cell_of_row _ _ _ _ _ _ hg]; rfl, by rw [cell_of_row _ _ _ _ _ _ hg]; rfl, by decide +kernel, fun h => absurd h (by decide), by simp⟩
/-- A row of the second list. -/
structure Row2 (w : World) (g n : Nat) (s : List UInt8) (e : Int) : Prop where
  h0 : w.cell? ⟨g, n * 2, none⟩ = some (.string (str s))
  h1 : w.cell? ⟨g, n * 2 + 1, none⟩ = some (.int .i64 e)
  he : (cR s).2 = e
  hb : s.length ≤ 20000
theorem rows2 {w : World} {g n : Nat} {T : TypeId} {A B : List UInt8} (hA : A = zs 4072) (hB : B = zs 4076)
    (hg : w.heap[g]? = some (.cells #[.string (str (0 :: 0 :: 0 :: 7 :: 0 :: 0 :: 0 :: 0 :: 0 :: 0 :: 1 :: 28 :: 0 :: 0 :: 0 :: 3 :: 0 :: 0 :: 0 :: 1 :: 0 :: 0 :: 0 :: 18 :: A)), .int .i64 0, .string (str (0 :: 0 :: 0 :: 7 :: 0 :: 0 :: 0 :: 0 :: 0 :: 0 :: 1 :: 28 :: 0 :: 0 :: 0 :: 3 :: 0 :: 0 :: 0 :: 1 :: 0 :: 0 :: 0 :: 18 :: B)), .int .i64 4, .string (str (0 :: 0 :: 0 :: 7 :: 0 :: 0 :: 0 :: 0 :: 0 :: 0 :: 1 :: 28 :: 0 :: 0 :: 0 :: 3 :: 0 :: 0 :: 0 :: 1 :: 0 :: 0 :: 0 :: 18 :: zs 2)), .int .i64 4, .string (str [0, 0, 0, 7, 0, 0, 0, 0, 0, 0, 1, 28, 0, 0, 0, 3, 0, 0, 0, 1]), .int .i64 4, .string ⟨#[]⟩, .int .i64 4, .string (str [0, 0, 0, 7, 0, 0, 0, 1, 0, 0, 1, 28, 0, 0, 0, 3, 0, 0, 0, 1, 0, 0, 0, 1]), .int .i64 4, .string (str [0, 0, 0, 7, 0, 0, 0, 0, 0, 0, 0, 1, 0, 0, 0, 3, 0, 0, 0, 0, 0, 0, 0, 1]), .int .i64 4, .string (str [0, 0, 0, 7, 0, 0, 0, 0, 0, 0, 1, 28, 0, 0, 0, 2, 0, 0, 0, 1, 0, 0, 0, 99]), .int .i64 63, .string (str [0, 0, 0, 7, 0, 0, 0, 0, 0, 0, 1, 28, 0, 0, 0, 3, 0, 0, 0, 1, 255, 255, 255, 255]), .int .i64 62] T (0, 0))) (hn : n < 9) : ∃ s e, Row2 w g n s e := by
  have hn9 : n = 0 ∨ n = 1 ∨ n = 2 ∨ n = 3 ∨ n = 4 ∨ n = 5 ∨ n = 6 ∨ n = 7 ∨ n = 8 := by omega
  rcases hn9 with rfl | rfl | rfl | rfl | rfl | rfl | rfl | rfl | rfl
  · exact ⟨(0 :: 0 :: 0 :: 7 :: 0 :: 0 :: 0 :: 0 :: 0 :: 0 :: 1 :: 28 :: 0 :: 0 :: 0 :: 3 :: 0 :: 0 :: 0 :: 1 :: 0 :: 0 :: 0 :: 18 :: A), 0, by rw [cell_of_row _ _ _ _ _ _ hg]; rfl, by rw [cell_of_row _ _ _ _ _ _ hg]; rfl, by subst hA; decide +kernel, by simp only [List.length_cons, hA, zs_length]; omega⟩
  · exact ⟨(0 :: 0 :: 0 :: 7 :: 0 :: 0 :: 0 :: 0 :: 0 :: 0 :: 1 :: 28 :: 0 :: 0 :: 0 :: 3 :: 0 :: 0 :: 0 :: 1 :: 0 :: 0 :: 0 :: 18 :: B), 4, by rw [cell_of_row _ _ _ _ _ _ hg]; rfl, by rw [cell_of_row _ _ _ _ _ _ hg]; rfl, by subst hB; decide +kernel, by simp only [List.length_cons, hB, zs_length]; omega⟩
  · exact ⟨(0 :: 0 :: 0 :: 7 :: 0 :: 0 :: 0 :: 0 :: 0 :: 0 :: 1 :: 28 :: 0 :: 0 :: 0 :: 3 :: 0 :: 0 :: 0 :: 1 :: 0 :: 0 :: 0 :: 18 :: zs 2), 4, by rw [cell_of_row _ _ _ _ _ _ hg]; rfl, by rw [cell_of_row _ _ _ _ _ _ hg]; rfl, by decide +kernel, by simp only [List.length_cons, zs_length]; omega⟩
  · exact ⟨[0, 0, 0, 7, 0, 0, 0, 0, 0, 0, 1, 28, 0, 0, 0, 3, 0, 0, 0, 1], 4, by rw [cell_of_row _ _ _ _ _ _ hg]; rfl, by rw [cell_of_row _ _ _ _ _ _ hg]; rfl, by decide +kernel, by simp⟩
  · exact ⟨[], 4, by rw [cell_of_row _ _ _ _ _ _ hg]; rfl, by rw [cell_of_row _ _ _ _ _ _ hg]; rfl, by decide +kernel, by simp⟩
  · exact ⟨[0, 0, 0, 7, 0, 0, 0, 1, 0, 0, 1, 28, 0, 0, 0, 3, 0, 0, 0, 1, 0, 0, 0, 1], 4, by rw [cell_of_row _ _ _ _ _ _ hg]; rfl, by rw [cell_of_row _ _ _ _ _ _ hg]; rfl, by decide +kernel, by simp⟩
  · exact ⟨[0, 0, 0, 7, 0, 0, 0, 0, 0, 0, 0, 1, 0, 0, 0, 3, 0, 0, 0, 0, 0, 0, 0, 1], 4, by rw [cell_of_row _ _ _ _ _ _ hg]; rfl, by rw [cell_of_row _ _ _ _ _ _ hg]; rfl, by decide +kernel, by simp⟩
  · exact ⟨[0, 0, 0, 7, 0, 0, 0, 0, 0, 0, 1, 28, 0, 0, 0, 2, 0, 0, 0, 1, 0, 0, 0, 99], 63, by rw [cell_of_row _ _ _ _ _ _ hg]; rfl, by rw [cell_of_row _ _ _ _ _ _ hg]; rfl, by decide +kernel, by simp⟩
  · exact ⟨[0, 0, 0, 7, 0, 0, 0, 0, 0, 0, 1, 28, 0, 0, 0, 3, 0, 0, 0, 1, 255, 255, 255, 255], 62, by rw [cell_of_row _ _ _ _ _ _ hg]; rfl, by rw [cell_of_row _ _ _ _ _ _ hg]; rfl, by decide +kernel, by simp⟩

set_option maxHeartbeats 16000000 in
theorem walk (w : World) : Calls Try.prog 10 #[] w fun e w' => e = .returned (.bool true) ∧ Below w.heap.size w w' := by
  obtain ⟨A, hA⟩ : ∃ A, A = zs 4072 := ⟨_, rfl⟩
  obtain ⟨B, hB⟩ : ∃ B, B = zs 4076 := ⟨_, rfl⟩
  obtain ⟨C, hC⟩ : ∃ C, C = zs 4075 := ⟨_, rfl⟩
  have km1 := fun w => lmany_any 4072 w (by omega)
  have km2 := fun w => lmany_any 4076 w (by omega)
  have km3 := fun w => lmany_any 4075 w (by omega)
  rw [← hA] at km1
  rw [← hB] at km2
  rw [← hC] at km3
  have lA : A.length = 4072 := by rw [hA, zs_length]
  have lB : B.length = 4076 := by rw [hB, zs_length]
  have KM1 := Lib.hid km1
  have KM2 := Lib.hid km2
  have KM3 := Lib.hid km3
  have HA := Lib.hid hA
  have HB := Lib.hid hB
  have HC := Lib.hid hC
  clear km1 km2 km3 hA hB hC
  go_enter Try.func10, Try.ntmps10
  go_wp2_with (go_at_call 56; refine (works03_any _).mono ?_; rintro e w0 ⟨rfl, hb0⟩; have hz0 := hb0.size; (try simp only [World.size_alloc] at hz0))
  refine (KM1.out _).mono ?_
  rintro e w1 ⟨rfl, k1⟩
  have X1 : Ext w w1 := Ext.trans hb0 k1
  clear hb0 hz0 k1
  go_wp2_with fail
  refine (KM2.out _).mono ?_
  rintro e w2 ⟨rfl, k2⟩
  have X2 : Ext w w2 := Ext.trans X1 k2
  clear X1 k2
  go_wp2_with fail
  refine (KM3.out _).mono ?_
  rintro e w3 ⟨rfl, k3⟩
  have X3 : Ext w w3 := Ext.trans X2 k3
  clear X2 k3
  go_wp2_with fail
  have G1 := Lib.hid (heap_alloc_last w3 (.cells #[.int .i64 16, .int .i64 4294967295, .int .i64 4294967295, .string (str A), .int .i64 0, .int .i64 1, .int .i64 0, .int .i64 0, .string (str B), .int .i64 40, .int .i64 1, .int .i64 0, .int .i64 0, .string (str C), .int .i64 1, .int .i64 0, .int .i64 0, .int .i64 0, .string ⟨#[]⟩, .int .i64 1, .int .i64 17, .int .i64 0, .int .i64 0, .string ⟨#[]⟩, .int .i64 1, .int .i64 1, .int .i64 (-1), .int .i64 0, .string ⟨#[]⟩, .int .i64 1, .int .i64 1, .int .i64 4294967296, .int .i64 0, .string ⟨#[]⟩, .int .i64 1, .int .i64 1, .int .i64 0, .int .i64 (-1), .string ⟨#[]⟩, .int .i64 1, .int .i64 1, .int .i64 0, .int .i64 4294967296, .string ⟨#[]⟩, .int .i64 1] 77))
  have X4 : Ext w (w3.alloc (.cells #[.int .i64 16, .int .i64 4294967295, .int .i64 4294967295, .string (str A), .int .i64 0, .int .i64 1, .int .i64 0, .int .i64 0, .string (str B), .int .i64 40, .int .i64 1, .int .i64 0, .int .i64 0, .string (str C), .int .i64 1, .int .i64 0, .int .i64 0, .int .i64 0, .string ⟨#[]⟩, .int .i64 1, .int .i64 17, .int .i64 0, .int .i64 0, .string ⟨#[]⟩, .int .i64 1, .int .i64 1, .int .i64 (-1), .int .i64 0, .string ⟨#[]⟩, .int .i64 1, .int .i64 1, .int .i64 4294967296, .int .i64 0, .string ⟨#[]⟩, .int .i64 1, .int .i64 1, .int .i64 0, .int .i64 (-1), .string ⟨#[]⟩, .int .i64 1, .int .i64 1, .int .i64 0, .int .i64 4294967296, .string ⟨#[]⟩, .int .i64 1] 77)) := Ext.trans X3 (ext_alloc w3 _)
  generalize w3.alloc (.cells #[.int .i64 16, .int .i64 4294967295, .int .i64 4294967295, .string (str A), .int .i64 0, .int .i64 1, .int .i64 0, .int .i64 0, .string (str B), .int .i64 40, .int .i64 1, .int .i64 0, .int .i64 0, .string (str C), .int .i64 1, .int .i64 0, .int .i64 0, .int .i64 0, .string ⟨#[]⟩, .int .i64 1, .int .i64 17, .int .i64 0, .int .i64 0, .string ⟨#[]⟩, .int .i64 1, .int .i64 1, .int .i64 (-1), .int .i64 0, .string ⟨#[]⟩, .int .i64 1, .int .i64 1, .int .i64 4294967296, .int .i64 0, .string ⟨#[]⟩, .int .i64 1, .int .i64 1, .int .i64 0, .int .i64 (-1), .string ⟨#[]⟩, .int .i64 1, .int .i64 1, .int .i64 0, .int .i64 4294967296, .string ⟨#[]⟩, .int .i64 1] 77) = V1 at *
  generalize w3.heap.size = g1 at *
  go_loopw [78] (fun c wr => ∃ n : Nat, n ≤ 9 ∧ c = .int .i64 n ∧ Hid (wr.heap[g1]? = some (.cells #[.int .i64 16, .int .i64 4294967295, .int .i64 4294967295, .string (str A), .int .i64 0, .int .i64 1, .int .i64 0, .int .i64 0, .string (str B), .int .i64 40, .int .i64 1, .int .i64 0, .int .i64 0, .string (str C), .int .i64 1, .int .i64 0, .int .i64 0, .int .i64 0, .string ⟨#[]⟩, .int .i64 1, .int .i64 17, .int .i64 0, .int .i64 0, .string ⟨#[]⟩, .int .i64 1, .int .i64 1, .int .i64 (-1), .int .i64 0, .string ⟨#[]⟩, .int .i64 1, .int .i64 1, .int .i64 4294967296, .int .i64 0, .string ⟨#[]⟩, .int .i64 1, .int .i64 1, .int .i64 0, .int .i64 (-1), .string ⟨#[]⟩, .int .i64 1, .int .i64 1, .int .i64 0, .int .i64 4294967296, .string ⟨#[]⟩, .int .i64 1] 77 (0, 0))) ∧ Hid (Ext w wr)) (fun c _ => 9 - (intOf c).toNat)
  case atStart => exact ⟨0, by omega, rfl, G1, Lib.hid X4⟩
  case round =>
    obtain ⟨n, hn, rfl, Hg, HX⟩ := hrel
    clear G1 X4 X3
    by_cases hlt : n < 9
    · obtain ⟨c, x, p, l, E, ro⟩ := rows1 HA.out HB.out HC.out Hg.out hlt
      obtain ⟨h0, h1, h2, h3, h4, he, hl, hb⟩ := ro
      have kw := fun w => cWrite_any c x p l w hb
      obtain ⟨R, hR⟩ : ∃ R, R = cW c x p l := ⟨_, rfl⟩
      rw [← hR] at kw he hl
      clear hR
      obtain ⟨S, E'⟩ := R
      simp only at he hl
      subst he
      have hv : seV (S, E') = .tuple #[.string (str S), .int .i64 E'] := rfl
      simp only [hv, headV] at kw
      have KW := Lib.hid kw
      have HL := Lib.hid hl
      have sl := str_size l
      have sS := str_size S
      clear kw hl hv
      go_wp2_with fail
      refine (KW.out _).mono ?_
      rintro e w5 ⟨rfl, hb5⟩; have hz5 := hb5.size; (try simp only [World.size_alloc] at hz5)
      have N := (hb5.block wr.heap.size (by simp)).trans (heap_alloc_last wr (.cells #[.int .i64 c, .int .i64 x, .int .i64 p, .string (str l), .int .i64 E'] 77))
      have d3 : w5.cell? ⟨wr.heap.size, 3, none⟩ = some (.string (str l)) := by rw [cell_of_row _ _ _ _ _ _ N]; rfl
      have d4 : w5.cell? ⟨wr.heap.size, 4, none⟩ = some (.int .i64 E') := by rw [cell_of_row _ _ _ _ _ _ N]; rfl
      have x5 : Ext wr w5 := Ext.trans (ext_alloc wr _) hb5
      have Hg' := Lib.hid ((Below.block x5 g1 (Array.getElem?_eq_some_iff.1 Hg.out).1).trans Hg.out)
      have X5 : Ext w w5 := Ext.trans HX.out x5
      clear hb5 hz5 N h0 h1 h2 h3 h4 x5 KW Hg HX
      by_cases hE : E' = 0
      · subst hE
        have hz := HL.out rfl
        have z9 : ((S.length : Int) != 24 + (l.length : Int)) = false := bne_eq_false_iff_eq.2 (by omega)
        go_wp2_with fail
        go_roundw
        case rel => exact ⟨n + 1, by omega, by go_num, Hg', Lib.hid X5⟩
        case measure => simp [intOf]; omega
      · have z1 : (E' == 0) = false := beq_eq_false_iff_ne.2 hE
        go_wp2_with fail
        go_roundw
        case rel => exact ⟨n + 1, by omega, by go_num, Hg', Lib.hid X5⟩
        case measure => simp [intOf]; omega
    · obtain rfl : n = 9 := by omega
      obtain ⟨w6, rfl⟩ : ∃ w6 : World, w6 = wr := ⟨_, rfl⟩
      have X6 : Ext w w6 := HX.out
      clear Hg HX
      have sa := fun a b => str_append a b
      have ss := fun l => str_size l
      have lz := zs_length
      go_wp2_with fail
      refine (lw_e [7, 0, 284, 3, 1, 18] [0, 0, 0, 7, 0, 0, 0, 0, 0, 0, 1, 28, 0, 0, 0, 3, 0, 0, 0, 1, 0, 0, 0, 18] _ 6 (by simp) rfl (by simp) (by decide +kernel)).mono ?_
      rintro e w7 ⟨rfl, k7⟩
      have x7 : Ext w6 w7 := Ext.trans (Ext.refl w6) k7
      have X7 : Ext w w7 := Ext.trans X6 x7
      clear k7 x7 X6
      go_wp2_with fail
      refine (KM1.out _).mono ?_
      rintro e w8 ⟨rfl, k8⟩
      have x8 : Ext w7 w8 := Ext.trans (Ext.refl w7) k8
      have X8 : Ext w w8 := Ext.trans X7 x8
      clear k8 x8 X7
      go_wp2_with fail
      refine (lw_e [7, 0, 284, 3, 1, 18] [0, 0, 0, 7, 0, 0, 0, 0, 0, 0, 1, 28, 0, 0, 0, 3, 0, 0, 0, 1, 0, 0, 0, 18] _ 6 (by simp) rfl (by simp) (by decide +kernel)).mono ?_
      rintro e w9 ⟨rfl, k9⟩
      have x9 : Ext w8 w9 := Ext.trans (Ext.refl w8) k9
      have X9 : Ext w w9 := Ext.trans X8 x9
      clear k9 x9 X8
      go_wp2_with fail
      refine (KM2.out _).mono ?_
      rintro e w10 ⟨rfl, k10⟩
      have x10 : Ext w9 w10 := Ext.trans (Ext.refl w9) k10
      have X10 : Ext w w10 := Ext.trans X9 x10
      clear k10 x10 X9
      go_wp2_with fail
      refine (lw_e [7, 0, 284, 3, 1, 18] [0, 0, 0, 7, 0, 0, 0, 0, 0, 0, 1, 28, 0, 0, 0, 3, 0, 0, 0, 1, 0, 0, 0, 18] _ 6 (by simp) rfl (by simp) (by decide +kernel)).mono ?_
      rintro e w11 ⟨rfl, k11⟩
      have x11 : Ext w10 w11 := Ext.trans (Ext.refl w10) k11
      have X11 : Ext w w11 := Ext.trans X10 x11
      clear k11 x11 X10
      go_wp2_with fail
      refine (lmany_any 2 _ (by omega)).mono ?_
      rintro e w12 ⟨rfl, k12⟩
      have x12 : Ext w11 w12 := Ext.trans (Ext.refl w11) k12
      have X12 : Ext w w12 := Ext.trans X11 x12
      clear k12 x12 X11
      go_wp2_with fail
      refine (lw_e [7, 0, 284, 3, 1] [0, 0, 0, 7, 0, 0, 0, 0, 0, 0, 1, 28, 0, 0, 0, 3, 0, 0, 0, 1] _ 5 (by simp) rfl (by simp) (by decide +kernel)).mono ?_
      rintro e w13 ⟨rfl, k13⟩
      have x13 : Ext w12 w13 := Ext.trans (Ext.refl w12) k13
      have X13 : Ext w w13 := Ext.trans X12 x13
      clear k13 x13 X12
      go_wp2_with fail
      refine (lw_e [7, 1, 284, 3, 1, 1] [0, 0, 0, 7, 0, 0, 0, 1, 0, 0, 1, 28, 0, 0, 0, 3, 0, 0, 0, 1, 0, 0, 0, 1] _ 6 (by simp) rfl (by simp) (by decide +kernel)).mono ?_
      rintro e w14 ⟨rfl, k14⟩
      have x14 : Ext w13 w14 := Ext.trans (Ext.refl w13) k14
      have X14 : Ext w w14 := Ext.trans X13 x14
      clear k14 x14 X13
      go_wp2_with fail
      refine (lw_e [7, 0, 1, 3, 0, 1] [0, 0, 0, 7, 0, 0, 0, 0, 0, 0, 0, 1, 0, 0, 0, 3, 0, 0, 0, 0, 0, 0, 0, 1] _ 6 (by simp) rfl (by simp) (by decide +kernel)).mono ?_
      rintro e w15 ⟨rfl, k15⟩
      have x15 : Ext w14 w15 := Ext.trans (Ext.refl w14) k15
      have X15 : Ext w w15 := Ext.trans X14 x15
      clear k15 x15 X14
      go_wp2_with fail
      refine (lw_e [7, 0, 284, 2, 1, 99] [0, 0, 0, 7, 0, 0, 0, 0, 0, 0, 1, 28, 0, 0, 0, 2, 0, 0, 0, 1, 0, 0, 0, 99] _ 6 (by simp) rfl (by simp) (by decide +kernel)).mono ?_
      rintro e w16 ⟨rfl, k16⟩
      have x16 : Ext w15 w16 := Ext.trans (Ext.refl w15) k16
      have X16 : Ext w w16 := Ext.trans X15 x16
      clear k16 x16 X15
      go_wp2_with fail
      refine (lw_e [7, 0, 284, 3, 1, -1] [0, 0, 0, 7, 0, 0, 0, 0, 0, 0, 1, 28, 0, 0, 0, 3, 0, 0, 0, 1, 255, 255, 255, 255] _ 6 (by simp) rfl (by simp) (by decide +kernel)).mono ?_
      rintro e w17 ⟨rfl, k17⟩
      have x17 : Ext w16 w17 := Ext.trans (Ext.refl w16) k17
      have X17 : Ext w w17 := Ext.trans X16 x17
      clear k17 x17 X16
      go_wp2_with fail
      have G2 := Lib.hid (heap_alloc_last w17 (.cells #[.string (str (0 :: 0 :: 0 :: 7 :: 0 :: 0 :: 0 :: 0 :: 0 :: 0 :: 1 :: 28 :: 0 :: 0 :: 0 :: 3 :: 0 :: 0 :: 0 :: 1 :: 0 :: 0 :: 0 :: 18 :: A)), .int .i64 0, .string (str (0 :: 0 :: 0 :: 7 :: 0 :: 0 :: 0 :: 0 :: 0 :: 0 :: 1 :: 28 :: 0 :: 0 :: 0 :: 3 :: 0 :: 0 :: 0 :: 1 :: 0 :: 0 :: 0 :: 18 :: B)), .int .i64 4, .string (str (0 :: 0 :: 0 :: 7 :: 0 :: 0 :: 0 :: 0 :: 0 :: 0 :: 1 :: 28 :: 0 :: 0 :: 0 :: 3 :: 0 :: 0 :: 0 :: 1 :: 0 :: 0 :: 0 :: 18 :: zs 2)), .int .i64 4, .string (str [0, 0, 0, 7, 0, 0, 0, 0, 0, 0, 1, 28, 0, 0, 0, 3, 0, 0, 0, 1]), .int .i64 4, .string ⟨#[]⟩, .int .i64 4, .string (str [0, 0, 0, 7, 0, 0, 0, 1, 0, 0, 1, 28, 0, 0, 0, 3, 0, 0, 0, 1, 0, 0, 0, 1]), .int .i64 4, .string (str [0, 0, 0, 7, 0, 0, 0, 0, 0, 0, 0, 1, 0, 0, 0, 3, 0, 0, 0, 0, 0, 0, 0, 1]), .int .i64 4, .string (str [0, 0, 0, 7, 0, 0, 0, 0, 0, 0, 1, 28, 0, 0, 0, 2, 0, 0, 0, 1, 0, 0, 0, 99]), .int .i64 63, .string (str [0, 0, 0, 7, 0, 0, 0, 0, 0, 0, 1, 28, 0, 0, 0, 3, 0, 0, 0, 1, 255, 255, 255, 255]), .int .i64 62] 79))
      have X18 : Ext w (w17.alloc (.cells #[.string (str (0 :: 0 :: 0 :: 7 :: 0 :: 0 :: 0 :: 0 :: 0 :: 0 :: 1 :: 28 :: 0 :: 0 :: 0 :: 3 :: 0 :: 0 :: 0 :: 1 :: 0 :: 0 :: 0 :: 18 :: A)), .int .i64 0, .string (str (0 :: 0 :: 0 :: 7 :: 0 :: 0 :: 0 :: 0 :: 0 :: 0 :: 1 :: 28 :: 0 :: 0 :: 0 :: 3 :: 0 :: 0 :: 0 :: 1 :: 0 :: 0 :: 0 :: 18 :: B)), .int .i64 4, .string (str (0 :: 0 :: 0 :: 7 :: 0 :: 0 :: 0 :: 0 :: 0 :: 0 :: 1 :: 28 :: 0 :: 0 :: 0 :: 3 :: 0 :: 0 :: 0 :: 1 :: 0 :: 0 :: 0 :: 18 :: zs 2)), .int .i64 4, .string (str [0, 0, 0, 7, 0, 0, 0, 0, 0, 0, 1, 28, 0, 0, 0, 3, 0, 0, 0, 1]), .int .i64 4, .string ⟨#[]⟩, .int .i64 4, .string (str [0, 0, 0, 7, 0, 0, 0, 1, 0, 0, 1, 28, 0, 0, 0, 3, 0, 0, 0, 1, 0, 0, 0, 1]), .int .i64 4, .string (str [0, 0, 0, 7, 0, 0, 0, 0, 0, 0, 0, 1, 0, 0, 0, 3, 0, 0, 0, 0, 0, 0, 0, 1]), .int .i64 4, .string (str [0, 0, 0, 7, 0, 0, 0, 0, 0, 0, 1, 28, 0, 0, 0, 2, 0, 0, 0, 1, 0, 0, 0, 99]), .int .i64 63, .string (str [0, 0, 0, 7, 0, 0, 0, 0, 0, 0, 1, 28, 0, 0, 0, 3, 0, 0, 0, 1, 255, 255, 255, 255]), .int .i64 62] 79)) := Ext.trans X17 (ext_alloc w17 _)
      generalize w17.alloc (.cells #[.string (str (0 :: 0 :: 0 :: 7 :: 0 :: 0 :: 0 :: 0 :: 0 :: 0 :: 1 :: 28 :: 0 :: 0 :: 0 :: 3 :: 0 :: 0 :: 0 :: 1 :: 0 :: 0 :: 0 :: 18 :: A)), .int .i64 0, .string (str (0 :: 0 :: 0 :: 7 :: 0 :: 0 :: 0 :: 0 :: 0 :: 0 :: 1 :: 28 :: 0 :: 0 :: 0 :: 3 :: 0 :: 0 :: 0 :: 1 :: 0 :: 0 :: 0 :: 18 :: B)), .int .i64 4, .string (str (0 :: 0 :: 0 :: 7 :: 0 :: 0 :: 0 :: 0 :: 0 :: 0 :: 1 :: 28 :: 0 :: 0 :: 0 :: 3 :: 0 :: 0 :: 0 :: 1 :: 0 :: 0 :: 0 :: 18 :: zs 2)), .int .i64 4, .string (str [0, 0, 0, 7, 0, 0, 0, 0, 0, 0, 1, 28, 0, 0, 0, 3, 0, 0, 0, 1]), .int .i64 4, .string ⟨#[]⟩, .int .i64 4, .string (str [0, 0, 0, 7, 0, 0, 0, 1, 0, 0, 1, 28, 0, 0, 0, 3, 0, 0, 0, 1, 0, 0, 0, 1]), .int .i64 4, .string (str [0, 0, 0, 7, 0, 0, 0, 0, 0, 0, 0, 1, 0, 0, 0, 3, 0, 0, 0, 0, 0, 0, 0, 1]), .int .i64 4, .string (str [0, 0, 0, 7, 0, 0, 0, 0, 0, 0, 1, 28, 0, 0, 0, 2, 0, 0, 0, 1, 0, 0, 0, 99]), .int .i64 63, .string (str [0, 0, 0, 7, 0, 0, 0, 0, 0, 0, 1, 28, 0, 0, 0, 3, 0, 0, 0, 1, 255, 255, 255, 255]), .int .i64 62] 79) = V2 at *
      generalize w17.heap.size = g2 at *
      go_loopw [140] (fun c wr => ∃ n : Nat, n ≤ 9 ∧ c = .int .i64 n ∧ Hid (wr.heap[g2]? = some (.cells #[.string (str (0 :: 0 :: 0 :: 7 :: 0 :: 0 :: 0 :: 0 :: 0 :: 0 :: 1 :: 28 :: 0 :: 0 :: 0 :: 3 :: 0 :: 0 :: 0 :: 1 :: 0 :: 0 :: 0 :: 18 :: A)), .int .i64 0, .string (str (0 :: 0 :: 0 :: 7 :: 0 :: 0 :: 0 :: 0 :: 0 :: 0 :: 1 :: 28 :: 0 :: 0 :: 0 :: 3 :: 0 :: 0 :: 0 :: 1 :: 0 :: 0 :: 0 :: 18 :: B)), .int .i64 4, .string (str (0 :: 0 :: 0 :: 7 :: 0 :: 0 :: 0 :: 0 :: 0 :: 0 :: 1 :: 28 :: 0 :: 0 :: 0 :: 3 :: 0 :: 0 :: 0 :: 1 :: 0 :: 0 :: 0 :: 18 :: zs 2)), .int .i64 4, .string (str [0, 0, 0, 7, 0, 0, 0, 0, 0, 0, 1, 28, 0, 0, 0, 3, 0, 0, 0, 1]), .int .i64 4, .string ⟨#[]⟩, .int .i64 4, .string (str [0, 0, 0, 7, 0, 0, 0, 1, 0, 0, 1, 28, 0, 0, 0, 3, 0, 0, 0, 1, 0, 0, 0, 1]), .int .i64 4, .string (str [0, 0, 0, 7, 0, 0, 0, 0, 0, 0, 0, 1, 0, 0, 0, 3, 0, 0, 0, 0, 0, 0, 0, 1]), .int .i64 4, .string (str [0, 0, 0, 7, 0, 0, 0, 0, 0, 0, 1, 28, 0, 0, 0, 2, 0, 0, 0, 1, 0, 0, 0, 99]), .int .i64 63, .string (str [0, 0, 0, 7, 0, 0, 0, 0, 0, 0, 1, 28, 0, 0, 0, 3, 0, 0, 0, 1, 255, 255, 255, 255]), .int .i64 62] 79 (0, 0))) ∧ Hid (Ext w wr)) (fun c _ => 9 - (intOf c).toNat)
      case atStart => exact ⟨0, by omega, rfl, G2, Lib.hid X18⟩
      case round =>
        obtain ⟨n, hn, rfl, Hg, HX⟩ := hrel
        obtain ⟨w19, rfl⟩ : ∃ w19 : World, w19 = wr := ⟨_, rfl⟩
        clear G2 X18 X17
        by_cases hlt : n < 9
        · obtain ⟨s, E, ro⟩ := rows2 HA.out HB.out Hg.out hlt
          obtain ⟨h0, h1, he, hb⟩ := ro
          have kr := fun w => cRead_any s w hb
          obtain ⟨R, hR⟩ : ∃ R, R = cR s := ⟨_, rfl⟩
          rw [← hR] at kr he
          clear hR
          obtain ⟨⟨rc, rx, rp, rl⟩, E'⟩ := R
          simp only at he
          subst he
          have hv : heV (⟨rc, rx, rp, rl⟩, E') = .tuple #[.agg #[.int .i64 rc, .int .i64 rx, .int .i64 rp, .string (str rl)], .int .i64 E'] := rfl
          simp only [hv] at kr
          have KR := Lib.hid kr
          clear kr hv
          go_wp2_with fail
          refine (KR.out _).mono ?_
          rintro e w5 ⟨rfl, hb5⟩; have hz5 := hb5.size; (try simp only [World.size_alloc] at hz5)
          have N := (hb5.block w19.heap.size (by simp)).trans (heap_alloc_last w19 (.cells #[.string (str s), .int .i64 E'] 79))
          have lt5 := (Array.getElem?_eq_some_iff.1 N).1
          have d1 : w5.cell? ⟨w19.heap.size, 1, none⟩ = some (.int .i64 E') := by rw [cell_of_row _ _ _ _ _ _ N]; rfl
          have x5 : Ext w19 w5 := Ext.trans (ext_alloc w19 _) hb5
          have x6 : Ext w19 (w5.alloc (.cells #[.int .i64 rc, .int .i64 rx, .int .i64 rp, .string (str rl)] 38)) := Ext.trans x5 (ext_alloc w5 _)
          have Hg' := Lib.hid ((Below.block x6 g2 (Array.getElem?_eq_some_iff.1 Hg.out).1).trans Hg.out)
          have X5 : Ext w (w5.alloc (.cells #[.int .i64 rc, .int .i64 rx, .int .i64 rp, .string (str rl)] 38)) := Ext.trans HX.out x6
          clear hb5 hz5 N h0 h1 x5 x6 KR Hg HX
          go_wp2_with fail
          go_roundw
          case rel => exact ⟨n + 1, by omega, by go_num, Hg', Lib.hid X5⟩
          case measure => simp [intOf]; omega
        · obtain rfl : n = 9 := by omega
          have X19 : Ext w w19 := HX.out
          clear Hg HX HA HB HC KM1 KM2 KM3 lA lB hlt
          go_wp2_with fail
          refine (lw_e [9, 0, 1, 3, 4, 99] [0, 0, 0, 9, 0, 0, 0, 0, 0, 0, 0, 1, 0, 0, 0, 3, 0, 0, 0, 4, 0, 0, 0, 99] _ 6 (by simp) rfl (by simp) (by decide +kernel)).mono ?_
          rintro e w20 ⟨rfl, k20⟩
          have x20 : Ext w19 w20 := Ext.trans (Ext.refl w19) k20
          have X20 : Ext w w20 := Ext.trans X19 x20
          clear k20 x20 X19
          go_wp2_with fail
          refine (lmany_any 8 _ (by omega)).mono ?_
          rintro e w21 ⟨rfl, k21⟩
          have x21 : Ext w20 w21 := Ext.trans (Ext.refl w20) k21
          have X21 : Ext w w21 := Ext.trans X20 x21
          clear k21 x21 X20
          go_wp2_with fail
          refine (cRead_e ((0 :: 0 :: 0 :: 9 :: 0 :: 0 :: 0 :: 0 :: 0 :: 0 :: 0 :: 1 :: 0 :: 0 :: 0 :: 3 :: 0 :: 0 :: 0 :: 4 :: 0 :: 0 :: 0 :: 99 :: zs 8)) (.tuple #[.agg #[.int .i64 4, .int .i64 9, .int .i64 99, .string ⟨#[]⟩], .int .i64 63]) (by kernel_rfl) (by simp [zs])).mono ?_
          rintro e w22 ⟨rfl, k22⟩
          have x22 : Ext w21 w22 := Ext.trans (Ext.refl w21) k22
          have X22 : Ext w w22 := Ext.trans X21 x22
          clear k22 x22 X21
          go_wp2_with fail
          refine (lw_e [-1, 0, 284, 3, 4, 99] [255, 255, 255, 255, 0, 0, 0, 0, 0, 0, 1, 28, 0, 0, 0, 3, 0, 0, 0, 4, 0, 0, 0, 99] _ 6 (by simp) rfl (by simp) (by decide +kernel)).mono ?_
          rintro e w23 ⟨rfl, k23⟩
          have x23 : Ext w22 w23 := Ext.trans (ext_alloc w22 _) k23
          have X23 : Ext w w23 := Ext.trans X22 x23
          have B_a := Lib.hid ((Below.block k23 w22.heap.size (by simp)).trans (heap_alloc_last w22 _))
          clear k23 x23 X22
          go_wp2_with fail
          refine (lmany_any 8 _ (by omega)).mono ?_
          rintro e w24 ⟨rfl, k24⟩
          have x24 : Ext w23 w24 := Ext.trans (Ext.refl w23) k24
          have X24 : Ext w w24 := Ext.trans X23 x24
          replace B_a := Lib.hid ((Below.block x24 _ (Array.getElem?_eq_some_iff.1 B_a.out).1).trans B_a.out)
          clear k24 x24 X23
          go_wp2_with fail
          refine (cRead_e ((255 :: 255 :: 255 :: 255 :: 0 :: 0 :: 0 :: 0 :: 0 :: 0 :: 1 :: 28 :: 0 :: 0 :: 0 :: 3 :: 0 :: 0 :: 0 :: 4 :: 0 :: 0 :: 0 :: 99 :: zs 8)) (.tuple #[.agg #[.int .i64 4, .int .i64 4294967295, .int .i64 99, .string ⟨#[]⟩], .int .i64 62]) (by kernel_rfl) (by simp [zs])).mono ?_
          rintro e w25 ⟨rfl, k25⟩
          have x25 : Ext w24 w25 := Ext.trans (Ext.refl w24) k25
          have X25 : Ext w w25 := Ext.trans X24 x25
          replace B_a := Lib.hid ((Below.block x25 _ (Array.getElem?_eq_some_iff.1 B_a.out).1).trans B_a.out)
          clear k25 x25 X24
          go_wp2_with fail
          refine (lw_e [-1, 1, 0, 5] [255, 255, 255, 255, 0, 0, 0, 1, 0, 0, 0, 0, 0, 0, 0, 5] _ 4 (by simp) rfl (by simp) (by decide +kernel)).mono ?_
          rintro e w26 ⟨rfl, k26⟩
          have x26 : Ext w25 w26 := Ext.trans (ext_alloc w25 _) k26
          have X26 : Ext w w26 := Ext.trans X25 x26
          replace B_a := Lib.hid ((Below.block x26 _ (Array.getElem?_eq_some_iff.1 B_a.out).1).trans B_a.out)
          have B_b := Lib.hid ((Below.block k26 w25.heap.size (by simp)).trans (heap_alloc_last w25 _))
          clear k26 x26 X25
          go_wp2_with fail
          refine (cHear_e [255, 255, 255, 255, 0, 0, 0, 1, 0, 0, 0, 0, 0, 0, 0, 5] (.tuple #[.agg #[.int .i64 4294967295, .int .i64 0, .string (str [0, 0, 0, 5])], .int .i64 0]) (by kernel_rfl) (by simp)).mono ?_
          rintro e w27 ⟨rfl, k27⟩
          have x27 : Ext w26 w27 := Ext.trans (Ext.refl w26) k27
          have X27 : Ext w w27 := Ext.trans X26 x27
          replace B_a := Lib.hid ((Below.block x27 _ (Array.getElem?_eq_some_iff.1 B_a.out).1).trans B_a.out)
          replace B_b := Lib.hid ((Below.block x27 _ (Array.getElem?_eq_some_iff.1 B_b.out).1).trans B_b.out)
          clear k27 x27 X26
          go_wp2_with fail
          refine (lw_e [7, 1, 62, 5] [0, 0, 0, 7, 0, 0, 0, 1, 0, 0, 0, 62, 0, 0, 0, 5] _ 4 (by simp) rfl (by simp) (by decide +kernel)).mono ?_
          rintro e w28 ⟨rfl, k28⟩
          have x28 : Ext w27 w28 := Ext.trans (ext_alloc w27 _) k28
          have X28 : Ext w w28 := Ext.trans X27 x28
          replace B_a := Lib.hid ((Below.block x28 _ (Array.getElem?_eq_some_iff.1 B_a.out).1).trans B_a.out)
          replace B_b := Lib.hid ((Below.block x28 _ (Array.getElem?_eq_some_iff.1 B_b.out).1).trans B_b.out)
          have B_c := Lib.hid ((Below.block k28 w27.heap.size (by simp)).trans (heap_alloc_last w27 _))
          clear k28 x28 X27
          go_wp2_with fail
          refine (cHear_e [0, 0, 0, 7, 0, 0, 0, 1, 0, 0, 0, 62, 0, 0, 0, 5] (.tuple #[.agg #[.int .i64 0, .int .i64 0, .string ⟨#[]⟩], .int .i64 4]) (by kernel_rfl) (by simp)).mono ?_
          rintro e w29 ⟨rfl, k29⟩
          have x29 : Ext w28 w29 := Ext.trans (Ext.refl w28) k29
          have X29 : Ext w w29 := Ext.trans X28 x29
          replace B_a := Lib.hid ((Below.block x29 _ (Array.getElem?_eq_some_iff.1 B_a.out).1).trans B_a.out)
          replace B_b := Lib.hid ((Below.block x29 _ (Array.getElem?_eq_some_iff.1 B_b.out).1).trans B_b.out)
          replace B_c := Lib.hid ((Below.block x29 _ (Array.getElem?_eq_some_iff.1 B_c.out).1).trans B_c.out)
          clear k29 x29 X28
          go_wp2_with fail
          refine (lw_e [7, 1, 1] [0, 0, 0, 7, 0, 0, 0, 1, 0, 0, 0, 1] _ 3 (by simp) rfl (by simp) (by decide +kernel)).mono ?_
          rintro e w30 ⟨rfl, k30⟩
          have x30 : Ext w29 w30 := Ext.trans (ext_alloc w29 _) k30
          have X30 : Ext w w30 := Ext.trans X29 x30
          replace B_a := Lib.hid ((Below.block x30 _ (Array.getElem?_eq_some_iff.1 B_a.out).1).trans B_a.out)
          replace B_b := Lib.hid ((Below.block x30 _ (Array.getElem?_eq_some_iff.1 B_b.out).1).trans B_b.out)
          replace B_c := Lib.hid ((Below.block x30 _ (Array.getElem?_eq_some_iff.1 B_c.out).1).trans B_c.out)
          have B_d := Lib.hid ((Below.block k30 w29.heap.size (by simp)).trans (heap_alloc_last w29 _))
          clear k30 x30 X29
          go_wp2_with fail
          refine (cHear_e [0, 0, 0, 7, 0, 0, 0, 1, 0, 0, 0, 1] (.tuple #[.agg #[.int .i64 0, .int .i64 0, .string ⟨#[]⟩], .int .i64 4]) (by kernel_rfl) (by simp)).mono ?_
          rintro e w31 ⟨rfl, k31⟩
          have x31 : Ext w30 w31 := Ext.trans (Ext.refl w30) k31
          have X31 : Ext w w31 := Ext.trans X30 x31
          replace B_a := Lib.hid ((Below.block x31 _ (Array.getElem?_eq_some_iff.1 B_a.out).1).trans B_a.out)
          replace B_b := Lib.hid ((Below.block x31 _ (Array.getElem?_eq_some_iff.1 B_b.out).1).trans B_b.out)
          replace B_c := Lib.hid ((Below.block x31 _ (Array.getElem?_eq_some_iff.1 B_c.out).1).trans B_c.out)
          replace B_d := Lib.hid ((Below.block x31 _ (Array.getElem?_eq_some_iff.1 B_d.out).1).trans B_d.out)
          clear k31 x31 X30
          go_wp2_with fail
          refine (lw_e [7, 0, 0] [0, 0, 0, 7, 0, 0, 0, 0, 0, 0, 0, 0] _ 3 (by simp) rfl (by simp) (by decide +kernel)).mono ?_
          rintro e w32 ⟨rfl, k32⟩
          have x32 : Ext w31 w32 := Ext.trans (ext_alloc w31 _) k32
          have X32 : Ext w w32 := Ext.trans X31 x32
          replace B_a := Lib.hid ((Below.block x32 _ (Array.getElem?_eq_some_iff.1 B_a.out).1).trans B_a.out)
          replace B_b := Lib.hid ((Below.block x32 _ (Array.getElem?_eq_some_iff.1 B_b.out).1).trans B_b.out)
          replace B_c := Lib.hid ((Below.block x32 _ (Array.getElem?_eq_some_iff.1 B_c.out).1).trans B_c.out)
          replace B_d := Lib.hid ((Below.block x32 _ (Array.getElem?_eq_some_iff.1 B_d.out).1).trans B_d.out)
          have B_e := Lib.hid ((Below.block k32 w31.heap.size (by simp)).trans (heap_alloc_last w31 _))
          clear k32 x32 X31
          go_wp2_with fail
          refine (cHear_e [0, 0, 0, 7, 0, 0, 0, 0, 0, 0, 0, 0] (.tuple #[.agg #[.int .i64 0, .int .i64 0, .string ⟨#[]⟩], .int .i64 4]) (by kernel_rfl) (by simp)).mono ?_
          rintro e w33 ⟨rfl, k33⟩
          have x33 : Ext w32 w33 := Ext.trans (Ext.refl w32) k33
          have X33 : Ext w w33 := Ext.trans X32 x33
          replace B_a := Lib.hid ((Below.block x33 _ (Array.getElem?_eq_some_iff.1 B_a.out).1).trans B_a.out)
          replace B_b := Lib.hid ((Below.block x33 _ (Array.getElem?_eq_some_iff.1 B_b.out).1).trans B_b.out)
          replace B_c := Lib.hid ((Below.block x33 _ (Array.getElem?_eq_some_iff.1 B_c.out).1).trans B_c.out)
          replace B_d := Lib.hid ((Below.block x33 _ (Array.getElem?_eq_some_iff.1 B_d.out).1).trans B_d.out)
          replace B_e := Lib.hid ((Below.block x33 _ (Array.getElem?_eq_some_iff.1 B_e.out).1).trans B_e.out)
          clear k33 x33 X32
          go_wp2_with fail
          refine (lw_e [7, 1] [0, 0, 0, 7, 0, 0, 0, 1] _ 2 (by simp) rfl (by simp) (by decide +kernel)).mono ?_
          rintro e w34 ⟨rfl, k34⟩
          have x34 : Ext w33 w34 := Ext.trans (ext_alloc w33 _) k34
          have X34 : Ext w w34 := Ext.trans X33 x34
          replace B_a := Lib.hid ((Below.block x34 _ (Array.getElem?_eq_some_iff.1 B_a.out).1).trans B_a.out)
          replace B_b := Lib.hid ((Below.block x34 _ (Array.getElem?_eq_some_iff.1 B_b.out).1).trans B_b.out)
          replace B_c := Lib.hid ((Below.block x34 _ (Array.getElem?_eq_some_iff.1 B_c.out).1).trans B_c.out)
          replace B_d := Lib.hid ((Below.block x34 _ (Array.getElem?_eq_some_iff.1 B_d.out).1).trans B_d.out)
          replace B_e := Lib.hid ((Below.block x34 _ (Array.getElem?_eq_some_iff.1 B_e.out).1).trans B_e.out)
          have B_f := Lib.hid ((Below.block k34 w33.heap.size (by simp)).trans (heap_alloc_last w33 _))
          clear k34 x34 X33
          go_wp2_with fail
          refine (cHear_e [0, 0, 0, 7, 0, 0, 0, 1] (.tuple #[.agg #[.int .i64 0, .int .i64 0, .string ⟨#[]⟩], .int .i64 4]) (by kernel_rfl) (by simp)).mono ?_
          rintro e w35 ⟨rfl, k35⟩
          have x35 : Ext w34 w35 := Ext.trans (Ext.refl w34) k35
          have X35 : Ext w w35 := Ext.trans X34 x35
          replace B_a := Lib.hid ((Below.block x35 _ (Array.getElem?_eq_some_iff.1 B_a.out).1).trans B_a.out)
          replace B_b := Lib.hid ((Below.block x35 _ (Array.getElem?_eq_some_iff.1 B_b.out).1).trans B_b.out)
          replace B_c := Lib.hid ((Below.block x35 _ (Array.getElem?_eq_some_iff.1 B_c.out).1).trans B_c.out)
          replace B_d := Lib.hid ((Below.block x35 _ (Array.getElem?_eq_some_iff.1 B_d.out).1).trans B_d.out)
          replace B_e := Lib.hid ((Below.block x35 _ (Array.getElem?_eq_some_iff.1 B_e.out).1).trans B_e.out)
          replace B_f := Lib.hid ((Below.block x35 _ (Array.getElem?_eq_some_iff.1 B_f.out).1).trans B_f.out)
          clear k35 x35 X34
          go_wp2_with fail
          refine (lw_e [7, 1, 0] [0, 0, 0, 7, 0, 0, 0, 1, 0, 0, 0, 0] _ 3 (by simp) rfl (by simp) (by decide +kernel)).mono ?_
          rintro e w36 ⟨rfl, k36⟩
          have x36 : Ext w35 w36 := Ext.trans (ext_alloc w35 _) k36
          have X36 : Ext w w36 := Ext.trans X35 x36
          replace B_a := Lib.hid ((Below.block x36 _ (Array.getElem?_eq_some_iff.1 B_a.out).1).trans B_a.out)
          replace B_b := Lib.hid ((Below.block x36 _ (Array.getElem?_eq_some_iff.1 B_b.out).1).trans B_b.out)
          replace B_c := Lib.hid ((Below.block x36 _ (Array.getElem?_eq_some_iff.1 B_c.out).1).trans B_c.out)
          replace B_d := Lib.hid ((Below.block x36 _ (Array.getElem?_eq_some_iff.1 B_d.out).1).trans B_d.out)
          replace B_e := Lib.hid ((Below.block x36 _ (Array.getElem?_eq_some_iff.1 B_e.out).1).trans B_e.out)
          replace B_f := Lib.hid ((Below.block x36 _ (Array.getElem?_eq_some_iff.1 B_f.out).1).trans B_f.out)
          have B_g := Lib.hid ((Below.block k36 w35.heap.size (by simp)).trans (heap_alloc_last w35 _))
          clear k36 x36 X35
          go_wp2_with fail
          refine (cHear_e [0, 0, 0, 7, 0, 0, 0, 1, 0, 0, 0, 0, 97] (.tuple #[.agg #[.int .i64 0, .int .i64 0, .string ⟨#[]⟩], .int .i64 4]) (by kernel_rfl) (by simp)).mono ?_
          rintro e w37 ⟨rfl, k37⟩
          have x37 : Ext w36 w37 := Ext.trans (Ext.refl w36) k37
          have X37 : Ext w w37 := Ext.trans X36 x37
          replace B_a := Lib.hid ((Below.block x37 _ (Array.getElem?_eq_some_iff.1 B_a.out).1).trans B_a.out)
          replace B_b := Lib.hid ((Below.block x37 _ (Array.getElem?_eq_some_iff.1 B_b.out).1).trans B_b.out)
          replace B_c := Lib.hid ((Below.block x37 _ (Array.getElem?_eq_some_iff.1 B_c.out).1).trans B_c.out)
          replace B_d := Lib.hid ((Below.block x37 _ (Array.getElem?_eq_some_iff.1 B_d.out).1).trans B_d.out)
          replace B_e := Lib.hid ((Below.block x37 _ (Array.getElem?_eq_some_iff.1 B_e.out).1).trans B_e.out)
          replace B_f := Lib.hid ((Below.block x37 _ (Array.getElem?_eq_some_iff.1 B_f.out).1).trans B_f.out)
          replace B_g := Lib.hid ((Below.block x37 _ (Array.getElem?_eq_some_iff.1 B_g.out).1).trans B_g.out)
          clear k37 x37 X36
          go_wp2_with fail
          refine (cTell_e (0) (1) [] (.tuple #[.string ⟨#[]⟩, .int .i64 1]) (by kernel_rfl) (by simp)).mono ?_
          rintro e w38 ⟨rfl, k38⟩
          have x38 : Ext w37 w38 := Ext.trans (ext_alloc w37 _) k38
          have X38 : Ext w w38 := Ext.trans X37 x38
          replace B_a := Lib.hid ((Below.block x38 _ (Array.getElem?_eq_some_iff.1 B_a.out).1).trans B_a.out)
          replace B_b := Lib.hid ((Below.block x38 _ (Array.getElem?_eq_some_iff.1 B_b.out).1).trans B_b.out)
          replace B_c := Lib.hid ((Below.block x38 _ (Array.getElem?_eq_some_iff.1 B_c.out).1).trans B_c.out)
          replace B_d := Lib.hid ((Below.block x38 _ (Array.getElem?_eq_some_iff.1 B_d.out).1).trans B_d.out)
          replace B_e := Lib.hid ((Below.block x38 _ (Array.getElem?_eq_some_iff.1 B_e.out).1).trans B_e.out)
          replace B_f := Lib.hid ((Below.block x38 _ (Array.getElem?_eq_some_iff.1 B_f.out).1).trans B_f.out)
          replace B_g := Lib.hid ((Below.block x38 _ (Array.getElem?_eq_some_iff.1 B_g.out).1).trans B_g.out)
          have B_h := Lib.hid ((Below.block k38 w37.heap.size (by simp)).trans (heap_alloc_last w37 _))
          clear k38 x38 X37
          go_wp2_with fail
          refine (lmany_any 4 _ (by omega)).mono ?_
          rintro e w39 ⟨rfl, k39⟩
          have x39 : Ext w38 w39 := Ext.trans (Ext.refl w38) k39
          have X39 : Ext w w39 := Ext.trans X38 x39
          replace B_a := Lib.hid ((Below.block x39 _ (Array.getElem?_eq_some_iff.1 B_a.out).1).trans B_a.out)
          replace B_b := Lib.hid ((Below.block x39 _ (Array.getElem?_eq_some_iff.1 B_b.out).1).trans B_b.out)
          replace B_c := Lib.hid ((Below.block x39 _ (Array.getElem?_eq_some_iff.1 B_c.out).1).trans B_c.out)
          replace B_d := Lib.hid ((Below.block x39 _ (Array.getElem?_eq_some_iff.1 B_d.out).1).trans B_d.out)
          replace B_e := Lib.hid ((Below.block x39 _ (Array.getElem?_eq_some_iff.1 B_e.out).1).trans B_e.out)
          replace B_f := Lib.hid ((Below.block x39 _ (Array.getElem?_eq_some_iff.1 B_f.out).1).trans B_f.out)
          replace B_g := Lib.hid ((Below.block x39 _ (Array.getElem?_eq_some_iff.1 B_g.out).1).trans B_g.out)
          replace B_h := Lib.hid ((Below.block x39 _ (Array.getElem?_eq_some_iff.1 B_h.out).1).trans B_h.out)
          clear k39 x39 X38
          go_wp2_with fail
          refine (cTell_e 0 4 (zs 4) (.tuple #[.string ⟨#[]⟩, .int .i64 1]) (by kernel_rfl) (by simp [zs])).mono ?_
          rintro e w40 ⟨rfl, k40⟩
          have x40 : Ext w39 w40 := Ext.trans (Ext.refl w39) k40
          have X40 : Ext w w40 := Ext.trans X39 x40
          replace B_a := Lib.hid ((Below.block x40 _ (Array.getElem?_eq_some_iff.1 B_a.out).1).trans B_a.out)
          replace B_b := Lib.hid ((Below.block x40 _ (Array.getElem?_eq_some_iff.1 B_b.out).1).trans B_b.out)
          replace B_c := Lib.hid ((Below.block x40 _ (Array.getElem?_eq_some_iff.1 B_c.out).1).trans B_c.out)
          replace B_d := Lib.hid ((Below.block x40 _ (Array.getElem?_eq_some_iff.1 B_d.out).1).trans B_d.out)
          replace B_e := Lib.hid ((Below.block x40 _ (Array.getElem?_eq_some_iff.1 B_e.out).1).trans B_e.out)
          replace B_f := Lib.hid ((Below.block x40 _ (Array.getElem?_eq_some_iff.1 B_f.out).1).trans B_f.out)
          replace B_g := Lib.hid ((Below.block x40 _ (Array.getElem?_eq_some_iff.1 B_g.out).1).trans B_g.out)
          replace B_h := Lib.hid ((Below.block x40 _ (Array.getElem?_eq_some_iff.1 B_h.out).1).trans B_h.out)
          clear k40 x40 X39
          go_wp2_with fail
          refine (lmany_any 3 _ (by omega)).mono ?_
          rintro e w41 ⟨rfl, k41⟩
          have x41 : Ext w40 w41 := Ext.trans (Ext.refl w40) k41
          have X41 : Ext w w41 := Ext.trans X40 x41
          replace B_a := Lib.hid ((Below.block x41 _ (Array.getElem?_eq_some_iff.1 B_a.out).1).trans B_a.out)
          replace B_b := Lib.hid ((Below.block x41 _ (Array.getElem?_eq_some_iff.1 B_b.out).1).trans B_b.out)
          replace B_c := Lib.hid ((Below.block x41 _ (Array.getElem?_eq_some_iff.1 B_c.out).1).trans B_c.out)
          replace B_d := Lib.hid ((Below.block x41 _ (Array.getElem?_eq_some_iff.1 B_d.out).1).trans B_d.out)
          replace B_e := Lib.hid ((Below.block x41 _ (Array.getElem?_eq_some_iff.1 B_e.out).1).trans B_e.out)
          replace B_f := Lib.hid ((Below.block x41 _ (Array.getElem?_eq_some_iff.1 B_f.out).1).trans B_f.out)
          replace B_g := Lib.hid ((Below.block x41 _ (Array.getElem?_eq_some_iff.1 B_g.out).1).trans B_g.out)
          replace B_h := Lib.hid ((Below.block x41 _ (Array.getElem?_eq_some_iff.1 B_h.out).1).trans B_h.out)
          clear k41 x41 X40
          go_wp2_with fail
          refine (cTell_e 0 0 (zs 3) (.tuple #[.string ⟨#[]⟩, .int .i64 1]) (by kernel_rfl) (by simp [zs])).mono ?_
          rintro e w42 ⟨rfl, k42⟩
          have x42 : Ext w41 w42 := Ext.trans (Ext.refl w41) k42
          have X42 : Ext w w42 := Ext.trans X41 x42
          replace B_a := Lib.hid ((Below.block x42 _ (Array.getElem?_eq_some_iff.1 B_a.out).1).trans B_a.out)
          replace B_b := Lib.hid ((Below.block x42 _ (Array.getElem?_eq_some_iff.1 B_b.out).1).trans B_b.out)
          replace B_c := Lib.hid ((Below.block x42 _ (Array.getElem?_eq_some_iff.1 B_c.out).1).trans B_c.out)
          replace B_d := Lib.hid ((Below.block x42 _ (Array.getElem?_eq_some_iff.1 B_d.out).1).trans B_d.out)
          replace B_e := Lib.hid ((Below.block x42 _ (Array.getElem?_eq_some_iff.1 B_e.out).1).trans B_e.out)
          replace B_f := Lib.hid ((Below.block x42 _ (Array.getElem?_eq_some_iff.1 B_f.out).1).trans B_f.out)
          replace B_g := Lib.hid ((Below.block x42 _ (Array.getElem?_eq_some_iff.1 B_g.out).1).trans B_g.out)
          replace B_h := Lib.hid ((Below.block x42 _ (Array.getElem?_eq_some_iff.1 B_h.out).1).trans B_h.out)
          clear k42 x42 X41
          go_wp2_with fail
          refine (cTell_e (4294967296) (0) [] (.tuple #[.string ⟨#[]⟩, .int .i64 1]) (by kernel_rfl) (by simp)).mono ?_
          rintro e w43 ⟨rfl, k43⟩
          have x43 : Ext w42 w43 := Ext.trans (Ext.refl w42) k43
          have X43 : Ext w w43 := Ext.trans X42 x43
          replace B_a := Lib.hid ((Below.block x43 _ (Array.getElem?_eq_some_iff.1 B_a.out).1).trans B_a.out)
          replace B_b := Lib.hid ((Below.block x43 _ (Array.getElem?_eq_some_iff.1 B_b.out).1).trans B_b.out)
          replace B_c := Lib.hid ((Below.block x43 _ (Array.getElem?_eq_some_iff.1 B_c.out).1).trans B_c.out)
          replace B_d := Lib.hid ((Below.block x43 _ (Array.getElem?_eq_some_iff.1 B_d.out).1).trans B_d.out)
          replace B_e := Lib.hid ((Below.block x43 _ (Array.getElem?_eq_some_iff.1 B_e.out).1).trans B_e.out)
          replace B_f := Lib.hid ((Below.block x43 _ (Array.getElem?_eq_some_iff.1 B_f.out).1).trans B_f.out)
          replace B_g := Lib.hid ((Below.block x43 _ (Array.getElem?_eq_some_iff.1 B_g.out).1).trans B_g.out)
          replace B_h := Lib.hid ((Below.block x43 _ (Array.getElem?_eq_some_iff.1 B_h.out).1).trans B_h.out)
          clear k43 x43 X42
          obtain ⟨c_a0, c_a1, c_a2, c_a3, -, -, -, -, lt_a⟩ := blk4 B_a.out
          obtain ⟨c_b0, c_b1, c_b2, c_b3, -, -, -, -, lt_b⟩ := blk4 B_b.out
          obtain ⟨c_c0, c_c1, c_c2, -, -, -, lt_c⟩ := blk3 B_c.out
          go_wp2_with fail
          have qH1 := eqHd_self 4 9 99 []
          have qH2 := eqHd_self 4 4294967295 99 []
          have hPc : ∀ (ψ : World → Prop) (e : ExtP w43.heap.size w43 ψ) k o, k < w43.heap.size → e.val.cell? ⟨k, o, none⟩ = w43.cell? ⟨k, o, none⟩ := fun ψ e k o hk => e.ok.cell (p := ⟨k, o, none⟩) hk
          try simp only [List.append_eq, List.cons_append, List.nil_append]
          refine wp_region_pieces 30  [(true, [0, 1, 2, 3, 4, 5, 6, 7, 8, 9, 10, 11, 12, 13, 14, 15, 16, 17, 18, 19, 20, 21, 22, 23, 24, 25, 26, 27]), (false, [28]), (false, [29])] (by kernel_rfl) (by kernel_rfl) ?_; simp only [pick, List.map_cons, List.map_nil, List.flatMap_cons, List.flatMap_nil, Option.toList_some, List.singleton_append, List.drop_succ_cons, List.drop_zero, List.getElem?_cons_zero, List.getElem?_cons_succ]
          refine ⟨by kernel_rfl, ?_⟩; apply Exists.intro; refine ⟨fun ψ hψ hne => (by (repeat (go_big_quiet_step (( fail )))); exact wpQuiet_nil rfl), ?_⟩
          intro wa ha K hK
          go_wp2_with fail
          refine hK _ _ (ext_alloc wa _) ?_
          clear hK K
          intro wb hb K hK
          have hvs : VS wb (.slice (some ⟨wa.heap.size, 0, none⟩) 1 1) ([5].map (Value.int .i64)) := vs_one ((Below.block hb wa.heap.size (by simp)).trans (heap_alloc_last wa _))
          go_wp2_with fail
          refine (lwords_any [5] _ wb hvs (by simp)).mono ?_
          rintro e wc ⟨rfl, hbc⟩
          rw [show wordsL [5] = [0, 0, 0, 5] by decide +kernel]
          go_wp2_with fail
          refine hK _ _ hbc ?_
          clear hK K
          intro wd hd
          go_wp2_with fail
          go_ret
          exact ⟨rfl, Ext.trans X43 (Ext.trans ha (Ext.trans (ext_alloc wa _) (Ext.trans hb (Ext.trans hbc hd))))⟩

theorem own : ownKnob Try.prog.godebug = none := by kernel_rfl
theorem laidOut : laidOutB Try.prog = true := by kernel_rfl

set_option maxRecDepth 100000 in
theorem lifted (os : Os) (started : os.Started) (H : Type) (enc : TypeId × Value → H) :
    ReturnsInHanded {} Try.checked os 10 .any (Rows.callNamesSpec.pre6 enc Try.prog Try.f10 Rows.callNamesRow.domain false) (Rows.callNamesSpec.post enc Try.prog Try.f10 false true false false) := by
  refine returnsInHanded_of_change (C := Try.checked) own started (by kernel_rfl) Try.func10
    (ChangeSpec.witness6 (enc := enc) (C := Try.checked) false ⟨#[], #[], []⟩ 8 (by kernel_rfl) (by kernel_rfl) (by kernel_rfl) (by kernel_rfl)) ?_
  intro W base args ds gs before hval0 hW hcnd _
  have hval : ∀ (j : Nat) t v, Try.f10.params[j]? = some t → args[j]? = some v → Value.okWide Try.prog W .any base t v := hval0
  have hW' := hW
  obtain ⟨p, q, hA0, hV, rfl, hfz, hnd⟩ := hW
  have hA : DataW.TrodAll enc Try.prog W 0 (fun _ => true) true Try.f10.params.toList args.toList ds p := hA0
  rw [Try.params10] at hA hval
  obtain ⟨rfl, rfl, rfl⟩ := trodAll_none hA
  obtain ⟨rfl, rfl⟩ := trodVars_none hV
  refine (walk  W).mono fun e W' ⟨he, bel⟩ => ?_
  subst he
  exact ⟨_, rfl, _, _, _, [], _, [], hW', trodAll_mk1 (shut_bool Try.underlying4 _), trodAll_mk0, rfl, bel.frame _, fun h => by cases h⟩

theorem proved : Rows.CallNamesSaid :=
  OpenClaim.holds_of_wide 10 Try.f10 rfl rfl rfl rfl rfl rfl rfl ⟨rfl, rfl, rfl, rfl, rfl⟩ rfl rfl rfl rfl rfl (by kernel_rfl) Try.func10 (by kernel_rfl)
    (of_decide_eq_true (by kernel_rfl)) (by unfold Func.isWrapper; first | (rw [if_pos (by decide +kernel)]; kernel_rfl) | (rw [if_neg (by decide +kernel)]; exact ⟨rfl, rfl⟩))
    (fun os started H enc _ => lifted os started H enc)
end Go.Proofs.Ytaccjneglaomhaa.callNames
