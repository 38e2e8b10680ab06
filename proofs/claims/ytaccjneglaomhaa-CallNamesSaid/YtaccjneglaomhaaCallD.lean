/- Walks of jettyref03, that write: Tell. -/
import Derived.Test.YtaccjneglaomhaaCallC
set_option linter.unusedVariables false
namespace Go.Proofs.Ytaccjneglaomhaa
open Go.RowKit

set_option maxHeartbeats 4000000 in
theorem rTell_any (x e : Int) (l : List UInt8) (w : World) (hl : l.length ≤ 10000) :
    Calls Try.prog 31 #[ansV x e l] w fun r w' => r = .returned (seV (cT x e l)) ∧ Below w.heap.size w w' := by
  have hs := str_size l
  have hu : ∀ x e l, ansV x e l = .agg #[.int .i64 x, .int .i64 e, .string (str l)] := fun _ _ _ => rfl
  cases h2 : (isW x && mayB e l)
  case false =>
    have hr : cT x e l = ([], 1) := by
      have : ¬ (isW x = true ∧ mayB e l = true) := by rw [← Bool.and_eq_true, h2]; simp
      simp only [cT, if_neg this]
    rw [hr]
    go_enter Try.func31, Try.ntmps31
    go_wp2_with fail
    refine (rmay_any x e l _ h2 _).mono ?_
    rintro e w1 ⟨rfl, hb1⟩; have hz1 := hb1.size; (try simp only [World.size_alloc] at hz1)
    go_wp2_with fail
    go_ret2
    exact ⟨rfl, by (repeat' (first | (with_reducible assumption) | (with_reducible exact Below.refl _ _) | (with_reducible refine below_sc ?_ ?_) | ((with_reducible show (_ : Nat) ≤ _); omega) | refine Below.setCell ?_ (by first | omega | (simp; done) | (simp; omega)) _ | refine Below.alloc ?_ (by first | omega | (simp; done) | (simp; omega)) _ | refine Below.drew ?_ | refine below_drewN ?_ _ | refine Below.trans ?_ (Below.mono (by assumption) (by first | omega | (simp; done) | (simp; omega)))))⟩
  have hr : cT x e l = (wordsL [x, 1, e] ++ l, 0) := by
    have : isW x = true ∧ mayB e l = true := by rw [← Bool.and_eq_true, h2]
    simp only [cT, if_pos this]
  have HR := Lib.hid hr
  clear hr
  go_enter Try.func31, Try.ntmps31
  go_wp2_with fail
  refine (rmay_any x e l _ h2 _).mono ?_
  rintro e w1 ⟨rfl, hb1⟩; have hz1 := hb1.size; (try simp only [World.size_alloc] at hz1)
  have b0 := (hb1.block w.heap.size (by simp)).trans (heap_alloc_last _ _)
  have hB1 : Below w.heap.size w w1 := by (repeat' (first | (with_reducible assumption) | (with_reducible exact Below.refl _ _) | (with_reducible refine below_sc ?_ ?_) | ((with_reducible show (_ : Nat) ≤ _); omega) | refine Below.setCell ?_ (by first | omega | (simp; done) | (simp; omega)) _ | refine Below.alloc ?_ (by first | omega | (simp; done) | (simp; omega)) _ | refine Below.drew ?_ | refine below_drewN ?_ _ | refine Below.trans ?_ (Below.mono (by assumption) (by first | omega | (simp; done) | (simp; omega)))))
  obtain ⟨c0, c1, c2, -, -, -, hgz⟩ := blk3 b0
  clear b0 hb1 hz1
  have hPc : ∀ (ψ : World → Prop) (e : ExtP w1.heap.size w1 ψ) k o, k < w1.heap.size → e.val.cell? ⟨k, o, none⟩ = w1.cell? ⟨k, o, none⟩ := fun ψ e k o hk => e.ok.cell (p := ⟨k, o, none⟩) hk
  have hPn : ∀ (ψ : World → Prop) (e : ExtP w1.heap.size w1 ψ) o, e.val.cell? ⟨w.heap.size, o, none⟩ = w1.cell? ⟨w.heap.size, o, none⟩ := fun ψ e o => hPc ψ e _ _ hgz
  clear hPc
  go_wp2_with fail
  refine wp_region_pieces 10  [(true, [0, 1, 2, 5, 6, 7]), (false, [3]), (false, [4]), (false, [8]), (true, [9])] (by kernel_rfl) (by kernel_rfl) ?_; simp only [pick, List.map_cons, List.map_nil, List.flatMap_cons, List.flatMap_nil, Option.toList_some, List.singleton_append, List.drop_succ_cons, List.drop_zero, List.getElem?_cons_zero, List.getElem?_cons_succ]
  refine ⟨by kernel_rfl, ?_⟩; apply Exists.intro; refine ⟨fun ψ hψ hne => (by (repeat (go_big_quiet_step (( fail )))); exact wpQuiet_nil rfl), ?_⟩
  intro u1 a1 K hK
  go_wp2_with fail
  refine (rWord_any _ [] (x % 4294967296) u1 RS.nil (by omega) (by omega) (by simp)).mono ?_
  rintro r t1 ⟨y1, rfl, p1, q1⟩
  go_wp2_with fail
  refine hK _ _ q1 ?_
  intro u2 a2 K hK
  go_wp2_with fail
  refine (rWord_any _ _ 1 u2 (p1.rs.ext a2) (by omega) (by omega) (by simp [beN_length])).mono ?_
  rintro r t2 ⟨y2, rfl, p2, q2⟩
  go_wp2_with fail
  refine hK _ _ q2 ?_
  intro u3 a3 K hK
  go_wp2_with fail
  refine (rWord_any _ _ (e % 4294967296) u3 (p2.rs.ext a3) (by omega) (by omega) (by simp [beN_length])).mono ?_
  rintro r t3 ⟨y3, rfl, p3, q3⟩
  go_wp2_with fail
  refine hK _ _ q3 ?_
  refine ⟨by kernel_rfl, ?_⟩; apply Exists.intro; refine ⟨fun ψ hψ hne => (by (repeat (go_big_quiet_step (( fail )))); exact wpQuiet_nil rfl), ?_⟩
  intro wz hz
  have hx1 : Ext w1 t1 := Ext.trans a1 q1
  have hx2 : Ext w1 t2 := hx1.trans (Ext.trans a2 q2)
  have hx3 : Ext w1 wz := (hx2.trans (Ext.trans a3 q3)).trans hz
  have hcv := (p3.rs.ext hz).conv (P := Try.prog) Try.underlying22 Try.underlying5 Try.underlying9
  have hW : ([] ++ beN (x % 4294967296) 4 ++ beN 1 4 ++ beN (e % 4294967296) 4) = wordsL [x, 1, e] := by
    unfold wordsL
    simp only [List.flatMap_cons, List.flatMap_nil, List.nil_append, List.append_assoc, List.append_nil]
    rfl
  rw [hW] at hcv
  have hbody := (cellB hx3 w.heap.size 2 hgz).trans c2
  have hsz := str_size (wordsL [x, 1, e])
  rw [wordsL_length] at hsz
  simp only [List.length_cons, List.length_nil] at hsz
  clear hPn c0 c1 c2 hW
  go_wp2_with fail
  go_ret2
  exact ⟨by rw [HR.out]; rfl, hB1.trans (Below.mono hx3 hB1.size)⟩
end Go.Proofs.Ytaccjneglaomhaa
