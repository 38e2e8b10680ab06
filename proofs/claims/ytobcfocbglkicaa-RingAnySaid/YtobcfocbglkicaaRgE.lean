/- jettylaw09's own: r, newest, many; contracts at known states. -/
import Derived.Test.YtobcfocbglkicaaRgD
import Derived.Test.YtobcfocbglkicaaDkM
set_option linter.unusedVariables false
set_option maxRecDepth 100000
namespace Go.Proofs.Ytobcfocbglkicaa
open Go.RowKit
attribute [local go_sem ↓] eql_root neq_root

theorem r_any (t : Int) (l : List UInt8) (w : World) : Calls Try.prog 47 #[.int .i64 t, .string (str l)] w fun e w' => e = .returned (.agg #[.int .i64 t, .string (str l)]) ∧ Below w.heap.size w w' := by
  go_enter Try.func47, Try.ntmps47
  go_wp2
  exact bodyPost_ret (v := .agg #[.int .i64 t, .string (str l)]) (by simp only [results, Try.results47]; go_simp) rfl ⟨rfl, by (repeat' (first | (with_reducible assumption) | (with_reducible exact Below.refl _ _) | (with_reducible refine below_sc ?_ ?_) | ((with_reducible show (_ : Nat) ≤ _); omega) | refine Below.setCell ?_ (by first | omega | (simp; done) | (simp; omega)) _ | refine Below.alloc ?_ (by first | omega | (simp; done) | (simp; omega)) _ | refine Below.drew ?_ | refine below_drewN ?_ _ | refine Below.trans ?_ (Below.mono (by assumption) (by first | omega | (simp; done) | (simp; omega)))))⟩
/-- What 'newest' says. -/
def nwV (D : DK) (t : Int) (l : List UInt8) : Bool := decide (D.newest.2 = 0) && eqRo D.newest.1.t D.newest.1.l t l
section
variable {W w : World} {loc : List (Nat × Obj)} {ds : List (Nat × DK)} {g : Nat} {D : DK}
theorem put_k (i : Nat) (h : DSt W loc ds w) (hi : ds[i]? = some (g, D)) (t : Int) (l : List UInt8) (hl : l.length ≤ maxLen) (D' : DK) (e : Int) (he : D.put t l = (D', e)) (hkl : D.keep.length ≤ 1000000) (hwl : D.wt.length ≤ 100000) :
    Calls Try.prog 50 #[.pointer (some ⟨g, 0, none⟩), .agg #[.int .i64 t, .string (str l)]] w fun r w' => r = .returned (.int .i64 e) ∧ DSt W loc (ds.set i (g, D')) w' := by
  have h1 : (D.put t l).1 = D' := by rw [he]
  have h2 : (D.put t l).2 = e := by rw [he]
  rw [← h1, ← h2]
  exact put_l i h hi t l hl hkl hwl
theorem newest_k (i : Nat) (h : DSt W loc ds w) (hi : ds[i]? = some (g, D)) (t : Int) (l : List UInt8) (e : Int) (he : D.newest = (⟨t, l⟩, e)) (hwl : D.wt.length ≤ 1000000) :
    Calls Try.prog 52 #[.pointer (some ⟨g, 0, none⟩)] w fun r w' => r = .returned (.tuple #[.agg #[.int .i64 t, .string (str l)], .int .i64 e]) ∧ DSt W loc ds w' := by
  have := newest_l i h hi hwl
  rw [he] at this
  exact this
set_option maxHeartbeats 4000000 in
theorem nw_l (i : Nat) (h : DSt W loc ds w) (hi : ds[i]? = some (g, D)) (t : Int) (l : List UInt8) (hwl : D.wt.length ≤ 1000000) :
    Calls Try.prog 51 #[.pointer (some ⟨g, 0, none⟩), .int .i64 t, .string (str l)] w fun e w' => e = .returned (.bool (nwV D t l)) ∧ DSt W loc ds w' := by
  have K := newest_l i h hi hwl
  obtain ⟨R, hR⟩ : ∃ R, R = D.newest := ⟨_, rfl⟩
  have hv : nwV D t l = (decide (R.2 = 0) && eqRo R.1.t R.1.l t l) := by rw [hR]; rfl
  rw [← hR] at K
  rw [hv]
  clear hR hv
  obtain ⟨⟨xt, xl⟩, xe⟩ := R
  simp only [roV] at K ⊢
  have KN := Lib.hid K
  clear K
  go_enter Try.func51, Try.ntmps51
  go_wp2_with fail
  refine KN.out.mono ?_
  rintro e w1 ⟨rfl, h1⟩
  have ST := Lib.hid (st_rtn ⟨xt, xl⟩ w1)
  have b1 := heap_alloc_last w1 (.cells (rtC ⟨xt, xl⟩) 29 (0, 0))
  have h2 := Lib.hid (h1.ext (extAl w1 (.cells (rtC ⟨xt, xl⟩) 29 (0, 0))))
  clear h1 KN
  go_upto_region 2 with (first | (refine wpList_al rfl 29 rfl alloc_rt ?_; simp only [Act.put]) | (refine wpList_st rfl 29 _ _ rfl ST.out ?_; simp only [Act.put]))
  try simp only [List.setIfInBounds_toArray, List.set_cons_zero, List.set_cons_succ]
  change Code.wp _ _ _ _ (w1.alloc (.cells (rtC ⟨xt, xl⟩) 29 (0, 0)))
  generalize w1.alloc (.cells (rtC ⟨xt, xl⟩) 29 (0, 0)) = V at *
  generalize w1.heap.size = g7 at *
  have L := fun V2 (k : Ext V V2) => ld_rt ((Below.block k g7 (Array.getElem?_eq_some_iff.1 b1).1).trans b1)
  unfold rtC at L
  have L7 := Lib.hid L
  clear L b1 ST
  by_cases hE : xe = 0
  · subst hE
    refine wp_region_pieces 10  [(true, [0, 1, 2, 3, 4, 5, 6, 7, 8, 9])] (by kernel_rfl) (by kernel_rfl) ?_; simp only [pick, List.map_cons, List.map_nil, List.flatMap_cons, List.flatMap_nil, Option.toList_some, List.singleton_append, List.drop_succ_cons, List.drop_zero, List.getElem?_cons_zero, List.getElem?_cons_succ]
    refine ⟨by kernel_rfl, ?_⟩; apply Exists.intro; refine ⟨fun ψ hψ hne => (by (repeat (first | ( go_big_quiet_want; refine quiet_ld 29 (.tmp 7) rfl (fun w' hw' => L7.out w' (ext_in hw')) ?_; go_simp; go_big_quiet_on ) | go_big_quiet_step ((  go_at_call 47; exact extP_of hψ (Nat.le_refl _) (r_any t l _) )))); exact wpQuiet_nil rfl), ?_⟩
    intro V2 hV2
    go_wp2_with fail
    go_ret
    exact ⟨by simp, h2.out.ext hV2⟩
  · have z1 : (xe == 0) = false := beq_eq_false_iff_ne.2 hE
    refine wp_region_pieces 10  [(true, [0, 1, 2, 3, 4, 5, 6, 7, 8, 9])] (by kernel_rfl) (by kernel_rfl) ?_; simp only [pick, List.map_cons, List.map_nil, List.flatMap_cons, List.flatMap_nil, Option.toList_some, List.singleton_append, List.drop_succ_cons, List.drop_zero, List.getElem?_cons_zero, List.getElem?_cons_succ]
    refine ⟨by kernel_rfl, ?_⟩; apply Exists.intro; refine ⟨fun ψ hψ hne => (by (repeat (first | ( fail ) | go_big_quiet_step ((  fail )))); exact wpQuiet_nil rfl), ?_⟩
    intro V2 hV2
    go_wp2_with fail
    go_ret
    exact ⟨by simp, h2.out.ext hV2⟩
theorem nw_k (i : Nat) (h : DSt W loc ds w) (hi : ds[i]? = some (g, D)) (t : Int) (l : List UInt8) (v : Bool) (hv : nwV D t l = v) (hwl : D.wt.length ≤ 1000000) :
    Calls Try.prog 51 #[.pointer (some ⟨g, 0, none⟩), .int .i64 t, .string (str l)] w fun e w' => e = .returned (.bool v) ∧ DSt W loc ds w' := by
  subst hv
  exact nw_l i h hi t l hwl
theorem rgSeal_k (t : Int) (l : List UInt8) (b : List UInt8) (e : Int) (hl : l.length ≤ maxLen) (he : rkS t l = (b, e)) (w : World) :
    Calls Try.prog 15 #[.agg #[.int .i64 t, .string (str l)]] w fun r w' => r = .returned (.tuple #[.agg (bvs b).toArray, .int .i64 e]) ∧ Below w.heap.size w w' := by
  have := rgSeal_any t l w hl
  rw [he] at this
  exact this
end
end Go.Proofs.Ytobcfocbglkicaa
