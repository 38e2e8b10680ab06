/- Walks of package xdr, that write: Word, Long, Int, Flag. -/
import Derived.Test.YtbbkailmlaffjaaXdrA
set_option linter.unusedVariables false
set_option maxRecDepth 100000
namespace Go.Proofs.Ytbbkailmlaffjaa
open Go.RowKit

theorem Word_any (v : Value) (l : List UInt8) (n : Int) (w : World) (hv : RS w v l) (h0 : 0 ≤ n) (h1 : n ≤ 4294967295) (h : l.length ≤ 900000) :
    Calls Try.prog 23 #[v, .int .u32 n] w fun e w' => ∃ v', e = .returned v' ∧ Own w' w.heap.size 5 v' (l ++ beN n 4) (l.length + 4) ∧ Below w.heap.size w w' := by
  obtain ⟨A, c, rfl⟩ := hv.form
  go_enter Try.func23, Try.ntmps23
  go_wp2_with fail
  refine (wordOf_any n h0 h1 _).mono ?_
  rintro e w1 ⟨rfl, hb1⟩; have hz1 := hb1.size; (try simp only [World.size_alloc] at hz1)
  obtain ⟨w2, hst, hx2, hg2, hs2⟩ := st_new (P := Try.prog) w1 (beN n 4) #[.int .u8 0, .int .u8 0, .int .u8 0, .int .u8 0] 46 (by simp [beN_length])
  have hlen : (bvs (beN n 4)).length = 4 := by simp [bvs_length, beN_length]
  go_wp2_with fail
  refine wp_region_pieces 3  [(true, [0, 2]), (false, [1])] (by kernel_rfl) (by kernel_rfl) ?_; simp only [pick, List.map_cons, List.map_nil, List.flatMap_cons, List.flatMap_nil, Option.toList_some, List.singleton_append, List.drop_succ_cons, List.drop_zero, List.getElem?_cons_zero, List.getElem?_cons_succ]
  refine ⟨by kernel_rfl, ?_⟩; apply Exists.intro; refine ⟨fun ψ hψ hne => (by (repeat (go_big_quiet_step (( fail )))); exact wpQuiet_nil rfl), ?_⟩
  intro wa ha K hK
  have hxa : Ext w wa := (Ext.trans (Ext.trans hb1 hx2) ha)
  go_wp2_with fail
  refine (behind_any (.slice A l.length c) l 4 wa (hv.ext hxa) (by omega)).mono ?_
  rintro e wb ⟨vb, rfl, hob, hbb⟩
  go_wp2_with fail
  refine hK _ _ hbb ?_
  intro wc hc
  have hgc := ((ha.trans hbb).trans hc).block _ hs2 |>.trans hg2
  have hsrc := srcS (rs_block (l := beN n 4) (off := 0) (c := 4) hgc (by simp) (by simp [beN_length]))
  obtain ⟨v', w', hr, ho, hb, hz⟩ := appR (ty := 22) (hob.ext hc) hsrc (by simp [beN_length])
  simp only [beN_length] at hr
  go_wp2_with (at_builtin; refine wpList_app rfl _ _ _ _ rfl hr ?_)
  go_ret
  exact ⟨_, rfl, ho.mono hxa.size, Below.trans ((hxa.trans hbb).trans hc : Ext w wc) (hb.mono hxa.size)⟩

/-- A truth value's number. -/
def b2i (b : Bool) : Int := if b then 1 else 0
/-- The bytes of a number of 64 bits. -/
def beL (n : Int) : List UInt8 := beN (n / 4294967296) 4 ++ beN (n % 4294967296) 4
theorem beL_length (n : Int) : (beL n).length = 8 := by simp [beL, beN_length]

end Go.Proofs.Ytbbkailmlaffjaa
