/- Arguments: a letter's field is read (printed by gen_agh.py). -/
import Derived.Test.YteahlnoonmfjhaaAgG
import Derived.Test.YteahlnoonmfjhaaMx
set_option linter.unusedVariables false
set_option maxRecDepth 100000
namespace Go.Proofs.Yteahlnoonmfjhaa
open Go.RowKit

/-- What reading a letter's field makes: of the reader, of whether it is bad, of the arguments. -/
def gtA (c : UInt8) (s : St) (bad : Bool) (a : AgT) : St × Bool × AgT :=
  if c = 72 then ((rdX s 24).2, bad || (dec (rdX s 24).1).isNone, { a with h := (dec (rdX s 24).1).getD (0, 0, 0) })
  else if c = 84 then ((rdX s 24).2, bad || (dec (rdX s 24).1).isNone, { a with t := (dec (rdX s 24).1).getD (0, 0, 0) })
  else if c = 110 then ((rdT s 255).2, bad, { a with name := (rdT s 255).1 }) else if c = 111 then ((rdT s 255).2, bad, { a with other := (rdT s 255).1 }) else if c = 120 then ((rdT s 2048).2, bad, { a with text := (rdT s 2048).1 })
  else if c = 112 then ((rdL s).2, bad, { a with at_ := wrap64 (rdL s).1 }) else if c = 78 then ((rdL s).2, bad, { a with n := wrap64 (rdL s).1 }) else if c = 109 then ((rdL s).2, bad, { a with mode := wrap64 (rdL s).1 })
  else if c = 115 then ((rdL s).2, bad, { a with size := wrap64 (rdL s).1 }) else if c = 98 then ((rdL s).2, bad, { a with stable := wrap64 (rdL s).1 }) else if c = 103 then ((rdL s).2, bad, { a with guard := wrap64 (rdL s).1 })
  else if c = 118 then ((rdL s).2, bad, { a with verf := (rdL s).1 }) else (s, bad, a)
theorem blk1 {w : World} {g : Nat} {T : TypeId} {a : Value} (h : w.heap[g]? = some (.cells #[a] T (0, 0))) : w.cell? ⟨g, 0, none⟩ = some a ∧ (∀ o, w.frozen? ⟨g, o, none⟩ = false) ∧ g < w.heap.size :=
  ⟨by simp [World.cell?, h], fun o => by simp [World.frozen?, h], heap_lt h⟩
section
variable {W0 : World} {gr gf ga b2 b3 : Nat} {st : St} {bad : Bool} {a : AgT}
/-- The post of a letter's reading. -/
def GetP (W0 : World) (gr gf ga b2 b3 : Nat) (st : St) (bad : Bool) (a : AgT) (c : UInt8) (e : Ending) (w' : World) : Prop :=
  e = .returned (.tuple #[]) ∧ RdS W0 w' gr gf ga b2 b3 35 136 (gtA c st bad a).1 (gtA c st bad a).2.1 (agC (gtA c st bad a).2.2).toArray
theorem getA_112 (w : World) (h : RdS W0 w gr gf ga b2 b3 35 136 st bad (agC a).toArray) (hl : st.l.length ≤ 100000) :
    Calls Try.prog 123 #[.int .u8 112, .pointer (some ⟨b2, 0, none⟩), .pointer (some ⟨b3, 0, none⟩)] w (GetP W0 gr gf ga b2 b3 st bad a 112) := by
  have KC : Hid (∀ Wa : World, Ext w Wa → Calls Try.prog 126 #[.pointer (some ⟨gr, 0, none⟩)] Wa fun e w' => e = .returned (.int .i64 (wrap64 (rdL st).1)) ∧ Rd 192 w' gr ((rdL st).2) ∧ But gr Wa w') := Lib.hid fun Wa k => by have hx := (h.ext k).rd; exact int_any gr st Wa hx
  have HG : Hid ((gtA 112 st bad a) = (((rdL st).2), bad, { a with at_ := wrap64 (rdL st).1 })) := Lib.hid rfl
  obtain ⟨n1, n2, n3, n4, n5, n6, n7, n8, n9⟩ := h.ne
  obtain ⟨k2, f2, l2⟩ := blk1 h.h2
  obtain ⟨k3, f3, l3⟩ := blk1 h.h3
  obtain ⟨kf, -, -, -, lf⟩ := blk2 h.hf
  have la := heap_lt h.ha
  have H := Lib.hid h
  have hgf : gf ≠ gr := n1.symm
  have hb2 : b2 ≠ gr := n4
  have hb3 : b3 ≠ gr := n7
  clear h n1 n2 n3 n4 n5 n6 n7 n8 n9 f2 f3
  obtain ⟨So, HSo⟩ : ∃ So : Nat → Prop, Hid (So = fun j => j = gr) := ⟨_, Lib.hid rfl⟩
  have q2 : ¬ So b2 := by rw [HSo.out]; exact hb2
  have q3 : ¬ So b3 := by rw [HSo.out]; exact hb3
  have qf : ¬ So gf := by rw [HSo.out]; exact hgf
  obtain ⟨N, hV⟩ : ∃ N, (wrap64 (rdL st).1) = N := ⟨_, rfl⟩
  obtain ⟨s', hs'⟩ : ∃ s' : St, ((rdL st).2) = s' := ⟨_, rfl⟩
  obtain ⟨a', ha'⟩ : ∃ a' : AgT, ({ a with at_ := wrap64 (rdL st).1 }) = a' := ⟨_, rfl⟩
  have HROW : Hid ((agC a).toArray.setIfInBounds 9 (.int .i64 N) = (agC a').toArray) := Lib.hid (by rw [← hV, ← ha']; rfl)
  rw [hV, hs'] at KC
  rw [hs', ha'] at HG
  clear hV hs' ha'
  go_enter Try.func123, Try.ntmps123
  go_upto_region 12 with fail
  have e0 := fun (ψ : World → Prop) (e : ExtS So w ψ) => e.cell k2 l2 q2
  have e1 := fun (ψ : World → Prop) (e : ExtS So w ψ) => e.cell k3 l3 q3
  have e2 := fun (ψ : World → Prop) (e : ExtS So w ψ) => e.cell kf lf qf
  refine wp_region_piecesS So 6 [(true, [0, 1, 2, 3, 4]), (false, [5])] (by kernel_rfl) (by kernel_rfl) ?_
  simp only [pick, List.map_cons, List.map_nil, List.flatMap_cons, List.flatMap_nil, Option.toList_some, List.singleton_append, List.drop_succ_cons, List.drop_zero, List.getElem?_cons_zero, List.getElem?_cons_succ]
  refine ⟨by kernel_rfl, ?_⟩; apply Exists.intro; refine ⟨fun ψ hψ hne => (by (repeat (go_big_quiet_step (( fail )))); exact wpQuiet_nil rfl), ?_⟩
  clear e0 e1 e2 k2 k3 kf
  intro Wa ha K hK
  go_wp2_with fail
  refine (KC.out Wa ha).mono ?_
  rintro e wb ⟨rfl, rb, kb⟩
  go_wp2_with fail
  refine hK _ _ (But.mut kb (by rw [HSo.out])) ?_
  clear hK K KC
  intro wc hc
  have H2 := Lib.hid (((H.out.ext ha).read rb kb).ext hc)
  have hga := H2.out.ha
  have fa : wc.frozen? ⟨ga, 9, none⟩ = false := by simp [World.frozen?, hga]
  obtain ⟨u, hu, hun⟩ : ∃ u, (agC a).toArray[9]? = some u ∧ NoB' u := ⟨_, rfl, (nb_i64 _)⟩
  have ca : wc.cell? ⟨ga, 9, none⟩ = some u := by rw [cell_of_row _ _ _ _ _ _ hga]; exact hu
  have HU := Lib.hid hu
  have lga := heap_lt hga
  have ST := Lib.hid (setCell_eq_setRow wc ga 9 _ 35 (0, 0) (.int .i64 N) hga)
  clear hga H ha rb kb hc hu
  go_wp2_with fail
  go_end0
  rw [ST.out, HROW.out]
  refine ⟨rfl, ?_⟩
  rw [HG.out]
  have := H2.out.fill ((agC a).toArray.setIfInBounds 9 (.int .i64 N)) (set_nb HU.out hun)
  rw [HROW.out] at this
  exact this
theorem getA_78 (w : World) (h : RdS W0 w gr gf ga b2 b3 35 136 st bad (agC a).toArray) (hl : st.l.length ≤ 100000) :
    Calls Try.prog 123 #[.int .u8 78, .pointer (some ⟨b2, 0, none⟩), .pointer (some ⟨b3, 0, none⟩)] w (GetP W0 gr gf ga b2 b3 st bad a 78) := by
  have KC : Hid (∀ Wa : World, Ext w Wa → Calls Try.prog 126 #[.pointer (some ⟨gr, 0, none⟩)] Wa fun e w' => e = .returned (.int .i64 (wrap64 (rdL st).1)) ∧ Rd 192 w' gr ((rdL st).2) ∧ But gr Wa w') := Lib.hid fun Wa k => by have hx := (h.ext k).rd; exact int_any gr st Wa hx
  have HG : Hid ((gtA 78 st bad a) = (((rdL st).2), bad, { a with n := wrap64 (rdL st).1 })) := Lib.hid rfl
  obtain ⟨n1, n2, n3, n4, n5, n6, n7, n8, n9⟩ := h.ne
  obtain ⟨k2, f2, l2⟩ := blk1 h.h2
  obtain ⟨k3, f3, l3⟩ := blk1 h.h3
  obtain ⟨kf, -, -, -, lf⟩ := blk2 h.hf
  have la := heap_lt h.ha
  have H := Lib.hid h
  have hgf : gf ≠ gr := n1.symm
  have hb2 : b2 ≠ gr := n4
  have hb3 : b3 ≠ gr := n7
  clear h n1 n2 n3 n4 n5 n6 n7 n8 n9 f2 f3
  obtain ⟨So, HSo⟩ : ∃ So : Nat → Prop, Hid (So = fun j => j = gr) := ⟨_, Lib.hid rfl⟩
  have q2 : ¬ So b2 := by rw [HSo.out]; exact hb2
  have q3 : ¬ So b3 := by rw [HSo.out]; exact hb3
  have qf : ¬ So gf := by rw [HSo.out]; exact hgf
  obtain ⟨N, hV⟩ : ∃ N, (wrap64 (rdL st).1) = N := ⟨_, rfl⟩
  obtain ⟨s', hs'⟩ : ∃ s' : St, ((rdL st).2) = s' := ⟨_, rfl⟩
  obtain ⟨a', ha'⟩ : ∃ a' : AgT, ({ a with n := wrap64 (rdL st).1 }) = a' := ⟨_, rfl⟩
  have HROW : Hid ((agC a).toArray.setIfInBounds 10 (.int .i64 N) = (agC a').toArray) := Lib.hid (by rw [← hV, ← ha']; rfl)
  rw [hV, hs'] at KC
  rw [hs', ha'] at HG
  clear hV hs' ha'
  go_enter Try.func123, Try.ntmps123
  go_upto_region 14 with fail
  have e0 := fun (ψ : World → Prop) (e : ExtS So w ψ) => e.cell k2 l2 q2
  have e1 := fun (ψ : World → Prop) (e : ExtS So w ψ) => e.cell k3 l3 q3
  have e2 := fun (ψ : World → Prop) (e : ExtS So w ψ) => e.cell kf lf qf
  refine wp_region_piecesS So 6 [(true, [0, 1, 2, 3, 4]), (false, [5])] (by kernel_rfl) (by kernel_rfl) ?_
  simp only [pick, List.map_cons, List.map_nil, List.flatMap_cons, List.flatMap_nil, Option.toList_some, List.singleton_append, List.drop_succ_cons, List.drop_zero, List.getElem?_cons_zero, List.getElem?_cons_succ]
  refine ⟨by kernel_rfl, ?_⟩; apply Exists.intro; refine ⟨fun ψ hψ hne => (by (repeat (go_big_quiet_step (( fail )))); exact wpQuiet_nil rfl), ?_⟩
  clear e0 e1 e2 k2 k3 kf
  intro Wa ha K hK
  go_wp2_with fail
  refine (KC.out Wa ha).mono ?_
  rintro e wb ⟨rfl, rb, kb⟩
  go_wp2_with fail
  refine hK _ _ (But.mut kb (by rw [HSo.out])) ?_
  clear hK K KC
  intro wc hc
  have H2 := Lib.hid (((H.out.ext ha).read rb kb).ext hc)
  have hga := H2.out.ha
  have fa : wc.frozen? ⟨ga, 10, none⟩ = false := by simp [World.frozen?, hga]
  obtain ⟨u, hu, hun⟩ : ∃ u, (agC a).toArray[10]? = some u ∧ NoB' u := ⟨_, rfl, (nb_i64 _)⟩
  have ca : wc.cell? ⟨ga, 10, none⟩ = some u := by rw [cell_of_row _ _ _ _ _ _ hga]; exact hu
  have HU := Lib.hid hu
  have lga := heap_lt hga
  have ST := Lib.hid (setCell_eq_setRow wc ga 10 _ 35 (0, 0) (.int .i64 N) hga)
  clear hga H ha rb kb hc hu
  go_wp2_with fail
  go_end0
  rw [ST.out, HROW.out]
  refine ⟨rfl, ?_⟩
  rw [HG.out]
  have := H2.out.fill ((agC a).toArray.setIfInBounds 10 (.int .i64 N)) (set_nb HU.out hun)
  rw [HROW.out] at this
  exact this
theorem getA_109 (w : World) (h : RdS W0 w gr gf ga b2 b3 35 136 st bad (agC a).toArray) (hl : st.l.length ≤ 100000) :
    Calls Try.prog 123 #[.int .u8 109, .pointer (some ⟨b2, 0, none⟩), .pointer (some ⟨b3, 0, none⟩)] w (GetP W0 gr gf ga b2 b3 st bad a 109) := by
  have KC : Hid (∀ Wa : World, Ext w Wa → Calls Try.prog 126 #[.pointer (some ⟨gr, 0, none⟩)] Wa fun e w' => e = .returned (.int .i64 (wrap64 (rdL st).1)) ∧ Rd 192 w' gr ((rdL st).2) ∧ But gr Wa w') := Lib.hid fun Wa k => by have hx := (h.ext k).rd; exact int_any gr st Wa hx
  have HG : Hid ((gtA 109 st bad a) = (((rdL st).2), bad, { a with mode := wrap64 (rdL st).1 })) := Lib.hid rfl
  obtain ⟨n1, n2, n3, n4, n5, n6, n7, n8, n9⟩ := h.ne
  obtain ⟨k2, f2, l2⟩ := blk1 h.h2
  obtain ⟨k3, f3, l3⟩ := blk1 h.h3
  obtain ⟨kf, -, -, -, lf⟩ := blk2 h.hf
  have la := heap_lt h.ha
  have H := Lib.hid h
  have hgf : gf ≠ gr := n1.symm
  have hb2 : b2 ≠ gr := n4
  have hb3 : b3 ≠ gr := n7
  clear h n1 n2 n3 n4 n5 n6 n7 n8 n9 f2 f3
  obtain ⟨So, HSo⟩ : ∃ So : Nat → Prop, Hid (So = fun j => j = gr) := ⟨_, Lib.hid rfl⟩
  have q2 : ¬ So b2 := by rw [HSo.out]; exact hb2
  have q3 : ¬ So b3 := by rw [HSo.out]; exact hb3
  have qf : ¬ So gf := by rw [HSo.out]; exact hgf
  obtain ⟨N, hV⟩ : ∃ N, (wrap64 (rdL st).1) = N := ⟨_, rfl⟩
  obtain ⟨s', hs'⟩ : ∃ s' : St, ((rdL st).2) = s' := ⟨_, rfl⟩
  obtain ⟨a', ha'⟩ : ∃ a' : AgT, ({ a with mode := wrap64 (rdL st).1 }) = a' := ⟨_, rfl⟩
  have HROW : Hid ((agC a).toArray.setIfInBounds 11 (.int .i64 N) = (agC a').toArray) := Lib.hid (by rw [← hV, ← ha']; rfl)
  rw [hV, hs'] at KC
  rw [hs', ha'] at HG
  clear hV hs' ha'
  go_enter Try.func123, Try.ntmps123
  go_upto_region 16 with fail
  have e0 := fun (ψ : World → Prop) (e : ExtS So w ψ) => e.cell k2 l2 q2
  have e1 := fun (ψ : World → Prop) (e : ExtS So w ψ) => e.cell k3 l3 q3
  have e2 := fun (ψ : World → Prop) (e : ExtS So w ψ) => e.cell kf lf qf
  refine wp_region_piecesS So 6 [(true, [0, 1, 2, 3, 4]), (false, [5])] (by kernel_rfl) (by kernel_rfl) ?_
  simp only [pick, List.map_cons, List.map_nil, List.flatMap_cons, List.flatMap_nil, Option.toList_some, List.singleton_append, List.drop_succ_cons, List.drop_zero, List.getElem?_cons_zero, List.getElem?_cons_succ]
  refine ⟨by kernel_rfl, ?_⟩; apply Exists.intro; refine ⟨fun ψ hψ hne => (by (repeat (go_big_quiet_step (( fail )))); exact wpQuiet_nil rfl), ?_⟩
  clear e0 e1 e2 k2 k3 kf
  intro Wa ha K hK
  go_wp2_with fail
  refine (KC.out Wa ha).mono ?_
  rintro e wb ⟨rfl, rb, kb⟩
  go_wp2_with fail
  refine hK _ _ (But.mut kb (by rw [HSo.out])) ?_
  clear hK K KC
  intro wc hc
  have H2 := Lib.hid (((H.out.ext ha).read rb kb).ext hc)
  have hga := H2.out.ha
  have fa : wc.frozen? ⟨ga, 11, none⟩ = false := by simp [World.frozen?, hga]
  obtain ⟨u, hu, hun⟩ : ∃ u, (agC a).toArray[11]? = some u ∧ NoB' u := ⟨_, rfl, (nb_i64 _)⟩
  have ca : wc.cell? ⟨ga, 11, none⟩ = some u := by rw [cell_of_row _ _ _ _ _ _ hga]; exact hu
  have HU := Lib.hid hu
  have lga := heap_lt hga
  have ST := Lib.hid (setCell_eq_setRow wc ga 11 _ 35 (0, 0) (.int .i64 N) hga)
  clear hga H ha rb kb hc hu
  go_wp2_with fail
  go_end0
  rw [ST.out, HROW.out]
  refine ⟨rfl, ?_⟩
  rw [HG.out]
  have := H2.out.fill ((agC a).toArray.setIfInBounds 11 (.int .i64 N)) (set_nb HU.out hun)
  rw [HROW.out] at this
  exact this
theorem getA_115 (w : World) (h : RdS W0 w gr gf ga b2 b3 35 136 st bad (agC a).toArray) (hl : st.l.length ≤ 100000) :
    Calls Try.prog 123 #[.int .u8 115, .pointer (some ⟨b2, 0, none⟩), .pointer (some ⟨b3, 0, none⟩)] w (GetP W0 gr gf ga b2 b3 st bad a 115) := by
  have KC : Hid (∀ Wa : World, Ext w Wa → Calls Try.prog 126 #[.pointer (some ⟨gr, 0, none⟩)] Wa fun e w' => e = .returned (.int .i64 (wrap64 (rdL st).1)) ∧ Rd 192 w' gr ((rdL st).2) ∧ But gr Wa w') := Lib.hid fun Wa k => by have hx := (h.ext k).rd; exact int_any gr st Wa hx
  have HG : Hid ((gtA 115 st bad a) = (((rdL st).2), bad, { a with size := wrap64 (rdL st).1 })) := Lib.hid rfl
  obtain ⟨n1, n2, n3, n4, n5, n6, n7, n8, n9⟩ := h.ne
  obtain ⟨k2, f2, l2⟩ := blk1 h.h2
  obtain ⟨k3, f3, l3⟩ := blk1 h.h3
  obtain ⟨kf, -, -, -, lf⟩ := blk2 h.hf
  have la := heap_lt h.ha
  have H := Lib.hid h
  have hgf : gf ≠ gr := n1.symm
  have hb2 : b2 ≠ gr := n4
  have hb3 : b3 ≠ gr := n7
  clear h n1 n2 n3 n4 n5 n6 n7 n8 n9 f2 f3
  obtain ⟨So, HSo⟩ : ∃ So : Nat → Prop, Hid (So = fun j => j = gr) := ⟨_, Lib.hid rfl⟩
  have q2 : ¬ So b2 := by rw [HSo.out]; exact hb2
  have q3 : ¬ So b3 := by rw [HSo.out]; exact hb3
  have qf : ¬ So gf := by rw [HSo.out]; exact hgf
  obtain ⟨N, hV⟩ : ∃ N, (wrap64 (rdL st).1) = N := ⟨_, rfl⟩
  obtain ⟨s', hs'⟩ : ∃ s' : St, ((rdL st).2) = s' := ⟨_, rfl⟩
  obtain ⟨a', ha'⟩ : ∃ a' : AgT, ({ a with size := wrap64 (rdL st).1 }) = a' := ⟨_, rfl⟩
  have HROW : Hid ((agC a).toArray.setIfInBounds 12 (.int .i64 N) = (agC a').toArray) := Lib.hid (by rw [← hV, ← ha']; rfl)
  rw [hV, hs'] at KC
  rw [hs', ha'] at HG
  clear hV hs' ha'
  go_enter Try.func123, Try.ntmps123
  go_upto_region 18 with fail
  have e0 := fun (ψ : World → Prop) (e : ExtS So w ψ) => e.cell k2 l2 q2
  have e1 := fun (ψ : World → Prop) (e : ExtS So w ψ) => e.cell k3 l3 q3
  have e2 := fun (ψ : World → Prop) (e : ExtS So w ψ) => e.cell kf lf qf
  refine wp_region_piecesS So 6 [(true, [0, 1, 2, 3, 4]), (false, [5])] (by kernel_rfl) (by kernel_rfl) ?_
  simp only [pick, List.map_cons, List.map_nil, List.flatMap_cons, List.flatMap_nil, Option.toList_some, List.singleton_append, List.drop_succ_cons, List.drop_zero, List.getElem?_cons_zero, List.getElem?_cons_succ]
  refine ⟨by kernel_rfl, ?_⟩; apply Exists.intro; refine ⟨fun ψ hψ hne => (by (repeat (go_big_quiet_step (( fail )))); exact wpQuiet_nil rfl), ?_⟩
  clear e0 e1 e2 k2 k3 kf
  intro Wa ha K hK
  go_wp2_with fail
  refine (KC.out Wa ha).mono ?_
  rintro e wb ⟨rfl, rb, kb⟩
  go_wp2_with fail
  refine hK _ _ (But.mut kb (by rw [HSo.out])) ?_
  clear hK K KC
  intro wc hc
  have H2 := Lib.hid (((H.out.ext ha).read rb kb).ext hc)
  have hga := H2.out.ha
  have fa : wc.frozen? ⟨ga, 12, none⟩ = false := by simp [World.frozen?, hga]
  obtain ⟨u, hu, hun⟩ : ∃ u, (agC a).toArray[12]? = some u ∧ NoB' u := ⟨_, rfl, (nb_i64 _)⟩
  have ca : wc.cell? ⟨ga, 12, none⟩ = some u := by rw [cell_of_row _ _ _ _ _ _ hga]; exact hu
  have HU := Lib.hid hu
  have lga := heap_lt hga
  have ST := Lib.hid (setCell_eq_setRow wc ga 12 _ 35 (0, 0) (.int .i64 N) hga)
  clear hga H ha rb kb hc hu
  go_wp2_with fail
  go_end0
  rw [ST.out, HROW.out]
  refine ⟨rfl, ?_⟩
  rw [HG.out]
  have := H2.out.fill ((agC a).toArray.setIfInBounds 12 (.int .i64 N)) (set_nb HU.out hun)
  rw [HROW.out] at this
  exact this
theorem getA_98 (w : World) (h : RdS W0 w gr gf ga b2 b3 35 136 st bad (agC a).toArray) (hl : st.l.length ≤ 100000) :
    Calls Try.prog 123 #[.int .u8 98, .pointer (some ⟨b2, 0, none⟩), .pointer (some ⟨b3, 0, none⟩)] w (GetP W0 gr gf ga b2 b3 st bad a 98) := by
  have KC : Hid (∀ Wa : World, Ext w Wa → Calls Try.prog 126 #[.pointer (some ⟨gr, 0, none⟩)] Wa fun e w' => e = .returned (.int .i64 (wrap64 (rdL st).1)) ∧ Rd 192 w' gr ((rdL st).2) ∧ But gr Wa w') := Lib.hid fun Wa k => by have hx := (h.ext k).rd; exact int_any gr st Wa hx
  have HG : Hid ((gtA 98 st bad a) = (((rdL st).2), bad, { a with stable := wrap64 (rdL st).1 })) := Lib.hid rfl
  obtain ⟨n1, n2, n3, n4, n5, n6, n7, n8, n9⟩ := h.ne
  obtain ⟨k2, f2, l2⟩ := blk1 h.h2
  obtain ⟨k3, f3, l3⟩ := blk1 h.h3
  obtain ⟨kf, -, -, -, lf⟩ := blk2 h.hf
  have la := heap_lt h.ha
  have H := Lib.hid h
  have hgf : gf ≠ gr := n1.symm
  have hb2 : b2 ≠ gr := n4
  have hb3 : b3 ≠ gr := n7
  clear h n1 n2 n3 n4 n5 n6 n7 n8 n9 f2 f3
  obtain ⟨So, HSo⟩ : ∃ So : Nat → Prop, Hid (So = fun j => j = gr) := ⟨_, Lib.hid rfl⟩
  have q2 : ¬ So b2 := by rw [HSo.out]; exact hb2
  have q3 : ¬ So b3 := by rw [HSo.out]; exact hb3
  have qf : ¬ So gf := by rw [HSo.out]; exact hgf
  obtain ⟨N, hV⟩ : ∃ N, (wrap64 (rdL st).1) = N := ⟨_, rfl⟩
  obtain ⟨s', hs'⟩ : ∃ s' : St, ((rdL st).2) = s' := ⟨_, rfl⟩
  obtain ⟨a', ha'⟩ : ∃ a' : AgT, ({ a with stable := wrap64 (rdL st).1 }) = a' := ⟨_, rfl⟩
  have HROW : Hid ((agC a).toArray.setIfInBounds 13 (.int .i64 N) = (agC a').toArray) := Lib.hid (by rw [← hV, ← ha']; rfl)
  rw [hV, hs'] at KC
  rw [hs', ha'] at HG
  clear hV hs' ha'
  go_enter Try.func123, Try.ntmps123
  go_upto_region 20 with fail
  have e0 := fun (ψ : World → Prop) (e : ExtS So w ψ) => e.cell k2 l2 q2
  have e1 := fun (ψ : World → Prop) (e : ExtS So w ψ) => e.cell k3 l3 q3
  have e2 := fun (ψ : World → Prop) (e : ExtS So w ψ) => e.cell kf lf qf
  refine wp_region_piecesS So 6 [(true, [0, 1, 2, 3, 4]), (false, [5])] (by kernel_rfl) (by kernel_rfl) ?_
  simp only [pick, List.map_cons, List.map_nil, List.flatMap_cons, List.flatMap_nil, Option.toList_some, List.singleton_append, List.drop_succ_cons, List.drop_zero, List.getElem?_cons_zero, List.getElem?_cons_succ]
  refine ⟨by kernel_rfl, ?_⟩; apply Exists.intro; refine ⟨fun ψ hψ hne => (by (repeat (go_big_quiet_step (( fail )))); exact wpQuiet_nil rfl), ?_⟩
  clear e0 e1 e2 k2 k3 kf
  intro Wa ha K hK
  go_wp2_with fail
  refine (KC.out Wa ha).mono ?_
  rintro e wb ⟨rfl, rb, kb⟩
  go_wp2_with fail
  refine hK _ _ (But.mut kb (by rw [HSo.out])) ?_
  clear hK K KC
  intro wc hc
  have H2 := Lib.hid (((H.out.ext ha).read rb kb).ext hc)
  have hga := H2.out.ha
  have fa : wc.frozen? ⟨ga, 13, none⟩ = false := by simp [World.frozen?, hga]
  obtain ⟨u, hu, hun⟩ : ∃ u, (agC a).toArray[13]? = some u ∧ NoB' u := ⟨_, rfl, (nb_i64 _)⟩
  have ca : wc.cell? ⟨ga, 13, none⟩ = some u := by rw [cell_of_row _ _ _ _ _ _ hga]; exact hu
  have HU := Lib.hid hu
  have lga := heap_lt hga
  have ST := Lib.hid (setCell_eq_setRow wc ga 13 _ 35 (0, 0) (.int .i64 N) hga)
  clear hga H ha rb kb hc hu
  go_wp2_with fail
  go_end0
  rw [ST.out, HROW.out]
  refine ⟨rfl, ?_⟩
  rw [HG.out]
  have := H2.out.fill ((agC a).toArray.setIfInBounds 13 (.int .i64 N)) (set_nb HU.out hun)
  rw [HROW.out] at this
  exact this
theorem getA_103 (w : World) (h : RdS W0 w gr gf ga b2 b3 35 136 st bad (agC a).toArray) (hl : st.l.length ≤ 100000) :
    Calls Try.prog 123 #[.int .u8 103, .pointer (some ⟨b2, 0, none⟩), .pointer (some ⟨b3, 0, none⟩)] w (GetP W0 gr gf ga b2 b3 st bad a 103) := by
  have KC : Hid (∀ Wa : World, Ext w Wa → Calls Try.prog 126 #[.pointer (some ⟨gr, 0, none⟩)] Wa fun e w' => e = .returned (.int .i64 (wrap64 (rdL st).1)) ∧ Rd 192 w' gr ((rdL st).2) ∧ But gr Wa w') := Lib.hid fun Wa k => by have hx := (h.ext k).rd; exact int_any gr st Wa hx
  have HG : Hid ((gtA 103 st bad a) = (((rdL st).2), bad, { a with guard := wrap64 (rdL st).1 })) := Lib.hid rfl
  obtain ⟨n1, n2, n3, n4, n5, n6, n7, n8, n9⟩ := h.ne
  obtain ⟨k2, f2, l2⟩ := blk1 h.h2
  obtain ⟨k3, f3, l3⟩ := blk1 h.h3
  obtain ⟨kf, -, -, -, lf⟩ := blk2 h.hf
  have la := heap_lt h.ha
  have H := Lib.hid h
  have hgf : gf ≠ gr := n1.symm
  have hb2 : b2 ≠ gr := n4
  have hb3 : b3 ≠ gr := n7
  clear h n1 n2 n3 n4 n5 n6 n7 n8 n9 f2 f3
  obtain ⟨So, HSo⟩ : ∃ So : Nat → Prop, Hid (So = fun j => j = gr) := ⟨_, Lib.hid rfl⟩
  have q2 : ¬ So b2 := by rw [HSo.out]; exact hb2
  have q3 : ¬ So b3 := by rw [HSo.out]; exact hb3
  have qf : ¬ So gf := by rw [HSo.out]; exact hgf
  obtain ⟨N, hV⟩ : ∃ N, (wrap64 (rdL st).1) = N := ⟨_, rfl⟩
  obtain ⟨s', hs'⟩ : ∃ s' : St, ((rdL st).2) = s' := ⟨_, rfl⟩
  obtain ⟨a', ha'⟩ : ∃ a' : AgT, ({ a with guard := wrap64 (rdL st).1 }) = a' := ⟨_, rfl⟩
  have HROW : Hid ((agC a).toArray.setIfInBounds 14 (.int .i64 N) = (agC a').toArray) := Lib.hid (by rw [← hV, ← ha']; rfl)
  rw [hV, hs'] at KC
  rw [hs', ha'] at HG
  clear hV hs' ha'
  go_enter Try.func123, Try.ntmps123
  go_upto_region 22 with fail
  have e0 := fun (ψ : World → Prop) (e : ExtS So w ψ) => e.cell k2 l2 q2
  have e1 := fun (ψ : World → Prop) (e : ExtS So w ψ) => e.cell k3 l3 q3
  have e2 := fun (ψ : World → Prop) (e : ExtS So w ψ) => e.cell kf lf qf
  refine wp_region_piecesS So 6 [(true, [0, 1, 2, 3, 4]), (false, [5])] (by kernel_rfl) (by kernel_rfl) ?_
  simp only [pick, List.map_cons, List.map_nil, List.flatMap_cons, List.flatMap_nil, Option.toList_some, List.singleton_append, List.drop_succ_cons, List.drop_zero, List.getElem?_cons_zero, List.getElem?_cons_succ]
  refine ⟨by kernel_rfl, ?_⟩; apply Exists.intro; refine ⟨fun ψ hψ hne => (by (repeat (go_big_quiet_step (( fail )))); exact wpQuiet_nil rfl), ?_⟩
  clear e0 e1 e2 k2 k3 kf
  intro Wa ha K hK
  go_wp2_with fail
  refine (KC.out Wa ha).mono ?_
  rintro e wb ⟨rfl, rb, kb⟩
  go_wp2_with fail
  refine hK _ _ (But.mut kb (by rw [HSo.out])) ?_
  clear hK K KC
  intro wc hc
  have H2 := Lib.hid (((H.out.ext ha).read rb kb).ext hc)
  have hga := H2.out.ha
  have fa : wc.frozen? ⟨ga, 14, none⟩ = false := by simp [World.frozen?, hga]
  obtain ⟨u, hu, hun⟩ : ∃ u, (agC a).toArray[14]? = some u ∧ NoB' u := ⟨_, rfl, (nb_i64 _)⟩
  have ca : wc.cell? ⟨ga, 14, none⟩ = some u := by rw [cell_of_row _ _ _ _ _ _ hga]; exact hu
  have HU := Lib.hid hu
  have lga := heap_lt hga
  have ST := Lib.hid (setCell_eq_setRow wc ga 14 _ 35 (0, 0) (.int .i64 N) hga)
  clear hga H ha rb kb hc hu
  go_wp2_with fail
  go_end0
  rw [ST.out, HROW.out]
  refine ⟨rfl, ?_⟩
  rw [HG.out]
  have := H2.out.fill ((agC a).toArray.setIfInBounds 14 (.int .i64 N)) (set_nb HU.out hun)
  rw [HROW.out] at this
  exact this
theorem getA_118 (w : World) (h : RdS W0 w gr gf ga b2 b3 35 136 st bad (agC a).toArray) (hl : st.l.length ≤ 100000) :
    Calls Try.prog 123 #[.int .u8 118, .pointer (some ⟨b2, 0, none⟩), .pointer (some ⟨b3, 0, none⟩)] w (GetP W0 gr gf ga b2 b3 st bad a 118) := by
  have KC : Hid (∀ Wa : World, Ext w Wa → Calls Try.prog 127 #[.pointer (some ⟨gr, 0, none⟩)] Wa fun e w' => e = .returned (.int .u64 ((rdL st).1)) ∧ Rd 192 w' gr ((rdL st).2) ∧ But gr Wa w') := Lib.hid fun Wa k => by have hx := (h.ext k).rd; exact long_any gr st Wa hx
  have HG : Hid ((gtA 118 st bad a) = (((rdL st).2), bad, { a with verf := (rdL st).1 })) := Lib.hid rfl
  obtain ⟨n1, n2, n3, n4, n5, n6, n7, n8, n9⟩ := h.ne
  obtain ⟨k2, f2, l2⟩ := blk1 h.h2
  obtain ⟨k3, f3, l3⟩ := blk1 h.h3
  obtain ⟨kf, -, -, -, lf⟩ := blk2 h.hf
  have la := heap_lt h.ha
  have H := Lib.hid h
  have hgf : gf ≠ gr := n1.symm
  have hb2 : b2 ≠ gr := n4
  have hb3 : b3 ≠ gr := n7
  clear h n1 n2 n3 n4 n5 n6 n7 n8 n9 f2 f3
  obtain ⟨So, HSo⟩ : ∃ So : Nat → Prop, Hid (So = fun j => j = gr) := ⟨_, Lib.hid rfl⟩
  have q2 : ¬ So b2 := by rw [HSo.out]; exact hb2
  have q3 : ¬ So b3 := by rw [HSo.out]; exact hb3
  have qf : ¬ So gf := by rw [HSo.out]; exact hgf
  obtain ⟨N, hV⟩ : ∃ N, ((rdL st).1) = N := ⟨_, rfl⟩
  obtain ⟨s', hs'⟩ : ∃ s' : St, ((rdL st).2) = s' := ⟨_, rfl⟩
  obtain ⟨a', ha'⟩ : ∃ a' : AgT, ({ a with verf := (rdL st).1 }) = a' := ⟨_, rfl⟩
  have HROW : Hid ((agC a).toArray.setIfInBounds 15 (.int .u64 N) = (agC a').toArray) := Lib.hid (by rw [← hV, ← ha']; rfl)
  rw [hV, hs'] at KC
  rw [hs', ha'] at HG
  clear hV hs' ha'
  go_enter Try.func123, Try.ntmps123
  go_upto_region 24 with fail
  have e0 := fun (ψ : World → Prop) (e : ExtS So w ψ) => e.cell k2 l2 q2
  have e1 := fun (ψ : World → Prop) (e : ExtS So w ψ) => e.cell k3 l3 q3
  have e2 := fun (ψ : World → Prop) (e : ExtS So w ψ) => e.cell kf lf qf
  refine wp_region_piecesS So 6 [(true, [0, 1, 2, 3, 4]), (false, [5])] (by kernel_rfl) (by kernel_rfl) ?_
  simp only [pick, List.map_cons, List.map_nil, List.flatMap_cons, List.flatMap_nil, Option.toList_some, List.singleton_append, List.drop_succ_cons, List.drop_zero, List.getElem?_cons_zero, List.getElem?_cons_succ]
  refine ⟨by kernel_rfl, ?_⟩; apply Exists.intro; refine ⟨fun ψ hψ hne => (by (repeat (go_big_quiet_step (( fail )))); exact wpQuiet_nil rfl), ?_⟩
  clear e0 e1 e2 k2 k3 kf
  intro Wa ha K hK
  go_wp2_with fail
  refine (KC.out Wa ha).mono ?_
  rintro e wb ⟨rfl, rb, kb⟩
  go_wp2_with fail
  refine hK _ _ (But.mut kb (by rw [HSo.out])) ?_
  clear hK K KC
  intro wc hc
  have H2 := Lib.hid (((H.out.ext ha).read rb kb).ext hc)
  have hga := H2.out.ha
  have fa : wc.frozen? ⟨ga, 15, none⟩ = false := by simp [World.frozen?, hga]
  obtain ⟨u, hu, hun⟩ : ∃ u, (agC a).toArray[15]? = some u ∧ NoB' u := ⟨_, rfl, (nb_u64 _)⟩
  have ca : wc.cell? ⟨ga, 15, none⟩ = some u := by rw [cell_of_row _ _ _ _ _ _ hga]; exact hu
  have HU := Lib.hid hu
  have lga := heap_lt hga
  have ST := Lib.hid (setCell_eq_setRow wc ga 15 _ 35 (0, 0) (.int .u64 N) hga)
  clear hga H ha rb kb hc hu
  go_wp2_with fail
  go_end0
  rw [ST.out, HROW.out]
  refine ⟨rfl, ?_⟩
  rw [HG.out]
  have := H2.out.fill ((agC a).toArray.setIfInBounds 15 (.int .u64 N)) (set_nb HU.out hun)
  rw [HROW.out] at this
  exact this
theorem getA_110 (w : World) (h : RdS W0 w gr gf ga b2 b3 35 136 st bad (agC a).toArray) (hl : st.l.length ≤ 100000) :
    Calls Try.prog 123 #[.int .u8 110, .pointer (some ⟨b2, 0, none⟩), .pointer (some ⟨b3, 0, none⟩)] w (GetP W0 gr gf ga b2 b3 st bad a 110) := by
  have KC : Hid (∀ Wa : World, Ext w Wa → Calls Try.prog 125 #[.pointer (some ⟨gr, 0, none⟩), .int .i64 255] Wa fun e w' => e = .returned (.string (str (rdT st 255).1)) ∧ Rd 192 w' gr ((rdT st 255).2) ∧ But gr Wa w') := Lib.hid fun Wa k => by have hx := (h.ext k).rd; exact text_any gr st 255 Wa hx (by omega)
  have HG : Hid ((gtA 110 st bad a) = (((rdT st 255).2), bad, { a with name := (rdT st 255).1 })) := Lib.hid rfl
  obtain ⟨n1, n2, n3, n4, n5, n6, n7, n8, n9⟩ := h.ne
  obtain ⟨k2, f2, l2⟩ := blk1 h.h2
  obtain ⟨k3, f3, l3⟩ := blk1 h.h3
  obtain ⟨kf, -, -, -, lf⟩ := blk2 h.hf
  have la := heap_lt h.ha
  have H := Lib.hid h
  have hgf : gf ≠ gr := n1.symm
  have hb2 : b2 ≠ gr := n4
  have hb3 : b3 ≠ gr := n7
  clear h n1 n2 n3 n4 n5 n6 n7 n8 n9 f2 f3
  obtain ⟨So, HSo⟩ : ∃ So : Nat → Prop, Hid (So = fun j => j = gr) := ⟨_, Lib.hid rfl⟩
  have q2 : ¬ So b2 := by rw [HSo.out]; exact hb2
  have q3 : ¬ So b3 := by rw [HSo.out]; exact hb3
  have qf : ¬ So gf := by rw [HSo.out]; exact hgf
  obtain ⟨N, hV⟩ : ∃ N, (str (rdT st 255).1) = N := ⟨_, rfl⟩
  obtain ⟨s', hs'⟩ : ∃ s' : St, ((rdT st 255).2) = s' := ⟨_, rfl⟩
  obtain ⟨a', ha'⟩ : ∃ a' : AgT, ({ a with name := (rdT st 255).1 }) = a' := ⟨_, rfl⟩
  have HROW : Hid ((agC a).toArray.setIfInBounds 6 (.string N) = (agC a').toArray) := Lib.hid (by rw [← hV, ← ha']; rfl)
  rw [hV, hs'] at KC
  rw [hs', ha'] at HG
  clear hV hs' ha'
  go_enter Try.func123, Try.ntmps123
  go_upto_region 6 with fail
  have e0 := fun (ψ : World → Prop) (e : ExtS So w ψ) => e.cell k2 l2 q2
  have e1 := fun (ψ : World → Prop) (e : ExtS So w ψ) => e.cell k3 l3 q3
  have e2 := fun (ψ : World → Prop) (e : ExtS So w ψ) => e.cell kf lf qf
  refine wp_region_piecesS So 6 [(true, [0, 1, 2, 3, 4]), (false, [5])] (by kernel_rfl) (by kernel_rfl) ?_
  simp only [pick, List.map_cons, List.map_nil, List.flatMap_cons, List.flatMap_nil, Option.toList_some, List.singleton_append, List.drop_succ_cons, List.drop_zero, List.getElem?_cons_zero, List.getElem?_cons_succ]
  refine ⟨by kernel_rfl, ?_⟩; apply Exists.intro; refine ⟨fun ψ hψ hne => (by (repeat (go_big_quiet_step (( fail )))); exact wpQuiet_nil rfl), ?_⟩
  clear e0 e1 e2 k2 k3 kf
  intro Wa ha K hK
  go_wp2_with fail
  refine (KC.out Wa ha).mono ?_
  rintro e wb ⟨rfl, rb, kb⟩
  go_wp2_with fail
  refine hK _ _ (But.mut kb (by rw [HSo.out])) ?_
  clear hK K KC
  intro wc hc
  have H2 := Lib.hid (((H.out.ext ha).read rb kb).ext hc)
  have hga := H2.out.ha
  have fa : wc.frozen? ⟨ga, 6, none⟩ = false := by simp [World.frozen?, hga]
  obtain ⟨u, hu, hun⟩ : ∃ u, (agC a).toArray[6]? = some u ∧ NoB' u := ⟨_, rfl, (nb_str _)⟩
  have ca : wc.cell? ⟨ga, 6, none⟩ = some u := by rw [cell_of_row _ _ _ _ _ _ hga]; exact hu
  have HU := Lib.hid hu
  have lga := heap_lt hga
  have ST := Lib.hid (setCell_eq_setRow wc ga 6 _ 35 (0, 0) (.string N) hga)
  clear hga H ha rb kb hc hu
  go_wp2_with fail
  go_end0
  rw [ST.out, HROW.out]
  refine ⟨rfl, ?_⟩
  rw [HG.out]
  have := H2.out.fill ((agC a).toArray.setIfInBounds 6 (.string N)) (set_nb HU.out hun)
  rw [HROW.out] at this
  exact this
theorem getA_111 (w : World) (h : RdS W0 w gr gf ga b2 b3 35 136 st bad (agC a).toArray) (hl : st.l.length ≤ 100000) :
    Calls Try.prog 123 #[.int .u8 111, .pointer (some ⟨b2, 0, none⟩), .pointer (some ⟨b3, 0, none⟩)] w (GetP W0 gr gf ga b2 b3 st bad a 111) := by
  have KC : Hid (∀ Wa : World, Ext w Wa → Calls Try.prog 125 #[.pointer (some ⟨gr, 0, none⟩), .int .i64 255] Wa fun e w' => e = .returned (.string (str (rdT st 255).1)) ∧ Rd 192 w' gr ((rdT st 255).2) ∧ But gr Wa w') := Lib.hid fun Wa k => by have hx := (h.ext k).rd; exact text_any gr st 255 Wa hx (by omega)
  have HG : Hid ((gtA 111 st bad a) = (((rdT st 255).2), bad, { a with other := (rdT st 255).1 })) := Lib.hid rfl
  obtain ⟨n1, n2, n3, n4, n5, n6, n7, n8, n9⟩ := h.ne
  obtain ⟨k2, f2, l2⟩ := blk1 h.h2
  obtain ⟨k3, f3, l3⟩ := blk1 h.h3
  obtain ⟨kf, -, -, -, lf⟩ := blk2 h.hf
  have la := heap_lt h.ha
  have H := Lib.hid h
  have hgf : gf ≠ gr := n1.symm
  have hb2 : b2 ≠ gr := n4
  have hb3 : b3 ≠ gr := n7
  clear h n1 n2 n3 n4 n5 n6 n7 n8 n9 f2 f3
  obtain ⟨So, HSo⟩ : ∃ So : Nat → Prop, Hid (So = fun j => j = gr) := ⟨_, Lib.hid rfl⟩
  have q2 : ¬ So b2 := by rw [HSo.out]; exact hb2
  have q3 : ¬ So b3 := by rw [HSo.out]; exact hb3
  have qf : ¬ So gf := by rw [HSo.out]; exact hgf
  obtain ⟨N, hV⟩ : ∃ N, (str (rdT st 255).1) = N := ⟨_, rfl⟩
  obtain ⟨s', hs'⟩ : ∃ s' : St, ((rdT st 255).2) = s' := ⟨_, rfl⟩
  obtain ⟨a', ha'⟩ : ∃ a' : AgT, ({ a with other := (rdT st 255).1 }) = a' := ⟨_, rfl⟩
  have HROW : Hid ((agC a).toArray.setIfInBounds 7 (.string N) = (agC a').toArray) := Lib.hid (by rw [← hV, ← ha']; rfl)
  rw [hV, hs'] at KC
  rw [hs', ha'] at HG
  clear hV hs' ha'
  go_enter Try.func123, Try.ntmps123
  go_upto_region 8 with fail
  have e0 := fun (ψ : World → Prop) (e : ExtS So w ψ) => e.cell k2 l2 q2
  have e1 := fun (ψ : World → Prop) (e : ExtS So w ψ) => e.cell k3 l3 q3
  have e2 := fun (ψ : World → Prop) (e : ExtS So w ψ) => e.cell kf lf qf
  refine wp_region_piecesS So 6 [(true, [0, 1, 2, 3, 4]), (false, [5])] (by kernel_rfl) (by kernel_rfl) ?_
  simp only [pick, List.map_cons, List.map_nil, List.flatMap_cons, List.flatMap_nil, Option.toList_some, List.singleton_append, List.drop_succ_cons, List.drop_zero, List.getElem?_cons_zero, List.getElem?_cons_succ]
  refine ⟨by kernel_rfl, ?_⟩; apply Exists.intro; refine ⟨fun ψ hψ hne => (by (repeat (go_big_quiet_step (( fail )))); exact wpQuiet_nil rfl), ?_⟩
  clear e0 e1 e2 k2 k3 kf
  intro Wa ha K hK
  go_wp2_with fail
  refine (KC.out Wa ha).mono ?_
  rintro e wb ⟨rfl, rb, kb⟩
  go_wp2_with fail
  refine hK _ _ (But.mut kb (by rw [HSo.out])) ?_
  clear hK K KC
  intro wc hc
  have H2 := Lib.hid (((H.out.ext ha).read rb kb).ext hc)
  have hga := H2.out.ha
  have fa : wc.frozen? ⟨ga, 7, none⟩ = false := by simp [World.frozen?, hga]
  obtain ⟨u, hu, hun⟩ : ∃ u, (agC a).toArray[7]? = some u ∧ NoB' u := ⟨_, rfl, (nb_str _)⟩
  have ca : wc.cell? ⟨ga, 7, none⟩ = some u := by rw [cell_of_row _ _ _ _ _ _ hga]; exact hu
  have HU := Lib.hid hu
  have lga := heap_lt hga
  have ST := Lib.hid (setCell_eq_setRow wc ga 7 _ 35 (0, 0) (.string N) hga)
  clear hga H ha rb kb hc hu
  go_wp2_with fail
  go_end0
  rw [ST.out, HROW.out]
  refine ⟨rfl, ?_⟩
  rw [HG.out]
  have := H2.out.fill ((agC a).toArray.setIfInBounds 7 (.string N)) (set_nb HU.out hun)
  rw [HROW.out] at this
  exact this
theorem getA_120 (w : World) (h : RdS W0 w gr gf ga b2 b3 35 136 st bad (agC a).toArray) (hl : st.l.length ≤ 100000) :
    Calls Try.prog 123 #[.int .u8 120, .pointer (some ⟨b2, 0, none⟩), .pointer (some ⟨b3, 0, none⟩)] w (GetP W0 gr gf ga b2 b3 st bad a 120) := by
  have KC : Hid (∀ Wa : World, Ext w Wa → Calls Try.prog 125 #[.pointer (some ⟨gr, 0, none⟩), .int .i64 2048] Wa fun e w' => e = .returned (.string (str (rdT st 2048).1)) ∧ Rd 192 w' gr ((rdT st 2048).2) ∧ But gr Wa w') := Lib.hid fun Wa k => by have hx := (h.ext k).rd; exact text_any gr st 2048 Wa hx (by omega)
  have HG : Hid ((gtA 120 st bad a) = (((rdT st 2048).2), bad, { a with text := (rdT st 2048).1 })) := Lib.hid rfl
  obtain ⟨n1, n2, n3, n4, n5, n6, n7, n8, n9⟩ := h.ne
  obtain ⟨k2, f2, l2⟩ := blk1 h.h2
  obtain ⟨k3, f3, l3⟩ := blk1 h.h3
  obtain ⟨kf, -, -, -, lf⟩ := blk2 h.hf
  have la := heap_lt h.ha
  have H := Lib.hid h
  have hgf : gf ≠ gr := n1.symm
  have hb2 : b2 ≠ gr := n4
  have hb3 : b3 ≠ gr := n7
  clear h n1 n2 n3 n4 n5 n6 n7 n8 n9 f2 f3
  obtain ⟨So, HSo⟩ : ∃ So : Nat → Prop, Hid (So = fun j => j = gr) := ⟨_, Lib.hid rfl⟩
  have q2 : ¬ So b2 := by rw [HSo.out]; exact hb2
  have q3 : ¬ So b3 := by rw [HSo.out]; exact hb3
  have qf : ¬ So gf := by rw [HSo.out]; exact hgf
  obtain ⟨N, hV⟩ : ∃ N, (str (rdT st 2048).1) = N := ⟨_, rfl⟩
  obtain ⟨s', hs'⟩ : ∃ s' : St, ((rdT st 2048).2) = s' := ⟨_, rfl⟩
  obtain ⟨a', ha'⟩ : ∃ a' : AgT, ({ a with text := (rdT st 2048).1 }) = a' := ⟨_, rfl⟩
  have HROW : Hid ((agC a).toArray.setIfInBounds 8 (.string N) = (agC a').toArray) := Lib.hid (by rw [← hV, ← ha']; rfl)
  rw [hV, hs'] at KC
  rw [hs', ha'] at HG
  clear hV hs' ha'
  go_enter Try.func123, Try.ntmps123
  go_upto_region 10 with fail
  have e0 := fun (ψ : World → Prop) (e : ExtS So w ψ) => e.cell k2 l2 q2
  have e1 := fun (ψ : World → Prop) (e : ExtS So w ψ) => e.cell k3 l3 q3
  have e2 := fun (ψ : World → Prop) (e : ExtS So w ψ) => e.cell kf lf qf
  refine wp_region_piecesS So 6 [(true, [0, 1, 2, 3, 4]), (false, [5])] (by kernel_rfl) (by kernel_rfl) ?_
  simp only [pick, List.map_cons, List.map_nil, List.flatMap_cons, List.flatMap_nil, Option.toList_some, List.singleton_append, List.drop_succ_cons, List.drop_zero, List.getElem?_cons_zero, List.getElem?_cons_succ]
  refine ⟨by kernel_rfl, ?_⟩; apply Exists.intro; refine ⟨fun ψ hψ hne => (by (repeat (go_big_quiet_step (( fail )))); exact wpQuiet_nil rfl), ?_⟩
  clear e0 e1 e2 k2 k3 kf
  intro Wa ha K hK
  go_wp2_with fail
  refine (KC.out Wa ha).mono ?_
  rintro e wb ⟨rfl, rb, kb⟩
  go_wp2_with fail
  refine hK _ _ (But.mut kb (by rw [HSo.out])) ?_
  clear hK K KC
  intro wc hc
  have H2 := Lib.hid (((H.out.ext ha).read rb kb).ext hc)
  have hga := H2.out.ha
  have fa : wc.frozen? ⟨ga, 8, none⟩ = false := by simp [World.frozen?, hga]
  obtain ⟨u, hu, hun⟩ : ∃ u, (agC a).toArray[8]? = some u ∧ NoB' u := ⟨_, rfl, (nb_str _)⟩
  have ca : wc.cell? ⟨ga, 8, none⟩ = some u := by rw [cell_of_row _ _ _ _ _ _ hga]; exact hu
  have HU := Lib.hid hu
  have lga := heap_lt hga
  have ST := Lib.hid (setCell_eq_setRow wc ga 8 _ 35 (0, 0) (.string N) hga)
  clear hga H ha rb kb hc hu
  go_wp2_with fail
  go_end0
  rw [ST.out, HROW.out]
  refine ⟨rfl, ?_⟩
  rw [HG.out]
  have := H2.out.fill ((agC a).toArray.setIfInBounds 8 (.string N)) (set_nb HU.out hun)
  rw [HROW.out] at this
  exact this
end
end Go.Proofs.Yteahlnoonmfjhaa
