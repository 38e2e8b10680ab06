/- Results: a letter's field is read. -/
import Derived.Test.YteahlnoonmfjhaaRsI
import Derived.Test.YteahlnoonmfjhaaRsD
set_option linter.unusedVariables false
set_option maxRecDepth 100000
namespace Go.Proofs.Yteahlnoonmfjhaa
open Go.RowKit

/-- What reading a letter's field makes: of the reader, of whether it is bad, of the result. -/
def gtR (c : UInt8) (s : St) (bad : Bool) (x : RsT) : St × Bool × RsT :=
  if c = 72 then ((rdX s 24).2, bad || (dec (rdX s 24).1).isNone, { x with h := (dec (rdX s 24).1).getD (0, 0, 0) })
  else if c = 65 then ((rdAt s).1, bad || (rdAt s).2.1, { x with at_ := (rdAt s).2.2 })
  else if c = 120 then ((rdT s 2048).2, bad, { x with text := (rdT s 2048).1 })
  else if c = 78 then ((rdL s).2, bad, { x with n := wrap64 (rdL s).1 }) else if c = 102 then ((rdL s).2, bad, { x with free := wrap64 (rdL s).1 })
  else if c = 117 then ((rdL s).2, bad, { x with used := (rdL s).1 }) else if c = 101 then ((rdF s).2, bad, { x with end_ := (rdF s).1 })
  else if c = 69 then ((rdE s).2, bad, { x with ents := (rdE s).1 }) else if c = 118 then ((rdL s).2, bad, { x with verf := (rdL s).1 }) else (s, bad, x)
theorem nb_slice (A : Option Addr) (n c : Nat) : NoB' (.slice A n c) := fun x h => by simp [bv] at h
abbrev RdR (W0 w : World) (gr gf ga b2 b3 : Nat) (st : St) (bad : Bool) (x : RsT) (rv : Value) : Prop := RdS W0 w gr gf ga b2 b3 41 155 st bad (rsC x rv).toArray
/-- The entries, a row of one's own. -/
abbrev EnO (w : World) (B : Nat) (rv : Value) (l : List EnT) : Prop := OwnR w B 66 3 EC rv l.length (l.flatMap enC)
section
variable {W0 : World} {gr gf ga b2 b3 : Nat} {st : St} {bad : Bool} {x : RsT} {rv : Value}
/-- The post of a letter's reading. -/
def GetR (w : World) (gr gf ga b2 b3 : Nat) (st : St) (bad : Bool) (x : RsT) (rv : Value) (c : UInt8) (e : Ending) (w' : World) : Prop :=
  e = .returned (.tuple #[]) ∧ ∃ s' rv', (c ≠ 65 → s' = (gtR c st bad x).1) ∧ SameH (gtR c st bad x).1 s' ∧ RdR w w' gr gf ga b2 b3 s' (gtR c st bad x).2.1 (gtR c st bad x).2.2 rv' ∧ (c ≠ 69 → rv' = rv) ∧ (c = 69 → EnO w' w.heap.size rv' (gtR c st bad x).2.2.ents)
theorem getR_78 (w : World) (h : RdR w w gr gf ga b2 b3 st bad x rv) (hl : st.l.length ≤ 100000) :
    Calls Try.prog 136 #[.int .u8 78, .pointer (some ⟨b2, 0, none⟩), .pointer (some ⟨b3, 0, none⟩)] w (GetR w gr gf ga b2 b3 st bad x rv 78) := by
  have KC : Hid (∀ Wa : World, Ext w Wa → Calls Try.prog 126 #[.pointer (some ⟨gr, 0, none⟩)] Wa fun e w' => e = .returned (.int .i64 (wrap64 (rdL st).1)) ∧ Rd 192 w' gr ((rdL st).2) ∧ But gr Wa w') := Lib.hid fun Wa k => by have hx := (h.ext k).rd; exact int_any gr st Wa hx
  have HG : Hid ((gtR 78 st bad x) = (((rdL st).2), bad, { x with n := wrap64 (rdL st).1 })) := Lib.hid rfl
  obtain ⟨n1, n2, n3, n4, n5, n6, n7, n8, n9⟩ := h.ne
  obtain ⟨k2, f2, l2⟩ := blk1 h.h2
  obtain ⟨k3, f3, l3⟩ := blk1 h.h3
  obtain ⟨kf, -, -, -, lf⟩ := blk2 h.hf
  have la := heap_lt h.ha
  have H := Lib.hid h
  have hgf : gf ≠ gr := n1.symm
  have hb2 : b2 ≠ gr := n4
  have hb3 : b3 ≠ gr := n7
  clear h n1 n2 n3 n4 n5 n6 n7 n8 n9 f2 f3
  obtain ⟨So, HSo⟩ : ∃ So : Nat → Prop, Hid (So = fun j => j = gr) := ⟨_, Lib.hid rfl⟩
  have q2 : ¬ So b2 := by rw [HSo.out]; exact hb2
  have q3 : ¬ So b3 := by rw [HSo.out]; exact hb3
  have qf : ¬ So gf := by rw [HSo.out]; exact hgf
  obtain ⟨N, hV⟩ : ∃ N, (wrap64 (rdL st).1) = N := ⟨_, rfl⟩
  obtain ⟨s', hs'⟩ : ∃ s' : St, ((rdL st).2) = s' := ⟨_, rfl⟩
  obtain ⟨x', hx'⟩ : ∃ x' : RsT, ({ x with n := wrap64 (rdL st).1 }) = x' := ⟨_, rfl⟩
  have HROW : Hid ((rsC x rv).toArray.setIfInBounds 13 (.int .i64 N) = (rsC x' rv).toArray) := Lib.hid (by rw [← hV, ← hx']; rfl)
  rw [hV, hs'] at KC
  rw [hs', hx'] at HG
  clear hV hs' hx'
  go_enter Try.func136, Try.ntmps136
  go_upto_region 8 with fail
  have e0 := fun (ψ : World → Prop) (e : ExtS So w ψ) => e.cell k2 l2 q2
  have e1 := fun (ψ : World → Prop) (e : ExtS So w ψ) => e.cell k3 l3 q3
  have e2 := fun (ψ : World → Prop) (e : ExtS So w ψ) => e.cell kf lf qf
  refine wp_region_piecesS So 6 [(true, [0, 1, 2, 3, 4]), (false, [5])] (by kernel_rfl) (by kernel_rfl) ?_
  simp only [pick, List.map_cons, List.map_nil, List.flatMap_cons, List.flatMap_nil, Option.toList_some, List.singleton_append, List.drop_succ_cons, List.drop_zero, List.getElem?_cons_zero, List.getElem?_cons_succ]
  refine ⟨by kernel_rfl, ?_⟩; apply Exists.intro; refine ⟨fun ψ hψ hne => (by (repeat (go_big_quiet_step (( fail )))); exact wpQuiet_nil rfl), ?_⟩
  clear e0 e1 e2 k2 k3 kf
  intro Wa ha K hK
  go_wp2_with fail
  refine (KC.out Wa ha).mono ?_
  rintro e wb ⟨rfl, rb, kb⟩
  go_wp2_with fail
  refine hK _ _ (But.mut kb (by rw [HSo.out])) ?_
  clear hK K KC
  intro wc hc
  have H2 := Lib.hid (((H.out.ext ha).read rb kb).ext hc)
  have hga := H2.out.ha
  have fa : wc.frozen? ⟨ga, 13, none⟩ = false := by simp [World.frozen?, hga]
  obtain ⟨u, hu, hun⟩ : ∃ u, (rsC x rv).toArray[13]? = some u ∧ NoB' u := ⟨_, rfl, (nb_i64 _)⟩
  have ca : wc.cell? ⟨ga, 13, none⟩ = some u := by rw [cell_of_row _ _ _ _ _ _ hga]; exact hu
  have HU := Lib.hid hu
  have lga := heap_lt hga
  have ST := Lib.hid (setCell_eq_setRow wc ga 13 _ 41 (0, 0) (.int .i64 N) hga)
  clear hga H ha rb kb hc hu
  go_wp2_with fail
  go_end0
  rw [ST.out, HROW.out]
  unfold GetR
  rw [HG.out]
  have := H2.out.fill ((rsC x rv).toArray.setIfInBounds 13 (.int .i64 N)) (set_nb HU.out hun)
  rw [HROW.out] at this
  exact ⟨rfl, _, rv, fun _ => rfl, SameH.refl _, this, fun _ => rfl, fun h => absurd h (by decide)⟩
theorem getR_102 (w : World) (h : RdR w w gr gf ga b2 b3 st bad x rv) (hl : st.l.length ≤ 100000) :
    Calls Try.prog 136 #[.int .u8 102, .pointer (some ⟨b2, 0, none⟩), .pointer (some ⟨b3, 0, none⟩)] w (GetR w gr gf ga b2 b3 st bad x rv 102) := by
  have KC : Hid (∀ Wa : World, Ext w Wa → Calls Try.prog 126 #[.pointer (some ⟨gr, 0, none⟩)] Wa fun e w' => e = .returned (.int .i64 (wrap64 (rdL st).1)) ∧ Rd 192 w' gr ((rdL st).2) ∧ But gr Wa w') := Lib.hid fun Wa k => by have hx := (h.ext k).rd; exact int_any gr st Wa hx
  have HG : Hid ((gtR 102 st bad x) = (((rdL st).2), bad, { x with free := wrap64 (rdL st).1 })) := Lib.hid rfl
  obtain ⟨n1, n2, n3, n4, n5, n6, n7, n8, n9⟩ := h.ne
  obtain ⟨k2, f2, l2⟩ := blk1 h.h2
  obtain ⟨k3, f3, l3⟩ := blk1 h.h3
  obtain ⟨kf, -, -, -, lf⟩ := blk2 h.hf
  have la := heap_lt h.ha
  have H := Lib.hid h
  have hgf : gf ≠ gr := n1.symm
  have hb2 : b2 ≠ gr := n4
  have hb3 : b3 ≠ gr := n7
  clear h n1 n2 n3 n4 n5 n6 n7 n8 n9 f2 f3
  obtain ⟨So, HSo⟩ : ∃ So : Nat → Prop, Hid (So = fun j => j = gr) := ⟨_, Lib.hid rfl⟩
  have q2 : ¬ So b2 := by rw [HSo.out]; exact hb2
  have q3 : ¬ So b3 := by rw [HSo.out]; exact hb3
  have qf : ¬ So gf := by rw [HSo.out]; exact hgf
  obtain ⟨N, hV⟩ : ∃ N, (wrap64 (rdL st).1) = N := ⟨_, rfl⟩
  obtain ⟨s', hs'⟩ : ∃ s' : St, ((rdL st).2) = s' := ⟨_, rfl⟩
  obtain ⟨x', hx'⟩ : ∃ x' : RsT, ({ x with free := wrap64 (rdL st).1 }) = x' := ⟨_, rfl⟩
  have HROW : Hid ((rsC x rv).toArray.setIfInBounds 14 (.int .i64 N) = (rsC x' rv).toArray) := Lib.hid (by rw [← hV, ← hx']; rfl)
  rw [hV, hs'] at KC
  rw [hs', hx'] at HG
  clear hV hs' hx'
  go_enter Try.func136, Try.ntmps136
  go_upto_region 10 with fail
  have e0 := fun (ψ : World → Prop) (e : ExtS So w ψ) => e.cell k2 l2 q2
  have e1 := fun (ψ : World → Prop) (e : ExtS So w ψ) => e.cell k3 l3 q3
  have e2 := fun (ψ : World → Prop) (e : ExtS So w ψ) => e.cell kf lf qf
  refine wp_region_piecesS So 6 [(true, [0, 1, 2, 3, 4]), (false, [5])] (by kernel_rfl) (by kernel_rfl) ?_
  simp only [pick, List.map_cons, List.map_nil, List.flatMap_cons, List.flatMap_nil, Option.toList_some, List.singleton_append, List.drop_succ_cons, List.drop_zero, List.getElem?_cons_zero, List.getElem?_cons_succ]
  refine ⟨by kernel_rfl, ?_⟩; apply Exists.intro; refine ⟨fun ψ hψ hne => (by (repeat (go_big_quiet_step (( fail )))); exact wpQuiet_nil rfl), ?_⟩
  clear e0 e1 e2 k2 k3 kf
  intro Wa ha K hK
  go_wp2_with fail
  refine (KC.out Wa ha).mono ?_
  rintro e wb ⟨rfl, rb, kb⟩
  go_wp2_with fail
  refine hK _ _ (But.mut kb (by rw [HSo.out])) ?_
  clear hK K KC
  intro wc hc
  have H2 := Lib.hid (((H.out.ext ha).read rb kb).ext hc)
  have hga := H2.out.ha
  have fa : wc.frozen? ⟨ga, 14, none⟩ = false := by simp [World.frozen?, hga]
  obtain ⟨u, hu, hun⟩ : ∃ u, (rsC x rv).toArray[14]? = some u ∧ NoB' u := ⟨_, rfl, (nb_i64 _)⟩
  have ca : wc.cell? ⟨ga, 14, none⟩ = some u := by rw [cell_of_row _ _ _ _ _ _ hga]; exact hu
  have HU := Lib.hid hu
  have lga := heap_lt hga
  have ST := Lib.hid (setCell_eq_setRow wc ga 14 _ 41 (0, 0) (.int .i64 N) hga)
  clear hga H ha rb kb hc hu
  go_wp2_with fail
  go_end0
  rw [ST.out, HROW.out]
  unfold GetR
  rw [HG.out]
  have := H2.out.fill ((rsC x rv).toArray.setIfInBounds 14 (.int .i64 N)) (set_nb HU.out hun)
  rw [HROW.out] at this
  exact ⟨rfl, _, rv, fun _ => rfl, SameH.refl _, this, fun _ => rfl, fun h => absurd h (by decide)⟩
theorem getR_117 (w : World) (h : RdR w w gr gf ga b2 b3 st bad x rv) (hl : st.l.length ≤ 100000) :
    Calls Try.prog 136 #[.int .u8 117, .pointer (some ⟨b2, 0, none⟩), .pointer (some ⟨b3, 0, none⟩)] w (GetR w gr gf ga b2 b3 st bad x rv 117) := by
  have KC : Hid (∀ Wa : World, Ext w Wa → Calls Try.prog 127 #[.pointer (some ⟨gr, 0, none⟩)] Wa fun e w' => e = .returned (.int .u64 ((rdL st).1)) ∧ Rd 192 w' gr ((rdL st).2) ∧ But gr Wa w') := Lib.hid fun Wa k => by have hx := (h.ext k).rd; exact long_any gr st Wa hx
  have HG : Hid ((gtR 117 st bad x) = (((rdL st).2), bad, { x with used := (rdL st).1 })) := Lib.hid rfl
  obtain ⟨n1, n2, n3, n4, n5, n6, n7, n8, n9⟩ := h.ne
  obtain ⟨k2, f2, l2⟩ := blk1 h.h2
  obtain ⟨k3, f3, l3⟩ := blk1 h.h3
  obtain ⟨kf, -, -, -, lf⟩ := blk2 h.hf
  have la := heap_lt h.ha
  have H := Lib.hid h
  have hgf : gf ≠ gr := n1.symm
  have hb2 : b2 ≠ gr := n4
  have hb3 : b3 ≠ gr := n7
  clear h n1 n2 n3 n4 n5 n6 n7 n8 n9 f2 f3
  obtain ⟨So, HSo⟩ : ∃ So : Nat → Prop, Hid (So = fun j => j = gr) := ⟨_, Lib.hid rfl⟩
  have q2 : ¬ So b2 := by rw [HSo.out]; exact hb2
  have q3 : ¬ So b3 := by rw [HSo.out]; exact hb3
  have qf : ¬ So gf := by rw [HSo.out]; exact hgf
  obtain ⟨N, hV⟩ : ∃ N, ((rdL st).1) = N := ⟨_, rfl⟩
  obtain ⟨s', hs'⟩ : ∃ s' : St, ((rdL st).2) = s' := ⟨_, rfl⟩
  obtain ⟨x', hx'⟩ : ∃ x' : RsT, ({ x with used := (rdL st).1 }) = x' := ⟨_, rfl⟩
  have HROW : Hid ((rsC x rv).toArray.setIfInBounds 15 (.int .u64 N) = (rsC x' rv).toArray) := Lib.hid (by rw [← hV, ← hx']; rfl)
  rw [hV, hs'] at KC
  rw [hs', hx'] at HG
  clear hV hs' hx'
  go_enter Try.func136, Try.ntmps136
  go_upto_region 12 with fail
  have e0 := fun (ψ : World → Prop) (e : ExtS So w ψ) => e.cell k2 l2 q2
  have e1 := fun (ψ : World → Prop) (e : ExtS So w ψ) => e.cell k3 l3 q3
  have e2 := fun (ψ : World → Prop) (e : ExtS So w ψ) => e.cell kf lf qf
  refine wp_region_piecesS So 6 [(true, [0, 1, 2, 3, 4]), (false, [5])] (by kernel_rfl) (by kernel_rfl) ?_
  simp only [pick, List.map_cons, List.map_nil, List.flatMap_cons, List.flatMap_nil, Option.toList_some, List.singleton_append, List.drop_succ_cons, List.drop_zero, List.getElem?_cons_zero, List.getElem?_cons_succ]
  refine ⟨by kernel_rfl, ?_⟩; apply Exists.intro; refine ⟨fun ψ hψ hne => (by (repeat (go_big_quiet_step (( fail )))); exact wpQuiet_nil rfl), ?_⟩
  clear e0 e1 e2 k2 k3 kf
  intro Wa ha K hK
  go_wp2_with fail
  refine (KC.out Wa ha).mono ?_
  rintro e wb ⟨rfl, rb, kb⟩
  go_wp2_with fail
  refine hK _ _ (But.mut kb (by rw [HSo.out])) ?_
  clear hK K KC
  intro wc hc
  have H2 := Lib.hid (((H.out.ext ha).read rb kb).ext hc)
  have hga := H2.out.ha
  have fa : wc.frozen? ⟨ga, 15, none⟩ = false := by simp [World.frozen?, hga]
  obtain ⟨u, hu, hun⟩ : ∃ u, (rsC x rv).toArray[15]? = some u ∧ NoB' u := ⟨_, rfl, (nb_u64 _)⟩
  have ca : wc.cell? ⟨ga, 15, none⟩ = some u := by rw [cell_of_row _ _ _ _ _ _ hga]; exact hu
  have HU := Lib.hid hu
  have lga := heap_lt hga
  have ST := Lib.hid (setCell_eq_setRow wc ga 15 _ 41 (0, 0) (.int .u64 N) hga)
  clear hga H ha rb kb hc hu
  go_wp2_with fail
  go_end0
  rw [ST.out, HROW.out]
  unfold GetR
  rw [HG.out]
  have := H2.out.fill ((rsC x rv).toArray.setIfInBounds 15 (.int .u64 N)) (set_nb HU.out hun)
  rw [HROW.out] at this
  exact ⟨rfl, _, rv, fun _ => rfl, SameH.refl _, this, fun _ => rfl, fun h => absurd h (by decide)⟩
theorem getR_118 (w : World) (h : RdR w w gr gf ga b2 b3 st bad x rv) (hl : st.l.length ≤ 100000) :
    Calls Try.prog 136 #[.int .u8 118, .pointer (some ⟨b2, 0, none⟩), .pointer (some ⟨b3, 0, none⟩)] w (GetR w gr gf ga b2 b3 st bad x rv 118) := by
  have KC : Hid (∀ Wa : World, Ext w Wa → Calls Try.prog 127 #[.pointer (some ⟨gr, 0, none⟩)] Wa fun e w' => e = .returned (.int .u64 ((rdL st).1)) ∧ Rd 192 w' gr ((rdL st).2) ∧ But gr Wa w') := Lib.hid fun Wa k => by have hx := (h.ext k).rd; exact long_any gr st Wa hx
  have HG : Hid ((gtR 118 st bad x) = (((rdL st).2), bad, { x with verf := (rdL st).1 })) := Lib.hid rfl
  obtain ⟨n1, n2, n3, n4, n5, n6, n7, n8, n9⟩ := h.ne
  obtain ⟨k2, f2, l2⟩ := blk1 h.h2
  obtain ⟨k3, f3, l3⟩ := blk1 h.h3
  obtain ⟨kf, -, -, -, lf⟩ := blk2 h.hf
  have la := heap_lt h.ha
  have H := Lib.hid h
  have hgf : gf ≠ gr := n1.symm
  have hb2 : b2 ≠ gr := n4
  have hb3 : b3 ≠ gr := n7
  clear h n1 n2 n3 n4 n5 n6 n7 n8 n9 f2 f3
  obtain ⟨So, HSo⟩ : ∃ So : Nat → Prop, Hid (So = fun j => j = gr) := ⟨_, Lib.hid rfl⟩
  have q2 : ¬ So b2 := by rw [HSo.out]; exact hb2
  have q3 : ¬ So b3 := by rw [HSo.out]; exact hb3
  have qf : ¬ So gf := by rw [HSo.out]; exact hgf
  obtain ⟨N, hV⟩ : ∃ N, ((rdL st).1) = N := ⟨_, rfl⟩
  obtain ⟨s', hs'⟩ : ∃ s' : St, ((rdL st).2) = s' := ⟨_, rfl⟩
  obtain ⟨x', hx'⟩ : ∃ x' : RsT, ({ x with verf := (rdL st).1 }) = x' := ⟨_, rfl⟩
  have HROW : Hid ((rsC x rv).toArray.setIfInBounds 18 (.int .u64 N) = (rsC x' rv).toArray) := Lib.hid (by rw [← hV, ← hx']; rfl)
  rw [hV, hs'] at KC
  rw [hs', hx'] at HG
  clear hV hs' hx'
  go_enter Try.func136, Try.ntmps136
  go_upto_region 18 with fail
  have e0 := fun (ψ : World → Prop) (e : ExtS So w ψ) => e.cell k2 l2 q2
  have e1 := fun (ψ : World → Prop) (e : ExtS So w ψ) => e.cell k3 l3 q3
  have e2 := fun (ψ : World → Prop) (e : ExtS So w ψ) => e.cell kf lf qf
  refine wp_region_piecesS So 6 [(true, [0, 1, 2, 3, 4]), (false, [5])] (by kernel_rfl) (by kernel_rfl) ?_
  simp only [pick, List.map_cons, List.map_nil, List.flatMap_cons, List.flatMap_nil, Option.toList_some, List.singleton_append, List.drop_succ_cons, List.drop_zero, List.getElem?_cons_zero, List.getElem?_cons_succ]
  refine ⟨by kernel_rfl, ?_⟩; apply Exists.intro; refine ⟨fun ψ hψ hne => (by (repeat (go_big_quiet_step (( fail )))); exact wpQuiet_nil rfl), ?_⟩
  clear e0 e1 e2 k2 k3 kf
  intro Wa ha K hK
  go_wp2_with fail
  refine (KC.out Wa ha).mono ?_
  rintro e wb ⟨rfl, rb, kb⟩
  go_wp2_with fail
  refine hK _ _ (But.mut kb (by rw [HSo.out])) ?_
  clear hK K KC
  intro wc hc
  have H2 := Lib.hid (((H.out.ext ha).read rb kb).ext hc)
  have hga := H2.out.ha
  have fa : wc.frozen? ⟨ga, 18, none⟩ = false := by simp [World.frozen?, hga]
  obtain ⟨u, hu, hun⟩ : ∃ u, (rsC x rv).toArray[18]? = some u ∧ NoB' u := ⟨_, rfl, (nb_u64 _)⟩
  have ca : wc.cell? ⟨ga, 18, none⟩ = some u := by rw [cell_of_row _ _ _ _ _ _ hga]; exact hu
  have HU := Lib.hid hu
  have lga := heap_lt hga
  have ST := Lib.hid (setCell_eq_setRow wc ga 18 _ 41 (0, 0) (.int .u64 N) hga)
  clear hga H ha rb kb hc hu
  go_wp2_with fail
  go_end0
  rw [ST.out, HROW.out]
  unfold GetR
  rw [HG.out]
  have := H2.out.fill ((rsC x rv).toArray.setIfInBounds 18 (.int .u64 N)) (set_nb HU.out hun)
  rw [HROW.out] at this
  exact ⟨rfl, _, rv, fun _ => rfl, SameH.refl _, this, fun _ => rfl, fun h => absurd h (by decide)⟩
theorem getR_120 (w : World) (h : RdR w w gr gf ga b2 b3 st bad x rv) (hl : st.l.length ≤ 100000) :
    Calls Try.prog 136 #[.int .u8 120, .pointer (some ⟨b2, 0, none⟩), .pointer (some ⟨b3, 0, none⟩)] w (GetR w gr gf ga b2 b3 st bad x rv 120) := by
  have KC : Hid (∀ Wa : World, Ext w Wa → Calls Try.prog 125 #[.pointer (some ⟨gr, 0, none⟩), .int .i64 2048] Wa fun e w' => e = .returned (.string (str (rdT st 2048).1)) ∧ Rd 192 w' gr ((rdT st 2048).2) ∧ But gr Wa w') := Lib.hid fun Wa k => by have hx := (h.ext k).rd; exact text_any gr st 2048 Wa hx (by omega)
  have HG : Hid ((gtR 120 st bad x) = (((rdT st 2048).2), bad, { x with text := (rdT st 2048).1 })) := Lib.hid rfl
  obtain ⟨n1, n2, n3, n4, n5, n6, n7, n8, n9⟩ := h.ne
  obtain ⟨k2, f2, l2⟩ := blk1 h.h2
  obtain ⟨k3, f3, l3⟩ := blk1 h.h3
  obtain ⟨kf, -, -, -, lf⟩ := blk2 h.hf
  have la := heap_lt h.ha
  have H := Lib.hid h
  have hgf : gf ≠ gr := n1.symm
  have hb2 : b2 ≠ gr := n4
  have hb3 : b3 ≠ gr := n7
  clear h n1 n2 n3 n4 n5 n6 n7 n8 n9 f2 f3
  obtain ⟨So, HSo⟩ : ∃ So : Nat → Prop, Hid (So = fun j => j = gr) := ⟨_, Lib.hid rfl⟩
  have q2 : ¬ So b2 := by rw [HSo.out]; exact hb2
  have q3 : ¬ So b3 := by rw [HSo.out]; exact hb3
  have qf : ¬ So gf := by rw [HSo.out]; exact hgf
  obtain ⟨N, hV⟩ : ∃ N, (str (rdT st 2048).1) = N := ⟨_, rfl⟩
  obtain ⟨s', hs'⟩ : ∃ s' : St, ((rdT st 2048).2) = s' := ⟨_, rfl⟩
  obtain ⟨x', hx'⟩ : ∃ x' : RsT, ({ x with text := (rdT st 2048).1 }) = x' := ⟨_, rfl⟩
  have HROW : Hid ((rsC x rv).toArray.setIfInBounds 12 (.string N) = (rsC x' rv).toArray) := Lib.hid (by rw [← hV, ← hx']; rfl)
  rw [hV, hs'] at KC
  rw [hs', hx'] at HG
  clear hV hs' hx'
  go_enter Try.func136, Try.ntmps136
  go_upto_region 6 with fail
  have e0 := fun (ψ : World → Prop) (e : ExtS So w ψ) => e.cell k2 l2 q2
  have e1 := fun (ψ : World → Prop) (e : ExtS So w ψ) => e.cell k3 l3 q3
  have e2 := fun (ψ : World → Prop) (e : ExtS So w ψ) => e.cell kf lf qf
  refine wp_region_piecesS So 6 [(true, [0, 1, 2, 3, 4]), (false, [5])] (by kernel_rfl) (by kernel_rfl) ?_
  simp only [pick, List.map_cons, List.map_nil, List.flatMap_cons, List.flatMap_nil, Option.toList_some, List.singleton_append, List.drop_succ_cons, List.drop_zero, List.getElem?_cons_zero, List.getElem?_cons_succ]
  refine ⟨by kernel_rfl, ?_⟩; apply Exists.intro; refine ⟨fun ψ hψ hne => (by (repeat (go_big_quiet_step (( fail )))); exact wpQuiet_nil rfl), ?_⟩
  clear e0 e1 e2 k2 k3 kf
  intro Wa ha K hK
  go_wp2_with fail
  refine (KC.out Wa ha).mono ?_
  rintro e wb ⟨rfl, rb, kb⟩
  go_wp2_with fail
  refine hK _ _ (But.mut kb (by rw [HSo.out])) ?_
  clear hK K KC
  intro wc hc
  have H2 := Lib.hid (((H.out.ext ha).read rb kb).ext hc)
  have hga := H2.out.ha
  have fa : wc.frozen? ⟨ga, 12, none⟩ = false := by simp [World.frozen?, hga]
  obtain ⟨u, hu, hun⟩ : ∃ u, (rsC x rv).toArray[12]? = some u ∧ NoB' u := ⟨_, rfl, (nb_str _)⟩
  have ca : wc.cell? ⟨ga, 12, none⟩ = some u := by rw [cell_of_row _ _ _ _ _ _ hga]; exact hu
  have HU := Lib.hid hu
  have lga := heap_lt hga
  have ST := Lib.hid (setCell_eq_setRow wc ga 12 _ 41 (0, 0) (.string N) hga)
  clear hga H ha rb kb hc hu
  go_wp2_with fail
  go_end0
  rw [ST.out, HROW.out]
  unfold GetR
  rw [HG.out]
  have := H2.out.fill ((rsC x rv).toArray.setIfInBounds 12 (.string N)) (set_nb HU.out hun)
  rw [HROW.out] at this
  exact ⟨rfl, _, rv, fun _ => rfl, SameH.refl _, this, fun _ => rfl, fun h => absurd h (by decide)⟩
theorem getR_101 (w : World) (h : RdR w w gr gf ga b2 b3 st bad x rv) (hl : st.l.length ≤ 100000) :
    Calls Try.prog 136 #[.int .u8 101, .pointer (some ⟨b2, 0, none⟩), .pointer (some ⟨b3, 0, none⟩)] w (GetR w gr gf ga b2 b3 st bad x rv 101) := by
  have KC : Hid (∀ Wa : World, Ext w Wa → Calls Try.prog 138 #[.pointer (some ⟨gr, 0, none⟩)] Wa fun e w' => e = .returned (.bool (rdF st).1) ∧ Rd 192 w' gr (rdF st).2 ∧ But gr Wa w') := Lib.hid fun Wa k => by have hx := (h.ext k).rd; exact flag_any gr st Wa hx
  have HG : Hid ((gtR 101 st bad x) = ((rdF st).2, bad, { x with end_ := (rdF st).1 })) := Lib.hid rfl
  obtain ⟨n1, n2, n3, n4, n5, n6, n7, n8, n9⟩ := h.ne
  obtain ⟨k2, f2, l2⟩ := blk1 h.h2
  obtain ⟨k3, f3, l3⟩ := blk1 h.h3
  obtain ⟨kf, -, -, -, lf⟩ := blk2 h.hf
  have la := heap_lt h.ha
  have H := Lib.hid h
  have hgf : gf ≠ gr := n1.symm
  have hb2 : b2 ≠ gr := n4
  have hb3 : b3 ≠ gr := n7
  clear h n1 n2 n3 n4 n5 n6 n7 n8 n9 f2 f3
  obtain ⟨So, HSo⟩ : ∃ So : Nat → Prop, Hid (So = fun j => j = gr) := ⟨_, Lib.hid rfl⟩
  have q2 : ¬ So b2 := by rw [HSo.out]; exact hb2
  have q3 : ¬ So b3 := by rw [HSo.out]; exact hb3
  have qf : ¬ So gf := by rw [HSo.out]; exact hgf
  obtain ⟨N, hV⟩ : ∃ N, (rdF st).1 = N := ⟨_, rfl⟩
  obtain ⟨s', hs'⟩ : ∃ s' : St, (rdF st).2 = s' := ⟨_, rfl⟩
  rw [hV, hs'] at KC HG
  clear hV hs'
  cases N with
  | true =>
    have HROW : Hid ((rsC x rv).toArray.setIfInBounds 16 (.bool true) = (rsC { x with end_ := true } rv).toArray) := Lib.hid rfl
    go_enter Try.func136, Try.ntmps136
    go_upto_region 14 with fail
    have e0 := fun (ψ : World → Prop) (e : ExtS So w ψ) => e.cell k2 l2 q2
    have e1 := fun (ψ : World → Prop) (e : ExtS So w ψ) => e.cell k3 l3 q3
    have e2 := fun (ψ : World → Prop) (e : ExtS So w ψ) => e.cell kf lf qf
    refine wp_region_piecesS So 6 [(true, [0, 1, 2, 3, 4]), (false, [5])] (by kernel_rfl) (by kernel_rfl) ?_
    simp only [pick, List.map_cons, List.map_nil, List.flatMap_cons, List.flatMap_nil, Option.toList_some, List.singleton_append, List.drop_succ_cons, List.drop_zero, List.getElem?_cons_zero, List.getElem?_cons_succ]
    refine ⟨by kernel_rfl, ?_⟩; apply Exists.intro; refine ⟨fun ψ hψ hne => (by (repeat (go_big_quiet_step (( fail )))); exact wpQuiet_nil rfl), ?_⟩
    clear e0 e1 e2 k2 k3 kf
    intro Wa ha K hK
    go_wp2_with fail
    refine (KC.out Wa ha).mono ?_
    rintro e wb ⟨rfl, rb, kb⟩
    go_wp2_with fail
    refine hK _ _ (But.mut kb (by rw [HSo.out])) ?_
    clear hK K KC
    intro wc hc
    have H2 := Lib.hid (((H.out.ext ha).read rb kb).ext hc)
    have hga := H2.out.ha
    have fa : wc.frozen? ⟨ga, 16, none⟩ = false := by simp [World.frozen?, hga]
    obtain ⟨u, hu, hun⟩ : ∃ u, (rsC x rv).toArray[16]? = some u ∧ NoB' u := ⟨_, rfl, (nb_bool _)⟩
    have ca : wc.cell? ⟨ga, 16, none⟩ = some u := by rw [cell_of_row _ _ _ _ _ _ hga]; exact hu
    have HU := Lib.hid hu
    have lga := heap_lt hga
    have ST := Lib.hid (setCell_eq_setRow wc ga 16 _ 41 (0, 0) (.bool true) hga)
    clear hga H ha rb kb hc hu
    go_wp2_with fail
    go_end0
    rw [ST.out, HROW.out]
    unfold GetR
    rw [HG.out]
    have := H2.out.fill ((rsC x rv).toArray.setIfInBounds 16 (.bool true)) (set_nb HU.out hun)
    rw [HROW.out] at this
    exact ⟨rfl, _, rv, fun _ => rfl, SameH.refl _, this, fun _ => rfl, fun h => absurd h (by decide)⟩
  | false =>
    have HROW : Hid ((rsC x rv).toArray.setIfInBounds 16 (.bool false) = (rsC { x with end_ := false } rv).toArray) := Lib.hid rfl
    go_enter Try.func136, Try.ntmps136
    go_upto_region 14 with fail
    have e0 := fun (ψ : World → Prop) (e : ExtS So w ψ) => e.cell k2 l2 q2
    have e1 := fun (ψ : World → Prop) (e : ExtS So w ψ) => e.cell k3 l3 q3
    have e2 := fun (ψ : World → Prop) (e : ExtS So w ψ) => e.cell kf lf qf
    refine wp_region_piecesS So 6 [(true, [0, 1, 2, 3, 4]), (false, [5])] (by kernel_rfl) (by kernel_rfl) ?_
    simp only [pick, List.map_cons, List.map_nil, List.flatMap_cons, List.flatMap_nil, Option.toList_some, List.singleton_append, List.drop_succ_cons, List.drop_zero, List.getElem?_cons_zero, List.getElem?_cons_succ]
    refine ⟨by kernel_rfl, ?_⟩; apply Exists.intro; refine ⟨fun ψ hψ hne => (by (repeat (go_big_quiet_step (( fail )))); exact wpQuiet_nil rfl), ?_⟩
    clear e0 e1 e2 k2 k3 kf
    intro Wa ha K hK
    go_wp2_with fail
    refine (KC.out Wa ha).mono ?_
    rintro e wb ⟨rfl, rb, kb⟩
    go_wp2_with fail
    refine hK _ _ (But.mut kb (by rw [HSo.out])) ?_
    clear hK K KC
    intro wc hc
    have H2 := Lib.hid (((H.out.ext ha).read rb kb).ext hc)
    have hga := H2.out.ha
    have fa : wc.frozen? ⟨ga, 16, none⟩ = false := by simp [World.frozen?, hga]
    obtain ⟨u, hu, hun⟩ : ∃ u, (rsC x rv).toArray[16]? = some u ∧ NoB' u := ⟨_, rfl, (nb_bool _)⟩
    have ca : wc.cell? ⟨ga, 16, none⟩ = some u := by rw [cell_of_row _ _ _ _ _ _ hga]; exact hu
    have HU := Lib.hid hu
    have lga := heap_lt hga
    have ST := Lib.hid (setCell_eq_setRow wc ga 16 _ 41 (0, 0) (.bool false) hga)
    clear hga H ha rb kb hc hu
    go_wp2_with fail
    go_end0
    rw [ST.out, HROW.out]
    unfold GetR
    rw [HG.out]
    have := H2.out.fill ((rsC x rv).toArray.setIfInBounds 16 (.bool false)) (set_nb HU.out hun)
    rw [HROW.out] at this
    exact ⟨rfl, _, rv, fun _ => rfl, SameH.refl _, this, fun _ => rfl, fun h => absurd h (by decide)⟩
theorem getR_72 (w : World) (h : RdR w w gr gf ga b2 b3 st bad x rv) (hl : st.l.length ≤ 100000) :
    Calls Try.prog 136 #[.int .u8 72, .pointer (some ⟨b2, 0, none⟩), .pointer (some ⟨b3, 0, none⟩)] w (GetR w gr gf ga b2 b3 st bad x rv 72) := by
  obtain ⟨y, hy⟩ : ∃ y, (dec (rdX st 24).1).getD (0, 0, 0) = y := ⟨_, rfl⟩
  have KC : Hid (∀ Wa : World, Ext w Wa → Calls Try.prog 124 #[.pointer (some ⟨gf, 0, none⟩)] Wa fun e w' => e = .returned (hvT y) ∧ RdR Wa w' gr gf ga b2 b3 (rdX st 24).2 (bad || (dec (rdX st 24).1).isNone) x rv) := Lib.hid fun Wa k => by
    rw [← hy]
    exact fHandle_any Wa { h.ext k with mu := Mut.of_ext (Ext.refl _) } hl
  have HG : Hid ((gtR 72 st bad x) = ((rdX st 24).2, bad || (dec (rdX st 24).1).isNone, { x with h := y })) := Lib.hid (by rw [← hy]; rfl)
  clear hy
  obtain ⟨n1, n2, n3, n4, n5, n6, n7, n8, n9⟩ := h.ne
  obtain ⟨k2, f2, l2⟩ := blk1 h.h2
  obtain ⟨k3, f3, l3⟩ := blk1 h.h3
  have H := Lib.hid h
  obtain ⟨So, HSo⟩ : ∃ So : Nat → Prop, Hid (So = fun j => j = gr ∨ j = gf ∨ j = ga) := ⟨_, Lib.hid rfl⟩
  have q2 : ¬ So b2 := by rw [HSo.out]; rintro (h | h | h) <;> contradiction
  have q3 : ¬ So b3 := by rw [HSo.out]; rintro (h | h | h) <;> contradiction
  clear h n1 n2 n3 n4 n5 n6 n7 n8 n9 f2 f3
  go_enter Try.func136, Try.ntmps136
  go_upto_region 2 with fail
  have e0 := fun (ψ : World → Prop) (e : ExtS So w ψ) => e.cell k2 l2 q2
  have e1 := fun (ψ : World → Prop) (e : ExtS So w ψ) => e.cell k3 l3 q3
  refine wp_region_piecesS So 3 [(true, [0, 1]), (false, [2])] (by kernel_rfl) (by kernel_rfl) ?_
  simp only [pick, List.map_cons, List.map_nil, List.flatMap_cons, List.flatMap_nil, Option.toList_some, List.singleton_append, List.drop_succ_cons, List.drop_zero, List.getElem?_cons_zero, List.getElem?_cons_succ]
  refine ⟨by kernel_rfl, ?_⟩; apply Exists.intro; refine ⟨fun ψ hψ hne => (by (repeat (go_big_quiet_step (( fail )))); exact wpQuiet_nil rfl), ?_⟩
  clear e0 e1 k2 k3
  intro Wa ha K hK
  go_wp2_with fail
  refine (KC.out Wa ha).mono ?_
  rintro e wb ⟨rfl, rb⟩
  unfold hvT
  go_wp2_with fail
  refine hK _ _ (by rw [HSo.out]; exact rb.mu) ?_
  clear hK K KC
  intro wc hc
  have rc := rb.ext hc
  have H2 := Lib.hid ({ rc with mu := (H.out.mu.trans (Mut.of_ext ha)).trans rc.mu } : RdR w wc gr gf ga b2 b3 (rdX st 24).2 (bad || (dec (rdX st 24).1).isNone) x rv)
  have hga := H2.out.ha
  have fa : ∀ o, wc.frozen? ⟨ga, o, none⟩ = false := fun o => by simp [World.frozen?, hga]
  obtain ⟨c0, c1, c2⟩ := row3 (o := 1) hga (x := .int .i64 x.h.1) (y := .int .i64 x.h.2.1) (z := .int .i64 x.h.2.2) rfl rfl rfl
  have lga := heap_lt hga
  have ST := Lib.hid (set3r (o := 1) (x := .int .i64 y.1) (y := .int .i64 y.2.1) (z := .int .i64 y.2.2) hga)
  clear hga H ha rb hc rc
  go_wp2_with fail
  go_end0
  have ST2 := ST.out
  (try simp only [Nat.reduceAdd] at ST2)
  rw [ST2]
  unfold GetR
  rw [HG.out]
  have hf := H2.out.fill (rsC { x with h := y } rv).toArray (fun j => by
    by_cases e0 : j = 1
    · subst e0; exact .inr ⟨.int .i64 x.h.1, rfl, nb_i64 _⟩
    · by_cases e1 : j = 2
      · subst e1; exact .inr ⟨.int .i64 x.h.2.1, rfl, nb_i64 _⟩
      · by_cases e2 : j = 3
        · subst e2; exact .inr ⟨.int .i64 x.h.2.2, rfl, nb_i64 _⟩
        · left
          have : (rsC { x with h := y } rv).toArray = (((rsC x rv).toArray.setIfInBounds 1 (.int .i64 y.1)).setIfInBounds 2 (.int .i64 y.2.1)).setIfInBounds 3 (.int .i64 y.2.2) := rfl
          rw [this, Array.getElem?_setIfInBounds_ne (fun h => e2 h.symm), Array.getElem?_setIfInBounds_ne (fun h => e1 h.symm), Array.getElem?_setIfInBounds_ne (fun h => e0 h.symm)])
  exact ⟨rfl, _, rv, fun _ => rfl, SameH.refl _, hf, fun _ => rfl, fun h => absurd h (by decide)⟩
theorem atV_lit (a : AtT) : (atC a).toArray = #[.int .u8 a.kind, .int .i64 a.mode, .int .i64 a.links, .int .i64 a.size, .int .i64 a.mtime, .int .i64 a.ctime, .int .i64 a.ino, .int .i64 a.gen] := rfl
theorem rdW_u8 (s : St) : 0 ≤ (rdAt s).2.2.kind ∧ (rdAt s).2.2.kind ≤ 255 := by
  unfold rdAt
  split
  · rename_i h
    have h3 : (rdW s).1 = 1 ∨ (rdW s).1 = 2 ∨ (rdW s).1 = 3 := by simpa [kindB] using h
    show 0 ≤ (rdW s).1 ∧ (rdW s).1 ≤ 255
    omega
  · show (0 : Int) ≤ 0 ∧ (0 : Int) ≤ 255
    omega
theorem rs_at8 (x : RsT) (rv : Value) (A : AtT) : (rsC { x with at_ := A } rv).toArray = (((((((((rsC x rv).toArray.setIfInBounds 4 (.int .u8 A.kind)).setIfInBounds 5 (.int .i64 A.mode)).setIfInBounds 6 (.int .i64 A.links)).setIfInBounds 7 (.int .i64 A.size)).setIfInBounds 8 (.int .i64 A.mtime)).setIfInBounds 9 (.int .i64 A.ctime)).setIfInBounds 10 (.int .i64 A.ino)).setIfInBounds 11 (.int .i64 A.gen)) := by
  rw [rsV_lit x]
  simp only [List.setIfInBounds_toArray, List.set_cons_zero, List.set_cons_succ]
  rfl
theorem rs_at8_ne (x : RsT) (rv : Value) (A : AtT) (j : Nat) (hj : ¬ (4 ≤ j ∧ j ≤ 11)) : (rsC { x with at_ := A } rv).toArray[j]? = (rsC x rv).toArray[j]? := by
  rw [rs_at8]
  rw [Array.getElem?_setIfInBounds_ne (by omega), Array.getElem?_setIfInBounds_ne (by omega), Array.getElem?_setIfInBounds_ne (by omega), Array.getElem?_setIfInBounds_ne (by omega), Array.getElem?_setIfInBounds_ne (by omega), Array.getElem?_setIfInBounds_ne (by omega), Array.getElem?_setIfInBounds_ne (by omega), Array.getElem?_setIfInBounds_ne (by omega)]
set_option maxHeartbeats 1000000 in
theorem getR_65 (w : World) (h : RdR w w gr gf ga b2 b3 st bad x rv) (hl : st.l.length ≤ 100000) :
    Calls Try.prog 136 #[.int .u8 65, .pointer (some ⟨b2, 0, none⟩), .pointer (some ⟨b3, 0, none⟩)] w (GetR w gr gf ga b2 b3 st bad x rv 65) := by
  have hkb := rdW_u8 st
  obtain ⟨A, hA⟩ : ∃ A, (rdAt st).2.2 = A := ⟨_, rfl⟩
  have KC : Hid (∀ Wa : World, Ext w Wa → Calls Try.prog 137 #[.pointer (some ⟨gf, 0, none⟩)] Wa fun e w' => e = .returned (.agg (atC A).toArray) ∧ ∃ s', SameH (rdAt st).1 s' ∧ RdR Wa w' gr gf ga b2 b3 s' (bad || (rdAt st).2.1) x rv) := Lib.hid fun Wa k => by
    rw [← hA]
    exact fAttr_any Wa { h.ext k with mu := Mut.of_ext (Ext.refl _) }
  have HG : Hid ((gtR 65 st bad x) = ((rdAt st).1, bad || (rdAt st).2.1, { x with at_ := A })) := Lib.hid (by rw [← hA]; rfl)
  rw [hA] at hkb
  have HKB := Lib.hid hkb
  clear hA hkb
  obtain ⟨n1, n2, n3, n4, n5, n6, n7, n8, n9⟩ := h.ne
  obtain ⟨k2, f2, l2⟩ := blk1 h.h2
  obtain ⟨k3, f3, l3⟩ := blk1 h.h3
  have H := Lib.hid h
  obtain ⟨So, HSo⟩ : ∃ So : Nat → Prop, Hid (So = fun j => j = gr ∨ j = gf ∨ j = ga) := ⟨_, Lib.hid rfl⟩
  have q2 : ¬ So b2 := by rw [HSo.out]; rintro (h | h | h) <;> contradiction
  have q3 : ¬ So b3 := by rw [HSo.out]; rintro (h | h | h) <;> contradiction
  clear h n1 n2 n3 n4 n5 n6 n7 n8 n9 f2 f3
  go_enter Try.func136, Try.ntmps136
  go_upto_region 4 with fail
  have e0 := fun (ψ : World → Prop) (e : ExtS So w ψ) => e.cell k2 l2 q2
  have e1 := fun (ψ : World → Prop) (e : ExtS So w ψ) => e.cell k3 l3 q3
  refine wp_region_piecesS So 3 [(true, [0, 1]), (false, [2])] (by kernel_rfl) (by kernel_rfl) ?_
  simp only [pick, List.map_cons, List.map_nil, List.flatMap_cons, List.flatMap_nil, Option.toList_some, List.singleton_append, List.drop_succ_cons, List.drop_zero, List.getElem?_cons_zero, List.getElem?_cons_succ]
  refine ⟨by kernel_rfl, ?_⟩; apply Exists.intro; refine ⟨fun ψ hψ hne => (by (repeat (go_big_quiet_step (( fail )))); exact wpQuiet_nil rfl), ?_⟩
  clear e0 e1 k2 k3
  intro Wa ha K hK
  go_wp2_with fail
  refine (KC.out Wa ha).mono ?_
  rintro e wb ⟨rfl, s', hs', rb⟩
  rw [atV_lit]
  go_wp2_with fail
  refine hK _ _ (by rw [HSo.out]; exact rb.mu) ?_
  clear hK K KC
  intro wc hc
  have rc := rb.ext hc
  have H2 := Lib.hid ({ rc with mu := (H.out.mu.trans (Mut.of_ext ha)).trans rc.mu } : RdR w wc gr gf ga b2 b3 s' (bad || (rdAt st).2.1) x rv)
  have HS' := Lib.hid hs'
  have hga := H2.out.ha
  have fa : ∀ o, wc.frozen? ⟨ga, o, none⟩ = false := fun o => by simp [World.frozen?, hga]
  have c4 : wc.cell? ⟨ga, 4, none⟩ = some (.int .u8 x.at_.kind) := by rw [cell_of_row _ _ _ _ _ _ hga]; rfl
  have c5 : wc.cell? ⟨ga, 5, none⟩ = some (.int .i64 x.at_.mode) := by rw [cell_of_row _ _ _ _ _ _ hga]; rfl
  have c6 : wc.cell? ⟨ga, 6, none⟩ = some (.int .i64 x.at_.links) := by rw [cell_of_row _ _ _ _ _ _ hga]; rfl
  have c7 : wc.cell? ⟨ga, 7, none⟩ = some (.int .i64 x.at_.size) := by rw [cell_of_row _ _ _ _ _ _ hga]; rfl
  have c8 : wc.cell? ⟨ga, 8, none⟩ = some (.int .i64 x.at_.mtime) := by rw [cell_of_row _ _ _ _ _ _ hga]; rfl
  have c9 : wc.cell? ⟨ga, 9, none⟩ = some (.int .i64 x.at_.ctime) := by rw [cell_of_row _ _ _ _ _ _ hga]; rfl
  have c10 : wc.cell? ⟨ga, 10, none⟩ = some (.int .i64 x.at_.ino) := by rw [cell_of_row _ _ _ _ _ _ hga]; rfl
  have c11 : wc.cell? ⟨ga, 11, none⟩ = some (.int .i64 x.at_.gen) := by rw [cell_of_row _ _ _ _ _ _ hga]; rfl
  have lga := heap_lt hga
  have S8 := setC8 (o := 4) (x0 := .int .u8 A.kind) (x1 := .int .i64 A.mode) (x2 := .int .i64 A.links) (x3 := .int .i64 A.size) (x4 := .int .i64 A.mtime) (x5 := .int .i64 A.ctime) (x6 := .int .i64 A.ino) (x7 := .int .i64 A.gen) hga
  simp only [Nat.reduceAdd] at S8
  rw [← rs_at8] at S8
  have HS8 := Lib.hid S8
  have hf := H2.out.fillB (rsC { x with at_ := A } rv).toArray (fun j => by
    by_cases hj : 4 ≤ j ∧ j ≤ 11
    · have h8 : j = 4 ∨ j = 5 ∨ j = 6 ∨ j = 7 ∨ j = 8 ∨ j = 9 ∨ j = 10 ∨ j = 11 := by omega
      rcases h8 with rfl | rfl | rfl | rfl | rfl | rfl | rfl | rfl
      · exact .inr (.inr (by obtain ⟨y, hy⟩ := kind_bv HKB.out; exact ⟨y, by rw [← hy]; rfl⟩))
      · exact .inr (.inl ⟨.int .i64 x.at_.mode, rfl, nb_i64 _⟩)
      · exact .inr (.inl ⟨.int .i64 x.at_.links, rfl, nb_i64 _⟩)
      · exact .inr (.inl ⟨.int .i64 x.at_.size, rfl, nb_i64 _⟩)
      · exact .inr (.inl ⟨.int .i64 x.at_.mtime, rfl, nb_i64 _⟩)
      · exact .inr (.inl ⟨.int .i64 x.at_.ctime, rfl, nb_i64 _⟩)
      · exact .inr (.inl ⟨.int .i64 x.at_.ino, rfl, nb_i64 _⟩)
      · exact .inr (.inl ⟨.int .i64 x.at_.gen, rfl, nb_i64 _⟩)
    · exact .inl (rs_at8_ne x rv A j hj))
  have HF := Lib.hid hf
  clear hga H ha rb hc rc S8 hf hs'
  go_wp2_with fail
  go_end0
  rw [HS8.out]
  unfold GetR
  rw [HG.out]
  obtain ⟨s2, hs2, hf⟩ := HF.out
  exact ⟨rfl, s2, rv, fun h => absurd rfl h, HS'.out.trans hs2, hf, fun _ => rfl, fun h => absurd h (by decide)⟩
set_option maxHeartbeats 1000000 in
theorem getR_69 (w : World) (h : RdR w w gr gf ga b2 b3 st bad x rv) (hl : st.l.length ≤ 100000) (hrv : NoB' rv) :
    Calls Try.prog 136 #[.int .u8 69, .pointer (some ⟨b2, 0, none⟩), .pointer (some ⟨b3, 0, none⟩)] w (GetR w gr gf ga b2 b3 st bad x rv 69) := by
  obtain ⟨E, hE⟩ : ∃ E, (rdE st).1 = E := ⟨_, rfl⟩
  have KC : Hid (∀ Wa : World, Ext w Wa → Calls Try.prog 139 #[.pointer (some ⟨gf, 0, none⟩)] Wa fun e w' => ∃ r', e = .returned r' ∧ EnO w' Wa.heap.size r' E ∧ RdR Wa w' gr gf ga b2 b3 (rdE st).2 bad x rv) := Lib.hid fun Wa k => by
    rw [← hE]
    exact fEntries_any Wa { h.ext k with mu := Mut.of_ext (Ext.refl _) } hl
  have HG : Hid ((gtR 69 st bad x) = ((rdE st).2, bad, { x with ents := E })) := Lib.hid (by rw [← hE]; rfl)
  have HRV := Lib.hid hrv
  clear hE hrv
  obtain ⟨n1, n2, n3, n4, n5, n6, n7, n8, n9⟩ := h.ne
  obtain ⟨k2, f2, l2⟩ := blk1 h.h2
  obtain ⟨k3, f3, l3⟩ := blk1 h.h3
  have H := Lib.hid h
  obtain ⟨So, HSo⟩ : ∃ So : Nat → Prop, Hid (So = fun j => j = gr ∨ j = gf ∨ j = ga) := ⟨_, Lib.hid rfl⟩
  have q2 : ¬ So b2 := by rw [HSo.out]; rintro (h | h | h) <;> contradiction
  have q3 : ¬ So b3 := by rw [HSo.out]; rintro (h | h | h) <;> contradiction
  clear h n1 n2 n3 n4 n5 n6 n7 n8 n9 f2 f3
  go_enter Try.func136, Try.ntmps136
  go_upto_region 16 with fail
  have e0 := fun (ψ : World → Prop) (e : ExtS So w ψ) => e.cell k2 l2 q2
  have e1 := fun (ψ : World → Prop) (e : ExtS So w ψ) => e.cell k3 l3 q3
  refine wp_region_piecesS So 3 [(true, [0, 1]), (false, [2])] (by kernel_rfl) (by kernel_rfl) ?_
  simp only [pick, List.map_cons, List.map_nil, List.flatMap_cons, List.flatMap_nil, Option.toList_some, List.singleton_append, List.drop_succ_cons, List.drop_zero, List.getElem?_cons_zero, List.getElem?_cons_succ]
  refine ⟨by kernel_rfl, ?_⟩; apply Exists.intro; refine ⟨fun ψ hψ hne => (by (repeat (go_big_quiet_step (( fail )))); exact wpQuiet_nil rfl), ?_⟩
  clear e0 e1 k2 k3
  intro Wa ha K hK
  go_wp2_with fail
  refine (KC.out Wa ha).mono ?_
  rintro e wb ⟨r', rfl, ho, rb⟩
  obtain ⟨Ar, cr, rfl⟩ := ho.form
  go_wp2_with fail
  refine hK _ _ (by rw [HSo.out]; exact rb.mu) ?_
  clear hK K KC
  intro wc hc
  have rc := rb.ext hc
  have H2 := Lib.hid ({ rc with mu := (H.out.mu.trans (Mut.of_ext ha)).trans rc.mu } : RdR w wc gr gf ga b2 b3 (rdE st).2 bad x rv)
  have hga := H2.out.ha
  have HO := Lib.hid (((ho.ext hc).mono ha.size).set (row' := (rsC { x with ents := E } (.slice Ar E.length cr)).toArray) hga (by decide))
  have fa : wc.frozen? ⟨ga, 17, none⟩ = false := by simp [World.frozen?, hga]
  have ca : wc.cell? ⟨ga, 17, none⟩ = some rv := by rw [cell_of_row _ _ _ _ _ _ hga]; rfl
  have lga := heap_lt hga
  have ST := Lib.hid (setCell_eq_setRow wc ga 17 _ 41 (0, 0) (.slice Ar E.length cr) hga)
  have HROW : Hid ((rsC x rv).toArray.setIfInBounds 17 (.slice Ar E.length cr) = (rsC { x with ents := E } (.slice Ar E.length cr)).toArray) := Lib.hid rfl
  clear hga H ha rb hc rc ho
  go_wp2_with fail
  go_end0
  rw [ST.out, HROW.out]
  unfold GetR
  rw [HG.out]
  have := H2.out.fill ((rsC x rv).toArray.setIfInBounds 17 (.slice Ar E.length cr)) (set_nb (u := rv) rfl HRV.out)
  rw [HROW.out] at this
  exact ⟨rfl, _, _, fun _ => rfl, SameH.refl _, this, fun h => absurd rfl h, fun _ => HO.out⟩
theorem getR_any (c : UInt8) (hc : c ∈ lettersT) (w : World) (h : RdR w w gr gf ga b2 b3 st bad x rv) (hl : st.l.length ≤ 100000) (hrv : NoB' rv) :
    Calls Try.prog 136 #[.int .u8 c.toNat, .pointer (some ⟨b2, 0, none⟩), .pointer (some ⟨b3, 0, none⟩)] w (GetR w gr gf ga b2 b3 st bad x rv c) := by
  simp only [lettersT, List.mem_cons, List.not_mem_nil, or_false] at hc
  rcases hc with rfl | rfl | rfl | rfl | rfl | rfl | rfl | rfl | rfl
  · exact getR_72 w h hl
  · exact getR_65 w h hl
  · exact getR_120 w h hl
  · exact getR_78 w h hl
  · exact getR_102 w h hl
  · exact getR_117 w h hl
  · exact getR_101 w h hl
  · exact getR_69 w h hl hrv
  · exact getR_118 w h hl
end
end Go.Proofs.Yteahlnoonmfjhaa
