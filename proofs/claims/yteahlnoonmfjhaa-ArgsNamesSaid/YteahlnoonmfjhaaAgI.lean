/- Arguments: a letter's field is read: handles; all letters. -/
import Derived.Test.YteahlnoonmfjhaaAgH
set_option linter.unusedVariables false
set_option maxRecDepth 100000
namespace Go.Proofs.Yteahlnoonmfjhaa
open Go.RowKit

section
variable {W0 : World} {gr gf ga b2 b3 : Nat} {st : St} {bad : Bool} {a : AgT}
theorem getA_72 (w : World) (h : RdS W0 w gr gf ga b2 b3 35 136 st bad (agC a).toArray) (hl : st.l.length ≤ 100000) :
    Calls Try.prog 123 #[.int .u8 72, .pointer (some ⟨b2, 0, none⟩), .pointer (some ⟨b3, 0, none⟩)] w (GetP W0 gr gf ga b2 b3 st bad a 72) := by
  obtain ⟨x, hx⟩ : ∃ x, (dec (rdX st 24).1).getD (0, 0, 0) = x := ⟨_, rfl⟩
  have KC : Hid (∀ Wa : World, Ext w Wa → Calls Try.prog 124 #[.pointer (some ⟨gf, 0, none⟩)] Wa fun e w' => e = .returned (hvT x) ∧ RdS Wa w' gr gf ga b2 b3 35 136 (rdX st 24).2 (bad || (dec (rdX st 24).1).isNone) (agC a).toArray) := Lib.hid fun Wa k => by
    rw [← hx]
    exact fHandle_any Wa { h.ext k with mu := Mut.of_ext (Ext.refl _) } hl
  have HG : Hid ((gtA 72 st bad a) = ((rdX st 24).2, bad || (dec (rdX st 24).1).isNone, { a with h := x })) := Lib.hid (by rw [← hx]; rfl)
  clear hx
  obtain ⟨n1, n2, n3, n4, n5, n6, n7, n8, n9⟩ := h.ne
  obtain ⟨k2, f2, l2⟩ := blk1 h.h2
  obtain ⟨k3, f3, l3⟩ := blk1 h.h3
  have H := Lib.hid h
  obtain ⟨So, HSo⟩ : ∃ So : Nat → Prop, Hid (So = fun j => j = gr ∨ j = gf ∨ j = ga) := ⟨_, Lib.hid rfl⟩
  have q2 : ¬ So b2 := by rw [HSo.out]; rintro (h | h | h) <;> contradiction
  have q3 : ¬ So b3 := by rw [HSo.out]; rintro (h | h | h) <;> contradiction
  clear h n1 n2 n3 n4 n5 n6 n7 n8 n9 f2 f3
  go_enter Try.func123, Try.ntmps123
  go_upto_region 2 with fail
  have e0 := fun (ψ : World → Prop) (e : ExtS So w ψ) => e.cell k2 l2 q2
  have e1 := fun (ψ : World → Prop) (e : ExtS So w ψ) => e.cell k3 l3 q3
  refine wp_region_piecesS So 3 [(true, [0, 1]), (false, [2])] (by kernel_rfl) (by kernel_rfl) ?_
  simp only [pick, List.map_cons, List.map_nil, List.flatMap_cons, List.flatMap_nil, Option.toList_some, List.singleton_append, List.drop_succ_cons, List.drop_zero, List.getElem?_cons_zero, List.getElem?_cons_succ]
  refine ⟨by kernel_rfl, ?_⟩; apply Exists.intro; refine ⟨fun ψ hψ hne => (by (repeat (go_big_quiet_step (( fail )))); exact wpQuiet_nil rfl), ?_⟩
  clear e0 e1 k2 k3
  intro Wa ha K hK
  go_wp2_with fail
  refine (KC.out Wa ha).mono ?_
  rintro e wb ⟨rfl, rb⟩
  unfold hvT
  go_wp2_with fail
  refine hK _ _ (by rw [HSo.out]; exact rb.mu) ?_
  clear hK K KC
  intro wc hc
  have rc := rb.ext hc
  have H2 := Lib.hid ({ rc with mu := (H.out.mu.trans (Mut.of_ext ha)).trans rc.mu } : RdS W0 wc gr gf ga b2 b3 35 136 (rdX st 24).2 (bad || (dec (rdX st 24).1).isNone) (agC a).toArray)
  have hga := H2.out.ha
  have fa : ∀ o, wc.frozen? ⟨ga, o, none⟩ = false := fun o => by simp [World.frozen?, hga]
  obtain ⟨c0, c1, c2⟩ := row3 (o := 0) hga (x := .int .i64 a.h.1) (y := .int .i64 a.h.2.1) (z := .int .i64 a.h.2.2) rfl rfl rfl
  have lga := heap_lt hga
  have ST := Lib.hid (set3r (o := 0) (x := .int .i64 x.1) (y := .int .i64 x.2.1) (z := .int .i64 x.2.2) hga)
  clear hga H ha rb hc rc
  go_wp2_with fail
  go_end0
  have ST2 := ST.out
  (try simp only [Nat.zero_add] at ST2)
  (try simp only [Nat.reduceAdd] at ST2)
  rw [ST2]
  refine ⟨rfl, ?_⟩
  rw [HG.out]
  have hf := H2.out.fill (agC { a with h := x }).toArray (fun j => by
    by_cases e0 : j = 0
    · subst e0; exact .inr ⟨.int .i64 a.h.1, rfl, nb_i64 _⟩
    · by_cases e1 : j = 0 + 1
      · subst e1; exact .inr ⟨.int .i64 a.h.2.1, rfl, nb_i64 _⟩
      · by_cases e2 : j = 0 + 2
        · subst e2; exact .inr ⟨.int .i64 a.h.2.2, rfl, nb_i64 _⟩
        · left
          have : (agC { a with h := x }).toArray = (((agC a).toArray.setIfInBounds 0 (.int .i64 x.1)).setIfInBounds (0 + 1) (.int .i64 x.2.1)).setIfInBounds (0 + 2) (.int .i64 x.2.2) := rfl
          rw [this, Array.getElem?_setIfInBounds_ne (fun h => e2 h.symm), Array.getElem?_setIfInBounds_ne (fun h => e1 h.symm), Array.getElem?_setIfInBounds_ne (fun h => e0 h.symm)])
  exact hf
theorem getA_84 (w : World) (h : RdS W0 w gr gf ga b2 b3 35 136 st bad (agC a).toArray) (hl : st.l.length ≤ 100000) :
    Calls Try.prog 123 #[.int .u8 84, .pointer (some ⟨b2, 0, none⟩), .pointer (some ⟨b3, 0, none⟩)] w (GetP W0 gr gf ga b2 b3 st bad a 84) := by
  obtain ⟨x, hx⟩ : ∃ x, (dec (rdX st 24).1).getD (0, 0, 0) = x := ⟨_, rfl⟩
  have KC : Hid (∀ Wa : World, Ext w Wa → Calls Try.prog 124 #[.pointer (some ⟨gf, 0, none⟩)] Wa fun e w' => e = .returned (hvT x) ∧ RdS Wa w' gr gf ga b2 b3 35 136 (rdX st 24).2 (bad || (dec (rdX st 24).1).isNone) (agC a).toArray) := Lib.hid fun Wa k => by
    rw [← hx]
    exact fHandle_any Wa { h.ext k with mu := Mut.of_ext (Ext.refl _) } hl
  have HG : Hid ((gtA 84 st bad a) = ((rdX st 24).2, bad || (dec (rdX st 24).1).isNone, { a with t := x })) := Lib.hid (by rw [← hx]; rfl)
  clear hx
  obtain ⟨n1, n2, n3, n4, n5, n6, n7, n8, n9⟩ := h.ne
  obtain ⟨k2, f2, l2⟩ := blk1 h.h2
  obtain ⟨k3, f3, l3⟩ := blk1 h.h3
  have H := Lib.hid h
  obtain ⟨So, HSo⟩ : ∃ So : Nat → Prop, Hid (So = fun j => j = gr ∨ j = gf ∨ j = ga) := ⟨_, Lib.hid rfl⟩
  have q2 : ¬ So b2 := by rw [HSo.out]; rintro (h | h | h) <;> contradiction
  have q3 : ¬ So b3 := by rw [HSo.out]; rintro (h | h | h) <;> contradiction
  clear h n1 n2 n3 n4 n5 n6 n7 n8 n9 f2 f3
  go_enter Try.func123, Try.ntmps123
  go_upto_region 4 with fail
  have e0 := fun (ψ : World → Prop) (e : ExtS So w ψ) => e.cell k2 l2 q2
  have e1 := fun (ψ : World → Prop) (e : ExtS So w ψ) => e.cell k3 l3 q3
  refine wp_region_piecesS So 3 [(true, [0, 1]), (false, [2])] (by kernel_rfl) (by kernel_rfl) ?_
  simp only [pick, List.map_cons, List.map_nil, List.flatMap_cons, List.flatMap_nil, Option.toList_some, List.singleton_append, List.drop_succ_cons, List.drop_zero, List.getElem?_cons_zero, List.getElem?_cons_succ]
  refine ⟨by kernel_rfl, ?_⟩; apply Exists.intro; refine ⟨fun ψ hψ hne => (by (repeat (go_big_quiet_step (( fail )))); exact wpQuiet_nil rfl), ?_⟩
  clear e0 e1 k2 k3
  intro Wa ha K hK
  go_wp2_with fail
  refine (KC.out Wa ha).mono ?_
  rintro e wb ⟨rfl, rb⟩
  unfold hvT
  go_wp2_with fail
  refine hK _ _ (by rw [HSo.out]; exact rb.mu) ?_
  clear hK K KC
  intro wc hc
  have rc := rb.ext hc
  have H2 := Lib.hid ({ rc with mu := (H.out.mu.trans (Mut.of_ext ha)).trans rc.mu } : RdS W0 wc gr gf ga b2 b3 35 136 (rdX st 24).2 (bad || (dec (rdX st 24).1).isNone) (agC a).toArray)
  have hga := H2.out.ha
  have fa : ∀ o, wc.frozen? ⟨ga, o, none⟩ = false := fun o => by simp [World.frozen?, hga]
  obtain ⟨c0, c1, c2⟩ := row3 (o := 3) hga (x := .int .i64 a.t.1) (y := .int .i64 a.t.2.1) (z := .int .i64 a.t.2.2) rfl rfl rfl
  have lga := heap_lt hga
  have ST := Lib.hid (set3r (o := 3) (x := .int .i64 x.1) (y := .int .i64 x.2.1) (z := .int .i64 x.2.2) hga)
  clear hga H ha rb hc rc
  go_wp2_with fail
  go_end0
  have ST2 := ST.out
  (try simp only [Nat.zero_add] at ST2)
  (try simp only [Nat.reduceAdd] at ST2)
  rw [ST2]
  refine ⟨rfl, ?_⟩
  rw [HG.out]
  have hf := H2.out.fill (agC { a with t := x }).toArray (fun j => by
    by_cases e0 : j = 3
    · subst e0; exact .inr ⟨.int .i64 a.t.1, rfl, nb_i64 _⟩
    · by_cases e1 : j = 3 + 1
      · subst e1; exact .inr ⟨.int .i64 a.t.2.1, rfl, nb_i64 _⟩
      · by_cases e2 : j = 3 + 2
        · subst e2; exact .inr ⟨.int .i64 a.t.2.2, rfl, nb_i64 _⟩
        · left
          have : (agC { a with t := x }).toArray = (((agC a).toArray.setIfInBounds 3 (.int .i64 x.1)).setIfInBounds (3 + 1) (.int .i64 x.2.1)).setIfInBounds (3 + 2) (.int .i64 x.2.2) := rfl
          rw [this, Array.getElem?_setIfInBounds_ne (fun h => e2 h.symm), Array.getElem?_setIfInBounds_ne (fun h => e1 h.symm), Array.getElem?_setIfInBounds_ne (fun h => e0 h.symm)])
  exact hf
theorem getA_any (c : UInt8) (hc : c ∈ lettersA) (w : World) (h : RdS W0 w gr gf ga b2 b3 35 136 st bad (agC a).toArray) (hl : st.l.length ≤ 100000) :
    Calls Try.prog 123 #[.int .u8 c.toNat, .pointer (some ⟨b2, 0, none⟩), .pointer (some ⟨b3, 0, none⟩)] w (GetP W0 gr gf ga b2 b3 st bad a c) := by
  simp only [lettersA, List.mem_cons, List.not_mem_nil, or_false] at hc
  rcases hc with rfl | rfl | rfl | rfl | rfl | rfl | rfl | rfl | rfl | rfl | rfl | rfl
  · exact getA_72 w h hl
  · exact getA_84 w h hl
  · exact getA_110 w h hl
  · exact getA_111 w h hl
  · exact getA_120 w h hl
  · exact getA_112 w h hl
  · exact getA_78 w h hl
  · exact getA_109 w h hl
  · exact getA_115 w h hl
  · exact getA_98 w h hl
  · exact getA_103 w h hl
  · exact getA_118 w h hl
end
end Go.Proofs.Yteahlnoonmfjhaa
