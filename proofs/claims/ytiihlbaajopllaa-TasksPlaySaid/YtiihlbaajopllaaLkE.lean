/- Walks of locks: may, find, Has. -/
import Derived.Test.YtiihlbaajopllaaLkD
import Derived.LaidEqlPtr
set_option linter.unusedVariables false
set_option maxRecDepth 100000
namespace Go.Proofs.Ytiihlbaajopllaa
open Go.RowKit

theorem info_part : ∃ j, Try.prog.info? 95 = some j ∧ j.size ≠ 0 := by
  have h : (Try.prog.info? 95).map (·.size) = some 4 := by kernel_rfl
  cases hi : Try.prog.info? 95 with
  | none => rw [hi] at h; simp at h
  | some j => rw [hi] at h; simp at h; exact ⟨j, rfl, by omega⟩
theorem eql_same (w : World) (a : Nat) : (binOp .eql 89 (.pointer (some ⟨a, 0, none⟩)) (.pointer (some ⟨a, 0, none⟩))).run Try.prog w = .ok (.bool true) w := by
  obtain ⟨j, hj, _⟩ := info_part
  exact run_eql_ptr_same w _ Try.underlying89 hj
theorem eql_other {w : World} {a b : Nat} {la lb : List Wn} {wa wb : Value} (ha : PtAt w a la wa) (hb : PtAt w b lb wb) (hne : a ≠ b) : (binOp .eql 89 (.pointer (some ⟨a, 0, none⟩)) (.pointer (some ⟨b, 0, none⟩))).run Try.prog w = .ok (.bool false) w := by
  obtain ⟨j, hj, hs⟩ := info_part
  obtain ⟨ca, hca⟩ := ha.b
  obtain ⟨cb, hcb⟩ := hb.b
  exact run_eql_ptr_other w Try.underlying89 hj hs (fun e => hne (congrArg Addr.block e)) hca hcb
theorem may1_same {a pb ob : Nat} (W : World) (hp : W.cell? ⟨pb, 0, none⟩ = some (.pointer (some ⟨a, 0, none⟩))) :
    Calls Try.prog 76 #[.pointer (some ⟨a, 0, none⟩), .pointer (some ⟨pb, 0, none⟩), .pointer (some ⟨ob, 0, none⟩)] W fun e W' => e = .returned (.bool false) ∧ W = W' := by
  have hq := eql_same W a
  go_enter Try.func76, Try.ntmps76
  go_wp2
  go_ret
  exact ⟨rfl, rfl⟩
theorem may1_any {a b pb ob : Nat} {m l : List Wn} {wa wb : Value} (W : World) (hp : W.cell? ⟨pb, 0, none⟩ = some (.pointer (some ⟨b, 0, none⟩))) (hne : a ≠ b)
    (hml : m.length ≤ 1000000) (hll : l.length ≤ 1000000) (ha : PtAt W a m wa) (hb : PtAt W b l wb) (ho : W.heap[ob]? = some (.cells #[.bool true] 4 (0, 0))) :
    Calls Try.prog 76 #[.pointer (some ⟨a, 0, none⟩), .pointer (some ⟨pb, 0, none⟩), .pointer (some ⟨ob, 0, none⟩)] W fun e W' =>
      e = .returned (.bool (!clashL m l)) ∧ Mut (fun i => i = ob) W W' ∧ W'.heap[ob]? = some (.cells #[.bool (!clashL m l)] 4 (0, 0)) := by
  have K := Lib.hid (clashes_any hml hll W ha hb)
  have hab := eql_other ha hb hne
  have HO := Lib.hid ho
  clear ha hb ho
  obtain ⟨q, hq⟩ : ∃ q, q = clashL m l := ⟨_, rfl⟩
  rw [← hq] at K ⊢
  clear hq
  go_enter Try.func76, Try.ntmps76
  go_wp2_with fail
  refine K.out.mono ?_
  rintro e W1 ⟨rfl, h1⟩
  have ho1 := (Below.block h1 ob (Array.getElem?_eq_some_iff.1 HO.out).1).trans HO.out
  obtain ⟨o0, of, olt⟩ := blk1 ho1
  have st := set1_0 (.bool (!q)) ho1
  have hm : Mut (fun i => i = ob) W (W1.setRow ob #[.bool (!q)]) := (Mut.of_ext h1).trans (mut_setRow (S := fun i => i = ob) rfl _)
  have hr := setRow_heap W1 ob _ #[.bool (!q)] _ _ ho1
  have HM := Lib.hid hm
  have HR := Lib.hid hr
  have ST := Lib.hid st
  have c2 := (blk1 hr).1
  clear hm hr st ho1 h1
  go_upto_region 4 with fail
  rw [ST.out]
  go_wp2
  go_ret
  exact ⟨rfl, HM.out, HR.out⟩
set_option maxHeartbeats 1000000 in
theorem may_any {S : Nat → Prop} {g pa : Nat} {ns : List Nd} {l : List Wn} {wp : Value} (K : Nat) (w : World) (h : LkP w S g ns) (hp : PtAt w pa l wp) (hll : l.length ≤ 1000000) (hK : K ≤ ns.length)
    (hne : ∀ (j : Nat) (x : Nd), j < K → ns[j]? = some x → x.a ≠ pa) (hat : ∀ x : Nd, ns[K]? = some x → x.a = pa) :
    Calls Try.prog 54 #[.pointer (some ⟨g, 0, none⟩), .pointer (some ⟨pa, 0, none⟩)] w fun e w' => e = .returned (.bool (mayB ((ns.map (·.p)).take K) l)) ∧ Below w.heap.size w w' := by
  have hE : Ext w ((w.alloc (.cells #[.pointer (some ⟨pa, 0, none⟩)] 89)).alloc (.cells #[.bool true] 4)) := (extAl _ _).trans (extAl _ _)
  have ob := heap_alloc_last (w.alloc (.cells #[.pointer (some ⟨pa, 0, none⟩)] 89)) (.cells #[.bool true] 4)
  have pb := (Below.block (extAl (w.alloc (.cells #[.pointer (some ⟨pa, 0, none⟩)] 89)) (.cells #[.bool true] 4)) w.heap.size (by simp)).trans (heap_alloc_last w (.cells #[.pointer (some ⟨pa, 0, none⟩)] 89))
  rw [show (w.alloc (.cells #[.pointer (some ⟨pa, 0, none⟩)] 89)).heap.size = w.heap.size + 1 by simp] at ob
  have g0 := ((hE.cell (p := ⟨g, 0, none⟩) (blk1 h.hg).2.2).trans (blk1 h.hg).1)
  have OV := Lib.hid (over_any (lb := #[.pointer (some ⟨w.heap.size, 0, none⟩), .pointer (some ⟨w.heap.size + 1, 0, none⟩)]) (enters_of Try.func76 (by kernel_rfl) rfl)
    (fun k W => Ext w W ∧ W.heap[w.heap.size]? = some (.cells #[.pointer (some ⟨pa, 0, none⟩)] 89 (0, 0)) ∧ W.heap[w.heap.size + 1]? = some (.cells #[.bool true] 4 (0, 0)) ∧ k ≤ K ∧ mayB ((ns.map (·.p)).take k) l = true)
    (fun W => Ext w W ∧ W.heap[w.heap.size + 1]? = some (.cells #[.bool (mayB ((ns.map (·.p)).take K) l)] 4 (0, 0))) _ ⟨hE, pb, ob, Nat.zero_le _, rfl⟩ g0
    (fun k x W hx ⟨hW, hpb, hob, hk, hm⟩ => by
      by_cases hkK : k = K
      · subst hkK
        have e := hat x hx
        rw [e]
        refine (may1_same W (blk1 hpb).1).mono ?_
        rintro e W' ⟨rfl, rfl⟩
        exact .inr ⟨rfl, hW, by rw [hm]; exact hob⟩
      · have hlt : k < K := by omega
        have hpt := (h.pt hx).ext hW
        have hw4 := h.wl k x hx
        refine (may1_any W (blk1 hpb).1 (hne k x hlt hx) (by omega) hll hpt (hp.ext hW) hob).mono ?_
        rintro e W' ⟨rfl, hM, hR⟩
        have hs : mayB ((ns.map (·.p)).take (k + 1)) l = !clashL x.p.2 l := by
          rw [mayB_succ (q := x.p) (by simp [hx]), hm]; simp
        have hW' : Ext w W' := Below.trans hW (hM.below (B := w.heap.size) (fun i hi => by omega) hW.size)
        cases hq : clashL x.p.2 l with
        | true =>
          rw [hq] at hR hs
          refine .inr ⟨rfl, hW', ?_⟩
          have : mayB ((ns.map (·.p)).take K) l = false := by
            cases hmk : mayB ((ns.map (·.p)).take K) l with
            | false => rfl
            | true =>
              have := mayB_sub (a := (ns.map (·.p)).take (k + 1)) (fun q hq => by
                rw [show (ns.map (·.p)).take (k + 1) = ((ns.map (·.p)).take K).take (k + 1) by rw [List.take_take, Nat.min_eq_left (by omega)]] at hq
                exact List.mem_of_mem_take hq) hmk
              rw [hs] at this
              cases this
          rw [this]
          exact hR
        | false =>
          rw [hq] at hR hs
          refine .inl ⟨rfl, ⟨hW', (hM.block _ (blk1 hpb).2.2 (by omega)).trans hpb, hR, by omega, hs⟩, ?_⟩
          obtain ⟨_, _, _, c3, _, hxl⟩ := blk4 (h.nd k x hx)
          exact (hW'.cell (p := ⟨x.a, 3, none⟩) hxl).trans c3)
    (fun W ⟨hW, _, hob, hk, hm⟩ => ⟨hW, by rw [show K = ns.length by omega, hm]; exact hob⟩))
  clear hp hne hat h ob pb g0 hE
  go_enter Try.func54, Try.ntmps54
  go_wp2_with fail
  refine OV.out.mono ?_
  rintro e w2 ⟨rfl, h2, hb2⟩
  have c0 := (blk1 hb2).1
  go_wp2
  go_ret
  exact ⟨rfl, h2⟩
end Go.Proofs.Ytiihlbaajopllaa
