/- Net: what stays true of a client whose calls are written down (NetOnce). -/
import Derived.Test.YteahlnoonmfjhaaMq
import Derived.Test.YteahlnoonmfjhaaMo
set_option linter.unusedVariables false
set_option maxRecDepth 100000
namespace Go.Proofs.Yteahlnoonmfjhaa
open Go.RowKit

def scC (b : List UInt8) : List Value := [.string (str b)]
theorem scC_len (b : List UInt8) : (scC b).length = 1 := rfl
abbrev callsOb (v : Value) (ca : List (List UInt8)) : Ob Z0 := ownOb 9 1 v ca.length (ca.flatMap scC)
abbrev heardOb (hb : Nat) (hd : List Bool) : Ob Z0 := ownOb 4 1 (.slice (some ⟨hb, 0, none⟩) 100 100) 100 (bcs hd)
/-- What stays. -/
structure OInv (L : Int) (l : List Cl) (ca : List (List UInt8)) (hd : List Bool) (k : Nat) : Prop where
  len : l.length ≤ 8
  eL : L = ca.length
  ck : ca.length ≤ k
  eh : hd.length = 100
  each : ∀ o ∈ l, I64 o.p ∧ 1 ≤ o.x ∧ o.x ≤ L ∧ hd[o.x.toNat]? = some false ∧ ca[(o.x - 1).toNat]? = some o.b
  ne : l.Pairwise fun a b => a.x ≠ b.x
theorem oinv_start : OInv 0 [] [] (List.replicate 100 false) 0 := ⟨by decide, rfl, Nat.zero_le _, by simp, by simp, List.Pairwise.nil⟩
theorem OInv.le {L : Int} {l : List Cl} {ca : List (List UInt8)} {hd : List Bool} {k k' : Nat} (h : OInv L l ca hd k) (hk : k ≤ k') : OInv L l ca hd k' := { h with ck := Nat.le_trans h.ck hk }
theorem call_cases (N L : Int) (l : List Cl) (p : Int) (a : AgT) :
    ((callR N L l p a).r.2 ≠ 0 ∧ (callR N L l p a).L = L ∧ (callR N L l p a).l = l) ∨
    ((callR N L l p a).r.2 = 0 ∧ (callR N L l p a).L = L + 1 ∧ (callR N L l p a).l = l ++ [⟨L + 1, p, (callR N L l p a).r.1⟩] ∧ l.length < 8) := by
  unfold callR
  split
  · rename_i h; exact .inl ⟨h, rfl, rfl⟩
  · split
    · exact .inl ⟨(by decide : (3 : Int) ≠ 0), rfl, rfl⟩
    · split
      · rename_i h; exact .inl ⟨h, rfl, rfl⟩
      · exact .inr ⟨rfl, rfl, rfl, by omega⟩
theorem OInv.call {L : Int} {l : List Cl} {ca : List (List UInt8)} {hd : List Bool} {k : Nat} (h : OInv L l ca hd k) (hk : k < 60) (hf : ∀ j, L < j → j ≤ 60 → hd[j.toNat]? = some false) {p : Int} (hp : I64 p) (b : List UInt8) (h8 : l.length < 8) : OInv (L + 1) (l ++ [⟨L + 1, p, b⟩]) (ca ++ [b]) hd (k + 1) := by
  have hL := h.eL
  have hck := h.ck
  refine ⟨by rw [List.length_append]; simp; omega, by rw [List.length_append, hL]; simp, by rw [List.length_append]; simp; exact hck, h.eh, fun o ho => ?_, ?_⟩
  · rcases List.mem_append.1 ho with ho | ho
    · obtain ⟨h1, h2, h3, h4, h5⟩ := h.each o ho
      refine ⟨h1, h2, by omega, h4, ?_⟩
      rw [List.getElem?_append_left (List.getElem?_eq_some_iff.1 h5).1]
      exact h5
    · obtain rfl := List.mem_singleton.1 ho
      refine ⟨hp, by simp only; omega, by simp only; omega, hf _ (by simp only; omega) (by simp only; omega), ?_⟩
      simp only
      rw [show (L + 1 - 1).toNat = ca.length by omega, List.getElem?_append_right (Nat.le_refl _)]
      simp
  · refine List.pairwise_append.2 ⟨h.ne, List.pairwise_singleton _ _, fun a ha c hc => ?_⟩
    obtain rfl := List.mem_singleton.1 hc
    have := (h.each a ha).2.2.1
    simp only
    omega
/-- Those that were not called are not heard. -/
def Fresh (L : Int) (hd : List Bool) : Prop := ∀ j, L < j → j ≤ 60 → hd[j.toNat]? = some false
theorem hear_cases (l : List Cl) (s : List UInt8) : ((hearR l s).e ≠ 0 ∧ (hearR l s).l = l) ∨ ((hearR l s).e = 0 ∧ ∃ (i : Nat) (o : Cl), l[i]? = some o ∧ (hearR l s).n = o.x ∧ (hearR l s).l = l.eraseIdx i) := by
  unfold hearR
  split
  · rename_i h; exact .inl ⟨h, rfl⟩
  · split
    · exact .inl ⟨(by decide : (5 : Int) ≠ 0), rfl⟩
    · rename_i o ho
      split
      · exact .inl ⟨(by decide : (5 : Int) ≠ 0), rfl⟩
      · rename_i hn
        have hx : o.x = (cH s).1.x := by
          rcases ixC_cases l (cH s).1.x with ⟨e1, -⟩ | ⟨i, o', e1, ho', hx, -⟩
          · rw [e1] at hn; exact absurd (by decide) hn
          · rw [e1, Int.toNat_natCast, ho'] at ho
            cases ho
            exact hx
        unfold hearB
        split
        · split
          · exact .inr ⟨rfl, _, o, ho, hx.symm, rfl⟩
          · rename_i h; exact .inl ⟨h, rfl⟩
        · exact .inr ⟨rfl, _, o, ho, hx.symm, rfl⟩
theorem OInv.hear {L : Int} {l : List Cl} {ca : List (List UInt8)} {hd : List Bool} {k i : Nat} {o : Cl} (h : OInv L l ca hd k) (hF : Fresh L hd) (ho : l[i]? = some o) : OInv L (l.eraseIdx i) ca (hd.set o.x.toNat true) k ∧ Fresh L (hd.set o.x.toNat true) := by
  obtain ⟨hi, rfl⟩ := List.getElem?_eq_some_iff.1 ho
  have hm := h.each l[i] (List.getElem_mem hi)
  have hne : ∀ o' ∈ l.eraseIdx i, o'.x ≠ l[i].x := by
    intro o' ho'
    obtain ⟨j, hj, hjo⟩ := List.mem_eraseIdx_iff_getElem?.1 ho'
    obtain ⟨hjl, rfl⟩ := List.getElem?_eq_some_iff.1 hjo
    have hp := h.ne
    rw [List.pairwise_iff_getElem] at hp
    rcases Nat.lt_or_gt_of_ne hj with hlt | hlt
    · exact hp j i hjl hi hlt
    · exact fun e => hp i j hi hjl hlt e.symm
  refine ⟨⟨by rw [List.length_eraseIdx]; split <;> have := h.len <;> omega, h.eL, h.ck, by rw [List.length_set]; exact h.eh, fun o' ho' => ?_, h.ne.sublist (List.eraseIdx_sublist _ _)⟩, fun j h1 h2 => ?_⟩
  · obtain ⟨h1, h2, h3, h4, h5⟩ := h.each o' (List.mem_of_mem_eraseIdx ho')
    refine ⟨h1, h2, h3, ?_, h5⟩
    have := hne o' ho'
    rw [List.getElem?_set_ne (by have := hm.2.1; omega)]
    exact h4
  · rw [List.getElem?_set_ne (by have := hm.2.2.1; have := hm.2.1; omega)]
    exact hF j h1 h2
theorem again_cases (l : List Cl) (n : Int) : (againR l n = ([], 5)) ∨ ∃ o ∈ l, o.x = n ∧ againR l n = (o.b, 0) := by
  rcases ixC_cases l n with ⟨e1, -⟩ | ⟨i, o, e1, ho, hx, -⟩
  · exact .inl (againR_none e1)
  · exact .inr ⟨o, List.mem_of_getElem? ho, hx, againR_some e1 ho⟩
section
variable {W w : World} {ds : List (Ob Z0)} {g : Nat} {N L : Int} {l : List Cl}
theorem cCallM (i : Nat) (h : OSt W ds w) (hi : ds[i]? = some (clO g N L l)) (p : Int) (a : AgT) (hn : l.length ≤ 1000) (hp : I64 p) (hk : a.Ok) (hL : 0 ≤ L ∧ L ≤ 1000000) :
    Calls Try.prog 12 #[.pointer (some ⟨g, 0, none⟩), .int .i64 p, .agg (agC a).toArray] w fun e w' => e = .returned (.tuple #[.string (str (callR N L l p a).r.1), .int .i64 (callR N L l p a).r.2]) ∧ OSt W (ds.set i (clO g N (callR N L l p a).L (callR N L l p a).l)) w' ∧ Mut (fun k => W.heap.size ≤ k) w w' := by
  obtain ⟨S, h1, h2, h3, _⟩ := h.pick hi
  exact (cliCall_any p a w h1 hn hp hk hL).mono fun e w' ⟨he, hT⟩ => ⟨he, h3 w' _ hT, hT.2.mono fun k hk => (h2 k hk).1⟩
theorem OSt.appS {n : Nat} {v : Value} {cs : List Value} (h : OSt W ds w) (i : Nat) (hi : ds[i]? = some (ownOb 9 1 v n cs)) (x : ByteArray) (hn : n ≤ 1000000) :
    ∃ v' w', (Builtin.append_ #[90, 90] 90 #[v, .slice (some ⟨w.heap.size, 0, none⟩) 1 1]).run Try.prog (w.alloc (.cells #[.string x] 9)) = .ok v' w' ∧ OSt W (ds.set i (ownOb 9 1 v' (n + 1) (cs ++ [.string x]))) w' := by
  have a := extAl w (.cells #[.string x] 9)
  obtain ⟨S, h1, _, h3, _⟩ := (h.ext a).pick hi
  have hsrc : Src Try.prog 1 90 (.slice (some ⟨w.heap.size, 0, none⟩) 1 1) 1 [.string x] (w.alloc (.cells #[.string x] 9)) := src_row Try.underlying90 (heap_alloc_last w _) rfl (by intro u hu; simp at hu; subst hu; rfl)
  have hin : (Try.prog.info? 9).map (fun i => (i.zero, i.size, i.bytes)) = some (some (.string ⟨#[]⟩), 1, 16) := by kernel_rfl
  obtain ⟨i', hi', hz0, hz1, hz2⟩ := info_prt hin
  obtain ⟨v', w', hr, ho2, hb2, hg2, hs2⟩ := appG2 (ty := 90) Try.underlying90 hi' hz1 hz0 rfl h1.1 hsrc (Nat.zero_le _) (by omega) (by intro u hu; simp at hu; subst hu; rfl) (by intro u hu; simp [Value.cells] at hu; subst hu; rfl) (by rw [hz2]; omega) (by omega)
  refine ⟨v', w', hr, h3 _ _ ⟨⟨ho2, fun b hb => ?_⟩, Mut.of_grown hg2 h1.2⟩⟩
  rcases hs2 b hb with e | e
  · exact .inl (h1.2 b e)
  · exact .inr ⟨e, (own_lt ho2 hb).2⟩
end
theorem mkBools (w : World) (n : Nat) (hn : n ≤ 1000000) : (Instr.makeSlice 91 (.int .i64 n) (.int .i64 n)).run Try.prog w = .ok (.slice (some ⟨w.heap.size, 0, none⟩) n n) (w.alloc (.cells (bcs (List.replicate n false)).toArray 4)) := by
  have h : (Try.prog.info? 4).map (fun i => (i.zero, i.size, i.bytes)) = some (some (.bool false), 1, 1) := by kernel_rfl
  obtain ⟨i, hi, hz0, hz1, hz2⟩ := info_prt h
  have := run_make (P := Try.prog) w 91 4 i (.bool false) Try.underlying91 hi hz0 .i64 .i64 (n : Int) (n : Int) (by omega) (by omega) (by rw [hz2]; omega) (by omega)
  rw [this, hz1]
  have e : madeCells (Value.bool false).cells n = (bcs (List.replicate n false)).toArray := by
    apply Array.ext'
    rw [show (Value.bool false).cells = #[.bool false] from rfl, toList_madeCells_one]
    simp [bcs]
  simp only [Int.toNat_natCast, Nat.mul_one, e]
end Go.Proofs.Yteahlnoonmfjhaa
