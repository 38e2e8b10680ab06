/- Records: how a reader lies in memory; begin. -/
import Derived.Test.YtbbkailmlaffjaaRcA
set_option linter.unusedVariables false
set_option maxRecDepth 100000
namespace Go.Proofs.Ytbbkailmlaffjaa
open Go.RowKit

def Zn (_ : Obj) : Prop := False
def rcR (s : Rc) (v : Value) : List Value := [.int .i64 s.hd.length, .int .i64 s.left, .bool s.last, v, .int .i64 s.held, .bool s.shut]
structure RcP (w : World) (S : Nat → Prop) (g : Nat) (h : List UInt8) (v : Value) (s : Rc) : Prop where
  hg : w.heap[g]? = some (.cells (bvs h ++ rcR s v).toArray 48 (0, 0))
  h4 : h.length = 4
  hh : h.take s.hd.length = s.hd
  row : OwnR w 0 5 1 One v s.body.length (bvs s.body)
  sg : S g
  sv : ∀ b, v.ownBlock = some b → S b
def RcAt (w : World) (S : Nat → Prop) (g : Nat) (s : Rc) : Prop := ∃ h v, RcP w S g h v s
def rcK (o : Obj) : Prop := match o with
  | .cells _ t _ => t = 48 ∨ t = 5
  | _ => False
theorem own_blk {w : World} {B b : Nat} {T : TypeId} {sz : Nat} {C : Value → Prop} {v : Value} {n : Nat} {cs : List Value} (h : OwnR w B T sz C v n cs) (hb : v.ownBlock = some b) : ∃ cs, w.heap[b]? = some (.cells cs T (0, 0)) := by
  obtain ⟨_, ⟨rfl, _⟩ | ⟨g, c, junk, rfl, hB, hg, _⟩⟩ := h
  · simp [Value.ownBlock] at hb
  · obtain rfl : g = b := by simpa [Value.ownBlock] using hb
    exact ⟨_, hg⟩
section
variable {w w' : World} {S S' T : Nat → Prop} {g : Nat} {h : List UInt8} {v : Value} {s : Rc}
theorem RcP.mutw (q : RcP w S g h v s) (k : Mut T w w') (hd : ∀ i, S i → ¬ T i) : RcP w' S g h v s :=
  { q with hg := (k.block g (heap_lt q.hg) (hd _ q.sg)).trans q.hg, row := q.row.mutO k fun b hb => hd _ (q.sv b hb) }
theorem RcP.ext (q : RcP w S g h v s) (k : Ext w w') : RcP w' S g h v s := q.mutw (T := fun _ => False) (Mut.of_ext k) fun _ _ h => h
theorem RcP.mono (q : RcP w S g h v s) (k : ∀ i, S i → S' i) : RcP w S' g h v s := { q with sg := k _ q.sg, sv := fun b hb => k b (q.sv b hb) }
theorem RcP.old (q : RcP w S g h v s) : RcP w (fun i => S i ∧ i < w.heap.size) g h v s := { q with sg := ⟨q.sg, heap_lt q.hg⟩, sv := fun b hb => ⟨q.sv b hb, (own_lt q.row hb).2⟩ }
theorem RcP.ne (q : RcP w S g h v s) : v.ownBlock ≠ some g := own_ne q.row q.hg (by decide)
end
def rcOb (g : Nat) (s : Rc) : Ob Zn where
  is := fun w S => RcAt w S g s
  K := rcK
  mutw := fun ⟨h, v, q⟩ k hd _ => ⟨h, v, q.mutw k hd⟩
  mono := fun ⟨h, v, q⟩ k => ⟨h, v, q.mono k⟩
  trim := fun ⟨h, v, q⟩ => ⟨h, v, { q with
    sg := ⟨q.sg, _, q.hg, .inl rfl⟩
    sv := fun b hb => ⟨q.sv b hb, by obtain ⟨cs, hc⟩ := own_blk q.row hb; exact ⟨_, hc, .inr rfl⟩⟩ }⟩
  kz := fun _ _ h => h
/-- Its cells. -/
theorem rc_cells {w : World} {g : Nat} {T : TypeId} {h : List UInt8} {a b c d e f : Value} (k : w.heap[g]? = some (.cells (bvs h ++ [a, b, c, d, e, f]).toArray T (0, 0))) (h4 : h.length = 4) :
    w.cell? ⟨g, 4, none⟩ = some a ∧ w.cell? ⟨g, 5, none⟩ = some b ∧ w.cell? ⟨g, 6, none⟩ = some c ∧ w.cell? ⟨g, 7, none⟩ = some d ∧ w.cell? ⟨g, 8, none⟩ = some e ∧ w.cell? ⟨g, 9, none⟩ = some f ∧ (∀ o, w.frozen? ⟨g, o, none⟩ = false) ∧ g < w.heap.size := by
  have hl : (bvs h).length = 4 := by rw [bvs_length]; exact h4
  have key : ∀ (i : Nat), w.cell? ⟨g, 4 + i, none⟩ = [a, b, c, d, e, f][i]? := fun i => by
    rw [cell_of_row _ _ _ _ _ _ k, List.getElem?_toArray, List.getElem?_append_right (by omega), hl]
    congr 1
    omega
  exact ⟨key 0, key 1, key 2, key 3, key 4, key 5, fun o => by simp [World.frozen?, k], heap_lt k⟩
theorem rc_set {w : World} {g : Nat} {T : TypeId} {h : List UInt8} {R : List Value} (k : Nat) (x : Value) (hg : w.heap[g]? = some (.cells (bvs h ++ R).toArray T (0, 0))) (h4 : h.length = 4) : w.setCell ⟨g, 4 + k, none⟩ x = w.setRow g (bvs h ++ R.set k x).toArray := by
  rw [setCell_eq_setRow w g (4 + k) _ T (0, 0) x hg]
  congr 1
  apply Array.ext'
  have hl : (bvs h).length = 4 := by rw [bvs_length]; exact h4
  simp only [Array.toList_setIfInBounds, List.set_append_right _ _ (show (bvs h).length ≤ 4 + k by omega), hl]
  congr 2
  omega
/-- The head's bytes, as a slice. -/
theorem rc_head {w : World} {S : Nat → Prop} {g : Nat} {h : List UInt8} {v : Value} {s : Rc} (q : RcP w S g h v s) : RS w (.slice (some ⟨g, 0, none⟩) 4 4) h := by
  refine .inr ⟨g, 0, 4, by rw [q.h4], heap_lt q.hg, by rw [q.h4]; exact Nat.le_refl _, fun j hj => ?_⟩
  rw [cell_of_row _ _ _ _ _ _ q.hg, Nat.zero_add, List.getElem?_toArray, List.getElem?_append_left (by rw [bvs_length]; exact hj)]
theorem RcP.new {w : World} {S S' : Nat → Prop} {g : Nat} {h h' : List UInt8} {v v' : Value} {s s' : Rc} (q : RcP w S g h v s) (hS : ∀ i, S i → S' i) (hr : OwnR w 0 5 1 One v' s'.body.length (bvs s'.body)) (hv : ∀ b, v'.ownBlock = some b → S' b) (h4 : h'.length = 4) (hh : h'.take s'.hd.length = s'.hd) :
    RcP (w.setRow g (bvs h' ++ rcR s' v').toArray) S' g h' v' s' where
  hg := setRow_heap _ _ _ _ _ _ q.hg
  h4 := h4
  hh := hh
  row := hr.set q.hg (by decide)
  sg := hS _ q.sg
  sv := hv
theorem beV_bn (l : List UInt8) : beV l = (bn l : Int) := by
  have : ∀ (l : List UInt8) (n : Nat), l.foldl (fun (n : Int) b => n * 256 + (b.toNat : Int)) (n : Int) = ((l.foldl (fun n b => n * 256 + b.toNat) n : Nat) : Int) := by
    intro l
    induction l with
    | nil => intro n; rfl
    | cons b l ih => intro n; rw [List.foldl_cons, List.foldl_cons, ← ih]; congr 1
  exact this l 0
theorem bn_lt {l : List UInt8} (h : l.length = 4) : bn l < 4294967296 := by
  have := (beV_lt h).2
  rw [beV_bn] at this
  omega
theorem and_top (n : Nat) (h : n < 4294967296) : n &&& 2 ^ 31 = if 2147483648 ≤ n then 2147483648 else 0 := by
  have hb : (n.testBit 31) = decide (2147483648 ≤ n) := by
    rw [Nat.testBit_eq_decide_div_mod_eq]
    apply decide_eq_decide.2
    simp
    omega
  apply Nat.eq_of_testBit_eq
  intro i
  rw [Nat.testBit_and, Nat.testBit_two_pow]
  by_cases hi : 31 = i
  · subst hi
    rw [hb]
    by_cases hn : 2147483648 ≤ n
    · rw [decide_eq_true hn, if_pos hn, show (2147483648 : Nat) = 2 ^ 31 by decide, Nat.testBit_two_pow]
      simp
    · rw [decide_eq_false hn, if_neg hn]
      simp
  · rw [decide_eq_false hi, Bool.and_false]
    by_cases hn : 2147483648 ≤ n
    · rw [if_pos hn, show (2147483648 : Nat) = 2 ^ 31 by decide, Nat.testBit_two_pow, decide_eq_false hi]
    · rw [if_neg hn]
      simp
theorem bits_last (n : Nat) (h : n < 4294967296) : (bits .and .u32 (n : Int) 2147483648 != 0) = decide (2147483648 ≤ n) := by
  have h1 : (BitVec.ofInt 32 (2147483648 : Int)).toNat = 2 ^ 31 := by decide
  have h2 : (BitVec.ofInt 32 ((n : Nat) : Int)).toNat = n := by rw [BitVec.ofInt_natCast, BitVec.toNat_ofNat]; exact Nat.mod_eq_of_lt (by omega)
  have e : bits .and .u32 (n : Int) 2147483648 = if 2147483648 ≤ n then 2147483648 else 0 := by
    show IntKind.u32.wrap ((BitVec.ofInt 32 ((n : Nat) : Int) &&& BitVec.ofInt 32 (2147483648 : Int)).toNat : Int) = _
    rw [BitVec.toNat_and, h1, h2, and_top n h]
    by_cases hn : 2147483648 ≤ n <;> simp [hn, IntKind.wrap, IntKind.bits, IntKind.signed]
  rw [e]
  by_cases hn : 2147483648 ≤ n <;> simp [hn]
theorem bits_left (n : Nat) (h : n < 4294967296) : bits .andNot .u32 (n : Int) 2147483648 = ((n % 2147483648 : Nat) : Int) := by
  have h2 : (BitVec.ofInt 32 ((n : Nat) : Int)).toNat = n := by rw [BitVec.ofInt_natCast, BitVec.toNat_ofNat]; exact Nat.mod_eq_of_lt (by omega)
  have h3 : (~~~ (BitVec.ofInt 32 (2147483648 : Int))).toNat = 2 ^ 31 - 1 := by decide
  show IntKind.u32.wrap ((BitVec.ofInt 32 ((n : Nat) : Int) &&& ~~~ (BitVec.ofInt 32 (2147483648 : Int))).toNat : Int) = _
  rw [BitVec.toNat_and, h2, h3, Nat.and_two_pow_sub_one_eq_mod]
  simp [IntKind.wrap, IntKind.bits, IntKind.signed]
  omega
end Go.Proofs.Ytbbkailmlaffjaa
