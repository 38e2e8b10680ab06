/- Results: the writer's entries. -/
import Derived.Test.YteahlnoonmfjhaaGreatRsA
set_option linter.unusedVariables false
set_option maxRecDepth 100000
namespace Go.Proofs.YteahlnoonmfjhaaGreat
open Go.RowKit

def enB (y : EnT) : List UInt8 := textL y.name ++ intL y.ino ++ intL y.cookie
def entsB (l : List EnT) : List UInt8 := beN l.length 4 ++ l.flatMap enB
section
variable {W0 w w' : World} {B gw ga : Nat} {Ta T : TypeId} {q q' : Bool} {b b' : List UInt8} {row row' row2 : Array Value}
theorem OwnZ.lt {e : TypeId} {v : Value} {l : List UInt8} (h : OwnZ w B e v l) : OffB v w.heap.size := fun g' o n c hv => by
  rcases h with ⟨h, -⟩ | ⟨c', g2, junk, h, hB, hh, hc⟩
  · rw [h] at hv; cases hv
  · rw [h] at hv
    cases hv
    exact Nat.ne_of_lt (heap_lt hh)
/-- A new variable beside, that the writer then writes from. -/
theorem WrQ.side (h : WrQ W0 w B gw ga Ta q b row) : WrQ (w.alloc (.cells row' T)) (w.alloc (.cells row' T)) B gw w.heap.size T q b row' := by
  obtain ⟨v, h1, h2, h3⟩ := h.hw
  have hx := extAl w (.cells row' T)
  exact { hw := ⟨v, Ext.blk hx h1, h2.ext hx, h3.1, h2.lt⟩, ha := heap_alloc_last _ _, ne := Nat.ne_of_lt (heap_lt h1), mu := Mut.refl _ _, lB := Nat.le_trans h.lB hx.size }
theorem WrQ.back (h : WrQ W0 w B gw ga Ta q b row) (k : WrQ (w.alloc (.cells row' T)) w' B gw w.heap.size T q' b' row2) (hB : ga < B) : WrQ W0 w' B gw ga Ta q' b' row := by
  obtain ⟨v, h1, h2, h3⟩ := k.hw
  have hx := extAl w (.cells row' T)
  have hl := h.lts
  have hs := hx.size
  exact { hw := ⟨v, h1, h2, h3.1, h2.off hB⟩,
          ha := (k.mu.block ga (Nat.lt_of_lt_of_le hl.2 hs) (fun e => by rcases e with e | e; exact h.ne e.symm; omega)).trans (Ext.blk hx h.ha), ne := h.ne,
          mu := ⟨(k.mu.os).trans ((Mut.of_ext (S := fun _ => False) hx).os.trans h.mu.os), (k.mu.tape).trans ((Mut.of_ext (S := fun _ => False) hx).tape.trans h.mu.tape), (k.mu.output).trans ((Mut.of_ext (S := fun _ => False) hx).output.trans h.mu.output), Nat.le_trans h.mu.size (Nat.le_trans hs k.mu.size), fun i hi hn =>
            (k.mu.block i (Nat.lt_of_lt_of_le (Nat.lt_of_lt_of_le hi h.mu.size) hs) (fun e => by
              rcases e with e | e
              · exact hn (.inl e)
              · have := h.mu.size; omega)).trans ((hx.block i (Nat.lt_of_lt_of_le hi h.mu.size)).trans (h.mu.block i hi hn))⟩,
          lB := k.lB }
end
section
variable {W0 : World} {B gw ga : Nat} {b : List UInt8} {x : RsT} {rv : Value}
theorem RR.mutP {S : Nat → Prop} {w w' : World} {sz : Nat} {v : Value} {n : Nat} {cs : List Value} (h : RR w sz v n cs) (k : Mut S w w') (hn : 0 < n → ∀ b off m c, v = .slice (some ⟨b, off, none⟩) m c → ¬ S b) : RR w' sz v n cs := by
  by_cases hp : 0 < n
  · exact h.mutO k (hn hp)
  · obtain ⟨A, c, rfl⟩ := h.form
    obtain rfl : n = 0 := by omega
    exact ⟨h.1, .inl ⟨A, c, rfl, rfl⟩⟩
theorem RR.off {w : World} {sz n : Nat} {v : Value} {cs : List Value} {g : Nat} (h : RR w sz v n cs) (hp : 0 < n) (hg : w.heap.size ≤ g) : OffB v g := fun b off m c e => by
  subst e
  obtain ⟨A, c', e⟩ := h.form
  cases e
  obtain ⟨b', off', e, hb, -⟩ := h.at hp
  cases e
  omega
def longE (l : List EnT) : Bool := l.any (fun y => decide (255 < y.name.length))
theorem longE_take (l : List EnT) (k : Nat) (y : EnT) (h : l[k]? = some y) : longE (l.take (k + 1)) = (longE (l.take k) || decide (255 < y.name.length)) := by
  unfold longE
  rw [List.take_add_one, h, List.any_append]
  simp
theorem new_en (w : World) (y0 y1 y2 : Value) : (((w.alloc (.cells #[.string ⟨#[]⟩, .int .i64 0, .int .i64 0] 113)).setCell ⟨w.heap.size, 0, none⟩ y0).setCell ⟨w.heap.size, 1, none⟩ y1).setCell ⟨w.heap.size, 2, none⟩ y2 = w.alloc (.cells #[y0, y1, y2] 113) := by
  have h := heap_alloc_last w (.cells #[.string ⟨#[]⟩, .int .i64 0, .int .i64 0] 113)
  have s := set3r (o := 0) (x := y0) (y := y1) (z := y2) h
  simp only [Nat.zero_add] at s
  rw [s, World.setRow_alloc_new]
  rfl
theorem enB_len (y : EnT) (h : y.name.length ≤ 255) : (textL y.name).length ≤ 264 := by
  have h1 : padN y.name.length ≤ 3 := by unfold padN; omega
  unfold textL fixL
  simp only [List.length_append, beN_length, zs, List.length_replicate]
  omega
end
end Go.Proofs.YteahlnoonmfjhaaGreat
