/- Walks of package call and jettyref03, that write: what may be, words. -/
import Derived.Test.YtaccjneglaomhaaXdrD
set_option linter.unusedVariables false
namespace Go.Proofs.Ytaccjneglaomhaa
open Go.RowKit

/-- Is a number a word? -/
def isW (n : Int) : Bool := decide (0 ≤ n ∧ n ≤ 4294967295)
def wh (l : List UInt8) : Bool := decide (l.length % 4 = 0)

theorem isWord_b (n : Int) (b : Bool) (h : isW n = b) (w : World) : Calls Try.prog 64 #[.int .i64 n] w fun e w' => e = .returned (.bool b) ∧ w' = w := by
  subst h
  by_cases h0 : 0 ≤ n
  · by_cases h1 : n ≤ 4294967295
    · have h2 : isW n = true := by simp [isW, h0, h1]
      rw [h2]
      go_enter Try.func64, Try.ntmps64
      go_wp2
      go_ret
      exact ⟨rfl, rfl⟩
    · have h2 : isW n = false := by simp [isW, h1]
      rw [h2]
      go_enter Try.func64, Try.ntmps64
      go_wp2
      go_ret
      exact ⟨rfl, rfl⟩
  · have h2 : isW n = false := by simp [isW, h0]
    rw [h2]
    go_enter Try.func64, Try.ntmps64
    go_wp2
    go_ret
    exact ⟨rfl, rfl⟩

theorem rword_b (n : Int) (b : Bool) (h : isW n = b) (w : World) : Calls Try.prog 67 #[.int .i64 n] w fun e w' => e = .returned (.bool b) ∧ w' = w := by
  subst h
  by_cases h0 : 0 ≤ n
  · by_cases h1 : n < 4294967296
    · have h2 : isW n = true := by simp [isW]; omega
      rw [h2]
      go_enter Try.func67, Try.ntmps67
      go_wp2
      go_ret
      exact ⟨rfl, rfl⟩
    · have h2 : isW n = false := by simp [isW]; omega
      rw [h2]
      go_enter Try.func67, Try.ntmps67
      go_wp2
      go_ret
      exact ⟨rfl, rfl⟩
  · have h2 : isW n = false := by simp [isW, h0]
    rw [h2]
    go_enter Try.func67, Try.ntmps67
    go_wp2
    go_ret
    exact ⟨rfl, rfl⟩

theorem whole_b (l : List UInt8) (b : Bool) (h : wh l = b) (w : World) : Calls Try.prog 65 #[.string (str l)] w fun e w' => e = .returned (.bool b) ∧ w' = w := by
  have hs := str_size l
  subst h
  by_cases h0 : l.length % 4 = 0
  · have h1 : (l.length : Int) % 4 = 0 := by omega
    have h2 : wh l = true := by simp [wh, h0]
    rw [h2]
    go_enter Try.func65, Try.ntmps65
    go_wp2
    go_ret
    exact ⟨rfl, rfl⟩
  · have h1 : ¬ (l.length : Int) % 4 = 0 := by omega
    have h2 : wh l = false := by simp [wh, h0]
    have h3 : ((l.length : Int) % 4 == 0) = false := by rw [beq_eq_false_iff_ne]; exact h1
    rw [h2]
    go_enter Try.func65, Try.ntmps65
    go_wp2
    go_ret
    exact ⟨rfl, rfl⟩

/-- Numbers as words. -/
def wordsL (ns : List Int) : List UInt8 := ns.flatMap fun n => beN (n % 4294967296) 4
theorem wordsL_length (ns : List Int) : (wordsL ns).length = 4 * ns.length := by
  induction ns with
  | nil => rfl
  | cons n ns ih => rw [wordsL, List.flatMap_cons, List.length_append, beN_length, List.length_cons]; unfold wordsL at ih; omega
theorem wordsL_take {ns : List Int} {k : Nat} (h : k < ns.length) : wordsL (ns.take (k + 1)) = wordsL (ns.take k) ++ beN (ns[k] % 4294967296) 4 := by
  rw [List.take_succ_eq_append_getElem h]
  unfold wordsL
  rw [List.flatMap_append, List.flatMap_singleton]

theorem words_any (l : List UInt8) (ns : List Int) (g c : Nat) (w : World) (hl : l.length ≤ 20000) (hn : ns.length ≤ 1000) (hg : g < w.heap.size) (hc : ∀ j (h : j < ns.length), w.cell? ⟨g, j, none⟩ = some (.int .i64 ns[j])) :
    Calls Try.prog 66 #[.string (str l), .slice (some ⟨g, 0, none⟩) ns.length c] w fun e w' => e = .returned (.string (str (wordsL ns ++ l))) ∧ Below w.heap.size w w' := by
  have hs := str_size l
  have HC := Lib.hid hc
  clear hc
  go_enter Try.func66, Try.ntmps66
  go_wp2_with fail
  go_loopw [5, 10] (fun b i wr => ∃ k : Nat, k ≤ ns.length ∧ i = .int .i64 k ∧ Hid (OwnZ wr w.heap.size 5 b (wordsL (ns.take k))) ∧ Hid (Ext w wr)) (fun _ i _ => ns.length - (intOf i).toNat)
  case atStart => exact ⟨0, by omega, rfl, OwnZ.nil, Ext.refl _⟩
  case round =>
    obtain ⟨k, hk, rfl, HO, HX⟩ := hrel
    by_cases hlt : k < ns.length
    · have hcell := (cellB HX.out g k hg).trans (HC.out k hlt)
      go_wp2_with fail
      refine (Word_any _ (wordsL (ns.take k)) (ns[k] % 4294967296) _ HO.out.rs (by omega) (by omega) (by rw [wordsL_length]; simp; omega)).mono ?_
      rintro e w1 ⟨v1, rfl, o1, b1⟩
      have o2 := (o1.mono HX.out.size).z
      rw [← wordsL_take hlt] at o2
      have H2 := Lib.hid o2
      have HX2 := Lib.hid (HX.out.trans (Ext.of b1))
      clear o1 o2 b1 hcell
      go_wp2_with fail
      go_roundw
      case rel => exact ⟨k + 1, by omega, by go_num, H2, HX2⟩
      case measure => simp [intOf]; omega
    · obtain rfl : k = ns.length := by omega
      obtain ⟨wo, rfl⟩ : ∃ wo : World, wo = wr := ⟨_, rfl⟩
      have hcv := (HO.out.rs).conv (P := Try.prog) Try.underlying22 Try.underlying5 Try.underlying9
      rw [List.take_length] at hcv
      have hsz := str_size (wordsL ns)
      rw [wordsL_length] at hsz
      go_wp2_with fail
      go_ret
      exact ⟨rfl, HX.out⟩

/-- May a reply have such an error, with such a Body? -/
def mayB (e : Int) (l : List UInt8) : Bool := if e = 0 then wh l else if e = 4 ∨ e = 62 ∨ e = 63 then l.isEmpty else false

theorem may_any (e : Int) (l : List UInt8) (b : Bool) (h : mayB e l = b) (w : World) : Calls Try.prog 68 #[.int .i64 e, .string (str l)] w fun r w' => r = .returned (.bool b) ∧ w' = w := by
  have hs := str_size l
  subst h
  by_cases e0 : e = 0
  · subst e0
    go_enter Try.func68, Try.ntmps68
    go_wp2_with (go_at_call 65; refine (whole_b l _ rfl _).mono ?_; rintro r w' ⟨rfl, rfl⟩)
    go_ret
    exact ⟨rfl, rfl⟩
  by_cases e4 : e = 4
  · subst e4
    have hl := strL l
    go_enter Try.func68, Try.ntmps68
    go_wp2
    go_ret
    exact ⟨by simp [mayB], rfl⟩
  by_cases e62 : e = 62
  · subst e62
    have hl := strL l
    go_enter Try.func68, Try.ntmps68
    go_wp2
    go_ret
    exact ⟨by simp [mayB], rfl⟩
  by_cases e63 : e = 63
  · subst e63
    have hl := strL l
    go_enter Try.func68, Try.ntmps68
    go_wp2
    go_ret
    exact ⟨by simp [mayB], rfl⟩
  have hm : mayB e l = false := by simp [mayB, e0, e4, e62, e63]
  rw [hm]
  go_enter Try.func68, Try.ntmps68
  go_wp2
  go_ret
  exact ⟨rfl, rfl⟩
end Go.Proofs.Ytaccjneglaomhaa
