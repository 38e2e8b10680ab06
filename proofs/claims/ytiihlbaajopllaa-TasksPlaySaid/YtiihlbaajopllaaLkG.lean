/- Walks of locks: New, Has, slices.Clone, Row. -/
import Derived.Test.YtiihlbaajopllaaLkF
set_option linter.unusedVariables false
set_option maxRecDepth 100000
namespace Go.Proofs.Ytiihlbaajopllaa
open Go.RowKit

def LkAt (w : World) (S : Nat → Prop) (g : Nat) (L : List Tk) : Prop := ∃ ns, LkP w S g ns ∧ ns.map (·.p) = L ∧ ∀ (i : Nat) (x : Nd), ns[i]? = some x → x.has = hasAt L i
def lkK (o : Obj) : Prop := match o with
  | .cells _ t _ => t = 91 ∨ t = 95 ∨ t = 52
  | _ => False
theorem own_blk {w : World} {B b : Nat} {T : TypeId} {sz : Nat} {C : Value → Prop} {v : Value} {n : Nat} {cs : List Value} (h : OwnR w B T sz C v n cs) (hb : v.ownBlock = some b) : ∃ cs', w.heap[b]? = some (.cells cs' T (0, 0)) := by
  obtain ⟨_, ⟨rfl, _⟩ | ⟨g, c, junk, rfl, hB, hg, _⟩⟩ := h
  · simp [Value.ownBlock] at hb
  · obtain rfl : g = b := by simpa [Value.ownBlock] using hb
    exact ⟨_, hg⟩
theorem LkP.trim {w : World} {S : Nat → Prop} {g : Nat} {ns : List Nd} (h : LkP w S g ns) : LkP w (fun i => S i ∧ ∃ o, w.heap[i]? = some o ∧ lkK o) g ns :=
  { h with
    sg := ⟨h.sg, _, h.hg, .inl rfl⟩
    sa := fun i x hx => ⟨h.sa i x hx, _, h.nd i x hx, .inr (.inl rfl)⟩
    sw := fun i x hx b hb => ⟨h.sw i x hx b hb, by obtain ⟨cs, hc⟩ := own_blk (h.wn i x hx) hb; exact ⟨_, hc, .inr (.inr rfl)⟩⟩ }
def lkOb (g : Nat) (L : List Tk) : Ob Zf where
  is := fun w S => LkAt w S g L
  K := lkK
  mutw := fun ⟨ns, h, h2⟩ k hd _ => ⟨ns, h.mutw k hd, h2⟩
  mono := fun ⟨ns, h, h2⟩ k => ⟨ns, h.mono k, h2⟩
  trim := fun ⟨ns, h, h2⟩ => ⟨ns, h.trim, h2⟩
  kz := fun o h hz => by
    cases o <;> simp only [lkK, Zf] at h hz
    rw [hz] at h
    revert h
    decide
theorem LkAt.ext {w w' : World} {S : Nat → Prop} {g : Nat} {L : List Tk} (h : LkAt w S g L) (k : Ext w w') : LkAt w' S g L := (lkOb g L).ext h k
theorem LkAt.len {w : World} {S : Nat → Prop} {g : Nat} {L : List Tk} (h : LkAt w S g L) : L.length ≤ 16 := by
  obtain ⟨ns, h, rfl, _⟩ := h
  simpa using h.len
theorem locksNew_any (w : World) : Calls Try.prog 12 #[] w fun e w' => ∃ g, e = .returned (.pointer (some ⟨g, 0, none⟩)) ∧ g = w.heap.size ∧ (lkOb g []).is w' (fun i => w.heap.size ≤ i ∧ i < w'.heap.size) ∧ Below w.heap.size w w' := by
  have hg := heap_alloc_last w (.cells #[.pointer none] 91)
  have F : Hid ((lkOb w.heap.size []).is (w.alloc (.cells #[.pointer none] 91)) (fun i => w.heap.size ≤ i ∧ i < (w.alloc (.cells #[.pointer none] 91)).heap.size)) := Lib.hid
    ⟨[], ⟨hg, fun i x h => by simp at h, fun i x h => by simp at h, fun i j x y h => by simp at h, by simp, fun i x h => by simp at h, fun i x h => by simp at h, by simp, fun i x h => by simp at h⟩, rfl, fun i x h => by simp at h⟩
  clear hg
  go_enter Try.func12, Try.ntmps12
  go_wp2
  go_ret
  exact ⟨_, rfl, rfl, F.out, extAl _ _⟩
theorem LkAt.fnd {ns : List Nd} {L : List Tk} (hL : ns.map (·.p) = L) (n : Int) : (atL L n = none ∧ ptrAt ns (fndI ns n) = .pointer none) ∨ ∃ (i : Nat) (x : Nd), atL L n = some i ∧ fndI ns n = i ∧ ns[i]? = some x ∧ x.p.1 = n ∧ L[i]? = some x.p := by
  subst hL
  rcases atL_spec (ns.map (·.p)) n with ⟨h1, _⟩ | ⟨i, p, h1, h2, h3, _⟩
  · left
    refine ⟨h1, ?_⟩
    unfold fndI
    rw [h1]
    exact ptrAt_none (Nat.le_refl _)
  · right
    have hi : i < ns.length := by simpa using (List.getElem?_eq_some_iff.1 h2).1
    have hx : (ns.map (·.p))[i]? = some ns[i].p := by simp [hi]
    rw [h2] at hx
    cases hx
    exact ⟨i, ns[i], h1, by unfold fndI; rw [h1]; rfl, List.getElem?_eq_getElem hi, h3, h2⟩
theorem has_any {S : Nat → Prop} {g : Nat} {L : List Tk} (n : Int) (w : World) (h : LkAt w S g L) :
    Calls Try.prog 17 #[.pointer (some ⟨g, 0, none⟩), .int .i64 n] w fun e w' => e = .returned (.bool (hasL L n)) ∧ Below w.heap.size w w' := by
  obtain ⟨ns, h, hL, hh⟩ := h
  have K := Lib.hid (find_any n w h)
  rcases LkAt.fnd hL n with ⟨h1, h2⟩ | ⟨i, x, h1, h2, hx, h3, h4⟩
  · have e : hasL L n = false := by unfold hasL; rw [h1]
    rw [e]
    rw [h2] at K
    clear h hL hh h1 h2 e
    obtain ⟨P1, hP1⟩ := prevPtr_form ns (fndI ns n)
    rw [hP1] at K
    clear hP1
    go_enter Try.func17, Try.ntmps17
    go_wp2_with (go_at_call 55; refine K.out.mono ?_; rintro e w1 ⟨rfl, hb1⟩; have hz1 := hb1.size; (try simp only [World.size_alloc] at hz1))
    go_ret
    exact ⟨rfl, hb1⟩
  · have e : hasL L n = x.has := by unfold hasL; rw [h1, hh i x hx]
    rw [e]
    rw [h2, ptrAt_some hx] at K
    obtain ⟨_, _, c2, _, _, hxl⟩ := blk4 (h.nd i x hx)
    clear h hL hh h1 h2 e h4 hx h3
    obtain ⟨P1, hP1⟩ := prevPtr_form ns i
    rw [hP1] at K
    clear hP1
    go_enter Try.func17, Try.ntmps17
    go_wp2_with (go_at_call 55; refine K.out.mono ?_; rintro e w1 ⟨rfl, hb1⟩; have c2' := (Below.cell (p := ⟨x.a, 2, none⟩) hb1 hxl).trans c2)
    go_ret
    exact ⟨rfl, hb1⟩

/-! Rows of one's own. -/
theorem app_int {w : World} {B n : Nat} {v x : Value} {cs : List Value} {m : Nat} {new : List Value} {tx ty : TypeId} (ho : OwnR w B 3 1 One v n cs) (hs : Src Try.prog 1 tx x m new w) (hB : B ≤ w.heap.size) (hn : ∀ u ∈ new, One u) (hc : n + m ≤ 100000000) :
    ∃ v' w', (Builtin.append_ #[28, tx] ty #[v, x]).run Try.prog w = .ok v' w' ∧ OwnR w' B 3 1 One v' (n + m) (cs ++ new) ∧ Below B w w' ∧ w.grownBy w' v.ownBlock ∧ (∀ b, v'.ownBlock = some b → v.ownBlock = some b ∨ w.heap.size ≤ b) := by
  have h : (Try.prog.info? 3).map (fun i => (i.zero, i.size, i.bytes)) = some (some (.int .i64 0), 1, 8) := by kernel_rfl
  obtain ⟨i, hi, hz0, hz1, hz2⟩ := info_prt h
  exact appG2 (ty := ty) Try.underlying28 hi hz1 hz0 rfl ho hs hB (by omega) hn (by intro u hu; simp [Value.cells] at hu; subst hu; rfl) (by rw [hz2]; omega) (by omega)
theorem app_want {w : World} {B n : Nat} {v x : Value} {cs : List Value} {m : Nat} {new : List Value} {tx ty : TypeId} (ho : OwnR w B 52 2 One v n cs) (hs : Src Try.prog 2 tx x m new w) (hB : B ≤ w.heap.size) (hn : ∀ u ∈ new, One u) (hc : n + m ≤ 100000000) :
    ∃ v' w', (Builtin.append_ #[35, tx] ty #[v, x]).run Try.prog w = .ok v' w' ∧ OwnR w' B 52 2 One v' (n + m) (cs ++ new) ∧ Below B w w' ∧ w.grownBy w' v.ownBlock ∧ (∀ b, v'.ownBlock = some b → v.ownBlock = some b ∨ w.heap.size ≤ b) := by
  have h : (Try.prog.info? 52).map (fun i => (i.zero, i.size, i.bytes)) = some (some (.agg #[.int .i64 0, .bool false]), 2, 16) := by kernel_rfl
  obtain ⟨i, hi, hz0, hz1, hz2⟩ := info_prt h
  exact appG2 (ty := ty) Try.underlying35 hi hz1 hz0 rfl ho hs hB (by omega) hn (by intro u hu; simp [Value.cells] at hu; rcases hu with rfl | rfl <;> rfl) (by rw [hz2]; omega) (by omega)
set_option maxHeartbeats 1000000 in
theorem clone_wants {v : Value} {n : Nat} {cs : List Value} (w : World) (h : RR w 2 v n cs) (h1 : ∀ u ∈ cs, One u) (hl : n ≤ 1000000) :
    Calls Try.prog 53 #[v] w fun e w' => ∃ v', e = .returned v' ∧ OwnR w' w.heap.size 52 2 One v' n cs ∧ Below w.heap.size w w' := by
  have hf := h.form
  obtain ⟨A, c, rfl⟩ := hf
  have hq := fun w => run_eql_slice_nil (P := Try.prog) w 35 _ A n c Try.underlying35
  have ho := alloc_row0 w 52 w.heap.size 2 One (Nat.le_refl _)
  have hs := (h.ext (extAl w (.cells #[] 52))).src (tx := 35) Try.underlying35 h1
  obtain ⟨v', w1, hr, ho1, hb, -, -⟩ := app_want (tx := 35) (ty := 35) ho hs (by simp) h1 (by omega)
  have hb' : Below w.heap.size w w1 := Below.trans (extAl w _) hb
  simp only [Nat.zero_add, List.nil_append] at ho1
  cases A with
  | none =>
    have h0 : n = 0 := by
      rcases h with ⟨_, ⟨A, c, hv, h0⟩ | ⟨b, off, c, hv, _⟩⟩
      · exact h0
      · simp at hv
    have hcs : cs = [] := List.length_eq_zero_iff.1 (by have := h.1; rw [h0] at this; simpa using this)
    subst h0 hcs
    simp only [Option.isNone_none] at hq
    clear ho hs hr ho1 hb hb' h h1 hl
    go_enter Try.func53, Try.ntmps53
    go_wp2
    go_ret
    exact ⟨_, rfl, OwnR.nil, by (repeat' (first | (with_reducible assumption) | (with_reducible exact Below.refl _ _) | (with_reducible refine below_sc ?_ ?_) | ((with_reducible show (_ : Nat) ≤ _); omega) | refine Below.setCell ?_ (by first | omega | (simp; done) | (simp; omega)) _ | refine Below.alloc ?_ (by first | omega | (simp; done) | (simp; omega)) _ | refine Below.drew ?_ | refine below_drewN ?_ _ | refine Below.trans ?_ (Below.mono (by assumption) (by first | omega | (simp; done) | (simp; omega)))))⟩
  | some a =>
    have Hr := Lib.hid hr
    simp only [Option.isNone_some] at hq
    clear hr hs ho h
    go_enter Try.func53, Try.ntmps53
    go_wp2_with (refine wpList_app rfl (.tmp 5) (.tmp 6) 35 35 rfl Hr.out ?_; simp only [Act.put])
    go_ret
    exact ⟨_, rfl, ho1, hb'⟩
end Go.Proofs.Ytiihlbaajopllaa
