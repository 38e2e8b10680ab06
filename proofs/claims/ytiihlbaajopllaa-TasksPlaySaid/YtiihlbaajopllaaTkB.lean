/- Tasks: how they lie in memory; their parts. -/
import Derived.Test.YtiihlbaajopllaaTkA
import Derived.Test.YtiihlbaajopllaaLkT
import Derived.Test.YtiihlbaajopllaaMapD
set_option linter.unusedVariables false
set_option maxRecDepth 100000
namespace Go.Proofs.Ytiihlbaajopllaa
open Go.RowKit

abbrev FI := Int → Option Value
def stF (L : List Te) : FI := fun a => (findT L a).map fun e => .int .u8 (1 + e.is)
def plF (L : List Te) : FI := fun a => (findT L a).map fun e => .int .i64 e.pl
structure TkQ (w : World) (S : Nat → Prop) (g tg ms mp : Nat) (c l : Int) (LT : List Tk) (F G : FI) : Prop where
  hg : w.heap[g]? = some (.cells #[.pointer (some ⟨tg, 0, none⟩), .map (some ms), .map (some mp), .int .i64 c, .int .i64 l] 106 (0, 0))
  lk : LkAt w S tg LT
  st : MapI w ms F
  pl : MapI w mp G
  ne : ms ≠ mp
  sg : S g
  sm : S ms
  sp : S mp
def tkK (o : Obj) : Prop := match o with
  | .cells _ t _ => t = 106 ∨ t = 91 ∨ t = 95 ∨ t = 52
  | .map _ _ => True
  | _ => False
theorem LkAt.trimK {w : World} {S : Nat → Prop} {g : Nat} {L : List Tk} (h : LkAt w S g L) : LkAt w (fun i => S i ∧ ∃ o, w.heap[i]? = some o ∧ lkK o) g L := (lkOb g L).trim h
theorem LkAt.mutK {w w' : World} {S T : Nat → Prop} {g : Nat} {L : List Tk} (h : LkAt w S g L) (k : Mut T w w') (hT : ∀ i o, T i → w.heap[i]? = some o → ¬ lkK o) : LkAt w' S g L := by
  obtain ⟨ns, h, h2⟩ := h.trimK
  exact ⟨ns, (h.mutw k fun i ⟨_, o, ho, hk⟩ ht => hT i o ht ho hk).mono fun i hi => hi.1, h2⟩
theorem LkAt.monoS {w : World} {S S' : Nat → Prop} {g : Nat} {L : List Tk} (h : LkAt w S g L) (k : ∀ i, S i → S' i) : LkAt w S' g L := (lkOb g L).mono h k
theorem cells_nm {w : World} {b g : Nat} {T : TypeId} {row : Array Value} {fr : Nat × Nat} {F : FI} (hg : w.heap[b]? = some (.cells row T fr)) (h : MapI w g F) : b ≠ g := by
  rintro rfl
  obtain ⟨es, cl, hb, _⟩ := h
  rw [hg] at hb
  cases hb
theorem MapI.set {w : World} {b g : Nat} {F : FI} {T' : TypeId} {row row' : Array Value} {fr : Nat × Nat} (h : MapI w b F) (hg : w.heap[g]? = some (.cells row T' fr)) : MapI (w.setRow g row') b F :=
  h.of_block (setRow_other _ _ _ _ fun e => cells_nm hg h e.symm)
theorem MapI.nlk {w : World} {b : Nat} {F : FI} (h : MapI w b F) : ∀ o, w.heap[b]? = some o → ¬ lkK o := by
  obtain ⟨es, cl, hb, _⟩ := h
  intro o ho
  rw [hb] at ho
  cases ho
  exact fun h => h
theorem TkQ.mutw {w w' : World} {S T : Nat → Prop} {g tg ms mp : Nat} {c l : Int} {LT : List Tk} {F G : FI} (h : TkQ w S g tg ms mp c l LT F G) (k : Mut T w w') (hd : ∀ i, S i → ¬ T i) : TkQ w' S g tg ms mp c l LT F G :=
  { h with
    hg := (k.block g (heap_lt h.hg) (hd _ h.sg)).trans h.hg
    lk := by obtain ⟨ns, h1, h2⟩ := h.lk; exact ⟨ns, h1.mutw k hd, h2⟩
    st := h.st.mut k (hd _ h.sm)
    pl := h.pl.mut k (hd _ h.sp) }
def tqOb (g tg ms mp : Nat) (c l : Int) (LT : List Tk) (F G : FI) : Ob Zf where
  is := fun w S => TkQ w S g tg ms mp c l LT F G
  K := tkK
  mutw := fun h k hd _ => h.mutw k hd
  mono := fun h k => { h with lk := h.lk.monoS k, sg := k _ h.sg, sm := k _ h.sm, sp := k _ h.sp }
  trim := fun h => { h with
    lk := h.lk.trimK.monoS fun i ⟨h1, o, ho, hk⟩ => ⟨h1, o, ho, by cases o <;> simp only [lkK] at hk; exact .inr hk⟩
    sg := ⟨h.sg, _, h.hg, .inl rfl⟩
    sm := ⟨h.sm, by obtain ⟨es, cl, hb, _⟩ := h.st; exact ⟨_, hb, trivial⟩⟩
    sp := ⟨h.sp, by obtain ⟨es, cl, hb, _⟩ := h.pl; exact ⟨_, hb, trivial⟩⟩ }
  kz := fun o h hz => by
    cases o <;> simp only [tkK, Zf] at h hz
    rw [hz] at h
    revert h
    decide
section
variable {w : World} {S : Nat → Prop} {g tg ms mp : Nat} {c l : Int} {LT : List Tk} {F G : FI}
theorem TkQ.ext {w' : World} (h : TkQ w S g tg ms mp c l LT F G) (k : Ext w w') : TkQ w' S g tg ms mp c l LT F G := (tqOb g tg ms mp c l LT F G).ext h k
/-- The locks' own part. -/
theorem TkQ.locks (h : TkQ w S g tg ms mp c l LT F G) : ∃ S1, LkAt w S1 tg LT ∧ ∀ w' LT', To S1 w w' (lkOb tg LT') → To S w w' (tqOb g tg ms mp c l LT' F G) := by
  refine ⟨_, h.lk.trimK, fun w' LT' ⟨h1, h2⟩ => ⟨?_, h2.mono fun i hi => hi.1⟩⟩
  have ng : ¬ (S g ∧ ∃ o, w.heap[g]? = some o ∧ lkK o) := by
    rintro ⟨_, o, ho, hk⟩
    rw [h.hg] at ho
    cases ho
    revert hk
    show ¬ (_ ∨ _ ∨ _)
    decide
  refine { hg := (h2.block g (heap_lt h.hg) ng).trans h.hg, lk := h1.monoS ?_, st := h.st.mut h2 ?_, pl := h.pl.mut h2 ?_, ne := h.ne, sg := .inl h.sg, sm := .inl h.sm, sp := .inl h.sp }
  · rintro i (hi | hi)
    · exact .inl hi.1
    · exact .inr hi
  · rintro ⟨_, o, ho, hk⟩; exact h.st.nlk o ho hk
  · rintro ⟨_, o, ho, hk⟩; exact h.pl.nlk o ho hk
theorem TkQ.cells (h : TkQ w S g tg ms mp c l LT F G) (c' l' : Int) : To S w (w.setRow g #[.pointer (some ⟨tg, 0, none⟩), .map (some ms), .map (some mp), .int .i64 c', .int .i64 l']) (tqOb g tg ms mp c' l' LT F G) :=
  ⟨{ hg := setRow_heap _ _ _ _ _ _ h.hg
     lk := (h.lk.mutK (mut_setRow (S := fun i => i = g) rfl _) fun i o hi ho hk => by
       subst hi
       rw [h.hg] at ho
       cases ho
       revert hk
       show ¬ (_ ∨ _ ∨ _)
       decide).monoS fun i hi => .inl hi
     st := h.st.set h.hg
     pl := h.pl.set h.hg
     ne := h.ne
     sg := .inl h.sg
     sm := .inl h.sm
     sp := .inl h.sp }, mut_setRow h.sg _⟩
theorem TkQ.mapS {w' : World} {F' : FI} (h : TkQ w S g tg ms mp c l LT F G) (hm : MapI w' ms F') (k : w.grownBy w' (some ms)) : To S w w' (tqOb g tg ms mp c l LT F' G) := by
  have hM : Mut (fun i => i = ms) w w' := Mut.of_grown k fun b hb => by simpa using hb.symm
  exact ⟨{ hg := (hM.block g (heap_lt h.hg) (cells_nm h.hg h.st)).trans h.hg
           lk := (h.lk.mutK hM fun i o hi ho => by subst hi; exact h.st.nlk o ho).monoS fun i hi => .inl hi
           st := hm
           pl := h.pl.mut hM (Ne.symm h.ne)
           ne := h.ne
           sg := .inl h.sg
           sm := .inl h.sm
           sp := .inl h.sp }, hM.mono (by rintro i rfl; exact h.sm)⟩
theorem TkQ.mapP {w' : World} {G' : FI} (h : TkQ w S g tg ms mp c l LT F G) (hm : MapI w' mp G') (k : w.grownBy w' (some mp)) : To S w w' (tqOb g tg ms mp c l LT F G') := by
  have hM : Mut (fun i => i = mp) w w' := Mut.of_grown k fun b hb => by simpa using hb.symm
  exact ⟨{ hg := (hM.block g (heap_lt h.hg) (cells_nm h.hg h.pl)).trans h.hg
           lk := (h.lk.mutK hM fun i o hi ho => by subst hi; exact h.pl.nlk o ho).monoS fun i hi => .inl hi
           st := h.st.mut hM h.ne
           pl := hm
           ne := h.ne
           sg := .inl h.sg
           sm := .inl h.sm
           sp := .inl h.sp }, hM.mono (by rintro i rfl; exact h.sp)⟩
theorem TkQ.cong {F' G' : FI} (h : TkQ w S g tg ms mp c l LT F G) (hF : ∀ a, F a = F' a) (hG : ∀ a, G a = G' a) : TkQ w S g tg ms mp c l LT F' G' := { h with st := h.st.cong hF, pl := h.pl.cong hG }
end
/-- Tasks T at g. -/
def TkAt (w : World) (S : Nat → Prop) (g : Nat) (T : TK) : Prop := (∃ tg ms mp, TkQ w S g tg ms mp T.cnt T.last (lkL T.L) (stF T.L) (plF T.L)) ∧ T.Ok
def tkOb (g : Nat) (T : TK) : Ob Zf where
  is := fun w S => TkAt w S g T
  K := tkK
  mutw := fun ⟨⟨tg, ms, mp, h⟩, hok⟩ k hd _ => ⟨⟨tg, ms, mp, h.mutw k hd⟩, hok⟩
  mono := fun ⟨⟨tg, ms, mp, h⟩, hok⟩ k => ⟨⟨tg, ms, mp, (tqOb ..).mono h k⟩, hok⟩
  trim := fun ⟨⟨tg, ms, mp, h⟩, hok⟩ => ⟨⟨tg, ms, mp, (tqOb ..).trim h⟩, hok⟩
  kz := (tqOb 0 0 0 0 0 0 [] (fun _ => none) (fun _ => none)).kz
theorem blk5 {w : World} {g : Nat} {T : TypeId} {a b c d e : Value} (k : w.heap[g]? = some (.cells #[a, b, c, d, e] T (0, 0))) :
    w.cell? ⟨g, 0, none⟩ = some a ∧ w.cell? ⟨g, 1, none⟩ = some b ∧ w.cell? ⟨g, 2, none⟩ = some c ∧ w.cell? ⟨g, 3, none⟩ = some d ∧ w.cell? ⟨g, 4, none⟩ = some e ∧ (∀ o, w.frozen? ⟨g, o, none⟩ = false) ∧ g < w.heap.size :=
  ⟨by simp [World.cell?, k], by simp [World.cell?, k], by simp [World.cell?, k], by simp [World.cell?, k], by simp [World.cell?, k], fun o => by simp [World.frozen?, k], heap_lt k⟩
theorem To.tk {w w' : World} {S : Nat → Prop} {g tg ms mp : Nat} {T : TK} {F G : FI} (h : To S w w' (tqOb g tg ms mp T.cnt T.last (lkL T.L) F G)) (hF : ∀ a, F a = stF T.L a) (hG : ∀ a, G a = plF T.L a) (hok : T.Ok) : To S w w' (tkOb g T) :=
  ⟨⟨⟨tg, ms, mp, h.1.cong hF hG⟩, hok⟩, h.2⟩
end Go.Proofs.Ytiihlbaajopllaa
