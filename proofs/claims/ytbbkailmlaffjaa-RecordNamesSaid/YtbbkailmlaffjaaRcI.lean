/- Records: readers and rows side by side. -/
import Derived.Test.YtbbkailmlaffjaaRcH
set_option linter.unusedVariables false
set_option maxRecDepth 100000
namespace Go.Proofs.Ytbbkailmlaffjaa
open Go.RowKit

theorem OwnR.setC {w : World} {B : Nat} {T : TypeId} {sz : Nat} {n b c j : Nat} {cs : List Value} {x : Value} (h : OwnR w B T sz One (.slice (some ⟨b, 0, none⟩) n c) n cs) (hj : j < cs.length) (hx : One x) :
    ∃ row', w.setCell ⟨b, j, none⟩ x = w.setRow b row' ∧ OwnR (w.setRow b row') B T sz One (.slice (some ⟨b, 0, none⟩) n c) n (cs.set j x) := by
  obtain ⟨h0, ⟨hv, _⟩ | ⟨g, c', junk, hv, hB, hg, hc, hC⟩⟩ := h
  · cases hv
  · simp only [Value.slice.injEq, Option.some.injEq, Addr.mk.injEq, and_true, true_and] at hv
    obtain ⟨rfl, rfl⟩ := hv
    refine ⟨_, setCell_eq_setRow w b j _ T (0, 0) x hg, by rw [List.length_set]; exact h0, .inr ⟨b, c, junk, rfl, hB, ?_, by rw [List.length_set]; exact hc, fun u hu => ?_⟩⟩
    · rw [setRow_heap w b _ _ _ _ hg]
      congr 2
      apply Array.ext'
      simp [List.set_append_left _ _ hj]
    · rcases List.mem_append.1 hu with hu | hu
      · rcases List.mem_or_eq_of_mem_set hu with hu | rfl
        · exact hC u (List.mem_append_left _ hu)
        · exact hx
      · exact hC u (List.mem_append_right _ hu)
def ownK (T : TypeId) (o : Obj) : Prop := match o with
  | .cells _ t _ => t = T
  | _ => False
def ownOb (T : TypeId) (sz : Nat) (v : Value) (n : Nat) (cs : List Value) : Ob Zn where
  is := fun w S => OwnR w 0 T sz One v n cs ∧ ∀ b, v.ownBlock = some b → S b
  K := ownK T
  mutw := fun h k hd _ => ⟨h.1.mutO k fun b hb => hd b (h.2 b hb), h.2⟩
  mono := fun h k => ⟨h.1, fun b hb => k b (h.2 b hb)⟩
  trim := fun h => ⟨h.1, fun b hb => ⟨h.2 b hb, by obtain ⟨cs, hc⟩ := own_blk h.1 hb; exact ⟨_, hc, rfl⟩⟩⟩
  kz := fun o h hz => hz
theorem ownOb_nil (w : World) (T : TypeId) (sz : Nat) (S : Nat → Prop) : (ownOb T sz (.slice none 0 0) 0 []).is w S := ⟨OwnR.nil, fun b hb => by simp [Value.ownBlock] at hb⟩
def anyOb : Ob Zn where
  is := fun _ _ => True
  K := fun _ => False
  mutw := fun _ _ _ _ => trivial
  mono := fun _ _ => trivial
  trim := fun _ => trivial
  kz := fun _ _ h => h
section
variable {W w : World} {ds : List (Ob Zn)}
theorem OSt.ownNil (h : OSt W ds w) (T : TypeId) (sz : Nat) : OSt W (ownOb T sz (.slice none 0 0) 0 [] :: ds) w :=
  h.push (Ext.refl w) (R := fun _ => False) (ownOb_nil w T sz _) fun _ hi => hi.elim
theorem OSt.own {T : TypeId} {sz n : Nat} {v : Value} {cs : List Value} (h : OSt W ds w) (i : Nat) (hi : ds[i]? = some (ownOb T sz v n cs)) : OwnR w 0 T sz One v n cs := by
  obtain ⟨S, h1, _⟩ := h.pick hi
  exact h1.1
theorem OSt.pushOwn {w' : World} {T : TypeId} {sz n : Nat} {v : Value} {cs : List Value} (h : OSt W ds w) (k : Ext w w') (ho : OwnR w' w.heap.size T sz One v n cs) : OSt W (ownOb T sz v n cs :: ds) w' :=
  h.push k (R := fun b => v.ownBlock = some b) ⟨ho.mono (Nat.zero_le _), fun b hb => hb⟩ fun b hb => (own_lt ho hb).1
theorem OSt.setOwn {T : TypeId} {sz n b c j : Nat} {cs : List Value} {x : Value} (h : OSt W ds w) (i : Nat) (hi : ds[i]? = some (ownOb T sz (.slice (some ⟨b, 0, none⟩) n c) n cs)) (hj : j < cs.length) (hx : One x) :
    OSt W (ds.set i (ownOb T sz (.slice (some ⟨b, 0, none⟩) n c) n (cs.set j x))) (w.setCell ⟨b, j, none⟩ x) := by
  obtain ⟨S, h1, _, h3, _⟩ := h.pick hi
  obtain ⟨row', e, ho⟩ := OwnR.setC h1.1 hj hx
  rw [e]
  have hb : S b := h1.2 b (by simp [Value.ownBlock])
  exact h3 _ _ ⟨⟨ho, fun b' hb' => .inl (h1.2 b' hb')⟩, mut_setRow hb _⟩
/-- Blocks of rows of one's own are no other object's. -/
theorem OSt.apart {T : TypeId} {sz n b i j : Nat} {v : Value} {cs : List Value} {S : Nat → Prop} (hp : ∀ w' (D' : Ob Zn), To S w w' D' → OSt W (ds.set i D') w') (hj : ds[j]? = some (ownOb T sz v n cs)) (hij : j ≠ i) (hb : v.ownBlock = some b) (hl : b < w.heap.size) : ¬ S b := by
  intro hS
  have k : Mut (fun i => i = b) w (w.putObj b (.deferred none)) := Mut.of_grown (grownBy_putObj' w b (.deferred none)) fun x hx => by simpa using hx.symm
  have h := hp (w.putObj b (.deferred none)) anyOb ⟨trivial, k.mono fun i hi => hi ▸ hS⟩
  have := h.own j (by rw [List.getElem?_set_ne (fun e => hij e.symm)]; exact hj)
  obtain ⟨cs', hc⟩ := own_blk this hb
  rw [World.putObj_heap_same hl] at hc
  cases hc
/-- A slice that is an argument's, or a row's of one's own that is not the i-th object. -/
def Away (W : World) (ds : List (Ob Zn)) (i : Nat) (v : Value) : Prop := ∀ b off n c, v = .slice (some ⟨b, off, none⟩) n c → b < W.heap.size ∨ ∃ j T sz v0 n0 cs0, j ≠ i ∧ ds[j]? = some (ownOb T sz v0 n0 cs0) ∧ v0.ownBlock = some b
theorem OSt.away {D : Ob Zn} {i : Nat} {v : Value} {l : List UInt8} (h : OSt W ds w) (hi : ds[i]? = some D) (ha : Away W ds i v) (hr : RS w v l) {S : Nat → Prop} (hS : ∀ k, S k → W.heap.size ≤ k) (hp : ∀ w' (D' : Ob Zn), To S w w' D' → OSt W (ds.set i D') w') : ∀ b off n c, v = .slice (some ⟨b, off, none⟩) n c → ¬ S b := by
  intro b off n c e hs
  rcases ha b off n c e with h1 | ⟨j, T, sz, v0, n0, cs0, hij, hj, hb⟩
  · have := hS b hs; omega
  · refine OSt.apart hp hj hij hb ?_ hs
    exact (own_lt (h.own j hj) hb).2
end
def shN (b : Bool) : Int := if b then 40 else 0
def strOb (v : Value) (l : List (List UInt8)) : Ob Zn := ownOb 9 1 v l.length (svs l)
theorem eat_held' {st : Rc} (x : List UInt8) : (st.eat x).held ≤ st.held + x.length := eat_held x
theorem fin_held (s : Rc) : s.fin.1.held ≤ s.held := by
  unfold Rc.fin
  split
  · exact Nat.le_refl _
  · split
    · exact Nat.zero_le _
    · exact Nat.le_refl _
theorem feed_held : ∀ (c : List UInt8) (s : Rc), (feed s c).1.held ≤ s.held + c.length
  | [], s => by rw [feed_nil]; simp
  | b :: c, s => by
    rw [feed_cons]
    have h1 := feed_held c (s.one b).1
    have h2 : (s.one b).1.held ≤ s.held + 1 := by
      unfold Rc.one
      split
      · exact Nat.le_succ _
      · exact Nat.le_trans (fin_held _) (eat_held [b])
    simp only [List.length_cons]
    show (feed (s.one b).1 c).1.held ≤ _
    omega
section
variable {W w : World} {ds : List (Ob Zn)}
theorem newO (h : OSt W ds w) : Calls Try.prog 9 #[] w fun e w' => ∃ g, e = .returned (.pointer (some ⟨g, 0, none⟩)) ∧ OSt W (rcOb g rc0 :: ds) w' :=
  (New_any w).mono fun e w' ⟨he, hx, hi⟩ => ⟨_, he, h.push hx hi fun i hi => Nat.le_of_eq hi.symm⟩
theorem heldO (h : OSt W ds w) (i : Nat) {g : Nat} {s : Rc} (hi : ds[i]? = some (rcOb g s)) : Calls Try.prog 12 #[.pointer (some ⟨g, 0, none⟩)] w fun e w' => e = .returned (.int .i64 s.held) ∧ w' = w := by
  obtain ⟨S, h1, _⟩ := h.pick hi
  exact Held_any w h1
theorem shutO (h : OSt W ds w) (i : Nat) {g : Nat} {s : Rc} (hi : ds[i]? = some (rcOb g s)) : Calls Try.prog 13 #[.pointer (some ⟨g, 0, none⟩)] w fun e w' => e = .returned (.bool s.shut) ∧ w' = w := by
  obtain ⟨S, h1, _⟩ := h.pick hi
  exact Shut_any w h1
theorem copyO (h : OSt W ds w) (i : Nat) {g : Nat} {s : Rc} (hi : ds[i]? = some (rcOb g s)) (hok : s.Ok) : Calls Try.prog 19 #[.pointer (some ⟨g, 0, none⟩)] w fun e w' => ∃ g', e = .returned (.pointer (some ⟨g', 0, none⟩)) ∧ OSt W (rcOb g' s :: ds) w' := by
  obtain ⟨S, h1, _⟩ := h.pick hi
  have := hok.bl
  exact (Copy_any w h1 (by omega)).mono fun e w' ⟨he, hx, hi⟩ => ⟨_, he, h.push hx hi fun i hi => hi⟩
theorem feedO (h : OSt W ds w) (i : Nat) {g : Nat} {s : Rc} {v : Value} {ch : List UInt8} (hi : ds[i]? = some (rcOb g s)) (hok : s.Ok) (hch : RS w v ch) (ha : Away W ds i v) (hcl : ch.length ≤ 10000000) (hhl : s.held ≤ 100000000) :
    Calls Try.prog 10 #[.pointer (some ⟨g, 0, none⟩), v] w fun e w' => ∃ tv, e = .returned (.tuple #[tv, .int .i64 (shN (feed s ch).1.shut)]) ∧ OSt W (strOb tv (feed s ch).2 :: ds.set i (rcOb g (feed s ch).1)) w' := by
  obtain ⟨S, h1, h2, h3, h4⟩ := h.pick hi
  have hS := h.away hi ha hch (fun k hk => (h2 k hk).1) h3
  obtain ⟨A, c, rfl⟩ := hch.form
  refine (Feed_any w h1 hok hch hS hcl (by omega)).mono ?_
  rintro e w' ⟨tv, rfl, ho, hT⟩
  refine ⟨tv, rfl, h4 w' _ (strOb tv (feed s ch).2) (fun b => tv.ownBlock = some b) hT ⟨ho.mono (Nat.zero_le _), fun b hb => hb⟩ fun k hk => ⟨(own_lt ho hk).1, ?_⟩⟩
  obtain ⟨cs, hc⟩ := own_blk ho hk
  exact ⟨_, hc, rfl, rcn (cs := cs) (fr := (0, 0)) (by decide) (by decide)⟩
end
end Go.Proofs.Ytbbkailmlaffjaa
