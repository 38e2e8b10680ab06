/- Readers of package xdr, several at a time; each call at known states. -/
import Derived.Test.YtaccjneglaomhaaRdN
set_option linter.unusedVariables false
namespace Go.Proofs.Ytaccjneglaomhaa
open Go.RowKit

/-- These readers, at unlike places from B on. -/
def Rds (B : Nat) (w : World) (l : List (Nat × St)) : Prop := (∀ p ∈ l, Rd 92 w p.1 p.2 ∧ B ≤ p.1) ∧ (l.map (·.1)).Nodup ∧ B ≤ w.heap.size
theorem Rds.nil {B : Nat} {w : World} (h : B ≤ w.heap.size) : Rds B w [] := ⟨(fun _ h => by cases h), List.nodup_nil, h⟩
theorem Rds.ext {B : Nat} {w w' : World} {l : List (Nat × St)} (h : Rds B w l) (k : Ext w w') : Rds B w' l := ⟨fun p hp => ⟨(h.1 p hp).1.ext k, (h.1 p hp).2⟩, h.2.1, Nat.le_trans h.2.2 k.size⟩
theorem Rds.at {B : Nat} {w : World} {l : List (Nat × St)} {i g : Nat} {s : St} (h : Rds B w l) (hi : l[i]? = some (g, s)) : Rd 92 w g s ∧ B ≤ g := h.1 _ (List.mem_of_getElem? hi)
theorem Rds.cons {B g : Nat} {w w' : World} {l : List (Nat × St)} {s : St} (h : Rds B w l) (k : Ext w w') (hr : Rd 92 w' g s) (hg : w.heap.size ≤ g) : Rds B w' ((g, s) :: l) := by
  refine ⟨fun p hp => ?_, ?_, Nat.le_trans h.2.2 k.size⟩
  · rcases List.mem_cons.1 hp with rfl | hp
    · exact ⟨hr, Nat.le_trans h.2.2 hg⟩
    · exact ⟨(h.1 p hp).1.ext k, (h.1 p hp).2⟩
  · rw [List.map_cons, List.nodup_cons]
    refine ⟨fun hm => ?_, h.2.1⟩
    obtain ⟨p, hp, rfl⟩ := List.mem_map.1 hm
    have := (h.1 p hp).1.lt
    omega
theorem Rds.set {B : Nat} {w w' : World} {l : List (Nat × St)} {i g : Nat} {s s' : St} (h : Rds B w l) (hi : l[i]? = some (g, s)) (hr : Rd 92 w' g s') (k : But g w w') : Rds B w' (l.set i (g, s')) ∧ Below B w w' := by
  have hg := h.at hi
  have hil := (List.getElem?_eq_some_iff.1 hi).1
  have hie := (List.getElem?_eq_some_iff.1 hi).2
  refine ⟨⟨fun p hp => ?_, ?_, Nat.le_trans h.2.2 k.size⟩, k.below hg.2 h.2.2⟩
  · obtain ⟨j, hj, rfl⟩ := List.getElem_of_mem hp
    rw [List.getElem_set]
    simp only [List.length_set] at hj
    split
    · exact ⟨hr, hg.2⟩
    · rename_i hne
      have hjm := h.1 l[j] (List.getElem_mem hj)
      refine ⟨hjm.1.but hg.1 (fun he => hne ?_) k, hjm.2⟩
      have hnd := h.2.1
      have := List.getElem_inj (xs := l.map (·.1)) (h₀ := by simpa using hil) (h₁ := by simpa using hj) hnd
      apply this.1
      simp only [List.getElem_map, hie]
      exact he.symm
  · have : (l.set i (g, s')).map (·.1) = l.map (·.1) := by
      rw [List.map_set]
      apply List.ext_getElem?
      intro j
      rw [List.getElem?_set]
      split
      · rename_i he
        subst he
        simp [hil, hie]
      · rfl
    rw [this]
    exact h.2.1

theorem newReader_l {B : Nat} {w : World} {rs : List (Nat × St)} (v : Value) (l : List UInt8) (h : Rds B w rs) (hv : RS w v l) (hl : l.length ≤ 900000) :
    Calls Try.prog 36 #[v] w fun e w' => ∃ g, e = .returned (.pointer (some ⟨g, 0, none⟩)) ∧ Rds B w' ((g, some l) :: rs) ∧ Ext w w' := by
  refine (newReader_any v l w hv hl).mono ?_
  rintro e w' ⟨g, rfl, r, hg, hb⟩
  exact ⟨g, rfl, h.cons hb r hg, hb⟩

theorem word_l {B : Nat} {w : World} {rs : List (Nat × St)} {g : Nat} {s : St} (i : Nat) (v : Int) (s' : St) (h : Rds B w rs) (hi : rs[i]? = some (g, s)) (h1 : (rdW s).1 = v) (h2 : (rdW s).2 = s') :
    Calls Try.prog 38 #[.pointer (some ⟨g, 0, none⟩)] w fun e w' => e = .returned (.int .u32 v) ∧ Rds B w' (rs.set i (g, s')) ∧ Below B w w' := by
  subst h1 h2
  refine (word_any g s w (h.at hi).1).mono ?_
  rintro e w' ⟨rfl, r, k⟩
  obtain ⟨h3, h4⟩ := h.set hi r k
  exact ⟨rfl, h3, h4⟩

theorem long_l {B : Nat} {w : World} {rs : List (Nat × St)} {g : Nat} {s : St} (i : Nat) (v : Int) (s' : St) (h : Rds B w rs) (hi : rs[i]? = some (g, s)) (h1 : (rdL s).1 = v) (h2 : (rdL s).2 = s') :
    Calls Try.prog 40 #[.pointer (some ⟨g, 0, none⟩)] w fun e w' => e = .returned (.int .u64 v) ∧ Rds B w' (rs.set i (g, s')) ∧ Below B w w' := by
  subst h1 h2
  refine (long_any g s w (h.at hi).1).mono ?_
  rintro e w' ⟨rfl, r, k⟩
  obtain ⟨h3, h4⟩ := h.set hi r k
  exact ⟨rfl, h3, h4⟩

theorem int_l {B : Nat} {w : World} {rs : List (Nat × St)} {g : Nat} {s : St} (i : Nat) (v : Int) (s' : St) (h : Rds B w rs) (hi : rs[i]? = some (g, s)) (h1 : wrap64 (rdL s).1 = v) (h2 : (rdL s).2 = s') :
    Calls Try.prog 42 #[.pointer (some ⟨g, 0, none⟩)] w fun e w' => e = .returned (.int .i64 v) ∧ Rds B w' (rs.set i (g, s')) ∧ Below B w w' := by
  subst h1 h2
  refine (int_any g s w (h.at hi).1).mono ?_
  rintro e w' ⟨rfl, r, k⟩
  obtain ⟨h3, h4⟩ := h.set hi r k
  exact ⟨rfl, h3, h4⟩

theorem flag_l {B : Nat} {w : World} {rs : List (Nat × St)} {g : Nat} {s : St} (i : Nat) (v : Bool) (s' : St) (h : Rds B w rs) (hi : rs[i]? = some (g, s)) (h1 : (rdF s).1 = v) (h2 : (rdF s).2 = s') :
    Calls Try.prog 44 #[.pointer (some ⟨g, 0, none⟩)] w fun e w' => e = .returned (.bool v) ∧ Rds B w' (rs.set i (g, s')) ∧ Below B w w' := by
  subst h1 h2
  refine (flag_any g s w (h.at hi).1).mono ?_
  rintro e w' ⟨rfl, r, k⟩
  obtain ⟨h3, h4⟩ := h.set hi r k
  exact ⟨rfl, h3, h4⟩

theorem text_l {B : Nat} {w : World} {rs : List (Nat × St)} {g : Nat} {s : St} (i : Nat) (m : Int) (v : ByteArray) (s' : St) (h : Rds B w rs) (hi : rs[i]? = some (g, s)) (hl : s.l.length ≤ 900000) (h1 : str (rdT s m).1 = v) (h2 : (rdT s m).2 = s') :
    Calls Try.prog 46 #[.pointer (some ⟨g, 0, none⟩), .int .i64 m] w fun e w' => e = .returned (.string v) ∧ Rds B w' (rs.set i (g, s')) ∧ Below B w w' := by
  subst h1 h2
  refine (text_any g s m w (h.at hi).1 hl).mono ?_
  rintro e w' ⟨rfl, r, k⟩
  obtain ⟨h3, h4⟩ := h.set hi r k
  exact ⟨rfl, h3, h4⟩

theorem fixed_l {B : Nat} {w : World} {rs : List (Nat × St)} {g : Nat} {s : St} (i : Nat) (m : Int) (v : ByteArray) (s' : St) (h : Rds B w rs) (hi : rs[i]? = some (g, s)) (hl : s.l.length ≤ 900000) (h1 : str (rdX s m).1 = v) (h2 : (rdX s m).2 = s') :
    Calls Try.prog 48 #[.pointer (some ⟨g, 0, none⟩), .int .i64 m] w fun e w' => e = .returned (.string v) ∧ Rds B w' (rs.set i (g, s')) ∧ Below B w w' := by
  subst h1 h2
  refine (fixed_any g s m w (h.at hi).1 hl).mono ?_
  rintro e w' ⟨rfl, r, k⟩
  obtain ⟨h3, h4⟩ := h.set hi r k
  exact ⟨rfl, h3, h4⟩

theorem count_l {B : Nat} {w : World} {rs : List (Nat × St)} {g : Nat} {s : St} (i : Nat) (m : Int) (v : Int) (s' : St) (h : Rds B w rs) (hi : rs[i]? = some (g, s)) (h1 : (rdC s m).1 = v) (h2 : (rdC s m).2 = s') :
    Calls Try.prog 50 #[.pointer (some ⟨g, 0, none⟩), .int .i64 m] w fun e w' => e = .returned (.int .i64 v) ∧ Rds B w' (rs.set i (g, s')) ∧ Below B w w' := by
  subst h1 h2
  refine (count_any g s m w (h.at hi).1).mono ?_
  rintro e w' ⟨rfl, r, k⟩
  obtain ⟨h3, h4⟩ := h.set hi r k
  exact ⟨rfl, h3, h4⟩

theorem ok_l {B : Nat} {w : World} {rs : List (Nat × St)} {g : Nat} {s : St} (i : Nat) (v : Bool) (h : Rds B w rs) (hi : rs[i]? = some (g, s)) (h1 : s.isSome = v) :
    Calls Try.prog 52 #[.pointer (some ⟨g, 0, none⟩)] w fun e w' => e = .returned (.bool v) ∧ w = w' := by
  subst h1
  refine (ok_any g s w (h.at hi).1).mono ?_
  rintro e w' ⟨rfl, rfl⟩
  exact ⟨rfl, rfl⟩

theorem left_l {B : Nat} {w : World} {rs : List (Nat × St)} {g : Nat} {s : St} (i : Nat) (v : Int) (h : Rds B w rs) (hi : rs[i]? = some (g, s)) (h1 : (s.l.length : Int) = v) :
    Calls Try.prog 53 #[.pointer (some ⟨g, 0, none⟩)] w fun e w' => e = .returned (.int .i64 v) ∧ w = w' := by
  subst h1
  refine (left_any g s w (h.at hi).1).mono ?_
  rintro e w' ⟨rfl, rfl⟩
  exact ⟨rfl, rfl⟩

theorem done_l {B : Nat} {w : World} {rs : List (Nat × St)} {g : Nat} {s : St} (i : Nat) (v : Bool) (h : Rds B w rs) (hi : rs[i]? = some (g, s)) (h1 : doneB s = v) :
    Calls Try.prog 54 #[.pointer (some ⟨g, 0, none⟩)] w fun e w' => e = .returned (.bool v) ∧ w = w' := by
  subst h1
  refine (done_any g s w (h.at hi).1).mono ?_
  rintro e w' ⟨rfl, rfl⟩
  exact ⟨rfl, rfl⟩

theorem take_nil (m : Int) (w : World) : Calls Try.prog 71 #[.pointer none, .int .i64 m] w fun e w' => e = .returned (.tuple #[.slice none 0 0, .bool false]) ∧ w = w' := by
  go_enter Try.func71, Try.ntmps71
  go_wp2_with fail
  go_ret2
  exact ⟨rfl, rfl⟩

theorem word_nil (w : World) : Calls Try.prog 38 #[.pointer none] w fun e w' => e = .returned (.int .u32 0) ∧ w = w' := by
  go_enter Try.func38, Try.ntmps38
  go_wp2_with (go_at_call 71; refine (take_nil _ _).mono ?_; rintro e w' ⟨rfl, rfl⟩)
  go_ret
  exact ⟨rfl, rfl⟩

theorem ok_nil (w : World) : Calls Try.prog 52 #[.pointer none] w fun e w' => e = .returned (.bool false) ∧ w = w' := by
  go_enter Try.func52, Try.ntmps52
  go_wp2_with fail
  go_ret
  exact ⟨rfl, rfl⟩

theorem left_nil (w : World) : Calls Try.prog 53 #[.pointer none] w fun e w' => e = .returned (.int .i64 0) ∧ w = w' := by
  go_enter Try.func53, Try.ntmps53
  go_wp2_with fail
  go_ret
  exact ⟨rfl, rfl⟩

theorem done_nil (w : World) : Calls Try.prog 54 #[.pointer none] w fun e w' => e = .returned (.bool false) ∧ w = w' := by
  go_enter Try.func54, Try.ntmps54
  go_wp2_with (go_at_call 52; refine (ok_nil _).mono ?_; rintro e w' ⟨rfl, rfl⟩)
  go_ret
  exact ⟨rfl, rfl⟩

theorem long_nil (w : World) : Calls Try.prog 40 #[.pointer none] w fun e w' => e = .returned (.int .u64 0) ∧ w = w' := by
  go_enter Try.func40, Try.ntmps40
  go_wp2_with (first | (go_at_call 38; refine (word_nil _).mono ?_; rintro e w' ⟨rfl, rfl⟩) | (go_at_call 52; refine (ok_nil _).mono ?_; rintro e w' ⟨rfl, rfl⟩))
  go_ret
  exact ⟨rfl, rfl⟩

theorem int_nil (w : World) : Calls Try.prog 42 #[.pointer none] w fun e w' => e = .returned (.int .i64 0) ∧ w = w' := by
  go_enter Try.func42, Try.ntmps42
  go_wp2_with (go_at_call 40; refine (long_nil _).mono ?_; rintro e w' ⟨rfl, rfl⟩)
  go_ret
  exact ⟨rfl, rfl⟩

theorem flag_nil (w : World) : Calls Try.prog 44 #[.pointer none] w fun e w' => e = .returned (.bool false) ∧ w = w' := by
  go_enter Try.func44, Try.ntmps44
  go_wp2_with (go_at_call 38; refine (word_nil _).mono ?_; rintro e w' ⟨rfl, rfl⟩)
  go_ret
  exact ⟨rfl, rfl⟩

theorem fixed_nil (m : Int) (w : World) : Calls Try.prog 48 #[.pointer none, .int .i64 m] w fun e w' => e = .returned (.string ⟨#[]⟩) ∧ w = w' := by
  go_enter Try.func48, Try.ntmps48
  go_wp2_with (go_at_call 71; refine (take_nil _ _).mono ?_; rintro e w' ⟨rfl, rfl⟩)
  go_ret
  exact ⟨rfl, rfl⟩

theorem count_nil (m : Int) (hm : 0 ≤ m) (w : World) : Calls Try.prog 50 #[.pointer none, .int .i64 m] w fun e w' => e = .returned (.int .i64 0) ∧ w = w' := by
  go_enter Try.func50, Try.ntmps50
  go_wp2_with (go_at_call 38; refine (word_nil _).mono ?_; rintro e w' ⟨rfl, rfl⟩)
  go_ret
  exact ⟨rfl, rfl⟩
theorem text_nil (m : Int) (hm : 0 ≤ m) (w : World) : Calls Try.prog 46 #[.pointer none, .int .i64 m] w fun e w' => e = .returned (.string ⟨#[]⟩) ∧ w = w' := by
  go_enter Try.func46, Try.ntmps46
  go_wp2_with (first | (go_at_call 50; refine (count_nil _ (by omega) _).mono ?_; rintro e w' ⟨rfl, rfl⟩) | (go_at_call 48; refine (fixed_nil _ _).mono ?_; rintro e w' ⟨rfl, rfl⟩))
  go_ret
  exact ⟨rfl, rfl⟩

/-- What is written, as bytes that can be read. -/
theorem Word_l {w : World} (v : Value) (l l' : List UInt8) (n : Int) (hv : RS w v l) (h0 : 0 ≤ n) (h1 : n ≤ 4294967295) (h : l.length ≤ 900000) (he : l ++ beN n 4 = l') :
    Calls Try.prog 16 #[v, .int .u32 n] w fun e w' => ∃ v', e = .returned v' ∧ RS w' v' l' ∧ Ext w w' := by
  subst he
  exact (Word_any v l n w hv h0 h1 h).mono fun e w' ⟨v', h1, h2, h3⟩ => ⟨v', h1, h2.rs, h3⟩
theorem Long_l {w : World} (v : Value) (l l' : List UInt8) (n : Int) (hv : RS w v l) (h0 : 0 ≤ n) (h1 : n ≤ 18446744073709551615) (h : l.length ≤ 900000) (he : l ++ beL n = l') :
    Calls Try.prog 17 #[v, .int .u64 n] w fun e w' => ∃ v', e = .returned v' ∧ RS w' v' l' ∧ Ext w w' := by
  subst he
  exact (Long_any v l n w hv h0 h1 h).mono fun e w' ⟨v', h1, h2, h3⟩ => ⟨v', h1, h2.rs, h3⟩
theorem Int_l {w : World} (v : Value) (l l' : List UInt8) (n : Int) (hv : RS w v l) (h0 : -9223372036854775808 ≤ n) (h1 : n ≤ 9223372036854775807) (h : l.length ≤ 900000) (he : l ++ beL (n % 18446744073709551616) = l') :
    Calls Try.prog 18 #[v, .int .i64 n] w fun e w' => ∃ v', e = .returned v' ∧ RS w' v' l' ∧ Ext w w' := by
  subst he
  exact (Int_any v l n w hv h0 h1 h).mono fun e w' ⟨v', h1, h2, h3⟩ => ⟨v', h1, h2.rs, h3⟩
theorem Flag_l {w : World} (v : Value) (l l' : List UInt8) (b : Bool) (hv : RS w v l) (h : l.length ≤ 900000) (he : l ++ beN (b2i b) 4 = l') :
    Calls Try.prog 19 #[v, .bool b] w fun e w' => ∃ v', e = .returned v' ∧ RS w' v' l' ∧ Ext w w' := by
  subst he
  exact (Flag_any v l b w hv h).mono fun e w' ⟨v', h1, h2, h3⟩ => ⟨v', h1, h2.rs, h3⟩
theorem Text_l {w : World} (v : Value) (l l' s : List UInt8) (hv : RS w v l) (h : l.length ≤ 400000) (hs : s.length ≤ 400000) (he : l ++ (beN s.length 4 ++ fixL s) = l') :
    Calls Try.prog 20 #[v, .string (str s)] w fun e w' => ∃ v', e = .returned v' ∧ RS w' v' l' ∧ Ext w w' := by
  subst he
  exact (Text_any v l s w hv h hs).mono fun e w' ⟨v', h1, h2, h3⟩ => ⟨v', h1, h2.rs, h3⟩
theorem Fixed_l {w : World} (v : Value) (l l' s : List UInt8) (hv : RS w v l) (h : l.length ≤ 400000) (hs : s.length ≤ 400000) (he : l ++ fixL s = l') :
    Calls Try.prog 21 #[v, .string (str s)] w fun e w' => ∃ v', e = .returned v' ∧ RS w' v' l' ∧ Ext w w' := by
  subst he
  exact (Fixed_any v l s w hv h hs).mono fun e w' ⟨v', h1, h2, h3⟩ => ⟨v', h1, h2.rs, h3⟩
theorem RS.cv {w : World} {v : Value} {l : List UInt8} (h : RS w v l) : (convert 22 9 v).run Try.prog w = .ok (.string (str l)) w := h.conv Try.underlying22 Try.underlying5 Try.underlying9
end Go.Proofs.Ytaccjneglaomhaa
