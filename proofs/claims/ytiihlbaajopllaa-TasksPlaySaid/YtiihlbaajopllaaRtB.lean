/- The document's table: Ask, Row, Copy. -/
import Derived.Test.YtiihlbaajopllaaRtA
set_option linter.unusedVariables false
set_option maxRecDepth 100000
namespace Go.Proofs.Ytiihlbaajopllaa
open Go.RowKit

theorem app_rwant {w : World} {B n : Nat} {v x : Value} {cs : List Value} {m : Nat} {new : List Value} {tx ty : TypeId} (ho : OwnR w B 98 2 One v n cs) (hs : Src Try.prog 2 tx x m new w) (hB : B ≤ w.heap.size) (hn : ∀ u ∈ new, One u) (hc : n + m ≤ 100000000) :
    ∃ v' w', (Builtin.append_ #[29, tx] ty #[v, x]).run Try.prog w = .ok v' w' ∧ OwnR w' B 98 2 One v' (n + m) (cs ++ new) ∧ Below B w w' ∧ w.grownBy w' v.ownBlock ∧ (∀ b, v'.ownBlock = some b → v.ownBlock = some b ∨ w.heap.size ≤ b) := by
  have h : (Try.prog.info? 98).map (fun i => (i.zero, i.size, i.bytes)) = some (some (.agg #[.int .i64 0, .bool false]), 2, 16) := by kernel_rfl
  obtain ⟨i, hi, hz0, hz1, hz2⟩ := info_prt h
  exact appG2 (ty := ty) Try.underlying29 hi hz1 hz0 rfl ho hs hB (by omega) hn (by intro u hu; simp [Value.cells] at hu; rcases hu with rfl | rfl <;> rfl) (by rw [hz2]; omega) (by omega)
theorem app_task {w : World} {B n : Nat} {v x : Value} {cs : List Value} {m : Nat} {new : List Value} {tx ty : TypeId} (ho : OwnR w B 126 2 One v n cs) (hs : Src Try.prog 2 tx x m new w) (hB : B ≤ w.heap.size) (hn : ∀ u ∈ new, One u) (hc : n + m ≤ 100000000) :
    ∃ v' w', (Builtin.append_ #[45, tx] ty #[v, x]).run Try.prog w = .ok v' w' ∧ OwnR w' B 126 2 One v' (n + m) (cs ++ new) ∧ Below B w w' ∧ w.grownBy w' v.ownBlock ∧ (∀ b, v'.ownBlock = some b → v.ownBlock = some b ∨ w.heap.size ≤ b) := by
  have h : (Try.prog.info? 126).map (fun i => (i.zero, i.size, i.bytes)) = some (some (.agg #[.int .i64 0, .slice none 0 0]), 2, 32) := by kernel_rfl
  obtain ⟨i, hi, hz0, hz1, hz2⟩ := info_prt h
  exact appG2 (ty := ty) Try.underlying45 hi hz1 hz0 rfl ho hs hB (by omega) hn (by intro u hu; simp [Value.cells] at hu; rcases hu with rfl | rfl <;> rfl) (by rw [hz2]; omega) (by omega)
theorem rncs_one {l : List Rn} (h : ∀ r ∈ l, One r.wv) : ∀ u ∈ rncs l, One u := by
  intro u hu
  obtain ⟨r, hr, hp⟩ := List.mem_flatMap.1 hu
  simp only [rnC, List.mem_cons, List.not_mem_nil, or_false] at hp
  rcases hp with rfl | rfl
  · rfl
  · exact h r hr
theorem OwnR.one {w : World} {B : Nat} {T : TypeId} {sz : Nat} {C : Value → Prop} {v : Value} {n : Nat} {cs : List Value} (h : OwnR w B T sz C v n cs) : One v := by
  obtain ⟨A, c, rfl⟩ := h.form
  rfl
set_option maxHeartbeats 1000000 in
theorem rrow_any {S : Nat → Prop} {g : Nat} {L : List Tk} (w : World) (h : RtAt w S g L) :
    Calls Try.prog 61 #[.pointer (some ⟨g, 0, none⟩)] w fun e w' => ∃ v, e = .returned v ∧ OwnR w' w.heap.size 3 1 One v L.length (ics (L.map (·.1))) ∧ Below w.heap.size w w' := by
  obtain ⟨v, ls, h, rfl⟩ := h
  obtain ⟨A, c, hv⟩ := h.row.form
  subst hv
  have hlen := h.len
  obtain ⟨c0, -, gl⟩ := blk1 h.hg
  have H := Lib.hid h
  clear h
  go_enter Try.func61, Try.ntmps61
  go_wp2
  go_loopg [3, 4] ls.length (fun gg u s wr => ∃ k : Nat, k ≤ ls.length ∧ ls.length - k ≤ gg ∧ s = .int .i64 k ∧ Hid (Ext w wr) ∧ Hid (OwnR wr w.heap.size 3 1 One u k (ics (((ls.map (·.p)).take k).map (·.1)))))
  case atStart => exact ⟨0, Nat.zero_le _, by omega, rfl, Lib.hid (Ext.refl w), Lib.hid OwnR.nil⟩
  case round =>
    obtain ⟨k, hk, hg, rfl, HW, HO⟩ := hrel
    have f0 := HW.out.cells1 gl c0
    obtain ⟨A2, c2, rfl⟩ := HO.out.form
    by_cases hlt : k < ls.length
    · obtain ⟨r, hr⟩ : ∃ r, ls[k]? = some r := ⟨_, List.getElem?_eq_getElem hlt⟩
      obtain ⟨gs, rfl, hgs, hc, t0, t1⟩ := H.out.task hr
      have k0 := HW.out.cells1 hgs t0
      have hx := extAl wr (.cells #[.int .i64 r.p.1] 3)
      have hsrc : Src Try.prog 1 28 (.slice (some ⟨wr.heap.size, 0, none⟩) 1 1) 1 [.int .i64 r.p.1] (wr.alloc (.cells #[.int .i64 r.p.1] 3)) := src_row Try.underlying28 (heap_alloc_last wr (.cells #[.int .i64 r.p.1] 3)) rfl (by intro u hu; simp at hu; subst hu; rfl)
      have hwz := Below.size HW.out
      obtain ⟨v', W2, hr2, ho2, hb2, -, -⟩ := app_int (ty := 28) (HO.out.ext hx) hsrc (by simp; omega) (by intro u hu; simp at hu; subst hu; rfl) (by omega)
      have Hr := Lib.hid hr2
      have HO2 := Lib.hid ho2
      have HW2 := Lib.hid (Below.trans HW.out (Below.trans (hx.mono hwz) hb2))
      have HR := Lib.hid hr
      clear hr2 ho2 hb2 hsrc hx hr t0 t1
      go_wp2_with (at_builtin; refine wpList_app rfl (.tmp 14) (.tmp 23) 28 28 rfl Hr.out ?_; simp only [Act.put])
      go_roundg (ls.length - (k + 1))
      case measure => omega
      case rel =>
        refine ⟨k + 1, by omega, by omega, by go_num, HW2, Lib.hid ?_⟩
        rw [List.take_add_one, List.map_append, ics_app]
        simpa [HR.out, ics] using HO2.out
    · obtain rfl : k = ls.length := by omega
      rw [List.take_of_length_le (by simp)] at HO
      go_wp2
      go_ret
      exact ⟨_, rfl, by simpa using HO.out, HW.out⟩
theorem rcopy_any {S : Nat → Prop} {g : Nat} {L : List Tk} (w : World) (h : RtAt w S g L) :
    Calls Try.prog 20 #[.pointer (some ⟨g, 0, none⟩)] w fun e w' => ∃ g', e = .returned (.pointer (some ⟨g', 0, none⟩)) ∧ (rtOb g' L).is w' (fun i => w.heap.size ≤ i ∧ i < w'.heap.size) ∧ Below w.heap.size w w' := by
  obtain ⟨v, ls, h, rfl⟩ := h
  obtain ⟨A, c, hv⟩ := h.row.form
  subst hv
  have hlen := h.len
  have hx := extAl w (.cells #[] 126)
  obtain ⟨c0, -, gl⟩ := blk1 h.hg
  have f0 := hx.cells1 gl c0
  have h1 := rncs_one fun r hr => (h.wn r hr).one
  have ho := alloc_row0 w 126 w.heap.size 2 One (Nat.le_refl _)
  obtain ⟨v', w1, hr, ho1, hb, -, -⟩ := app_task (tx := 45) (ty := 45) ho ((h.row.ext hx).src Try.underlying45 h1) (by simp) h1 (by omega)
  simp only [Nat.zero_add, List.nil_append] at ho1
  obtain ⟨A', c', rfl⟩ := ho1.form
  have hb' : Ext w w1 := Below.trans hx hb
  have hx2 := extAl w1 (.cells #[.slice A' ls.length c'] 47)
  have F := Lib.hid (show (rtOb w1.heap.size (ls.map (·.p))).is (w1.alloc (.cells #[.slice A' ls.length c'] 47)) (fun i => w.heap.size ≤ i ∧ i < (w1.alloc (.cells #[.slice A' ls.length c'] 47)).heap.size) from
    ⟨_, ls, { hg := heap_alloc_last _ _
              row := (ho1.ext hx2).mono (Nat.zero_le _)
              wn := fun r hr => ((h.wn r hr).ext hb').ext hx2
              sg := ⟨Below.size hb', by simp⟩
              sv := fun b hb => by have := own_lt ho1 hb; have := Below.size hx2; exact ⟨by omega, by omega⟩
              len := hlen
              wl := h.wl }, rfl⟩)
  have FE := Lib.hid (Ext.trans hb' hx2)
  have Hr := Lib.hid hr
  clear h ho ho1 hr hb hb' hx2 hx h1 c0
  go_enter Try.func20, Try.ntmps20
  go_wp2_with (at_builtin; refine wpList_app rfl (.tmp 3) (.tmp 7) 45 45 rfl Hr.out ?_; simp only [Act.put])
  go_ret
  exact ⟨_, rfl, F.out, FE.out⟩
end Go.Proofs.Ytiihlbaajopllaa
