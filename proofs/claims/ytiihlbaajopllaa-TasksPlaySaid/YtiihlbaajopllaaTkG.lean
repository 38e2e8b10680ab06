/- Walks of tasks: Synced. -/
import Derived.Test.YtiihlbaajopllaaTkF
set_option linter.unusedVariables false
set_option maxRecDepth 100000
namespace Go.Proofs.Ytiihlbaajopllaa
open Go.RowKit Go.MapKept

def sy (e : Te) : Te := if e.is = 1 then { e with is := 2 } else e
theorem sy_p (e : Te) : (sy e).p = e.p := by unfold sy; split <;> rfl
theorem sy_pl (e : Te) : (sy e).pl = e.pl := by unfold sy; split <;> rfl
def syk (L : List Te) (k : Nat) : List Te := (L.take k).map sy ++ L.drop k
theorem syk_zero (L : List Te) : syk L 0 = L := by simp [syk]
theorem syk_all (L : List Te) : syk L L.length = L.map sy := by simp [syk]
theorem syk_succ {L : List Te} {k : Nat} {x : Te} (h : L[k]? = some x) : syk L (k + 1) = (L.take k).map sy ++ sy x :: L.drop (k + 1) ∧ syk L k = (L.take k).map sy ++ x :: L.drop (k + 1) := by
  obtain ⟨hk, rfl⟩ := List.getElem?_eq_some_iff.1 h
  unfold syk
  refine ⟨by rw [List.take_add_one, h, List.map_append, List.append_assoc]; rfl, by rw [List.drop_eq_getElem_cons hk]⟩
theorem syk_names (L : List Te) (k : Nat) : (syk L k).map (·.p.1) = L.map (·.p.1) := by
  unfold syk
  rw [List.map_append, List.map_map]
  have : (L.take k).map ((fun x => x.p.1) ∘ sy) = (L.take k).map fun x => x.p.1 := List.map_congr_left fun e _ => by simp [sy_p]
  rw [this, ← List.map_append, List.take_append_drop]
theorem syk_find {L : List Te} (hnd : (L.map (·.p.1)).Nodup) {k : Nat} {x : Te} (h : L[k]? = some x) : findT (syk L k) x.p.1 = some x :=
  findT_mem (by rw [syk_names]; exact hnd) (by rw [(syk_succ h).2]; simp)
theorem syk_no {L : List Te} {k : Nat} {x : Te} (h : L[k]? = some x) (h1 : x.is ≠ 1) : syk L (k + 1) = syk L k := by
  rw [(syk_succ h).1, (syk_succ h).2]
  unfold sy
  rw [if_neg h1]
theorem syk_yes {L : List Te} (hnd : (L.map (·.p.1)).Nodup) {k : Nat} {x : Te} (h : L[k]? = some x) (h1 : x.is = 1) : syk L (k + 1) = setIs (syk L k) x.p.1 2 := by
  have hn : ((syk L k).map (·.p.1)).Nodup := by rw [syk_names]; exact hnd
  rw [(syk_succ h).1, (syk_succ h).2]
  rw [(syk_succ h).2] at hn
  simp only [List.map_append, List.map_cons, List.nodup_append, List.nodup_cons] at hn
  obtain ⟨_, ⟨h2, _⟩, h3⟩ := hn
  unfold setIs
  rw [List.map_append, List.map_cons, if_pos rfl]
  congr 1
  · symm
    refine (List.map_congr_left (g := id) fun e he => ?_).trans (List.map_id _)
    refine if_neg fun hx => ?_
    exact h3 e.p.1 (List.mem_map.2 ⟨e, he, rfl⟩) x.p.1 (List.mem_cons_self ..) hx
  · congr 1
    · unfold sy
      rw [if_pos h1]
    · symm
      refine (List.map_congr_left (g := id) fun e he => ?_).trans (List.map_id _)
      refine if_neg fun hx => ?_
      exact h2 (List.mem_map.2 ⟨e, he, hx⟩)
theorem syncL_take {L : List Te} {k : Nat} {x : Te} (h : L[k]? = some x) : syncL (L.take (k + 1)) = syncL (L.take k) ++ if x.is = 1 then [x.p.1] else [] := by
  unfold syncL
  rw [List.take_add_one, h, List.filter_append, List.map_append]
  congr 1
  simp only [Option.toList_some, List.filter_cons, List.filter_nil]
  by_cases e : x.is = 1 <;> simp [e]
theorem Ok_sync {T : TK} (h : T.Ok) : T.sync.Ok := Ok_map h sy_p sy_pl fun e he => by
  split
  · exact .inr (.inr rfl)
  · exact he
theorem plF_map (L : List Te) (f : Te → Te) (hp : ∀ e, (f e).p = e.p) (hl : ∀ e, (f e).pl = e.pl) (a : Int) : plF (L.map f) a = plF L a := by
  unfold plF
  rw [findT_map hp]
  cases findT L a with
  | none => rfl
  | some x => simp [hl]
theorem own_nm {w : World} {B b : Nat} {T : TypeId} {sz : Nat} {C : Value → Prop} {v : Value} {n : Nat} {cs : List Value} {F : FI} (h : OwnR w B T sz C v n cs) (hm : MapI w b F) : v.ownBlock ≠ some b := by
  intro hb
  obtain ⟨cs', hc⟩ := own_blk h hb
  exact cells_nm hc hm rfl
theorem mut_below {B : Nat} {w w' : World} (h : Below B w w') : Mut (fun i => B ≤ i) w w' := ⟨h.os, h.tape, h.output, h.size, fun i hi hn => h.block i (by omega)⟩
theorem Mut.thenB {S : Nat → Prop} {B : Nat} {a b c : World} (h : Mut S a b) (k : Below B b c) (hB : a.heap.size ≤ B) : Mut S a c :=
  ⟨k.os.trans h.os, k.tape.trans h.tape, k.output.trans h.output, Nat.le_trans h.size k.size, fun i hi hn => (k.block i (by omega)).trans (h.block i hi hn)⟩
theorem TkQ.mapS' {w w' : World} {S : Nat → Prop} {g tg ms mp : Nat} {c l : Int} {LT : List Tk} {F F' G : FI} (h : TkQ w S g tg ms mp c l LT F G) (hm : MapI w' ms F') (k : w.grownBy w' (some ms)) : TkQ w' S g tg ms mp c l LT F' G ∧ Mut S w w' := by
  have hM : Mut (fun i => i = ms) w w' := Mut.of_grown k fun b hb => by simpa using hb.symm
  exact ⟨{ hg := (hM.block g (heap_lt h.hg) (cells_nm h.hg h.st)).trans h.hg
           lk := h.lk.mutK hM fun i o hi ho => by subst hi; exact h.st.nlk o ho
           st := hm
           pl := h.pl.mut hM (Ne.symm h.ne)
           ne := h.ne
           sg := h.sg
           sm := h.sm
           sp := h.sp }, hM.mono (by rintro i rfl; exact h.sm)⟩
section
variable {S : Nat → Prop} {g : Nat} {T : TK}
set_option maxHeartbeats 4000000 in
theorem Synced_any (w : World) (h : TkAt w S g T) :
    Calls Try.prog 36 #[.pointer (some ⟨g, 0, none⟩)] w fun e w' => ∃ v, e = .returned (.tuple #[v, .int .i64 T.syncE]) ∧ OwnR w' w.heap.size 3 1 One v (syncL T.L).length (ics (syncL T.L)) ∧ To S w w' (tkOb g T.sync) := by
  obtain ⟨⟨tg, ms, mp, h⟩, hok⟩ := h
  have hok' := Ok_sync hok
  have h' : TkQ w (fun i => S i ∧ ∃ o, w.heap[i]? = some o ∧ tkK o) g tg ms mp T.cnt T.last (lkL T.L) (stF T.L) (plF T.L) := (tqOb ..).trim h
  obtain ⟨S', hS'⟩ : ∃ S' : Nat → Prop, S' = fun i => S i ∧ ∃ o, w.heap[i]? = some o ∧ tkK o := ⟨_, rfl⟩
  rw [← hS'] at h'
  have HS := Lib.hid fun i (hi : S' i) => (by rw [hS'] at hi; exact ⟨hi.1, heap_lt hi.2.choose_spec.1⟩ : S i ∧ i < w.heap.size)
  clear hS'
  have K := Lib.hid (row_any w h.lk)
  rw [show (lkL T.L).length = T.L.length by simp [lkL], show (lkL T.L).map (·.1) = T.L.map (·.p.1) by simp [lkL]] at K
  have Fin : Hid (∀ w5, TkQ w5 S' g tg ms mp T.cnt T.last (lkL T.L) (stF (syk T.L T.L.length)) (plF T.L) → Mut S' w w5 → To S w w5 (tkOb g T.sync)) := Lib.hid fun w5 h5 hm => by
    rw [syk_all] at h5
    refine To.tk' (T := T.sync) (tg := tg) (ms := ms) (mp := mp) (LT := lkL T.L) ⟨(tqOb ..).mono h5 fun i hi => .inl (HS.out i hi).1, hm.mono fun i hi => (HS.out i hi).1⟩ ?_ (fun a => rfl) (fun a => ?_) hok'
    · exact (lk_fix sy_p).symm
    · exact (plF_map T.L sy sy_p sy_pl a).symm
  have hE : T.syncE = if syncL T.L = [] then 5 else 0 := rfl
  rw [hE]
  have ND := Lib.hid hok.nd
  have IS := Lib.hid hok.is
  have N0 := Lib.hid hok.n0
  have hlen := hok.len
  obtain ⟨c0, c1, -, -, -, -, hlt⟩ := blk5 h.hg
  have H := Lib.hid h'
  clear h h' hok hok' hE
  generalize T.sync = T' at *
  generalize T.L = L at *
  generalize T.cnt = cn at *
  generalize T.last = la at *
  go_enter Try.func36, Try.ntmps36
  go_wp2_with fail
  refine K.out.mono ?_
  rintro e w1 ⟨v, rfl, ho, hb⟩
  have Q1 := Lib.hid (H.out.mutw (Mut.of_ext hb (S := fun _ => False)) fun i _ h => h)
  have M1 := Lib.hid (Mut.of_ext hb (S := S'))
  have RB := Lib.hid fun b (hb : v.ownBlock = some b) => (own_lt ho hb).2
  have R1 := Lib.hid ho
  have s1 := hb.size
  obtain ⟨Ar, cr, rfl⟩ := ho.form
  clear ho hb K H c0 c1 hlt
  go_wp2
  go_loopg [4, 15] L.length (fun gg u s wr => ∃ k : Nat, k ≤ L.length ∧ L.length - k ≤ gg ∧ s = .int .i64 k ∧ Hid (w1.heap.size ≤ wr.heap.size) ∧ Hid (TkQ wr S' g tg ms mp cn la (lkL L) (stF (syk L k)) (plF L)) ∧ Hid (Mut S' w wr) ∧ Hid (OwnR wr w.heap.size 3 1 One (.slice Ar L.length cr) L.length (ics (L.map (·.p.1)))) ∧ Hid (OwnR wr w1.heap.size 3 1 One u (syncL (L.take k)).length (ics (syncL (L.take k)))))
  case atStart => exact ⟨0, Nat.zero_le _, by omega, rfl, Lib.hid (Nat.le_refl _), by rw [syk_zero]; exact Q1, M1, R1, Lib.hid OwnR.nil⟩
  case round =>
    obtain ⟨k, hk, hg, rfl, HZ, HQ, HM, HR, HO⟩ := hrel
    obtain ⟨A2, c2, rfl⟩ := HO.out.form
    by_cases hlt : k < L.length
    · obtain ⟨x, hx⟩ : ∃ x, L[k]? = some x := ⟨_, List.getElem?_eq_getElem hlt⟩
      have hxi := IS.out x (List.mem_of_getElem? hx)
      have hxn := N0.out x (List.mem_of_getElem? hx)
      have hwf := wf_i64 (a := x.p.1) (by omega) (by omega)
      obtain ⟨b, rfl, -, hbl, hbc, hbj⟩ := HR.out.cells (by omega)
      have hbc := hbc (by omega)
      have hb1 := RB.out b rfl
      have x0 : wr.cell? ⟨b, k, none⟩ = some (.int .i64 x.p.1) := by
        have := hbj k (by rw [ics_length, List.length_map]; exact hlt)
        rw [this]
        simp [ics, (List.getElem?_eq_some_iff.1 hx).2]
      obtain ⟨c0, c1, -, -, -, -, hgl⟩ := blk5 HQ.out.hg
      have L1 := HQ.out.st.look (P := Try.prog) false (t := 103) Try.underlying103 Try.underlying3 (zero_u8 wr) hwf
      have e1 : stF (syk L k) x.p.1 = some (.int .u8 (1 + x.is)) := by unfold stF; rw [syk_find ND.out hx]; rfl
      simp only [e1, Bool.false_eq_true, if_false, Option.getD_some] at L1
      have HX := Lib.hid hx
      by_cases h1 : x.is = 1
      case neg =>
        have hno := syk_no hx h1
        have hst := syncL_take hx
        rw [if_neg h1, List.append_nil] at hst
        rw [← hno] at HQ
        rw [← hst] at HO ⊢
        have c1' : Value := .bool false
        rcases hxi with h0 | h0 | h0
        · rw [h0] at L1
          have H1 := Lib.hid L1
          have HN := Lib.hid h1
          clear hno hst e1 hx L1 h1 hbj hbl h0 c1'
          go_wp2_with (refine wpList_lk rfl 103 (.tmp 22) (.tmp 23) false rfl H1.out ?_; simp only [Act.put])
          go_roundg (L.length - (k + 1))
          case measure => omega
          case rel => exact ⟨k + 1, by omega, by omega, by go_num, HZ, HQ, HM, HR, HO⟩
        · exact absurd h0 h1
        · rw [h0] at L1
          have H1 := Lib.hid L1
          have HN := Lib.hid h1
          clear hno hst e1 hx L1 h1 hbj hbl h0 c1'
          go_wp2_with (refine wpList_lk rfl 103 (.tmp 22) (.tmp 23) false rfl H1.out ?_; simp only [Act.put])
          go_roundg (L.length - (k + 1))
          case measure => omega
          case rel => exact ⟨k + 1, by omega, by omega, by go_num, HZ, HQ, HM, HR, HO⟩
      case pos =>
        have hyes := syk_yes ND.out hx h1
        have hst := syncL_take hx
        rw [if_pos h1] at hst
        rw [h1] at L1
        have H1 := Lib.hid L1
        obtain ⟨w2, hr2, hm2, hg2⟩ := HQ.out.st.update (P := Try.prog) (t := 103) Try.underlying103 Try.underlying3 hwf (.int .u8 3)
        have hsm : (findT (syk L k) x.p.1).isSome = true := by rw [syk_find ND.out hx]; rfl
        have hM : Mut (fun i => i = ms) wr w2 := Mut.of_grown hg2 fun b hb => by simpa using hb.symm
        obtain ⟨q2, m2⟩ := HQ.out.mapS' (hm2.cong fun a => (stF_setIs (syk L k) x.p.1 2 hsm a).symm) hg2
        rw [← hyes] at q2
        have r2 := HR.out.mutO hM fun b hb e => own_nm HR.out HQ.out.st (e ▸ hb)
        have o2 := HO.out.mutO hM fun b hb e => own_nm HO.out HQ.out.st (e ▸ hb)
        have a2 := extAl w2 (.cells #[.int .i64 x.p.1] 3)
        have hsrc : Src Try.prog 1 28 (.slice (some ⟨w2.heap.size, 0, none⟩) 1 1) 1 [.int .i64 x.p.1] (w2.alloc (.cells #[.int .i64 x.p.1] 3)) := src_row Try.underlying28 (heap_alloc_last w2 _) rfl (by intro u hu; simp at hu; subst hu; rfl)
        have z1 := HZ.out
        have z2 := hM.size
        have hz3 : (syncL (L.take k)).length ≤ 16 := by
          unfold syncL
          rw [List.length_map]
          refine Nat.le_trans (List.length_filter_le _ _) ?_
          rw [List.length_take]
          omega
        obtain ⟨v', W2, hr, ho2, hb2, -, -⟩ := app_int (ty := 28) (o2.ext a2) hsrc (by simp; omega) (by intro u hu; simp at hu; subst hu; rfl) (by omega)
        have z3 := hb2.size
        simp only [World.size_alloc] at z3
        have HQ2 := Lib.hid ((q2.ext a2).mutw (mut_below hb2) fun i hi hB => by have := (HS.out i hi).2; omega)
        have HM2 := Lib.hid (((HM.out.trans m2).trans (Mut.of_ext a2)).thenB hb2 s1)
        have HR2 := Lib.hid ((r2.ext a2).mutO (mut_below hb2) fun i hi hB => by have := RB.out i hi; omega)
        have HO2 := Lib.hid ho2
        have R2 := Lib.hid hr2
        have Hr := Lib.hid hr
        obtain ⟨d0, d1, -, -, -, -, dl⟩ := blk5 q2.hg
        have HST := Lib.hid hst
        clear hr2 hm2 hg2 hM q2 m2 r2 o2 a2 hsrc hr ho2 hb2 hyes hst e1 hx L1 h1 hbj hbl hsm hxi HQ HR HM HO HZ
        go_wp2_with (first | (refine wpList_lk rfl 103 (.tmp 22) (.tmp 23) false rfl H1.out ?_; simp only [Act.put]; clear H1) | (refine wpList_mu rfl 103 (.tmp 29) (.tmp 30) _ rfl R2.out ?_; simp only [Act.put]; clear R2) | (at_builtin; refine wpList_app rfl (.tmp 31) (.tmp 33) 28 28 rfl Hr.out ?_; simp only [Act.put]))
        go_roundg (L.length - (k + 1))
        case measure => omega
        case rel =>
          refine ⟨k + 1, by omega, by omega, by go_num, Lib.hid (by omega), HQ2, HM2, HR2, ?_⟩
          rw [HST.out]
          rw [List.length_append, ics_app]
          exact HO2
    · obtain rfl : k = L.length := by omega
      rw [List.take_length] at HO ⊢
      have F := Lib.hid (Fin.out wr HQ.out HM.out)
      have O := Lib.hid (HO.out.mono s1)
      clear Q1 M1 R1 HO HQ HM HR Fin ND IS N0 HS RB
      by_cases hs : syncL L = []
      · rw [hs] at O ⊢
        have E := Lib.hid hs
        clear hs
        go_wp2
        exact bodyPost_ret (v := .tuple #[.slice none 0 0, .int .i64 5]) (by simp [results, Try.results36, go_sem]) rfl ⟨_, rfl, OwnR.nil, F.out⟩
      · have hp : 0 < (syncL L).length := List.length_pos_iff.2 hs
        have E := Lib.hid hs
        clear hs
        go_wp2
        exact bodyPost_ret (v := .tuple #[.slice A2 (syncL L).length c2, .int .i64 0]) (by simp [results, Try.results36, go_sem]) rfl ⟨_, rfl, O.out, F.out⟩
end
end Go.Proofs.Ytiihlbaajopllaa
