/- Results: the writer's entries. -/
import Derived.Test.YteahlnoonmfjhaaRsA
set_option linter.unusedVariables false
set_option maxRecDepth 100000
namespace Go.Proofs.Yteahlnoonmfjhaa
open Go.RowKit

def enB (y : EnT) : List UInt8 := textL y.name ++ intL y.ino ++ intL y.cookie
def entsB (l : List EnT) : List UInt8 := beN l.length 4 ++ l.flatMap enB
section
variable {W0 w w' : World} {B gw ga : Nat} {Ta T : TypeId} {q q' : Bool} {b b' : List UInt8} {row row' row2 : Array Value}
theorem OwnZ.lt {e : TypeId} {v : Value} {l : List UInt8} (h : OwnZ w B e v l) : OffB v w.heap.size := fun g' o n c hv => by
  rcases h with ⟨h, -⟩ | ⟨c', g2, junk, h, hB, hh, hc⟩
  · rw [h] at hv; cases hv
  · rw [h] at hv
    cases hv
    exact Nat.ne_of_lt (heap_lt hh)
/-- A new variable beside, that the writer then writes from. -/
theorem WrQ.side (h : WrQ W0 w B gw ga Ta q b row) : WrQ (w.alloc (.cells row' T)) (w.alloc (.cells row' T)) B gw w.heap.size T q b row' := by
  obtain ⟨v, h1, h2, h3⟩ := h.hw
  have hx := extAl w (.cells row' T)
  exact { hw := ⟨v, Ext.blk hx h1, h2.ext hx, h3.1, h2.lt⟩, ha := heap_alloc_last _ _, ne := Nat.ne_of_lt (heap_lt h1), mu := Mut.refl _ _, lB := Nat.le_trans h.lB hx.size }
theorem WrQ.back (h : WrQ W0 w B gw ga Ta q b row) (k : WrQ (w.alloc (.cells row' T)) w' B gw w.heap.size T q' b' row2) (hB : ga < B) : WrQ W0 w' B gw ga Ta q' b' row := by
  obtain ⟨v, h1, h2, h3⟩ := k.hw
  have hx := extAl w (.cells row' T)
  have hl := h.lts
  have hs := hx.size
  exact { hw := ⟨v, h1, h2, h3.1, h2.off hB⟩,
          ha := (k.mu.block ga (Nat.lt_of_lt_of_le hl.2 hs) (fun e => by rcases e with e | e; exact h.ne e.symm; omega)).trans (Ext.blk hx h.ha), ne := h.ne,
          mu := ⟨(k.mu.os).trans ((Mut.of_ext (S := fun _ => False) hx).os.trans h.mu.os), (k.mu.tape).trans ((Mut.of_ext (S := fun _ => False) hx).tape.trans h.mu.tape), (k.mu.output).trans ((Mut.of_ext (S := fun _ => False) hx).output.trans h.mu.output), Nat.le_trans h.mu.size (Nat.le_trans hs k.mu.size), fun i hi hn =>
            (k.mu.block i (Nat.lt_of_lt_of_le (Nat.lt_of_lt_of_le hi h.mu.size) hs) (fun e => by
              rcases e with e | e
              · exact hn (.inl e)
              · have := h.mu.size; omega)).trans ((hx.block i (Nat.lt_of_lt_of_le hi h.mu.size)).trans (h.mu.block i hi hn))⟩,
          lB := k.lB }
end
section
variable {W0 : World} {B gw ga : Nat} {b : List UInt8} {x : RsT} {rv : Value}
theorem wEntries_many (w : World) (h : Wr W0 w B gw ga 41 b (rsC x rv).toArray) (hr : EnR w rv x.ents) (hl : x.ents.length ≤ 100000) (hm : 64 < x.ents.length) :
    Calls Try.prog 133 #[.pointer (some ⟨gw, 0, none⟩), .pointer (some ⟨ga, 17, none⟩)] w fun e w' => e = .returned (.tuple #[]) ∧ WrBad W0 w' gw ga := by
  obtain ⟨A, c, rfl⟩ := RR.form hr
  have gal := h.lts.2
  have ca : w.cell? ⟨ga, 17, none⟩ = some (.slice A x.ents.length c) := by rw [cell_of_row _ _ _ _ _ _ h.ha]; rfl
  obtain ⟨v, hw, -⟩ := h.hw
  obtain ⟨c0, c1, f0, f1, gl⟩ := blk2 hw
  have s1 := blk2_st1 (.bool true) hw
  have S1 := Lib.hid s1
  have H1 := Lib.hid h
  have hm' : (64 : Int) < (x.ents.length : Int) := by omega
  clear s1 hw h hr hm hl
  go_enter Try.func133, Try.ntmps133
  go_wp2_with fail
  (try simp only [Exit.inBlock, Exit.then])
  refine bodyPost_ret (results_none rfl _ _ _) rfl ?_
  rw [S1.out]
  exact ⟨rfl, H1.out.spoil⟩
theorem RR.mutP {S : Nat → Prop} {w w' : World} {sz : Nat} {v : Value} {n : Nat} {cs : List Value} (h : RR w sz v n cs) (k : Mut S w w') (hn : 0 < n → ∀ b off m c, v = .slice (some ⟨b, off, none⟩) m c → ¬ S b) : RR w' sz v n cs := by
  by_cases hp : 0 < n
  · exact h.mutO k (hn hp)
  · obtain ⟨A, c, rfl⟩ := h.form
    obtain rfl : n = 0 := by omega
    exact ⟨h.1, .inl ⟨A, c, rfl, rfl⟩⟩
theorem RR.off {w : World} {sz n : Nat} {v : Value} {cs : List Value} {g : Nat} (h : RR w sz v n cs) (hp : 0 < n) (hg : w.heap.size ≤ g) : OffB v g := fun b off m c e => by
  subst e
  obtain ⟨A, c', e⟩ := h.form
  cases e
  obtain ⟨b', off', e, hb, -⟩ := h.at hp
  cases e
  omega
def longE (l : List EnT) : Bool := l.any (fun y => decide (255 < y.name.length))
theorem longE_take (l : List EnT) (k : Nat) (y : EnT) (h : l[k]? = some y) : longE (l.take (k + 1)) = (longE (l.take k) || decide (255 < y.name.length)) := by
  unfold longE
  rw [List.take_add_one, h, List.any_append]
  simp
theorem new_en (w : World) (y0 y1 y2 : Value) : (((w.alloc (.cells #[.string ⟨#[]⟩, .int .i64 0, .int .i64 0] 66)).setCell ⟨w.heap.size, 0, none⟩ y0).setCell ⟨w.heap.size, 1, none⟩ y1).setCell ⟨w.heap.size, 2, none⟩ y2 = w.alloc (.cells #[y0, y1, y2] 66) := by
  have h := heap_alloc_last w (.cells #[.string ⟨#[]⟩, .int .i64 0, .int .i64 0] 66)
  have s := set3r (o := 0) (x := y0) (y := y1) (z := y2) h
  simp only [Nat.zero_add] at s
  rw [s, World.setRow_alloc_new]
  rfl
theorem enB_len (y : EnT) (h : y.name.length ≤ 255) : (textL y.name).length ≤ 264 := by
  have h1 : padN y.name.length ≤ 3 := by unfold padN; omega
  unfold textL fixL
  simp only [List.length_append, beN_length, zs, List.length_replicate]
  omega
set_option maxHeartbeats 8000000 in
theorem wEntries_any (w : World) (h : Wr W0 w B gw ga 41 b (rsC x rv).toArray) (hB : ga < B) (hr : EnR w rv x.ents) (hro : 0 < x.ents.length → OffB rv gw ∧ OffB rv ga) (hl : x.ents.length ≤ 64) (hn : ∀ y ∈ x.ents, y.Ok ∧ y.name.length ≤ 100000) (hb : b.length ≤ 50000) :
    Calls Try.prog 133 #[.pointer (some ⟨gw, 0, none⟩), .pointer (some ⟨ga, 17, none⟩)] w fun e w' => e = .returned (.tuple #[]) ∧ ∃ bb, WrQ W0 w' B gw ga 41 (longE x.ents) bb (rsC { x with ents := [] } (.slice none 0 0)).toArray ∧ (longE x.ents = false → bb = b ++ entsB x.ents) := by
  obtain ⟨E, hE⟩ : ∃ E, x.ents = E := ⟨_, rfl⟩
  rw [hE] at hr hl hn hro ⊢
  obtain ⟨A, c, rfl⟩ := RR.form hr
  have gal := h.lts.2
  have ca : w.cell? ⟨ga, 17, none⟩ = some (.slice A E.length c) := by rw [cell_of_row _ _ _ _ _ _ h.ha]; rfl
  have HR := Lib.hid hr
  have HRO := Lib.hid hro
  have HN := Lib.hid hn
  have H1 := Lib.hid h
  obtain ⟨v, hw, hv, -⟩ := h.hw
  obtain ⟨Av, cv, rfl⟩ := hv.rs.form
  obtain ⟨c0, -, f0, -, gl⟩ := blk2 hw
  have HV := Lib.hid hv
  have hl' : (E.length : Int) ≤ 64 := by omega
  have hm : (E.length : Int) % 4294967296 = E.length := by omega
  clear hr hro hn h hw hv hE
  go_enter Try.func133, Try.ntmps133
  go_upto_region 2 with fail
  have e0 := fun (ψ : World → Prop) (e : ExtP w.heap.size w ψ) => e.cell c0 gl
  have e1 := fun (ψ : World → Prop) (e : ExtP w.heap.size w ψ) => e.cell ca gal
  clear c0 f0 ca
  refine wp_region_pieces 11  [(true, [0, 1, 2, 3, 4, 5, 6, 7, 8, 9]), (false, [10])] (by kernel_rfl) (by kernel_rfl) ?_; simp only [pick, List.map_cons, List.map_nil, List.flatMap_cons, List.flatMap_nil, Option.toList_some, List.singleton_append, List.drop_succ_cons, List.drop_zero, List.getElem?_cons_zero, List.getElem?_cons_succ]
  refine ⟨by kernel_rfl, ?_⟩; apply Exists.intro; refine ⟨fun ψ hψ hne => (by (repeat (go_big_quiet_step (( fail )))); exact wpQuiet_nil rfl), ?_⟩
  intro w2 h2 K hK
  clear e0 e1
  go_wp2_with fail
  refine (Word_any (.slice Av b.length cv) b E.length w2 ((HV.out.ext h2).rs) (by omega) (by omega) (by omega)).mono ?_
  rintro e w3 ⟨v2, rfl, o2, h3⟩
  have o2 : OwnZ w3 w2.heap.size 5 v2 (b ++ beN E.length 4) := o2.z
  obtain ⟨b2, hb2⟩ : ∃ b2, b ++ beN E.length 4 = b2 := ⟨_, rfl⟩
  have HL2 : Hid (b2.length = b.length + 4) := Lib.hid (by rw [← hb2]; simp [beN_length])
  rw [hb2] at o2
  have HB2 := Lib.hid hb2
  clear hb2
  obtain ⟨A2, c2, rfl⟩ := o2.rs.form
  have F2 := Lib.hid (And.intro (o2.off (H1.out.ext h2).lts.1) (o2.off (H1.out.ext h2).lts.2))
  go_wp2_with fail
  refine hK _ _ h3 ?_
  clear hK K
  intro w4 h4
  have H2 := H1.out.ext (Ext.trans (Ext.trans h2 h3) h4)
  have O2 : OwnZ w4 B 5 (.slice A2 b2.length c2) b2 := (o2.ext h4).mono (Nat.le_trans H1.out.lB (Below.size h2))
  obtain ⟨v0, hw2, -⟩ := H2.hw
  obtain ⟨c0, -, f0, -, gl⟩ := blk2 hw2
  have s0 := blk2_st0 (.slice A2 b2.length c2) hw2
  have ST := Lib.hid s0
  have H3 := Lib.hid (H2.put O2 F2.out)
  have HR3 := Lib.hid ((HR.out.ext (Ext.trans (Ext.trans h2 h3) h4)).mutP (mut_setRow (S := fun i => i = gw) rfl _) (fun hp b off n c e hs => (HRO.out hp).1 b off n c e hs) : RR (w4.setRow gw #[.slice A2 b2.length c2, .bool false]) 3 _ _ _)
  clear s0 hw2 H2 O2 o2 h2 h3 h4 HV
  go_upto_region 3 with fail
  rw [ST.out]
  clear ST c0 f0 gl H1 HR
  generalize w4.setRow gw _ = V at *
  have ca : V.cell? ⟨ga, 17, none⟩ = some (.slice A E.length c) := by rw [cell_of_row _ _ _ _ _ _ H3.out.ha]; rfl
  have gal := H3.out.lts.2
  go_wp2_with fail
  go_loopw [31] (fun iv wr => ∃ (k : Nat) (bb : List UInt8), k ≤ E.length ∧ iv = .int .i64 k ∧ Hid (WrQ W0 wr B gw ga 41 (longE (E.take k)) bb (rsC x (.slice A E.length c)).toArray) ∧ Hid (longE (E.take k) = false → bb = b2 ++ (E.take k).flatMap enB) ∧ Hid (bb.length ≤ 60000 + k * 300) ∧ Hid (RR wr 3 (.slice A E.length c) E.length (E.flatMap enC))) (fun iv _ => E.length - (intOf iv).toNat)
  case atStart => exact ⟨0, b2, Nat.zero_le _, rfl, H3, Lib.hid (fun _ => by simp), Lib.hid (by have := HL2.out; omega), HR3⟩
  case round =>
    obtain ⟨k, bb, hk, rfl, HW, HBB, HBL, HRR⟩ := hrel
    clear H3 HR3 ca gal
    by_cases hkl : k < E.length
    · obtain ⟨y, hy⟩ : ∃ y, E[k]? = some y := ⟨_, List.getElem?_eq_getElem hkl⟩
      obtain ⟨bE, off, rfl, hbE, hcl, -⟩ := HRR.out.at (by omega)
      have c0 : wr.cell? ⟨bE, off + k * 3, none⟩ = some (.string (str y.name)) := RR.cellAt (enc := enC) HRR.out enC_len hy (i := 0) rfl
      have c1 : wr.cell? ⟨bE, off + k * 3 + 1, none⟩ = some (.int .i64 y.ino) := RR.cellAt (enc := enC) HRR.out enC_len hy (i := 1) rfl
      have c2 : wr.cell? ⟨bE, off + k * 3 + 2, none⟩ = some (.int .i64 y.cookie) := RR.cellAt (enc := enC) HRR.out enC_len hy (i := 2) rfl
      obtain ⟨hyo, hyn⟩ := HN.out y (List.mem_of_getElem? hy)
      have HLT := Lib.hid (longE_take E k y hy)
      have HTK : Hid ((E.take (k + 1)).flatMap enB = (E.take k).flatMap enB ++ enB y) := Lib.hid (by rw [List.take_add_one, hy]; simp)
      have HYO := Lib.hid hyo
      have HSD : Hid (WrQ (wr.alloc (.cells #[.string (str y.name), .int .i64 y.ino, .int .i64 y.cookie] 66)) (wr.alloc (.cells #[.string (str y.name), .int .i64 y.ino, .int .i64 y.cookie] 66)) B gw wr.heap.size 66 (longE (E.take k)) bb #[.string (str y.name), .int .i64 y.ino, .int .i64 y.cookie]) := Lib.hid HW.out.side
      have hIN : Hid ((intL y.ino).length = 8 ∧ (intL y.cookie).length = 8) := Lib.hid ⟨beL_length _, beL_length _⟩
      have hE := Lib.hid (extAl wr (.cells #[.string (str y.name), .int .i64 y.ino, .int .i64 y.cookie] 66))
      have hbl : Hid (bb.length ≤ 80000) := Lib.hid (by have := HBL.out; omega)
      have HLE := Lib.hid hbE
      clear hy hyo
      by_cases hlong : 255 < y.name.length
      · have KT := Lib.hid (wText_noQ (o := 0) (m := 255) _ HSD.out rfl hlong (by omega))
        have HQ : Hid (longE (E.take (k + 1)) = true) := Lib.hid (by rw [HLT.out]; simp [hlong])
        go_wp2_with fail
        refine KT.out.mono ?_
        rintro e w5 ⟨rfl, h5⟩
        have KI := Lib.hid (wInt (o := 1) w5 h5 rfl HYO.out.ino (by have := hbl.out; have := textL_length y.name; (try simp only [List.length_append]); omega))
        clear KT
        go_wp2_with fail
        refine KI.out.mono ?_
        rintro e w6 ⟨rfl, h6⟩
        have KJ := Lib.hid (wInt (o := 2) w6 h6 rfl HYO.out.cookie (by have := hbl.out; have := hIN.out.1; have := textL_length y.name; (try simp only [List.length_append]); omega))
        clear KI
        go_wp2_with fail
        refine KJ.out.mono ?_
        rintro e w7 ⟨rfl, h7⟩
        have h7 : WrQ (wr.alloc (.cells #[.string (str y.name), .int .i64 y.ino, .int .i64 y.cookie] 66)) w7 B gw wr.heap.size 66 (true) ((bb) ++ intL y.ino ++ intL y.cookie) _ := h7
        clear KJ
        have HR7 : Hid (RR w7 3 (.slice (some ⟨bE, off, none⟩) E.length c) E.length (E.flatMap enC)) := Lib.hid ((HRR.out.ext hE.out).mutO h7.mu (fun b' off' n' c' e hs => by
          cases e
          rcases hs with hs | hs
          · exact (HRO.out (by omega)).1 _ _ _ _ rfl hs
          · have := HLE.out; omega))
        have HF7 : Hid (WrQ W0 w7 B gw ga 41 (longE (E.take (k + 1))) (bb ++ intL y.ino ++ intL y.cookie) (rsC x (.slice (some ⟨bE, off, none⟩) E.length c)).toArray) := Lib.hid (by rw [HQ.out]; exact HW.out.back h7 hB)
        have HB7 : Hid (longE (E.take (k + 1)) = false → bb ++ intL y.ino ++ intL y.cookie = b2 ++ (E.take (k + 1)).flatMap enB) := Lib.hid (fun h => by rw [HQ.out] at h; cases h)
        have HL7 : Hid ((bb ++ intL y.ino ++ intL y.cookie).length ≤ 60000 + (k + 1) * 300) := Lib.hid (by have := HBL.out; simp only [List.length_append, hIN.out.1, hIN.out.2]; omega)
        clear HW HRR HBB HBL h5 h6 h7 hE HSD c0 c1 c2
        go_wp2_with fail
        go_roundw
        case rel => exact ⟨k + 1, (bb ++ intL y.ino ++ intL y.cookie), by omega, by go_num, HF7, HB7, HL7, HR7⟩
        case measure => simp only [intOf]; omega
      · have KT := Lib.hid (wText_yes (o := 0) (m := 255) _ HSD.out rfl (by omega) (by omega) (by have := hbl.out; omega))
        have HQ : Hid (longE (E.take (k + 1)) = longE (E.take k)) := Lib.hid (by rw [HLT.out]; simp [hlong])
        have hTL := Lib.hid (textL_length y.name)
        have hns : y.name.length ≤ 255 := by omega
        go_wp2_with fail
        refine KT.out.mono ?_
        rintro e w5 ⟨rfl, h5⟩
        have KI := Lib.hid (wInt (o := 1) w5 h5 rfl HYO.out.ino (by have := hbl.out; have := textL_length y.name; (try simp only [List.length_append]); omega))
        clear KT
        go_wp2_with fail
        refine KI.out.mono ?_
        rintro e w6 ⟨rfl, h6⟩
        have KJ := Lib.hid (wInt (o := 2) w6 h6 rfl HYO.out.cookie (by have := hbl.out; have := hIN.out.1; have := textL_length y.name; (try simp only [List.length_append]); omega))
        clear KI
        go_wp2_with fail
        refine KJ.out.mono ?_
        rintro e w7 ⟨rfl, h7⟩
        have h7 : WrQ (wr.alloc (.cells #[.string (str y.name), .int .i64 y.ino, .int .i64 y.cookie] 66)) w7 B gw wr.heap.size 66 (longE (E.take k)) ((bb ++ textL y.name) ++ intL y.ino ++ intL y.cookie) _ := h7
        clear KJ
        have HR7 : Hid (RR w7 3 (.slice (some ⟨bE, off, none⟩) E.length c) E.length (E.flatMap enC)) := Lib.hid ((HRR.out.ext hE.out).mutO h7.mu (fun b' off' n' c' e hs => by
          cases e
          rcases hs with hs | hs
          · exact (HRO.out (by omega)).1 _ _ _ _ rfl hs
          · have := HLE.out; omega))
        have HF7 : Hid (WrQ W0 w7 B gw ga 41 (longE (E.take (k + 1))) (bb ++ textL y.name ++ intL y.ino ++ intL y.cookie) (rsC x (.slice (some ⟨bE, off, none⟩) E.length c)).toArray) := Lib.hid (by rw [HQ.out]; exact HW.out.back h7 hB)
        have HB7 : Hid (longE (E.take (k + 1)) = false → bb ++ textL y.name ++ intL y.ino ++ intL y.cookie = b2 ++ (E.take (k + 1)).flatMap enB) := Lib.hid (fun h => by rw [HQ.out] at h; rw [HBB.out h, HTK.out]; simp [enB])
        have HL7 : Hid ((bb ++ textL y.name ++ intL y.ino ++ intL y.cookie).length ≤ 60000 + (k + 1) * 300) := Lib.hid (by have := HBL.out; have := hTL.out; simp only [List.length_append, hIN.out.1, hIN.out.2]; omega)
        clear HW HRR HBB HBL h5 h6 h7 hE HSD c0 c1 c2
        go_wp2_with fail
        go_roundw
        case rel => exact ⟨k + 1, (bb ++ textL y.name ++ intL y.ino ++ intL y.cookie), by omega, by go_num, HF7, HB7, HL7, HR7⟩
        case measure => simp only [intOf]; omega
    · obtain rfl : k = E.length := by omega
      have ha := HW.out.ha
      have gal := heap_lt ha
      have fa : wr.frozen? ⟨ga, 17, none⟩ = false := by simp [World.frozen?, ha]
      have ca : wr.cell? ⟨ga, 17, none⟩ = some (.slice A E.length c) := by rw [cell_of_row _ _ _ _ _ _ ha]; rfl
      have S17 := Lib.hid (setCell_eq_setRow wr ga 17 _ 41 (0, 0) (.slice none 0 0) ha)
      have HF := Lib.hid (HW.out.clr (rsC { x with ents := [] } (.slice none 0 0)).toArray)
      have HBF : Hid (longE E = false → bb = b ++ entsB E) := Lib.hid (fun h => by
        have e := HBB.out (by rw [List.take_length]; exact h)
        rw [e, List.take_length, ← HB2.out]
        simp [entsB])
      rw [List.take_length] at HF
      clear ha HBB HBL HRR HW
      go_wp2_with fail
      go_end0
      rw [S17.out]
      exact ⟨rfl, bb, HF.out, HBF.out⟩
end
end Go.Proofs.Yteahlnoonmfjhaa
