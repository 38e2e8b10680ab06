/- Arguments: the writer's int, long, text, handle. -/
import Derived.Test.YteahlnoonmfjhaaAgA
set_option linter.unusedVariables false
set_option maxRecDepth 100000
namespace Go.Proofs.Yteahlnoonmfjhaa
open Go.RowKit

theorem wInt {W0 : World} {B gw ga o : Nat} {Ta : TypeId} {q : Bool} {b : List UInt8} {row : Array Value} {n : Int} (w : World) (h : WrQ W0 w B gw ga Ta q b row) (ho : row[o]? = some (.int .i64 n)) (hn : -9223372036854775808 ≤ n ∧ n ≤ 9223372036854775807) (hb : b.length ≤ 100000) :
    Calls Try.prog 116 #[.pointer (some ⟨gw, 0, none⟩), .pointer (some ⟨ga, o, none⟩)] w fun e w' => e = .returned (.tuple #[]) ∧ WrQ W0 w' B gw ga Ta q (b ++ intL n) (row.setIfInBounds o (.int .i64 0)) := by
  obtain ⟨b2, hb2⟩ : ∃ b2, b ++ intL n = b2 := ⟨_, rfl⟩
  rw [hb2]
  have HB2 := Lib.hid hb2
  clear hb2
  obtain ⟨v, hw, hv, -⟩ := h.hw
  obtain ⟨A, c, rfl⟩ := hv.rs.form
  obtain ⟨c0, -, f0, -, gl⟩ := blk2 hw
  have gal := heap_lt h.ha
  have ca : w.cell? ⟨ga, o, none⟩ = some (.int .i64 n) := by rw [cell_of_row _ _ _ _ _ _ h.ha]; exact ho
  have H := Lib.hid h
  have HV := Lib.hid hv
  have HN := Lib.hid hn
  have HO := Lib.hid ho
  clear h hw hv hn ho
  go_enter Try.func116, Try.ntmps116
  go_wp2_with fail
  have e0 := fun (ψ : World → Prop) (e : ExtP w.heap.size w ψ) => e.cell c0 gl
  have e1 := fun (ψ : World → Prop) (e : ExtP w.heap.size w ψ) => e.cell ca gal
  clear c0 f0 ca
  refine wp_region_pieces 9  [(true, [0, 1, 2, 3, 4, 5, 6, 7]), (false, [8])] (by kernel_rfl) (by kernel_rfl) ?_; simp only [pick, List.map_cons, List.map_nil, List.flatMap_cons, List.flatMap_nil, Option.toList_some, List.singleton_append, List.drop_succ_cons, List.drop_zero, List.getElem?_cons_zero, List.getElem?_cons_succ]
  refine ⟨by kernel_rfl, ?_⟩; apply Exists.intro; refine ⟨fun ψ hψ hne => (by (repeat (go_big_quiet_step (( fail )))); exact wpQuiet_nil rfl), ?_⟩
  intro w1 h1 K hK
  clear e0 e1
  go_wp2_with fail
  refine (Int_any (.slice A b.length c) b n w1 ((HV.out.ext h1).rs) HN.out.1 HN.out.2 (by omega)).mono ?_
  rintro e w2 ⟨v2, rfl, o2, h2⟩
  have o2 : OwnZ w2 w1.heap.size 5 v2 (b ++ intL n) := o2.z
  rw [HB2.out] at o2
  obtain ⟨A2, c2, rfl⟩ := o2.rs.form
  have F2 := Lib.hid (And.intro (o2.off (H.out.ext h1).lts.1) (o2.off (H.out.ext h1).lts.2))
  go_wp2_with fail
  refine hK _ _ h2 ?_
  clear hK K
  intro w3 h3
  have H2 := H.out.ext (Ext.trans (Ext.trans h1 h2) h3)
  have O2 : OwnZ w3 B 5 (.slice A2 b2.length c2) b2 := (o2.ext h3).mono (Nat.le_trans H.out.lB (Below.size h1))
  obtain ⟨v0, hw2, -⟩ := H2.hw
  obtain ⟨c0, -, f0, -, gl⟩ := blk2 hw2
  have s0 := blk2_st0 (.slice A2 b2.length c2) hw2
  have ST := Lib.hid s0
  have H3 := Lib.hid (H2.put O2 F2.out)
  clear s0 hw2 H2 O2 o2 h1 h2 h3 HV
  go_upto_region 1 with fail
  rw [ST.out]
  clear ST c0 f0 gl H HB2
  generalize w3.setRow gw _ = V at *
  have ha := H3.out.ha
  have gal := heap_lt ha
  have fa : V.frozen? ⟨ga, o, none⟩ = false := by simp [World.frozen?, ha]
  have ca : V.cell? ⟨ga, o, none⟩ = some (.int .i64 n) := by rw [cell_of_row _ _ _ _ _ _ ha]; exact HO.out
  have s1 := setCell_eq_setRow V ga o _ Ta (0, 0) (.int .i64 0) ha
  have S1 := Lib.hid s1
  clear s1 ha
  go_wp2_with fail
  go_end0
  rw [S1.out]
  exact ⟨rfl, H3.out.clr _⟩
theorem wLong {W0 : World} {B gw ga o : Nat} {Ta : TypeId} {q : Bool} {b : List UInt8} {row : Array Value} {n : Int} (w : World) (h : WrQ W0 w B gw ga Ta q b row) (ho : row[o]? = some (.int .u64 n)) (hn : 0 ≤ n ∧ n ≤ 18446744073709551615) (hb : b.length ≤ 100000) :
    Calls Try.prog 117 #[.pointer (some ⟨gw, 0, none⟩), .pointer (some ⟨ga, o, none⟩)] w fun e w' => e = .returned (.tuple #[]) ∧ WrQ W0 w' B gw ga Ta q (b ++ beL n) (row.setIfInBounds o (.int .u64 0)) := by
  obtain ⟨b2, hb2⟩ : ∃ b2, b ++ beL n = b2 := ⟨_, rfl⟩
  rw [hb2]
  have HB2 := Lib.hid hb2
  clear hb2
  obtain ⟨v, hw, hv, -⟩ := h.hw
  obtain ⟨A, c, rfl⟩ := hv.rs.form
  obtain ⟨c0, -, f0, -, gl⟩ := blk2 hw
  have gal := heap_lt h.ha
  have ca : w.cell? ⟨ga, o, none⟩ = some (.int .u64 n) := by rw [cell_of_row _ _ _ _ _ _ h.ha]; exact ho
  have H := Lib.hid h
  have HV := Lib.hid hv
  have HN := Lib.hid hn
  have HO := Lib.hid ho
  clear h hw hv hn ho
  go_enter Try.func117, Try.ntmps117
  go_wp2_with fail
  have e0 := fun (ψ : World → Prop) (e : ExtP w.heap.size w ψ) => e.cell c0 gl
  have e1 := fun (ψ : World → Prop) (e : ExtP w.heap.size w ψ) => e.cell ca gal
  clear c0 f0 ca
  refine wp_region_pieces 9  [(true, [0, 1, 2, 3, 4, 5, 6, 7]), (false, [8])] (by kernel_rfl) (by kernel_rfl) ?_; simp only [pick, List.map_cons, List.map_nil, List.flatMap_cons, List.flatMap_nil, Option.toList_some, List.singleton_append, List.drop_succ_cons, List.drop_zero, List.getElem?_cons_zero, List.getElem?_cons_succ]
  refine ⟨by kernel_rfl, ?_⟩; apply Exists.intro; refine ⟨fun ψ hψ hne => (by (repeat (go_big_quiet_step (( fail )))); exact wpQuiet_nil rfl), ?_⟩
  intro w1 h1 K hK
  clear e0 e1
  go_wp2_with fail
  refine (Long_any (.slice A b.length c) b n w1 ((HV.out.ext h1).rs) HN.out.1 HN.out.2 (by omega)).mono ?_
  rintro e w2 ⟨v2, rfl, o2, h2⟩
  have o2 : OwnZ w2 w1.heap.size 5 v2 (b ++ beL n) := o2.z
  rw [HB2.out] at o2
  obtain ⟨A2, c2, rfl⟩ := o2.rs.form
  have F2 := Lib.hid (And.intro (o2.off (H.out.ext h1).lts.1) (o2.off (H.out.ext h1).lts.2))
  go_wp2_with fail
  refine hK _ _ h2 ?_
  clear hK K
  intro w3 h3
  have H2 := H.out.ext (Ext.trans (Ext.trans h1 h2) h3)
  have O2 : OwnZ w3 B 5 (.slice A2 b2.length c2) b2 := (o2.ext h3).mono (Nat.le_trans H.out.lB (Below.size h1))
  obtain ⟨v0, hw2, -⟩ := H2.hw
  obtain ⟨c0, -, f0, -, gl⟩ := blk2 hw2
  have s0 := blk2_st0 (.slice A2 b2.length c2) hw2
  have ST := Lib.hid s0
  have H3 := Lib.hid (H2.put O2 F2.out)
  clear s0 hw2 H2 O2 o2 h1 h2 h3 HV
  go_upto_region 1 with fail
  rw [ST.out]
  clear ST c0 f0 gl H HB2
  generalize w3.setRow gw _ = V at *
  have ha := H3.out.ha
  have gal := heap_lt ha
  have fa : V.frozen? ⟨ga, o, none⟩ = false := by simp [World.frozen?, ha]
  have ca : V.cell? ⟨ga, o, none⟩ = some (.int .u64 n) := by rw [cell_of_row _ _ _ _ _ _ ha]; exact HO.out
  have s1 := setCell_eq_setRow V ga o _ Ta (0, 0) (.int .u64 0) ha
  have S1 := Lib.hid s1
  clear s1 ha
  go_wp2_with fail
  go_end0
  rw [S1.out]
  exact ⟨rfl, H3.out.clr _⟩
theorem wText_noQ {W0 : World} {B gw ga o : Nat} {Ta : TypeId} {q : Bool} {b : List UInt8} {row : Array Value} {s : List UInt8} {m : Nat} (w : World) (h : WrQ W0 w B gw ga Ta q b row) (ho : row[o]? = some (.string (str s))) (hm : m < s.length) (hs : s.length ≤ 400000) :
    Calls Try.prog 115 #[.pointer (some ⟨gw, 0, none⟩), .pointer (some ⟨ga, o, none⟩), .int .i64 m] w fun e w' => e = .returned (.tuple #[]) ∧ WrQ W0 w' B gw ga Ta true b row := by
  obtain ⟨v, hw, hv, -⟩ := h.hw
  obtain ⟨c0, c1, f0, f1, gl⟩ := blk2 hw
  have gal := heap_lt h.ha
  have hsz := str_size s
  have ca : w.cell? ⟨ga, o, none⟩ = some (.string (str s)) := by rw [cell_of_row _ _ _ _ _ _ h.ha]; exact ho
  have s1 := blk2_st1 (.bool true) hw
  have H := Lib.hid h
  have HW := Lib.hid hw
  have S1 := Lib.hid s1
  have hm' : (m : Int) < s.length := by omega
  clear h hw hv ho s1
  go_enter Try.func115, Try.ntmps115
  go_wp2_with fail
  (try simp only [Exit.inBlock, Exit.then])
  refine bodyPost_ret (results_none rfl _ _ _) rfl ?_
  rw [S1.out]
  exact ⟨rfl, H.out.spoilQ HW.out⟩
theorem wText_no {W0 : World} {B gw ga o : Nat} {Ta : TypeId} {b : List UInt8} {row : Array Value} {s : List UInt8} {m : Nat} (w : World) (h : Wr W0 w B gw ga Ta b row) (ho : row[o]? = some (.string (str s))) (hm : m < s.length) (hs : s.length ≤ 400000) :
    Calls Try.prog 115 #[.pointer (some ⟨gw, 0, none⟩), .pointer (some ⟨ga, o, none⟩), .int .i64 m] w fun e w' => e = .returned (.tuple #[]) ∧ WrBad W0 w' gw ga := (wText_noQ w h ho hm hs).mono fun _ _ ⟨e, h⟩ => ⟨e, h.bad⟩
theorem wText_yes {W0 : World} {B gw ga o : Nat} {Ta : TypeId} {q : Bool} {b : List UInt8} {row : Array Value} {s : List UInt8} {m : Nat} (w : World) (h : WrQ W0 w B gw ga Ta q b row) (ho : row[o]? = some (.string (str s))) (hm : s.length ≤ m) (hs : s.length ≤ 400000) (hb : b.length ≤ 100000) :
    Calls Try.prog 115 #[.pointer (some ⟨gw, 0, none⟩), .pointer (some ⟨ga, o, none⟩), .int .i64 m] w fun e w' => e = .returned (.tuple #[]) ∧ WrQ W0 w' B gw ga Ta q (b ++ textL s) (row.setIfInBounds o (.string ⟨#[]⟩)) := by
  obtain ⟨b2, hb2⟩ : ∃ b2, b ++ textL s = b2 := ⟨_, rfl⟩
  rw [hb2]
  have HB2 := Lib.hid hb2
  clear hb2
  obtain ⟨v, hw, hv, -⟩ := h.hw
  obtain ⟨A, c, rfl⟩ := hv.rs.form
  obtain ⟨c0, -, f0, -, gl⟩ := blk2 hw
  have gal := heap_lt h.ha
  have hsz := str_size s
  have ca : w.cell? ⟨ga, o, none⟩ = some (.string (str s)) := by rw [cell_of_row _ _ _ _ _ _ h.ha]; exact ho
  have H := Lib.hid h
  have HV := Lib.hid hv
  have HO := Lib.hid ho
  have hm' : (s.length : Int) ≤ m := by omega
  clear h hw hv ho
  go_enter Try.func115, Try.ntmps115
  go_upto_region 2 with fail
  have e0 := fun (ψ : World → Prop) (e : ExtP w.heap.size w ψ) => e.cell c0 gl
  have e1 := fun (ψ : World → Prop) (e : ExtP w.heap.size w ψ) => e.cell ca gal
  clear c0 f0 ca
  refine wp_region_pieces 9  [(true, [0, 1, 2, 3, 4, 5, 6, 7]), (false, [8])] (by kernel_rfl) (by kernel_rfl) ?_; simp only [pick, List.map_cons, List.map_nil, List.flatMap_cons, List.flatMap_nil, Option.toList_some, List.singleton_append, List.drop_succ_cons, List.drop_zero, List.getElem?_cons_zero, List.getElem?_cons_succ]
  refine ⟨by kernel_rfl, ?_⟩; apply Exists.intro; refine ⟨fun ψ hψ hne => (by (repeat (go_big_quiet_step (( fail )))); exact wpQuiet_nil rfl), ?_⟩
  intro w1 h1 K hK
  clear e0 e1
  go_wp2_with fail
  refine (Text_any (.slice A b.length c) b s w1 ((HV.out.ext h1).rs) (by omega) (by omega)).mono ?_
  rintro e w2 ⟨v2, rfl, o2, h2⟩
  have o2 : OwnZ w2 w1.heap.size 5 v2 (b ++ textL s) := o2.z
  rw [HB2.out] at o2
  obtain ⟨A2, c2, rfl⟩ := o2.rs.form
  have F2 := Lib.hid (And.intro (o2.off (H.out.ext h1).lts.1) (o2.off (H.out.ext h1).lts.2))
  go_wp2_with fail
  refine hK _ _ h2 ?_
  clear hK K
  intro w3 h3
  have H2 := H.out.ext (Ext.trans (Ext.trans h1 h2) h3)
  have O2 : OwnZ w3 B 5 (.slice A2 b2.length c2) b2 := (o2.ext h3).mono (Nat.le_trans H.out.lB (Below.size h1))
  obtain ⟨v0, hw2, -⟩ := H2.hw
  obtain ⟨c0, -, f0, -, gl⟩ := blk2 hw2
  have s0 := blk2_st0 (.slice A2 b2.length c2) hw2
  have ST := Lib.hid s0
  have H3 := Lib.hid (H2.put O2 F2.out)
  clear s0 hw2 H2 O2 o2 h1 h2 h3 HV
  go_upto_region 3 with fail
  rw [ST.out]
  clear ST c0 f0 gl H HB2
  generalize w3.setRow gw _ = V at *
  have ha := H3.out.ha
  have gal := heap_lt ha
  have fa : V.frozen? ⟨ga, o, none⟩ = false := by simp [World.frozen?, ha]
  have ca : V.cell? ⟨ga, o, none⟩ = some (.string (str s)) := by rw [cell_of_row _ _ _ _ _ _ ha]; exact HO.out
  have s1 := setCell_eq_setRow V ga o _ Ta (0, 0) (.string ⟨#[]⟩) ha
  have S1 := Lib.hid s1
  clear s1 ha
  go_wp2_with fail
  go_end0
  rw [S1.out]
  exact ⟨rfl, H3.out.clr _⟩
theorem row3 {w : World} {g o : Nat} {T : TypeId} {row : Array Value} {fr : Nat × Nat} {x y z : Value} (h : w.heap[g]? = some (.cells row T fr)) (hx : row[o]? = some x) (hy : row[o + 1]? = some y) (hz : row[o + 2]? = some z) :
    w.cell? ⟨g, o, none⟩ = some x ∧ w.cell? ⟨g, o + 1, none⟩ = some y ∧ w.cell? ⟨g, o + 2, none⟩ = some z := by
  refine ⟨?_, ?_, ?_⟩ <;> rw [cell_of_row _ _ _ _ _ _ h] <;> assumption
theorem set3r {w : World} {g o : Nat} {T : TypeId} {row : Array Value} {x y z : Value} (h : w.heap[g]? = some (.cells row T (0, 0))) :
    ((w.setCell ⟨g, o, none⟩ x).setCell ⟨g, o + 1, none⟩ y).setCell ⟨g, o + 2, none⟩ z = w.setRow g (((row.setIfInBounds o x).setIfInBounds (o + 1) y).setIfInBounds (o + 2) z) := by
  rw [setCell_eq_setRow w g o _ T (0, 0) _ h]
  have h1 := setRow_heap w g row (row.setIfInBounds o x) T (0, 0) h
  rw [setCell_eq_setRow _ g (o + 1) _ T (0, 0) _ h1, setRow_setRow]
  have h2 := setRow_heap w g row ((row.setIfInBounds o x).setIfInBounds (o + 1) y) T (0, 0) h
  rw [setCell_eq_setRow _ g (o + 2) _ T (0, 0) _ h2, setRow_setRow]
theorem padN24 : padN 24 = 0 := by decide
theorem fixL_hb (s i g : Int) : fixL (hbytes s i g) = hbytes s i g := by unfold fixL; rw [hbytes_length, padN24]; simp [zs]
theorem wHandle_no {W0 : World} {B gw ga o : Nat} {Ta : TypeId} {b : List UInt8} {row : Array Value} {x : Int × Int × Int} (w : World) (h : Wr W0 w B gw ga Ta b row) (h0 : row[o]? = some (.int .i64 x.1)) (h1 : row[o + 1]? = some (.int .i64 x.2.1)) (h2 : row[o + 2]? = some (.int .i64 x.2.2)) (hm : hmayB x.1 x.2.1 x.2.2 = false) :
    Calls Try.prog 114 #[.pointer (some ⟨gw, 0, none⟩), .pointer (some ⟨ga, o, none⟩)] w fun e w' => e = .returned (.tuple #[]) ∧ WrBad W0 w' gw ga := by
  obtain ⟨c0, c1, c2⟩ := row3 h.ha h0 h1 h2
  have H := Lib.hid h
  have gal := heap_lt h.ha
  have hld : (Instr.loadAt 32 (.pointer (some ⟨ga, o, none⟩))).run Try.prog w = .ok (hv x.1 x.2.1 x.2.2) w := loadAt_cs (P := Try.prog) (cs := [.int .i64 x.1, .int .i64 x.2.1, .int .i64 x.2.2]) Try.underlying32 (by kernel_rfl) fun j hj => by
    have : j = 0 ∨ j = 1 ∨ j = 2 := by simp at hj; omega
    rcases this with rfl | rfl | rfl
    · exact c0
    · exact c1
    · exact c2
  have KE := Lib.hid (encode_no x.1 x.2.1 x.2.2 hm w)
  have HL := Lib.hid hld
  clear h h0 h1 h2 c0 c1 c2 hm hld
  go_enter Try.func114, Try.ntmps114
  go_wp2_with (refine wpList_ld rfl 32 (.tmp 8) rfl HL.out ?_; simp only [Act.put])
  refine KE.out.mono ?_
  rintro e w1 ⟨rfl, k1⟩
  have H1 := Lib.hid (H.out.ext k1)
  obtain ⟨v, hw, -⟩ := H1.out.hw
  obtain ⟨c0, c1, f0, f1, gl⟩ := blk2 hw
  have s1 := blk2_st1 (.bool true) hw
  have S1 := Lib.hid s1
  clear s1 hw k1 KE HL H
  go_wp2_with fail
  (try simp only [Exit.inBlock, Exit.then])
  refine bodyPost_ret (results_none rfl _ _ _) rfl ?_
  rw [S1.out]
  exact ⟨rfl, H1.out.spoil⟩
theorem wHandle_yes {W0 : World} {B gw ga o : Nat} {Ta : TypeId} {b : List UInt8} {row : Array Value} {x : Int × Int × Int} (w : World) (h : Wr W0 w B gw ga Ta b row) (h0 : row[o]? = some (.int .i64 x.1)) (h1 : row[o + 1]? = some (.int .i64 x.2.1)) (h2 : row[o + 2]? = some (.int .i64 x.2.2)) (hm : hmayB x.1 x.2.1 x.2.2 = true) (hb : b.length ≤ 100000) :
    Calls Try.prog 114 #[.pointer (some ⟨gw, 0, none⟩), .pointer (some ⟨ga, o, none⟩)] w fun e w' => e = .returned (.tuple #[]) ∧ Wr W0 w' B gw ga Ta (b ++ hbytes x.1 x.2.1 x.2.2) (((row.setIfInBounds o (.int .i64 0)).setIfInBounds (o + 1) (.int .i64 0)).setIfInBounds (o + 2) (.int .i64 0)) := by
  obtain ⟨b2, hb2⟩ : ∃ b2, b ++ hbytes x.1 x.2.1 x.2.2 = b2 := ⟨_, rfl⟩
  rw [hb2]
  have HB2 := Lib.hid hb2
  clear hb2
  obtain ⟨c0, c1, c2⟩ := row3 h.ha h0 h1 h2
  have H := Lib.hid h
  have gal := heap_lt h.ha
  have hld : (Instr.loadAt 32 (.pointer (some ⟨ga, o, none⟩))).run Try.prog w = .ok (hv x.1 x.2.1 x.2.2) w := loadAt_cs (P := Try.prog) (cs := [.int .i64 x.1, .int .i64 x.2.1, .int .i64 x.2.2]) Try.underlying32 (by kernel_rfl) fun j hj => by
    have : j = 0 ∨ j = 1 ∨ j = 2 := by simp at hj; omega
    rcases this with rfl | rfl | rfl
    · exact c0
    · exact c1
    · exact c2
  have KE := Lib.hid (encode_yes x.1 x.2.1 x.2.2 hm w)
  have HL := Lib.hid hld
  have HX := Lib.hid (And.intro h0 (And.intro h1 h2))
  have hfx := fixL_hb x.1 x.2.1 x.2.2
  have hlx := hbytes_length x.1 x.2.1 x.2.2
  clear h h0 h1 h2 c0 c1 c2 hm hld
  generalize hbytes x.1 x.2.1 x.2.2 = X at *
  have HFX := Lib.hid hfx
  clear hfx
  go_enter Try.func114, Try.ntmps114
  go_wp2_with (refine wpList_ld rfl 32 (.tmp 8) rfl HL.out ?_; simp only [Act.put])
  refine KE.out.mono ?_
  rintro e w1 ⟨rfl, k1⟩
  have H1 := Lib.hid (H.out.ext k1)
  obtain ⟨v, hw, hv, -⟩ := H1.out.hw
  obtain ⟨A, c, rfl⟩ := hv.rs.form
  obtain ⟨c0, -, f0, -, gl⟩ := blk2 hw
  have HV := Lib.hid hv
  clear hw k1 KE HL H hv
  go_wp2_with fail
  refine (Fixed_any (.slice A b.length c) b X w1 HV.out.rs (by omega) (by omega)).mono ?_
  rintro e w2 ⟨v2, rfl, o2, k2⟩
  have o2 : OwnZ w2 w1.heap.size 5 v2 (b ++ X) := by have := o2.z; rwa [HFX.out] at this
  rw [HB2.out] at o2
  obtain ⟨A2, c2, rfl⟩ := o2.rs.form
  have F2 := Lib.hid (And.intro (o2.off H1.out.lts.1) (o2.off H1.out.lts.2))
  have H2 := H1.out.ext k2
  have O2 : OwnZ w2 B 5 (.slice A2 b2.length c2) b2 := o2.mono H1.out.lB
  obtain ⟨v0, hw2, -⟩ := H2.hw
  obtain ⟨c0, -, f0, -, gl⟩ := blk2 hw2
  have s0 := blk2_st0 (.slice A2 b2.length c2) hw2
  have ST := Lib.hid s0
  have H3 := Lib.hid (H2.put O2 F2.out)
  clear s0 hw2 H2 O2 o2 k2 HV H1 HFX
  go_upto_region 4 with fail
  rw [ST.out]
  clear ST c0 f0 gl HB2
  generalize w2.setRow gw _ = V at *
  have ha := H3.out.ha
  have gal := heap_lt ha
  obtain ⟨h0, h1, h2⟩ := HX.out
  obtain ⟨c0, c1, c2⟩ := row3 ha h0 h1 h2
  have fa : ∀ o, V.frozen? ⟨ga, o, none⟩ = false := fun o => by simp [World.frozen?, ha]
  have HA := Lib.hid ha
  clear ha h0 h1 h2
  go_wp2_with fail
  go_end0
  refine ⟨rfl, ?_⟩
  rw [set3r HA.out]
  exact H3.out.clr _
end Go.Proofs.Yteahlnoonmfjhaa
