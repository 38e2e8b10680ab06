/- Results: a letter's field is put. -/
import Derived.Test.YteahlnoonmfjhaaRsB
set_option linter.unusedVariables false
set_option maxRecDepth 100000
namespace Go.Proofs.Yteahlnoonmfjhaa
open Go.RowKit

def putR (c : UInt8) (x : RsT) : Option (List UInt8) :=
  if c = 72 then hB x.h else if c = 65 then (if kindB x.at_.kind = true then some (attrB x.at_) else none) else if c = 120 then tB x.text 2048 else if c = 78 then some (intL x.n) else if c = 102 then some (intL x.free) else if c = 117 then some (beL x.used)
  else if c = 101 then some (beN (b2i x.end_) 4) else if c = 69 then (if 64 < x.ents.length then none else if longE x.ents = true then none else some (entsB x.ents)) else if c = 118 then some (beL x.verf) else some []
def clrR (c : UInt8) (x : RsT) : RsT :=
  if c = 72 then { x with h := (0, 0, 0) } else if c = 65 then { x with at_ := at0 } else if c = 120 then { x with text := [] } else if c = 78 then { x with n := 0 } else if c = 102 then { x with free := 0 } else if c = 117 then { x with used := 0 }
  else if c = 101 then { x with end_ := false } else if c = 69 then { x with ents := [] } else if c = 118 then { x with verf := 0 } else x
def clrV (c : UInt8) (v : Value) : Value := if c = 69 then .slice none 0 0 else v
structure RsT.Okw (x : RsT) : Prop where
  h : I64 x.h.1 ∧ I64 x.h.2.1 ∧ I64 x.h.2.2
  at_ : x.at_.Ok
  text : x.text.length ≤ 20000
  n : I64 x.n
  free : I64 x.free
  used : 0 ≤ x.used ∧ x.used ≤ 18446744073709551615
  verf : 0 ≤ x.verf ∧ x.verf ≤ 18446744073709551615
  each : ∀ y ∈ x.ents, y.Ok ∧ y.name.length ≤ 100000
  ents : x.ents.length ≤ 100000
/-- What putting a letter's field comes to. -/
def PutR (W0 : World) (B gw ga : Nat) (c : UInt8) (x : RsT) (rv : Value) (b : List UInt8) (e : Ending) (w' : World) : Prop :=
  e = .returned (.tuple #[]) ∧ match putR c x with
    | none => WrBad W0 w' gw ga
    | some y => Wr W0 w' B gw ga 41 (b ++ y) (rsC (clrR c x) (clrV c rv)).toArray
section
variable {W0 : World} {B gw ga : Nat} {b : List UInt8} {x : RsT} {rv : Value}
theorem putResult_78 (w : World) (h : Wr W0 w B gw ga 41 b (rsC x rv).toArray) (hk : x.Okw) (hb : b.length ≤ 100000) :
    Calls Try.prog 83 #[.pointer (some ⟨gw, 0, none⟩), .int .u8 78, .pointer (some ⟨ga, 0, none⟩)] w (PutR W0 B gw ga 78 x rv b) := by
  have K : Hid (Calls Try.prog 116 #[.pointer (some ⟨gw, 0, none⟩), .pointer (some ⟨ga, 13, none⟩)] w fun e w' => e = .returned (.tuple #[]) ∧ Wr W0 w' B gw ga 41 (b ++ intL x.n) (rsC (clrR 78 x) (clrV 78 rv)).toArray) := Lib.hid (wInt w h rfl hk.n hb)
  have HP : Hid (putR 78 x = some (intL x.n)) := Lib.hid rfl
  clear h hk hb
  go_enter Try.func83, Try.ntmps83
  go_wp2_with fail
  refine K.out.mono ?_
  rintro e w1 ⟨rfl, h1⟩
  have H1 := Lib.hid h1
  clear h1 K
  go_wp2_with fail
  go_end0
  exact ⟨rfl, by rw [HP.out]; exact H1.out⟩
theorem putResult_102 (w : World) (h : Wr W0 w B gw ga 41 b (rsC x rv).toArray) (hk : x.Okw) (hb : b.length ≤ 100000) :
    Calls Try.prog 83 #[.pointer (some ⟨gw, 0, none⟩), .int .u8 102, .pointer (some ⟨ga, 0, none⟩)] w (PutR W0 B gw ga 102 x rv b) := by
  have K : Hid (Calls Try.prog 116 #[.pointer (some ⟨gw, 0, none⟩), .pointer (some ⟨ga, 14, none⟩)] w fun e w' => e = .returned (.tuple #[]) ∧ Wr W0 w' B gw ga 41 (b ++ intL x.free) (rsC (clrR 102 x) (clrV 102 rv)).toArray) := Lib.hid (wInt w h rfl hk.free hb)
  have HP : Hid (putR 102 x = some (intL x.free)) := Lib.hid rfl
  clear h hk hb
  go_enter Try.func83, Try.ntmps83
  go_wp2_with fail
  refine K.out.mono ?_
  rintro e w1 ⟨rfl, h1⟩
  have H1 := Lib.hid h1
  clear h1 K
  go_wp2_with fail
  go_end0
  exact ⟨rfl, by rw [HP.out]; exact H1.out⟩
theorem putResult_117 (w : World) (h : Wr W0 w B gw ga 41 b (rsC x rv).toArray) (hk : x.Okw) (hb : b.length ≤ 100000) :
    Calls Try.prog 83 #[.pointer (some ⟨gw, 0, none⟩), .int .u8 117, .pointer (some ⟨ga, 0, none⟩)] w (PutR W0 B gw ga 117 x rv b) := by
  have K : Hid (Calls Try.prog 117 #[.pointer (some ⟨gw, 0, none⟩), .pointer (some ⟨ga, 15, none⟩)] w fun e w' => e = .returned (.tuple #[]) ∧ Wr W0 w' B gw ga 41 (b ++ beL x.used) (rsC (clrR 117 x) (clrV 117 rv)).toArray) := Lib.hid (wLong w h rfl hk.used hb)
  have HP : Hid (putR 117 x = some (beL x.used)) := Lib.hid rfl
  clear h hk hb
  go_enter Try.func83, Try.ntmps83
  go_wp2_with fail
  refine K.out.mono ?_
  rintro e w1 ⟨rfl, h1⟩
  have H1 := Lib.hid h1
  clear h1 K
  go_wp2_with fail
  go_end0
  exact ⟨rfl, by rw [HP.out]; exact H1.out⟩
theorem putResult_118 (w : World) (h : Wr W0 w B gw ga 41 b (rsC x rv).toArray) (hk : x.Okw) (hb : b.length ≤ 100000) :
    Calls Try.prog 83 #[.pointer (some ⟨gw, 0, none⟩), .int .u8 118, .pointer (some ⟨ga, 0, none⟩)] w (PutR W0 B gw ga 118 x rv b) := by
  have K : Hid (Calls Try.prog 117 #[.pointer (some ⟨gw, 0, none⟩), .pointer (some ⟨ga, 18, none⟩)] w fun e w' => e = .returned (.tuple #[]) ∧ Wr W0 w' B gw ga 41 (b ++ beL x.verf) (rsC (clrR 118 x) (clrV 118 rv)).toArray) := Lib.hid (wLong w h rfl hk.verf hb)
  have HP : Hid (putR 118 x = some (beL x.verf)) := Lib.hid rfl
  clear h hk hb
  go_enter Try.func83, Try.ntmps83
  go_wp2_with fail
  refine K.out.mono ?_
  rintro e w1 ⟨rfl, h1⟩
  have H1 := Lib.hid h1
  clear h1 K
  go_wp2_with fail
  go_end0
  exact ⟨rfl, by rw [HP.out]; exact H1.out⟩
theorem putResult_120 (w : World) (h : Wr W0 w B gw ga 41 b (rsC x rv).toArray) (hk : x.Okw) (hb : b.length ≤ 100000) :
    Calls Try.prog 83 #[.pointer (some ⟨gw, 0, none⟩), .int .u8 120, .pointer (some ⟨ga, 0, none⟩)] w (PutR W0 B gw ga 120 x rv b) := by
  by_cases hm : 2048 < x.text.length
  · have K : Hid (Calls Try.prog 115 #[.pointer (some ⟨gw, 0, none⟩), .pointer (some ⟨ga, 12, none⟩), .int .i64 2048] w fun e w' => e = .returned (.tuple #[]) ∧ WrBad W0 w' gw ga) := Lib.hid (wText_no (m := 2048) w h rfl hm (by have := hk.text; omega))
    have HP : Hid (putR 120 x = none) := Lib.hid (if_pos hm)
    clear h hk hb hm
    go_enter Try.func83, Try.ntmps83
    go_wp2_with fail
    refine K.out.mono ?_
    rintro e w1 ⟨rfl, h1⟩
    have H1 := Lib.hid h1
    clear h1 K
    go_wp2_with fail
    go_end0
    exact ⟨rfl, by rw [HP.out]; exact H1.out⟩
  · have K : Hid (Calls Try.prog 115 #[.pointer (some ⟨gw, 0, none⟩), .pointer (some ⟨ga, 12, none⟩), .int .i64 2048] w fun e w' => e = .returned (.tuple #[]) ∧ Wr W0 w' B gw ga 41 (b ++ textL x.text) (rsC (clrR 120 x) (clrV 120 rv)).toArray) := Lib.hid (wText_yes (m := 2048) w h rfl (by omega) (by have := hk.text; omega) hb)
    have HP : Hid (putR 120 x = some (textL x.text)) := Lib.hid (if_neg hm)
    clear h hk hb hm
    go_enter Try.func83, Try.ntmps83
    go_wp2_with fail
    refine K.out.mono ?_
    rintro e w1 ⟨rfl, h1⟩
    have H1 := Lib.hid h1
    clear h1 K
    go_wp2_with fail
    go_end0
    exact ⟨rfl, by rw [HP.out]; exact H1.out⟩
theorem putResult_72 (w : World) (h : Wr W0 w B gw ga 41 b (rsC x rv).toArray) (hk : x.Okw) (hb : b.length ≤ 100000) :
    Calls Try.prog 83 #[.pointer (some ⟨gw, 0, none⟩), .int .u8 72, .pointer (some ⟨ga, 0, none⟩)] w (PutR W0 B gw ga 72 x rv b) := by
  by_cases hm : hmayB x.h.1 x.h.2.1 x.h.2.2 = true
  · have K : Hid (Calls Try.prog 114 #[.pointer (some ⟨gw, 0, none⟩), .pointer (some ⟨ga, 1, none⟩)] w fun e w' => e = .returned (.tuple #[]) ∧ Wr W0 w' B gw ga 41 (b ++ hbytes x.h.1 x.h.2.1 x.h.2.2) (rsC (clrR 72 x) (clrV 72 rv)).toArray) := Lib.hid (wHandle_yes (x := x.h) w h rfl rfl rfl hm hb)
    have HP : Hid (putR 72 x = some (hbytes x.h.1 x.h.2.1 x.h.2.2)) := Lib.hid (if_pos hm)
    clear h hk hb hm
    go_enter Try.func83, Try.ntmps83
    go_wp2_with fail
    refine K.out.mono ?_
    rintro e w1 ⟨rfl, h1⟩
    have H1 := Lib.hid h1
    clear h1 K
    go_wp2_with fail
    go_end0
    exact ⟨rfl, by rw [HP.out]; exact H1.out⟩
  · have K : Hid (Calls Try.prog 114 #[.pointer (some ⟨gw, 0, none⟩), .pointer (some ⟨ga, 1, none⟩)] w fun e w' => e = .returned (.tuple #[]) ∧ WrBad W0 w' gw ga) := Lib.hid (wHandle_no (x := x.h) w h rfl rfl rfl (by simpa using hm))
    have HP : Hid (putR 72 x = none) := Lib.hid (if_neg hm)
    clear h hk hb hm
    go_enter Try.func83, Try.ntmps83
    go_wp2_with fail
    refine K.out.mono ?_
    rintro e w1 ⟨rfl, h1⟩
    have H1 := Lib.hid h1
    clear h1 K
    go_wp2_with fail
    go_end0
    exact ⟨rfl, by rw [HP.out]; exact H1.out⟩
theorem putResult_65 (w : World) (h : Wr W0 w B gw ga 41 b (rsC x rv).toArray) (hk : x.Okw) (hb : b.length ≤ 50000) :
    Calls Try.prog 83 #[.pointer (some ⟨gw, 0, none⟩), .int .u8 65, .pointer (some ⟨ga, 0, none⟩)] w (PutR W0 B gw ga 65 x rv b) := by
  by_cases hm : kindB x.at_.kind = true
  · have K : Hid (Calls Try.prog 131 #[.pointer (some ⟨gw, 0, none⟩), .pointer (some ⟨ga, 4, none⟩)] w fun e w' => e = .returned (.tuple #[]) ∧ Wr W0 w' B gw ga 41 (b ++ attrB x.at_) (rsC (clrR 65 x) (clrV 65 rv)).toArray) := Lib.hid (wAttr_yes w h hm hk.at_ (by omega))
    have HP : Hid (putR 65 x = some (attrB x.at_)) := Lib.hid (if_pos hm)
    clear h hk hb hm
    go_enter Try.func83, Try.ntmps83
    go_wp2_with fail
    refine K.out.mono ?_
    rintro e w1 ⟨rfl, h1⟩
    have H1 := Lib.hid h1
    clear h1 K
    go_wp2_with fail
    go_end0
    exact ⟨rfl, by rw [HP.out]; exact H1.out⟩
  · have K : Hid (Calls Try.prog 131 #[.pointer (some ⟨gw, 0, none⟩), .pointer (some ⟨ga, 4, none⟩)] w fun e w' => e = .returned (.tuple #[]) ∧ WrBad W0 w' gw ga) := Lib.hid (wAttr_no w h (by simpa using hm) hk.at_.kind)
    have HP : Hid (putR 65 x = none) := Lib.hid (if_neg hm)
    clear h hk hb hm
    go_enter Try.func83, Try.ntmps83
    go_wp2_with fail
    refine K.out.mono ?_
    rintro e w1 ⟨rfl, h1⟩
    have H1 := Lib.hid h1
    clear h1 K
    go_wp2_with fail
    go_end0
    exact ⟨rfl, by rw [HP.out]; exact H1.out⟩
theorem putResult_69 (w : World) (h : Wr W0 w B gw ga 41 b (rsC x rv).toArray) (hk : x.Okw) (hb : b.length ≤ 50000) (hB : ga < B) (hr : EnR w rv x.ents) (hro : 0 < x.ents.length → OffB rv gw ∧ OffB rv ga) :
    Calls Try.prog 83 #[.pointer (some ⟨gw, 0, none⟩), .int .u8 69, .pointer (some ⟨ga, 0, none⟩)] w (PutR W0 B gw ga 69 x rv b) := by
  by_cases hm : 64 < x.ents.length
  · have K : Hid (Calls Try.prog 133 #[.pointer (some ⟨gw, 0, none⟩), .pointer (some ⟨ga, 17, none⟩)] w fun e w' => e = .returned (.tuple #[]) ∧ WrBad W0 w' gw ga) := Lib.hid (wEntries_many w h hr hk.ents hm)
    have HP : Hid (putR 69 x = none) := Lib.hid (if_pos hm)
    clear h hk hb hm hr hro hB
    go_enter Try.func83, Try.ntmps83
    go_wp2_with fail
    refine K.out.mono ?_
    rintro e w1 ⟨rfl, h1⟩
    have H1 := Lib.hid h1
    clear h1 K
    go_wp2_with fail
    go_end0
    exact ⟨rfl, by rw [HP.out]; exact H1.out⟩
  have KE := wEntries_any w h hB hr hro (by omega) hk.each hb
  by_cases hq : longE x.ents = true
  · have K : Hid (Calls Try.prog 133 #[.pointer (some ⟨gw, 0, none⟩), .pointer (some ⟨ga, 17, none⟩)] w fun e w' => e = .returned (.tuple #[]) ∧ WrBad W0 w' gw ga) := Lib.hid (KE.mono fun e w' ⟨he, bb, hW, _⟩ => ⟨he, by rw [hq] at hW; exact hW.bad⟩)
    have HP : Hid (putR 69 x = none) := Lib.hid ((if_neg hm).trans (if_pos hq))
    clear h hk hb hm hr hro hB KE hq
    go_enter Try.func83, Try.ntmps83
    go_wp2_with fail
    refine K.out.mono ?_
    rintro e w1 ⟨rfl, h1⟩
    have H1 := Lib.hid h1
    clear h1 K
    go_wp2_with fail
    go_end0
    exact ⟨rfl, by rw [HP.out]; exact H1.out⟩
  · have hq' : longE x.ents = false := by simpa using hq
    have K : Hid (Calls Try.prog 133 #[.pointer (some ⟨gw, 0, none⟩), .pointer (some ⟨ga, 17, none⟩)] w fun e w' => e = .returned (.tuple #[]) ∧ Wr W0 w' B gw ga 41 (b ++ entsB x.ents) (rsC (clrR 69 x) (clrV 69 rv)).toArray) := Lib.hid (KE.mono fun e w' ⟨he, bb, hW, hbb⟩ => ⟨he, by rw [hq', hbb hq'] at hW; exact hW⟩)
    have HP : Hid (putR 69 x = some (entsB x.ents)) := Lib.hid ((if_neg hm).trans (if_neg hq))
    clear h hk hb hm hr hro hB KE hq hq'
    go_enter Try.func83, Try.ntmps83
    go_wp2_with fail
    refine K.out.mono ?_
    rintro e w1 ⟨rfl, h1⟩
    have H1 := Lib.hid h1
    clear h1 K
    go_wp2_with fail
    go_end0
    exact ⟨rfl, by rw [HP.out]; exact H1.out⟩
theorem putResult_101 (w : World) (h : Wr W0 w B gw ga 41 b (rsC x rv).toArray) (hk : x.Okw) (hb : b.length ≤ 100000) :
    Calls Try.prog 83 #[.pointer (some ⟨gw, 0, none⟩), .int .u8 101, .pointer (some ⟨ga, 0, none⟩)] w (PutR W0 B gw ga 101 x rv b) := by
  have HP : Hid (putR 101 x = some (beN (b2i x.end_) 4)) := Lib.hid rfl
  obtain ⟨b2, hb2⟩ : ∃ b2, b ++ beN (b2i x.end_) 4 = b2 := ⟨_, rfl⟩
  have HB2 := Lib.hid hb2
  clear hb2
  obtain ⟨v, hw, hv, -⟩ := h.hw
  obtain ⟨A, c, rfl⟩ := hv.rs.form
  obtain ⟨c0, -, f0, -, gl⟩ := blk2 hw
  have gal := heap_lt h.ha
  have ca : w.cell? ⟨ga, 16, none⟩ = some (.bool x.end_) := by rw [cell_of_row _ _ _ _ _ _ h.ha]; rfl
  have H := Lib.hid h
  have HV := Lib.hid hv
  obtain ⟨E, hE⟩ : ∃ E, (.bool x.end_ : Value) = E := ⟨_, rfl⟩
  rw [hE] at ca
  have KF := Lib.hid (fun (w : World) (hv : RS w (.slice A b.length c) b) => Flag_any (.slice A b.length c) b x.end_ w hv (by omega))
  rw [hE] at KF
  clear h hw hv hk hE
  go_enter Try.func83, Try.ntmps83
  go_upto_region 14 with fail
  have e0 := fun (ψ : World → Prop) (e : ExtP w.heap.size w ψ) => e.cell c0 gl
  have e1 := fun (ψ : World → Prop) (e : ExtP w.heap.size w ψ) => e.cell ca gal
  clear c0 f0 ca
  refine wp_region_pieces 10  [(true, [0, 1, 2, 3, 4, 5, 6, 7, 8]), (false, [9])] (by kernel_rfl) (by kernel_rfl) ?_; simp only [pick, List.map_cons, List.map_nil, List.flatMap_cons, List.flatMap_nil, Option.toList_some, List.singleton_append, List.drop_succ_cons, List.drop_zero, List.getElem?_cons_zero, List.getElem?_cons_succ]
  refine ⟨by kernel_rfl, ?_⟩; apply Exists.intro; refine ⟨fun ψ hψ hne => (by (repeat (go_big_quiet_step (( fail )))); exact wpQuiet_nil rfl), ?_⟩
  intro w1 h1 K hK
  clear e0 e1
  go_wp2_with fail
  refine (KF.out w1 ((HV.out.ext h1).rs)).mono ?_
  rintro e w2 ⟨v2, rfl, o2, h2⟩
  have o2 : OwnZ w2 w1.heap.size 5 v2 (b ++ beN (b2i x.end_) 4) := o2.z
  rw [HB2.out] at o2
  obtain ⟨A2, c2, rfl⟩ := o2.rs.form
  have F2 := Lib.hid (And.intro (o2.off (H.out.ext h1).lts.1) (o2.off (H.out.ext h1).lts.2))
  go_wp2_with fail
  refine hK _ _ h2 ?_
  clear hK K
  intro w3 h3
  have H2 := H.out.ext (Ext.trans (Ext.trans h1 h2) h3)
  have O2 : OwnZ w3 B 5 (.slice A2 b2.length c2) b2 := (o2.ext h3).mono (Nat.le_trans H.out.lB (Below.size h1))
  obtain ⟨v0, hw2, -⟩ := H2.hw
  obtain ⟨c0, -, f0, -, gl⟩ := blk2 hw2
  have s0 := blk2_st0 (.slice A2 b2.length c2) hw2
  have ST := Lib.hid s0
  have H3 := Lib.hid (H2.put O2 F2.out)
  clear s0 hw2 H2 O2 o2 h1 h2 h3 HV KF
  go_upto_region 15 with fail
  rw [ST.out]
  clear ST c0 f0 gl H
  generalize w3.setRow gw _ = V at *
  have ha := H3.out.ha
  have gal := heap_lt ha
  have fa : V.frozen? ⟨ga, 16, none⟩ = false := by simp [World.frozen?, ha]
  have ca : V.cell? ⟨ga, 16, none⟩ = some (.bool x.end_) := by rw [cell_of_row _ _ _ _ _ _ ha]; rfl
  have s1 := setCell_eq_setRow V ga 16 _ 41 (0, 0) (.bool false) ha
  have S1 := Lib.hid s1
  clear s1 ha
  go_wp2_with fail
  go_end0
  rw [S1.out]
  exact ⟨rfl, by rw [HP.out]; show Wr W0 _ B gw ga _ (b ++ beN (b2i x.end_) 4) _; rw [HB2.out]; exact H3.out.clr _⟩
end
end Go.Proofs.Yteahlnoonmfjhaa
