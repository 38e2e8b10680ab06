/- Arguments: a letter's field is put. -/
import Derived.Test.YteahlnoonmfjhaaAgB
set_option linter.unusedVariables false
set_option maxRecDepth 100000
namespace Go.Proofs.Yteahlnoonmfjhaa
open Go.RowKit

/-- What putting a letter's field comes to. -/
def PutP (W0 : World) (B gw ga : Nat) (c : UInt8) (a : AgT) (b : List UInt8) (e : Ending) (w' : World) : Prop :=
  e = .returned (.tuple #[]) ∧ match putA c a with
    | none => WrBad W0 w' gw ga
    | some x => Wr W0 w' B gw ga 35 (b ++ x) (agC (clrA c a)).toArray
section
variable {W0 : World} {B gw ga : Nat} {b : List UInt8} {a : AgT}
theorem putArg_112 (w : World) (h : Wr W0 w B gw ga 35 b (agC a).toArray) (hk : a.Ok) (hb : b.length ≤ 100000) :
    Calls Try.prog 64 #[.pointer (some ⟨gw, 0, none⟩), .int .u8 112, .pointer (some ⟨ga, 0, none⟩)] w (PutP W0 B gw ga 112 a b) := by
  have K : Hid (Calls Try.prog 116 #[.pointer (some ⟨gw, 0, none⟩), .pointer (some ⟨ga, 9, none⟩)] w fun e w' => e = .returned (.tuple #[]) ∧ Wr W0 w' B gw ga 35 (b ++ intL a.at_) (agC (clrA 112 a)).toArray) := Lib.hid (wInt w h rfl hk.at_ hb)
  have HP : Hid (putA 112 a = some (intL a.at_)) := Lib.hid rfl
  clear h hk hb
  go_enter Try.func64, Try.ntmps64
  go_wp2_with fail
  refine K.out.mono ?_
  rintro e w1 ⟨rfl, h1⟩
  have H1 := Lib.hid h1
  clear h1 K
  go_wp2_with fail
  go_end0
  exact ⟨rfl, by rw [HP.out]; exact H1.out⟩
theorem putArg_78 (w : World) (h : Wr W0 w B gw ga 35 b (agC a).toArray) (hk : a.Ok) (hb : b.length ≤ 100000) :
    Calls Try.prog 64 #[.pointer (some ⟨gw, 0, none⟩), .int .u8 78, .pointer (some ⟨ga, 0, none⟩)] w (PutP W0 B gw ga 78 a b) := by
  have K : Hid (Calls Try.prog 116 #[.pointer (some ⟨gw, 0, none⟩), .pointer (some ⟨ga, 10, none⟩)] w fun e w' => e = .returned (.tuple #[]) ∧ Wr W0 w' B gw ga 35 (b ++ intL a.n) (agC (clrA 78 a)).toArray) := Lib.hid (wInt w h rfl hk.n hb)
  have HP : Hid (putA 78 a = some (intL a.n)) := Lib.hid rfl
  clear h hk hb
  go_enter Try.func64, Try.ntmps64
  go_wp2_with fail
  refine K.out.mono ?_
  rintro e w1 ⟨rfl, h1⟩
  have H1 := Lib.hid h1
  clear h1 K
  go_wp2_with fail
  go_end0
  exact ⟨rfl, by rw [HP.out]; exact H1.out⟩
theorem putArg_109 (w : World) (h : Wr W0 w B gw ga 35 b (agC a).toArray) (hk : a.Ok) (hb : b.length ≤ 100000) :
    Calls Try.prog 64 #[.pointer (some ⟨gw, 0, none⟩), .int .u8 109, .pointer (some ⟨ga, 0, none⟩)] w (PutP W0 B gw ga 109 a b) := by
  have K : Hid (Calls Try.prog 116 #[.pointer (some ⟨gw, 0, none⟩), .pointer (some ⟨ga, 11, none⟩)] w fun e w' => e = .returned (.tuple #[]) ∧ Wr W0 w' B gw ga 35 (b ++ intL a.mode) (agC (clrA 109 a)).toArray) := Lib.hid (wInt w h rfl hk.mode hb)
  have HP : Hid (putA 109 a = some (intL a.mode)) := Lib.hid rfl
  clear h hk hb
  go_enter Try.func64, Try.ntmps64
  go_wp2_with fail
  refine K.out.mono ?_
  rintro e w1 ⟨rfl, h1⟩
  have H1 := Lib.hid h1
  clear h1 K
  go_wp2_with fail
  go_end0
  exact ⟨rfl, by rw [HP.out]; exact H1.out⟩
theorem putArg_115 (w : World) (h : Wr W0 w B gw ga 35 b (agC a).toArray) (hk : a.Ok) (hb : b.length ≤ 100000) :
    Calls Try.prog 64 #[.pointer (some ⟨gw, 0, none⟩), .int .u8 115, .pointer (some ⟨ga, 0, none⟩)] w (PutP W0 B gw ga 115 a b) := by
  have K : Hid (Calls Try.prog 116 #[.pointer (some ⟨gw, 0, none⟩), .pointer (some ⟨ga, 12, none⟩)] w fun e w' => e = .returned (.tuple #[]) ∧ Wr W0 w' B gw ga 35 (b ++ intL a.size) (agC (clrA 115 a)).toArray) := Lib.hid (wInt w h rfl hk.size hb)
  have HP : Hid (putA 115 a = some (intL a.size)) := Lib.hid rfl
  clear h hk hb
  go_enter Try.func64, Try.ntmps64
  go_wp2_with fail
  refine K.out.mono ?_
  rintro e w1 ⟨rfl, h1⟩
  have H1 := Lib.hid h1
  clear h1 K
  go_wp2_with fail
  go_end0
  exact ⟨rfl, by rw [HP.out]; exact H1.out⟩
theorem putArg_98 (w : World) (h : Wr W0 w B gw ga 35 b (agC a).toArray) (hk : a.Ok) (hb : b.length ≤ 100000) :
    Calls Try.prog 64 #[.pointer (some ⟨gw, 0, none⟩), .int .u8 98, .pointer (some ⟨ga, 0, none⟩)] w (PutP W0 B gw ga 98 a b) := by
  have K : Hid (Calls Try.prog 116 #[.pointer (some ⟨gw, 0, none⟩), .pointer (some ⟨ga, 13, none⟩)] w fun e w' => e = .returned (.tuple #[]) ∧ Wr W0 w' B gw ga 35 (b ++ intL a.stable) (agC (clrA 98 a)).toArray) := Lib.hid (wInt w h rfl hk.stable hb)
  have HP : Hid (putA 98 a = some (intL a.stable)) := Lib.hid rfl
  clear h hk hb
  go_enter Try.func64, Try.ntmps64
  go_wp2_with fail
  refine K.out.mono ?_
  rintro e w1 ⟨rfl, h1⟩
  have H1 := Lib.hid h1
  clear h1 K
  go_wp2_with fail
  go_end0
  exact ⟨rfl, by rw [HP.out]; exact H1.out⟩
theorem putArg_103 (w : World) (h : Wr W0 w B gw ga 35 b (agC a).toArray) (hk : a.Ok) (hb : b.length ≤ 100000) :
    Calls Try.prog 64 #[.pointer (some ⟨gw, 0, none⟩), .int .u8 103, .pointer (some ⟨ga, 0, none⟩)] w (PutP W0 B gw ga 103 a b) := by
  have K : Hid (Calls Try.prog 116 #[.pointer (some ⟨gw, 0, none⟩), .pointer (some ⟨ga, 14, none⟩)] w fun e w' => e = .returned (.tuple #[]) ∧ Wr W0 w' B gw ga 35 (b ++ intL a.guard) (agC (clrA 103 a)).toArray) := Lib.hid (wInt w h rfl hk.guard hb)
  have HP : Hid (putA 103 a = some (intL a.guard)) := Lib.hid rfl
  clear h hk hb
  go_enter Try.func64, Try.ntmps64
  go_wp2_with fail
  refine K.out.mono ?_
  rintro e w1 ⟨rfl, h1⟩
  have H1 := Lib.hid h1
  clear h1 K
  go_wp2_with fail
  go_end0
  exact ⟨rfl, by rw [HP.out]; exact H1.out⟩
theorem putArg_118 (w : World) (h : Wr W0 w B gw ga 35 b (agC a).toArray) (hk : a.Ok) (hb : b.length ≤ 100000) :
    Calls Try.prog 64 #[.pointer (some ⟨gw, 0, none⟩), .int .u8 118, .pointer (some ⟨ga, 0, none⟩)] w (PutP W0 B gw ga 118 a b) := by
  have K : Hid (Calls Try.prog 117 #[.pointer (some ⟨gw, 0, none⟩), .pointer (some ⟨ga, 15, none⟩)] w fun e w' => e = .returned (.tuple #[]) ∧ Wr W0 w' B gw ga 35 (b ++ beL a.verf) (agC (clrA 118 a)).toArray) := Lib.hid (wLong w h rfl hk.verf hb)
  have HP : Hid (putA 118 a = some (beL a.verf)) := Lib.hid rfl
  clear h hk hb
  go_enter Try.func64, Try.ntmps64
  go_wp2_with fail
  refine K.out.mono ?_
  rintro e w1 ⟨rfl, h1⟩
  have H1 := Lib.hid h1
  clear h1 K
  go_wp2_with fail
  go_end0
  exact ⟨rfl, by rw [HP.out]; exact H1.out⟩
theorem putArg_110 (w : World) (h : Wr W0 w B gw ga 35 b (agC a).toArray) (hk : a.Ok) (hb : b.length ≤ 100000) :
    Calls Try.prog 64 #[.pointer (some ⟨gw, 0, none⟩), .int .u8 110, .pointer (some ⟨ga, 0, none⟩)] w (PutP W0 B gw ga 110 a b) := by
  by_cases hm : 255 < a.name.length
  · have K : Hid (Calls Try.prog 115 #[.pointer (some ⟨gw, 0, none⟩), .pointer (some ⟨ga, 6, none⟩), .int .i64 255] w fun e w' => e = .returned (.tuple #[]) ∧ WrBad W0 w' gw ga) := Lib.hid (wText_no (m := 255) w h rfl hm (by have := hk.name; omega))
    have HP : Hid (putA 110 a = none) := Lib.hid (if_pos hm)
    clear h hk hb hm
    go_enter Try.func64, Try.ntmps64
    go_wp2_with fail
    refine K.out.mono ?_
    rintro e w1 ⟨rfl, h1⟩
    have H1 := Lib.hid h1
    clear h1 K
    go_wp2_with fail
    go_end0
    exact ⟨rfl, by rw [HP.out]; exact H1.out⟩
  · have K : Hid (Calls Try.prog 115 #[.pointer (some ⟨gw, 0, none⟩), .pointer (some ⟨ga, 6, none⟩), .int .i64 255] w fun e w' => e = .returned (.tuple #[]) ∧ Wr W0 w' B gw ga 35 (b ++ textL a.name) (agC (clrA 110 a)).toArray) := Lib.hid (wText_yes (m := 255) w h rfl (by omega) (by have := hk.name; omega) hb)
    have HP : Hid (putA 110 a = some (textL a.name)) := Lib.hid (if_neg hm)
    clear h hk hb hm
    go_enter Try.func64, Try.ntmps64
    go_wp2_with fail
    refine K.out.mono ?_
    rintro e w1 ⟨rfl, h1⟩
    have H1 := Lib.hid h1
    clear h1 K
    go_wp2_with fail
    go_end0
    exact ⟨rfl, by rw [HP.out]; exact H1.out⟩
theorem putArg_111 (w : World) (h : Wr W0 w B gw ga 35 b (agC a).toArray) (hk : a.Ok) (hb : b.length ≤ 100000) :
    Calls Try.prog 64 #[.pointer (some ⟨gw, 0, none⟩), .int .u8 111, .pointer (some ⟨ga, 0, none⟩)] w (PutP W0 B gw ga 111 a b) := by
  by_cases hm : 255 < a.other.length
  · have K : Hid (Calls Try.prog 115 #[.pointer (some ⟨gw, 0, none⟩), .pointer (some ⟨ga, 7, none⟩), .int .i64 255] w fun e w' => e = .returned (.tuple #[]) ∧ WrBad W0 w' gw ga) := Lib.hid (wText_no (m := 255) w h rfl hm (by have := hk.other; omega))
    have HP : Hid (putA 111 a = none) := Lib.hid (if_pos hm)
    clear h hk hb hm
    go_enter Try.func64, Try.ntmps64
    go_wp2_with fail
    refine K.out.mono ?_
    rintro e w1 ⟨rfl, h1⟩
    have H1 := Lib.hid h1
    clear h1 K
    go_wp2_with fail
    go_end0
    exact ⟨rfl, by rw [HP.out]; exact H1.out⟩
  · have K : Hid (Calls Try.prog 115 #[.pointer (some ⟨gw, 0, none⟩), .pointer (some ⟨ga, 7, none⟩), .int .i64 255] w fun e w' => e = .returned (.tuple #[]) ∧ Wr W0 w' B gw ga 35 (b ++ textL a.other) (agC (clrA 111 a)).toArray) := Lib.hid (wText_yes (m := 255) w h rfl (by omega) (by have := hk.other; omega) hb)
    have HP : Hid (putA 111 a = some (textL a.other)) := Lib.hid (if_neg hm)
    clear h hk hb hm
    go_enter Try.func64, Try.ntmps64
    go_wp2_with fail
    refine K.out.mono ?_
    rintro e w1 ⟨rfl, h1⟩
    have H1 := Lib.hid h1
    clear h1 K
    go_wp2_with fail
    go_end0
    exact ⟨rfl, by rw [HP.out]; exact H1.out⟩
theorem putArg_120 (w : World) (h : Wr W0 w B gw ga 35 b (agC a).toArray) (hk : a.Ok) (hb : b.length ≤ 100000) :
    Calls Try.prog 64 #[.pointer (some ⟨gw, 0, none⟩), .int .u8 120, .pointer (some ⟨ga, 0, none⟩)] w (PutP W0 B gw ga 120 a b) := by
  by_cases hm : 2048 < a.text.length
  · have K : Hid (Calls Try.prog 115 #[.pointer (some ⟨gw, 0, none⟩), .pointer (some ⟨ga, 8, none⟩), .int .i64 2048] w fun e w' => e = .returned (.tuple #[]) ∧ WrBad W0 w' gw ga) := Lib.hid (wText_no (m := 2048) w h rfl hm (by have := hk.text; omega))
    have HP : Hid (putA 120 a = none) := Lib.hid (if_pos hm)
    clear h hk hb hm
    go_enter Try.func64, Try.ntmps64
    go_wp2_with fail
    refine K.out.mono ?_
    rintro e w1 ⟨rfl, h1⟩
    have H1 := Lib.hid h1
    clear h1 K
    go_wp2_with fail
    go_end0
    exact ⟨rfl, by rw [HP.out]; exact H1.out⟩
  · have K : Hid (Calls Try.prog 115 #[.pointer (some ⟨gw, 0, none⟩), .pointer (some ⟨ga, 8, none⟩), .int .i64 2048] w fun e w' => e = .returned (.tuple #[]) ∧ Wr W0 w' B gw ga 35 (b ++ textL a.text) (agC (clrA 120 a)).toArray) := Lib.hid (wText_yes (m := 2048) w h rfl (by omega) (by have := hk.text; omega) hb)
    have HP : Hid (putA 120 a = some (textL a.text)) := Lib.hid (if_neg hm)
    clear h hk hb hm
    go_enter Try.func64, Try.ntmps64
    go_wp2_with fail
    refine K.out.mono ?_
    rintro e w1 ⟨rfl, h1⟩
    have H1 := Lib.hid h1
    clear h1 K
    go_wp2_with fail
    go_end0
    exact ⟨rfl, by rw [HP.out]; exact H1.out⟩
theorem putArg_72 (w : World) (h : Wr W0 w B gw ga 35 b (agC a).toArray) (hk : a.Ok) (hb : b.length ≤ 100000) :
    Calls Try.prog 64 #[.pointer (some ⟨gw, 0, none⟩), .int .u8 72, .pointer (some ⟨ga, 0, none⟩)] w (PutP W0 B gw ga 72 a b) := by
  by_cases hm : hmayB a.h.1 a.h.2.1 a.h.2.2 = true
  · have K : Hid (Calls Try.prog 114 #[.pointer (some ⟨gw, 0, none⟩), .pointer (some ⟨ga, 0, none⟩)] w fun e w' => e = .returned (.tuple #[]) ∧ Wr W0 w' B gw ga 35 (b ++ hbytes a.h.1 a.h.2.1 a.h.2.2) (agC (clrA 72 a)).toArray) := Lib.hid (wHandle_yes (x := a.h) w h rfl rfl rfl hm hb)
    have HP : Hid (putA 72 a = some (hbytes a.h.1 a.h.2.1 a.h.2.2)) := Lib.hid (if_pos hm)
    clear h hk hb hm
    go_enter Try.func64, Try.ntmps64
    go_wp2_with fail
    refine K.out.mono ?_
    rintro e w1 ⟨rfl, h1⟩
    have H1 := Lib.hid h1
    clear h1 K
    go_wp2_with fail
    go_end0
    exact ⟨rfl, by rw [HP.out]; exact H1.out⟩
  · have K : Hid (Calls Try.prog 114 #[.pointer (some ⟨gw, 0, none⟩), .pointer (some ⟨ga, 0, none⟩)] w fun e w' => e = .returned (.tuple #[]) ∧ WrBad W0 w' gw ga) := Lib.hid (wHandle_no (x := a.h) w h rfl rfl rfl (by simpa using hm))
    have HP : Hid (putA 72 a = none) := Lib.hid (if_neg hm)
    clear h hk hb hm
    go_enter Try.func64, Try.ntmps64
    go_wp2_with fail
    refine K.out.mono ?_
    rintro e w1 ⟨rfl, h1⟩
    have H1 := Lib.hid h1
    clear h1 K
    go_wp2_with fail
    go_end0
    exact ⟨rfl, by rw [HP.out]; exact H1.out⟩
theorem putArg_84 (w : World) (h : Wr W0 w B gw ga 35 b (agC a).toArray) (hk : a.Ok) (hb : b.length ≤ 100000) :
    Calls Try.prog 64 #[.pointer (some ⟨gw, 0, none⟩), .int .u8 84, .pointer (some ⟨ga, 0, none⟩)] w (PutP W0 B gw ga 84 a b) := by
  by_cases hm : hmayB a.t.1 a.t.2.1 a.t.2.2 = true
  · have K : Hid (Calls Try.prog 114 #[.pointer (some ⟨gw, 0, none⟩), .pointer (some ⟨ga, 3, none⟩)] w fun e w' => e = .returned (.tuple #[]) ∧ Wr W0 w' B gw ga 35 (b ++ hbytes a.t.1 a.t.2.1 a.t.2.2) (agC (clrA 84 a)).toArray) := Lib.hid (wHandle_yes (x := a.t) w h rfl rfl rfl hm hb)
    have HP : Hid (putA 84 a = some (hbytes a.t.1 a.t.2.1 a.t.2.2)) := Lib.hid (if_pos hm)
    clear h hk hb hm
    go_enter Try.func64, Try.ntmps64
    go_wp2_with fail
    refine K.out.mono ?_
    rintro e w1 ⟨rfl, h1⟩
    have H1 := Lib.hid h1
    clear h1 K
    go_wp2_with fail
    go_end0
    exact ⟨rfl, by rw [HP.out]; exact H1.out⟩
  · have K : Hid (Calls Try.prog 114 #[.pointer (some ⟨gw, 0, none⟩), .pointer (some ⟨ga, 3, none⟩)] w fun e w' => e = .returned (.tuple #[]) ∧ WrBad W0 w' gw ga) := Lib.hid (wHandle_no (x := a.t) w h rfl rfl rfl (by simpa using hm))
    have HP : Hid (putA 84 a = none) := Lib.hid (if_neg hm)
    clear h hk hb hm
    go_enter Try.func64, Try.ntmps64
    go_wp2_with fail
    refine K.out.mono ?_
    rintro e w1 ⟨rfl, h1⟩
    have H1 := Lib.hid h1
    clear h1 K
    go_wp2_with fail
    go_end0
    exact ⟨rfl, by rw [HP.out]; exact H1.out⟩
def lettersA : List UInt8 := [72, 84, 110, 111, 120, 112, 78, 109, 115, 98, 103, 118]
theorem putArg_any (c : UInt8) (hc : c ∈ lettersA) (w : World) (h : Wr W0 w B gw ga 35 b (agC a).toArray) (hk : a.Ok) (hb : b.length ≤ 100000) :
    Calls Try.prog 64 #[.pointer (some ⟨gw, 0, none⟩), .int .u8 c.toNat, .pointer (some ⟨ga, 0, none⟩)] w (PutP W0 B gw ga c a b) := by
  simp only [lettersA, List.mem_cons, List.not_mem_nil, or_false] at hc
  rcases hc with rfl | rfl | rfl | rfl | rfl | rfl | rfl | rfl | rfl | rfl | rfl | rfl
  · exact putArg_72 w h hk hb
  · exact putArg_84 w h hk hb
  · exact putArg_110 w h hk hb
  · exact putArg_111 w h hk hb
  · exact putArg_120 w h hk hb
  · exact putArg_112 w h hk hb
  · exact putArg_78 w h hk hb
  · exact putArg_109 w h hk hb
  · exact putArg_115 w h hk hb
  · exact putArg_98 w h hk hb
  · exact putArg_103 w h hk hb
  · exact putArg_118 w h hk hb
end
end Go.Proofs.Yteahlnoonmfjhaa
