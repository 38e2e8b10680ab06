/- The claim XdrRow: the walk of its law, and the statement. -/
import Derived.Test.YtaccjneglaomhaaRdsB
import Derived.Test.YtaccjneglaomhaaVS
import Derived.Test.YtaccjneglaomhaaCalmS
set_option linter.unusedVariables false
namespace Go.Proofs.Ytaccjneglaomhaa
open Go.RowKit Go.ChangeShapes Go.WideShapes Go.ChangeAt Go.Deep
section
variable {H : Type} {enc : TypeId × Value → H} {W : World} {base : Nat} {b0 : Nat} {spare : Nat → Bool} {held : Bool}
theorem open_Wnums {v : Value} {d : DataW H} {p : List MemPlace} {r : Reach} (hv : Value.okWide Try.prog W r b0 74 v) (h : DataW.Trod enc Try.prog W base spare held 74 v d p) : ∃ x : NumsT, v = x.v ∧ x.Ok .u32 W := open_nums Try.underlying74 Try.underlying25 (by kernel_rfl) hv h
theorem open_Wstrs {v : Value} {d : DataW H} {p : List MemPlace} {r : Reach} (hv : Value.okWide Try.prog W r b0 75 v) (h : DataW.Trod enc Try.prog W base spare held 75 v d p) : ∃ x : StrsT, v = x.v ∧ x.Ok W := open_strs Try.underlying75 Try.underlying9 (by kernel_rfl) hv h
end
end Go.Proofs.Ytaccjneglaomhaa
namespace Go.Proofs.Ytaccjneglaomhaa.xdrRow
open Go.RowKit Go.ChangeShapes Go.WideShapes Go.ChangeAt Go.Deep Go.Proofs.Ytaccjneglaomhaa

def rowW (l : List Int) : List UInt8 := l.flatMap (beN · 4)
def txt (s : List UInt8) : List UInt8 := beN s.length 4 ++ fixL s
def rowT (l : List (List UInt8)) : List UInt8 := l.flatMap txt
def sumT (l : List (List UInt8)) : Nat := (rowT l).length
theorem rowW_take {l : List Int} {k : Nat} (h : k < l.length) : rowW (l.take (k + 1)) = rowW (l.take k) ++ beN l[k] 4 := by
  rw [List.take_succ_eq_append_getElem h]; simp only [rowW, List.flatMap_append, List.flatMap_cons, List.flatMap_nil, List.append_nil]
theorem rowT_take {l : List (List UInt8)} {k : Nat} (h : k < l.length) : rowT (l.take (k + 1)) = rowT (l.take k) ++ (beN l[k].length 4 ++ fixL l[k]) := by
  rw [List.take_succ_eq_append_getElem h]; simp only [rowT, txt, List.flatMap_append, List.flatMap_cons, List.flatMap_nil, List.append_nil]
theorem rowW_length (l : List Int) : (rowW l).length = 4 * l.length := by
  induction l with
  | nil => rfl
  | cons a l ih => simp only [rowW, List.flatMap_cons, List.length_append, beN_length, List.length_cons] at ih ⊢; omega
theorem rowW_drop {l : List Int} {k : Nat} (h : k < l.length) : rowW (l.drop k) = beN l[k] 4 ++ rowW (l.drop (k + 1)) := by
  rw [List.drop_eq_getElem_cons h]; simp only [rowW, List.flatMap_cons]
theorem rowT_drop {l : List (List UInt8)} {k : Nat} (h : k < l.length) : rowT (l.drop k) = beN l[k].length 4 ++ (fixL l[k] ++ rowT (l.drop (k + 1))) := by
  rw [List.drop_eq_getElem_cons h]; simp only [rowT, txt, List.flatMap_cons, List.append_assoc]
theorem rowT_le {l : List (List UInt8)} (h : ∀ s ∈ l, s.length ≤ 2000) : (rowT l).length ≤ 2007 * l.length := by
  induction l with
  | nil => simp [rowT]
  | cons a l ih =>
    have h1 := ih fun s hs => h s (List.mem_cons_of_mem _ hs)
    have h2 := h a (by simp)
    have h3 := fixL_length a
    have h4 := padN_le a.length
    have e : rowT (a :: l) = (beN a.length 4 ++ fixL a) ++ rowT l := by simp [rowT, txt]
    rw [e, List.length_append, List.length_append, beN_length, List.length_cons]
    omega
theorem fix_q (s : List UInt8) : ((fixL s).length : Int) = ((s.length : Int) + 3) / 4 * 4 := by
  have h1 := fixL_length s
  have : padN s.length = (4 - s.length % 4) % 4 := rfl
  omega

def L1 (w : World) (b : Value) (l : List UInt8) (wr : World) : Prop := OwnZ wr w.heap.size 5 b l ∧ Below w.heap.size w wr
def L3 (w : World) (g : Nat) (l : List UInt8) (wr : World) : Prop := Rds w.heap.size wr [(g, some l)] ∧ Below w.heap.size w wr

set_option maxHeartbeats 16000000 in
set_option maxRecDepth 100000 in
theorem walk (w : World) (x : NumsT) (hx : x.Ok .u32 w) (y : StrsT) (hy : y.Ok w) :
    Calls Try.prog 9 #[x.v, y.v] w fun e w' => e = .returned (.bool true) ∧ Below w.heap.size w w' := by
  obtain ⟨xv, ns⟩ := x
  obtain ⟨yv, ss⟩ := y
  obtain ⟨hX, -, hXw⟩ := hx
  obtain ⟨hY, -, hYe⟩ := hy
  simp only at hX hXw hY hYe ⊢
  obtain ⟨A1, c1, rfl⟩ := hX.form
  obtain ⟨A2, c2, rfl⟩ := hY.form
  simp only [List.length_map] at hX hY ⊢
  have hns : ∀ k (h : k < ns.length), 0 ≤ ns[k] ∧ ns[k] ≤ 4294967295 := fun k h => by
    have := hXw _ (List.getElem_mem h)
    simpa [Lit.wf, IntKind.has, IntKind.min, IntKind.max, IntKind.signed, IntKind.bits] using this
  by_cases h1 : 500 < ns.length
  · go_enter Try.func9, Try.ntmps9
    go_wp2_with (go_at_call 58; refine (works01_any _).mono ?_; rintro e w0 ⟨rfl, hb0⟩; have hz0 := hb0.size; (try simp only [World.size_alloc] at hz0))
    go_ret
    exact ⟨rfl, by (repeat' (first | (with_reducible assumption) | (with_reducible exact Below.refl _ _) | (with_reducible refine below_sc ?_ ?_) | ((with_reducible show (_ : Nat) ≤ _); omega) | refine Below.setCell ?_ (by first | omega | (simp; done) | (simp; omega)) _ | refine Below.alloc ?_ (by first | omega | (simp; done) | (simp; omega)) _ | refine Below.drew ?_ | refine below_drewN ?_ _ | refine Below.trans ?_ (Below.mono (by assumption) (by first | omega | (simp; done) | (simp; omega)))))⟩
  by_cases h2 : 100 < ss.length
  · go_enter Try.func9, Try.ntmps9
    go_wp2_with (go_at_call 58; refine (works01_any _).mono ?_; rintro e w0 ⟨rfl, hb0⟩; have hz0 := hb0.size; (try simp only [World.size_alloc] at hz0))
    go_ret
    exact ⟨rfl, by (repeat' (first | (with_reducible assumption) | (with_reducible exact Below.refl _ _) | (with_reducible refine below_sc ?_ ?_) | ((with_reducible show (_ : Nat) ≤ _); omega) | refine Below.setCell ?_ (by first | omega | (simp; done) | (simp; omega)) _ | refine Below.alloc ?_ (by first | omega | (simp; done) | (simp; omega)) _ | refine Below.drew ?_ | refine below_drewN ?_ _ | refine Below.trans ?_ (Below.mono (by assumption) (by first | omega | (simp; done) | (simp; omega)))))⟩
  have HX := Lib.hid hX
  have HY := Lib.hid hY
  have HN := Lib.hid hns
  clear hX hY hns hXw hYe
  go_enter Try.func9, Try.ntmps9
  go_wp2_with (go_at_call 58; refine (works01_any _).mono ?_; rintro e w0 ⟨rfl, hb0⟩; have hz0 := hb0.size; (try simp only [World.size_alloc] at hz0))
  have HI : Hid (L1 w (.slice none 0 0) (rowW (ns.take 0)) w0) := ⟨OwnZ.nil, hb0⟩
  go_loopw [5, 6] (fun b i wr => ∃ k : Nat, k ≤ ns.length ∧ i = .int .i64 k ∧ Hid (L1 w b (rowW (ns.take k)) wr)) (fun _ i _ => ns.length - (intOf i).toNat)
  case atStart => exact ⟨0, by omega, rfl, HI⟩
  case round =>
    obtain ⟨k, hk, rfl, HK⟩ := hrel
    obtain ⟨ho, hb⟩ := HK.out
    by_cases hlt : k < ns.length
    · obtain ⟨b, off, rfl, -, hbl, hcc, hj⟩ := HX.out.some_of (by simp; omega)
      have hcell : wr.cell? ⟨b, off + k, none⟩ = some (.int .u32 ns[k]) := by
        rw [hb.cell (p := ⟨b, off + k, none⟩) hbl, hj k (by simpa using hlt)]; simp
      have hnk := HN.out k hlt
      have hle : (rowW (ns.take k)).length ≤ 900000 := by rw [rowW_length]; simp; omega
      have e := rowW_take hlt
      have E := Lib.hid e
      clear e hj
      go_wp2_with fail
      refine (Word_any _ (rowW (ns.take k)) ns[k] _ ho.rs hnk.1 hnk.2 hle).mono ?_
      rintro e w1 ⟨v1, rfl, o1, b1⟩
      rw [← E.out] at o1
      have H2 : Hid (L1 w v1 (rowW (ns.take (k + 1))) w1) := ⟨(o1.mono hb.size).z, hb.trans (b1.mono hb.size)⟩
      clear o1 b1
      go_wp2_with fail
      go_roundw
      case rel => exact ⟨k + 1, by omega, by go_num, H2⟩
      case measure => simp [intOf]; omega
    · obtain rfl : k = ns.length := by omega
      obtain ⟨wo, rfl⟩ : ∃ wo : World, wo = wr := ⟨_, rfl⟩
      rw [List.take_length] at HK ho
      obtain ⟨WN, hWN⟩ : ∃ l, l = rowW ns := ⟨_, rfl⟩
      have lWN : WN.length = 4 * ns.length := by rw [hWN, rowW_length]
      rw [← hWN] at HK ho
      have HWN := Lib.hid hWN
      have LWN := Lib.hid lWN
      clear hWN lWN
      have HI2 : Hid (L1 w u5 (WN ++ rowT (ss.take 0)) wo) := by
        have := HK.out
        exact Lib.hid (by simpa [rowT] using this)
      have hb' := hb
      clear HK ho hb
      have HE0 : Hid (∀ j (h : j < ss.length), j < 0 → ss[j].length ≤ 2000) := fun j h h0 => by omega
      have es : ∀ l : List (List UInt8), (sumT l : Int) = ((rowT l).length : Int) := fun _ => rfl
      have e0 : (sumT (ss.take 0) : Int) = 0 := rfl
      have HE := Lib.hid e0
      have HES := Lib.hid es
      clear e0 es
      go_wp2_with fail
      go_loopw [5, 7, 8] (fun b n i wr => ∃ k : Nat, k ≤ ss.length ∧ i = .int .i64 k ∧ n = .int .i64 (4 * (ns.length : Int) + (sumT (ss.take k) : Int)) ∧ Hid (L1 w b (WN ++ rowT (ss.take k)) wr) ∧ Hid (∀ j (h : j < ss.length), j < k → ss[j].length ≤ 2000)) (fun _ _ i _ => ss.length - (intOf i).toNat)
      case atStart => exact ⟨0, by omega, rfl, by rw [HE.out, Int.add_zero], HI2, HE0⟩
      case round =>
        obtain ⟨k, hk, rfl, rfl, HK, HS⟩ := hrel
        obtain ⟨ho, hb⟩ := HK.out
        have hsum : sumT (ss.take k) ≤ 300000 := by
          have h3 := rowT_le (l := ss.take k) (fun s hs => by
            obtain ⟨j, hj, rfl⟩ := List.getElem_of_mem hs
            simp only [List.length_take] at hj
            rw [List.getElem_take]
            exact HS.out j (by omega) (by omega))
          have h4 : (ss.take k).length ≤ 100 := by simp; omega
          show (rowT (ss.take k)).length ≤ 300000
          have h5 : 2007 * (ss.take k).length ≤ 2007 * 100 := Nat.mul_le_mul_left _ h4
          omega
        by_cases hlt : k < ss.length
        · obtain ⟨b2, off, rfl, -, hbl, hcc, hj⟩ := HY.out.some_of (by simp; omega)
          have hcell : wr.cell? ⟨b2, off + k, none⟩ = some (.string (str ss[k])) := by
            rw [hb.cell (p := ⟨b2, off + k, none⟩) hbl, hj k (by simpa using hlt)]; simp [strV]
          have hsz := str_size ss[k]
          by_cases hlong : 2000 < ss[k].length
          · clear hj
            go_wp2_with fail
            go_ret
            exact ⟨rfl, hb⟩
          have hle : (WN ++ rowT (ss.take k)).length ≤ 400000 := by
            rw [List.length_append, LWN.out]
            have : (rowT (ss.take k)).length = sumT (ss.take k) := rfl
            omega
          have E := Lib.hid (rowT_take hlt)
          have Q := Lib.hid (fix_q ss[k])
          clear hj
          go_wp2_with fail
          refine (Text_any _ (WN ++ rowT (ss.take k)) ss[k] _ ho.rs hle (by omega)).mono ?_
          rintro e w1 ⟨v1, rfl, o1, b1⟩
          rw [List.append_assoc, ← E.out] at o1
          have H2 : Hid (L1 w v1 (WN ++ rowT (ss.take (k + 1))) w1) := ⟨(o1.mono hb.size).z, hb.trans (b1.mono hb.size)⟩
          have hcell1 := (Below.cell b1 (p := ⟨b2, off + k, none⟩) (show b2 < wr.heap.size from Nat.lt_of_lt_of_le hbl hb.size)).trans hcell
          clear o1 b1
          go_wp2_with fail
          go_roundw
          case rel => exact ⟨k + 1, by omega, by go_num, congrArg (Value.int .i64) (by
            have h3 : (sumT (ss.take (k + 1)) : Int) = sumT (ss.take k) + (4 + (fixL ss[k]).length) := by
              show ((rowT (ss.take (k + 1))).length : Int) = ((rowT (ss.take k)).length : Int) + _
              rw [E.out]; simp only [List.length_append, beN_length]; omega
            rw [h3, Q.out]; omega), H2, fun j h hlt' => by
            by_cases hjk : j = k
            · subst hjk; omega
            · exact HS.out j h (by omega)⟩
          case measure => simp [intOf]; omega
        · obtain rfl : k = ss.length := by omega
          obtain ⟨wp, rfl⟩ : ∃ wp : World, wp = wr := ⟨_, rfl⟩
          rw [List.take_length] at ho hsum
          rw [List.take_length]
          obtain ⟨TT, hTT⟩ : ∃ l, l = rowT ss := ⟨_, rfl⟩
          rw [← hTT] at ho
          obtain ⟨ST, hST⟩ : ∃ n, n = sumT ss := ⟨_, rfl⟩
          rw [← hST] at hsum ⊢
          have lTT : TT.length = ST := by rw [hTT, hST]; rfl
          have hLe : (WN ++ TT).length ≤ 900000 := by rw [List.length_append, LWN.out]; omega
          obtain ⟨Ab, cb, rfl⟩ := ho.rs.form
          obtain ⟨LT, hLT⟩ : ∃ n, n = (WN ++ TT).length := ⟨_, rfl⟩
          rw [← hLT]
          rw [← hLT] at ho
          have hEq : ((LT : Int) == 4 * (ns.length : Int) + (ST : Int)) = true := by rw [beq_iff_eq, hLT, List.length_append, LWN.out]; omega
          have HTT := Lib.hid hTT
          clear hLT hTT hST lTT HK
          go_wp2_with fail
          refine (newReader_l _ (WN ++ TT) (Rds.nil hb.size) ho.rs hLe).mono ?_
          rintro e w1 ⟨g, rfl, h1', x1⟩
          have hgB := (h1'.at (i := 0) rfl).2
          have HI3 : Hid (L3 w g (rowW (ns.drop 0) ++ TT) w1) := ⟨by rw [List.drop_zero, ← HWN.out]; exact h1', hb.trans (Below.mono x1 hb.size)⟩
          clear ho hb h1' x1
          go_wp2_with fail
          go_loopw [10] (fun i wr => ∃ k : Nat, k ≤ ns.length ∧ i = .int .i64 k ∧ Hid (L3 w g (rowW (ns.drop k) ++ TT) wr)) (fun i _ => ns.length - (intOf i).toNat)
          case atStart => exact ⟨0, by omega, rfl, HI3⟩
          case round =>
            obtain ⟨k, hk, rfl, HK⟩ := hrel
            obtain ⟨hr, hb⟩ := HK.out
            by_cases hlt : k < ns.length
            · obtain ⟨b, off, rfl, -, hbl, hcc, hj⟩ := HX.out.some_of (by simp; omega)
              have hcell : wr.cell? ⟨b, off + k, none⟩ = some (.int .u32 ns[k]) := by
                rw [hb.cell (p := ⟨b, off + k, none⟩) hbl, hj k (by simpa using hlt)]; simp
              have hbr : b < wr.heap.size := Nat.lt_of_lt_of_le hbl hb.size
              have hbg : ¬ b = g := by omega
              have hnk := HN.out k hlt
              have hw : rdW (some (rowW (ns.drop k) ++ TT)) = (ns[k], some (rowW (ns.drop (k + 1)) ++ TT)) := by
                rw [rowW_drop hlt, List.append_assoc]; exact rdW_be _ _ hnk.1 hnk.2
              have HW := Lib.hid hw
              clear hw hj
              go_wp2_with fail
              refine wp_region_piecesS (fun i => i = g) 6 [(true, [0, 2, 3, 4, 5]), (false, [1])] (by kernel_rfl) (by kernel_rfl) ?_; simp only [pick, List.map_cons, List.map_nil, List.flatMap_cons, List.flatMap_nil, Option.toList_some, List.singleton_append, List.drop_succ_cons, List.drop_zero, List.getElem?_cons_zero, List.getElem?_cons_succ]
              refine ⟨by kernel_rfl, ?_⟩; apply Exists.intro; refine ⟨fun ψ hψ hne => (by (have ex : ∀ e : ExtS (fun i => i = g) wr ψ, _ := fun e => e.cell hcell hbr hbg); (repeat (go_big_quiet_step (( fail )))); exact wpQuiet_nil rfl), ?_⟩
              intro wa ha K hK
              go_wp2_with fail
              refine (word_any g _ _ ((hr.ext ha).at (i := 0) rfl).1).mono ?_
              rintro e w3 ⟨rfl, r3, k3⟩
              rw [HW.out] at r3
              have hr3 := ((hr.ext ha).set (i := 0) rfl r3 k3).1
              have hb3 := (hb.trans (ha.mono hb.size)).trans ((hr.ext ha).set (i := 0) rfl r3 k3).2
              have hwv : (rdW (some (rowW (ns.drop k) ++ TT))).1 = ns[k] := by rw [HW.out]
              rw [hwv]
              clear hwv
              go_wp2_with fail
              refine hK _ _ (Mut.of_grown k3 (fun b hb => by simpa using hb.symm)) ?_
              clear hK K
              intro wc hc
              have H2 : Hid (L3 w g (rowW (ns.drop (k + 1)) ++ TT) wc) := ⟨hr3.ext hc, hb3.trans (hc.mono hb3.size)⟩
              go_wp2_with fail
              go_roundw
              case rel => exact ⟨k + 1, by omega, by go_num, H2⟩
              case measure => simp [intOf]; omega
            · obtain rfl : k = ns.length := by omega
              obtain ⟨wq, rfl⟩ : ∃ wq : World, wq = wr := ⟨_, rfl⟩
              have HI4 : Hid (L3 w g (rowT (ss.drop 0)) wq) := by
                have := HK.out
                rw [List.drop_length] at this
                rw [List.drop_zero, ← HTT.out]
                exact Lib.hid (by simpa [rowW] using this)
              clear HK hr hb
              go_wp2_with fail
              go_loopw [11] (fun i wr => ∃ k : Nat, k ≤ ss.length ∧ i = .int .i64 k ∧ Hid (L3 w g (rowT (ss.drop k)) wr)) (fun i _ => ss.length - (intOf i).toNat)
              case atStart => exact ⟨0, by omega, rfl, HI4⟩
              case round =>
                obtain ⟨k, hk, rfl, HK⟩ := hrel
                obtain ⟨hr, hb⟩ := HK.out
                by_cases hlt : k < ss.length
                · obtain ⟨b, off, rfl, -, hbl, hcc, hj⟩ := HY.out.some_of (by simp; omega)
                  have hcell : wr.cell? ⟨b, off + k, none⟩ = some (.string (str ss[k])) := by
                    rw [hb.cell (p := ⟨b, off + k, none⟩) hbl, hj k (by simpa using hlt)]; simp [strV]
                  have hbr : b < wr.heap.size := Nat.lt_of_lt_of_le hbl hb.size
                  have hbg : ¬ b = g := by omega
                  have hsz := str_size ss[k]
                  have hs2 := HS.out k hlt hlt
                  have hw : rdT (some (rowT (ss.drop k))) ss[k].length = (ss[k], some (rowT (ss.drop (k + 1)))) := by
                    rw [rowT_drop hlt]; exact rdT_be _ _ (by omega)
                  have hlen : (rowT (ss.drop k)).length ≤ 900000 := by
                    have h3 := rowT_le (l := ss.drop k) (fun s hs => by
                      obtain ⟨j, hj, rfl⟩ := List.getElem_of_mem hs
                      simp only [List.length_drop] at hj
                      rw [List.getElem_drop]
                      exact HS.out _ (by omega) (by omega))
                    have h4 : (ss.drop k).length ≤ 100 := by simp; omega
                    have h5 : 2007 * (ss.drop k).length ≤ 2007 * 100 := Nat.mul_le_mul_left _ h4
                    omega
                  have HW := Lib.hid hw
                  clear hw hj
                  go_wp2_with fail
                  refine wp_region_piecesS (fun i => i = g) 11 [(true, [0, 1, 2, 3, 4, 5, 7, 8, 9, 10]), (false, [6])] (by kernel_rfl) (by kernel_rfl) ?_; simp only [pick, List.map_cons, List.map_nil, List.flatMap_cons, List.flatMap_nil, Option.toList_some, List.singleton_append, List.drop_succ_cons, List.drop_zero, List.getElem?_cons_zero, List.getElem?_cons_succ]
                  refine ⟨by kernel_rfl, ?_⟩; apply Exists.intro; refine ⟨fun ψ hψ hne => (by (have ex : ∀ e : ExtS (fun i => i = g) wr ψ, _ := fun e => e.cell hcell hbr hbg); (repeat (go_big_quiet_step (( fail )))); exact wpQuiet_nil rfl), ?_⟩
                  intro wa ha K hK
                  go_wp2_with fail
                  refine (text_any g _ ss[k].length _ ((hr.ext ha).at (i := 0) rfl).1 hlen).mono ?_
                  rintro e w3 ⟨rfl, r3, k3⟩
                  rw [HW.out] at r3
                  have hr3 := ((hr.ext ha).set (i := 0) rfl r3 k3).1
                  have hb3 := (hb.trans (ha.mono hb.size)).trans ((hr.ext ha).set (i := 0) rfl r3 k3).2
                  have hwv : (rdT (some (rowT (ss.drop k))) ss[k].length).1 = ss[k] := by rw [HW.out]
                  rw [hwv]
                  clear hwv
                  go_wp2_with fail
                  refine hK _ _ (Mut.of_grown k3 (fun b hb => by simpa using hb.symm)) ?_
                  clear hK K
                  intro wc hc
                  have H2 : Hid (L3 w g (rowT (ss.drop (k + 1))) wc) := ⟨hr3.ext hc, hb3.trans (hc.mono hb3.size)⟩
                  go_wp2_with fail
                  go_roundw
                  case rel => exact ⟨k + 1, by omega, by go_num, H2⟩
                  case measure => simp [intOf]; omega
                · obtain rfl : k = ss.length := by omega
                  obtain ⟨wz, rfl⟩ : ∃ wz : World, wz = wr := ⟨_, rfl⟩
                  rw [List.drop_length] at hr
                  go_wp2_with fail
                  refine (done_l 0 true hr rfl rfl).mono ?_
                  rintro e w' ⟨rfl, rfl⟩
                  go_wp2_with fail
                  go_ret
                  exact ⟨rfl, hb⟩

theorem own : ownKnob Try.prog.godebug = none := by kernel_rfl
theorem laidOut : laidOutB Try.prog = true := by kernel_rfl

set_option maxRecDepth 100000 in
theorem lifted (os : Os) (started : os.Started) (H : Type) (enc : TypeId × Value → H) :
    ReturnsInHanded {} Try.checked os 9 .any (Rows.xdrRowSpec.pre6 enc Try.prog Try.f9 Rows.xdrRowRow.domain false) (Rows.xdrRowSpec.post enc Try.prog Try.f9 false true false false) := by
  refine returnsInHanded_of_change (C := Try.checked) own started (by kernel_rfl) Try.func9
    (ChangeSpec.witness6 (enc := enc) (C := Try.checked) false ⟨#[], #[.slice none 0 0, .slice none 0 0], []⟩ 8 (by kernel_rfl) (by kernel_rfl) (by kernel_rfl) (by kernel_rfl)) ?_
  intro W base args ds gs before hval0 hW hcnd _
  have hval : ∀ (j : Nat) t v, Try.f9.params[j]? = some t → args[j]? = some v → Value.okWide Try.prog W .any base t v := hval0
  have hW' := hW
  obtain ⟨p, q, hA0, hV, rfl, hfz, hnd⟩ := hW
  have hA : DataW.TrodAll enc Try.prog W 0 (fun _ => true) true Try.f9.params.toList args.toList ds p := hA0
  rw [Try.params9] at hA hval
  obtain ⟨v0, vs0, d0, ds0, p0, q0, hargs, rfl, rfl, h0, r0⟩ := trodAll_cons hA
  obtain ⟨v1, vs1, d1, ds1, p1, q1, rfl, rfl, rfl, h1, r1⟩ := trodAll_cons r0
  obtain ⟨rfl, rfl, rfl⟩ := trodAll_nil r1
  obtain rfl : args = #[v0, v1] := by cases args; simp_all
  obtain ⟨rfl, rfl⟩ := trodVars_none hV
  have k0 := h0
  have lt0 : ∀ x ∈ p0, x.block < W.heap.size := by obtain ⟨m, hm⟩ := k0; exact DataW.trod_lt m _ _ _ hm
  have k1 := h1
  have lt1 : ∀ x ∈ p1, x.block < W.heap.size := by obtain ⟨m, hm⟩ := k1; exact DataW.trod_lt m _ _ _ hm
  obtain ⟨x0, rfl, w0⟩ := open_Wnums (hval 0 _ v0 rfl rfl) h0
  obtain ⟨x1, rfl, w1⟩ := open_Wstrs (hval 1 _ v1 rfl rfl) h1
  refine (walk (w := W) x0 w0 x1 w1).mono fun e W' ⟨he, bel⟩ => ?_
  subst he
  exact ⟨_, rfl, _, _, _, [], _, [], hW', trodAll_mk1 (shut_bool Try.underlying4 _), (trodAll_cons_mk (Below.trod laidOut (by kernel_rfl) (of_decide_eq_true (by kernel_rfl)) k0 bel lt0) (trodAll_cons_mk (Below.trod laidOut (by kernel_rfl) (of_decide_eq_true (by kernel_rfl)) k1 bel lt1) trodAll_mk0)), rfl, bel.frame _, fun h => by cases h⟩

theorem proved : Rows.XdrRowSaid :=
  OpenClaim.holds_of_wide 9 Try.f9 rfl rfl rfl rfl rfl rfl rfl ⟨rfl, rfl, rfl, rfl, rfl⟩ rfl rfl rfl rfl rfl (by kernel_rfl) Try.func9 (by kernel_rfl)
    (of_decide_eq_true (by kernel_rfl)) (by unfold Func.isWrapper; first | (rw [if_pos (by decide +kernel)]; kernel_rfl) | (rw [if_neg (by decide +kernel)]; exact ⟨rfl, rfl⟩))
    (fun os started H enc _ => lifted os started H enc)
end Go.Proofs.Ytaccjneglaomhaa.xdrRow
