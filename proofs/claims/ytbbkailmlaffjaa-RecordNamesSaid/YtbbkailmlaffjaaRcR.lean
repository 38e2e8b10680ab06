/- Records: the document's Told. -/
import Derived.Test.YtbbkailmlaffjaaRcQ
import Derived.Test.YtbbkailmlaffjaaRcP
set_option linter.unusedVariables false
set_option maxRecDepth 100000
namespace Go.Proofs.Ytbbkailmlaffjaa
open Go.RowKit

theorem bn_snoc (l : List UInt8) (b : UInt8) : bn (l ++ [b]) = bn l * 256 + b.toNat := by simp [bn]
theorem bn_take (l : List UInt8) (i : Nat) (b : UInt8) (h : l[i]? = some b) : bn (l.take (i + 1)) = bn (l.take i) * 256 + b.toNat := by
  rw [List.take_add_one, h]
  exact bn_snoc _ _
theorem bn_le (l : List UInt8) : bn l < 256 ^ l.length := by
  have h := (beV_bd l).2
  rw [beV_bn] at h
  exact_mod_cast h
theorem bn_take4 (l : List UInt8) (i : Nat) (h : i ≤ 4) : bn (l.take i) < 4294967296 := by
  have h1 := bn_le (l.take i)
  have h2 : 256 ^ (l.take i).length ≤ 256 ^ 4 := Nat.pow_le_pow_right (by decide) (by simp; omega)
  have h3 : (256 : Nat) ^ 4 = 4294967296 := by decide
  omega
theorem app_one {w : World} {B : Nat} {v : Value} {l : List (List UInt8)} {ty : TypeId} (h : OwnR w B 9 1 One v l.length (svs l)) (hB : B ≤ w.heap.size) (x : List UInt8) (hn : l.length ≤ 10000000) :
    ∃ v' w', (Builtin.append_ #[26, 26] ty #[v, .slice (some ⟨w.heap.size, 0, none⟩) 1 1]).run Try.prog (w.alloc (.cells #[.string (str x)] 9)) = .ok v' w' ∧ OwnR w' B 9 1 One v' (l ++ [x]).length (svs (l ++ [x])) ∧ Below B w w' := by
  have hx := extAl w (.cells #[.string (str x)] 9)
  have hsrc : Src Try.prog 1 26 (.slice (some ⟨w.heap.size, 0, none⟩) 1 1) 1 (svs [x]) (w.alloc (.cells #[.string (str x)] 9)) := by
    refine Src.ofSlice _ Try.underlying26 ⟨w.heap.size, 0, none⟩ 1 1 _ (by simp [svs]) (fun j u hu => ?_) (svs_one _)
    obtain ⟨hj, rfl⟩ := List.getElem?_eq_some_iff.1 hu
    have hj0 : j = 0 := by simp [svs] at hj; omega
    subst hj0
    rw [Addr.add_lit, cell_of_row _ _ _ _ _ _ (heap_alloc_last w _)]
    rfl
  obtain ⟨v', w', hr, ho, hb, -, -⟩ := app_str (ty := ty) (h.ext hx) hsrc (by simp; omega) (svs_one _) (by omega)
  exact ⟨v', w', hr, by rw [List.length_append, svs_app]; exact ho, Below.trans (hx.mono hB) hb⟩
def ToldP (s : List UInt8) (w : World) (e : Ending) (w' : World) : Prop := ∃ v xs whole shut, e = .returned (.tuple #[v, .int .i64 (whole : Nat), .bool shut]) ∧ OwnR w' w.heap.size 9 1 One v xs.length (svs xs) ∧ Tell s xs whole shut ∧ Below w.heap.size w w'
set_option maxHeartbeats 4000000 in
theorem rTold_any (s : List UInt8) (w : World) (hs : s.length ≤ 1000000) : Calls Try.prog 26 #[.string (str s)] w (ToldP s w) := by
  have hsz := str_size s
  go_enter Try.func26, Try.ntmps26
  go_wp2_with fail
  go_loopw [5, 6, 7, 8, 9, 10, 11] (fun ov av wv rv _ _ _ wr => ∃ (a whole : Nat) (rec : List UInt8) (out : List (List UInt8)), av = .int .i64 a ∧ wv = .int .i64 whole ∧ rv = .string (str rec) ∧ a ≤ s.length ∧ whole ≤ a ∧ rec.length ≤ 4096 ∧ out.length ≤ a ∧ Hid (OwnR wr w.heap.size 9 1 One ov out.length (svs out)) ∧ Hid (Td s a whole rec out) ∧ Hid (Below w.heap.size w wr)) (fun _ av _ _ _ _ _ _ => s.length - (intOf av).toNat)
  case atStart => exact ⟨0, 0, [], [], rfl, rfl, rfl, Nat.zero_le _, Nat.le_refl _, by simp, Nat.le_refl _, Lib.hid OwnR.nil, Lib.hid (Td.start s), Lib.hid (Below.refl _ _)⟩
  case round =>
    obtain ⟨a, whole, rec, out, rfl, rfl, rfl, ha, hwh, hrc, hol, HO, HT, HB⟩ := hrel
    have hrs := str_size rec
    obtain ⟨Ao, co, rfl⟩ := HO.out.form
    by_cases h4 : a + 4 ≤ s.length
    · obtain ⟨wo, rfl⟩ : ∃ wo : World, wo = wr := ⟨_, rfl⟩
      have hl4 := hd4_length h4
      have hat : ∀ i, i < 4 → (hd4 s a)[i]? = s[a + i]? := fun i hi => by simp [hd4, hi]
      have HA := Lib.hid hat
      clear hat
      go_upto_region 8 with fail
      go_loopw [9, 10] (fun nv iv wr => ∃ i : Nat, i ≤ 4 ∧ iv = .int .i64 i ∧ nv = .int .i64 (bn ((hd4 s a).take i) : Nat) ∧ Hid (wr = wo)) (fun _ iv _ => 4 - (intOf iv).toNat)
      case atStart => exact ⟨0, Nat.zero_le _, rfl, rfl, Lib.hid rfl⟩
      case round =>
        obtain ⟨i, hi, rfl, rfl, HE⟩ := hrel
        by_cases hi4 : i < 4
        · have hks : a + i < (str s).size := by omega
          have hb := ((str s)[a + i]).toNat_lt
          have hn := bn_take4 (hd4 s a) i hi
          have hst := bn_take (hd4 s a) i ((str s)[a + i]) (by rw [HA.out i hi4, str_get, List.getElem?_eq_getElem (by omega)])
          obtain ⟨x, hx⟩ : ∃ x, bn ((hd4 s a).take i) = x := ⟨_, rfl⟩
          rw [hx] at hn hst
          rw [hx]
          have hi0 : (0 : Int) ≤ (a : Int) + i := by omega
          have hi1 : (a : Int) + i < s.length := by omega
          have hi2 : ((a : Int) + i).toNat = a + i := by omega
          have HST := Lib.hid hst
          clear hst hx
          go_wp2_with fail
          go_roundw
          case rel => exact ⟨i + 1, by omega, by go_num, by rw [HST.out]; go_num, HE⟩
          case measure => simp only [intOf]; omega
        · obtain rfl : i = 4 := by omega
          have ht4 : (hd4 s a).take 4 = hd4 s a := List.take_of_length_le (by omega)
          rw [ht4]
          have he := HE.out
          subst he
          clear HE HA
          have hlt := bn_take4 (hd4 s a) 4 (Nat.le_refl _)
          rw [ht4] at hlt
          obtain ⟨Ni, hNi⟩ : ∃ Ni : Int, ((bn (hd4 s a) : Nat) : Int) = Ni := ⟨_, rfl⟩
          obtain ⟨m, hm⟩ : ∃ m : Nat, bn (hd4 s a) % 2147483648 = m := ⟨_, rfl⟩
          have hm31 : m < 2147483648 := by omega
          have hN := Lib.hid hm
          rw [hNi]
          clear ht4
          by_cases hla : 2147483648 ≤ bn (hd4 s a)
          · have hnm : Ni - 2147483648 = m := by omega
            have hge : 2147483648 ≤ Ni := by omega
            have hle : Ni ≤ 4294967295 := by omega
            have HLA := Lib.hid hla
            clear hla hm hNi hlt
            go_upto_region 14 with fail
            by_cases hov : 4096 < rec.length + m
            · have HX := Lib.hid (HT.out.over (by omega) (by rw [hN.out]; omega))
              clear HT
              go_wp2_with fail
              go_ret3
              exact ⟨_, out, whole, true, rfl, HO.out, HX.out, HB.out⟩
            · by_cases hpt : s.length < a + 4 + m
              · have HX := Lib.hid (HT.out.part (by omega) (by rw [hN.out]; omega) (by rw [hN.out]; omega))
                clear HT
                go_wp2_with fail
                go_ret3
                exact ⟨_, out, whole, false, rfl, HO.out, HX.out, HB.out⟩
              · have hw := HT.out.all (n := m) (by omega) hN.out (by omega) (by omega)
                rw [if_pos HLA.out] at hw
                have hex : (str s).extract (a + 4) (a + 4 + m) = str ((s.drop (a + 4)).take m) := by rw [str_extract]; congr 2; omega
                have hp1 : (a : Int) + 4 + m ≤ s.length := by omega
                have hp2 : ((a : Int) + 4).toNat = a + 4 := by omega
                have hp3 : ((a : Int) + 4 + m).toNat = a + 4 + m := by omega
                have hsl : ∀ wx, (Instr.slice 9 (.string (str s)) (some (.int .i64 ((a : Int) + 4))) (some (.int .i64 ((a : Int) + 4 + m))) none).run Try.prog wx = .ok (.string (str ((s.drop (a + 4)).take m))) wx := fun wx => by
                  rw [run_slice_string wx 9 (str s) .i64 .i64 _ _ Try.underlying9 (by omega) (by omega) (by rw [str_size]; omega), hp2, hp3, hex]
                clear hex
                have hcat : str rec ++ str ((s.drop (a + 4)).take m) = str (rec ++ (s.drop (a + 4)).take m) := rfl
                have hxl : ((s.drop (a + 4)).take m).length = m := by simp; omega
                have hrl : (rec ++ (s.drop (a + 4)).take m).length = rec.length + m := by rw [List.length_append, hxl]
                have hxs := str_size ((s.drop (a + 4)).take m)
                rw [hxl] at hxs
                have HW := Lib.hid hw
                clear hw HT hxl
                generalize rec ++ (s.drop (a + 4)).take m = R at *
                generalize (s.drop (a + 4)).take m = D at *
                have HRL := Lib.hid hrl
                clear hrl
                obtain ⟨v', w', hr, ho2, hb2⟩ := app_one (ty := 26) HO.out HB.out.size R (by omega)
                have HO2 := Lib.hid ho2
                have HB2 := Lib.hid (HB.out.trans hb2)
                clear ho2 hb2 HO HB
                go_wp2_with (at_builtin; refine wpList_app rfl (.tmp 64) (.tmp 66) 26 26 rfl hr ?_; simp only [Act.put])
                go_roundw
                case rel => exact ⟨a + 4 + m, a + 4 + m, [], out ++ [R], by go_num, by go_num, rfl, by omega, by omega, by simp, by simp; omega, HO2, HW, HB2⟩
                case measure => simp only [intOf]; omega
          · obtain rfl : Ni = m := by omega
            have hge : ¬ 2147483648 ≤ (m : Int) := by omega
            have hle : (m : Int) ≤ 4294967295 := by omega
            have HLA := Lib.hid hla
            clear hla hm hNi hlt
            go_upto_region 14 with fail
            by_cases hov : 4096 < rec.length + m
            · have HX := Lib.hid (HT.out.over (by omega) (by rw [hN.out]; omega))
              clear HT
              go_wp2_with fail
              go_ret3
              exact ⟨_, out, whole, true, rfl, HO.out, HX.out, HB.out⟩
            · by_cases hpt : s.length < a + 4 + m
              · have HX := Lib.hid (HT.out.part (by omega) (by rw [hN.out]; omega) (by rw [hN.out]; omega))
                clear HT
                go_wp2_with fail
                go_ret3
                exact ⟨_, out, whole, false, rfl, HO.out, HX.out, HB.out⟩
              · have hw := HT.out.all (n := m) (by omega) hN.out (by omega) (by omega)
                rw [if_neg HLA.out] at hw
                have hex : (str s).extract (a + 4) (a + 4 + m) = str ((s.drop (a + 4)).take m) := by rw [str_extract]; congr 2; omega
                have hp1 : (a : Int) + 4 + m ≤ s.length := by omega
                have hp2 : ((a : Int) + 4).toNat = a + 4 := by omega
                have hp3 : ((a : Int) + 4 + m).toNat = a + 4 + m := by omega
                have hsl : ∀ wx, (Instr.slice 9 (.string (str s)) (some (.int .i64 ((a : Int) + 4))) (some (.int .i64 ((a : Int) + 4 + m))) none).run Try.prog wx = .ok (.string (str ((s.drop (a + 4)).take m))) wx := fun wx => by
                  rw [run_slice_string wx 9 (str s) .i64 .i64 _ _ Try.underlying9 (by omega) (by omega) (by rw [str_size]; omega), hp2, hp3, hex]
                clear hex
                have hcat : str rec ++ str ((s.drop (a + 4)).take m) = str (rec ++ (s.drop (a + 4)).take m) := rfl
                have hxl : ((s.drop (a + 4)).take m).length = m := by simp; omega
                have hrl : (rec ++ (s.drop (a + 4)).take m).length = rec.length + m := by rw [List.length_append, hxl]
                have hxs := str_size ((s.drop (a + 4)).take m)
                rw [hxl] at hxs
                have HW := Lib.hid hw
                clear hw HT hxl
                generalize rec ++ (s.drop (a + 4)).take m = R at *
                generalize (s.drop (a + 4)).take m = D at *
                have HRL := Lib.hid hrl
                clear hrl
                go_wp2_with fail
                go_roundw
                case rel => exact ⟨a + 4 + m, whole, R, out, by go_num, rfl, rfl, by omega, by omega, by rw [HRL.out]; omega, by omega, HO, HW, HB⟩
                case measure => simp only [intOf]; omega
    · have HX := Lib.hid (HT.out.few (by omega))
      clear HT
      go_wp2_with fail
      go_ret3
      exact ⟨_, out, whole, false, rfl, HO.out, HX.out, HB.out⟩
end Go.Proofs.Ytbbkailmlaffjaa
