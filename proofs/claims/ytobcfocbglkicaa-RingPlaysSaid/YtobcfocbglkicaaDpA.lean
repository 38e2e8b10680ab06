/- The law of disks: its steps among the arguments; large; same. -/
import Derived.Test.YtobcfocbglkicaaOpD
import Derived.Test.YtobcfocbglkicaaDkL
import Derived.Deep.LoopGhost
set_option linter.unusedVariables false
set_option maxRecDepth 100000
namespace Go.Proofs.Ytobcfocbglkicaa
open Go.RowKit

structure StD where
  k : Int
  n : Int
  c : Int
  kv : Value
  l : List Bool
def sdC (x : StD) : List Value := [.int .u8 x.k, .int .i64 x.n, .int .u8 x.c, x.kv]
theorem sdC_length (x : StD) : (sdC x).length = 4 := rfl
structure StD.Ok (w : World) (x : StD) : Prop where
  r : RBo w x.kv x.l
  b : ∀ b off n c, x.kv = .slice (some ⟨b, off, none⟩) n c → x.l ≠ [] → b < w.heap.size
  ll : x.l.length ≤ reachBytes
  k : (Lit.int .u8 x.k).wf = true
  n : (Lit.int .i64 x.n).wf = true
  c : (Lit.int .u8 x.c).wf = true
structure StsD where
  v : Value
  l : List StD
structure StsD.Ok (w : World) (x : StsD) : Prop where
  r : RR w 4 x.v x.l.length (x.l.flatMap sdC)
  e : ∀ y ∈ x.l, y.Ok w
  len : x.l.length ≤ maxLen
section
open Go.ChangeShapes Go.WideShapes Go.ChangeAt Go.Deep
variable {H : Type} {enc : TypeId × Value → H} {W : World} {base : Nat} {b0 : Nat} {held : Bool}
theorem open_stdQ {v : Value} {d : DataW H} {p : List MemPlace} {r : Reach} (hv : Value.okWide Try.prog W r b0 60 v) (h : DataW.Trod enc Try.prog W base (fun _ => true) held 60 v d p) (hB : ∀ q ∈ d.weights Try.prog 60, q ≤ reachBytes) : ∃ x : StsD, v = x.v ∧ x.Ok W := by
  obtain ⟨a0, len, cap, rfl⟩ := okWide_slice Try.underlying60 hv
  obtain ⟨m, hm⟩ := h
  obtain ⟨l, h1, h2, h3⟩ := open_rowsW (enc := sdC) (R := fun x => x.Ok W) Try.underlying60 Try.underlying66 (by kernel_rfl) (by kernel_rfl) (by decide) sdC_length (fun cell hc => by
    obtain ⟨y0, n0, t0, -⟩ := hc 0 _ rfl
    obtain ⟨y1, n1, t1, -⟩ := hc 1 _ rfl
    obtain ⟨y2, n2, t2, -⟩ := hc 2 _ rfl
    obtain ⟨y3, n3, t3, q3⟩ := hc 3 _ rfl
    obtain ⟨a, e0, _, w0⟩ := DataW.trod_int Try.underlying5 t0
    obtain ⟨b, e1, _, w1⟩ := DataW.trod_int Try.underlying3 t1
    obtain ⟨c, e2, _, w2⟩ := DataW.trod_int Try.underlying5 t2
    obtain ⟨l, r, rb, hl⟩ := open_boolsF Try.underlying39 Try.underlying4 (by kernel_rfl) (by kernel_rfl) t3 q3
    simp only [List.cons.injEq, and_true] at e0 e1 e2
    refine ⟨⟨a, b, c, cell 3, l⟩, fun j hj => ?_, ⟨r, rb, hl, w0, w1, w2⟩⟩
    have hj2 : j < 4 := hj
    rcases j with _ | _ | _ | _ | j
    · exact congrArg some e0.symm
    · exact congrArg some e1.symm
    · exact congrArg some e2.symm
    · rfl
    · omega) (v := .slice a0 len cap) (by simpa [Value.cells] using hm) hB
  exact ⟨⟨_, l⟩, rfl, h1, h2, h3⟩
end
theorem RR.std {w : World} {b off c k : Nat} {l : List StD} {x : StD} (h : RR w 4 (.slice (some ⟨b, off, none⟩) l.length c) l.length (l.flatMap sdC)) (hk : l[k]? = some x) :
    w.cell? ⟨b, off + k * 4, none⟩ = some (.int .u8 x.k) ∧ w.cell? ⟨b, off + k * 4 + 1, none⟩ = some (.int .i64 x.n) ∧ w.cell? ⟨b, off + k * 4 + 2, none⟩ = some (.int .u8 x.c) ∧ w.cell? ⟨b, off + k * 4 + 3, none⟩ = some x.kv := by
  have h0 := RR.cellAt (enc := sdC) h sdC_length hk (i := 0) rfl
  have h1 := RR.cellAt (enc := sdC) h sdC_length hk (i := 1) rfl
  have h2 := RR.cellAt (enc := sdC) h sdC_length hk (i := 2) rfl
  have h3 := RR.cellAt (enc := sdC) h sdC_length hk (i := 3) rfl
  rw [← Nat.add_assoc] at h0 h1 h2 h3
  exact ⟨h0, h1, h2, h3⟩
set_option maxHeartbeats 2000000 in
theorem large07_any {v : Value} (l : List StD) (w : World) (h : RR w 4 v l.length (l.flatMap sdC)) (he : ∀ x ∈ l, x.Ok w) (hll : l.length ≤ maxLen) :
    Calls Try.prog 37 #[v] w fun e w' => ∃ B, e = .returned (.bool B) ∧ (B = false → l.length ≤ 100 ∧ ∀ x ∈ l, x.l.length ≤ 3000) ∧ Below w.heap.size w w' := by
  obtain ⟨A, c, rfl⟩ := h.form
  unfold maxLen at hll
  have H := Lib.hid h
  have HE := Lib.hid he
  clear h he
  go_enter Try.func37, Try.ntmps37
  go_wp2
  go_loopg [3, 4] l.length (fun gg m s wr => ∃ (k N : Nat), k ≤ l.length ∧ l.length - k ≤ gg ∧ s = .int .i64 k ∧ m = .int .i64 N ∧ N ≤ 140737488358400 ∧ Hid (Ext w wr) ∧ Hid (N < 3000 → ∀ j y, j < k → l[j]? = some y → y.l.length ≤ N))
  case atStart => exact ⟨0, 0, Nat.zero_le _, by omega, rfl, rfl, by omega, Lib.hid (Ext.refl w), Lib.hid fun _ j x hj => absurd hj (Nat.not_lt_zero _)⟩
  case round =>
    obtain ⟨k, N, hk, hg, rfl, rfl, hN, HW, HA⟩ := hrel
    by_cases hlt : k < l.length
    · by_cases hN3 : N < 3000
      · obtain ⟨b, off, rfl, hb, hc, -⟩ := (H.out.ext HW.out).at (by omega)
        obtain ⟨x, hx⟩ : ∃ x, l[k]? = some x := ⟨_, List.getElem?_eq_getElem hlt⟩
        have hok := HE.out x (List.mem_of_getElem? hx)
        obtain ⟨A2, c2, hwv⟩ := hok.r.form
        obtain ⟨-, -, -, x3⟩ := RR.std (H.out.ext HW.out) hx
        rw [hwv] at x3
        have hxl := hok.ll
        unfold reachBytes at hxl
        have HX := Lib.hid hx
        have hN3' : (N : Int) < 3000 := by omega
        clear hx hok hwv
        go_wp2
        go_roundg (l.length - (k + 1))
        case measure => omega
        case rel =>
          refine ⟨k + 1, N + 1 + x.l.length, by omega, by omega, by go_num, by go_num, by omega, HW, Lib.hid fun hN4 j y hj hy => ?_⟩
          by_cases e : j = k
          · subst e
            rw [HX.out] at hy
            cases hy
            omega
          · have := HA.out hN3 j y (by omega) hy
            omega
      · have hN3' : (3000 : Int) ≤ (N : Int) := by omega
        go_wp2
        go_ret
        exact ⟨_, rfl, (by simp), HW.out⟩
    · obtain rfl : k = l.length := by omega
      have E : Hid (N < 3000 → ∀ x ∈ l, x.l.length ≤ 3000) := Lib.hid fun hN x hx => by
        obtain ⟨j, hj, rfl⟩ := List.getElem_of_mem hx
        have := HA.out hN j _ hj (List.getElem?_eq_getElem hj)
        omega
      clear HA
      by_cases hN3 : N < 3000
      · have hN3' : (N : Int) < 3000 := by omega
        by_cases h8 : 100 < l.length
        · have h8' : (100 : Int) < (l.length : Int) := by omega
          go_wp2
          go_ret
          exact ⟨_, rfl, (by simp), HW.out⟩
        · have h8' : (l.length : Int) ≤ 100 := by omega
          go_wp2
          go_ret
          exact ⟨_, rfl, fun _ => ⟨by omega, E.out hN3⟩, HW.out⟩
      · have hN3' : (3000 : Int) ≤ (N : Int) := by omega
        go_wp2
        go_ret
        exact ⟨_, rfl, (by simp), HW.out⟩
end Go.Proofs.Ytobcfocbglkicaa
