/- The law of rings: its steps among the arguments; large. -/
import Derived.Test.YtobcfocbglkicaaDpC
import Derived.Test.YtobcfocbglkicaaRgC
set_option linter.unusedVariables false
set_option maxRecDepth 100000
namespace Go.Proofs.Ytobcfocbglkicaa
section
open Go.RowKit Go.ChangeShapes Go.WideShapes Go.ChangeAt Go.Deep
section
variable {H : Type} {enc' : TypeId × Value → H} {P : Program} {w : World} {base : Nat} {spare : Nat → Bool} {held : Bool}
/-- Rows of structs of any fields. -/
theorem open_rowsFW {α : Type} {enc : α → List Value} {R : α → Prop} {t e : TypeId} {sz fuel : Nat} {v : Value} {x : DataW H × List MemPlace} (ht : P.underlying t = some (.slice e)) (hC : P.cellsOf e = sz) (hne : 0 < sz) (hen : ∀ x, (enc x).length = sz)
    (hk : ∀ (cs : List Value) (y : DataW H × List MemPlace) (n : Nat), cs.length = sz → DataW.trod enc' P w base spare held n e cs = some y → (∀ q ∈ y.1.weights P e, q ≤ reachBytes) → ∃ x, cs = enc x ∧ R x)
    (h : DataW.trod enc' P w base spare held fuel t [v] = some x) (hB : ∀ q ∈ x.1.weights P t, q ≤ reachBytes) : ∃ l : List α, RR w sz v l.length (l.flatMap enc) ∧ (∀ x ∈ l, R x) ∧ l.length ≤ maxLen := by
  rcases open_slice ht h with h0 | ⟨a, len, cap, m, n, D, Pl, hcs, hb, hl, hm, hmm, hx, hi⟩
  · have h0 := h0.1
    simp only [List.cons.injEq, and_true] at h0
    subst h0
    exact ⟨[], ⟨by simp, .inl ⟨none, 0, rfl, rfl⟩⟩, fun x h => by simp at h, Nat.zero_le _⟩
  · simp only [List.cons.injEq, and_true] at hcs
    subst hcs
    obtain ⟨l, hll, hq⟩ := list_of (Q := fun i x => (∀ j, j < sz → w.cell? (a.add (i * sz + j)) = (enc x)[j]?) ∧ R x) len fun i hil => by
      obtain ⟨cs', hc, ht'⟩ := hi i (by rw [hmm]; split <;> omega)
      rw [hC] at hc
      obtain ⟨_, hcl, hat⟩ := World.cells?_some hc
      obtain ⟨x, rfl, hR⟩ := hk cs' _ _ hcl ht' (fun q hq => hB q (by
        rw [hx]
        simp only [DataW.weights, ht]
        exact List.mem_cons_of_mem _ (List.mem_append_left _ (weightsAll_in (d := D i) (List.mem_map.2 ⟨i, List.mem_range.2 hil, rfl⟩) hq))))
      refine ⟨x, fun j hj => ?_, hR⟩
      rw [← Go.Deep.add_add, hat j hj]
    subst hll
    have hlen := flat_length hen l
    refine ⟨l, ⟨hlen, ?_⟩, fun x hx => ?_, by omega⟩
    · by_cases h0 : l.length = 0
      · exact .inl ⟨some a, cap, by rw [h0], h0⟩
      · obtain ⟨b, off, spot⟩ := a
        have hx0 : l[0]? = some l[0] := List.getElem?_eq_getElem (by omega)
        have hc0 := (hq 0 _ hx0).1 0 hne
        rw [List.getElem?_eq_getElem (by rw [hen]; exact hne)] at hc0
        have hs : spot = none := by simpa [Addr.add] using World.cell?_spot hc0
        subst hs
        rw [Addr.add_lit] at hc0
        have hlt : b < w.heap.size := by
          unfold World.cell? at hc0
          cases hb : w.heap[b]? with
          | none => simp [hb] at hc0
          | some o => exact (Array.getElem?_eq_some_iff.1 hb).1
        refine .inr ⟨b, off, cap, rfl, hlt, hl, fun j hj => ?_⟩
        have hjd := Nat.div_add_mod j sz
        have hml := Nat.mod_lt j hne
        have hdl : j / sz < l.length := by
          rw [hlen] at hj
          exact Nat.div_lt_of_lt_mul (by rw [Nat.mul_comm]; exact hj)
        have hxk : l[j / sz]? = some l[j / sz] := List.getElem?_eq_getElem hdl
        have h1 := (hq _ _ hxk).1 (j % sz) hml
        rw [Addr.add_lit, Nat.mul_comm, hjd] at h1
        rw [h1]
        have h2 := flat_at hen l (j / sz) (j % sz) _ hxk hml
        rw [Nat.mul_comm, hjd, List.getElem?_eq_getElem hj] at h2
        exact h2.symm
    · obtain ⟨i, hil, rfl⟩ := List.getElem_of_mem hx
      exact (hq i _ (List.getElem?_eq_getElem hil)).2
end
variable {H : Type} {enc : TypeId × Value → H} {W : World} {base : Nat} {b0 : Nat} {spare : Nat → Bool} {held : Bool}
theorem fields_flatW {P : Program} {t : TypeId} {fs : Array Field} {fuel : Nat} {cs : List Value} {x : DataW H × List MemPlace} (hs : P.underlying t = some (.struct fs)) (h : DataW.trod enc P W base spare held fuel t cs = some x) :
    cs.length = P.cellsOf t ∧ ∀ (j : Nat) (f : Field) (o : Nat) (T : TypeId) (k : Nat), fs[j]? = some f → f.offset = o → f.type = T → P.cellsOf T = k → ∃ y n, DataW.trod enc P W base spare held n T ((cs.drop o).take k) = some y ∧ ∀ q ∈ y.1.weights P T, q ∈ x.1.weights P t := by
  obtain ⟨ys, n, _, rfl, hl, hlen, hf⟩ := DataW.trod_struct hs h
  refine ⟨hl, fun j f o T k hj ho hT hk => ?_⟩
  subst ho hT hk
  have h1 := hf j f hj
  have hjl : j < fs.size := (Array.getElem?_eq_some_iff.1 hj).1
  have hys : ys[j]? = some (ys[j]'(by omega)) := List.getElem?_eq_getElem (by omega)
  refine ⟨_, _, h1.trans hys, fun q hq => ?_⟩
  simp only [DataW.weights, hs]
  exact weights_in (j := j) (by simp [hj]) (by simp [hys]) hq
theorem blk_of_trod {n : Nat} {cs : List Value} {y : DataW H × List MemPlace} (hf : DataW.trod enc Try.prog W base spare held n 25 cs = some y) : ∃ l : List UInt8, cs = bvs l ∧ l.length = 512 := by
  obtain ⟨xs, m, _, hx, hlen, hxl, hi⟩ := DataW.trod_array Try.underlying25 hf
  rw [cells_blk] at hlen
  obtain ⟨l, hl⟩ := bytes_of_cells cs (fun i h => by
    have h1 := hi i (by omega)
    rw [cells_u8, Nat.mul_one, List.getElem?_eq_getElem (by omega)] at h1
    have h2 : (cs.drop i).take 1 = [cs[i]] := by rw [List.drop_eq_getElem_cons h]; rfl
    rw [h2] at h1
    obtain ⟨n, e, _, wn⟩ := DataW.trod_int Try.underlying5 h1
    simp only [List.cons.injEq, and_true] at e
    have hb : 0 ≤ n ∧ n ≤ 255 := by simp [Lit.wf, IntKind.min, IntKind.max, IntKind.signed, IntKind.bits] at wn; omega
    exact ⟨byteOf n, by rw [e, bv_byteOf, Int.emod_eq_of_lt hb.1 (by omega)]⟩)
  exact ⟨l, hl, by rw [hl, bvs_length] at hlen; exact hlen⟩
theorem list517 {α : Type} : ∀ {cs : List α}, cs.length = 517 → ∃ c0 c1 c2 c3 c4 r, cs = c0 :: c1 :: c2 :: c3 :: c4 :: r ∧ r.length = 512
  | c0 :: c1 :: c2 :: c3 :: c4 :: r, h => ⟨c0, c1, c2, c3, c4, r, rfl, by simp at h; omega⟩
end
open Go.RowKit
/-- A step: the kind, a root, a number, yes and no, a block. -/
structure SRE where
  k : Int
  t : Int
  s : List UInt8
  n : Int
  kv : Value
  l : List Bool
  bk : List UInt8
def sreC (x : SRE) : List Value := if x.bk.length = 512 then .int .u8 x.k :: .int .i64 x.t :: .string (str x.s) :: .int .i64 x.n :: x.kv :: bvs x.bk else List.replicate 517 undef
theorem sreC_length (x : SRE) : (sreC x).length = 517 := by
  unfold sreC
  split
  · simp [bvs]; omega
  · simp
structure SRE.Ok (w : World) (x : SRE) : Prop where
  r : RBo w x.kv x.l
  b : ∀ b off n c, x.kv = .slice (some ⟨b, off, none⟩) n c → x.l ≠ [] → b < w.heap.size
  ll : x.l.length ≤ reachBytes
  n : (Lit.int .i64 x.n).wf = true
  t : (Lit.int .i64 x.t).wf = true
  sl : x.s.length ≤ maxLen
  bk : x.bk.length = 512
structure SREs where
  v : Value
  l : List SRE
structure SREs.Ok (w : World) (x : SREs) : Prop where
  r : RR w 517 x.v x.l.length (x.l.flatMap sreC)
  e : ∀ y ∈ x.l, y.Ok w
  len : x.l.length ≤ maxLen
section
open Go.ChangeShapes Go.WideShapes Go.ChangeAt Go.Deep
variable {H : Type} {enc : TypeId × Value → H} {W : World} {base : Nat} {b0 : Nat} {held : Bool}
theorem open_sreQ {v : Value} {d : DataW H} {p : List MemPlace} {r : Reach} (hv : Value.okWide Try.prog W r b0 82 v) (h : DataW.Trod enc Try.prog W base (fun _ => true) held 82 v d p) (hB : ∀ q ∈ d.weights Try.prog 82, q ≤ reachBytes) : ∃ x : SREs, v = x.v ∧ x.Ok W := by
  obtain ⟨a0, len, cap, rfl⟩ := okWide_slice Try.underlying82 hv
  obtain ⟨m, hm⟩ := h
  obtain ⟨l, h1, h2, h3⟩ := open_rowsFW (enc := sreC) (R := fun x => x.Ok W) (sz := 517) Try.underlying82 (by kernel_rfl) (by decide) sreC_length (fun cs y n hl ht hq => by
    obtain ⟨c0, c1, c2, c3, c4, r, rfl, hr⟩ := list517 hl
    obtain ⟨_, hf⟩ := fields_flatW Try.underlying85 ht
    obtain ⟨_, _, t0, -⟩ := hf 0 _ 0 5 1 rfl rfl rfl (by kernel_rfl)
    obtain ⟨_, _, t1, -⟩ := hf 1 _ 1 23 2 rfl rfl rfl (by kernel_rfl)
    obtain ⟨_, _, t2, -⟩ := hf 2 _ 3 3 1 rfl rfl rfl (by kernel_rfl)
    obtain ⟨_, _, t3, q3⟩ := hf 3 _ 4 39 1 rfl rfl rfl (by kernel_rfl)
    obtain ⟨_, _, t4, -⟩ := hf 4 _ 5 25 512 rfl rfl rfl (by kernel_rfl)
    obtain ⟨m0, e0, _, w0⟩ := DataW.trod_int Try.underlying5 t0
    obtain ⟨_, hf1⟩ := fields_flatW Try.underlying23 t1
    obtain ⟨_, _, u0, -⟩ := hf1 0 _ 0 3 1 rfl rfl rfl (by kernel_rfl)
    obtain ⟨_, _, u1, -⟩ := hf1 1 _ 1 9 1 rfl rfl rfl (by kernel_rfl)
    obtain ⟨m1, e1, _, w1⟩ := DataW.trod_int Try.underlying3 u0
    obtain ⟨s2, e2, _, w2⟩ := DataW.trod_string Try.underlying9 u1
    obtain ⟨m3, e3, _, w3⟩ := DataW.trod_int Try.underlying3 t2
    simp only [List.drop_succ_cons, List.drop_zero, List.take_succ_cons, List.take_zero] at t3 t4
    obtain ⟨bl, rb, rlt, hbl⟩ := open_boolsF Try.underlying39 Try.underlying4 (by kernel_rfl) (by kernel_rfl) t3 (fun q h => hq q (q3 q h))
    rw [List.take_of_length_le (by omega)] at t4
    obtain ⟨bk, e5, h5⟩ := blk_of_trod t4
    simp at e0 e1 e2 e3
    subst e0 e1 e2 e3 e5
    exact ⟨⟨m0, m1, s2.data.toList, m3, c4, bl, bk⟩, by unfold sreC; rw [if_pos h5]; rfl, ⟨rb, rlt, hbl, w3, w1, w2, h5⟩⟩) (v := .slice a0 len cap) (by simpa [Value.cells] using hm) hB
  exact ⟨⟨_, l⟩, rfl, h1, h2, h3⟩
end
theorem RR.sre {w : World} {b off c k : Nat} {l : List SRE} {x : SRE} (h : RR w 517 (.slice (some ⟨b, off, none⟩) l.length c) l.length (l.flatMap sreC)) (hk : l[k]? = some x) (h5 : x.bk.length = 512) :
    w.cell? ⟨b, off + k * 517, none⟩ = some (.int .u8 x.k) ∧ w.cell? ⟨b, off + k * 517 + 1, none⟩ = some (.int .i64 x.t) ∧ w.cell? ⟨b, off + k * 517 + 2, none⟩ = some (.string (str x.s)) ∧ w.cell? ⟨b, off + k * 517 + 3, none⟩ = some (.int .i64 x.n) ∧ w.cell? ⟨b, off + k * 517 + 4, none⟩ = some x.kv ∧
      (Instr.loadAt 25 (.pointer (some ⟨b, off + k * 517 + 5, none⟩))).run Try.prog w = .ok (bval x.bk) w := by
  have e : sreC x = .int .u8 x.k :: .int .i64 x.t :: .string (str x.s) :: .int .i64 x.n :: x.kv :: bvs x.bk := by unfold sreC; rw [if_pos h5]
  have h0 := RR.cellAt (enc := sreC) h sreC_length hk (i := 0) (by rw [e]; rfl)
  have h1 := RR.cellAt (enc := sreC) h sreC_length hk (i := 1) (by rw [e]; rfl)
  have h2 := RR.cellAt (enc := sreC) h sreC_length hk (i := 2) (by rw [e]; rfl)
  have h3 := RR.cellAt (enc := sreC) h sreC_length hk (i := 3) (by rw [e]; rfl)
  have h4 := RR.cellAt (enc := sreC) h sreC_length hk (i := 4) (by rw [e]; rfl)
  rw [← Nat.add_assoc] at h0 h1 h2 h3 h4
  refine ⟨h0, h1, h2, h3, h4, loadAt_bk h5 fun j hj => ?_⟩
  have h6 := RR.cellAt (enc := sreC) h sreC_length hk (i := j + 5) (v := bv x.bk[j]) (by rw [e]; simp [bvs, hj])
  rw [show off + k * 517 + 5 + j = off + (k * 517 + (j + 5)) by omega, h6]
set_option maxHeartbeats 2000000 in
theorem large09_any {v : Value} (l : List SRE) (w : World) (h : RR w 517 v l.length (l.flatMap sreC)) (he : ∀ x ∈ l, x.Ok w) (hll : l.length ≤ maxLen) :
    Calls Try.prog 53 #[v] w fun e w' => ∃ B, e = .returned (.bool B) ∧ (B = false → l.length ≤ 60 ∧ ∀ x ∈ l, x.l.length ≤ 3000 ∧ x.s.length ≤ 3000) ∧ Below w.heap.size w w' := by
  obtain ⟨A, c, rfl⟩ := h.form
  unfold maxLen at hll
  have H := Lib.hid h
  have HE := Lib.hid he
  clear h he
  go_enter Try.func53, Try.ntmps53
  go_wp2
  go_loopg [3, 4] l.length (fun gg m s wr => ∃ (k N : Nat), k ≤ l.length ∧ l.length - k ≤ gg ∧ s = .int .i64 k ∧ m = .int .i64 N ∧ N ≤ 140737488361000 ∧ Hid (Ext w wr) ∧ Hid (N < 3000 → ∀ j y, j < k → l[j]? = some y → y.l.length ≤ N ∧ y.s.length ≤ 3000))
  case atStart => exact ⟨0, 0, Nat.zero_le _, by omega, rfl, rfl, by omega, Lib.hid (Ext.refl w), Lib.hid fun _ j x hj => absurd hj (Nat.not_lt_zero _)⟩
  case round =>
    obtain ⟨k, N, hk, hg, rfl, rfl, hN, HW, HA⟩ := hrel
    by_cases hlt : k < l.length
    · by_cases hN3 : N < 3000
      · obtain ⟨b, off, rfl, hb, hc, -⟩ := (H.out.ext HW.out).at (by omega)
        obtain ⟨x, hx⟩ : ∃ x, l[k]? = some x := ⟨_, List.getElem?_eq_getElem hlt⟩
        have hok := HE.out x (List.mem_of_getElem? hx)
        obtain ⟨A2, c2, hwv⟩ := hok.r.form
        obtain ⟨-, -, x2, -, x4, -⟩ := RR.sre (H.out.ext HW.out) hx hok.bk
        rw [hwv] at x4
        have hxl := hok.ll
        have hsl := hok.sl
        unfold reachBytes at hxl
        unfold maxLen at hsl
        have HX := Lib.hid hx
        have hN3' : (N : Int) < 3000 := by omega
        have hsz := str_size x.s
        clear hx hok hwv
        by_cases hs3 : 3000 < x.s.length
        · have hs3' : (3000 : Int) < (x.s.length : Int) := by omega
          go_wp2_with fail
          go_ret
          exact ⟨true, rfl, (by simp), HW.out⟩
        · have hs3' : (x.s.length : Int) ≤ 3000 := by omega
          go_wp2_with fail
          have e0 : ∀ ψ (e : ExtP wr.heap.size wr ψ), e.val.cell? ⟨b, off + k * 517 + 4, none⟩ = some (.slice A2 x.l.length c2) := fun ψ e => e.cell x4 hb
          have e1 : ∀ ψ (e : ExtP wr.heap.size wr ψ), e.val.cell? ⟨b, off + k * 517 + 2, none⟩ = some (.string (str x.s)) := fun ψ e => e.cell x2 hb
          refine wp_region_pieces 18  [(true, [0, 1, 2, 3, 4, 5, 6, 7, 8, 9, 10, 11, 12, 13, 14, 15, 16, 17])] (by kernel_rfl) (by kernel_rfl) ?_; simp only [pick, List.map_cons, List.map_nil, List.flatMap_cons, List.flatMap_nil, Option.toList_some, List.singleton_append, List.drop_succ_cons, List.drop_zero, List.getElem?_cons_zero, List.getElem?_cons_succ]
          refine ⟨by kernel_rfl, ?_⟩; apply Exists.intro; refine ⟨fun ψ hψ hne => (by (repeat (go_big_quiet_step (( fail )))); exact wpQuiet_nil rfl), ?_⟩
          intro w3 hx3
          have HW3 := Lib.hid (Ext.trans HW.out hx3)
          clear hx3 e0 e1 x2 x4
          go_wp2_with fail
          go_roundg (l.length - (k + 1))
          case measure => omega
          case rel =>
            refine ⟨k + 1, N + 1 + x.l.length + x.s.length / 16, by omega, by omega, by go_num, by go_num, by omega, HW3, Lib.hid fun hN4 j y hj hy => ?_⟩
            by_cases e : j = k
            · subst e
              rw [HX.out] at hy
              cases hy
              omega
            · have := HA.out hN3 j y (by omega) hy
              omega
      · have hN3' : (3000 : Int) ≤ (N : Int) := by omega
        go_wp2
        go_ret
        exact ⟨_, rfl, (by simp), HW.out⟩
    · obtain rfl : k = l.length := by omega
      have E : Hid (N < 3000 → ∀ x ∈ l, x.l.length ≤ 3000 ∧ x.s.length ≤ 3000) := Lib.hid fun hN x hx => by
        obtain ⟨j, hj, rfl⟩ := List.getElem_of_mem hx
        have := HA.out hN j _ hj (List.getElem?_eq_getElem hj)
        omega
      clear HA
      by_cases hN3 : N < 3000
      · have hN3' : (N : Int) < 3000 := by omega
        by_cases h8 : 60 < l.length
        · have h8' : (60 : Int) < (l.length : Int) := by omega
          go_wp2
          go_ret
          exact ⟨_, rfl, (by simp), HW.out⟩
        · have h8' : (l.length : Int) ≤ 60 := by omega
          go_wp2
          go_ret
          exact ⟨_, rfl, fun _ => ⟨by omega, E.out hN3⟩, HW.out⟩
      · have hN3' : (3000 : Int) ≤ (N : Int) := by omega
        go_wp2
        go_ret
        exact ⟨_, rfl, (by simp), HW.out⟩
end Go.Proofs.Ytobcfocbglkicaa
