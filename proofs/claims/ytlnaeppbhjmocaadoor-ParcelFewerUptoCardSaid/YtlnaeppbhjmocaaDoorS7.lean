/- A loop over an iterator that keeps its state in cells of its own (blocks M): its contract, and the law for the caller. -/
import Derived.Test.YtlnaeppbhjmocaaDoorS6
import Derived.RegionTactic
import Derived.ChangeAlike
import Derived.Lib.SlBytesConst
import Derived.Laws.MakeOwn
import Derived.Lib.IndexLaws
import Derived.RangeFuncNested
import Derived.RangeFuncBound
set_option linter.unusedSectionVars false
set_option linter.unnecessarySimpa false
set_option linter.unusedSimpArgs false
set_option linter.unusedVariables false
set_option linter.unusedSimpArgs false
set_option linter.unusedVariables false
namespace Go.Proofs.YtlnaeppbhjmocaaDoor
open Go.RowKit Go.Proofs

set_option maxRecDepth 100000 in
theorem catch_idle (p1 p2 : Addr) (w : World) :
    CallsD Tryd.prog 34 #[.pointer (some p1), .pointer (some p2)] .returning w fun e u' w' => e = .returned (.tuple #[]) ∧ u' = .returning ∧ w' = w := by
  refine callsD_of_wpS Tryd.func34 rfl fun c₀ cs hu => ?_
  apply wpS_seq
  apply wpS_region
  simp [wpOpsS, go_sem, recoverD, hu, Tryd.ntmps34, Exit.thenS]
  apply wpS_seq
  apply wpS_region
  simp [wpOpsS, go_sem, Exit.thenS]
  refine wpS_cond (t := false) (by simp [Act.eval, Array.replicate]) ?_
  simp only [Bool.false_eq_true, if_false]
  refine wpS_of_wp (wp_skip ?_)
  cases c₀
  simp_all [bodyPostS, results, Tryd.results34, Exit.thenS]

theorem run_assertF (v : Value) (xT : TypeId) (w : World) : (Instr.typeAssert (.iface 63 v) xT 63 true).run Tryd.prog w = .ok (.tuple #[v, .bool true]) w := by
  simp [Instr.typeAssert, run_underlying Tryd.underlying63, go_sem, Result.andThen]
theorem set_stepF {w0 w : World} {B g : Nat} {cs : Array Value} {t : TypeId} {fz : Nat × Nat} (hb : Below B w0 w) (hB : B ≤ g) (H : w.heap[g]? = some (.cells cs t fz)) (j : Nat) (v : Value) :
    ∃ w1, w.setCell ⟨g, j, none⟩ v = w1 ∧ w1.heap[g]? = some (.cells (cs.setIfInBounds j v) t fz) ∧ Below B w0 w1 ∧ ∀ k o, w.heap[k]? = some o → k ≠ g → w1.heap[k]? = some o :=
  ⟨_, rfl, by simp [World.setCell, Array.getElem?_modify, H], hb.setCell hB v, fun k o hk hne => (Below.heap_setCell w ⟨g, j, none⟩ v k hne).trans hk⟩

set_option maxHeartbeats 3200000 in
set_option maxRecDepth 100000 in
theorem catch_bad (x : Int) (g g1 : Nat) (hg1 : g < g1) (older : List PanicEntry) (w : World)
    (v0 c1 : Value) (H0 : w.heap[g]? = some (.cells #[v0] 26 (0, 0))) (H1 : w.heap[g1]? = some (.cells #[c1] 29 (0, 0))) :
    CallsD Tryd.prog 34 #[.pointer (some ⟨g, 0, none⟩), .pointer (some ⟨g1, 0, none⟩)] (.panicking ({ v := .iface 63 (.agg #[.int .i64 x]), recovered := false } :: older)) w fun e u' w' =>
      e = .returned (.tuple #[]) ∧ u' = .panicking ({ v := .iface 63 (.agg #[.int .i64 x]), recovered := true } :: older) ∧ Below g w w' ∧
      w'.heap[g]? = some (.cells #[.slice none 0 0] 26 (0, 0)) ∧ w'.heap[g1]? = some (.cells #[.int .i64 x] 29 (0, 0)) := by
  refine callsD_of_wpS Tryd.func34 rfl fun c₀ cs hu => ?_
  apply wpS_seq
  apply wpS_region
  simp [wpOpsS, go_sem, recoverD, hu, Tryd.ntmps34, Exit.thenS]
  obtain ⟨Q0, hQ0⟩ : ∃ Q0 : Exit → Act → World → Prop, Q0 = (fun e a' w' => e = .normal ∧ a'.defers = [] ∧ Below g w w' ∧
      w'.heap[g]? = some (.cells #[.slice none 0 0] 26 (0, 0)) ∧ w'.heap[g1]? = some (.cells #[.int .i64 x] 29 (0, 0))) := ⟨_, rfl⟩
  replace hQ0 := Lib.hid hQ0
  refine wpS_of_wp (wp_mono (Q := Q0) ?_ ?_)
  · have ht : (#[.pointer (some ⟨g, 0, none⟩), .pointer (some ⟨g1, 0, none⟩)] ++ (((Array.replicate 16 undef).setIfInBounds 3 (.iface 63 (.agg #[.int .i64 x]))).setIfInBounds 0 (.iface 63 (.agg #[.int .i64 x]))) : Array Value) = #[.pointer (some ⟨g, 0, none⟩), .pointer (some ⟨g1, 0, none⟩), .iface 63 (.agg #[.int .i64 x]), undef, undef, .iface 63 (.agg #[.int .i64 x]), undef, undef, undef, undef, undef, undef, undef, undef, undef, undef, undef, undef] := by simp [Array.replicate, List.replicate]
    rw [ht]
    clear ht
    have hta := run_assertF
    have hlt0 := (Array.getElem?_eq_some_iff.1 H0).1
    have hlt1 := (Array.getElem?_eq_some_iff.1 H1).1
    obtain ⟨gf, hgf⟩ : ∃ gf, w.heap.size = gf := ⟨_, rfl⟩
    obtain ⟨wf, hwf⟩ : ∃ wf, w.alloc (.cells #[.int .i64 x] 63) = wf := ⟨_, rfl⟩
    have b0 : Below g w wf := by rw [← hwf]; exact (Below.refl g w).alloc (by omega) _
    have G0 : wf.heap[g]? = some (.cells #[v0] 26 (0, 0)) := by rw [← hwf, heap_alloc_old w _ hlt0]; exact H0
    have P0 : wf.heap[g1]? = some (.cells #[c1] 29 (0, 0)) := by rw [← hwf, heap_alloc_old w _ hlt1]; exact H1
    have F0 : wf.heap[gf]? = some (.cells #[.int .i64 x] 63 (0, 0)) := by rw [← hwf, ← hgf]; exact heap_alloc_new w _
    obtain ⟨w1, e1, G1, b1, o1⟩ := set_stepF b0 (Nat.le_refl g) G0 0 (.slice none 0 0)
    have n1 : g1 ≠ g := by omega
    have P1 := o1 _ _ P0 n1
    obtain ⟨w8, e8, G8, b8, o8⟩ := set_stepF b1 (Nat.le_of_lt hg1) P1 0 (.int .i64 x)
    have R0 : w8.heap[g]? = some (.cells #[.slice none 0 0] 26 (0, 0)) := by
      have := o8 g _ G1 (by omega)
      simpa only [List.setIfInBounds_toArray, List.set_cons_zero, List.set_cons_succ] using this
    have R1 : w8.heap[g1]? = some (.cells #[.int .i64 x] 29 (0, 0)) := G8
    have f0 := blk1 F0
    have zf := unfroz F0 0
    have jf := idemC F0 f0
    have f1 := blk1 (o1 _ _ F0 (by omega))
    have c0 := blk1 G0
    have z0 := unfroz G0 0
    have y2 := unfroz P1 0
    have q0 := blk1 P1
    have F := Lib.hid (And.intro b8 (And.intro R0 R1))
    clear F0 b0 b1 b8 o1 o8 G0 G1 G8 P0 P1 H0 H1 n1 hlt0 hlt1 R0 R1
    go_wp2
    go_region
    all_goals (rw [hQ0.out]; exact ⟨rfl, rfl, F.out.1.drew, F.out.2⟩)
  · rw [hQ0.out]
    rintro e a' w' ⟨rfl, hd, hb, h0, h1⟩
    exact ⟨hd, _, rfl, .tuple #[], by simp [results, Tryd.results34], rfl, rfl, hb, h0, h1⟩

/-- what Read ends with -/
def ReadOut (w : World) (P : List Lf × Int) (e : Ending) (w' : World) : Prop := ∃ v, e = .returned (.tuple #[v, .int .i64 P.2]) ∧ Fr w w' ∧ TreeAt w' w.heap.size v P.1
set_option maxRecDepth 100000 in
theorem door_bad (x : Int) (T : Array Value) (g g1 : Nat) (hg1 : g < g1) (w0 w : World) (hw0 : Ok w0) (f : Fr w0 w) (hB : w0.heap.size ≤ g)
    (hT2 : T[2]? = some (.pointer (some ⟨g, 0, none⟩))) (hT3 : T[3]? = some (.pointer (some ⟨g1, 0, none⟩)))
    (v0 c1 : Value) (H0 : w.heap[g]? = some (.cells #[v0] 26 (0, 0))) (H1 : w.heap[g1]? = some (.cells #[c1] 29 (0, 0))) :
    Leaves Tryd.prog Tryd.f15 T (fun e w' => ReadOut w0 ([], x) e w') [{ target := .fn (.func 34) #[.pointer (some ⟨g, 0, none⟩), .pointer (some ⟨g1, 0, none⟩)], args := #[] }] (.panicking [{ v := .iface 63 (.agg #[.int .i64 x]), recovered := false }]) w := by
  refine leaves_cons (f := 34) (args := #[.pointer (some ⟨g, 0, none⟩), .pointer (some ⟨g1, 0, none⟩)]) (by simp) (by simp [go_sem]) ?_
  refine (catch_bad x g g1 hg1 [] w v0 c1 H0 H1).mono ?_
  rintro e u' w'' ⟨rfl, rfl, hb, h0, h1⟩
  have q : Fr w0 w'' := Fr.of hw0 (f.below.trans (hb.mono hB))
  have c0 := blk1 h0
  have d0 := blk1 h1
  simp [Leaves, settle, results, Tryd.results15, go_sem, hT2, hT3, c0, d0]
  exact ⟨_, rfl, q, TreeAt.nil _ _⟩
set_option maxRecDepth 100000 in
theorem door_ok (T : Array Value) (g g1 : Nat) (w0 w : World) (v : Value) (x : Int) (lfs : List Lf) (f : Fr w0 w) (hv : TreeAt w w0.heap.size v lfs)
    (hT2 : T[2]? = some (.pointer (some ⟨g, 0, none⟩))) (hT3 : T[3]? = some (.pointer (some ⟨g1, 0, none⟩)))
    (H0 : w.heap[g]? = some (.cells #[v] 26 (0, 0))) (H1 : w.heap[g1]? = some (.cells #[.int .i64 x] 29 (0, 0))) :
    Leaves Tryd.prog Tryd.f15 T (fun e w' => ReadOut w0 (lfs, x) e w') [{ target := .fn (.func 34) #[.pointer (some ⟨g, 0, none⟩), .pointer (some ⟨g1, 0, none⟩)], args := #[] }] .returning w := by
  refine leaves_cons (f := 34) (args := #[.pointer (some ⟨g, 0, none⟩), .pointer (some ⟨g1, 0, none⟩)]) (by simp) (by simp [go_sem]) ?_
  refine (catch_idle _ _ _).mono ?_
  rintro e u' w'' ⟨rfl, rfl, rfl⟩
  have c0 := blk1 H0
  have d0 := blk1 H1
  simp [Leaves, settle, results, Tryd.results15, go_sem, hT2, hT3, c0, d0]
  exact ⟨_, rfl, f, hv⟩
end Go.Proofs.YtlnaeppbhjmocaaDoor
set_option linter.unusedSimpArgs false
set_option linter.unusedVariables false
namespace Go.Proofs.YtlnaeppbhjmocaaDoor
open Go.RowKit Go.Proofs Go.Proofs.YtlnaeppbhjmocaaDoorW.PrintWords Go.Proofs.YtlnaeppbhjmocaaDoorW.PrintMore

theorem bytesIn_of {w : World} {A : Option Addr} {L : List Int} (h : BytesAt w A L) : Lib.BytesIn w A L.length L := fun h0 => by
  rcases h with h | ⟨g, o, rfl, _, h⟩
  · rw [h] at h0; simp at h0
  · exact ⟨g, o, rfl, fun i hi => by rw [show L.getD i 0 = L[i] by simp [List.getD, hi]]; exact h i _ (List.getElem?_eq_getElem hi)⟩
theorem u8_eq (k : Nat) (hk : k ≤ 255) (a : Int) (h : 0 ≤ a ∧ a ≤ 255) : (UInt8.ofNat k == UInt8.ofNat a.toNat) = (a == (k : Int)) := by
  by_cases e : a = (k : Int)
  · subst e; simp
  · rw [show (a == (k : Int)) = false by simpa using e]
    rw [beq_eq_false_iff_ne]
    intro h2
    have := congrArg UInt8.toNat h2
    simp only [UInt8.toNat_ofNat'] at this
    omega
theorem head_prefix {L : List Int} (hb : bytesOk L) : Lib.hasPrefix (Lib.bytesOf L) (Lib.bytesOf [80, 82, 67, 76, 1]) = headB L := by
  by_cases h5 : 5 ≤ L.length
  · rw [headB_iff h5]
    match L, h5, hb with
    | a :: b :: c :: d :: e :: r, _, hb =>
      have ha := hb a (by simp)
      have hb' := hb b (by simp)
      have hc := hb c (by simp)
      have hd := hb d (by simp)
      have he := hb e (by simp)
      have e1 := u8_eq 80 (by omega) a ha
      have e2 := u8_eq 82 (by omega) b hb'
      have e3 := u8_eq 67 (by omega) c hc
      have e4 := u8_eq 76 (by omega) d hd
      have e5 := u8_eq 1 (by omega) e he
      simp only [Lib.hasPrefix, Lib.bytesOf, List.map_cons, List.map_nil, List.isPrefixOf]
      have t80 : (80 : Int).toNat = 80 := rfl
      have t82 : (82 : Int).toNat = 82 := rfl
      have t67 : (67 : Int).toNat = 67 := rfl
      have t76 : (76 : Int).toNat = 76 := rfl
      have t1 : (1 : Int).toNat = 1 := rfl
      rw [t80, t82, t67, t76, t1, e1, e2, e3, e4, e5]
      simp [Bool.and_assoc]
  · rw [headB_len (by omega)]
    match L, h5 with
    | [], _ => rfl
    | [a], _ => simp [Lib.hasPrefix, Lib.bytesOf, List.isPrefixOf]
    | [a, b], _ => simp [Lib.hasPrefix, Lib.bytesOf, List.isPrefixOf]
    | [a, b, c], _ => simp [Lib.hasPrefix, Lib.bytesOf, List.isPrefixOf]
    | [a, b, c, d], _ => simp [Lib.hasPrefix, Lib.bytesOf, List.isPrefixOf]
    | a :: b :: c :: d :: e :: r, h => exact absurd (by simp) h
theorem head_row {w : World} (h : Ok w) : ∃ w1 g, w.heap.size = g ∧ (convert 22 22 (.slice (some ⟨g, 0, none⟩) 5 5)).run Tryd.prog (w.alloc (.cells #[.int .u8 80, .int .u8 82, .int .u8 67, .int .u8 76, .int .u8 1] 5)) = .ok (.slice (some ⟨g, 0, none⟩) 5 5) w1 ∧ Fr w w1 ∧ g < w1.heap.size ∧ w1.heap[g]? = some (.cells #[.int .u8 80, .int .u8 82, .int .u8 67, .int .u8 76, .int .u8 1] 5 (5, 6)) :=
  ⟨_, _, rfl, Lib.run_convert_bytes_const (P := Tryd.prog) w 22 5 #[.int .u8 80, .int .u8 82, .int .u8 67, .int .u8 76, .int .u8 1] 5 5 Tryd.underlying22 Tryd.underlying5, (Fr.refl h).alloc _, by simp, heap_alloc_new w _⟩
theorem fr_of_grown {w w' : World} (h : Ok w) (q : w.grownBy w' none) : Fr w w' := Fr.of h ⟨q.os, q.tape, q.output, q.size, fun k hk => q.block k hk (by simp)⟩

set_option maxHeartbeats 12800000 in
set_option maxRecDepth 100000 in
theorem pread_no (A : Option Addr) (c : Nat) (L : List Int) (w : World) (hw : Ok w) (hA : BytesAt w A L) (hb : bytesOk L) (hc : L.length ≤ c) (hL : L.length ≤ 1073741824) (hh : headB L = false) :
    Calls Tryd.prog 15 #[.slice A L.length c] w fun e w' => ReadOut w ([], 190) e w' := by
  have hmf : ∀ (fn : Fn) (first cap : Array Value) (w : World), (Instr.makeFunc fn first cap).run Tryd.prog w = .ok (.func fn first cap) w := fun _ _ _ _ => rfl
  obtain ⟨w2, g2, hg2, hw2, f2, hz2, H2⟩ := boxedN hw #[.slice none 0 0] 26
  obtain ⟨w3, g3, hg3, hw3, f3, hz3, HE⟩ := boxedN f2.ok #[.int .i64 0] 29
  obtain ⟨w4, g4, hg4, hkc, f4, hz4, H4⟩ := head_row f3.ok
  have s2 := f2.size
  have s3 := f3.size
  have h23 : g2 ≠ g3 := by omega
  have f := f2.trans (f3.trans f4)
  replace H2 := f4.heap (f3.heap H2)
  replace HE := f4.heap HE
  have hB2 : w.heap.size ≤ g2 := by omega
  have hB3 : w.heap.size ≤ g3 := by omega
  have hp := Tryd.bytes_HasPrefix_all A (some ⟨g4, 0, none⟩) L.length c 5 5 L [80, 82, 67, 76, 1] w4 rfl rfl hc (bytesIn_of (hA.fr f)) (fun _ => ⟨g4, 0, rfl, fun i hi => by
    rw [Nat.zero_add]
    obtain ⟨k0, k1, k2, k3, k4⟩ := blk5 H4
    rcases (by omega : i = 0 ∨ i = 1 ∨ i = 2 ∨ i = 3 ∨ i = 4) with rfl | rfl | rfl | rfl | rfl
    · exact k0
    · exact k1
    · exact k2
    · exact k3
    · exact k4⟩)
  rw [head_prefix hb, hh] at hp
  have HPf := Lib.hid hp
  have i2 := blk1 H2
  have z2 := unfroz H2 0
  have j2 := idemC H2 i2
  have i3 := blk1 HE
  have z3 := unfroz HE 0
  obtain ⟨w6, hw6, H6, q6⟩ := set_grown HE 0 (.int .i64 190)
  simp only [List.setIfInBounds_toArray, List.set_cons_zero, List.set_cons_succ] at H6
  have HF := Lib.hid (And.intro (row_own f hw q6 hB3) (And.intro (grown_blk' q6 H2 (by simpa using h23)) H6))
  clear hA hb hc H4 f2 f3 f4 s2 s3 hz2 hz3 hz4 hp hh f q6 H6 H2 HE
  go_enter_defers Tryd.func15, Tryd.ntmps15
  go_wp2_with (go_at_call 35; refine HPf.out.mono ?_; rintro e wx ⟨rfl, rfl⟩)
  have hT : ∀ T ds, T[2]? = some (.pointer (some ⟨g2, 0, none⟩)) → T[3]? = some (.pointer (some ⟨g3, 0, none⟩)) → ds = [{ target := .fn (.func 34) #[.pointer (some ⟨g2, 0, none⟩), .pointer (some ⟨g3, 0, none⟩)], args := #[] }] → Leaves Tryd.prog Tryd.f15 T (fun e w' => ReadOut w ([], 190) e w') ds .returning w6 := fun T ds h1 h2 hds => by
    subst hds
    exact door_ok T g2 g3 w w6 (.slice none 0 0) 190 [] HF.out.1 (TreeAt.nil _ _) h1 h2 HF.out.2.1 HF.out.2.2
  exact hT _ _ rfl rfl rfl

theorem readX_tail {crc : List Int → Int} {L : List Int} (hh : headB L = true) : readX crc L = endX crc L (treeR L (numX L 2 0 4095 (.ok 5)) (numX L 8 0 18446744073709551615 (numX L 2 0 4095 (.ok 5)).2)).1 (treeR L (numX L 2 0 4095 (.ok 5)) (numX L 8 0 18446744073709551615 (numX L 2 0 4095 (.ok 5)).2)).2 := by
  unfold readX; rw [if_pos hh]
theorem endX_err {crc : List Int → Int} {L : List Int} {t : List Lf} {o : Er} {e : Int} (h : (takeX L 4 (takeX L 1 o).2).2 = .error e) : endX crc L t o = ([], e) := by
  rw [endX_E, h]; rfl
set_option maxHeartbeats 12800000 in
set_option maxRecDepth 100000 in
theorem pread_yes (gb ob c : Nat) (L : List Int) (w : World) (hw : Ok w) (hA : BytesAt w (some ⟨gb, ob, none⟩) L) (hgl : gb < w.heap.size) (hb : bytesOk L) (hc : L.length ≤ c) (hL : L.length ≤ 1073741824) (hg : 4 ≤ w.heap.size) (hh : headB L = true) :
    Calls Tryd.prog 15 #[.slice (some ⟨gb, ob, none⟩) L.length c] w fun e w' => ReadOut w (readX crcI L) e w' := by
  have hmf : ∀ (fn : Fn) (first cap : Array Value) (w : World), (Instr.makeFunc fn first cap).run Tryd.prog w = .ok (.func fn first cap) w := fun _ _ _ _ => rfl
  have h5 : 5 ≤ L.length := by
    by_cases h : L.length < 5
    · rw [headB_len h] at hh; cases hh
    · omega
  have htl := readX_tail (crc := crcI) hh
  obtain ⟨TR, hTR⟩ : ∃ p, treeR L (numX L 2 0 4095 (.ok 5)) (numX L 8 0 18446744073709551615 (numX L 2 0 4095 (.ok 5)).2) = p := ⟨_, rfl⟩
  rw [hTR] at htl
  obtain ⟨PP, hPP⟩ : ∃ P, readX crcI L = P := ⟨_, rfl⟩
  rw [hPP] at htl ⊢
  obtain ⟨w2, g2, hg2, hw2, f2, hz2, H2⟩ := boxedN hw #[.slice none 0 0] 26
  obtain ⟨w3, g3, hg3, hw3, f3, hz3, HE⟩ := boxedN f2.ok #[.int .i64 0] 29
  obtain ⟨w4, g4, hg4, hkc, f4, hz4, H4⟩ := head_row f3.ok
  obtain ⟨w5, g5, hg5, hw5, f5, hz5, H5⟩ := boxedN f4.ok #[.slice (some ⟨gb, ob, none⟩) L.length c, .int .i64 5] 67
  have s2 := f2.size
  have s3 := f3.size
  have s4 := f4.size
  have h23 : g2 < g3 := by omega
  have n25 : some g2 ≠ some g5 := by simp; omega
  have nE5 : some g3 ≠ some g5 := by simp; omega
  have n2E : some g2 ≠ some g3 := by simp; omega
  have f := f2.trans (f3.trans (f4.trans f5))
  have sf5 := f.size
  replace H2 := f5.heap (f4.heap (f3.heap H2))
  replace HE := f5.heap (f4.heap HE)
  have HR : PB w5 g5 (some ⟨gb, ob, none⟩) c L 5 := H5
  have hB2 : w.heap.size ≤ g2 := by omega
  have hB3 : w.heap.size ≤ g3 := by omega
  have hB5 : w.heap.size ≤ g5 := by omega
  have hgb : gb ≠ g5 := by omega
  have hg5n : 4 ≤ g5 := by omega
  have hp := Tryd.bytes_HasPrefix_all (some ⟨gb, ob, none⟩) (some ⟨g4, 0, none⟩) L.length c 5 5 L [80, 82, 67, 76, 1] w4 rfl rfl hc (bytesIn_of (hA.fr (f2.trans (f3.trans f4)))) (fun _ => ⟨g4, 0, rfl, fun i hi => by
    rw [Nat.zero_add]
    obtain ⟨k0, k1, k2, k3, k4⟩ := blk5 H4
    rcases (by omega : i = 0 ∨ i = 1 ∨ i = 2 ∨ i = 3 ∨ i = 4) with rfl | rfl | rfl | rfl | rfl
    · exact k0
    · exact k1
    · exact k2
    · exact k3
    · exact k4⟩)
  rw [head_prefix hb, hh] at hp
  have HPf := Lib.hid hp
  have HY := Lib.hid htl
  have HBy := Lib.hid hb
  have hTr := Lib.hid (fun (X : Int → Prop) hx => ptree_any X g5 gb ob c L 5 w5 f.ok HR h5 (hA.fr f) hgb hb hc hL hg5n hx)
  rw [hTR] at hTr
  have hTk := Lib.hid (fun (X : Int → Prop) (W : World) (fW : Fr w W) i HR hi k h1 hx => take_or X g5 gb ob c L i k W fW.ok HR hi (hA.fr fW) hgb h1 hc hL hg5n hx)
  have hAf := Lib.hid (fun (W : World) (fW : Fr w W) => hA.fr fW)
  have hDie : Hid (∀ T W x v0 c1, PP = ([], x) → Fr w W → T[2]? = some (.pointer (some ⟨g2, 0, none⟩)) → T[3]? = some (.pointer (some ⟨g3, 0, none⟩)) → W.heap[g2]? = some (.cells #[v0] 26 (0, 0)) → W.heap[g3]? = some (.cells #[c1] 29 (0, 0)) →
      Leaves Tryd.prog Tryd.f15 T (fun e w' => ReadOut w PP e w') [{ target := .fn (.func 34) #[.pointer (some ⟨g2, 0, none⟩), .pointer (some ⟨g3, 0, none⟩)], args := #[] }] (.panicking [{ v := .iface 63 (.agg #[.int .i64 x]), recovered := false }]) W) :=
    Lib.hid (fun T W x v0 c1 hP f h2 h3 h4 h5 => by subst hP; exact door_bad x T g2 g3 h23 w W hw f hB2 h2 h3 v0 c1 h4 h5)
  have hEnd : Hid (∀ T W v x lfs ds, PP = (lfs, x) → Fr w W → TreeAt W w.heap.size v lfs → T[2]? = some (.pointer (some ⟨g2, 0, none⟩)) → T[3]? = some (.pointer (some ⟨g3, 0, none⟩)) → W.heap[g2]? = some (.cells #[v] 26 (0, 0)) → W.heap[g3]? = some (.cells #[.int .i64 x] 29 (0, 0)) → ds = [{ target := .fn (.func 34) #[.pointer (some ⟨g2, 0, none⟩), .pointer (some ⟨g3, 0, none⟩)], args := #[] }] →
      Leaves Tryd.prog Tryd.f15 T (fun e w' => ReadOut w PP e w') ds .returning W) :=
    Lib.hid (fun T W v x lfs ds hP f hv h2 h3 h4 h5 hds => by subst hP hds; exact door_ok T g2 g3 w W v x lfs f hv h2 h3 h4 h5)
  have hX1 : Hid (∀ e, (takeX L 1 TR.2).2 = .error e → PP = ([], e)) := Lib.hid (fun e h => by rw [htl]; exact endX_err (by rw [h]; rfl))
  have i2 := blk1 H2
  have z2 := unfroz H2 0
  clear hA hb H4 H5 f2 f3 f4 f5 s2 s3 s4 hz2 hz3 hz4 hz5 hp hh htl hTR hPP
  go_enter_defers Tryd.func15, Tryd.ntmps15
  go_upto_if 32 with (first
    | (go_at_call 35; refine HPf.out.mono ?_; rintro e wx ⟨rfl, rfl⟩)
    | (go_at_call 36; go_loud (have ct := hTr.out (fun e => PP = ([], e)) hX1.out); refine ct.mono ?_; clear ct; rintro e wt ⟨q, ⟨cc, hcc, he⟩ | ⟨v, j, rfl, hT, hz, HRa, hj⟩⟩ <;> replace f := row_own f hw q hB5 <;> replace H2 := grown_blk' q H2 n25 <;> replace HE := grown_blk' q HE nE5 <;> first
      | (unfold gaveUp at he; subst he)
      | (clear i2 z2 q HR; go_loud (obtain ⟨a, tv, d, rfl, htv, HO, HLO⟩ := hT); have HR := HRa; clear HRa; have i2 := blk1 H2; have z2 := unfroz H2 0; go_loud (obtain ⟨wu, hwu, HM, q⟩ := set_grown H2 0 (.slice a tv.length d); simp only [List.setIfInBounds_toArray, List.set_cons_zero] at HM; have HO2 := Lib.hid (own_grown HO q H2 (by decide)); have HLO2 := Lib.hid (HLO.cells q H2 (by decide)); replace f := row_own f hw q hB2; replace HE := grown_blk' q HE n2E.symm; replace HR := PB.grown HR q n25.symm; clear q H2 HO HLO; have H2 := HM; clear HM); have HTV := Lib.hid htv; have HZ := Lib.hid hz; clear htv hz; (obtain ⟨r0, r1⟩ := blk2 HR)))
    | (go_at_call 37; go_loud (have ct := hTk.out (fun e => PP = ([], e)) _ f j HR hj 4 (by omega) (fun e h => by rw [HY.out]; exact endX_err (by rw [HZ.out]; exact h))); refine ct.mono ?_; clear ct; rintro e wt2 ⟨q, ⟨cc, hcc, he⟩ | ⟨sb, o9, d9, hE4, rfl, hd9, hs4, hB9, HRa, hj4⟩⟩ <;> replace f := row_own f hw q hB5 <;> replace H2 := grown_blk' q H2 n25 <;> replace HE := grown_blk' q HE nE5 <;> first
      | (unfold gaveUp at he; subst he)
      | (clear hwu i2 z2 r0 r1; go_loud (replace HO2 := Lib.hid (own_grown HO2.out q HR (by decide)); replace HLO2 := Lib.hid (HLO2.out.cells q HR (by decide))); clear q HR; have HR := HRa; clear HRa; have HE4 := Lib.hid hE4; have hsb := takeX_ok HBy.out 4 (.ok j); rw [hE4] at hsb; have HSB := Lib.hid hsb.1; have hs4' : sb.length ≤ 4 := (by omega); clear hE4 hs4 hsb; have s0 : (0 : Int) ≤ (j : Int) := (by omega); have s1 : (j : Int) ≤ (c : Int) := (by omega); (obtain ⟨cr, hcr⟩ : ∃ x, crcI (L.take j) = x := ⟨_, rfl⟩); have hcrr := crcI_rg (HBy.out.take j); rw [hcr] at hcrr; have HCR := Lib.hid hcr; have hlen : (L.take j).length = j := (by rw [List.length_take]; omega); go_loud (have hsm := sum_any (some ⟨gb, ob, none⟩) c (L.take j) (HBy.out.take j) (by omega) (by omega) wt2 f.ok (by have := (hAf.out _ f).sub 0 j; simpa using this)); rw [hlen, hcr] at hsm; have HSM := Lib.hid hsm; go_loud (have hpt := put_any w.heap.size none 0 [] cr 4 hcrr.1 (by omega) (by omega) wt2 f.ok (OwnB.nil _ _) f.size (by simp)); have HPT := Lib.hid hpt; clear hsm hpt hcr hlen; have wcr : IntKind.u64.wrap cr = cr := u64_in ⟨by omega, by omega⟩))
    | (go_at_call 40; refine HSM.out.mono ?_; rintro e wx ⟨rfl, rfl⟩)
    | (go_at_call 39; go_loud (refine HPT.out.mono ?_); rintro e wp ⟨pa, pd, rfl, hOp, q, _⟩; have q2 := fr_of_grown f.ok q; rw [List.nil_append] at hOp; have hcv1 := conv_str wp (hB9.fr q2) (by omega) d9; have hcv2 := conv_str wp hOp.at.1 (by rw [le_length]; omega) pd; have f9 := f.trans q2; have H29 := q2.heap H2; have HE9 := q2.heap HE; have HR9 := HR.fr q2; have HF9 := Lib.hid (And.intro (own_fr HO2.out q2) (HLO2.out.fr q2)); (obtain ⟨bq, hbq⟩ : ∃ b, ((strOfNums sb).toList == (strOfNums (le cr 4)).toList) = b := ⟨_, rfl⟩); clear q q2 hOp hB9)
    | (go_at_call 38; go_loud (refine (Tryd.bytes_Equal_strs _ _ _ _ _ hcv1 hcv2).mono ?_); rintro e wq ⟨rfl, rfl⟩))
  all_goals try (exact hDie.out _ _ cc _ _ hcc f rfl rfl H2 HE)
  have hE : PP = if bq = true then (if j + 4 < L.length then ([], 190) else (TR.1, 0)) else ([], 192) := by
    have hx := HY.out
    rw [endX_E, HZ.out, HE4.out] at hx
    dsimp only [endE] at hx
    rw [show j + 4 - 4 = j by omega, HCR.out] at hx
    rw [hx, ← hbq]
    have hs := strOfNums_inj HSB.out (fun x hx => le_mem cr 4 x hx)
    by_cases h : sb = le cr 4
    · have hb : ((strOfNums sb).toList == (strOfNums (le cr 4)).toList) = true := by rw [h]; exact beq_self_eq_true _
      rw [hb, if_pos h]; rfl
    · have hb : ((strOfNums sb).toList == (strOfNums (le cr 4)).toList) = false := beq_eq_false_iff_ne.2 (fun k => h (hs (bs_ext (by rw [← toL, ← toL]; exact k))))
      rw [hb, if_neg h]; rfl
  have HEE := Lib.hid hE
  obtain ⟨r0, r1⟩ := blk2 HR9
  have i2 := blk1 H29
  have z2 := unfroz H29 0
  have i3 := blk1 HE9
  have z3 := unfroz HE9 0
  obtain ⟨wA, hwA, HA, qA⟩ := set_grown H29 0 (.slice none 0 0)
  simp only [List.setIfInBounds_toArray, List.set_cons_zero] at HA
  have fA := row_own f9 hw qA hB2
  have HEA := grown_blk' qA HE9 n2E.symm
  have i3A := blk1 HEA
  have z3A := unfroz HEA 0
  obtain ⟨wB, hwB, HB, qB⟩ := set_grown HEA 0 (.int .i64 192)
  obtain ⟨wC, hwC, HC, qC⟩ := set_grown HEA 0 (.int .i64 190)
  simp only [List.setIfInBounds_toArray, List.set_cons_zero] at HB HC
  have HFB := Lib.hid (And.intro (row_own fA hw qB hB3) (And.intro (grown_blk' qB HA n2E) HB))
  have HFC := Lib.hid (And.intro (row_own fA hw qC hB3) (And.intro (grown_blk' qC HA n2E) HC))
  have j2 := idemC H29 i2
  have j3 := idemC HE9 i3
  have HF0 := Lib.hid (And.intro f9 (And.intro H29 HE9))
  clear hE HA qA fA HEA HB qB HC qC H2 HE HR HR9 H29 HE9 hcv1 hcv2 f f9
  cases bq with
  | false =>
    go_wp2_with fail
    exact hEnd.out _ _ (.slice none 0 0) 192 [] _ (by rw [HEE.out]; rfl) HFB.out.1 (TreeAt.nil _ _) rfl rfl HFB.out.2.1 HFB.out.2.2 rfl
  | true =>
    by_cases hlt : j + 4 < L.length
    · have d7 : (j : Int) + 4 < (L.length : Int) := by omega
      have HLT := Lib.hid hlt
      clear hlt
      go_wp2_with fail
      exact hEnd.out _ _ (.slice none 0 0) 190 [] _ (by rw [HEE.out, if_pos trivial, if_pos HLT.out]) HFC.out.1 (TreeAt.nil _ _) rfl rfl HFC.out.2.1 HFC.out.2.2 rfl
    · have d7 : (L.length : Int) ≤ (j : Int) + 4 := by omega
      have HLT := Lib.hid hlt
      clear hlt
      go_wp2_with fail
      exact hEnd.out _ _ (.slice a tv.length d) 0 TR.1 _ (by rw [HEE.out, if_pos trivial, if_neg HLT.out]) HF0.out.1 ⟨a, tv, d, rfl, HTV.out, own_low HF9.out.1 (by omega), HF9.out.2.low (by omega)⟩ rfl rfl HF0.out.2.1 HF0.out.2.2 rfl
theorem pread_any (A : Option Addr) (c : Nat) (L : List Int) (w : World) (hw : Ok w) (hA : BytesAt w A L) (hb : bytesOk L) (hc : L.length ≤ c) (hL : L.length ≤ 1073741824) (hg : 4 ≤ w.heap.size) :
    Calls Tryd.prog 15 #[.slice A L.length c] w fun e w' => ReadOut w (readX crcI L) e w' := by
  cases hh : headB L with
  | false =>
    have : readX crcI L = ([], 190) := by unfold readX; rw [hh]; rfl
    rw [this]
    exact pread_no A c L w hw hA hb hc hL hh
  | true =>
    have hA' := hA
    rcases hA with h | ⟨g, o, rfl, hlt, h⟩
    · subst h; simp [headB] at hh
    · exact pread_yes g o c L w hw hA' hlt hb hc hL hg hh
end Go.Proofs.YtlnaeppbhjmocaaDoor
set_option linter.unusedSimpArgs false
set_option linter.unusedVariables false
namespace Go.Proofs.YtlnaeppbhjmocaaDoor
open Go.RowKit Go.Proofs Go.Proofs.YtlnaeppbhjmocaaDoorW.PrintWords Go.Proofs.YtlnaeppbhjmocaaDoorW.PrintMore

def full70 (L : List Int) : List Int := L ++ List.replicate 70 92
theorem same_true {w : World} (hw : Ok w) {A A' : Option Addr} {c c' : Nat} {xs : List Int} (h : BytesAt w A xs) (h' : BytesAt w A' xs) (hc : xs.length ≤ c) (hc' : xs.length ≤ c') (hL : xs.length ≤ 1099511627776) :
    Calls Tryd.prog 22 #[.slice A xs.length c, .slice A' xs.length c'] w fun e w' => e = .returned (.bool true) ∧ Fr w w' := by
  refine (Psame.shalelaw18_same.calls A c xs A' c' xs true w (h.toC (by omega)) hc (h'.toC (by omega)) hc' ?_).mono fun e w' ⟨he, hb⟩ => ⟨he, Fr.of hw hb.below⟩
  unfold Psame.shalelaw18_same.f
  simp
theorem no_any (x : Int) (w : World) (hw : Ok w) : Calls Tryd.prog 16 #[.int .i64 x] w fun e w' => e = .returned (.int .i64 x) ∧ Fr w w' :=
  (Pno.shalelaw18_no.calls x x w rfl).mono fun e w' ⟨he, hb⟩ => ⟨he, Fr.of hw hb.below⟩
/-! ### Two trees of the same leaves -/
def toS (p : Lf × Value) : Palike.S45 := ⟨p.1.path, p.1.ty, p.1.mode, p.1.stamp, p.1.data, p.1.tgt⟩
def toS1 (l : Lf) : Palike.S45 := ⟨l.path, l.ty, l.mode, l.stamp, l.data, l.tgt⟩
theorem tree_C {w : World} {B : Nat} {a : Option Addr} {c : Nat} {tv : List (Lf × Value)} (h : w.ownsRow B 45 6 (.slice a tv.length c) tv.length (lflat tv)) (hl : LO w B tv) (hn : tv.length ≤ 1099511627776) :
    Kd.C Palike.k45 w a (tv.map toS).length (tv.map toS) ∧ (tv.map toS).length ≤ c := by
  have hcap : tv.length ≤ c := own_cap h
  refine ⟨⟨rfl, by rw [List.length_map]; omega, fun h0 => ?_⟩, by rw [List.length_map]; exact hcap⟩
  rw [List.length_map] at h0
  obtain ⟨g, c', hv, _, _⟩ := World.ownsRow.form h h0
  injection hv with e1 e2 e3
  subst e1 e3
  have hR := own_Row (xs := []) (lcell_len tv) (by rw [List.append_nil]; exact h)
  refine ⟨_, rfl, fun j p hj => ?_⟩
  rw [List.getElem?_map, Option.map_eq_some_iff] at hj
  obtain ⟨q, hq, rfl⟩ := hj
  have hO := hl q (List.mem_of_getElem? hq)
  obtain ⟨da, dc, hdv⟩ := hO.form
  have hO2 := hO
  rw [hdv] at hO2
  obtain ⟨_, hdl, hdC⟩ := hO2.toC
  refine ⟨lcell q, rfl, ?_, fun i u hu => ?_⟩
  · have := Palike.k45_mk w (toS q) (A4 := da) (c4 := dc) hdl hdC
    unfold lcell
    rw [hdv]
    exact this
  · rcases hR with hR | ⟨g', o', e, _, hR⟩
    · have : tv = [] := by simpa using hR
      rw [this] at h0; simp at h0
    · injection e with e; injection e with e1 e2; subst e1 e2
      have hi : i < 6 := by
        have := (List.getElem?_eq_some_iff.1 hu).1
        have hl6 : (lcell q).length = 6 := rfl
        omega
      have := hR j (lcell q) (by rw [List.getElem?_map, hq]; rfl) i u hi hu
      have hsz : Palike.k45.sz = 6 := rfl
      rw [hsz, Lib.add_plain]
      rw [show 0 + (j * 6 + i) = 0 + j * 6 + i by omega]
      exact this
theorem leaf_same (x : Palike.S45) : Palike.shalelaw18_leaf.f x.f0 x.f1 x.f2 x.f3 x.f4 x.f5 x.f0 x.f1 x.f2 x.f3 x.f4 x.f5 = some true := by
  unfold Palike.shalelaw18_leaf.f
  simp [Palike.shalelaw18_same.f]
theorem alike_l0 (l : List Palike.S45) (hl : l.length ≤ 1099511627776) : ∀ (d i : Nat), i + d = l.length → Palike.shalelaw18_alike.l0 (d + 1) l l (i : Int) = some true := by
  intro d
  induction d with
  | zero =>
    intro i hi
    simp only [Palike.shalelaw18_alike.l0]
    rw [if_neg (by omega)]
  | succ d ih =>
    intro i hi
    have e3 : wrap64 ((i : Int) + 1) = ((i + 1 : Nat) : Int) := by rw [wr64 ⟨by omega, by omega⟩]; omega
    obtain ⟨D, hD⟩ : ∃ D, d + 1 = D := ⟨_, rfl⟩
    rw [hD]
    simp only [Palike.shalelaw18_alike.l0]
    rw [if_pos (by omega), if_pos (by omega), if_pos (by omega), leaf_same, Option.bind_some, if_pos rfl, e3, ← hD]
    exact ih (i + 1) (by omega)
theorem alike_f (l : List Palike.S45) (hl : l.length ≤ 1099511627776) : Palike.shalelaw18_alike.f (l.length + 1) l l = some true := by
  unfold Palike.shalelaw18_alike.f
  rw [if_pos rfl]
  exact alike_l0 l hl l.length 0 (by omega)
end Go.Proofs.YtlnaeppbhjmocaaDoor
set_option linter.unusedSimpArgs false
set_option linter.unusedVariables false
namespace Go.Proofs.YtlnaeppbhjmocaaDoor
open Go.RowKit Go.Proofs Go.Proofs.YtlnaeppbhjmocaaDoorW.PrintWords Go.Proofs.YtlnaeppbhjmocaaDoorW.PrintLast Go.Proofs.YtlnaeppbhjmocaaDoorW.PrintMore

/-- where the next hole begins and ends, from a place i on at which 'run' bytes 0 have come -/
def nhL : List Int → Nat → Nat → Nat × Nat
  | [], run, i => if 16 ≤ run then (i - run, i) else (i, i)
  | x :: r, run, i => if x = 0 then nhL r (run + 1) (i + 1) else if 16 ≤ run then (i - run, i) else nhL r 0 (i + 1)
theorem nhL_bounds (l : List Int) : ∀ (run i : Nat), run ≤ i → i - run ≤ (nhL l run i).1 ∧ (nhL l run i).1 ≤ (nhL l run i).2 ∧ i ≤ (nhL l run i).2 ∧ (nhL l run i).2 ≤ i + l.length ∧ (run < 16 → l ≠ [] → i < (nhL l run i).2) := by
  induction l with
  | nil =>
    intro run i hr
    rw [nhL]
    split
    · refine ⟨Nat.le_refl _, by show i - run ≤ i; omega, Nat.le_refl _, by simp, fun h => by omega⟩
    · refine ⟨by show i - run ≤ i; omega, Nat.le_refl _, Nat.le_refl _, by simp, fun _ h => absurd rfl h⟩
  | cons x r ih =>
    intro run i hr
    rw [nhL, List.length_cons]
    split
    · obtain ⟨h1, h2, h3, h4, _⟩ := ih (run + 1) (i + 1) (by omega)
      exact ⟨by omega, h2, by omega, by omega, fun _ _ => by omega⟩
    · split
      · refine ⟨Nat.le_refl _, by show i - run ≤ i; omega, Nat.le_refl _, by show i ≤ _; omega, fun h => by omega⟩
      · obtain ⟨h1, h2, h3, h4, _⟩ := ih 0 (i + 1) (by omega)
        exact ⟨by omega, h2, by omega, by omega, fun _ _ => by omega⟩
theorem nh_val (l : List Int) (hl : l.length ≤ 1073741824) : ∀ (d i run : Nat), i + d = l.length → run ≤ i → PnextHole.parcel_nextHole.l0 (d + 1) l (run : Int) (i : Int) = some (((nhL (l.drop i) run i).1 : Int), ((nhL (l.drop i) run i).2 : Int)) := by
  intro d
  induction d with
  | zero =>
    intro i run hi hr
    have hd : l.drop i = [] := List.drop_eq_nil_of_le (by omega)
    rw [hd]
    simp only [PnextHole.parcel_nextHole.l0, nhL]
    rw [if_neg (by omega)]
    by_cases h16 : 16 ≤ run
    · rw [if_pos (by omega), if_pos h16, wr64 ⟨by omega, by omega⟩]
      congr 2 <;> omega
    · rw [if_neg (by omega), if_neg h16]
      congr 2 <;> omega
  | succ d ih =>
    intro i run hi hr
    have hlt : i < l.length := by omega
    have hd : l.drop i = l[i] :: l.drop (i + 1) := List.drop_eq_getElem_cons hlt
    have hrd : rd l (i : Int) = l[i] := by unfold rd; rw [Int.toNat_natCast]; simp [List.getD, hlt]
    have e3 : wrap64 ((i : Int) + 1) = ((i + 1 : Nat) : Int) := by rw [wr64 ⟨by omega, by omega⟩]; omega
    have e4 : wrap64 ((run : Int) + 1) = ((run + 1 : Nat) : Int) := by rw [wr64 ⟨by omega, by omega⟩]; omega
    obtain ⟨D, hD⟩ : ∃ D, d + 1 = D := ⟨_, rfl⟩
    rw [hD]
    simp only [PnextHole.parcel_nextHole.l0]
    rw [if_pos (by omega), if_pos (by omega), hrd, e3, e4, hd, ← hD, nhL]
    by_cases h0 : l[i] = 0
    · rw [if_pos h0, if_pos h0]
      exact ih (i + 1) (run + 1) (by omega) (by omega)
    · rw [if_neg h0, if_neg h0]
      by_cases h16 : 16 ≤ run
      · rw [if_pos (by omega), if_pos h16, wr64 ⟨by omega, by omega⟩]
        congr 2
        omega
      · rw [if_neg (by omega), if_neg h16]
        exact ih (i + 1) 0 (by omega) (by omega)
theorem nextHole_val (A : Option Addr) (c : Nat) (L : List Int) (i : Nat) (hi : i ≤ L.length) (hc : L.length ≤ c) (hL : L.length ≤ 1073741824) (w : World) (hw : Ok w) (hA : BytesAt w A L) :
    Calls Tryd.prog 79 #[.slice A L.length c, .int .i64 i] w fun e w' => e = .returned (.tuple #[.int .i64 (nhL (L.drop i) 0 i).1, .int .i64 (nhL (L.drop i) 0 i).2]) ∧ Fr w w' :=
  (PnextHole.parcel_nextHole.calls (L.length - i + 1) A c L i _ _ w (hA.toC (by omega)) hc (nh_val L hL (L.length - i) i 0 (by omega) (by omega))).mono fun e w' ⟨he, hd⟩ => ⟨he, Fr.of hw hd.below⟩

/-- the stretches from a place on: their kind (1 bytes, 0 a hole), place, size -/
def stretS (L : List Int) : Nat → Nat → List (Nat × Nat × Nat)
  | 0, _ => []
  | k + 1, i => if i < L.length then
      (if i < (nhL (L.drop i) 0 i).1 then [(1, i, (nhL (L.drop i) 0 i).1 - i)] else []) ++
      ((if (nhL (L.drop i) 0 i).1 < (nhL (L.drop i) 0 i).2 then [(0, (nhL (L.drop i) 0 i).1, (nhL (L.drop i) 0 i).2 - (nhL (L.drop i) 0 i).1)] else []) ++ stretS L k (nhL (L.drop i) 0 i).2) else []
def stretX (L : List Int) : List (Nat × Nat × Nat) := stretS L L.length 0
theorem stretS_more (L : List Int) : ∀ (k m i : Nat), L.length ≤ i + k → L.length ≤ i + m → stretS L k i = stretS L m i := by
  intro k
  induction k with
  | zero =>
    intro m i h1 h2
    cases m with
    | zero => rfl
    | succ m => rw [stretS, stretS, if_neg (by omega)]
  | succ k ih =>
    intro m i h1 h2
    cases m with
    | zero => rw [stretS, stretS, if_neg (by omega)]
    | succ m =>
      rw [stretS, stretS]
      by_cases hi : i < L.length
      · have hb := (nhL_bounds (L.drop i) 0 i (by omega)).2.2.2.2 (by omega) (fun e => by have := congrArg List.length e; simp at this; omega)
        rw [if_pos hi, if_pos hi, ih m _ (by omega) (by omega)]
      · rw [if_neg hi, if_neg hi]
end Go.Proofs.YtlnaeppbhjmocaaDoor
set_option linter.unusedSimpArgs false
set_option linter.unusedVariables false
namespace Go.Proofs.YtlnaeppbhjmocaaDoor
open Go.RowKit Go.Proofs

theorem lead0_le (l : List Int) : lead0 l ≤ l.length := by
  induction l with
  | nil => simp [lead0]
  | cons x r ih => rw [lead0]; split <;> simp <;> omega
theorem lead0_drop (l : List Int) : l.drop (lead0 l) = [] ∨ ∃ x r, l.drop (lead0 l) = x :: r ∧ x ≠ 0 := by
  induction l with
  | nil => simp [lead0]
  | cons x r ih =>
    rw [lead0]
    split
    · exact ih
    · exact .inr ⟨x, r, rfl, by assumption⟩
/-- nextHole over the zeros that come first -/
theorem nhL_lead (l : List Int) : ∀ run i, nhL l run i = nhL (l.drop (lead0 l)) (run + lead0 l) (i + lead0 l) := by
  induction l with
  | nil => intro run i; simp [lead0]
  | cons x r ih =>
    intro run i
    rw [lead0]
    by_cases h : x = 0
    · rw [if_pos h, nhL, if_pos h, ih, List.drop_succ_cons]
      congr 1 <;> omega
    · rw [if_neg h]; rfl
theorem nhL_hole (l : List Int) (i : Nat) (h : 16 ≤ lead0 l) : nhL l 0 i = (i, i + lead0 l) := by
  rw [nhL_lead, Nat.zero_add]
  rcases lead0_drop l with e | ⟨x, r, e, hx⟩
  · rw [e, nhL, if_pos h]; congr 1; omega
  · rw [e, nhL, if_neg hx, if_pos h]; congr 1; omega
theorem nhL_end (l : List Int) (i : Nat) (h : lead0 l < 16) (he : l.drop (lead0 l) = []) : nhL l 0 i = (i + lead0 l, i + lead0 l) := by
  rw [nhL_lead, Nat.zero_add, he, nhL, if_neg (by omega)]
theorem nhL_next (l : List Int) (i : Nat) (h : lead0 l < 16) {x : Int} {r : List Int} (he : l.drop (lead0 l) = x :: r) (hx : x ≠ 0) : nhL l 0 i = nhL r 0 (i + lead0 l + 1) := by
  rw [nhL_lead, Nat.zero_add, he, nhL, if_neg hx, if_neg (by omega)]
/-- the document's search of a filled stretch's end -/
def scanS (L : List Int) : Nat → Nat → Nat
  | 0, k => k
  | f + 1, k => if k < L.length then (if 16 ≤ lead0 (L.drop k) then k else scanS L f (if lead0 (L.drop k) = 0 then k + 1 else k + lead0 (L.drop k))) else k
def stretchS (L : List Int) (i : Nat) : Nat × Bool := if 16 ≤ lead0 (L.drop i) then (i + lead0 (L.drop i), true) else (scanS L (L.length - i) i, false)
/-- the document's end of a filled stretch is where the program's next hole begins -/
theorem scanS_nh (L : List Int) : ∀ (d f k : Nat), k + d = L.length → d ≤ f → scanS L f k = (nhL (L.drop k) 0 k).1 := by
  intro d
  induction d using Nat.strongRecOn with
  | _ d ih =>
  intro f k hd hf
  obtain ⟨Z, hZ⟩ : ∃ Z, lead0 (L.drop k) = Z := ⟨_, rfl⟩
  have hzl := lead0_le (L.drop k)
  rw [List.length_drop, hZ] at hzl
  cases f with
  | zero =>
    obtain rfl : d = 0 := by omega
    have e : L.drop k = [] := List.drop_eq_nil_of_le (by omega)
    rw [e, scanS, nhL, if_neg (by omega)]
  | succ f =>
    rw [scanS]
    by_cases hk : k < L.length
    · rw [if_pos hk, hZ]
      by_cases h16 : 16 ≤ Z
      · rw [if_pos h16, nhL_hole _ _ (by omega)]
      · rw [if_neg h16]
        rcases lead0_drop (L.drop k) with e | ⟨x, r, e, hx⟩
        · rw [hZ, List.drop_drop] at e
          have hlen : L.length ≤ k + Z := by
            have := congrArg List.length e
            simp at this; omega
          rw [nhL_end _ _ (by omega) (by rw [hZ, List.drop_drop]; exact e), hZ]
          rw [if_neg (by omega)]
          cases f with
          | zero => rw [scanS]
          | succ f => rw [scanS, if_neg (by omega)]
        · rw [nhL_next _ _ (by omega) e hx, hZ]
          rw [hZ, List.drop_drop] at e
          have hlen : k + Z < L.length := by
            have := congrArg List.length e
            simp at this; omega
          have hr : r = L.drop (k + Z + 1) := by
            rw [List.drop_eq_getElem_cons hlen] at e
            injection e with e1 e2
            exact e2.symm
          subst hr
          by_cases hz0 : Z = 0
          · subst hz0
            rw [if_pos rfl]
            exact ih (d - 1) (by omega) f (k + 1) (by omega) (by omega)
          · rw [if_neg hz0]
            have h1 := ih (d - Z) (by omega) f (k + Z) (by omega) (by omega)
            rw [h1]
            have hl0 : lead0 (L.drop (k + Z)) = 0 := by rw [e, lead0, if_neg hx]
            rw [nhL_next (L.drop (k + Z)) (k + Z) (by omega) (by rw [hl0]; exact e) hx, hl0]
    · rw [if_neg hk]
      have e : L.drop k = [] := List.drop_eq_nil_of_le (by omega)
      rw [e, nhL, if_neg (by omega)]
theorem stretchS_no (L : List Int) (i : Nat) (hi : i ≤ L.length) (h : lead0 (L.drop i) < 16) : stretchS L i = ((nhL (L.drop i) 0 i).1, false) := by
  unfold stretchS
  rw [if_neg (by omega), scanS_nh L (L.length - i) (L.length - i) i (by omega) (Nat.le_refl _)]
/-- where the next hole begins there are as many zeros as it is long, or the data ends -/
theorem nhL_at (L : List Int) : ∀ (d k : Nat), k + d = L.length → ((nhL (L.drop k) 0 k).1 = L.length ∧ (nhL (L.drop k) 0 k).2 = L.length) ∨ (16 ≤ lead0 (L.drop (nhL (L.drop k) 0 k).1) ∧ (nhL (L.drop k) 0 k).2 = (nhL (L.drop k) 0 k).1 + lead0 (L.drop (nhL (L.drop k) 0 k).1)) := by
  intro d
  induction d using Nat.strongRecOn with
  | _ d ih =>
  intro k hd
  have hzl := lead0_le (L.drop k)
  rw [List.length_drop] at hzl
  by_cases h16 : 16 ≤ lead0 (L.drop k)
  · rw [nhL_hole _ _ h16]
    exact .inr ⟨h16, rfl⟩
  · rcases lead0_drop (L.drop k) with e | ⟨x, r, e, hx⟩
    · rw [nhL_end _ _ (by omega) e]
      have := congrArg List.length e
      simp at this
      exact .inl ⟨by show k + _ = _; omega, by show k + _ = _; omega⟩
    · rw [nhL_next _ _ (by omega) e hx]
      rw [List.drop_drop] at e
      have hlen : k + lead0 (L.drop k) < L.length := by
        have := congrArg List.length e
        simp at this; omega
      have hr : r = L.drop (k + lead0 (L.drop k) + 1) := by
        rw [List.drop_eq_getElem_cons hlen] at e
        injection e with e1 e2
        exact e2.symm
      rw [hr]
      exact ih (d - (lead0 (L.drop k) + 1)) (by omega) _ (by omega)
/-- a stretch's bytes in a row -/
def stretB (L : List Int) (x : Nat × Nat × Nat) : List Int := (x.1 : Int) :: (le x.2.2 4 ++ if x.1 = 1 then (L.drop x.2.1).take x.2.2 else [])
/-- the document's cut of data, from a place on -/
def cutS (L : List Int) : Nat → Nat → List Int
  | 0, _ => []
  | f + 1, i => if i < L.length then (if (stretchS L i).2 then 0 else 1) :: (le (((stretchS L i).1 : Int) - (i : Int)) 4 ++ ((if (stretchS L i).2 then [] else (L.drop i).take ((stretchS L i).1 - i)) ++ cutS L f (stretchS L i).1)) else []
theorem nhL_gt (L : List Int) (i : Nat) (hi : i < L.length) (h : lead0 (L.drop i) < 16) : i < (nhL (L.drop i) 0 i).1 := by
  have hzl := lead0_le (L.drop i)
  rw [List.length_drop] at hzl
  rcases lead0_drop (L.drop i) with e | ⟨x, r, e, hx⟩
  · rw [nhL_end _ _ h e]
    have := congrArg List.length e
    simp at this
    show i < i + _
    omega
  · rw [nhL_next _ _ h e hx]
    have := (nhL_bounds r 0 (i + lead0 (L.drop i) + 1) (by omega)).1
    omega
theorem stretS_len (L : List Int) (f i : Nat) (hi : L.length ≤ i) : stretS L f i = [] := by
  cases f with
  | zero => rfl
  | succ f => rw [stretS, if_neg (by omega)]
theorem cutS_hole (L : List Int) (f i : Nat) (hi : i < L.length) (h : 16 ≤ lead0 (L.drop i)) : cutS L (f + 1) i = 0 :: (le (lead0 (L.drop i) : Nat) 4 ++ cutS L f (i + lead0 (L.drop i))) := by
  have hs : stretchS L i = (i + lead0 (L.drop i), true) := by unfold stretchS; rw [if_pos h]
  rw [cutS, if_pos hi, hs]
  simp only [if_true, List.nil_append]
  congr 3
  omega
theorem cutS_full (L : List Int) (f i : Nat) (hi : i < L.length) (h : lead0 (L.drop i) < 16) : cutS L (f + 1) i = 1 :: (le (((nhL (L.drop i) 0 i).1 - i : Nat) : Int) 4 ++ ((L.drop i).take ((nhL (L.drop i) 0 i).1 - i) ++ cutS L f (nhL (L.drop i) 0 i).1)) := by
  have hs := stretchS_no L i (by omega) h
  have hgt := nhL_gt L i hi h
  rw [cutS, if_pos hi, hs]
  simp only [Bool.false_eq_true, if_false]
  congr 3
  omega
theorem stretS_hole (L : List Int) (g i : Nat) (hi : i < L.length) (h : 16 ≤ lead0 (L.drop i)) : stretS L (g + 1) i = (0, i, lead0 (L.drop i)) :: stretS L g (i + lead0 (L.drop i)) := by
  rw [stretS, if_pos hi, nhL_hole _ _ h]
  dsimp only
  rw [if_neg (Nat.lt_irrefl i), if_pos (by omega), List.nil_append, List.singleton_append]
  congr 3
  omega
theorem cutS_end (L : List Int) (f i : Nat) (hi : L.length ≤ i) : cutS L f i = [] := by
  cases f with
  | zero => rfl
  | succ f => rw [cutS, if_neg (by omega)]
theorem cutS_eq (L : List Int) : ∀ (d f g i : Nat), i + d = L.length → d ≤ f → d ≤ g → cutS L f i = (stretS L g i).flatMap (stretB L) := by
  intro d
  induction d using Nat.strongRecOn with
  | _ d ih =>
  intro f g i hd hf hg
  by_cases hi : i < L.length
  · obtain ⟨f, rfl⟩ : ∃ m, f = m + 1 := ⟨f - 1, by omega⟩
    obtain ⟨g, rfl⟩ : ∃ m, g = m + 1 := ⟨g - 1, by omega⟩
    by_cases h16 : 16 ≤ lead0 (L.drop i)
    · have hl := lead0_le (L.drop i)
      rw [List.length_drop] at hl
      rw [cutS_hole L f i hi h16, stretS_hole L g i hi h16, List.flatMap_cons, ih (d - lead0 (L.drop i)) (by omega) f g _ (by omega) (by omega) (by omega)]
      simp [stretB]
    · have hgt := nhL_gt L i hi (by omega)
      rw [cutS_full L f i hi (by omega), stretS, if_pos hi, if_pos hgt]
      have hat := nhL_at L d i hd
      obtain ⟨p, hp⟩ : ∃ p, (nhL (L.drop i) 0 i).1 = p := ⟨_, rfl⟩
      obtain ⟨q, hq⟩ : ∃ q, (nhL (L.drop i) 0 i).2 = q := ⟨_, rfl⟩
      rw [hp, hq] at hat
      rw [hp] at hgt
      rw [hp, hq]
      rcases hat with ⟨h1, h2⟩ | ⟨h1, h2⟩
      · subst h1
        rw [if_neg (by omega), stretS_len L g q (by omega), cutS_end L f _ (Nat.le_refl _)]
        simp [stretB]
      · have hl := lead0_le (L.drop p)
        rw [List.length_drop] at hl
        obtain ⟨f, rfl⟩ : ∃ m, f = m + 1 := ⟨f - 1, by omega⟩
        rw [if_pos (by omega), cutS_hole L f p (by omega) h1, List.singleton_append, List.singleton_append, List.flatMap_cons, List.flatMap_cons, ← h2, ih (d - (p - i) - lead0 (L.drop p)) (by omega) f g q (by omega) (by omega) (by omega)]
        have e : q - p = lead0 (L.drop p) := by omega
        rw [e]
        simp [stretB]
  · rw [stretS_len L g i (by omega), cutS_end L f i (by omega)]
    rfl
theorem cutS_len (L : List Int) : ∀ (d f i : Nat), i + d = L.length → d ≤ f → (cutS L f i).length ≤ 6 * d := by
  intro d
  induction d using Nat.strongRecOn with
  | _ d ih =>
  intro f i hd hf
  by_cases hi : i < L.length
  · obtain ⟨f, rfl⟩ : ∃ m, f = m + 1 := ⟨f - 1, by omega⟩
    have hl := lead0_le (L.drop i)
    rw [List.length_drop] at hl
    by_cases h16 : 16 ≤ lead0 (L.drop i)
    · have := ih (d - lead0 (L.drop i)) (by omega) f (i + lead0 (L.drop i)) (by omega) (by omega)
      rw [cutS_hole L f i hi h16]
      simp only [List.length_cons, List.length_append, le_length]
      omega
    · have hgt := nhL_gt L i hi (by omega)
      have hb := nhL_bounds (L.drop i) 0 i (by omega)
      rw [List.length_drop] at hb
      have := ih (L.length - (nhL (L.drop i) 0 i).1) (by omega) f (nhL (L.drop i) 0 i).1 (by omega) (by omega)
      rw [cutS_full L f i hi (by omega)]
      simp only [List.length_cons, List.length_append, le_length, List.length_take, List.length_drop]
      omega
  · rw [cutS_end L f i (by omega)]; simp
theorem stretX_len (L : List Int) : ((stretX L).flatMap (stretB L)).length ≤ 6 * L.length := by
  unfold stretX
  rw [← cutS_eq L L.length L.length L.length 0 (by omega) (Nat.le_refl _) (Nat.le_refl _)]
  exact cutS_len L L.length L.length 0 (by omega) (Nat.le_refl _)
theorem stretS_mem (L : List Int) : ∀ (k i : Nat), i ≤ L.length → ∀ x ∈ stretS L k i, (x.1 = 0 ∨ x.1 = 1) ∧ x.2.1 + x.2.2 ≤ L.length ∧ 0 < x.2.2 := by
  intro k
  induction k with
  | zero => intro i _ x hx; simp [stretS] at hx
  | succ k ih =>
    intro i hi x hx
    rw [stretS] at hx
    split at hx
    · have hb := nhL_bounds (L.drop i) 0 i (by omega)
      rw [List.length_drop] at hb
      rcases List.mem_append.mp hx with h | h
      · split at h
        · obtain rfl := List.mem_singleton.mp h
          exact ⟨.inr rfl, by dsimp only; omega, by dsimp only; omega⟩
        · cases h
      · rcases List.mem_append.mp h with h | h
        · split at h
          · obtain rfl := List.mem_singleton.mp h
            exact ⟨.inl rfl, by dsimp only; omega, by dsimp only; omega⟩
          · cases h
        · exact ih _ (by omega) x h
    · cases hx
end Go.Proofs.YtlnaeppbhjmocaaDoor
namespace Go.Proofs.YtlnaeppbhjmocaaDoor
open Go.RowKit Go.Proofs
section
variable {α : Type} [DecidableEq α] (lt : α → α → Bool)
/-- how many names two paths share -/
def sharedX : List α → List α → Nat
  | x :: a, y :: b => if x = y then sharedX a b + 1 else 0
  | _, _ => 0
/-- does b come behind a in the order of trees -/
def behindX : List α → List α → Bool
  | _, [] => false
  | [], _ :: _ => true
  | x :: a, y :: b => if x = y then behindX a b else lt x y
/-- the program's test of a leaf behind another -/
def stepX (ahead : List α) (dir : Bool) (n : List α) : Bool :=
  behindX lt ahead n && decide (n.length - 1 ≤ sharedX ahead n) && (decide (n.length - 1 ≠ ahead.length) || dir)
def progT : List α → Bool → List (List α × Bool) → Bool
  | _, _, [] => true
  | ahead, dir, (n, d) :: r => stepX lt ahead dir n && progT n d r
def dirX (all : List (List α × Bool)) (l : List α) : Bool := all.any fun x => x.2 && decide (x.1 = l)
def refT (all : List (List α × Bool)) : List α → List (List α × Bool) → Bool
  | _, [] => true
  | ahead, (n, _) :: r => behindX lt ahead n && dirX all n.dropLast && refT all n r

theorem shared_le (a : List α) : ∀ b : List α, sharedX a b ≤ a.length ∧ sharedX a b ≤ b.length := by
  induction a with
  | nil => intro b; simp [sharedX]
  | cons x a ih =>
    intro b
    cases b with
    | nil => simp [sharedX]
    | cons y b =>
      simp only [sharedX]
      split
      · have := ih b; simp; omega
      · simp
theorem shared_take (a : List α) : ∀ (b : List α) (k : Nat), k ≤ sharedX a b → a.take k = b.take k := by
  induction a with
  | nil => intro b k h; simp [sharedX] at h; subst h; simp
  | cons x a ih =>
    intro b k h
    cases b with
    | nil => simp [sharedX] at h; subst h; simp
    | cons y b =>
      simp only [sharedX] at h
      split at h
      · rename_i hxy
        subst hxy
        cases k with
        | zero => simp
        | succ k => simp [ih b k (by omega)]
      · obtain rfl : k = 0 := by omega
        simp
theorem take_shared (a : List α) : ∀ (b : List α) (k : Nat), k ≤ a.length → k ≤ b.length → a.take k = b.take k → k ≤ sharedX a b := by
  induction a with
  | nil => intro b k h1 _ _; simp at h1; omega
  | cons x a ih =>
    intro b k h1 h2 h
    cases k with
    | zero => omega
    | succ k =>
      cases b with
      | nil => simp at h2
      | cons y b =>
        simp only [List.take_succ_cons, List.cons.injEq] at h
        simp only [sharedX, if_pos h.1]
        have := ih b k (by simp at h1; omega) (by simp at h2; omega) h.2
        omega
theorem behind_irr (a : List α) : behindX lt a a = false := by
  induction a with
  | nil => rfl
  | cons x a ih => simp [behindX, ih]
variable (irr : ∀ a, lt a a = false) (tr : ∀ a b c, lt a b = true → lt b c = true → lt a c = true)
include irr tr in
theorem behind_trans (a : List α) : ∀ b c : List α, behindX lt a b = true → behindX lt b c = true → behindX lt a c = true := by
  induction a with
  | nil =>
    intro b c h1 h2
    cases c with
    | nil => cases b <;> simp [behindX] at h2
    | cons z c => rfl
  | cons x a ih =>
    intro b c h1 h2
    cases b with
    | nil => simp [behindX] at h1
    | cons y b =>
      cases c with
      | nil => simp [behindX] at h2
      | cons z c =>
        simp only [behindX] at h1 h2 ⊢
        split at h1
        · rename_i hxy; subst hxy
          split at h2
          · rename_i hxz; subst hxz
            rw [if_pos rfl]; exact ih _ _ h1 h2
          · rename_i hxz; rw [if_neg hxz]; exact h2
        · rename_i hxy
          split at h2
          · rename_i hyz; subst hyz; rw [if_neg hxy]; exact h1
          · rename_i hyz
            have h3 := tr _ _ _ h1 h2
            by_cases hxz : x = z
            · subst hxz; rw [irr] at h3; cases h3
            · rw [if_neg hxz]; exact h3
include irr tr in
/-- what lies ahead of a path, and is a beginning of what comes behind it, is its beginning -/
theorem behind_pre (m : List α) : ∀ a n : List α, behindX lt m a = true ∨ m = a → behindX lt a n = true → n.take m.length = m → a.take m.length = m := by
  induction m with
  | nil => intro a n _ _ _; simp
  | cons x m ih =>
    intro a n h1 h2 h3
    cases n with
    | nil => simp [behindX] at h2
    | cons z n =>
      simp only [List.length_cons, List.take_succ_cons, List.cons.injEq] at h3
      obtain ⟨rfl, h3⟩ := h3
      cases a with
      | nil => simp [behindX] at h1
      | cons y a =>
        simp only [behindX, List.cons.injEq] at h1 h2
        by_cases hy : z = y
        · subst hy
          rw [if_pos rfl] at h1 h2
          simp only [List.length_cons, List.take_succ_cons, List.cons.injEq, true_and]
          exact ih a n (h1.imp id And.right) h2 h3
        · rw [if_neg hy] at h1
          rw [if_neg (fun e => hy e.symm)] at h2
          rcases h1 with h1 | h1
          · have := tr _ _ _ h1 h2; rw [irr] at this; cases this
          · exact absurd h1.1 hy
theorem behind_drop (n : List α) (h : n ≠ []) : behindX lt n.dropLast n = true := by
  induction n with
  | nil => exact absurd rfl h
  | cons x n ih =>
    cases n with
    | nil => rfl
    | cons y n => simp only [List.dropLast_cons_cons, behindX, if_true]; exact ih (by simp)
theorem behind_ne {a n : List α} (h : behindX lt a n = true) : n ≠ [] := fun e => by subst e; cases a <;> simp [behindX] at h
include irr tr in
theorem refT_all (all : List (List α × Bool)) : ∀ (r : List (List α × Bool)) (ahead : List α), refT lt all ahead r = true → ∀ x ∈ r, behindX lt ahead x.1 = true := by
  intro r
  induction r with
  | nil => intro ahead _ x hx; simp at hx
  | cons y r ih =>
    intro ahead h x hx
    obtain ⟨n, d⟩ := y
    simp only [refT, Bool.and_eq_true] at h
    rcases List.mem_cons.mp hx with e | e
    · subst e; exact h.1.1
    · exact behind_trans lt irr tr _ _ _ h.1.1 (ih n h.2 x e)
theorem prog_ref (all : List (List α × Bool)) : ∀ (r pre : List (List α × Bool)) (ahead : List α) (dir : Bool), all = pre ++ r → (ahead, dir) ∈ pre → (∀ k, k < ahead.length → (ahead.take k, true) ∈ pre) → progT lt ahead dir r = true → refT lt all ahead r = true := by
  intro r
  induction r with
  | nil => intro _ _ _ _ _ _ _; rfl
  | cons y r ih =>
    intro pre ahead dir hall hm hp h
    obtain ⟨n, d⟩ := y
    simp only [progT, stepX, Bool.and_eq_true, Bool.or_eq_true, decide_eq_true_eq] at h
    obtain ⟨⟨⟨hb, hs⟩, hd⟩, hr⟩ := h
    have hne := behind_ne lt hb
    have hlen : 0 < n.length := List.length_pos_iff.mpr hne
    have hsl := shared_le ahead n
    have htk := shared_take ahead n (n.length - 1) hs
    have hnew : ∀ k, k < n.length → (n.take k, true) ∈ pre := by
      intro k hk
      have e : n.take k = ahead.take k := (shared_take ahead n k (by omega)).symm
      rw [e]
      by_cases hka : k < ahead.length
      · exact hp k hka
      · have hk2 : k = ahead.length := by omega
        have hk3 : n.length - 1 = ahead.length := by omega
        rcases hd with hd | hd
        · exact absurd hk3 hd
        · subst hd
          rw [List.take_of_length_le (by omega)]; exact hm
    have hdir : dirX all n.dropLast = true := by
      unfold dirX
      rw [List.any_eq_true]
      refine ⟨(n.take (n.length - 1), true), ?_, by simp [List.dropLast_eq_take]⟩
      rw [hall]
      exact List.mem_append_left _ (hnew _ (by omega))
    simp only [refT, Bool.and_eq_true]
    refine ⟨⟨hb, hdir⟩, ih (pre ++ [(n, d)]) n d (by rw [hall]; simp) (by simp) (fun k hk => ?_) hr⟩
    exact List.mem_append_left _ (hnew k hk)
include irr tr in
theorem ref_prog (all : List (List α × Bool)) : ∀ (r pre : List (List α × Bool)) (ahead : List α) (dir : Bool), all = pre ++ (ahead, dir) :: r → (∀ x ∈ pre, behindX lt x.1 ahead = true) → refT lt all ahead r = true → progT lt ahead dir r = true := by
  intro r
  induction r with
  | nil => intro _ _ _ _ _ _; rfl
  | cons y r ih =>
    intro pre ahead dir hall hp h
    obtain ⟨n, d⟩ := y
    have hlate := refT_all lt irr tr all _ _ h
    simp only [refT, Bool.and_eq_true] at h
    obtain ⟨⟨hb, hd⟩, hr⟩ := h
    have hlate2 := refT_all lt irr tr all _ _ hr
    have hne := behind_ne lt hb
    have hlen : 0 < n.length := List.length_pos_iff.mpr hne
    unfold dirX at hd
    rw [List.any_eq_true] at hd
    obtain ⟨⟨m, md⟩, hmem, hm⟩ := hd
    simp only [Bool.and_eq_true, decide_eq_true_eq] at hm
    obtain ⟨rfl, rfl⟩ := hm
    have hbd := behind_drop lt n hne
    have hwhere : (n.dropLast, true) ∈ pre ∨ (n.dropLast, true) = (ahead, dir) := by
      rw [hall] at hmem
      rcases List.mem_append.mp hmem with e | e
      · exact .inl e
      · rcases List.mem_cons.mp e with e | e
        · exact .inr e
        · rcases List.mem_cons.mp e with e | e
          · injection e with e1 e2
            rw [e1, behind_irr lt] at hbd; cases hbd
          · have h1 := hlate2 _ e
            have h2 := behind_trans lt irr tr _ _ _ h1 hbd
            rw [behind_irr lt] at h2; cases h2
    have hml : behindX lt n.dropLast ahead = true ∨ n.dropLast = ahead := by
      rcases hwhere with e | e
      · exact .inl (hp _ e)
      · injection e with e1 e2; exact .inr e1
    have hdl : n.dropLast.length = n.length - 1 := by simp
    have htk := behind_pre lt irr tr n.dropLast ahead n hml hb (by rw [hdl, List.dropLast_eq_take])
    have hal : n.length - 1 ≤ ahead.length := by
      have := congrArg List.length htk
      rw [List.length_take, hdl] at this
      omega
    have hsh : n.length - 1 ≤ sharedX ahead n := take_shared ahead n _ hal (by omega) (by rw [hdl] at htk; rw [htk, List.dropLast_eq_take])
    have hdir : n.length - 1 ≠ ahead.length ∨ dir = true := by
      by_cases e : n.length - 1 = ahead.length
      · right
        rw [hdl, e, List.take_of_length_le (Nat.le_refl _)] at htk
        rcases hwhere with e2 | e2
        · have := hp _ e2
          rw [htk, behind_irr lt] at this; cases this
        · injection e2 with e3 e4; exact e4.symm
      · exact .inl e
    simp only [progT, stepX, Bool.and_eq_true, Bool.or_eq_true, decide_eq_true_eq]
    refine ⟨⟨⟨hb, hsh⟩, hdir⟩, ih (pre ++ [(ahead, dir)]) n d (by rw [hall]; simp) (fun x hx => ?_) hr⟩
    rcases List.mem_append.mp hx with e | e
    · exact behind_trans lt irr tr _ _ _ (hp x e) hb
    · simp at e; subst e; exact hb
include irr tr in
theorem prog_is_ref (r : List (List α × Bool)) : progT lt [] true r = refT lt (([], true) :: r) [] r := by
  rw [Bool.eq_iff_iff]
  exact ⟨prog_ref lt (([], true) :: r) r [([], true)] [] true (by simp) (by simp) (fun k hk => by simp at hk),
    ref_prog lt irr tr (([], true) :: r) r [] [] true (by simp) (fun x hx => by simp at hx)⟩
end
end Go.Proofs.YtlnaeppbhjmocaaDoor
set_option linter.unusedSimpArgs false
set_option linter.unusedVariables false
namespace Go.Proofs.YtlnaeppbhjmocaaDoor
open Go.RowKit Go.Proofs

def cutsL : List UInt8 → List UInt8 → List (List UInt8)
  | w, [] => [w]
  | w, c :: r => if c = 47 then w :: cutsL [] r else cutsL (w ++ [c]) r
theorem parts_cuts (s : List UInt8) : ∀ w, partsL w s = (cutsL w s).filter (fun x => decide (okW x)) := by
  induction s with
  | nil => intro w; by_cases h : okW w <;> simp [partsL, cutsL, h]
  | cons c r ih =>
    intro w
    by_cases hc : c = 47
    · subst hc
      by_cases h : okW w <;> simp [partsL, cutsL, h, ih]
    · simp [partsL, cutsL, hc, ih]
theorem cuts_no (s : List UInt8) (h : (47 : UInt8) ∉ s) : ∀ w, cutsL w s = [w ++ s] := by
  induction s with
  | nil => intro w; simp [cutsL]
  | cons c r ih =>
    intro w
    rw [cutsL, if_neg (fun e => h (by simp [e])), ih (fun e => h (by simp [e]))]
    simp
theorem cuts_at (a r : List UInt8) (h : (47 : UInt8) ∉ a) : ∀ w, cutsL w (a ++ 47 :: r) = (w ++ a) :: cutsL [] r := by
  induction a with
  | nil => intro w; simp [cutsL]
  | cons c t ih =>
    intro w
    rw [List.cons_append, cutsL, if_neg (fun e => h (by simp [e])), ih (fun e => h (by simp [e]))]
    simp
theorem ix_no {s : List UInt8} (h : Lib.indexByte s 47 = -1) : (47 : UInt8) ∉ s := fun e => by
  obtain ⟨k, hk, he⟩ := List.mem_iff_getElem.mp e
  exact Lib.indexByte_none h k (by rw [List.getElem?_eq_getElem hk, he])
theorem ix_at {s : List UInt8} {o : Nat} (h : Lib.indexByte s 47 = o) : o < s.length ∧ s = s.take o ++ 47 :: s.drop (o + 1) ∧ (47 : UInt8) ∉ s.take o := by
  obtain ⟨h1, h2⟩ := Lib.indexByte_some h
  have hlt : o < s.length := (List.getElem?_eq_some_iff.mp h1).1
  have he : s[o] = 47 := (List.getElem?_eq_some_iff.mp h1).2
  refine ⟨hlt, ?_, fun e => ?_⟩
  · conv => lhs; rw [← List.take_append_drop o s]
    rw [List.drop_eq_getElem_cons hlt, he]
  · obtain ⟨k, hk, he'⟩ := List.mem_iff_getElem.mp e
    have hk' : k < o := by rw [List.length_take] at hk; omega
    refine h2 k hk' ?_
    rw [List.getElem_take] at he'
    rw [List.getElem?_eq_getElem (by omega), he']
theorem ix_or (s : List UInt8) : Lib.indexByte s 47 = -1 ∨ ∃ o : Nat, Lib.indexByte s 47 = o := by
  have := Lib.indexByte_ge s 47
  by_cases h : Lib.indexByte s 47 = -1
  · exact .inl h
  · exact .inr ⟨(Lib.indexByte s 47).toNat, by omega⟩
theorem cuts_ix_no {s : List UInt8} (h : Lib.indexByte s 47 = -1) : cutsL [] s = [s] := by
  rw [cuts_no s (ix_no h)]; rfl
theorem cuts_ix {s : List UInt8} {o : Nat} (h : Lib.indexByte s 47 = o) : cutsL [] s = s.take o :: cutsL [] (s.drop (o + 1)) := by
  obtain ⟨_, h2, h3⟩ := ix_at h
  conv => lhs; rw [h2]
  rw [cuts_at _ _ h3]
  simp
theorem cuts_len (s : List UInt8) : ∀ w, (cutsL w s).length ≤ s.length + 1 := by
  induction s with
  | nil => intro w; simp [cutsL]
  | cons c r ih =>
    intro w
    rw [cutsL]
    split
    · have := ih []; simp; omega
    · have := ih (w ++ [c]); simp; omega

/-! ### Names of a text, a path, a leaf's path -/
def namesQ (s : List UInt8) : List ByteArray × Int :=
  if (0 : UInt8) ∈ s then ([], 160) else if 1023 < s.length then ([], 161) else
  if 64 < (partsL [] s).length ∨ ((partsL [] s).map toB).any (fun x => decide (63 < x.size)) = true then ([], 161) else ((partsL [] s).map toB, 0)
def splitQ (s : List UInt8) : List ByteArray × Int := if s.head? = some 47 then namesQ s else ([], 160)
def isUp (x : ByteArray) : Bool := x.data.toList == [46, 46]
def cleanQ (s : List UInt8) : List UInt8 × Int := if (splitQ s).2 = 0 then (pathL ((splitQ s).1.dropWhile isUp), 0) else ([], (splitQ s).2)
/-- the names of a leaf's path, if that may be -/
def namesP (s : List UInt8) : Option (List ByteArray) := if (cleanQ s).2 = 0 ∧ (cleanQ s).1 = s ∧ (splitQ s).1.any isUp = false then some (splitQ s).1 else none
theorem namesQ_err {s : List UInt8} : (namesQ s).2 = 0 ∨ (namesQ s).1 = [] ∧ ((namesQ s).2 = 160 ∨ (namesQ s).2 = 161) := by
  unfold namesQ
  split
  · exact .inr ⟨rfl, .inl rfl⟩
  · split
    · exact .inr ⟨rfl, .inr rfl⟩
    · split
      · exact .inr ⟨rfl, .inr rfl⟩
      · exact .inl rfl
theorem splitQ_err {s : List UInt8} : (splitQ s).2 = 0 ∨ (splitQ s).1 = [] ∧ ((splitQ s).2 = 160 ∨ (splitQ s).2 = 161) := by
  unfold splitQ
  split
  · exact namesQ_err
  · exact .inr ⟨rfl, .inl rfl⟩
theorem splitQ_head {s : List UInt8} (h : (splitQ s).2 = 0) : s.head? = some 47 := by
  unfold splitQ at h
  split at h
  · assumption
  · cases h
theorem parts_total (s : List UInt8) : ∀ w, ((partsL w s).map fun x => x.length + 1).sum ≤ w.length + s.length + 1 := by
  induction s with
  | nil => intro w; rw [partsL]; split <;> simp
  | cons c r ih =>
    intro w
    rw [partsL]
    split
    · split
      · have := ih []; simp at this ⊢; omega
      · have := ih []; simp at this ⊢; omega
    · have := ih (w ++ [c]); simp at this ⊢; omega
theorem splitQ_good {s : List UInt8} (h : (splitQ s).2 = 0) : s.length ≤ 1023 ∧ (0 : UInt8) ∉ s ∧ (splitQ s).1 = (partsL [] s).map toB ∧ (splitQ s).1.length ≤ 64 ∧ (∀ x ∈ (splitQ s).1, x.size ≤ 63) ∧ ((splitQ s).1.map fun x => x.size + 1).sum ≤ 1024 := by
  have hh := splitQ_head h
  unfold splitQ at h ⊢
  rw [if_pos hh] at h ⊢
  unfold namesQ at h ⊢
  split at h
  · cases h
  · rename_i h0
    split at h
    · cases h
    · rename_i h1
      split at h
      · cases h
      · rename_i h2
        rw [if_neg h0, if_neg h1, if_neg h2]
        have h3 : ¬ 64 < (partsL [] s).length := fun e => h2 (.inl e)
        refine ⟨by omega, h0, rfl, by rw [List.length_map]; omega, fun x hx => ?_, ?_⟩
        · rcases Nat.lt_or_ge 63 x.size with e | e
          · exact absurd (.inr (List.any_eq_true.2 ⟨x, hx, decide_eq_true e⟩)) h2
          · exact e
        · have := parts_total s []
          rw [List.map_map]
          have e : ((fun x : ByteArray => x.size + 1) ∘ toB) = fun x : List UInt8 => x.length + 1 := by funext x; rfl
          rw [e]
          simp at this ⊢
          omega
theorem pathL_len (l : List ByteArray) : (l.flatMap fun n => slash :: n.data.toList).length = (l.map fun x => x.size + 1).sum := by
  induction l with
  | nil => rfl
  | cons x r ih =>
    rw [List.flatMap_cons, List.length_append, ih, List.map_cons, List.sum_cons]
    show x.data.toList.length + 1 + _ = x.size + 1 + _
    rw [show x.data.toList.length = x.size from rfl]
theorem sum_drop (l : List ByteArray) (f : ByteArray → Bool) : ((l.dropWhile f).map fun x => x.size + 1).sum ≤ (l.map fun x => x.size + 1).sum := by
  induction l with
  | nil => simp
  | cons x r ih =>
    rw [List.dropWhile_cons]
    split
    · simp; omega
    · exact Nat.le_refl _
end Go.Proofs.YtlnaeppbhjmocaaDoor
set_option linter.unusedSimpArgs false
set_option linter.unusedVariables false
namespace Go.Proofs.YtlnaeppbhjmocaaDoor
open Go.RowKit Go.Proofs

def goodB (ty mo : Int) (dl : Nat) (tg : ByteArray) : Bool :=
  !(decide (mo < 0) || decide (4095 < mo) || (!decide (ty = 1) && decide (0 < dl)) || decide (16777216 < dl)) &&
    (if ty = 1 ∨ ty = 2 then decide (tg.data.toList = []) else if ty = 3 then targetB tg else false)

set_option maxRecDepth 100000 in
set_option maxHeartbeats 1600000 in
theorem good_any (pa : ByteArray) (ty mo st : Int) (A : Option Addr) (n c : Nat) (tg : ByteArray) (w : World) (hw : Ok w) :
    Calls Tryd.prog 47 #[.agg #[.string pa, .int .i64 ty, .int .i64 mo, .int .u64 st, .slice A n c, .string tg]] w fun e w' => e = .returned (.bool (goodB ty mo n tg)) ∧ Fr w w' := by
  obtain ⟨R, hR⟩ : ∃ R, goodB ty mo n tg = R := ⟨_, rfl⟩
  rw [hR]
  have HR := Lib.hid hR
  clear hR
  obtain ⟨w1, g, hg, hw1, f1, hz1, H1⟩ := boxedN hw #[.string pa, .int .i64 ty, .int .i64 mo, .int .u64 st, .slice A n c, .string tg] 45
  obtain ⟨c0, c1, c2, c3, c4, c5⟩ := blk6 H1
  have HF := Lib.hid f1
  have CT := goodTarget_any tg
  clear f1
  have hno : ∀ (a : Act) , True := fun _ => trivial
  by_cases hm0 : mo < 0
  · go_enter Tryd.func47, Tryd.ntmps47
    go_wp2_with fail
    go_ret
    refine ⟨?_, HF.out⟩
    rw [← HR.out]
    simp [goodB, hm0]
  · by_cases hm1 : 4095 < mo
    · go_enter Tryd.func47, Tryd.ntmps47
      go_wp2_with fail
      go_ret
      refine ⟨?_, HF.out⟩
      rw [← HR.out]
      simp [goodB, hm1]
    · have e0 : decide (mo < 0) = false := decide_eq_false hm0
      have e1 : decide (4095 < mo) = false := decide_eq_false hm1
      obtain ⟨bt, hbt⟩ : ∃ b, (tg.toList == ([] : List UInt8)) = b := ⟨_, rfl⟩
      have hbt2 : decide (tg.data.toList = []) = bt := by
        rw [← hbt, toL]
        cases tg.data.toList <;> simp
      have HB := Lib.hid hbt2
      clear hbt2
      by_cases h1 : ty = 1
      · subst h1
        by_cases hl : 16777216 < n
        · have d3 : (16777216 : Int) < (n : Int) := by omega
          go_enter Tryd.func47, Tryd.ntmps47
          go_wp2_with fail
          all_goals (go_ret; refine ⟨?_, HF.out⟩; rw [← HR.out]; simp [goodB, hl])
        · have d3 : (n : Int) ≤ 16777216 := by omega
          go_enter Tryd.func47, Tryd.ntmps47
          go_wp2_with fail
          all_goals (go_ret; refine ⟨?_, HF.out⟩; rw [← HR.out]; unfold goodB; rw [HB.out]; simp [hl, e0, e1])
      · by_cases hn : 0 < n
        · have d3 : (0 : Int) < (n : Int) := by omega
          go_enter Tryd.func47, Tryd.ntmps47
          go_wp2_with fail
          all_goals (go_ret; refine ⟨?_, HF.out⟩; rw [← HR.out]; simp [goodB, hn, h1])
        · obtain rfl : n = 0 := by omega
          by_cases h2 : ty = 2
          · subst h2
            go_enter Tryd.func47, Tryd.ntmps47
            go_wp2_with fail
            all_goals (go_ret; refine ⟨?_, HF.out⟩; rw [← HR.out]; unfold goodB; rw [HB.out]; simp [e0, e1])
          · by_cases h3 : ty = 3
            · subst h3
              go_enter Tryd.func47, Tryd.ntmps47
              go_wp2_with (first
                | (go_at_call 64; refine (CT _).mono ?_; rintro e wq ⟨rfl, he⟩; replace he := he.symm; subst he))
              all_goals (go_ret; refine ⟨?_, HF.out⟩; rw [← HR.out]; simp [goodB, e0, e1])
            · go_enter Tryd.func47, Tryd.ntmps47
              go_wp2_with fail
              all_goals (go_ret; refine ⟨?_, HF.out⟩; rw [← HR.out]; simp [goodB, e0, e1, h1, h2, h3])
end Go.Proofs.YtlnaeppbhjmocaaDoor
set_option linter.unusedSimpArgs false
set_option linter.unusedVariables false
namespace Go.Proofs.YtlnaeppbhjmocaaDoor
open Go.RowKit Go.Proofs Go.Proofs.YtlnaeppbhjmocaaDoorW.PrintWords Go.Proofs.YtlnaeppbhjmocaaDoorW.PrintMore

/-- leaves in a row; each one's data lie somewhere -/
def LAt (w : World) (A : Option Addr) (tv : List (Lf × Value)) : Prop := Row w A 6 (tv.map lcell) ∧ ∀ p ∈ tv, ∃ a d, p.2 = .slice a p.1.data.length d ∧ BytesAt w a p.1.data ∧ p.1.data.length ≤ d ∧ (a = none → d = 0)
theorem LAt.fr {w w' : World} {A : Option Addr} {tv : List (Lf × Value)} (h : LAt w A tv) (q : Fr w w') : LAt w' A tv :=
  ⟨h.1.fr q, fun p hp => by obtain ⟨a, d, e, hb, hd, hz⟩ := h.2 p hp; exact ⟨a, d, e, hb.fr q, hd, hz⟩⟩
theorem LAt.toAlike {w : World} {A : Option Addr} {tv : List (Lf × Value)} (h : LAt w A tv) (hn : tv.length ≤ 1099511627776) (hd : ∀ p ∈ tv, p.1.data.length ≤ 1099511627776) : Kd.C Palike.k45 w A (tv.map toS).length (tv.map toS) := by
  refine ⟨rfl, by rw [List.length_map]; omega, fun h0 => ?_⟩
  rw [List.length_map] at h0
  rcases h.1 with h1 | ⟨g, o, hA, hg, h1⟩
  · have : tv = [] := by simpa using h1
    rw [this] at h0; simp at h0
  · refine ⟨_, hA, fun j p hj => ?_⟩
    rw [List.getElem?_map, Option.map_eq_some_iff] at hj
    obtain ⟨q, hq, rfl⟩ := hj
    have hm := List.mem_of_getElem? hq
    obtain ⟨da, dc, hdv, hb, hdl, _⟩ := h.2 q hm
    refine ⟨lcell q, rfl, ?_, fun i u hu => ?_⟩
    · have := Palike.k45_mk w (toS q) (A4 := da) (c4 := dc) hdl (hb.toC (hd q hm))
      unfold lcell
      rw [hdv]
      exact this
    · have hi : i < 6 := by
        have := (List.getElem?_eq_some_iff.1 hu).1
        have hl6 : (lcell q).length = 6 := rfl
        omega
      have := h1 j (lcell q) (by rw [List.getElem?_map, hq]; rfl) i u hi hu
      have hsz : Palike.k45.sz = 6 := rfl
      rw [hsz, Lib.add_plain]
      rw [show o + (j * 6 + i) = o + j * 6 + i by omega]
      exact this

/-- the model's order of texts is that of their bytes -/
theorem bl_eq : ∀ (x y : List UInt8), Op.bytesLess x y = decide (x < y)
  | [], [] => by simp [Op.bytesLess]
  | [], _ :: _ => by simp [Op.bytesLess]
  | _ :: _, [] => by simp [Op.bytesLess]
  | a :: x, b :: y => by
    rw [Op.bytesLess, bl_eq x y, Bool.eq_iff_iff]
    simp [List.cons_lt_cons_iff]
/-! ### The bytes of a tree -/
/-- a file's data, cut -/
def cutB (L : List Int) : List Int := le (L.length : Int) 4 ++ (stretX L).flatMap (stretB L)
/-- a leaf's piece; ns: its names -/
def pieceH (l : Lf) (ns : List ByteArray) : List Int := [((ns.length - 1 : Nat) : Int), l.ty] ++ le l.mode 2 ++ le l.stamp 8 ++ [((ns.getLastD ⟨#[]⟩).size : Int)] ++ bytesI (ns.getLastD ⟨#[]⟩)
def pieceT (l : Lf) : List Int := if l.ty = 1 then cutB l.data else if l.ty = 3 then [(l.tgt.size : Int)] ++ bytesI l.tgt else []
def pieceB (l : Lf) (ns : List ByteArray) : List Int := pieceH l ns ++ pieceT l
def headX (l : Lf) : List Int := [80, 82, 67, 76, 1] ++ le l.mode 2 ++ le l.stamp 8
/-- may a leaf be, its names -/
def okL (l : Lf) : Bool := goodB l.ty l.mode l.data.length l.tgt
def nmL (l : Lf) : List ByteArray := (namesP l.path.data.toList).getD []
def ltB (a b : ByteArray) : Bool := Op.bytesLess a.toList b.toList
/-- may these leaves stand behind a leaf of these names (a directory or not) -/
def restB : List ByteArray → Bool → List Lf → Bool
  | _, _, [] => true
  | ahead, dir, l :: r => (namesP l.path.data.toList).isSome && okL l && stepX ltB ahead dir (nmL l) && restB (nmL l) (decide (l.ty = 2)) r
/-- Pack: the bytes, or the error -/
def packX (t : List Lf) : List Int × Int :=
  match t with
  | [] => ([], 190)
  | l :: r =>
    if l.path.data.toList = [47] ∧ l.ty = 2 then
      if okL l = true ∧ restB [] true r = true then
        let m := headX l ++ r.flatMap (fun x => pieceB x (nmL x)) ++ [255]
        (m ++ le (crcI m) 4, 0)
      else ([], 191)
    else ([], 190)
theorem okL_ty {l : Lf} (h : okL l = true) : 1 ≤ l.ty ∧ l.ty ≤ 3 ∧ 0 ≤ l.mode ∧ l.mode ≤ 4095 ∧ l.data.length ≤ 16777216 ∧ (l.ty ≠ 1 → l.data = []) ∧ (l.ty ≠ 3 → l.tgt = ⟨#[]⟩) ∧ (l.ty = 3 → targetB l.tgt = true) := by
  unfold okL goodB at h
  rw [Bool.and_eq_true] at h
  obtain ⟨h1, h2⟩ := h
  simp only [Bool.not_eq_true', Bool.or_eq_false_iff, decide_eq_false_iff_not, Bool.and_eq_false_iff, Bool.not_eq_false', decide_eq_true_eq] at h1
  obtain ⟨⟨⟨a1, a2⟩, a3⟩, a4⟩ := h1
  have htg : ∀ t : ByteArray, t.data.toList = [] → t = ⟨#[]⟩ := fun t e => bs_ext e
  by_cases t1 : l.ty = 1
  · rw [if_pos (.inl t1)] at h2
    exact ⟨by omega, by omega, by omega, by omega, by omega, fun e => absurd t1 e, fun _ => htg _ (by simpa using h2), fun e => by omega⟩
  · have hd : l.data = [] := by
      rcases a3 with e | e
      · exact absurd e t1
      · exact List.eq_nil_of_length_eq_zero (by omega)
    by_cases t2 : l.ty = 2
    · rw [if_pos (.inr t2)] at h2
      exact ⟨by omega, by omega, by omega, by omega, by omega, fun _ => hd, fun _ => htg _ (by simpa using h2), fun e => by omega⟩
    · rw [if_neg (by omega)] at h2
      by_cases t3 : l.ty = 3
      · rw [if_pos t3] at h2
        exact ⟨by omega, by omega, by omega, by omega, by omega, fun _ => hd, fun e => absurd t3 e, fun _ => h2⟩
      · rw [if_neg t3] at h2; cases h2
/-! ### Names -/
theorem partsL_good (s : List UInt8) : ∀ w : List UInt8, (47 : UInt8) ∉ w → ∀ x ∈ partsL w s, okW x ∧ (47 : UInt8) ∉ x ∧ ((0 : UInt8) ∈ x → (0 : UInt8) ∈ w ++ s) := by
  induction s with
  | nil =>
    intro w hw x hx
    rw [partsL] at hx
    split at hx
    · rename_i h
      obtain rfl : x = w := by simpa using hx
      exact ⟨h, hw, fun h0 => by simpa using h0⟩
    · cases hx
  | cons c r ih =>
    intro w hw x hx
    rw [partsL] at hx
    split at hx
    · split at hx
      · rename_i h
        rcases List.mem_cons.mp hx with e | e
        · subst e; exact ⟨h, hw, fun h0 => by simp [h0]⟩
        · obtain ⟨h1, h2, h3⟩ := ih [] (by simp) x e
          exact ⟨h1, h2, fun h0 => by have := h3 h0; simp at this ⊢; exact .inr (.inr this)⟩
      · obtain ⟨h1, h2, h3⟩ := ih [] (by simp) x hx
        exact ⟨h1, h2, fun h0 => by have := h3 h0; simp at this ⊢; exact .inr (.inr this)⟩
    · rename_i hc
      obtain ⟨h1, h2, h3⟩ := ih (w ++ [c]) (by simp [hw]; exact fun e => hc e.symm) x hx
      exact ⟨h1, h2, fun h0 => by have := h3 h0; simp at this ⊢; exact this⟩
/-- a leaf's names, if its path may be -/
theorem namesP_good {s : List UInt8} {ns : List ByteArray} (h : namesP s = some ns) : s = pathL ns ∧ (∀ n ∈ ns, nameB n = true) ∧ ns.length ≤ 64 ∧ s.length ≤ 1023 := by
  unfold namesP at h
  split at h
  · rename_i hc
    injection h with h
    have h4 : (splitQ s).2 = 0 := by
      have := hc.1
      unfold cleanQ at this
      split at this
      · assumption
      · rename_i h5; exact absurd this h5
    obtain ⟨g1, g2, g3, g4, g5, g6⟩ := splitQ_good h4
    have hd : (splitQ s).1.dropWhile isUp = (splitQ s).1 := by
      have h5 := hc.2.2
      revert h5
      generalize (splitQ s).1 = l
      intro h5
      cases l with
      | nil => rfl
      | cons x r =>
        rw [List.any_cons, Bool.or_eq_false_iff] at h5
        rw [List.dropWhile_cons, h5.1]
        rfl
    have hs : s = pathL ns := by
      have h6 := hc.2.1
      unfold cleanQ at h6
      rw [if_pos h4, hd, h] at h6
      exact h6.symm
    refine ⟨hs, fun n hn => ?_, by rw [← h]; exact g4, g1⟩
    rw [← h] at hn
    have hup : isUp n = false := by
      have h5 := hc.2.2
      rw [List.any_eq_false] at h5
      simpa using h5 n hn
    have hsz := g5 n hn
    rw [g3] at hn
    obtain ⟨x, hx, rfl⟩ := List.mem_map.mp hn
    obtain ⟨k1, k2, k3⟩ := partsL_good s [] (by simp) x hx
    have hx0 : (0 : UInt8) ∉ x := fun e => g2 (by simpa using k3 e)
    have hu : x ≠ [46, 46] := by
      intro e
      rw [e] at hup
      simp [isUp, toB] at hup
    have hsz2 : (toB x).size = x.length := rfl
    have hd2 : (toB x).data.toList = x := rfl
    unfold nameB
    rw [hd2]
    have h1 : decide (1 ≤ (toB x).size ∧ (toB x).size ≤ 63) = true := by
      apply decide_eq_true
      refine ⟨?_, hsz⟩
      rw [hsz2]
      exact List.length_pos_iff.mpr k1.1
    have h2 : (x != [46]) = true := by simpa using k1.2
    have h3 : (x != [46, 46]) = true := by simpa using hu
    have h7 : noneOf x = true := by
      unfold noneOf
      rw [List.all_eq_true]
      intro c hc'
      have a1 : c ≠ 0 := fun e => hx0 (e ▸ hc')
      have a2 : c ≠ 47 := fun e => k2 (e ▸ hc')
      simp [a1, a2]
    rw [h1, h2, h3, h7]
    rfl
  · cases h
end Go.Proofs.YtlnaeppbhjmocaaDoor
set_option linter.unusedSimpArgs false
set_option linter.unusedVariables false
namespace Go.Proofs.YtlnaeppbhjmocaaDoor
open Go.RowKit Go.Proofs

/-- the invariant abides new blocks, draws, and what is stored into the blocks M -/
def Abide {β : Type} (M : Nat → Prop) (J : β → World → Prop) : Prop :=
  ∀ s A B row, J s A → A.grownBy B row → (∀ r, row = some r → M r) → J s B

/-- the iterator gives xs, one by one; Kp: what it asks of a round to keep -/
def Gives {α : Type} (F : Fence) (n : Nat) (P : Program) (g : Nat) (lb : Array Value) (encs : α → Array Value) (Kp : World → World → Prop) (M : Nat → Prop) (xs : List α) (w : World) : Prop :=
  ∀ (l : Nat) (J : List α → World → Prop) (W : World), w.grownBy W none → Abide M J →
    (∀ pre x post W1, xs = pre ++ x :: post → J pre W1 → YieldAt F (n - 1) P l (encs x) W1 fun e W' => e = .returned (.bool true) ∧ J (pre ++ [x]) W' ∧ Kp W1 W') →
    J [] W → CallsIn F n P g (#[.func (.yield l) #[] #[]] ++ lb) W fun e W' => (∃ v, e = .returned v) ∧ J xs W'

/-- how a round ends: normally -/
def roundOn {α : Type} (B : Nat) (Kp : World → World → Prop) (I : List α → World → Prop) (xs : List α) (W : World) : Exit → Act → World → Prop
  | .normal, _, W' => KeepsFrom B W W' ∧ Kp W W' ∧ I xs W'
  | _, _, _ => False

set_option maxHeartbeats 800000 in
theorem wp_range {F : Fence} {n : Nat} {P : Program} {α : Type} {g : Operand} {ps : Array Tmp} {assign body : Code} {Q : Exit → Act → World → Prop} {a : Act} {w : World}
    (hro : F.round = none) (h1 : 1 ≤ n) {gf : Nat} {lb : Array Value} (hg : a.eval g = .func (.func gf) #[] lb) (hFg : F.fn gf) (eg : ∀ args w, (callFunc gf args).run P w = .ok (.enter gf args) w)
    {encs : α → Array Value} {Kp : World → World → Prop} {M : Nat → Prop} {xs : List α} (hseq : Gives F (n - 1) P gf lb encs Kp M xs w)
    (hKt : ∀ {A B C : World}, Kp A B → Kp B C → Kp A C) (hKb : ∀ (W : World) (l : Nat) (o' : Obj), w.heap.size ≤ l → Kp W (W.putObj l o')) (hM : ∀ r, M r → r < w.heap.size) (hps : ∀ x, (encs x).size = ps.size)
    (I : List α → World → Prop) (hI : ∀ s A B row, I s A → A.grownBy B row → (∀ r, row = some r → M r ∨ (w.heap.size ≤ r ∧ ∃ o : Obj, A.heap[r]? = some o ∧ o.isCells = false)) → I s B) (h0 : I [] w)
    (Ax : α → Act → World → Prop) (hAx : ∀ x a' A B r, Ax x a' A → A.grownBy B (some r) → w.heap.size ≤ r → (∃ o : Obj, A.heap[r]? = some o ∧ o.isCells = false) → Ax x a' B)
    (hassign : ∀ (l : Nat) (pre : List α) (x : α) (W : World) (K : Act → World → Prop), I pre W → (∀ a' W', KeepsFrom w.heap.size W W' → Kp W W' → I pre W' → Ax x a' W' → K a' W') →
      assign.wpIn (F.inRound l) (n - 1 - 1) P (Exit.then K (fun _ _ _ => False)) { tmps := (ps.zip (encs x)).foldl (fun t (p, v) => t.setIfInBounds p v) a.tmps, defers := [] } W)
    (hbody : ∀ (l : Nat) (pre : List α) (x : α) (post : List α) (a' : Act) (W : World), xs = pre ++ x :: post → I pre W → Ax x a' W → body.wpIn (F.inRound l) (n - 1 - 1) P (roundOn w.heap.size Kp I (pre ++ [x]) W) a' W)
    (hdone : ∀ (D : Nat) (W : World), w.heap.size ≤ D → I xs W → W.heap[D]? = some (.deferred (some [])) → Q .normal { a with defers := { target := .collected D, args := #[] } :: a.defers } W) :
    (Code.rangeFunc g ps assign body).wpIn F n P Q a w := by
  have hIp : ∀ {s : List α} {W : World} {k : Nat} {o : Obj} (o' : Obj), I s W → w.heap.size ≤ k → W.heap[k]? = some o → o.isCells = false → I s (W.putObj k o') :=
    fun {s W k o} o' hs hk ho hc => hI s W _ (some k) hs (grownBy_putObj' W k o') (fun r e => by cases e; exact .inr ⟨hk, o, ho, hc⟩)
  have hIa : ∀ {s : List α} {W : World} (o : Obj), I s W → I s (W.alloc o) := fun {s W} o hs => hI s W _ none hs (World.grownBy_alloc W o none) (fun r e => by cases e)
  refine wpIn_rangeFunc ?_
  intro fn hfn
  rw [hro]
  obtain ⟨rec, hrec⟩ : ∃ rec : LoopState → Option Code → Loop, rec = fun st pe => { state := st, pending := pe, fn, tmps := a.tmps, params := ps, assign, body, defers := w.heap.size } := ⟨_, rfl⟩
  obtain ⟨W1, hW1⟩ : ∃ W1, (w.alloc (.deferred (some []))).alloc (.loop (rec .ready none)) = W1 := ⟨_, rfl⟩
  have hL1 : W1.heap[w.heap.size + 1]? = some (.loop (rec .ready none)) := by
    rw [← hW1]; have := World.alloc_heap_new (w.alloc (.deferred (some []))) (.loop (rec .ready none)); rwa [World.size_alloc] at this
  have hK1 : W1.heap[w.heap.size]? = some (.deferred (some [])) := by
    rw [← hW1]; exact (Below.heap_alloc _ _ _ (by simp)).trans (World.alloc_heap_new w _)
  have hI1 : I [] W1 := by rw [← hW1]; exact hIa _ (hIa _ h0)
  have hb1 : w.grownBy W1 none := by
    rw [← hW1]; exact grown_trans (World.grownBy_alloc w _ none) (World.grownBy_alloc _ _ none)
  refine ⟨w.heap.size + 1, [{ target := .collected w.heap.size, args := #[] }], W1, { target := .fn (.func gf) lb, args := #[.func (.yield (w.heap.size + 1)) #[] #[]] }, W1, gf,
    #[.func (.yield (w.heap.size + 1)) #[] #[]] ++ lb, W1, ?_, ?_, ?_, ?_, fun _ => h1, ?_⟩
  · rw [← hW1, hrec]; exact run_enterLoop_outer _ _ _ _ _
  · simp only [resolve, hg]
    simp [go_sem]
  · intro f' hf'; simp [Target.leads] at hf'; subst hf'; exact hFg
  · simp [invoke, go_sem, eg]
  · have far : ∀ {A B : World} {row : Option Nat} {k : Nat} {o : Obj}, A.grownBy B row → (∀ r, row = some r → M r) → w.heap.size ≤ k → A.heap[k]? = some o → B.heap[k]? = some o := fun {A B row k o} hg' hr hk ho =>
      (hg'.block k (Array.getElem?_eq_some_iff.1 ho).1 (fun e => by have := hM k (hr k e.symm); omega)).trans ho
    refine (hseq (w.heap.size + 1)
      (fun pre W => I pre W ∧ W.heap[w.heap.size + 1]? = some (.loop (rec .ready none)) ∧ W.heap[w.heap.size]? = some (.deferred (some [])))
      W1 hb1
      (fun s A B row hs hg' hr => ⟨hI s A B row hs.1 hg' (fun r e => .inl (hr r e)), far hg' hr (by omega) hs.2.1, far hg' hr (Nat.le_refl _) hs.2.2⟩)
      ?_ ⟨hI1, hL1, hK1⟩).mono ?_
    · rintro pre x post W hxs ⟨hi, hl, hk⟩
      have hlt : w.heap.size + 1 < W.heap.size := (Array.getElem?_eq_some_iff.1 hl).1
      have hy := run_yield (P := P) (args := encs x) hl (by rw [hrec]; exact hps x)
      rw [hrec] at hy
      refine ⟨fn, _, assign, body, hy, roundIn_of_wpIn hfn (hassign _ pre x W _ hi ?_)⟩
      clear hy
      intro a' Wa hkfa hkpa hia hax
      have hl' := hkfa.same _ _ (by omega) hl rfl
      have hk' := hkfa.same _ _ (Nat.le_refl _) hk rfl
      have hlt' : w.heap.size + 1 < Wa.heap.size := (Array.getElem?_eq_some_iff.1 hl').1
      refine ⟨_, run_beginRound hl' (by rw [hrec]), ?_⟩
      have hl2 : (Wa.putObj (w.heap.size + 1) (.loop { rec .ready none with state := .busy })).heap[w.heap.size + 1]? = some (.loop { rec .ready none with state := .busy }) := World.putObj_heap_same hlt'
      have hk2 : (Wa.putObj (w.heap.size + 1) (.loop { rec .ready none with state := .busy })).heap[w.heap.size]? = some (.deferred (some [])) := (World.putObj_heap_other (by omega)).trans hk'
      have hw2 : Kp Wa (Wa.putObj (w.heap.size + 1) (.loop { rec .ready none with state := .busy })) := hKb _ _ _ (by omega)
      refine wpIn_mono (hbody _ pre x post a' _ hxs (hIp _ hia (by omega) hl' rfl) (hAx x a' _ _ _ hax (grownBy_putObj' _ _ _) (by omega) ⟨_, hl', rfl⟩)) ?_
      rintro e a3 W3 hp
      cases e with
      | normal =>
        obtain ⟨hk3, hkp3, hi3⟩ := hp
        have hl3 := hk3.same _ _ (by omega) hl2 rfl
        have hr : (Instr.endRound (w.heap.size + 1) none).run P W3 = .ok (.bool true) (W3.putObj (w.heap.size + 1) (.loop (rec .ready none))) := by
          have := run_endRound (P := P) none hl3
          rw [hrec] at this ⊢; exact this
        exact ⟨_, _, hr, rfl, ⟨hIp _ hi3 (by omega) hl3 rfl, World.putObj_heap_same (Array.getElem?_eq_some_iff.1 hl3).1, (World.putObj_heap_other (by omega)).trans (hk3.same _ _ (Nat.le_refl _) hk2 rfl)⟩, hKt hkpa (hKt (hKt hw2 hkp3) (hKb _ _ _ (by omega)))⟩
      | ret => exact hp.elim
      | exit id => exact hp.elim
      | goto t => exact hp.elim
      | panic ch => exact hp.elim
      | outgrown => exact hp.elim
    · rintro e W2 ⟨⟨v, rfl⟩, hi, hl, hk⟩
      exact ⟨none, _, by have := run_endLoop (P := P) hl (by rw [hrec]; simp); rw [hrec] at this; exact this, hdone _ _ (Nat.le_refl _) (hIp _ hi (by omega) hl rfl) ((World.putObj_heap_other (by omega)).trans hk)⟩

/-- .. where the loop's variable lies in a box of its own -/
theorem wp_range_box {F : Fence} {n : Nat} {P : Program} {α : Type} {g : Operand} {p : Tmp} {assign body : Code} {Q : Exit → Act → World → Prop} {a : Act} {w : World}
    (s : Nat) (T : TypeId) (cf : α → Array Value)
    (hro : F.round = none) (h1 : 1 ≤ n) {gf : Nat} {lb : Array Value} (hg : a.eval g = .func (.func gf) #[] lb) (hFg : F.fn gf) (eg : ∀ args w, (callFunc gf args).run P w = .ok (.enter gf args) w)
    {enc : α → Value} {Kp : World → World → Prop} {M : Nat → Prop} {xs : List α} (hseq : Gives F (n - 1) P gf lb (fun x => #[enc x]) Kp M xs w)
    (hKt : ∀ {A B C : World}, Kp A B → Kp B C → Kp A C) (hKb : ∀ (W : World) (l : Nat) (o' : Obj), w.heap.size ≤ l → Kp W (W.putObj l o')) (hM : ∀ r, M r → r < w.heap.size)
    (I : List α → World → Prop) (hI : ∀ s A B row, I s A → A.grownBy B row → (∀ r, row = some r → M r ∨ (w.heap.size ≤ r ∧ ∃ o : Obj, A.heap[r]? = some o ∧ o.isCells = false)) → I s B) (h0 : I [] w)
    (hassign : ∀ (l : Nat) (pre : List α) (x : α) (W : World) (K : Act → World → Prop), I pre W →
      (∀ (gs : Nat) W', KeepsFrom w.heap.size W W' → Kp W W' → I pre W' → w.heap.size ≤ gs → W'.heap[gs]? = some (.cells (cf x) T (0, 0)) →
        K { tmps := (a.tmps.setIfInBounds p (enc x)).setIfInBounds s (.pointer (some ⟨gs, 0, none⟩)), defers := [] } W') →
      assign.wpIn (F.inRound l) (n - 1 - 1) P (Exit.then K (fun _ _ _ => False)) { tmps := a.tmps.setIfInBounds p (enc x), defers := [] } W)
    (hbody : ∀ (l : Nat) (pre : List α) (x : α) (post : List α) (gs : Nat) (W : World), xs = pre ++ x :: post → I pre W → w.heap.size ≤ gs → W.heap[gs]? = some (.cells (cf x) T (0, 0)) →
      body.wpIn (F.inRound l) (n - 1 - 1) P (roundOn w.heap.size Kp I (pre ++ [x]) W) { tmps := (a.tmps.setIfInBounds p (enc x)).setIfInBounds s (.pointer (some ⟨gs, 0, none⟩)), defers := [] } W)
    (hdone : ∀ (D : Nat) (W : World), w.heap.size ≤ D → I xs W → W.heap[D]? = some (.deferred (some [])) → Q .normal { a with defers := { target := .collected D, args := #[] } :: a.defers } W) :
    (Code.rangeFunc g #[p] assign body).wpIn F n P Q a w :=
  have hz : ∀ (v : Value) (t : Array Value), (#[p].zip #[v]).foldl (fun t (p, v) => t.setIfInBounds p v) t = t.setIfInBounds p v := fun v t => by simp
  wp_range hro h1 hg hFg eg hseq hKt hKb hM (fun _ => rfl) I hI h0
    (fun x a' W => ∃ gs, w.heap.size ≤ gs ∧ W.heap[gs]? = some (.cells (cf x) T (0, 0)) ∧ a' = { tmps := (a.tmps.setIfInBounds p (enc x)).setIfInBounds s (.pointer (some ⟨gs, 0, none⟩)), defers := [] })
    (by
      rintro x a' A B r ⟨gs, h1, h2, h3⟩ hG hr ⟨o, ho, hc⟩
      refine ⟨gs, h1, (hG.block gs (Array.getElem?_eq_some_iff.1 h2).1 (fun e => ?_)).trans h2, h3⟩
      injection e with e
      subst e
      rw [h2] at ho
      injection ho with ho
      subst ho
      cases hc)
    (fun l pre x W K hi hK => by
      rw [hz]
      exact hassign l pre x W K hi (fun gs W' k1 k2 k3 k4 k5 => hK _ _ k1 k2 k3 ⟨gs, k4, k5, rfl⟩))
    (fun l pre x post a' W hx hi ha => by
      obtain ⟨gs, h1, h2, rfl⟩ := ha
      exact hbody l pre x post gs W hx hi h1 h2)
    hdone
end Go.Proofs.YtlnaeppbhjmocaaDoor
