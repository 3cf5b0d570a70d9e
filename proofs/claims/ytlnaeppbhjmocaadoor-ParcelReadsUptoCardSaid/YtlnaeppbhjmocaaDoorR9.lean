/- ParcelReads: for every row of bytes whose bulk is at most 1048576 the law returns true. The row and its card. -/
import Derived.Test.YtlnaeppbhjmocaaDoorR8
import Derived.RegionTactic
import Derived.ChangeAlike
import Derived.Lib.SlBytesConst
import Derived.Test.YtlnaeppbhjmocaaDoorPalikex1
import Derived.Test.YtlnaeppbhjmocaaDoorPsamex1
import Derived.Test.YtlnaeppbhjmocaaDoorPnox1
import Derived.Laws.MakeOwn
import Derived.Below
import Derived.OpenShut
import Derived.Deep.DeepHandedRow
import Derived.ProofKit
set_option linter.unusedSimpArgs false
set_option linter.unusedVariables false
namespace Go.Proofs.YtlnaeppbhjmocaaDoor
open Go.RowKit Go.Proofs

set_option maxRecDepth 100000 in
theorem catch_idle (p1 p2 : Addr) (w : World) :
    CallsD Tryd.prog 34 #[.pointer (some p1), .pointer (some p2)] .returning w fun e u' w' => e = .returned (.tuple #[]) ∧ u' = .returning ∧ w' = w := by
  refine callsD_of_wpS Tryd.func34 rfl fun c₀ cs hu => ?_
  apply wpS_seq
  apply wpS_region
  simp [wpOpsS, go_sem, recoverD, hu, Tryd.ntmps34, Exit.thenS]
  apply wpS_seq
  apply wpS_region
  simp [wpOpsS, go_sem, Exit.thenS]
  refine wpS_cond (t := false) (by simp [Act.eval, Array.replicate]) ?_
  simp only [Bool.false_eq_true, if_false]
  refine wpS_of_wp (wp_skip ?_)
  cases c₀
  simp_all [bodyPostS, results, Tryd.results34, Exit.thenS]

theorem run_assertF (v : Value) (xT : TypeId) (w : World) : (Instr.typeAssert (.iface 63 v) xT 63 true).run Tryd.prog w = .ok (.tuple #[v, .bool true]) w := by
  simp [Instr.typeAssert, run_underlying Tryd.underlying63, go_sem, Result.andThen]
theorem set_stepF {w0 w : World} {B g : Nat} {cs : Array Value} {t : TypeId} {fz : Nat × Nat} (hb : Below B w0 w) (hB : B ≤ g) (H : w.heap[g]? = some (.cells cs t fz)) (j : Nat) (v : Value) :
    ∃ w1, w.setCell ⟨g, j, none⟩ v = w1 ∧ w1.heap[g]? = some (.cells (cs.setIfInBounds j v) t fz) ∧ Below B w0 w1 ∧ ∀ k o, w.heap[k]? = some o → k ≠ g → w1.heap[k]? = some o :=
  ⟨_, rfl, by simp [World.setCell, Array.getElem?_modify, H], hb.setCell hB v, fun k o hk hne => (Below.heap_setCell w ⟨g, j, none⟩ v k hne).trans hk⟩

set_option maxHeartbeats 3200000 in
set_option maxRecDepth 100000 in
theorem catch_bad (x : Int) (g g1 : Nat) (hg1 : g < g1) (older : List PanicEntry) (w : World)
    (v0 c1 : Value) (H0 : w.heap[g]? = some (.cells #[v0] 26 (0, 0))) (H1 : w.heap[g1]? = some (.cells #[c1] 29 (0, 0))) :
    CallsD Tryd.prog 34 #[.pointer (some ⟨g, 0, none⟩), .pointer (some ⟨g1, 0, none⟩)] (.panicking ({ v := .iface 63 (.agg #[.int .i64 x]), recovered := false } :: older)) w fun e u' w' =>
      e = .returned (.tuple #[]) ∧ u' = .panicking ({ v := .iface 63 (.agg #[.int .i64 x]), recovered := true } :: older) ∧ Below g w w' ∧
      w'.heap[g]? = some (.cells #[.slice none 0 0] 26 (0, 0)) ∧ w'.heap[g1]? = some (.cells #[.int .i64 x] 29 (0, 0)) := by
  refine callsD_of_wpS Tryd.func34 rfl fun c₀ cs hu => ?_
  apply wpS_seq
  apply wpS_region
  simp [wpOpsS, go_sem, recoverD, hu, Tryd.ntmps34, Exit.thenS]
  obtain ⟨Q0, hQ0⟩ : ∃ Q0 : Exit → Act → World → Prop, Q0 = (fun e a' w' => e = .normal ∧ a'.defers = [] ∧ Below g w w' ∧
      w'.heap[g]? = some (.cells #[.slice none 0 0] 26 (0, 0)) ∧ w'.heap[g1]? = some (.cells #[.int .i64 x] 29 (0, 0))) := ⟨_, rfl⟩
  replace hQ0 := Lib.hid hQ0
  refine wpS_of_wp (wp_mono (Q := Q0) ?_ ?_)
  · have ht : (#[.pointer (some ⟨g, 0, none⟩), .pointer (some ⟨g1, 0, none⟩)] ++ (((Array.replicate 16 undef).setIfInBounds 3 (.iface 63 (.agg #[.int .i64 x]))).setIfInBounds 0 (.iface 63 (.agg #[.int .i64 x]))) : Array Value) = #[.pointer (some ⟨g, 0, none⟩), .pointer (some ⟨g1, 0, none⟩), .iface 63 (.agg #[.int .i64 x]), undef, undef, .iface 63 (.agg #[.int .i64 x]), undef, undef, undef, undef, undef, undef, undef, undef, undef, undef, undef, undef] := by simp [Array.replicate, List.replicate]
    rw [ht]
    clear ht
    have hta := run_assertF
    have hlt0 := (Array.getElem?_eq_some_iff.1 H0).1
    have hlt1 := (Array.getElem?_eq_some_iff.1 H1).1
    obtain ⟨gf, hgf⟩ : ∃ gf, w.heap.size = gf := ⟨_, rfl⟩
    obtain ⟨wf, hwf⟩ : ∃ wf, w.alloc (.cells #[.int .i64 x] 63) = wf := ⟨_, rfl⟩
    have b0 : Below g w wf := by rw [← hwf]; exact (Below.refl g w).alloc (by omega) _
    have G0 : wf.heap[g]? = some (.cells #[v0] 26 (0, 0)) := by rw [← hwf, heap_alloc_old w _ hlt0]; exact H0
    have P0 : wf.heap[g1]? = some (.cells #[c1] 29 (0, 0)) := by rw [← hwf, heap_alloc_old w _ hlt1]; exact H1
    have F0 : wf.heap[gf]? = some (.cells #[.int .i64 x] 63 (0, 0)) := by rw [← hwf, ← hgf]; exact heap_alloc_new w _
    obtain ⟨w1, e1, G1, b1, o1⟩ := set_stepF b0 (Nat.le_refl g) G0 0 (.slice none 0 0)
    have n1 : g1 ≠ g := by omega
    have P1 := o1 _ _ P0 n1
    obtain ⟨w8, e8, G8, b8, o8⟩ := set_stepF b1 (Nat.le_of_lt hg1) P1 0 (.int .i64 x)
    have R0 : w8.heap[g]? = some (.cells #[.slice none 0 0] 26 (0, 0)) := by
      have := o8 g _ G1 (by omega)
      simpa only [List.setIfInBounds_toArray, List.set_cons_zero, List.set_cons_succ] using this
    have R1 : w8.heap[g1]? = some (.cells #[.int .i64 x] 29 (0, 0)) := G8
    have f0 := blk1 F0
    have zf := unfroz F0 0
    have jf := idemC F0 f0
    have f1 := blk1 (o1 _ _ F0 (by omega))
    have c0 := blk1 G0
    have z0 := unfroz G0 0
    have y2 := unfroz P1 0
    have q0 := blk1 P1
    have F := Lib.hid (And.intro b8 (And.intro R0 R1))
    clear F0 b0 b1 b8 o1 o8 G0 G1 G8 P0 P1 H0 H1 n1 hlt0 hlt1 R0 R1
    go_wp2
    go_region
    all_goals (rw [hQ0.out]; exact ⟨rfl, rfl, F.out.1.drew, F.out.2⟩)
  · rw [hQ0.out]
    rintro e a' w' ⟨rfl, hd, hb, h0, h1⟩
    exact ⟨hd, _, rfl, .tuple #[], by simp [results, Tryd.results34], rfl, rfl, hb, h0, h1⟩

/-- what Read ends with -/
def ReadOut (w : World) (P : List Lf × Int) (e : Ending) (w' : World) : Prop := ∃ v, e = .returned (.tuple #[v, .int .i64 P.2]) ∧ Fr w w' ∧ TreeAt w' w.heap.size v P.1
set_option maxRecDepth 100000 in
theorem door_bad (x : Int) (T : Array Value) (g g1 : Nat) (hg1 : g < g1) (w0 w : World) (hw0 : Ok w0) (f : Fr w0 w) (hB : w0.heap.size ≤ g)
    (hT2 : T[2]? = some (.pointer (some ⟨g, 0, none⟩))) (hT3 : T[3]? = some (.pointer (some ⟨g1, 0, none⟩)))
    (v0 c1 : Value) (H0 : w.heap[g]? = some (.cells #[v0] 26 (0, 0))) (H1 : w.heap[g1]? = some (.cells #[c1] 29 (0, 0))) :
    Leaves Tryd.prog Tryd.f15 T (fun e w' => ReadOut w0 ([], x) e w') [{ target := .fn (.func 34) #[.pointer (some ⟨g, 0, none⟩), .pointer (some ⟨g1, 0, none⟩)], args := #[] }] (.panicking [{ v := .iface 63 (.agg #[.int .i64 x]), recovered := false }]) w := by
  refine leaves_cons (f := 34) (args := #[.pointer (some ⟨g, 0, none⟩), .pointer (some ⟨g1, 0, none⟩)]) (by simp) (by simp [go_sem]) ?_
  refine (catch_bad x g g1 hg1 [] w v0 c1 H0 H1).mono ?_
  rintro e u' w'' ⟨rfl, rfl, hb, h0, h1⟩
  have q : Fr w0 w'' := Fr.of hw0 (f.below.trans (hb.mono hB))
  have c0 := blk1 h0
  have d0 := blk1 h1
  simp [Leaves, settle, results, Tryd.results15, go_sem, hT2, hT3, c0, d0]
  exact ⟨_, rfl, q, TreeAt.nil _ _⟩
set_option maxRecDepth 100000 in
theorem door_ok (T : Array Value) (g g1 : Nat) (w0 w : World) (v : Value) (x : Int) (lfs : List Lf) (f : Fr w0 w) (hv : TreeAt w w0.heap.size v lfs)
    (hT2 : T[2]? = some (.pointer (some ⟨g, 0, none⟩))) (hT3 : T[3]? = some (.pointer (some ⟨g1, 0, none⟩)))
    (H0 : w.heap[g]? = some (.cells #[v] 26 (0, 0))) (H1 : w.heap[g1]? = some (.cells #[.int .i64 x] 29 (0, 0))) :
    Leaves Tryd.prog Tryd.f15 T (fun e w' => ReadOut w0 (lfs, x) e w') [{ target := .fn (.func 34) #[.pointer (some ⟨g, 0, none⟩), .pointer (some ⟨g1, 0, none⟩)], args := #[] }] .returning w := by
  refine leaves_cons (f := 34) (args := #[.pointer (some ⟨g, 0, none⟩), .pointer (some ⟨g1, 0, none⟩)]) (by simp) (by simp [go_sem]) ?_
  refine (catch_idle _ _ _).mono ?_
  rintro e u' w'' ⟨rfl, rfl, rfl⟩
  have c0 := blk1 H0
  have d0 := blk1 H1
  simp [Leaves, settle, results, Tryd.results15, go_sem, hT2, hT3, c0, d0]
  exact ⟨_, rfl, f, hv⟩
end Go.Proofs.YtlnaeppbhjmocaaDoor
set_option linter.unusedSimpArgs false
set_option linter.unusedVariables false
namespace Go.Proofs.YtlnaeppbhjmocaaDoor
open Go.RowKit Go.Proofs Go.Proofs.YtlnaeppbhjmocaaDoorW.PrintWords Go.Proofs.YtlnaeppbhjmocaaDoorW.PrintMore

theorem bytesIn_of {w : World} {A : Option Addr} {L : List Int} (h : BytesAt w A L) : Lib.BytesIn w A L.length L := fun h0 => by
  rcases h with h | ⟨g, o, rfl, _, h⟩
  · rw [h] at h0; simp at h0
  · exact ⟨g, o, rfl, fun i hi => by rw [show L.getD i 0 = L[i] by simp [List.getD, hi]]; exact h i _ (List.getElem?_eq_getElem hi)⟩
theorem u8_eq (k : Nat) (hk : k ≤ 255) (a : Int) (h : 0 ≤ a ∧ a ≤ 255) : (UInt8.ofNat k == UInt8.ofNat a.toNat) = (a == (k : Int)) := by
  by_cases e : a = (k : Int)
  · subst e; simp
  · rw [show (a == (k : Int)) = false by simpa using e]
    rw [beq_eq_false_iff_ne]
    intro h2
    have := congrArg UInt8.toNat h2
    simp only [UInt8.toNat_ofNat'] at this
    omega
theorem head_prefix {L : List Int} (hb : bytesOk L) : Lib.hasPrefix (Lib.bytesOf L) (Lib.bytesOf [80, 82, 67, 76, 1]) = headB L := by
  by_cases h5 : 5 ≤ L.length
  · rw [headB_iff h5]
    match L, h5, hb with
    | a :: b :: c :: d :: e :: r, _, hb =>
      have ha := hb a (by simp)
      have hb' := hb b (by simp)
      have hc := hb c (by simp)
      have hd := hb d (by simp)
      have he := hb e (by simp)
      have e1 := u8_eq 80 (by omega) a ha
      have e2 := u8_eq 82 (by omega) b hb'
      have e3 := u8_eq 67 (by omega) c hc
      have e4 := u8_eq 76 (by omega) d hd
      have e5 := u8_eq 1 (by omega) e he
      simp only [Lib.hasPrefix, Lib.bytesOf, List.map_cons, List.map_nil, List.isPrefixOf]
      have t80 : (80 : Int).toNat = 80 := rfl
      have t82 : (82 : Int).toNat = 82 := rfl
      have t67 : (67 : Int).toNat = 67 := rfl
      have t76 : (76 : Int).toNat = 76 := rfl
      have t1 : (1 : Int).toNat = 1 := rfl
      rw [t80, t82, t67, t76, t1, e1, e2, e3, e4, e5]
      simp [Bool.and_assoc]
  · rw [headB_len (by omega)]
    match L, h5 with
    | [], _ => rfl
    | [a], _ => simp [Lib.hasPrefix, Lib.bytesOf, List.isPrefixOf]
    | [a, b], _ => simp [Lib.hasPrefix, Lib.bytesOf, List.isPrefixOf]
    | [a, b, c], _ => simp [Lib.hasPrefix, Lib.bytesOf, List.isPrefixOf]
    | [a, b, c, d], _ => simp [Lib.hasPrefix, Lib.bytesOf, List.isPrefixOf]
    | a :: b :: c :: d :: e :: r, h => exact absurd (by simp) h
theorem head_row {w : World} (h : Ok w) : ∃ w1 g, w.heap.size = g ∧ (convert 22 22 (.slice (some ⟨g, 0, none⟩) 5 5)).run Tryd.prog (w.alloc (.cells #[.int .u8 80, .int .u8 82, .int .u8 67, .int .u8 76, .int .u8 1] 5)) = .ok (.slice (some ⟨g, 0, none⟩) 5 5) w1 ∧ Fr w w1 ∧ g < w1.heap.size ∧ w1.heap[g]? = some (.cells #[.int .u8 80, .int .u8 82, .int .u8 67, .int .u8 76, .int .u8 1] 5 (5, 6)) :=
  ⟨_, _, rfl, Lib.run_convert_bytes_const (P := Tryd.prog) w 22 5 #[.int .u8 80, .int .u8 82, .int .u8 67, .int .u8 76, .int .u8 1] 5 5 Tryd.underlying22 Tryd.underlying5, (Fr.refl h).alloc _, by simp, heap_alloc_new w _⟩
theorem fr_of_grown {w w' : World} (h : Ok w) (q : w.grownBy w' none) : Fr w w' := Fr.of h ⟨q.os, q.tape, q.output, q.size, fun k hk => q.block k hk (by simp)⟩

set_option maxHeartbeats 12800000 in
set_option maxRecDepth 100000 in
theorem pread_no (A : Option Addr) (c : Nat) (L : List Int) (w : World) (hw : Ok w) (hA : BytesAt w A L) (hb : bytesOk L) (hc : L.length ≤ c) (hL : L.length ≤ 1073741824) (hh : headB L = false) :
    Calls Tryd.prog 15 #[.slice A L.length c] w fun e w' => ReadOut w ([], 190) e w' := by
  have hmf : ∀ (fn : Fn) (first cap : Array Value) (w : World), (Instr.makeFunc fn first cap).run Tryd.prog w = .ok (.func fn first cap) w := fun _ _ _ _ => rfl
  obtain ⟨w2, g2, hg2, hw2, f2, hz2, H2⟩ := boxedN hw #[.slice none 0 0] 26
  obtain ⟨w3, g3, hg3, hw3, f3, hz3, HE⟩ := boxedN f2.ok #[.int .i64 0] 29
  obtain ⟨w4, g4, hg4, hkc, f4, hz4, H4⟩ := head_row f3.ok
  have s2 := f2.size
  have s3 := f3.size
  have h23 : g2 ≠ g3 := by omega
  have f := f2.trans (f3.trans f4)
  replace H2 := f4.heap (f3.heap H2)
  replace HE := f4.heap HE
  have hB2 : w.heap.size ≤ g2 := by omega
  have hB3 : w.heap.size ≤ g3 := by omega
  have hp := Tryd.bytes_HasPrefix_all A (some ⟨g4, 0, none⟩) L.length c 5 5 L [80, 82, 67, 76, 1] w4 rfl rfl hc (bytesIn_of (hA.fr f)) (fun _ => ⟨g4, 0, rfl, fun i hi => by
    rw [Nat.zero_add]
    obtain ⟨k0, k1, k2, k3, k4⟩ := blk5 H4
    rcases (by omega : i = 0 ∨ i = 1 ∨ i = 2 ∨ i = 3 ∨ i = 4) with rfl | rfl | rfl | rfl | rfl
    · exact k0
    · exact k1
    · exact k2
    · exact k3
    · exact k4⟩)
  rw [head_prefix hb, hh] at hp
  have HPf := Lib.hid hp
  have i2 := blk1 H2
  have z2 := unfroz H2 0
  have j2 := idemC H2 i2
  have i3 := blk1 HE
  have z3 := unfroz HE 0
  obtain ⟨w6, hw6, H6, q6⟩ := set_grown HE 0 (.int .i64 190)
  simp only [List.setIfInBounds_toArray, List.set_cons_zero, List.set_cons_succ] at H6
  have HF := Lib.hid (And.intro (row_own f hw q6 hB3) (And.intro (grown_blk' q6 H2 (by simpa using h23)) H6))
  clear hA hb hc H4 f2 f3 f4 s2 s3 hz2 hz3 hz4 hp hh f q6 H6 H2 HE
  go_enter_defers Tryd.func15, Tryd.ntmps15
  go_wp2_with (go_at_call 35; refine HPf.out.mono ?_; rintro e wx ⟨rfl, rfl⟩)
  have hT : ∀ T ds, T[2]? = some (.pointer (some ⟨g2, 0, none⟩)) → T[3]? = some (.pointer (some ⟨g3, 0, none⟩)) → ds = [{ target := .fn (.func 34) #[.pointer (some ⟨g2, 0, none⟩), .pointer (some ⟨g3, 0, none⟩)], args := #[] }] → Leaves Tryd.prog Tryd.f15 T (fun e w' => ReadOut w ([], 190) e w') ds .returning w6 := fun T ds h1 h2 hds => by
    subst hds
    exact door_ok T g2 g3 w w6 (.slice none 0 0) 190 [] HF.out.1 (TreeAt.nil _ _) h1 h2 HF.out.2.1 HF.out.2.2
  exact hT _ _ rfl rfl rfl

theorem readX_tail {crc : List Int → Int} {L : List Int} (hh : headB L = true) : readX crc L = endX crc L (treeR L (numX L 2 0 4095 (.ok 5)) (numX L 8 0 18446744073709551615 (numX L 2 0 4095 (.ok 5)).2)).1 (treeR L (numX L 2 0 4095 (.ok 5)) (numX L 8 0 18446744073709551615 (numX L 2 0 4095 (.ok 5)).2)).2 := by
  unfold readX; rw [if_pos hh]
theorem endX_err {crc : List Int → Int} {L : List Int} {t : List Lf} {o : Er} {e : Int} (h : (takeX L 4 (takeX L 1 o).2).2 = .error e) : endX crc L t o = ([], e) := by
  rw [endX_E, h]; rfl
set_option maxHeartbeats 12800000 in
set_option maxRecDepth 100000 in
theorem pread_yes (gb ob c : Nat) (L : List Int) (w : World) (hw : Ok w) (hA : BytesAt w (some ⟨gb, ob, none⟩) L) (hgl : gb < w.heap.size) (hb : bytesOk L) (hc : L.length ≤ c) (hL : L.length ≤ 1073741824) (hg : 4 ≤ w.heap.size) (hh : headB L = true) :
    Calls Tryd.prog 15 #[.slice (some ⟨gb, ob, none⟩) L.length c] w fun e w' => ReadOut w (readX crcI L) e w' := by
  have hmf : ∀ (fn : Fn) (first cap : Array Value) (w : World), (Instr.makeFunc fn first cap).run Tryd.prog w = .ok (.func fn first cap) w := fun _ _ _ _ => rfl
  have h5 : 5 ≤ L.length := by
    by_cases h : L.length < 5
    · rw [headB_len h] at hh; cases hh
    · omega
  have htl := readX_tail (crc := crcI) hh
  obtain ⟨TR, hTR⟩ : ∃ p, treeR L (numX L 2 0 4095 (.ok 5)) (numX L 8 0 18446744073709551615 (numX L 2 0 4095 (.ok 5)).2) = p := ⟨_, rfl⟩
  rw [hTR] at htl
  obtain ⟨PP, hPP⟩ : ∃ P, readX crcI L = P := ⟨_, rfl⟩
  rw [hPP] at htl ⊢
  obtain ⟨w2, g2, hg2, hw2, f2, hz2, H2⟩ := boxedN hw #[.slice none 0 0] 26
  obtain ⟨w3, g3, hg3, hw3, f3, hz3, HE⟩ := boxedN f2.ok #[.int .i64 0] 29
  obtain ⟨w4, g4, hg4, hkc, f4, hz4, H4⟩ := head_row f3.ok
  obtain ⟨w5, g5, hg5, hw5, f5, hz5, H5⟩ := boxedN f4.ok #[.slice (some ⟨gb, ob, none⟩) L.length c, .int .i64 5] 67
  have s2 := f2.size
  have s3 := f3.size
  have s4 := f4.size
  have h23 : g2 < g3 := by omega
  have n25 : some g2 ≠ some g5 := by simp; omega
  have nE5 : some g3 ≠ some g5 := by simp; omega
  have n2E : some g2 ≠ some g3 := by simp; omega
  have f := f2.trans (f3.trans (f4.trans f5))
  have sf5 := f.size
  replace H2 := f5.heap (f4.heap (f3.heap H2))
  replace HE := f5.heap (f4.heap HE)
  have HR : PB w5 g5 (some ⟨gb, ob, none⟩) c L 5 := H5
  have hB2 : w.heap.size ≤ g2 := by omega
  have hB3 : w.heap.size ≤ g3 := by omega
  have hB5 : w.heap.size ≤ g5 := by omega
  have hgb : gb ≠ g5 := by omega
  have hg5n : 4 ≤ g5 := by omega
  have hp := Tryd.bytes_HasPrefix_all (some ⟨gb, ob, none⟩) (some ⟨g4, 0, none⟩) L.length c 5 5 L [80, 82, 67, 76, 1] w4 rfl rfl hc (bytesIn_of (hA.fr (f2.trans (f3.trans f4)))) (fun _ => ⟨g4, 0, rfl, fun i hi => by
    rw [Nat.zero_add]
    obtain ⟨k0, k1, k2, k3, k4⟩ := blk5 H4
    rcases (by omega : i = 0 ∨ i = 1 ∨ i = 2 ∨ i = 3 ∨ i = 4) with rfl | rfl | rfl | rfl | rfl
    · exact k0
    · exact k1
    · exact k2
    · exact k3
    · exact k4⟩)
  rw [head_prefix hb, hh] at hp
  have HPf := Lib.hid hp
  have HY := Lib.hid htl
  have HBy := Lib.hid hb
  have hTr := Lib.hid (fun (X : Int → Prop) hx => ptree_any X g5 gb ob c L 5 w5 f.ok HR h5 (hA.fr f) hgb hb hc hL hg5n hx)
  rw [hTR] at hTr
  have hTk := Lib.hid (fun (X : Int → Prop) (W : World) (fW : Fr w W) i HR hi k h1 hx => take_or X g5 gb ob c L i k W fW.ok HR hi (hA.fr fW) hgb h1 hc hL hg5n hx)
  have hAf := Lib.hid (fun (W : World) (fW : Fr w W) => hA.fr fW)
  have hDie : Hid (∀ T W x v0 c1, PP = ([], x) → Fr w W → T[2]? = some (.pointer (some ⟨g2, 0, none⟩)) → T[3]? = some (.pointer (some ⟨g3, 0, none⟩)) → W.heap[g2]? = some (.cells #[v0] 26 (0, 0)) → W.heap[g3]? = some (.cells #[c1] 29 (0, 0)) →
      Leaves Tryd.prog Tryd.f15 T (fun e w' => ReadOut w PP e w') [{ target := .fn (.func 34) #[.pointer (some ⟨g2, 0, none⟩), .pointer (some ⟨g3, 0, none⟩)], args := #[] }] (.panicking [{ v := .iface 63 (.agg #[.int .i64 x]), recovered := false }]) W) :=
    Lib.hid (fun T W x v0 c1 hP f h2 h3 h4 h5 => by subst hP; exact door_bad x T g2 g3 h23 w W hw f hB2 h2 h3 v0 c1 h4 h5)
  have hEnd : Hid (∀ T W v x lfs ds, PP = (lfs, x) → Fr w W → TreeAt W w.heap.size v lfs → T[2]? = some (.pointer (some ⟨g2, 0, none⟩)) → T[3]? = some (.pointer (some ⟨g3, 0, none⟩)) → W.heap[g2]? = some (.cells #[v] 26 (0, 0)) → W.heap[g3]? = some (.cells #[.int .i64 x] 29 (0, 0)) → ds = [{ target := .fn (.func 34) #[.pointer (some ⟨g2, 0, none⟩), .pointer (some ⟨g3, 0, none⟩)], args := #[] }] →
      Leaves Tryd.prog Tryd.f15 T (fun e w' => ReadOut w PP e w') ds .returning W) :=
    Lib.hid (fun T W v x lfs ds hP f hv h2 h3 h4 h5 hds => by subst hP hds; exact door_ok T g2 g3 w W v x lfs f hv h2 h3 h4 h5)
  have hX1 : Hid (∀ e, (takeX L 1 TR.2).2 = .error e → PP = ([], e)) := Lib.hid (fun e h => by rw [htl]; exact endX_err (by rw [h]; rfl))
  have i2 := blk1 H2
  have z2 := unfroz H2 0
  clear hA hb H4 H5 f2 f3 f4 f5 s2 s3 s4 hz2 hz3 hz4 hz5 hp hh htl hTR hPP
  go_enter_defers Tryd.func15, Tryd.ntmps15
  go_upto_if 32 with (first
    | (go_at_call 35; refine HPf.out.mono ?_; rintro e wx ⟨rfl, rfl⟩)
    | (go_at_call 36; go_loud (have ct := hTr.out (fun e => PP = ([], e)) hX1.out); refine ct.mono ?_; clear ct; rintro e wt ⟨q, ⟨cc, hcc, he⟩ | ⟨v, j, rfl, hT, hz, HRa, hj⟩⟩ <;> replace f := row_own f hw q hB5 <;> replace H2 := grown_blk' q H2 n25 <;> replace HE := grown_blk' q HE nE5 <;> first
      | (unfold gaveUp at he; subst he)
      | (clear i2 z2 q HR; go_loud (obtain ⟨a, tv, d, rfl, htv, HO, HLO⟩ := hT); have HR := HRa; clear HRa; have i2 := blk1 H2; have z2 := unfroz H2 0; go_loud (obtain ⟨wu, hwu, HM, q⟩ := set_grown H2 0 (.slice a tv.length d); simp only [List.setIfInBounds_toArray, List.set_cons_zero] at HM; have HO2 := Lib.hid (own_grown HO q H2 (by decide)); have HLO2 := Lib.hid (HLO.cells q H2 (by decide)); replace f := row_own f hw q hB2; replace HE := grown_blk' q HE n2E.symm; replace HR := PB.grown HR q n25.symm; clear q H2 HO HLO; have H2 := HM; clear HM); have HTV := Lib.hid htv; have HZ := Lib.hid hz; clear htv hz; (obtain ⟨r0, r1⟩ := blk2 HR)))
    | (go_at_call 37; go_loud (have ct := hTk.out (fun e => PP = ([], e)) _ f j HR hj 4 (by omega) (fun e h => by rw [HY.out]; exact endX_err (by rw [HZ.out]; exact h))); refine ct.mono ?_; clear ct; rintro e wt2 ⟨q, ⟨cc, hcc, he⟩ | ⟨sb, o9, d9, hE4, rfl, hd9, hs4, hB9, HRa, hj4⟩⟩ <;> replace f := row_own f hw q hB5 <;> replace H2 := grown_blk' q H2 n25 <;> replace HE := grown_blk' q HE nE5 <;> first
      | (unfold gaveUp at he; subst he)
      | (clear hwu i2 z2 r0 r1; go_loud (replace HO2 := Lib.hid (own_grown HO2.out q HR (by decide)); replace HLO2 := Lib.hid (HLO2.out.cells q HR (by decide))); clear q HR; have HR := HRa; clear HRa; have HE4 := Lib.hid hE4; have hsb := takeX_ok HBy.out 4 (.ok j); rw [hE4] at hsb; have HSB := Lib.hid hsb.1; have hs4' : sb.length ≤ 4 := (by omega); clear hE4 hs4 hsb; have s0 : (0 : Int) ≤ (j : Int) := (by omega); have s1 : (j : Int) ≤ (c : Int) := (by omega); (obtain ⟨cr, hcr⟩ : ∃ x, crcI (L.take j) = x := ⟨_, rfl⟩); have hcrr := crcI_rg (HBy.out.take j); rw [hcr] at hcrr; have HCR := Lib.hid hcr; have hlen : (L.take j).length = j := (by rw [List.length_take]; omega); go_loud (have hsm := sum_any (some ⟨gb, ob, none⟩) c (L.take j) (HBy.out.take j) (by omega) (by omega) wt2 f.ok (by have := (hAf.out _ f).sub 0 j; simpa using this)); rw [hlen, hcr] at hsm; have HSM := Lib.hid hsm; go_loud (have hpt := put_any w.heap.size none 0 [] cr 4 hcrr.1 (by omega) (by omega) wt2 f.ok (OwnB.nil _ _) f.size (by simp)); have HPT := Lib.hid hpt; clear hsm hpt hcr hlen; have wcr : IntKind.u64.wrap cr = cr := u64_in ⟨by omega, by omega⟩))
    | (go_at_call 40; refine HSM.out.mono ?_; rintro e wx ⟨rfl, rfl⟩)
    | (go_at_call 39; go_loud (refine HPT.out.mono ?_); rintro e wp ⟨pa, pd, rfl, hOp, q, _⟩; have q2 := fr_of_grown f.ok q; rw [List.nil_append] at hOp; have hcv1 := conv_str wp (hB9.fr q2) (by omega) d9; have hcv2 := conv_str wp hOp.at.1 (by rw [le_length]; omega) pd; have f9 := f.trans q2; have H29 := q2.heap H2; have HE9 := q2.heap HE; have HR9 := HR.fr q2; have HF9 := Lib.hid (And.intro (own_fr HO2.out q2) (HLO2.out.fr q2)); (obtain ⟨bq, hbq⟩ : ∃ b, ((strOfNums sb).toList == (strOfNums (le cr 4)).toList) = b := ⟨_, rfl⟩); clear q q2 hOp hB9)
    | (go_at_call 38; go_loud (refine (Tryd.bytes_Equal_strs _ _ _ _ _ hcv1 hcv2).mono ?_); rintro e wq ⟨rfl, rfl⟩))
  all_goals try (exact hDie.out _ _ cc _ _ hcc f rfl rfl H2 HE)
  have hE : PP = if bq = true then (if j + 4 < L.length then ([], 190) else (TR.1, 0)) else ([], 192) := by
    have hx := HY.out
    rw [endX_E, HZ.out, HE4.out] at hx
    dsimp only [endE] at hx
    rw [show j + 4 - 4 = j by omega, HCR.out] at hx
    rw [hx, ← hbq]
    have hs := strOfNums_inj HSB.out (fun x hx => le_mem cr 4 x hx)
    by_cases h : sb = le cr 4
    · have hb : ((strOfNums sb).toList == (strOfNums (le cr 4)).toList) = true := by rw [h]; exact beq_self_eq_true _
      rw [hb, if_pos h]; rfl
    · have hb : ((strOfNums sb).toList == (strOfNums (le cr 4)).toList) = false := beq_eq_false_iff_ne.2 (fun k => h (hs (bs_ext (by rw [← toL, ← toL]; exact k))))
      rw [hb, if_neg h]; rfl
  have HEE := Lib.hid hE
  obtain ⟨r0, r1⟩ := blk2 HR9
  have i2 := blk1 H29
  have z2 := unfroz H29 0
  have i3 := blk1 HE9
  have z3 := unfroz HE9 0
  obtain ⟨wA, hwA, HA, qA⟩ := set_grown H29 0 (.slice none 0 0)
  simp only [List.setIfInBounds_toArray, List.set_cons_zero] at HA
  have fA := row_own f9 hw qA hB2
  have HEA := grown_blk' qA HE9 n2E.symm
  have i3A := blk1 HEA
  have z3A := unfroz HEA 0
  obtain ⟨wB, hwB, HB, qB⟩ := set_grown HEA 0 (.int .i64 192)
  obtain ⟨wC, hwC, HC, qC⟩ := set_grown HEA 0 (.int .i64 190)
  simp only [List.setIfInBounds_toArray, List.set_cons_zero] at HB HC
  have HFB := Lib.hid (And.intro (row_own fA hw qB hB3) (And.intro (grown_blk' qB HA n2E) HB))
  have HFC := Lib.hid (And.intro (row_own fA hw qC hB3) (And.intro (grown_blk' qC HA n2E) HC))
  have j2 := idemC H29 i2
  have j3 := idemC HE9 i3
  have HF0 := Lib.hid (And.intro f9 (And.intro H29 HE9))
  clear hE HA qA fA HEA HB qB HC qC H2 HE HR HR9 H29 HE9 hcv1 hcv2 f f9
  cases bq with
  | false =>
    go_wp2_with fail
    exact hEnd.out _ _ (.slice none 0 0) 192 [] _ (by rw [HEE.out]; rfl) HFB.out.1 (TreeAt.nil _ _) rfl rfl HFB.out.2.1 HFB.out.2.2 rfl
  | true =>
    by_cases hlt : j + 4 < L.length
    · have d7 : (j : Int) + 4 < (L.length : Int) := by omega
      have HLT := Lib.hid hlt
      clear hlt
      go_wp2_with fail
      exact hEnd.out _ _ (.slice none 0 0) 190 [] _ (by rw [HEE.out, if_pos trivial, if_pos HLT.out]) HFC.out.1 (TreeAt.nil _ _) rfl rfl HFC.out.2.1 HFC.out.2.2 rfl
    · have d7 : (L.length : Int) ≤ (j : Int) + 4 := by omega
      have HLT := Lib.hid hlt
      clear hlt
      go_wp2_with fail
      exact hEnd.out _ _ (.slice a tv.length d) 0 TR.1 _ (by rw [HEE.out, if_pos trivial, if_neg HLT.out]) HF0.out.1 ⟨a, tv, d, rfl, HTV.out, own_low HF9.out.1 (by omega), HF9.out.2.low (by omega)⟩ rfl rfl HF0.out.2.1 HF0.out.2.2 rfl
theorem pread_any (A : Option Addr) (c : Nat) (L : List Int) (w : World) (hw : Ok w) (hA : BytesAt w A L) (hb : bytesOk L) (hc : L.length ≤ c) (hL : L.length ≤ 1073741824) (hg : 4 ≤ w.heap.size) :
    Calls Tryd.prog 15 #[.slice A L.length c] w fun e w' => ReadOut w (readX crcI L) e w' := by
  cases hh : headB L with
  | false =>
    have : readX crcI L = ([], 190) := by unfold readX; rw [hh]; rfl
    rw [this]
    exact pread_no A c L w hw hA hb hc hL hh
  | true =>
    have hA' := hA
    rcases hA with h | ⟨g, o, rfl, hlt, h⟩
    · subst h; simp [headB] at hh
    · exact pread_yes g o c L w hw hA' hlt hb hc hL hg hh
end Go.Proofs.YtlnaeppbhjmocaaDoor
set_option linter.unusedSimpArgs false
set_option linter.unusedVariables false
namespace Go.Proofs.YtlnaeppbhjmocaaDoor
open Go.RowKit Go.Proofs Go.Proofs.YtlnaeppbhjmocaaDoorW.PrintWords Go.Proofs.YtlnaeppbhjmocaaDoorW.PrintMore

def full70 (L : List Int) : List Int := L ++ List.replicate 70 92
set_option maxHeartbeats 3200000 in
set_option maxRecDepth 100000 in
theorem roomy_any (A : Option Addr) (c : Nat) (L : List Int) (hc : L.length ≤ c) (hL : L.length ≤ 1073741824) (w : World) (hw : Ok w) (hA : BytesAt w A L) (hAc : A = none → c = 0) :
    Calls Tryd.prog 14 #[.slice A L.length c] w fun e w' => ∃ a d, e = .returned (.slice a (full70 L).length d) ∧ OwnB w' w.heap.size (.slice a (full70 L).length d) (full70 L) ∧ Fr w w' := by
  obtain ⟨iB, hiB, hzB, hsB, hyB⟩ := info_byte
  have HiB := Lib.hid hiB
  obtain ⟨w1, hmk, O1, q1⟩ := run_make_own (P := Tryd.prog) (w := w) w.heap.size 22 5 iB (.int .u8 0) 1 Tryd.underlying22 hiB hzB hsB .i64 .i64 (L.length + 70) (by rw [hyB]; omega) (by unfold maxLen; omega) (Nat.le_refl _)
  have f1 := fr_of_grown hw q1
  obtain ⟨v2, w2, hap, O2, q2, hob⟩ := append_src Tryd.underlying22 hiB hzB hsB hyB rfl (by decide) 22 O1 A L.length c _ (bytes_src (hA.fr f1) hAc) (by simp) (map_one L) (by unfold maxLen; omega) (by omega) f1.size
  have f2 := f1.row hw q2 (own_base' O1)
  have hO2 : OwnB w2 w.heap.size v2 L := by unfold OwnB; simpa using O2
  obtain ⟨a2, d2, hv2⟩ := hO2.form
  subst hv2
  have wl : IntKind.i64.wrap ((L.length : Int) + 70) = (L.length : Int) + 70 := IntWalk.i64_in _ ⟨by omega, by omega⟩
  have HO2 := Lib.hid hO2
  have HF2 := Lib.hid f2
  have hmk2 : (Instr.makeSlice 22 (.int .i64 0) (.int .i64 ((L.length : Int) + 70))).run Tryd.prog w = .ok (.slice (some ⟨w.heap.size, 0, none⟩) 0 (L.length + 70)) w1 := by
    have : ((L.length + 70 : Nat) : Int) = (L.length : Int) + 70 := by omega
    rw [← this]; exact hmk
  clear hmk O1 q1 f1 O2 q2 hob f2 hO2 hiB hA
  go_enter Tryd.func14, Tryd.ntmps14
  go_wp2_with (at_builtin; refine wpList_append_run rfl _ _ 22 22 rfl (by simp [Act.eval]) (by simp [Act.eval]) hap ?_)
  clear hap hmk2
  go_loopg [3, 4] 70 (fun k v3 v4 wc => ∃ (i : Nat) (a : Option Addr) (d : Nat), i + k = 70 ∧ v3 = .slice a (L.length + i) d ∧ v4 = .int .i64 i ∧ Hid (OwnB wc w.heap.size (.slice a (L.length + i) d) (L ++ List.replicate i 92)) ∧ Hid (Fr w wc))
  case atStart => exact ⟨0, a2, d2, rfl, rfl, rfl, Lib.hid (by simpa using HO2.out), HF2⟩
  case round =>
    clear HO2 HF2
    obtain ⟨i, a, d, hik, rfl, rfl, O, f⟩ := hrel
    cases gk with
    | zero =>
      obtain rfl : i = 70 := by omega
      go_wp2
      go_ret
      exact ⟨a, d, by unfold full70; simp, by have := O.out; unfold full70; simpa using this, f.out⟩
    | succ k =>
      have d1 : decide ((i : Int) < 70) = true := decide_eq_true (by omega)
      obtain ⟨w3, g3, hg3, hw3, f3, hz3, H3⟩ := boxedN f.out.ok #[.int .u8 92] 5
      have O3 := O.out.fr f3
      have O3' : w3.ownsRow w.heap.size 5 1 (.slice a (L.length + i) d) (L.length + i) ((L ++ List.replicate i 92).map (Value.int .u8)) := by
        have := O3; unfold OwnB at this; rwa [show (L ++ List.replicate i (92 : Int)).length = L.length + i by simp] at this
      obtain ⟨v5, w5, hap, O5, q5, hob⟩ := append_src Tryd.underlying22 HiB.out hzB hsB hyB rfl (by decide) 22 O3' (some ⟨g3, 0, none⟩) 1 1 _ (Src.lit H3 1 1) (by simp) (by simp [Value.oneCell']) (by unfold maxLen; omega) (by omega) (f.out.trans f3).size
      obtain ⟨a5, d5, hv5⟩ := own_form O5
      subst hv5
      have hO5 : Hid (OwnB w5 w.heap.size (.slice a5 (L.length + (i + 1)) d5) (L ++ List.replicate (i + 1) 92)) := Lib.hid (by
        unfold OwnB
        rw [show (L ++ List.replicate (i + 1) (92 : Int)).length = L.length + i + 1 by simp; omega, List.replicate_succ', ← List.append_assoc, List.map_append]
        exact O5)
      have F5 := Lib.hid ((f.out.trans f3).row hw q5 (own_base' O3'))
      clear O3 O3' O5 q5 hob f3 H3
      go_wp2_with (at_builtin; refine wpList_append_run rfl _ _ 22 22 rfl (by simp [Act.eval]) (by simp [Act.eval]) hap ?_)
      go_roundg k
      case measure => omega
      case rel => exact ⟨i + 1, a5, d5, by omega, rfl, by go_num, hO5, F5⟩

theorem same_true {w : World} (hw : Ok w) {A A' : Option Addr} {c c' : Nat} {xs : List Int} (h : BytesAt w A xs) (h' : BytesAt w A' xs) (hc : xs.length ≤ c) (hc' : xs.length ≤ c') (hL : xs.length ≤ 1099511627776) :
    Calls Tryd.prog 22 #[.slice A xs.length c, .slice A' xs.length c'] w fun e w' => e = .returned (.bool true) ∧ Fr w w' := by
  refine (Psame.shalelaw18_same.calls A c xs A' c' xs true w (h.toC (by omega)) hc (h'.toC (by omega)) hc' ?_).mono fun e w' ⟨he, hb⟩ => ⟨he, Fr.of hw hb.below⟩
  unfold Psame.shalelaw18_same.f
  simp
theorem no_any (x : Int) (w : World) (hw : Ok w) : Calls Tryd.prog 16 #[.int .i64 x] w fun e w' => e = .returned (.int .i64 x) ∧ Fr w w' :=
  (Pno.shalelaw18_no.calls x x w rfl).mono fun e w' ⟨he, hb⟩ => ⟨he, Fr.of hw hb.below⟩
set_option maxHeartbeats 3200000 in
set_option maxRecDepth 100000 in
theorem kept_true (g c : Nat) (A : Option Addr) (c' : Nat) (L : List Int) (hc : L.length + 70 ≤ c) (hc' : L.length ≤ c') (hL : L.length ≤ 1073741824) (w : World) (hw : Ok w) (hF : BytesAt w (some ⟨g, 0, none⟩) (full70 L)) (hA : BytesAt w A L) :
    Calls Tryd.prog 18 #[.slice (some ⟨g, 0, none⟩) (L.length + 70) c, .slice A L.length c'] w fun e w' => e = .returned (.bool true) ∧ Fr w w' := by
  have hl : (full70 L).length = L.length + 70 := by simp [full70]
  have hsub : BytesAt w (some ⟨g, 0, none⟩) L := by
    have := hF.sub 0 L.length
    simpa [full70] using this
  have HS := Lib.hid (same_true (c := c) (c' := c') hw hsub hA (by omega) hc' (by omega))
  have HC : Hid (∀ j, L.length ≤ j → j < L.length + 70 → w.cell? ⟨g, j, none⟩ = some (.int .u8 92)) := Lib.hid (fun j h1 h2 => by
    have := bytes_cell hF j (by omega)
    rw [Nat.zero_add] at this
    rw [this]
    have hv : (full70 L).getD j 0 = 92 := by
      unfold full70
      rw [List.getD_eq_getElem?_getD, List.getElem?_append_right h1, List.getElem?_replicate, if_pos (by omega)]
      rfl
    rw [hv])
  have wl : IntKind.i64.wrap ((L.length : Int) + 70) = (L.length : Int) + 70 := IntWalk.i64_in _ ⟨by omega, by omega⟩
  have d1 : (((L.length + 70 : Nat) : Int) != (L.length : Int) + 70) = false := by
    rw [show ((L.length + 70 : Nat) : Int) = (L.length : Int) + 70 by omega]; exact bne_self_eq_false _
  have d2 : (((L.length : Int) + 70) != (L.length : Int) + 70) = false := bne_self_eq_false _
  have s0 : (0 : Int) ≤ (L.length : Int) := by omega
  have s1 : (L.length : Int) ≤ (c : Int) := by omega
  clear hF hA hsub
  go_enter Tryd.func18, Tryd.ntmps18
  go_wp2_with (go_at_call 22; refine HS.out.mono ?_; rintro e wx ⟨rfl, q⟩; have HQ := Lib.hid q; clear q)
  go_loop [5] (fun v5 => ∃ i : Nat, L.length ≤ i ∧ i ≤ L.length + 70 ∧ v5 = .int .i64 i) (fun v5 => L.length + 70 - (intOf v5).toNat)
  case atStart => exact ⟨L.length, Nat.le_refl _, by omega, rfl⟩
  case round =>
    obtain ⟨i, hi0, hi1, rfl⟩ := hrel
    by_cases hlt : i < L.length + 70
    · have hcell := HQ.out.cell (HC.out i hi0 hlt)
      have d3 : (i : Int) < ((L.length + 70 : Nat) : Int) := by omega
      have d4 : (0 : Int) ≤ (i : Int) := by omega
      have d5 : decide ((i : Int) < ((L.length + 70 : Nat) : Int)) = true := decide_eq_true d3
      clear wl d1 d2
      go_wp2
      go_round
      case rel => exact ⟨i + 1, by omega, by omega, by go_num⟩
      case measure => simp [intOf]; omega
    · have d3 : ((L.length + 70 : Nat) : Int) ≤ (i : Int) := by omega
      clear wl d1 d2
      go_wp2
      go_ret
      exact ⟨rfl, HQ.out⟩

/-! ### Two trees of the same leaves -/
def toS (p : Lf × Value) : Palike.S45 := ⟨p.1.path, p.1.ty, p.1.mode, p.1.stamp, p.1.data, p.1.tgt⟩
def toS1 (l : Lf) : Palike.S45 := ⟨l.path, l.ty, l.mode, l.stamp, l.data, l.tgt⟩
theorem tree_C {w : World} {B : Nat} {a : Option Addr} {c : Nat} {tv : List (Lf × Value)} (h : w.ownsRow B 45 6 (.slice a tv.length c) tv.length (lflat tv)) (hl : LO w B tv) (hn : tv.length ≤ 1099511627776) :
    Kd.C Palike.k45 w a (tv.map toS).length (tv.map toS) ∧ (tv.map toS).length ≤ c := by
  have hcap : tv.length ≤ c := own_cap h
  refine ⟨⟨rfl, by rw [List.length_map]; omega, fun h0 => ?_⟩, by rw [List.length_map]; exact hcap⟩
  rw [List.length_map] at h0
  obtain ⟨g, c', hv, _, _⟩ := World.ownsRow.form h h0
  injection hv with e1 e2 e3
  subst e1 e3
  have hR := own_Row (xs := []) (lcell_len tv) (by rw [List.append_nil]; exact h)
  refine ⟨_, rfl, fun j p hj => ?_⟩
  rw [List.getElem?_map, Option.map_eq_some_iff] at hj
  obtain ⟨q, hq, rfl⟩ := hj
  have hO := hl q (List.mem_of_getElem? hq)
  obtain ⟨da, dc, hdv⟩ := hO.form
  have hO2 := hO
  rw [hdv] at hO2
  obtain ⟨_, hdl, hdC⟩ := hO2.toC
  refine ⟨lcell q, rfl, ?_, fun i u hu => ?_⟩
  · have := Palike.k45_mk w (toS q) (A4 := da) (c4 := dc) hdl hdC
    unfold lcell
    rw [hdv]
    exact this
  · rcases hR with hR | ⟨g', o', e, _, hR⟩
    · have : tv = [] := by simpa using hR
      rw [this] at h0; simp at h0
    · injection e with e; injection e with e1 e2; subst e1 e2
      have hi : i < 6 := by
        have := (List.getElem?_eq_some_iff.1 hu).1
        have hl6 : (lcell q).length = 6 := rfl
        omega
      have := hR j (lcell q) (by rw [List.getElem?_map, hq]; rfl) i u hi hu
      have hsz : Palike.k45.sz = 6 := rfl
      rw [hsz, Lib.add_plain]
      rw [show 0 + (j * 6 + i) = 0 + j * 6 + i by omega]
      exact this
theorem leaf_same (x : Palike.S45) : Palike.shalelaw18_leaf.f x.f0 x.f1 x.f2 x.f3 x.f4 x.f5 x.f0 x.f1 x.f2 x.f3 x.f4 x.f5 = some true := by
  unfold Palike.shalelaw18_leaf.f
  simp [Palike.shalelaw18_same.f]
theorem alike_l0 (l : List Palike.S45) (hl : l.length ≤ 1099511627776) : ∀ (d i : Nat), i + d = l.length → Palike.shalelaw18_alike.l0 (d + 1) l l (i : Int) = some true := by
  intro d
  induction d with
  | zero =>
    intro i hi
    simp only [Palike.shalelaw18_alike.l0]
    rw [if_neg (by omega)]
  | succ d ih =>
    intro i hi
    have e3 : wrap64 ((i : Int) + 1) = ((i + 1 : Nat) : Int) := by rw [wr64 ⟨by omega, by omega⟩]; omega
    obtain ⟨D, hD⟩ : ∃ D, d + 1 = D := ⟨_, rfl⟩
    rw [hD]
    simp only [Palike.shalelaw18_alike.l0]
    rw [if_pos (by omega), if_pos (by omega), if_pos (by omega), leaf_same, Option.bind_some, if_pos rfl, e3, ← hD]
    exact ih (i + 1) (by omega)
theorem alike_f (l : List Palike.S45) (hl : l.length ≤ 1099511627776) : Palike.shalelaw18_alike.f (l.length + 1) l l = some true := by
  unfold Palike.shalelaw18_alike.f
  rw [if_pos rfl]
  exact alike_l0 l hl l.length 0 (by omega)
theorem alike_true {w : World} (hw : Ok w) {B B' : Nat} {v v' : Value} {lfs : List Lf} (h : TreeAt w B v lfs) (h' : TreeAt w B' v' lfs) (hl : lfs.length ≤ 1099511627776) :
    Calls Tryd.prog 17 #[v, v'] w fun e w' => e = .returned (.bool true) ∧ Fr w w' := by
  obtain ⟨a, tv, c, rfl, h1, h2, h3⟩ := h
  obtain ⟨a', tv', c', rfl, h1', h2', h3'⟩ := h'
  have l1 : tv.length = lfs.length := by rw [← h1, List.length_map]
  have l2 : tv'.length = lfs.length := by rw [← h1', List.length_map]
  have m1 : tv.map toS = lfs.map toS1 := by rw [← h1, List.map_map]; rfl
  have m2 : tv'.map toS = lfs.map toS1 := by rw [← h1', List.map_map]; rfl
  obtain ⟨C1, k1⟩ := tree_C h2 h3 (by omega)
  obtain ⟨C2, k2⟩ := tree_C h2' h3' (by omega)
  rw [m1] at C1 k1
  rw [m2] at C2 k2
  have hn : (lfs.map toS1).length = lfs.length := List.length_map ..
  have := (Palike.shalelaw18_alike.calls _ a c (lfs.map toS1) a' c' (lfs.map toS1) true w C1 k1 C2 k2 (alike_f _ (by omega))).mono fun e w' ⟨he, hb⟩ => (⟨he, Fr.of hw hb⟩ : e = Ending.returned (.bool true) ∧ Fr w w')
  rw [hn] at this
  rw [l1, l2]
  exact this
end Go.Proofs.YtlnaeppbhjmocaaDoor
set_option linter.unusedSimpArgs false
set_option linter.unusedVariables false
namespace Go.Proofs.YtlnaeppbhjmocaaDoor
open Go.RowKit Go.Proofs Go.Proofs.YtlnaeppbhjmocaaDoorW.PrintWords Go.Proofs.YtlnaeppbhjmocaaDoorW.PrintMore

theorem TreeAt.fr {w w' : World} {B : Nat} {v : Value} {lfs : List Lf} (h : TreeAt w B v lfs) (q : Fr w w') : TreeAt w' B v lfs := by
  obtain ⟨a, tv, c, rfl, h1, h2, h3⟩ := h
  exact ⟨a, tv, c, rfl, h1, own_fr h2 q, h3.fr q⟩
theorem treeX_len (gt : ByteArray → ByteArray → Bool) (L : List Int) (dry : Bool) : ∀ (f : Nat) (acc : List Lf) (ns : List ByteArray) (dir : Bool) (o : Er), (treeX gt L dry f acc ns dir o).1.length ≤ acc.length + f := by
  intro f
  induction f with
  | zero => intro acc ns dir o; cases o <;> simp [treeX]
  | succ f ih =>
    intro acc ns dir o
    cases o with
    | error e => simp [treeX]
    | ok i =>
      simp only [treeX]
      split
      · refine Nat.le_trans (ih _ _ _ _) ?_
        simp; omega
      · simp
theorem endE_len (crc : List Int → Int) (L : List Int) (t : List Lf) (sb : List Int) (o : Er) : (endE crc L t sb o).1.length ≤ t.length := by
  cases o with
  | error e => simp [endE]
  | ok j =>
    simp only [endE]
    split
    · split <;> simp
    · simp
theorem readX_len (crc : List Int → Int) (L : List Int) : (readX crc L).1.length ≤ L.length + 2 := by
  unfold readX
  split
  · rw [endX_E]
    refine Nat.le_trans (endE_len _ _ _ _ _) ?_
    unfold treeR
    refine Nat.le_trans (treeX_len _ _ _ _ _ _ _ _) ?_
    simp; omega
  · simp

set_option maxHeartbeats 12800000 in
set_option maxRecDepth 100000 in
theorem law_ParcelReads (A : Option Addr) (c : Nat) (L : List Int) (w : World) (hw : Ok w) (hA : BytesAt w A L) (hb : bytesOk L) (hc : L.length ≤ c) (hL : L.length ≤ 1073741000) (hg : 4 ≤ w.heap.size) (hAc : A = none → c = 0) :
    Calls Tryd.prog 3 #[.slice A L.length c] w fun e w' => e = .returned (.bool true) ∧ Fr w w' := by
  have hM : bytesOk (L ++ le (crcI L) 4) := fun x hx => by
    rcases List.mem_append.1 hx with h | h
    · exact hb x h
    · exact le_mem _ 4 x h
  have hMl : (L ++ le (crcI L) 4).length = L.length + 4 := by rw [List.length_append, le_length]
  have HSe := Lib.hid (sealed_any A c L hb hc (by omega) w hw hA)
  obtain ⟨M, hMM⟩ : ∃ M, L ++ le (crcI L) 4 = M := ⟨_, rfl⟩
  rw [hMM] at hM hMl HSe
  clear hMM
  have HML := Lib.hid hMl
  have hMlen : M.length ≤ 1073741004 := by omega
  clear hMl
  go_enter Tryd.func3, Tryd.ntmps3
  go_upto_block 0 with (go_at_call 11; refine HSe.out.mono ?_; rintro e w1 ⟨v, rfl, hO, f1⟩; go_loud (obtain ⟨gm, cm, hv, _, hgm⟩ := hO.blk (by have := HML.out; omega); subst hv; have hMB := hO.at.1; have hMc := hO.at.2.2); go_loud (obtain ⟨w4, g4, hg4, hw4, f4, hz4, H4⟩ := boxedN f1.ok #[.slice A L.length c, .slice (some ⟨gm, 0, none⟩) M.length cm] 22))
  have hMB4 := hMB.fr f4
  have hA4 := hA.fr (f1.trans f4)
  have f14 := f1.trans f4
  have hROW : Hid (∀ i, i < 2 → ∃ (Ai : Option Addr) (ci : Nat) (Li : List Int), w4.cell? ⟨g4, i, none⟩ = some (.slice Ai Li.length ci) ∧ BytesAt w4 Ai Li ∧ bytesOk Li ∧ Li.length ≤ ci ∧ Li.length ≤ 1073741004 ∧ (Ai = none → ci = 0)) := Lib.hid (fun i hi => by
    obtain ⟨k0, k1⟩ := blk2 H4
    rcases (by omega : i = 0 ∨ i = 1) with rfl | rfl
    · exact ⟨A, c, L, k0, hA4, hb, hc, by omega, hAc⟩
    · exact ⟨_, cm, M, k1, hMB4, hM, hMc, hMlen, fun e => by cases e⟩)
  have hg4s := f14.size
  clear hO hMB hMc hMB4 hA4 H4 f1 f4 hb hM hA hw4
  go_wp2_with fail
  go_loopg [4] 2 (fun k v4 wc => ∃ i : Nat, i + k = 2 ∧ v4 = .int .i64 i ∧ Hid (Fr w4 wc))
  case atStart => exact ⟨0, rfl, rfl, Lib.hid (Fr.refl f14.ok)⟩
  case round =>
    obtain ⟨i, hik, rfl, f⟩ := hrel
    cases gk with
    | zero =>
      obtain rfl : i = 2 := by omega
      go_wp2
      go_ret
      exact ⟨rfl, f14.trans f.out⟩
    | succ k =>
      obtain ⟨Ai, ci, Li, hcell4, hB4, hbi, hci, hLi, hAi⟩ := hROW.out i (by omega)
      have hcell := f.out.cell hcell4
      have hBr := hB4.fr f.out
      have hgr := f.out.size
      have hlr := readX_len crcI Li
      have HLg := Lib.hid (large_any Ai ci Li wr f.out.ok hBr hbi hci (by omega) (by omega))
      have HRe := Lib.hid (fun W (q : Fr wr W) => readRef_any Ai ci Li W q.ok (hBr.fr q) hbi hci (by omega) (by have := q.size; omega))
      have HRo := Lib.hid (fun W (q : Fr wr W) => roomy_any Ai ci Li hci (by omega) W q.ok (hBr.fr q) hAi)
      have HPr := Lib.hid (fun W (q : Fr wr W) A' c' (h1 : BytesAt W A' Li) h2 => pread_any A' c' Li W q.ok h1 hbi h2 (by omega) (by have := q.size; omega))
      have HKe := Lib.hid (fun W (q : Fr wr W) g c' h1 h2 => kept_true g c' Ai ci Li h1 hci (by omega) W q.ok h2 (hBr.fr q))
      obtain ⟨⟨lfs, er⟩, hP⟩ : ∃ p, readX crcI Li = p := ⟨_, rfl⟩
      rw [hP] at HRe HPr hlr
      dsimp only at hlr
      have HLR := Lib.hid hlr
      have hE : ((er : Int) != er) = false := bne_self_eq_false _
      have d2 : (0 : Int) ≤ (i : Int) := by omega
      have d3 : (i : Int) < 2 := by omega
      have d1 : decide ((i : Int) < 2) = true := decide_eq_true d3
      have HB := Lib.hid hBr
      have hfl : (full70 Li).length = Li.length + 70 := by simp only [full70, List.length_append, List.length_replicate]
      have HFL := Lib.hid hfl
      clear hP hlr hB4 hBr hcell4 hfl
      go_wp2_with (first
        | (go_at_call 12; refine HLg.out.mono ?_; rintro e wx ⟨⟨n, rfl⟩, q⟩; replace hcell := q.cell hcell)
        | (go_at_call 13; refine (HRe.out _ q).mono ?_; rintro e wx2 ⟨v1, rfl, q1, hT1⟩; replace hcell := q1.cell hcell; replace q := q.trans q1; clear q1; have HT1 := Lib.hid hT1; clear hT1)
        | (go_at_call 14; refine (HRo.out _ q).mono ?_; rintro e wx3 ⟨af, df, rfl, hOf, q1⟩; replace hcell := q1.cell hcell; replace q := q.trans q1; replace HT1 := Lib.hid (HT1.out.fr q1); clear q1; go_loud (obtain ⟨gf, cf, hvf, _, _⟩ := hOf.blk (by have := HFL.out; omega); injection hvf with e1 _ e3; subst e1 e3; have hBf := Lib.hid hOf.at.1; have hcf := hOf.at.2.2); go_loud (rw [HFL.out]); go_loud (rw [HFL.out] at hcf); have s0 : (0 : Int) ≤ (Li.length : Int) := (by omega); have s1 : (Li.length : Int) ≤ (df : Int) := (by omega); clear hOf)
        | (go_at_call 15; go_loud (refine (HPr.out _ q _ df (by have := hBf.out.sub 0 Li.length; simpa [full70] using this) (by omega)).mono ?_); rintro e wx4 ⟨v2, rfl, q1, hT2⟩; replace hcell := q1.cell hcell; replace q := q.trans q1; replace HT1 := Lib.hid (HT1.out.fr q1); (have hBf2 := Lib.hid (hBf.out.fr q1)); clear q1; have HT2 := Lib.hid hT2; clear hT2)
        | (go_at_call 16; refine (no_any er _ q.ok).mono ?_; rintro e wx5 ⟨rfl, q1⟩; replace hcell := q1.cell hcell; replace q := q.trans q1; replace HT1 := Lib.hid (HT1.out.fr q1); replace HT2 := Lib.hid (HT2.out.fr q1); (have hBf3 := Lib.hid (hBf2.out.fr q1)); clear q1)
        | (go_at_call 17; go_loud (refine (alike_true q.ok HT2.out HT1.out (by have := HLR.out; omega)).mono ?_); rintro e wx6 ⟨rfl, q1⟩; replace hcell := q1.cell hcell; replace q := q.trans q1; (have hBf4 := Lib.hid (hBf3.out.fr q1)); clear q1)
        | (go_at_call 18; go_loud (refine (HKe.out _ q gf df (by omega) hBf4.out).mono ?_); rintro e wx7 ⟨rfl, q1⟩; replace q := q.trans q1; clear q1))
      all_goals
        go_roundg k
        case measure => omega
        case rel => exact ⟨i + 1, by omega, by go_num, Lib.hid (f.out.trans q)⟩
end Go.Proofs.YtlnaeppbhjmocaaDoor
namespace Go.Proofs.YtlnaeppbhjmocaaDoor
open Go.ChangeShapes Go.WideShapes Go.RowKit

section
variable {H : Type} {enc : TypeId × Value → H} {P : Program}

theorem post_of_below {f : Func} {s : ChangeSpec} {apart fresh handsOn again : Bool} {W W' : World} {args : Array Value} {v : Value} {ds gs : List (DataW H)} {before pa pv : List MemPlace}
    (hW : DataW.Whole enc P f.params.toList s.vars apart W args.toList ds gs before)
    (hres : ∀ (b : Nat) (sp : Nat → Bool) (hd : Bool), DataW.TrodAll enc P W' b sp hd f.resultTypes.toList (v.resultList f.resultTypes.size) (s.fn H (ds ++ gs)).results [])
    (hargs : ∀ sp : Nat → Bool, (∀ p ∈ before, sp p.block = true) → DataW.TrodAll enc P W' 0 sp true f.params.toList args.toList (s.fn H (ds ++ gs)).args pa)
    (hvars : ∀ sp : Nat → Bool, (∀ p ∈ before, sp p.block = true) → DataW.TrodVars enc P W' sp s.vars (s.fn H (ds ++ gs)).vars pv)
    (hps : before = pa ++ pv) (hB : Below W.heap.size W W')
    (hok : ∀ (j : Nat) (t : TypeId) (r : Value), f.resultTypes[j]? = some t → (v.resultList f.resultTypes.size)[j]? = some r → Value.okWide P W' .any 0 t r) :
    s.post enc P f apart fresh handsOn again W args v W' := by
  have hold : ∀ p ∈ before, (fun b => decide (b < W.heap.size)) p.block = true := fun p hp => by simpa using hW.lt p hp
  have hlt : ∀ p ∈ before, p.block < W.heap.size := fun p hp => by simpa using hW.lt p hp
  refine ⟨ds, gs, before, [], pa, pv, hW, hres _ _ _, hargs _ hold, hvars _ hold, hB.frame _, fun _ => ?_⟩
  obtain ⟨_, _, _, _, _, hz, hn⟩ := hW
  refine ⟨hok, _, _, ([] ++ pa) ++ pv, ⟨[] ++ pa, pv, trodAll_append (hargs _ (fun _ _ => rfl)) (hres _ _ _), hvars _ (fun _ _ => rfl), rfl, ?_, ?_⟩, ?_⟩
  · intro b off hp
    have hm : MemPlace.cell b off ∈ before := by rw [hps]; simpa using hp
    rw [hB.frozen (p := ⟨b, off, none⟩) (hlt _ hm)]
    exact hz b off hm
  · intro ha
    have := hn ha
    rw [hps] at this
    simpa using this
  · intro p hp _
    rw [hps]
    simpa using hp

/-- the arguments read as they did -/
theorem trodAll_below (hl : laidOutB P = true) {W W' : World} (hB : Below W.heap.size W W') {sp : Nat → Bool} : ∀ {ts : List TypeId} {vs : List Value} {ds : List (DataW H)} {ps : List MemPlace},
    (∀ t ∈ ts, P.readableRec t = true ∧ t < P.types.size) → DataW.TrodAll enc P W 0 (fun _ => true) true ts vs ds ps → (∀ p ∈ ps, p.block < W.heap.size) → (∀ p ∈ ps, sp p.block = true) →
    DataW.TrodAll enc P W' 0 sp true ts vs ds ps
  | [], _, _, _, _, h, _, _ => by
    obtain ⟨rfl, rfl, rfl⟩ := trodAll_nil h
    exact trodAll_mk0
  | t :: ts, _, _, _, hr, h, hlt, hs => by
    obtain ⟨v, vs1, d, ds1, a, b, rfl, rfl, rfl, h1, h2⟩ := trodAll_cons h
    obtain ⟨hr1, hr2⟩ := hr t List.mem_cons_self
    exact trodAll_cons_mk (WideElems.Trod_stays hl hr1 hr2 h1 (fun p hp => hB.same (hlt p (List.mem_append_left _ hp))) (fun p hp => hs p (List.mem_append_left _ hp)))
      (trodAll_below hl hB (fun t ht => hr t (List.mem_cons_of_mem _ ht)) h2 (fun p hp => hlt p (List.mem_append_right _ hp)) (fun p hp => hs p (List.mem_append_right _ hp)))
end
end Go.Proofs.YtlnaeppbhjmocaaDoor
set_option linter.unusedSimpArgs false
set_option linter.unusedVariables false
namespace Go.Proofs.YtlnaeppbhjmocaaDoor.parcelReads
open Go.ChangeShapes Go.WideShapes Go.ChangeAt Go.RowKit

theorem okOf {W : World} (h : laidMetH Tryd.prog Rows.parcelReadsUptoRow.laid W) : Ok W where
  fours := okFours (Lib.laidMet.reads (show laidMet Tryd.prog Rows.parcelReadsUptoRow.laid W from h) List.mem_cons_self)

set_option maxRecDepth 100000 in
theorem contract (H : Type) (enc : TypeId × Value → H) (W : World) (base : Nat) (args : Array Value) (ds gs : List (DataW H)) (before : List MemPlace)
    (hval : ∀ (j : Nat) t v, Tryd.f3.params[j]? = some t → args[j]? = some v → Value.okWide Tryd.prog W .any base t v)
    (hW : DataW.Whole enc Tryd.prog Tryd.f3.params.toList Rows.parcelReadsSpec.vars false W args.toList ds gs before) (hS : Rows.uptoSmall H (ds ++ gs) = true) (hL : laidMetH Tryd.prog Rows.parcelReadsUptoRow.laid W) (hSh : W.ShapedOpen Tryd.prog) :
    Calls Tryd.prog 3 args W fun e W' => ∃ v, e = .returned v ∧ Rows.parcelReadsSpec.post enc Tryd.prog Tryd.f3 false true false false W args v W' := by
  have hW' := hW
  obtain ⟨p, q, hA0, hV, rfl, hfz, hnd⟩ := hW
  have hA : DataW.TrodAll enc Tryd.prog W 0 (fun _ => true) true Tryd.f3.params.toList args.toList ds p := hA0
  rw [Tryd.params3] at hA hval
  obtain ⟨v0, vs0, d0, ds0, p0, q0, hargs, rfl, rfl, h0, r0⟩ := trodAll_cons hA
  obtain ⟨rfl, rfl, rfl⟩ := trodAll_nil r0
  obtain rfl : args = #[v0] := by cases args; simp_all
  obtain ⟨rfl, rfl⟩ := trodVars_none hV
  clear hA0
  simp only [List.append_nil] at hW'
  have hsz : Rows.uptoBulk d0 ≤ 1048576 := by
    have : Rows.uptoBulkAll ([d0] ++ []) ≤ 1048576 := by simpa [Rows.uptoSmall] using hS
    simp only [List.append_nil, Rows.uptoBulkAll] at this
    omega
  obtain ⟨A, n, c, rfl⟩ := okWide_slice Tryd.underlying22 (hval 0 22 v0 rfl rfl)
  obtain ⟨fuel, h⟩ := h0
  obtain ⟨L, A', c', e, hA', hb, hc, hAc, hbl⟩ := open_u8s h
  simp only [Value.cells] at e
  injection e with e _
  injection e with e1 e2 e3
  subst e1 e2 e3
  dsimp only at hbl
  have walk : Calls Tryd.prog 3 #[.slice A L.length c] W fun e w' => e = .returned (.bool true) ∧ Fr W w' :=
    law_ParcelReads A c L W (okOf hL) hA' hb hc (by omega) (sizeOf hSh) hAc
  refine walk.mono fun e W' ⟨he, hg⟩ => ?_
  subst he
  have hlt : ∀ x ∈ p0 ++ ([] : List MemPlace), x.block < W.heap.size := fun x hx => by simpa using hW'.lt x (by simpa using hx)
  exact ⟨_, rfl, post_of_below (pa := p0 ++ []) (pv := []) hW' (fun _ _ _ => trodAll_cons_mk (shut_bool Tryd.underlying4 _) trodAll_mk0)
    (fun sp hsp => trodAll_below laidOut hg.below (by rw [Tryd.params3]; simp only [List.mem_cons, List.not_mem_nil, or_false, forall_eq]; exact ⟨by kernel_rfl, of_decide_eq_true (by kernel_rfl)⟩) (by rw [Tryd.params3]; exact hA) hlt (fun x hx => hsp x (by simpa using hx)))
    (fun _ _ => rfl) (by simp) hg.below (ok_one (by kernel_rfl) rfl (okWide_bool_mk Tryd.underlying4 _))⟩

/-- A WORLD FOR THE WITNESS: the settled one, the listed variables as they are laid. -/
def cellsOfData : DataW Unit → Array Value
  | .agg l => (l.map fun d => match d with
    | .lit (.int k z) => Value.int k z
    | .lit (.string s) => Value.string ⟨s.toArray⟩
    | _ => Value.bool false).toArray
  | _ => #[]
def layAt (d : DataW Unit) : Obj → Obj
  | .cells _ t frozen => .cells (cellsOfData d) t frozen
  | o => o
noncomputable def laidWorld (os : Os) : World :=
  { World.holding Tryd.prog os ⟨#[], #[], []⟩ with heap := (World.holding Tryd.prog os ⟨#[], #[], []⟩).heap.modify 0 (layAt Rows.laid_shale_words_fours) }
def wArgs : Array Value := #[.slice none 0 0]
theorem laid_met (os : Os) : laidMet Tryd.prog Rows.parcelReadsUptoRow.laid ((laidWorld os).forCall (fun _ _ => 0) ⟨#[], wArgs, []⟩).memory :=
  laidMet_of_run' 8 (by kernel_rfl) (by kernel_rfl)
theorem reads (os : Os) {H : Type} (enc : TypeId × Value → H) : ∃ places, DataW.whole enc Tryd.prog ((laidWorld os).forCall (fun _ _ => 0) ⟨#[], wArgs, []⟩).memory Tryd.f3.params.toList Rows.parcelReadsSpec.vars false wArgs.toList 8 = some ([.nil], [], places) :=
  ⟨[], by kernel_rfl⟩

set_option maxRecDepth 100000 in
theorem lifted (os : Os) (started : os.Started) (H : Type) (enc : TypeId × Value → H) (F : Stop.Interp) :
    ReturnsInHanded {} Tryd.checked os 3 .any ((Rows.OpenSpec.upto Rows.parcelReadsSpec).preRow enc Tryd.prog Tryd.f3 Rows.parcelReadsUptoRow.domain false Rows.parcelReadsUptoRow.laid) (((Rows.OpenSpec.upto Rows.parcelReadsSpec).at F).post enc Tryd.prog Tryd.f3 false true false false) := by
  obtain ⟨places, hx⟩ := reads os enc
  refine returnsInHanded_of_row (C := Tryd.checked) (s := Rows.OpenSpec.upto Rows.parcelReadsSpec) own started (by kernel_rfl) Tryd.func3
    (witness_row_at (enc := enc) (C := Tryd.checked) false (laidWorld os) wArgs rfl (by kernel_rfl) (by kernel_rfl) (by kernel_rfl)
      (OpenSpec.preRow_of_cond 8 hx (by kernel_rfl) (fun k hk => by cases hk; kernel_rfl) (by kernel_rfl) (laid_met os))) ?_
  intro W base args ds gs before hval hW _ hcond _ hL hSh _
  exact contract H enc W base args ds gs before hval hW (hcond _ rfl) hL hSh

theorem said : Rows.ParcelReadsUptoSaid :=
  OpenClaim.holds_of_cond 3 Tryd.f3 rfl rfl rfl rfl rfl rfl rfl ⟨rfl, rfl, rfl, rfl, rfl⟩ rfl rfl rfl rfl rfl (by kernel_rfl) Tryd.func3 (by kernel_rfl)
    (of_decide_eq_true (by kernel_rfl)) (by unfold Func.isWrapper; first | (rw [if_pos (by decide +kernel)]; kernel_rfl) | (rw [if_neg (by decide +kernel)]; exact ⟨rfl, rfl⟩))
    (fun os started H enc _ F => by rw [OpenClaim.pre_eq_preRow]; exact lifted os started H enc F)

theorem plain (f : FuncId) (fn : Func) (hf : Tryd.pinned.checked.prog.funcNamed "shale/shalelaw18.ParcelReads" = some f) (hfn : Tryd.pinned.checked.prog.funcs[f]? = some fn) :
    true = Tryd.pinned.checked.prog.looks [] ∧ ∀ (j : Nat) t, fn.params[j]? = some t → Tryd.pinned.checked.prog.wantsStandIn t = false := by
  obtain rfl : f = 3 := Option.some.inj ((show Tryd.prog.funcNamed "shale/shalelaw18.ParcelReads" = some 3 by kernel_rfl).symm.trans hf) |>.symm
  obtain rfl : fn = Tryd.f3 := (Option.some.inj (Tryd.func3.symm.trans hfn)).symm
  refine ⟨by kernel_rfl, fun j t ht => ?_⟩
  rw [Tryd.params3] at ht
  obtain rfl : t = 22 := by simpa using Array.mem_of_getElem? ht
  exact (show Tryd.prog.wantsStandIn 22 = false by kernel_rfl)

theorem card : Rows.ParcelReadsUptoCardSaid :=
  Claim7.holds_tied_plain_at .later [] _ _ _ _ said (fun _ h => by cases h) (by kernel_rfl) (fun _ h => by cases h) parcelReadsUpto_row_tie rfl ⟨rfl, rfl⟩ (by kernel_rfl) rfl plain (by kernel_rfl)
end Go.Proofs.YtlnaeppbhjmocaaDoor.parcelReads
