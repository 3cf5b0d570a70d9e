/- audit.Read, walked whole: its contract over 'readL'. No conditions beyond the text's length. -/
import Derived.Test.YtioapjnaopnhaaaDoorReadProg
import Derived.Test.YtioapjnaopnhaaaDoorAuditShowsWalk
import Derived.Deep.QuietTactic
set_option linter.unusedSimpArgs false
set_option linter.unusedVariables false
namespace Go.Proofs.YtioapjnaopnhaaaDoor
open Go.RowKit Go.Proofs

def zeroRep : Rep := ⟨0, 0, 0, 0, 0, false, []⟩

set_option maxRecDepth 100000 in
theorem catch_idle (p1 p2 p3 : Addr) (w : World) :
    CallsD Tryd.prog 28 #[.pointer (some p1), .pointer (some p2), .pointer (some p3)] .returning w fun e u' w' => e = .returned (.tuple #[]) ∧ u' = .returning ∧ w' = w := by
  refine callsD_of_wpS Tryd.func28 rfl fun c₀ cs hu => ?_
  apply wpS_seq
  apply wpS_region
  simp [wpOpsS, go_sem, recoverD, hu, Tryd.ntmps28, Exit.thenS]
  apply wpS_seq
  apply wpS_seq
  apply wpS_region
  simp [wpOpsS, go_sem, Exit.thenS]
  refine wpS_cond (t := true) (by simp [Act.eval, Array.replicate]) ?_
  simp only [if_true]
  refine wpS_of_wp (wp_ret ?_)
  cases c₀
  simp_all [bodyPostS, results, Tryd.results28, Exit.thenS]

theorem run_assert_bad (v : Value) (xT : TypeId) (w : World) : (Instr.typeAssert (.iface 64 v) xT 64 true).run Tryd.prog w = .ok (.tuple #[v, .bool true]) w := by
  simp [Instr.typeAssert, run_underlying Tryd.underlying64, go_sem, Result.andThen]

theorem set_same {w : World} {g : Nat} {cs : Array Value} {t : TypeId} {fz : Nat × Nat} (H : w.heap[g]? = some (.cells cs t fz)) (j : Nat) (v : Value) : (w.setCell ⟨g, j, none⟩ v).heap[g]? = some (.cells (cs.setIfInBounds j v) t fz) := by
  simp [World.setCell, Array.getElem?_modify, H]
theorem set_step {w0 w : World} {B g : Nat} {cs : Array Value} {t : TypeId} {fz : Nat × Nat} (hb : Below B w0 w) (hB : B ≤ g) (H : w.heap[g]? = some (.cells cs t fz)) (j : Nat) (v : Value) :
    ∃ w1, w.setCell ⟨g, j, none⟩ v = w1 ∧ w1.heap[g]? = some (.cells (cs.setIfInBounds j v) t fz) ∧ Below B w0 w1 ∧ ∀ k o, w.heap[k]? = some o → k ≠ g → w1.heap[k]? = some o :=
  ⟨_, rfl, set_same H j v, hb.setCell hB v, fun k o hk hne => (Below.heap_setCell w ⟨g, j, none⟩ v k hne).trans hk⟩
theorem set_other {w : World} {k g : Nat} {o : Obj} (H : w.heap[k]? = some o) (hne : k ≠ g) (j : Nat) (v : Value) : (w.setCell ⟨g, j, none⟩ v).heap[k]? = some o := (Below.heap_setCell w ⟨g, j, none⟩ v k hne).trans H

set_option maxRecDepth 100000 in
theorem catch_bad (g g1 g2 : Nat) (hg1 : g < g1) (hg2 : g1 < g2) (n : Int) (older : List PanicEntry) (w : World) (hw : Ok w) (hm : More w) (hg : 9 ≤ g)
    (v0 v1 v2 v3 v4 v5 v6 c1 c2 : Value) (H0 : w.heap[g]? = some (.cells #[v0, v1, v2, v3, v4, v5, v6] 25 (0, 0))) (H1 : w.heap[g1]? = some (.cells #[c1] 35 (0, 0))) (H2 : w.heap[g2]? = some (.cells #[c2] 3 (0, 0))) :
    CallsD Tryd.prog 28 #[.pointer (some ⟨g, 0, none⟩), .pointer (some ⟨g1, 0, none⟩), .pointer (some ⟨g2, 0, none⟩)] (.panicking ({ v := .iface 64 (.int .i64 n), recovered := false } :: older)) w fun e u' w' =>
      e = .returned (.tuple #[]) ∧ u' = .panicking ({ v := .iface 64 (.int .i64 n), recovered := true } :: older) ∧ Below g w w' ∧ Ok w' ∧ More w' ∧
      w'.heap[g]? = some (.cells #[.int .u64 0, .int .i64 0, .int .i64 0, .int .i64 0, .int .i64 0, .bool false, .slice none 0 0] 25 (0, 0)) ∧ w'.heap[g1]? = some (.cells #[.int .i64 200] 35 (0, 0)) ∧ w'.heap[g2]? = some (.cells #[.int .i64 n] 3 (0, 0)) := by
  refine callsD_of_wpS Tryd.func28 rfl fun c₀ cs hu => ?_
  apply wpS_seq
  apply wpS_region
  simp [wpOpsS, go_sem, recoverD, hu, Tryd.ntmps28, Exit.thenS]
  obtain ⟨Q0, hQ0⟩ : ∃ Q0 : Exit → Act → World → Prop, Q0 = (fun e a' w' => e = .normal ∧ a'.defers = [] ∧ Below g w w' ∧
      w'.heap[g]? = some (.cells #[.int .u64 0, .int .i64 0, .int .i64 0, .int .i64 0, .int .i64 0, .bool false, .slice none 0 0] 25 (0, 0)) ∧ w'.heap[g1]? = some (.cells #[.int .i64 200] 35 (0, 0)) ∧ w'.heap[g2]? = some (.cells #[.int .i64 n] 3 (0, 0))) := ⟨_, rfl⟩
  replace hQ0 := Lib.hid hQ0
  refine wpS_of_wp (wp_mono (Q := Q0) ?_ ?_)
  · have ht : (#[.pointer (some ⟨g, 0, none⟩), .pointer (some ⟨g1, 0, none⟩), .pointer (some ⟨g2, 0, none⟩)] ++ (((Array.replicate 16 undef).setIfInBounds 3 (.iface 64 (.int .i64 n))).setIfInBounds 0 (.iface 64 (.int .i64 n))) : Array Value) = #[.pointer (some ⟨g, 0, none⟩), .pointer (some ⟨g1, 0, none⟩), .pointer (some ⟨g2, 0, none⟩), .iface 64 (.int .i64 n), undef, undef, .iface 64 (.int .i64 n), undef, undef, undef, undef, undef, undef, undef, undef, undef, undef, undef, undef] := by simp [Array.replicate, List.replicate]
    rw [ht]
    clear ht
    have hta := run_assert_bad
    obtain ⟨w1, e1, G1, b1, o1⟩ := set_step (Below.refl g w) (Nat.le_refl g) H0 0 (.int .u64 0)
    obtain ⟨w2, e2, G2, b2, o2⟩ := set_step b1 (Nat.le_refl g) G1 1 (.int .i64 0)
    obtain ⟨w3, e3, G3, b3, o3⟩ := set_step b2 (Nat.le_refl g) G2 2 (.int .i64 0)
    obtain ⟨w4, e4, G4, b4, o4⟩ := set_step b3 (Nat.le_refl g) G3 3 (.int .i64 0)
    obtain ⟨w5, e5, G5, b5, o5⟩ := set_step b4 (Nat.le_refl g) G4 4 (.int .i64 0)
    obtain ⟨w6, e6, G6, b6, o6⟩ := set_step b5 (Nat.le_refl g) G5 5 (.bool false)
    obtain ⟨w7, e7, G7, b7, o7⟩ := set_step b6 (Nat.le_refl g) G6 6 (.slice none 0 0)
    have n1 : g1 ≠ g := by omega
    have n2 : g2 ≠ g := by omega
    have P1 := o7 _ _ (o6 _ _ (o5 _ _ (o4 _ _ (o3 _ _ (o2 _ _ (o1 _ _ H1 n1) n1) n1) n1) n1) n1) n1
    have P2 := o7 _ _ (o6 _ _ (o5 _ _ (o4 _ _ (o3 _ _ (o2 _ _ (o1 _ _ H2 n2) n2) n2) n2) n2) n2) n2
    obtain ⟨w8, e8, G8, b8, o8⟩ := set_step b7 (Nat.le_of_lt hg1) P1 0 (.int .i64 200)
    obtain ⟨w9, e9, G9, b9, o9⟩ := set_step b8 (Nat.le_of_lt (Nat.lt_trans hg1 hg2)) (o8 _ _ P2 (by omega)) 0 (.int .i64 n)
    have F0 : w9.heap[g]? = some (.cells #[.int .u64 0, .int .i64 0, .int .i64 0, .int .i64 0, .int .i64 0, .bool false, .slice none 0 0] 25 (0, 0)) := by
      have := o9 g _ (o8 g _ G7 (by omega)) (by omega)
      simpa only [List.setIfInBounds_toArray, List.set_cons_zero, List.set_cons_succ] using this
    have F1 : w9.heap[g1]? = some (.cells #[.int .i64 200] 35 (0, 0)) := o9 g1 _ G8 (by omega)
    have F2 : w9.heap[g2]? = some (.cells #[.int .i64 n] 3 (0, 0)) := G9
    have y2 := unfrozen P1 0
    have y3 := unfrozen (o8 _ _ P2 (by omega)) 0
    have q0 := blk1 P1
    have q1 := blk1 (o8 _ _ P2 (by omega))
    obtain ⟨c0, c1, c2, c3, c4, c5, c6⟩ := blk7 H0
    have z0 := unfrozen H0 0
    have r1 := unfrozen G1 1
    have k1 : w1.cell? ⟨g, 1, none⟩ = some v1 := blk_cell G1 (by simp)
    have r2 := unfrozen G2 2
    have k2 : w2.cell? ⟨g, 2, none⟩ = some v2 := blk_cell G2 (by simp)
    have r3 := unfrozen G3 3
    have k3 : w3.cell? ⟨g, 3, none⟩ = some v3 := blk_cell G3 (by simp)
    have r4 := unfrozen G4 4
    have k4 : w4.cell? ⟨g, 4, none⟩ = some v4 := blk_cell G4 (by simp)
    have r5 := unfrozen G5 5
    have k5 : w5.cell? ⟨g, 5, none⟩ = some v5 := blk_cell G5 (by simp)
    have r6 := unfrozen G6 6
    have k6 : w6.cell? ⟨g, 6, none⟩ = some v6 := blk_cell G6 (by simp)
    have F := Lib.hid (And.intro b9 (And.intro F0 (And.intro F1 F2)))
    clear F0 F1 F2 b1 b2 b3 b4 b5 b6 b7 b8 b9 o1 o2 o3 o4 o5 o6 o7 o8 o9 G1 G2 G3 G4 G5 G6 G7 G8 G9 P1 P2 H0 H1 H2 n1 n2
    go_wp2
    rw [hQ0.out]
    exact ⟨rfl, rfl, F.out⟩
  · rw [hQ0.out]
    rintro e a' w' ⟨rfl, hd, hb, h0, h1, h2⟩
    exact ⟨hd, _, rfl, .tuple #[], by simp [results, Tryd.results28], rfl, rfl, hb, hw.set hg hb, hm.set hg hb, h0, h1, h2⟩

/-- how Read ends -/
def endRead (B : Nat) (res : Except Nat Rep) (e : Ending) (w' : World) : Prop := match res with
  | .error n => e = .returned (.tuple #[repV zeroRep none 0, .int .i64 200, .int .i64 n])
  | .ok r => ∃ a c, e = .returned (.tuple #[repV r a c, .int .i64 0, .int .i64 0]) ∧ ∃ B', B ≤ B' ∧ w'.ownsRow B' 29 4 (.slice a r.fs.length c) r.fs.length (frow r.fs)

set_option maxRecDepth 100000 in
theorem door_bad (T : Array Value) (g g1 g2 : Nat) (hg1 : g < g1) (hg2 : g1 < g2) (n : Nat) (w0 w : World) (f : Fr w0 w) (hm : More w) (hg : 9 ≤ g) (hw0 : w0.heap.size ≤ g)
    (hT2 : T[2]? = some (.pointer (some ⟨g, 0, none⟩))) (hT3 : T[3]? = some (.pointer (some ⟨g1, 0, none⟩))) (hT4 : T[4]? = some (.pointer (some ⟨g2, 0, none⟩)))
    (v0 v1 v2 v3 v4 v5 v6 c1 c2 : Value) (H0 : w.heap[g]? = some (.cells #[v0, v1, v2, v3, v4, v5, v6] 25 (0, 0))) (H1 : w.heap[g1]? = some (.cells #[c1] 35 (0, 0))) (H2 : w.heap[g2]? = some (.cells #[c2] 3 (0, 0))) :
    Leaves Tryd.prog Tryd.f10 T (fun e w' => Fr w0 w' ∧ endRead w0.heap.size (.error n) e w') [{ target := .fn (.func 28) #[.pointer (some ⟨g, 0, none⟩), .pointer (some ⟨g1, 0, none⟩), .pointer (some ⟨g2, 0, none⟩)], args := #[] }] (.panicking [{ v := .iface 64 (.int .i64 n), recovered := false }]) w := by
  refine leaves_cons (f := 28) (args := #[.pointer (some ⟨g, 0, none⟩), .pointer (some ⟨g1, 0, none⟩), .pointer (some ⟨g2, 0, none⟩)]) (by simp) (by simp [go_sem]) ?_
  refine (catch_bad g g1 g2 hg1 hg2 n [] w f.ok hm hg v0 v1 v2 v3 v4 v5 v6 c1 c2 H0 H1 H2).mono ?_
  rintro e u' w'' ⟨rfl, rfl, hb, ho, hm', h0, h1, h2⟩
  have q : Fr w0 w'' := ⟨f.below.trans (hb.mono hw0), ho⟩
  obtain ⟨c0, c1, c2, c3, c4, c5, c6⟩ := blk7 h0
  have d0 := blk1 h1
  have d1 := blk1 h2
  simp [Leaves, settle, results, Tryd.results10, go_sem, hT2, hT3, hT4, c0, c1, c2, c3, c4, c5, c6, d0, d1]
  exact ⟨q, rfl⟩

theorem setF {w0 w : World} {g : Nat} {cs : Array Value} {t : TypeId} (f : Fr w0 w) (m : More w) (hB : w0.heap.size ≤ g) (hg : 9 ≤ w0.heap.size) (H : w.heap[g]? = some (.cells cs t (0, 0))) (j : Nat) (v : Value) :
    ∃ w1, w.setCell ⟨g, j, none⟩ v = w1 ∧ w1.heap[g]? = some (.cells (cs.setIfInBounds j v) t (0, 0)) ∧ Fr w0 w1 ∧ More w1 ∧ (∀ k o, w.heap[k]? = some o → k ≠ g → w1.heap[k]? = some o) ∧ (∀ (p : Addr) (v : Value), w.cell? p = some v → p.block ≠ g → w1.cell? p = some v) := by
  obtain ⟨w1, e, H1, hb, ho⟩ := set_step (Below.refl g w) (Nat.le_refl g) H j v
  refine ⟨w1, e, H1, ⟨f.below.trans (hb.mono hB), f.ok.set (by omega) hb⟩, m.set (by omega) hb, ho, fun p v hc hne => ?_⟩
  have hlt := World.block_lt_of_cell? w p hc
  have hh := ho p.block _ (Array.getElem?_eq_getElem hlt) hne
  exact (World.cell?_of_block (w := w) (hh.trans (Array.getElem?_eq_getElem hlt).symm)).trans hc

theorem next_len {k : Nat} {t b : List UInt8} {ws : List (List UInt8)} (h : nextL k t = some (ws, b)) : b.length < t.length ∧ ∀ x ∈ ws, x.length ≤ t.length := by
  obtain ⟨e, _⟩ := next_some h
  have key : ∀ (l : List (List UInt8)), ∀ x ∈ l, x.length ≤ (joinSp l).length := by
    intro l
    induction l with
    | nil => simp
    | cons a r ih =>
      intro x hx
      cases r with
      | nil => simp at hx; subst hx; simp [joinSp]
      | cons b r =>
        rcases List.mem_cons.1 hx with rfl | hx
        · simp [joinSp]
        · have := ih x hx
          simp only [joinSp, List.length_append, List.length_cons] at this ⊢
          omega
  subst e
  refine ⟨by simp; omega, fun x hx => ?_⟩
  have := key ws x hx
  simp; omega
theorem cnt_len {word t b : List UInt8} {v : Int} (h : cntL word t = some (v, b)) : b.length < t.length := by
  unfold cntL at h
  split at h
  · cases h
  · rename_i p hp
    obtain ⟨ws, b'⟩ := p
    split at h
    · simp only [Option.map_eq_some_iff] at h
      obtain ⟨_, _, h⟩ := h
      injection h with _ h2
      subst h2
      exact (next_len hp).1
    · cases h

/-- 'next' at two words, 'count', by their two ends -/
theorem next2_or (g : Nat) (t : List UInt8) (n : Int) (w : World) (hw : Ok w) (hm : More w) (H : w.heap[g]? = some (.cells #[.string ⟨t.toArray⟩, .int .i64 n] 68 (0, 0))) (ht : t.length < 4294967281) (hn : 0 ≤ n ∧ n ≤ 4611686018427387904) (hg : 9 ≤ g) :
    Calls Tryd.prog 29 #[.pointer (some ⟨g, 0, none⟩), .int .i64 2] w fun e w' => Fe g w w' ∧ ((nextL 2 t = none ∧ e = .panicked [{ v := .iface 64 (.int .i64 (n + 1)), recovered := false }]) ∨
      ∃ x y b s, nextL 2 t = some ([x, y], b) ∧ w'.heap[g]? = some (.cells #[.string ⟨b.toArray⟩, .int .i64 (n + 1)] 68 (0, 0)) ∧ w.heap.size ≤ s ∧ w'.cell? ⟨s, 0, none⟩ = some (.string ⟨x.toArray⟩) ∧ w'.cell? ⟨s, 1, none⟩ = some (.string ⟨y.toArray⟩) ∧ x.length ≤ t.length ∧ y.length ≤ t.length ∧ b.length < t.length ∧ e = .returned (.slice (some ⟨s, 0, none⟩) 2 2)) := by
  refine (next_any g 2 t n w hw hm H ht hn hg).mono ?_
  rintro e w' ⟨f, he⟩
  refine ⟨f, ?_⟩
  cases hnx : nextL 2 t with
  | none => rw [hnx] at he; exact .inl ⟨rfl, he⟩
  | some p =>
    obtain ⟨ws, b⟩ := p
    rw [hnx] at he
    obtain ⟨H1, s, rfl, hs, hsB, hcs⟩ := he
    obtain ⟨_, hl⟩ := next_some hnx
    obtain ⟨h1, h2⟩ := next_len hnx
    match ws, hl with
    | [x, y], _ => exact .inr ⟨x, y, b, s, rfl, H1, hsB, hcs 0 x rfl, hcs 1 y rfl, h2 x (by simp), h2 y (by simp), h1, rfl⟩
theorem next4_or (g : Nat) (t : List UInt8) (n : Int) (w : World) (hw : Ok w) (hm : More w) (H : w.heap[g]? = some (.cells #[.string ⟨t.toArray⟩, .int .i64 n] 68 (0, 0))) (ht : t.length < 4294967281) (hn : 0 ≤ n ∧ n ≤ 4611686018427387904) (hg : 9 ≤ g) :
    Calls Tryd.prog 29 #[.pointer (some ⟨g, 0, none⟩), .int .i64 4] w fun e w' => Fe g w w' ∧ ((nextL 4 t = none ∧ e = .panicked [{ v := .iface 64 (.int .i64 (n + 1)), recovered := false }]) ∨
      ∃ x y z u b s, nextL 4 t = some ([x, y, z, u], b) ∧ w'.heap[g]? = some (.cells #[.string ⟨b.toArray⟩, .int .i64 (n + 1)] 68 (0, 0)) ∧ w.heap.size ≤ s ∧ w'.cell? ⟨s, 0, none⟩ = some (.string ⟨x.toArray⟩) ∧ w'.cell? ⟨s, 1, none⟩ = some (.string ⟨y.toArray⟩) ∧ w'.cell? ⟨s, 2, none⟩ = some (.string ⟨z.toArray⟩) ∧ w'.cell? ⟨s, 3, none⟩ = some (.string ⟨u.toArray⟩) ∧
        x.length ≤ t.length ∧ y.length ≤ t.length ∧ z.length ≤ t.length ∧ u.length ≤ t.length ∧ b.length < t.length ∧ e = .returned (.slice (some ⟨s, 0, none⟩) 4 4)) := by
  refine (next_any g 4 t n w hw hm H ht hn hg).mono ?_
  rintro e w' ⟨f, he⟩
  refine ⟨f, ?_⟩
  cases hnx : nextL 4 t with
  | none => rw [hnx] at he; exact .inl ⟨rfl, he⟩
  | some p =>
    obtain ⟨ws, b⟩ := p
    rw [hnx] at he
    obtain ⟨H1, s, rfl, hs, hsB, hcs⟩ := he
    obtain ⟨_, hl⟩ := next_some hnx
    obtain ⟨h1, h2⟩ := next_len hnx
    match ws, hl with
    | [x, y, z, u], _ => exact .inr ⟨x, y, z, u, b, s, rfl, H1, hsB, hcs 0 x rfl, hcs 1 y rfl, hcs 2 z rfl, hcs 3 u rfl, h2 x (by simp), h2 y (by simp), h2 z (by simp), h2 u (by simp), h1, rfl⟩
theorem count_or (g : Nat) (word t : List UInt8) (n : Int) (w : World) (hw : Ok w) (hm : More w) (H : w.heap[g]? = some (.cells #[.string ⟨t.toArray⟩, .int .i64 n] 68 (0, 0))) (ht : t.length < 4294967281) (hn : 0 ≤ n ∧ n ≤ 4611686018427387904) (hg : 9 ≤ g) :
    Calls Tryd.prog 31 #[.pointer (some ⟨g, 0, none⟩), .string ⟨word.toArray⟩] w fun e w' => Fe g w w' ∧ ((cntL word t = none ∧ e = .panicked [{ v := .iface 64 (.int .i64 (n + 1)), recovered := false }]) ∨
      ∃ v b, cntL word t = some (v, b) ∧ w'.heap[g]? = some (.cells #[.string ⟨b.toArray⟩, .int .i64 (n + 1)] 68 (0, 0)) ∧ b.length < t.length ∧ e = .returned (.int .i64 v)) := by
  refine (count_any g word t n w hw hm H ht hn hg).mono ?_
  rintro e w' ⟨f, he⟩
  refine ⟨f, ?_⟩
  cases hc : cntL word t with
  | none => rw [hc] at he; exact .inl ⟨rfl, he⟩
  | some p =>
    obtain ⟨v, b⟩ := p
    rw [hc] at he
    exact .inr ⟨v, b, rfl, he.1, cnt_len hc, he.2⟩
theorem number_or (g : Nat) (x : List UInt8) (t : Value) (n : Int) (w : World) (hw : Ok w) (hm : More w) (H : w.heap[g]? = some (.cells #[t, .int .i64 n] 68 (0, 0))) (hx : x.length < 4294967281) :
    Calls Tryd.prog 33 #[.pointer (some ⟨g, 0, none⟩), .string ⟨x.toArray⟩] w fun e w' => Fr w w' ∧ ((canI x = none ∧ e = .panicked [{ v := .iface 64 (.int .i64 n), recovered := false }]) ∨ ∃ v, canI x = some v ∧ e = .returned (.int .i64 v)) := by
  refine (number_any g x t n w hw hm H hx).mono ?_
  rintro e w' ⟨f, he⟩
  refine ⟨f, ?_⟩
  cases hc : canI x with
  | none => rw [hc] at he; exact .inl ⟨rfl, he⟩
  | some v => rw [hc] at he; exact .inr ⟨v, rfl, he⟩
theorem kind_or (g : Nat) (x : List UInt8) (t : Value) (n : Int) (w : World) (hw : Ok w) (hm : More w) (H : w.heap[g]? = some (.cells #[t, .int .i64 n] 68 (0, 0))) (hx : x.length < 4294967281) :
    Calls Tryd.prog 32 #[.pointer (some ⟨g, 0, none⟩), .string ⟨x.toArray⟩] w fun e w' => Fr w w' ∧ ((kindL x = none ∧ e = .panicked [{ v := .iface 64 (.int .i64 n), recovered := false }]) ∨ ∃ v, kindL x = some v ∧ e = .returned (.int .i64 v)) := by
  refine (kind_any g x t n w hw hm H hx).mono ?_
  rintro e w' ⟨f, he⟩
  refine ⟨f, ?_⟩
  cases hc : kindL x with
  | none => rw [hc] at he; exact .inl ⟨rfl, he⟩
  | some v => rw [hc] at he; exact .inr ⟨v, rfl, he⟩

/-! ### The whole reading, by its parts -/
section
variable {t b b1 b2 b3 b4 b5 : List UInt8} {u : Nat} {v1 v2 v3 v4 : Int} {sv : Bool}
theorem readL_e1 (h0 : floorL t = none) : readL t = .error 1 := by unfold readL; rw [h0]
theorem readL_e2 (h0 : floorL t = some (u, b)) (h1 : cntL [99, 111, 117, 110, 116, 101, 100] b = none) : readL t = .error 2 := by unfold readL; rw [h0]; dsimp only; rw [h1]
theorem readL_e3 (h0 : floorL t = some (u, b)) (h1 : cntL [99, 111, 117, 110, 116, 101, 100] b = some (v1, b1)) (h2 : cntL [108, 105, 118, 101] b1 = none) : readL t = .error 3 := by
  unfold readL; rw [h0]; dsimp only; rw [h1]; dsimp only; rw [h2]
theorem readL_e4 (h0 : floorL t = some (u, b)) (h1 : cntL [99, 111, 117, 110, 116, 101, 100] b = some (v1, b1)) (h2 : cntL [108, 105, 118, 101] b1 = some (v2, b2)) (h3 : cntL [117, 115, 101, 100] b2 = none) : readL t = .error 4 := by
  unfold readL; rw [h0]; dsimp only; rw [h1]; dsimp only; rw [h2]; dsimp only; rw [h3]
theorem readL_e5 (h0 : floorL t = some (u, b)) (h1 : cntL [99, 111, 117, 110, 116, 101, 100] b = some (v1, b1)) (h2 : cntL [108, 105, 118, 101] b1 = some (v2, b2)) (h3 : cntL [117, 115, 101, 100] b2 = some (v3, b3)) (h4 : cntL [98, 97, 100] b3 = none) : readL t = .error 5 := by
  unfold readL; rw [h0]; dsimp only; rw [h1]; dsimp only; rw [h2]; dsimp only; rw [h3]; dsimp only; rw [h4]
theorem readL_e6 (h0 : floorL t = some (u, b)) (h1 : cntL [99, 111, 117, 110, 116, 101, 100] b = some (v1, b1)) (h2 : cntL [108, 105, 118, 101] b1 = some (v2, b2)) (h3 : cntL [117, 115, 101, 100] b2 = some (v3, b3)) (h4 : cntL [98, 97, 100] b3 = some (v4, b4)) (h5 : savL b4 = none) : readL t = .error 6 := by
  unfold readL; rw [h0]; dsimp only; rw [h1]; dsimp only; rw [h2]; dsimp only; rw [h3]; dsimp only; rw [h4]; dsimp only; rw [h5]
def endFins (u : Nat) (v1 v2 v3 v4 : Int) (sv : Bool) : Except Nat (List Fnd) → Except Nat Rep
  | .error n => .error n
  | .ok fs => .ok ⟨(u : Int), v1, v2, v3, v4, sv, fs⟩
theorem readL_go (h0 : floorL t = some (u, b)) (h1 : cntL [99, 111, 117, 110, 116, 101, 100] b = some (v1, b1)) (h2 : cntL [108, 105, 118, 101] b1 = some (v2, b2)) (h3 : cntL [117, 115, 101, 100] b2 = some (v3, b3)) (h4 : cntL [98, 97, 100] b3 = some (v4, b4)) (h5 : savL b4 = some (sv, b5)) :
    readL t = endFins u v1 v2 v3 v4 sv (finsL b5.length 7 b5) := by
  unfold readL; rw [h0]; dsimp only; rw [h1]; dsimp only; rw [h2]; dsimp only; rw [h3]; dsimp only; rw [h4]; dsimp only; rw [h5]; dsimp only
  cases finsL b5.length 7 b5 <;> rfl
end
theorem sav_cases {x y b : List UInt8} {t : List UInt8} (h : nextL 2 t = some ([x, y], b)) :
    ((x == [115, 97, 118, 101, 100]) = false ∧ savL t = none) ∨ ((x == [115, 97, 118, 101, 100]) = true ∧ (y == [121, 101, 115]) = false ∧ (y == [110, 111]) = false ∧ savL t = none) ∨
    ((x == [115, 97, 118, 101, 100]) = true ∧ (y == [121, 101, 115]) = true ∧ savL t = some (true, b)) ∨ ((x == [115, 97, 118, 101, 100]) = true ∧ (y == [121, 101, 115]) = false ∧ (y == [110, 111]) = true ∧ savL t = some (false, b)) := by
  by_cases hx : x = [115, 97, 118, 101, 100]
  · right
    have hs : savL t = if y = [121, 101, 115] then some (true, b) else if y = [110, 111] then some (false, b) else none := by unfold savL; rw [h]; exact if_pos hx
    by_cases hy : y = [121, 101, 115]
    · exact .inr (.inl ⟨by simpa using hx, by simpa using hy, by rw [hs, if_pos hy]⟩)
    · by_cases hn : y = [110, 111]
      · exact .inr (.inr ⟨by simpa using hx, by simpa using hy, by simpa using hn, by rw [hs, if_neg hy, if_pos hn]⟩)
      · exact .inl ⟨by simpa using hx, by simpa using hy, by simpa using hn, by rw [hs, if_neg hy, if_neg hn]⟩
  · exact .inl ⟨by simpa using hx, by unfold savL; rw [h]; exact if_neg hx⟩

/-- the findings so far, and what is read behind them -/
def glue (fs : List Fnd) : Except Nat (List Fnd) → Except Nat (List Fnd)
  | .error n => .error n
  | .ok gs => .ok (fs ++ gs)
theorem glue_nil (r : Except Nat (List Fnd)) : glue [] r = r := by cases r <;> rfl
theorem glue_snoc (fs : List Fnd) (f : Fnd) (r : Except Nat (List Fnd)) : glue fs (match r with | .error m => .error m | .ok gs => .ok (f :: gs)) = glue (fs ++ [f]) r := by cases r <;> simp [glue]
/-- how much text is left -/
def txtLen (g : Nat) (W : World) : Nat := match W.cell? ⟨g, 0, none⟩ with
  | some (.string s) => s.size
  | _ => 0
theorem txtLen_of {g : Nat} {W : World} {b : List UInt8} {v : Value} {T : TypeId} (H : W.heap[g]? = some (.cells #[.string ⟨b.toArray⟩, v] T (0, 0))) : txtLen g W = b.length := by
  unfold txtLen
  rw [(blk2 H).1]
  simp [ByteArray.size]
theorem set_idem {w : World} {g : Nat} {cs : Array Value} {t : TypeId} {fz : Nat × Nat} (H : w.heap[g]? = some (.cells cs t fz)) (j : Nat) (v : Value) (hj : cs[j]? = some v) : w.setCell ⟨g, j, none⟩ v = w := by
  have hlt := (Array.getElem?_eq_some_iff.1 H).1
  have hg := (Array.getElem?_eq_some_iff.1 H).2
  have hc : cs.setIfInBounds j v = cs := by
    apply Array.ext_getElem?
    intro i
    by_cases hi : j = i
    · subst hi
      have hjs := (Array.getElem?_eq_some_iff.1 hj).1
      rw [Array.getElem?_setIfInBounds_self_of_lt hjs, hj]
    · rw [Array.getElem?_setIfInBounds_ne hi]
  have hh : (w.setCell ⟨g, j, none⟩ v).heap = w.heap := by
    apply Array.ext_getElem?
    intro i
    by_cases hi : i = g
    · subst hi
      rw [set_same H j v, hc, H]
    · exact Below.heap_setCell w ⟨g, j, none⟩ v i hi
  have h2 : w.setCell ⟨g, j, none⟩ v = { w with heap := (w.setCell ⟨g, j, none⟩ v).heap } := rfl
  rw [h2, hh]
theorem Fe.grown {g : Nat} {w w' : World} (h : Fe g w w') : w.grownBy w' (some g) := ⟨h.below.os, h.below.tape, h.below.output, h.below.size, fun k hk hne => h.above k hk (fun e => hne (by rw [e]))⟩
theorem own_fe {W W' : World} {base size n g : Nat} {e : TypeId} {v : Value} {xs : List Value} (h : W.ownsRow base e size v n xs) (q : Fe g W W') (hg : g < base) : W'.ownsRow base e size v n xs :=
  h.kept q.grown (.inr fun hk => by have := own_base' h g hk; omega)
set_option maxRecDepth 100000 in
theorem door_ok (T : Array Value) (g g1 g2 : Nat) (res : Except Nat Rep) (r : Rep) (hres : res = .ok r) (a : Option Addr) (c : Nat) (w0 w : World) (f : Fr w0 w)
    (hT2 : T[2]? = some (.pointer (some ⟨g, 0, none⟩))) (hT3 : T[3]? = some (.pointer (some ⟨g1, 0, none⟩))) (hT4 : T[4]? = some (.pointer (some ⟨g2, 0, none⟩)))
    (H0 : w.heap[g]? = some (.cells #[.int .u64 r.floor, .int .i64 r.counted, .int .i64 r.live, .int .i64 r.used, .int .i64 r.bad, .bool r.saved, .slice a r.fs.length c] 25 (0, 0))) (H1 : w.heap[g1]? = some (.cells #[.int .i64 0] 35 (0, 0))) (H2 : w.heap[g2]? = some (.cells #[.int .i64 0] 3 (0, 0)))
    (B : Nat) (hB : w0.heap.size ≤ B) (hown : w.ownsRow B 29 4 (.slice a r.fs.length c) r.fs.length (frow r.fs)) :
    Leaves Tryd.prog Tryd.f10 T (fun e w' => Fr w0 w' ∧ endRead w0.heap.size res e w') [{ target := .fn (.func 28) #[.pointer (some ⟨g, 0, none⟩), .pointer (some ⟨g1, 0, none⟩), .pointer (some ⟨g2, 0, none⟩)], args := #[] }] .returning w := by
  refine leaves_cons (f := 28) (args := #[.pointer (some ⟨g, 0, none⟩), .pointer (some ⟨g1, 0, none⟩), .pointer (some ⟨g2, 0, none⟩)]) (by simp) (by simp [go_sem]) ?_
  refine (catch_idle _ _ _ _).mono ?_
  rintro e u' w'' ⟨rfl, rfl, rfl⟩
  obtain ⟨c0, c1, c2, c3, c4, c5, c6⟩ := blk7 H0
  have d0 := blk1 H1
  have d1 := blk1 H2
  subst hres
  simp [Leaves, settle, results, Tryd.results10, go_sem, hT2, hT3, hT4, c0, c1, c2, c3, c4, c5, c6, d0, d1]
  exact ⟨f, a, c, rfl, B, hB, hown⟩
section
open Go.Sort
variable {w : World} {d : Nat} {os : Array Obj} {g : Nat} {x : List UInt8} {t : Value} {n v : Int}
theorem frR (hw : Ok w) (d : Nat) (os : Array Obj) : Fr w (grow (redrawn w d) os) := Fr.of hw (below_regrown w d os)
theorem kindQ (hw : Ok w) (hm : More w) (H : w.heap[g]? = some (.cells #[t, .int .i64 n] 68 (0, 0))) (hx : x.length < 4294967281) (h : kindL x = some v) :
    Calls Tryd.prog 32 #[.pointer (some ⟨g, 0, none⟩), .string ⟨x.toArray⟩] (grow (redrawn w d) os) fun e w'' => e = .returned (.int .i64 v) ∧ ∃ p : Regrown, w'' = grow (redrawn w p.d) p.os := by
  have q := frR hw d os
  refine qfr ((kind_or g x t n _ q.ok (hm.fr q) (q.heap H) hx).mono ?_)
  rintro e w' ⟨f, ⟨h2, _⟩ | ⟨v', h2, rfl⟩⟩
  · rw [h] at h2; cases h2
  · rw [h] at h2; cases h2; exact ⟨rfl, f⟩
theorem numQ (hw : Ok w) (hm : More w) (H : w.heap[g]? = some (.cells #[t, .int .i64 n] 68 (0, 0))) (hx : x.length < 4294967281) (h : canI x = some v) :
    Calls Tryd.prog 33 #[.pointer (some ⟨g, 0, none⟩), .string ⟨x.toArray⟩] (grow (redrawn w d) os) fun e w'' => e = .returned (.int .i64 v) ∧ ∃ p : Regrown, w'' = grow (redrawn w p.d) p.os := by
  have q := frR hw d os
  refine qfr ((number_or g x t n _ q.ok (hm.fr q) (q.heap H) hx).mono ?_)
  rintro e w' ⟨f, ⟨h2, _⟩ | ⟨v', h2, rfl⟩⟩
  · rw [h] at h2; cases h2
  · rw [h] at h2; cases h2; exact ⟨rfl, f⟩
theorem dieR {f : FuncId} {args : Array Value} {ch : List PanicEntry} (h : Calls Tryd.prog f args (grow (redrawn w d) os) fun e w' => e = .panicked ch ∧ Fr (grow (redrawn w d) os) w') :
    Calls Tryd.prog f args (grow (redrawn w d) os) fun e w'' => e = .panicked ch ∧ ∃ p : Regrown, w'' = grow (redrawn w p.d) p.os :=
  h.mono fun _ _ ⟨he, q⟩ => ⟨he, regrown_of_below ((below_regrown w d os).trans (q.below.mono (below_regrown w d os).size))⟩
theorem kindX (hw : Ok w) (hm : More w) (H : w.heap[g]? = some (.cells #[t, .int .i64 n] 68 (0, 0))) (hx : x.length < 4294967281) (h : kindL x = none) :
    Calls Tryd.prog 32 #[.pointer (some ⟨g, 0, none⟩), .string ⟨x.toArray⟩] (grow (redrawn w d) os) fun e w'' => e = .panicked [{ v := .iface 64 (.int .i64 n), recovered := false }] ∧ ∃ p : Regrown, w'' = grow (redrawn w p.d) p.os := by
  have q := frR hw d os
  refine dieR ((kind_or g x t n _ q.ok (hm.fr q) (q.heap H) hx).mono ?_)
  rintro e w' ⟨f, ⟨_, rfl⟩ | ⟨v', h2, rfl⟩⟩
  · exact ⟨rfl, f⟩
  · rw [h] at h2; cases h2
theorem numX (hw : Ok w) (hm : More w) (H : w.heap[g]? = some (.cells #[t, .int .i64 n] 68 (0, 0))) (hx : x.length < 4294967281) (h : canI x = none) :
    Calls Tryd.prog 33 #[.pointer (some ⟨g, 0, none⟩), .string ⟨x.toArray⟩] (grow (redrawn w d) os) fun e w'' => e = .panicked [{ v := .iface 64 (.int .i64 n), recovered := false }] ∧ ∃ p : Regrown, w'' = grow (redrawn w p.d) p.os := by
  have q := frR hw d os
  refine dieR ((number_or g x t n _ q.ok (hm.fr q) (q.heap H) hx).mono ?_)
  rintro e w' ⟨f, ⟨_, rfl⟩ | ⟨v', h2, rfl⟩⟩
  · exact ⟨rfl, f⟩
  · rw [h] at h2; cases h2
end
end Go.Proofs.YtioapjnaopnhaaaDoor
