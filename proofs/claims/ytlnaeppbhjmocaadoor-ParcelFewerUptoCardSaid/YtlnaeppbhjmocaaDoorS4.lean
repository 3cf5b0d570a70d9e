/- The sum of bytes bit by bit, and four bits at a time: the same, in plain Lean. No conditions. -/
import Derived.Test.YtlnaeppbhjmocaaDoorS3
import Derived.StillTail
import Derived.BigQuiet
import Derived.Lib.QuietBelow
import Derived.KernelRfl
import Derived.OrdersHeld
import Derived.Deep.RegionHeld3
import Derived.Test.YtlnaeppbhjmocaaDoorShelf
import Derived.WalkKit
import Derived.WalkSpells
import Derived.WalkLawsBesides
import Derived.Deep.QuietTactic
import Derived.Deep.DeepFit
import Derived.Lib.Hide
import Derived.Lib.ItoaLen
import Derived.Laws.AppendOwnNone
import Derived.Deep.DeepCutAuto
set_option linter.unusedSectionVars false
set_option linter.unnecessarySimpa false
set_option linter.unusedSimpArgs false
set_option linter.unusedVariables false
namespace Go.Proofs.YtlnaeppbhjmocaaDoor.Reg
open Go Go.RowKit Go.Sort

section
variable {P : Program} {ops : Array Oper} {md : Region.Mode} {C : World → Prop}

structure Inv (md : Region.Mode) (ops : Array Oper) (e n : Nat) (listed : Array Bool) : Prop extends HeadInv md ops n listed where
  early : ∀ k, k < e → listed.getD k true = true

theorem Inv.set {e n i : Nat} {listed : Array Bool} (inv : Inv md ops e n listed) (hi : i ∈ Region.ready md ops listed) (hin : i < n) : Inv md ops e n (listed.setIfInBounds i true) where
  toHeadInv := inv.toHeadInv.set hi hin
  early k hk := by
    by_cases h : i = k
    · subst h
      have := (mem_ready.1 hi).1
      rw [inv.early i hk] at this
      cases this
    · rw [getD_set_ne true h]; exact inv.early k hk

end
end Go.Proofs.YtlnaeppbhjmocaaDoor.Reg
namespace Go.Proofs.YtlnaeppbhjmocaaDoor.Reg
open Go Go.RowKit Go.Sort

section
variable {P : Program} {ops : Array Oper} {md : Region.Mode} {C S : World → Prop} {D : Nat} {Q : Exit → Act → World → Prop}

/-- whatever order is picked, and S holds until D has come up -/
def wpAnyT (P : Program) (md : Region.Mode) (ops : Array Oper) (Q : Exit → Act → World → Prop) (S : World → Prop) (D : Nat) : Nat → Array Bool → Act → World → Prop
  | 0, listed, a, w => Region.ready md ops listed = [] ∧ Q .normal a w
  | f + 1, listed, a, w =>
    (Region.ready md ops listed = [] → Q .normal a w) ∧
    ∀ i ∈ Region.ready md ops listed, wpOp P ops Q i (fun a' w' => ((listed.setIfInBounds i true).getD D true = false → S w') ∧ wpAnyT P md ops Q S D f (listed.setIfInBounds i true) a' w') a w

theorem wpAny_of_T : ∀ (f : Nat) (listed : Array Bool) (a : Act) (w : World), wpAnyT P md ops Q S D f listed a w → wpAny P md ops Q f listed a w
  | 0, _, _, _, h => h
  | f + 1, _, _, _, h => ⟨h.1, fun i hi => wpOp_mono (fun a' w' h' => wpAny_of_T f _ a' w' h'.2) (h.2 i hi)⟩

theorem getD_set_self {listed : Array Bool} {i : Nat} : (listed.setIfInBounds i true).getD i true = true := by
  rcases Nat.lt_or_ge i listed.size with h' | h'
  · simp [h']
  · simp [h']

def ClosedL (md : Region.Mode) (ops : Array Oper) (listed : Array Bool) : Prop := ∀ j oj, ops[j]? = some oj → listed.getD j false = true → ∀ e ∈ oj.after, Region.binds md e = true → listed.getD e.on false = true
theorem ClosedL.set {i : Nat} {listed : Array Bool} (inv : ClosedL md ops listed) (hi : i ∈ Region.ready md ops listed) : ClosedL md ops (listed.setIfInBounds i true) := by
  obtain ⟨_, oi, hoi, hall⟩ := mem_ready.1 hi
  intro j oj hj hl e he hb
  by_cases hij : i = j
  · subst hij
    have : oj = oi := Option.some.inj (hj.symm.trans hoi)
    subst this
    exact getD_set_true (hall e he hb)
  · rw [getD_set_ne false hij] at hl
    exact getD_set_true (inv j oj hj hl e he hb)
/-- D waits for i, or for one that does, and so on -/
def reach (md : Region.Mode) (ops : Array Oper) : Nat → Nat → Nat → Bool
  | 0, D, i => Region.waitsFor md ops D i
  | f + 1, D, i => Region.waitsFor md ops D i || (List.range ops.size).any fun j => Region.waitsFor md ops D j && reach md ops f j i
def Waits (md : Region.Mode) (ops : Array Oper) (D i : Nat) : Prop := ∃ f, reach md ops f D i = true
theorem reach_listed {listed : Array Bool} (hc : ClosedL md ops listed) : ∀ (f D i : Nat), reach md ops f D i = true → listed.getD D false = true → listed.getD i false = true := by
  have one : ∀ D i, Region.waitsFor md ops D i = true → listed.getD D false = true → listed.getD i false = true := fun D i h hD => by
    obtain ⟨oj, hoj, e, he, hb, hon⟩ := Region.waitsFor_spec h
    have h4 := hc D oj hoj hD e he hb
    rwa [hon] at h4
  intro f
  induction f with
  | zero => intro D i h hD; exact one D i h hD
  | succ f ih =>
    intro D i h hD
    simp only [reach, Bool.or_eq_true, List.any_eq_true, Bool.and_eq_true] at h
    rcases h with h | ⟨j, _, h1, h2⟩
    · exact one D i h hD
    · exact ih j i h2 (one D j h1 hD)
theorem Waits.not_ready {D i : Nat} {listed : Array Bool} (h : Waits md ops D i) (hc : ClosedL md ops listed) (hun : listed.getD i true = false) : D ∉ Region.ready md ops listed := fun hr => by
  obtain ⟨_, oD, hoD, hall⟩ := mem_ready.1 hr
  have one : ∀ j, Region.waitsFor md ops D j = true → listed.getD j false = true := fun j h => by
    obtain ⟨oj, hoj, e, he, hb, hon⟩ := Region.waitsFor_spec h
    have : oj = oD := Option.some.inj (hoj.symm.trans hoD)
    subst this
    have h3 := hall e he hb
    rwa [hon] at h3
  have key : listed.getD i false = true := by
    obtain ⟨f, h⟩ := h
    cases f with
    | zero => exact one i h
    | succ f =>
      simp only [reach, Bool.or_eq_true, List.any_eq_true, Bool.and_eq_true] at h
      rcases h with h | ⟨j, _, h1, h2⟩
      · exact one i h
      · exact reach_listed hc f j i h2 (one j h1)
  rw [getD_both hun] at key
  cases key

theorem wpAnyT_first {i : Nat} {oi : Oper} {v : Value} (hi : ops[i]? = some oi) (hw : Waits md ops D i) (hiD : i ≠ D)
    (hsel : ∀ (j : Nat) (o : Oper) cs b, ops[j]? = some o → o.op ≠ .select cs b) (hQ : ∀ c a w, Q (.panic c) (Act.put a oi.dst v) w → Q (.panic c) a w) :
    ∀ (f : Nat) (listed : Array Bool) (a : Act) (w : World),
      (∀ j oj, ops[j]? = some oj → j ≠ i → listed.getD j true = false → (∀ e ∈ oj.after, Region.binds md e = true → e.on ≠ i) → oi.apart ops oj = true) →
      i ∈ Region.ready md ops listed → ClosedL md ops listed → listed.getD D true = false → YieldsIf P ops S oi v a → S w →
      wpAnyT P md ops Q S D f (listed.setIfInBounds i true) (a.put oi.dst v) w → wpAnyT P md ops Q S D (f + 1) listed a w := by
  intro f
  induction f with
  | zero =>
    intro listed a w _ hr _ hD hy hS H
    refine ⟨fun h => (by rw [h] at hr; cases hr), fun j hj => ?_⟩
    by_cases hji : j = i
    · subst hji; exact hy.wpOp hi hS ⟨fun _ => hS, H⟩
    · have := ready_mono hj hji
      rw [H.1] at this
      cases this
  | succ f ih =>
    intro listed a w hfree hr hcl hD hy hS H
    have hun := (mem_ready.1 hr).1
    refine ⟨fun h => (by rw [h] at hr; cases hr), fun j hj => ?_⟩
    by_cases hji : j = i
    · subst hji; exact hy.wpOp hi hS ⟨fun _ => hS, H⟩
    · have h1 := H.2 j (ready_mono hj hji)
      obtain ⟨hjun, oj, hoj, hall⟩ := mem_ready.1 hj
      have hnot : ∀ e ∈ oj.after, Region.binds md e = true → e.on ≠ i := fun e he hb heq => by
        have h1 := hall e he hb
        rw [heq, getD_both hun] at h1
        cases h1
      have hjD : j ≠ D := fun e => by
        subst e
        exact hw.not_ready hcl hun hj
      have h2 := wpOp_putIf (S := S) hoj (hfree j oj hoj hji hjun hnot) (fun cs b => hsel i oi cs b hi) (fun cs b => hsel j oj cs b hoj) hQ hy h1
      have hfree' : ∀ k ok, ops[k]? = some ok → k ≠ i → (listed.setIfInBounds j true).getD k true = false →
          (∀ e ∈ ok.after, Region.binds md e = true → e.on ≠ i) → oi.apart ops ok = true := fun k ok hk hki hun hno => by
        refine hfree k ok hk hki ?_ hno
        by_cases hjk : j = k
        · subst hjk; exact hjun
        · rw [getD_set_ne true hjk] at hun; exact hun
      have hD' : (listed.setIfInBounds j true).getD D true = false := by rw [getD_set_ne true hjD]; exact hD
      have hD'' : ((listed.setIfInBounds i true).setIfInBounds j true).getD D true = false := by rw [getD_set_ne true hjD, getD_set_ne true hiD]; exact hD
      refine wpOp_mono (fun a' w' h3 => ?_) h2
      obtain ⟨hy', hS', h4⟩ := h3
      have hS'' := hS' hD''
      refine ⟨fun _ => hS'', ih (listed.setIfInBounds j true) a' w' hfree' (ready_mono hr (Ne.symm hji)) (hcl.set hj) hD' hy' hS'' ?_⟩
      rw [Array.setIfInBounds_comm _ _ hji]
      exact h4

end
end Go.Proofs.YtlnaeppbhjmocaaDoor.Reg
namespace Go.Proofs.YtlnaeppbhjmocaaDoor.Reg
open Go Go.RowKit Go.Sort

section
variable {P : Program} {ops : Array Oper} {md : Region.Mode} {S : World → Prop} {D : Nat} {Q : Exit → Act → World → Prop}

def lateL : List Nat → Array Bool → Array Bool
  | [], listed => listed
  | k :: qs, listed => lateL qs (listed.setIfInBounds k true)
def lateT (md : Region.Mode) (ops : Array Oper) (D : Nat) : List Nat → Array Bool → Bool
  | [], _ => true
  | k :: qs, listed => decide (k ≠ D) && reach md ops 6 D k && (Region.ready md ops listed).contains k && Region.free md ops listed k && lateT md ops D qs (listed.setIfInBounds k true)
def seqI (md : Region.Mode) (ops : Array Oper) : List Nat → Array Bool → Bool
  | [], listed => decide (Region.ready md ops listed = [])
  | k :: rest, listed => decide (Region.ready md ops listed = [k]) && seqI md ops rest (listed.setIfInBounds k true)
def wpLateT (P : Program) (ops : Array Oper) (S : World → Prop) (K : Act → Prop) : List Nat → Act → Prop
  | [], a => K a
  | k :: qs, a => ∃ o, ops[k]? = some o ∧ ∃ v, YieldsIf P ops S o v a ∧ wpLateT P ops S K qs (a.put o.dst v)
def wpMainT (P : Program) (ops : Array Oper) (Q : Exit → Act → World → Prop) (S : World → Prop) (D : Nat) : List Nat → Act → World → Prop
  | [], a, w => Q .normal a w
  | k :: rest, a, w => wpOp P ops Q k (fun a' w' => (k = D ∨ S w') ∧ wpMainT P ops Q S D rest a' w') a w

theorem wpAnyT_main : ∀ (rest : List Nat) (listed : Array Bool) (a : Act) (w : World), seqI md ops rest listed = true → wpMainT P ops Q S D rest a w → wpAnyT P md ops Q S D rest.length listed a w
  | [], _, _, _, hB, h => ⟨by simpa [seqI] using hB, h⟩
  | k :: rest, listed, a, w, hB, h => by
    simp only [seqI, Bool.and_eq_true, decide_eq_true_eq] at hB
    refine ⟨fun h1 => (by rw [hB.1] at h1; cases h1), fun i hi => ?_⟩
    rw [hB.1] at hi
    have hik : i = k := by simpa using hi
    subst hik
    refine wpOp_mono (fun a' w' h' => ⟨fun hD => h'.1.resolve_left (fun e => ?_), wpAnyT_main rest _ a' w' hB.2 h'.2⟩) h
    subst e
    rw [getD_set_self] at hD
    cases hD

theorem wpAnyT_late {K : Act → Prop} (hsel : Region.noSelect ops = true) (hQ : ∀ c a d v w, Q (.panic c) (Act.put a d v) w → Q (.panic c) a w) :
    ∀ (qs : List Nat) (fuel : Nat) (listed : Array Bool) (a : Act) (w : World), lateT md ops D qs listed = true → ClosedL md ops listed → listed.getD D true = false → S w →
      (∀ a', K a' → wpAnyT P md ops Q S D fuel (lateL qs listed) a' w) → wpLateT P ops S K qs a → wpAnyT P md ops Q S D (qs.length + fuel) listed a w
  | [], fuel, _, a, _, _, _, _, _, hK, h => by simpa [lateL] using hK a h
  | k :: qs, fuel, listed, a, w, hB, hcl, hD, hS, hK, h => by
    obtain ⟨o, h0, v, hy, h⟩ := h
    simp only [lateT, Bool.and_eq_true, decide_eq_true_eq] at hB
    obtain ⟨⟨⟨⟨hkD, hwt⟩, hr⟩, hf⟩, hB'⟩ := hB
    have hwt' : Waits md ops D k := ⟨6, hwt⟩
    rw [show (k :: qs).length + fuel = (qs.length + fuel) + 1 by simp only [List.length_cons]; omega]
    refine wpAnyT_first h0 hwt' hkD (Region.noSelect_spec hsel) (fun c a w h => hQ c a _ _ w h) _ listed a w (Region.free_spec h0 hf) (by simpa using hr) hcl hD hy hS ?_
    exact wpAnyT_late hsel hQ qs fuel _ _ w hB' (hcl.set (by simpa using hr)) (by rw [getD_set_ne true hkD]; exact hD) hS hK h

def lateB (md : Region.Mode) (ops : Array Oper) (D : Nat) (qs rest : List Nat) : Bool :=
  Region.noSelect ops && decide (D < ops.size) && decide (qs.length + rest.length = ops.size) && lateT md ops D qs (Array.replicate ops.size false) && seqI md ops rest (lateL qs (Array.replicate ops.size false))

theorem wp_region_late {id : Nat} {a : Act} {w : World} (S : World → Prop) (D : Nat) (qs rest : List Nat) (hm : P.follows .mixedOrders = true) (hB : lateB .any ops D qs rest = true) (hS : S w.drew)
    (h : wpLateT P ops S (fun a' => wpMainT P ops (NoPanic Q) S D rest a' w.drew) qs a) : (Code.region id ops true).wp P Q a w := by
  simp only [lateB, Bool.and_eq_true, decide_eq_true_eq] at hB
  obtain ⟨⟨⟨⟨hsel, hD⟩, hsz⟩, hlate⟩, hseq⟩ := hB
  refine wp_region_noPanic (wp_region_any hm (wpAny_of_T (S := S) (D := D) _ _ _ _ ?_))
  rw [← hsz]
  refine wpAnyT_late (md := .any) hsel (fun _ _ _ _ _ h => h) qs rest.length _ a _ ?_ ?_ ?_ hS (fun a' h' => wpAnyT_main rest _ a' _ ?_ h') h
  · rw [hsz]; exact hlate
  · rw [hsz]
    intro j oj _ hl
    rw [getD_replicate_false] at hl; cases hl
  · rw [hsz]
    exact getD_in (by simpa using hD) (getD_replicate_false _ _)
  · rw [hsz]; exact hseq

theorem wpLateT_step {k : Nat} {qs : List Nat} {a : Act} {o : Oper} {v : Value} {K : Act → Prop} (ho : ops[k]? = some o) (hw : Region.wanted o (yielded ops a.tmps) = true) (hr : ∀ w, S w → (execOp a.eval o).run P w = .ok (.value v) w) (h : wpLateT P ops S K qs (a.put o.dst v)) : wpLateT P ops S K (k :: qs) a :=
  ⟨o, ho, v, .inl ⟨hw, hr⟩, h⟩
/-- one step of the forced order, by its run -/
theorem wpOp_run {k : Nat} {o : Oper} {v : Value} {a : Act} {w w' : World} {K : Act → World → Prop} (ho : ops[k]? = some o) (hw : Region.wanted o (yielded ops a.tmps) = true) (hr : (execOp a.eval o).run P w = .ok (.value v) w') (h : K (a.put o.dst v) w') : wpOp P ops Q k K a w := by
  unfold wpOp
  simp only [ho, hw, if_true]
  left
  unfold Oper.wp
  rw [hr]
  exact h
theorem wpOp_skip {k : Nat} {o : Oper} {a : Act} {w w' : World} {K : Act → World → Prop} (ho : ops[k]? = some o) (hw : Region.wanted o (yielded ops a.tmps) = true) (hr : (execOp a.eval o).run P w = .ok .skip w') (h : K (a.put o.dst undef) w') : wpOp P ops Q k K a w := by
  unfold wpOp
  simp only [ho, hw, if_true]
  left
  unfold Oper.wp
  rw [hr]
  exact h
theorem wpMainT_run {k : Nat} {rest : List Nat} {o : Oper} {v : Value} {a : Act} {w w' : World} (ho : ops[k]? = some o) (hw : Region.wanted o (yielded ops a.tmps) = true) (hr : (execOp a.eval o).run P w = .ok (.value v) w') (hS : k = D ∨ S w') (h : wpMainT P ops Q S D rest (a.put o.dst v) w') : wpMainT P ops Q S D (k :: rest) a w :=
  wpOp_run ho hw hr ⟨hS, h⟩
theorem wpMainT_skip {k : Nat} {rest : List Nat} {o : Oper} {a : Act} {w w' : World} (ho : ops[k]? = some o) (hw : Region.wanted o (yielded ops a.tmps) = true) (hr : (execOp a.eval o).run P w = .ok .skip w') (hS : k = D ∨ S w') (h : wpMainT P ops Q S D rest (a.put o.dst undef) w') : wpMainT P ops Q S D (k :: rest) a w :=
  wpOp_skip ho hw hr ⟨hS, h⟩
theorem wpMainT_append {k : Nat} {rest : List Nat} {o : Oper} {a : Act} {w : World} (hk : ops[k]? = some o) (hgd : o.guard = none) (s x : Operand) (t1 t2 : TypeId)
    (ho : o.op = .call { callee := .builtin .append, args := #[s, x], argTypes := #[t1, t2] }) {v u v' : Value} {w' : World} (hs : a.eval s = v) (hx : a.eval x = u)
    (hr : (Builtin.append_ #[t1, t2] o.type #[v, u]).run P w = .ok v' w') (hS : k = D ∨ S w') (h : wpMainT P ops Q S D rest (a.put o.dst v') w') : wpMainT P ops Q S D (k :: rest) a w := by
  have hw : Region.wanted o (yielded ops a.tmps) = true := by simp [Region.wanted, hgd]
  refine wpOp_run hk hw ?_ ⟨hS, h⟩
  unfold execOp
  simp only [ho, resolve, invoke, builtin, Sem.run_bind, Sem.run_pure, Result.andThen_ok, List.map_toArray, List.map_cons, List.map_nil, hs, hx, hr]
theorem wpMainT_nil {a : Act} {w : World} (h : Q .normal a w) : wpMainT P ops (NoPanic Q) S D [] a w := NoPanic.normal h
end
end Go.Proofs.YtlnaeppbhjmocaaDoor.Reg
namespace Go.Proofs.YtlnaeppbhjmocaaDoor
open Go.RowKit Go.Proofs

theorem var_below {P : Program} {w w' : World} {n : String} {g : Nat} {cs : Array Value} (hg : P.globalNamed n = some g) (hb : Below w.heap.size w w') (h : w.var? P n = some cs) : w'.var? P n = some cs := by
  have hlt : g < w.heap.size := by
    simp only [World.var?, hg, Option.bind_some] at h
    split at h
    · rename_i heq; exact (Array.getElem?_eq_some_iff.1 heq).1
    · cases h
  exact var?_below hb hg hlt h

def foursTab : Array Value := #[.int .u32 0, .int .u32 498536548, .int .u32 997073096, .int .u32 651767980, .int .u32 1994146192, .int .u32 1802195444, .int .u32 1303535960, .int .u32 1342533948, .int .u32 3988292384, .int .u32 4027552580, .int .u32 3604390888, .int .u32 3412177804, .int .u32 2607071920, .int .u32 2262029012, .int .u32 2685067896, .int .u32 3183342108]

/-- the package-level tables are as laid -/
structure Ok (w : World) : Prop where
  fours : w.var? Tryd.prog "shale/words.fours" = some foursTab

theorem gFours : Tryd.prog.globalNamed "shale/words.fours" = some 0 := by kernel_rfl

theorem Ok.below {w w' : World} (h : Ok w) (hb : Below w.heap.size w w') : Ok w' where
  fours := var_below gFours hb h.fours

/-- w' is w with new blocks and draws; all is laid as it was. -/
structure Fr (w w' : World) : Prop where
  below : Below w.heap.size w w'
  ok : Ok w'

theorem Fr.refl {w : World} (h : Ok w) : Fr w w := ⟨Below.refl _ _, h⟩
theorem Fr.trans {a b c : World} (h : Fr a b) (k : Fr b c) : Fr a c := ⟨h.below.trans (k.below.mono h.below.size), k.ok⟩
theorem Fr.of {w w' : World} (h : Ok w) (hb : Below w.heap.size w w') : Fr w w' := ⟨hb, h.below hb⟩
theorem Fr.alloc {a w : World} (h : Fr a w) (o : Obj) : Fr a (w.alloc o) := h.trans (Fr.of h.ok ((Below.refl _ _).alloc (Nat.le_refl _) _))
theorem Fr.drew {a w : World} (h : Fr a w) : Fr a w.drew := h.trans (Fr.of h.ok (Below.refl _ _).drew)
theorem Fr.cell {w w' : World} (h : Fr w w') {p : Addr} {v : Value} (hc : w.cell? p = some v) : w'.cell? p = some v :=
  (h.below.cell (World.block_lt_of_cell? w p hc)).trans hc
theorem Fr.size {w w' : World} (h : Fr w w') : w.heap.size ≤ w'.heap.size := h.below.size
theorem Fr.heap {w w' : World} (h : Fr w w') {k : Nat} {o : Obj} (hk : w.heap[k]? = some o) : w'.heap[k]? = some o :=
  (h.below.block k (Array.getElem?_eq_some_iff.1 hk).1).trans hk
theorem Fr.grown {w : World} (h : Ok w) {w' : World} (hw : ∃ k os, w' = Sort.grow (w.drewN k) os) : Fr w w' := by
  obtain ⟨k, os, rfl⟩ := hw
  refine Fr.of h ⟨rfl, rfl, rfl, by simp [Sort.grow], fun i hi => ?_⟩
  simp [Sort.grow, Array.getElem?_append, hi]
theorem Fr.regrown {w w' : World} (h : Ok w) (hw : ∃ p : Regrown, w' = Sort.grow (redrawn w p.d) p.os) : Fr w w' := by
  obtain ⟨p, rfl⟩ := hw; exact Fr.of h (below_regrown w p.d p.os)
theorem okR {w : World} (h : Ok w) (d : Nat) (os : Array Obj) : Ok (Sort.grow (redrawn w d) os) := h.below (below_regrown w d os)
theorem qfr {P : Program} {f : FuncId} {args : Array Value} {w : World} {d : Nat} {os : Array Obj} {v : Value}
    (h : Calls P f args (Sort.grow (redrawn w d) os) fun e w' => e = .returned v ∧ Fr (Sort.grow (redrawn w d) os) w') : Calls P f args (Sort.grow (redrawn w d) os) fun e w'' => e = .returned v ∧ ∃ p : Regrown, w'' = Sort.grow (redrawn w p.d) p.os :=
  Calls.regrown_of (h.mono fun _ _ ⟨he, hb⟩ => ⟨he, hb.below⟩)

theorem boxedN {w : World} (h : Ok w) (cs : Array Value) (t : TypeId) : ∃ w1 g, w.heap.size = g ∧ w.alloc (.cells cs t) = w1 ∧ Fr w w1 ∧ g < w1.heap.size ∧ w1.heap[g]? = some (.cells cs t (0, 0)) :=
  ⟨_, _, rfl, rfl, (Fr.refl h).alloc _, by simp, heap_alloc_new w _⟩
theorem blk_cell {g j : Nat} {w : World} {cs : Array Value} {t : TypeId} {fz : Nat × Nat} {v : Value} (hg : w.heap[g]? = some (.cells cs t fz)) (hj : cs[j]? = some v) : w.cell? ⟨g, j, none⟩ = some v := by
  simp [World.cell?, hg, hj]
theorem blk1 {w : World} {g : Nat} {v0 : Value} {t : TypeId} {fz : Nat × Nat} (h : w.heap[g]? = some (.cells #[v0] t fz)) : w.cell? ⟨g, 0, none⟩ = some v0 := blk_cell h rfl
theorem blk2 {w : World} {g : Nat} {v0 v1 : Value} {t : TypeId} {fz : Nat × Nat} (h : w.heap[g]? = some (.cells #[v0, v1] t fz)) : w.cell? ⟨g, 0, none⟩ = some v0 ∧ w.cell? ⟨g, 1, none⟩ = some v1 :=
  ⟨blk_cell h rfl, blk_cell h rfl⟩
theorem blk3 {w : World} {g : Nat} {v0 v1 v2 : Value} {t : TypeId} {fz : Nat × Nat} (h : w.heap[g]? = some (.cells #[v0, v1, v2] t fz)) : w.cell? ⟨g, 0, none⟩ = some v0 ∧ w.cell? ⟨g, 1, none⟩ = some v1 ∧ w.cell? ⟨g, 2, none⟩ = some v2 :=
  ⟨blk_cell h rfl, blk_cell h rfl, blk_cell h rfl⟩
theorem blk5 {w : World} {g : Nat} {v0 v1 v2 v3 v4 : Value} {t : TypeId} {fz : Nat × Nat} (h : w.heap[g]? = some (.cells #[v0, v1, v2, v3, v4] t fz)) : w.cell? ⟨g, 0, none⟩ = some v0 ∧ w.cell? ⟨g, 1, none⟩ = some v1 ∧ w.cell? ⟨g, 2, none⟩ = some v2 ∧ w.cell? ⟨g, 3, none⟩ = some v3 ∧ w.cell? ⟨g, 4, none⟩ = some v4 :=
  ⟨blk_cell h rfl, blk_cell h rfl, blk_cell h rfl, blk_cell h rfl, blk_cell h rfl⟩
theorem blk6 {w : World} {g : Nat} {v0 v1 v2 v3 v4 v5 : Value} {t : TypeId} {fz : Nat × Nat} (h : w.heap[g]? = some (.cells #[v0, v1, v2, v3, v4, v5] t fz)) : w.cell? ⟨g, 0, none⟩ = some v0 ∧ w.cell? ⟨g, 1, none⟩ = some v1 ∧ w.cell? ⟨g, 2, none⟩ = some v2 ∧ w.cell? ⟨g, 3, none⟩ = some v3 ∧ w.cell? ⟨g, 4, none⟩ = some v4 ∧ w.cell? ⟨g, 5, none⟩ = some v5 :=
  ⟨blk_cell h rfl, blk_cell h rfl, blk_cell h rfl, blk_cell h rfl, blk_cell h rfl, blk_cell h rfl⟩
theorem blk_alloc {w : World} (o : Obj) : (w.alloc o).heap[w.heap.size]? = some o := heap_alloc_new w o

def U64 (n : Int) : Prop := 0 ≤ n ∧ n ≤ 18446744073709551615

theorem bs_size (l : List UInt8) : (⟨l.toArray⟩ : ByteArray).size = l.length := by simp [ByteArray.size]
/- rows of the call's own that are appended to -/
theorem Fr.row {w W W' : World} (f : Fr w W) (hw : Ok w) {row : Option Nat} (hg : W.grownBy W' row) (hr : ∀ k, row = some k → w.heap.size ≤ k) : Fr w W' := Fr.of hw (f.below.grown hg f.size hr)
theorem own_fr {W W' : World} {base size n : Nat} {e : TypeId} {v : Value} {xs : List Value} (h : W.ownsRow base e size v n xs) (q : Fr W W') : W'.ownsRow base e size v n xs :=
  h.kept (row := none) ⟨q.below.os, q.below.tape, q.below.output, q.below.size, fun k hk _ => q.below.block k hk⟩ (by cases v.ownBlock <;> simp)
theorem own_base' {W : World} {base size n : Nat} {e : TypeId} {v : Value} {xs : List Value} (h : W.ownsRow base e size v n xs) : ∀ k, v.ownBlock = some k → base ≤ k := fun k hk => (h.lt k hk).1

end Go.Proofs.YtlnaeppbhjmocaaDoor
set_option linter.unusedSimpArgs false
set_option linter.unusedVariables false
namespace Go.Proofs.YtlnaeppbhjmocaaDoor
open Go.RowKit Go.Proofs Go.Proofs.YtlnaeppbhjmocaaDoorW.PrintWords Go.Proofs.YtlnaeppbhjmocaaDoorW.PrintMore

/-- cells that lie in a row, k of each -/
def Row (w : World) (A : Option Addr) (k : Nat) (cells : List (List Value)) : Prop :=
  cells = [] ∨ ∃ g o, A = some ⟨g, o, none⟩ ∧ g < w.heap.size ∧ ∀ i c, cells[i]? = some c → ∀ j v, j < k → c[j]? = some v → w.cell? ⟨g, o + i * k + j, none⟩ = some v
theorem Row.fr {w w' : World} {A : Option Addr} {k : Nat} {cells : List (List Value)} (h : Row w A k cells) (q : Fr w w') : Row w' A k cells := by
  rcases h with h | ⟨g, o, hA, hg, h⟩
  · exact .inl h
  · exact .inr ⟨g, o, hA, Nat.lt_of_lt_of_le hg q.size, fun i c hi j v hj hv => q.cell (h i c hi j v hj hv)⟩
def le (x : Int) : Nat → List Int
  | 0 => []
  | n + 1 => x % 256 :: le (x / 256) n
theorem le_length (x : Int) (n : Nat) : (le x n).length = n := by
  induction n generalizing x with
  | zero => rfl
  | succ n ih => simp [le, ih]
theorem le_mem (x : Int) (n : Nat) : ∀ b ∈ le x n, 0 ≤ b ∧ b ≤ 255 := by
  induction n generalizing x with
  | zero => simp [le]
  | succ n ih =>
    intro b hb
    simp only [le, List.mem_cons] at hb
    rcases hb with rfl | hb
    · omega
    · exact ih _ b hb
def bytesI (s : ByteArray) : List Int := s.data.toList.map fun c => (c.toNat : Int)
theorem u64_in {x : Int} (h : U64 x) : IntKind.u64.wrap x = x := IntWalk.u64_in x h
theorem bytesI_length (s : ByteArray) : (bytesI s).length = s.size := by simp [bytesI]
/-- a row of bytes of the call's own -/
def OwnB (w : World) (B : Nat) (v : Value) (xs : List Int) : Prop := w.ownsRow B 5 1 v xs.length (xs.map (Value.int .u8))
theorem OwnB.fr {w w' : World} {B : Nat} {v : Value} {xs : List Int} (h : OwnB w B v xs) (q : Fr w w') : OwnB w' B v xs := by
  refine World.ownsRow.kept (row := none) h ⟨q.below.os, q.below.tape, q.below.output, q.below.size, fun k hk _ => q.below.block k hk⟩ (by cases v.ownBlock <;> simp)
theorem OwnB.low {w : World} {B B' : Nat} {v : Value} {xs : List Int} (h : OwnB w B v xs) (hb : B' ≤ B) : OwnB w B' v xs := by
  obtain ⟨h1, h2⟩ := h
  refine ⟨h1, ?_⟩
  rcases h2 with h2 | ⟨g, cap, cur, hv, hg, r⟩
  · exact .inl h2
  · exact .inr ⟨g, cap, cur, hv, by omega, r⟩
theorem OwnB.nil (w : World) (B : Nat) : OwnB w B (.slice none 0 0) [] := ⟨by simp, .inl ⟨rfl, rfl⟩⟩
theorem OwnB.form {w : World} {B : Nat} {v : Value} {xs : List Int} (h : OwnB w B v xs) : ∃ a c, v = .slice a xs.length c := by
  rcases h.2 with ⟨hv, h0⟩ | ⟨g, cap, cur, hv, _⟩
  · rw [h0]; exact ⟨none, 0, hv⟩
  · exact ⟨_, cap, hv⟩
theorem OwnB.blk {w : World} {B : Nat} {v : Value} {xs : List Int} (h : OwnB w B v xs) (hp : 0 < xs.length) : ∃ g c, v = .slice (some ⟨g, 0, none⟩) xs.length c ∧ B ≤ g ∧ g < w.heap.size := by
  obtain ⟨g, c, he, hb, hl⟩ := World.ownsRow.form h hp
  exact ⟨g, c, he, hb, hl⟩
theorem OwnB.cellAt {w : World} {B g n c : Nat} {xs : List Int} (h : OwnB w B (.slice (some ⟨g, 0, none⟩) n c) xs) (j : Nat) (hj : j < xs.length) : w.cell? ⟨g, j, none⟩ = some (.int .u8 xs[j]) := by
  have hn : n = xs.length := by obtain ⟨a, c', he⟩ := h.form; injection he
  subst hn
  rw [World.ownsRow.cellAt h j (by omega)]
  simp [hj]
theorem OwnB.frozen {w : World} {B g n c : Nat} {xs : List Int} (h : OwnB w B (.slice (some ⟨g, 0, none⟩) n c) xs) (j : Nat) : w.frozen? ⟨g, j, none⟩ = false := by
  have hn : n = xs.length := by obtain ⟨a, c', he⟩ := h.form; injection he
  subst hn
  exact World.ownsRow.frozenAt h j
theorem grown_trans {a b c : World} {r : Option Nat} (h : a.grownBy b r) (k : b.grownBy c r) : a.grownBy c r :=
  ⟨k.os.trans h.os, k.tape.trans h.tape, k.output.trans h.output, Nat.le_trans h.size k.size, fun i hi hn => (k.block i (Nat.lt_of_lt_of_le hi h.size) hn).trans (h.block i hi hn)⟩
theorem grown_refl (a : World) (r : Option Nat) : a.grownBy a r := ⟨rfl, rfl, rfl, Nat.le_refl _, fun _ _ _ => rfl⟩
theorem OwnB.toC {w : World} {B : Nat} {A : Option Addr} {n c : Nat} {xs : List Int} (h : OwnB w B (.slice A n c) xs) : n = xs.length ∧ xs.length ≤ c ∧ Kd.C (Kd.int .u8) w A xs.length xs := by
  have hR : Kd.R (Kd.int .u8) 5 w B (fun _ => True) (.slice A n c) xs := Kd.R_of_own h (fun _ _ => trivial)
  obtain ⟨A', c', he, hl, hC⟩ := Kd.R_reads hR
  injection he with e1 e2 e3
  subst e1; subst e2; subst e3
  exact ⟨rfl, hl, hC⟩
theorem own_ne {w : World} {B : Nat} {v : Value} {xs : List Int} (h : OwnB w B v xs) {g : Nat} {cs : Array Value} {t : TypeId} (hg : w.heap[g]? = some (.cells cs t (0, 0))) (ht : 5 ≠ t) : some g ≠ v.ownBlock := by
  rintro e
  rcases h.2 with ⟨rfl, _⟩ | ⟨g', cap, cur, rfl, _, hg', _⟩
  · cases e
  · injection e with e
    subst e
    rw [hg] at hg'
    injection hg' with h1
    injection h1 with _ h2
    exact ht h2.symm
theorem grown_blk' {w w' : World} {r : Option Nat} (q : w.grownBy w' r) {g : Nat} {o : Obj} (hg : w.heap[g]? = some o) (hr : some g ≠ r) : w'.heap[g]? = some o :=
  (q.block g (Array.getElem?_eq_some_iff.1 hg).1 hr).trans hg
theorem info_byte : ∃ i, Tryd.prog.info? 5 = some i ∧ i.zero = some (.int .u8 0) ∧ i.size = 1 ∧ i.bytes = 1 := by
  have : (Tryd.prog.info? 5).map (fun i => (i.zero, i.size, i.bytes)) = some (some (.int .u8 0), 1, 1) := by kernel_rfl
  obtain ⟨i, hi, he⟩ := Option.map_eq_some_iff.1 this
  injection he with e1 e2
  injection e2 with e2 e3
  exact ⟨i, hi, e1, e2, e3⟩
theorem OwnB.lt {w : World} {B : Nat} {v : Value} {xs : List Int} (h : OwnB w B v xs) {k : Nat} (hk : v.ownBlock = some k) : B ≤ k ∧ k < w.heap.size := World.ownsRow.lt h k hk
theorem flat_length {k : Nat} : ∀ {cells : List (List Value)}, (∀ c ∈ cells, c.length = k) → cells.flatten.length = cells.length * k
  | [], _ => by simp
  | c :: cs, h => by
    rw [List.flatten_cons, List.length_append, h c List.mem_cons_self, flat_length (fun c hc => h c (List.mem_cons_of_mem _ hc)), List.length_cons, Nat.add_mul]; omega
theorem flat_get {k : Nat} : ∀ {cells : List (List Value)} (_ : ∀ c ∈ cells, c.length = k) {i j : Nat} {c : List Value} (_ : cells[i]? = some c) (_ : j < k), cells.flatten[i * k + j]? = c[j]?
  | [], _, i, _, _, h, _ => by simp at h
  | x :: cs, hl, 0, j, c, h, hj => by
    simp at h; subst h
    rw [List.flatten_cons, Nat.zero_mul, Nat.zero_add, List.getElem?_append_left (by rw [hl x List.mem_cons_self]; exact hj)]
  | x :: cs, hl, i + 1, j, c, h, hj => by
    have hx := hl x List.mem_cons_self
    rw [List.flatten_cons, List.getElem?_append_right (by rw [hx, Nat.add_mul]; omega), hx, show (i + 1) * k + j - k = i * k + j by rw [Nat.add_mul]; omega]
    exact flat_get (fun c hc => hl c (List.mem_cons_of_mem _ hc)) (by simpa using h) hj
theorem own_Row {w : World} {base n cap k g : Nat} {e : TypeId} {cells : List (List Value)} {xs : List Value} (hl : ∀ c ∈ cells, c.length = k) (h : w.ownsRow base e k (.slice (some ⟨g, 0, none⟩) n cap) n (cells.flatten ++ xs)) : Row w (some ⟨g, 0, none⟩) k cells := by
  have hg := h.lt g rfl
  refine .inr ⟨g, 0, rfl, hg.2, fun i c hi j v hj hv => ?_⟩
  have h1 : i < cells.length := (List.getElem?_eq_some_iff.1 hi).1
  have h2 : i * k + j < cells.length * k := by
    have : (i + 1) * k ≤ cells.length * k := Nat.mul_le_mul_right _ h1
    rw [Nat.add_mul] at this; omega
  have := h.cells (g := g) rfl (i * k + j) v (by rw [List.getElem?_append_left (by rw [flat_length hl]; exact h2), flat_get hl hi hj]; exact hv)
  rw [Lib.add_plain] at this
  rw [← this]; congr 2; omega
theorem own_ne2 {w : World} {b1 b2 s1 s2 n1 n2 : Nat} {e1 e2 : TypeId} {v1 v2 : Value} {x1 x2 : List Value} (h1 : w.ownsRow b1 e1 s1 v1 n1 x1) (h2 : w.ownsRow b2 e2 s2 v2 n2 x2) (hne : e1 ≠ e2) : v1.ownBlock = none ∨ v1.ownBlock ≠ v2.ownBlock := by
  rcases h1.2 with ⟨rfl, _⟩ | ⟨g, cap, cur, rfl, _, hg, _⟩
  · exact .inl rfl
  · right
    rcases h2.2 with ⟨rfl, _⟩ | ⟨g', cap', cur', rfl, _, hg', _⟩
    · simp [Value.ownBlock]
    · intro e
      injection e with e
      dsimp only at e
      subst e
      rw [hg] at hg'
      injection hg' with hg'
      injection hg' with _ h3
      exact hne h3
theorem own_ne3 {w : World} {B size n : Nat} {e : TypeId} {v : Value} {xs : List Value} (h : w.ownsRow B e size v n xs) {g : Nat} {cs : Array Value} {t : TypeId} (hg : w.heap[g]? = some (.cells cs t (0, 0))) (ht : e ≠ t) : some g ≠ v.ownBlock := by
  rintro e'
  rcases h.2 with ⟨rfl, _⟩ | ⟨g', cap, cur, rfl, _, hg', _⟩
  · cases e'
  · injection e' with e'
    subst e'
    rw [hg] at hg'
    injection hg' with hg'
    injection hg' with _ h3
    exact ht h3.symm
theorem own_form {w : World} {B size n : Nat} {e : TypeId} {v : Value} {xs : List Value} (h : w.ownsRow B e size v n xs) : ∃ a c, v = .slice a n c := by
  rcases h.2 with ⟨hv, h0⟩ | ⟨g, cap, cur, hv, _⟩
  · rw [h0]; exact ⟨none, 0, hv⟩
  · exact ⟨_, cap, hv⟩
/-- the source of an append: nil, or cells in a row -/
def Src (w : World) (A : Option Addr) (m c : Nat) (news : List Value) : Prop := (A = none ∧ m = 0 ∧ c = 0 ∧ news = []) ∨ ∃ a, A = some a ∧ ∀ j u, news[j]? = some u → w.cell? (a.add j) = some u
theorem append_src {T e : TypeId} {i : TypeInfo} {z : Value} {size bytes : Nat} (ht : Tryd.prog.underlying T = some (.slice e)) (hi : Tryd.prog.info? e = some i) (hz : i.zero = some z) (hsize : i.size = size) (hby : i.bytes = bytes) (hzs : z.cells.size = size) (hsz : 0 < size)
    (ty : TypeId) {w : World} {base : Nat} {v : Value} {n : Nat} {xs : List Value} (hown : w.ownsRow base e size v n xs) (A : Option Addr) (m c : Nat) (news : List Value) (hs : Src w A m c news) (hl : news.length = m * size) (h1 : ∀ u ∈ news, u.oneCell' = true)
    (h63 : n + m ≤ maxLen) (hbytes : (n + m) * bytes ≤ 140737488355328) (hbase : base ≤ w.heap.size) :
    ∃ v' w', (Builtin.append_ #[T, T] ty #[v, .slice A m c]).run Tryd.prog w = .ok v' w' ∧ w'.ownsRow base e size v' (n + m) (xs ++ news) ∧ w.grownBy w' v.ownBlock ∧ (v'.ownBlock = v.ownBlock ∨ v'.ownBlock = some w.heap.size) := by
  rcases hs with ⟨rfl, rfl, rfl, rfl⟩ | ⟨a, rfl, hc⟩
  · refine ⟨v, w, run_append_owned_none (P := Tryd.prog) (w := w) base T ty e i size ht hi v n xs hown, by simpa using hown, grown_refl w _, .inl rfl⟩
  · obtain ⟨v', w', hr, h2, h3, _, h4⟩ := run_append_own_at (P := Tryd.prog) (w := w) base T ty e i z size bytes ht hi hz hsize hby hzs hsz v n xs hown a m c news hl hc h1 h63 hbytes hbase
    exact ⟨v', w', hr, h2, h3, h4⟩
theorem Src.lit {w : World} {g : Nat} {cs : Array Value} {t : TypeId} {fz : Nat × Nat} (H : w.heap[g]? = some (.cells cs t fz)) (m c : Nat) : Src w (some ⟨g, 0, none⟩) m c cs.toList :=
  .inr ⟨_, rfl, fun j u hj => by rw [Lib.add_plain, Nat.zero_add]; exact blk_cell H (by simpa using hj)⟩
theorem unfroz {w : World} {g : Nat} {cs : Array Value} {t : TypeId} (H : w.heap[g]? = some (.cells cs t (0, 0))) (j : Nat) : w.frozen? ⟨g, j, none⟩ = false := by
  simp [World.frozen?, H]
theorem own_low {w : World} {B B' size n : Nat} {e : TypeId} {v : Value} {xs : List Value} (h : w.ownsRow B e size v n xs) (hb : B' ≤ B) : w.ownsRow B' e size v n xs := by
  obtain ⟨h1, h2⟩ := h
  refine ⟨h1, ?_⟩
  rcases h2 with h2 | ⟨g, cap, cur, hv, hg, r⟩
  · exact .inl h2
  · exact .inr ⟨g, cap, cur, hv, by omega, r⟩
theorem own_at {w : World} {base n cap k g m : Nat} {e : TypeId} {xs ys : List Value} (hm : xs.length = m) (h : w.ownsRow base e k (.slice (some ⟨g, 0, none⟩) n cap) n (xs ++ ys)) (j : Nat) (u : Value) (hj : ys[j]? = some u) : w.cell? ⟨g, m + j, none⟩ = some u := by
  have := h.cells (g := g) rfl (m + j) u (by rw [List.getElem?_append_right (by omega), hm, show m + j - m = j by omega]; exact hj)
  rwa [Lib.add_plain, Nat.zero_add] at this
def leV : List Int → Int
  | [] => 0
  | b :: r => b + 256 * leV r
def bytesOk (l : List Int) : Prop := ∀ x ∈ l, 0 ≤ x ∧ x ≤ 255
theorem leV_nonneg {l : List Int} (h : bytesOk l) : 0 ≤ leV l := by
  induction l with
  | nil => simp [leV]
  | cons b r ih => have := ih (fun x hx => h x (List.mem_cons_of_mem _ hx)); have := h b List.mem_cons_self; simp only [leV]; omega
theorem leV_lt {l : List Int} (h : bytesOk l) : leV l < 256 ^ l.length := by
  induction l with
  | nil => simp [leV]
  | cons b r ih =>
    have h1 := ih (fun x hx => h x (List.mem_cons_of_mem _ hx))
    have h2 := h b List.mem_cons_self
    simp only [leV, List.length_cons, Int.pow_succ]
    omega
theorem pow256_le {n : Nat} (h : n ≤ 8) : (256 : Int) ^ n ≤ 18446744073709551616 := by
  match n, h with
  | 0, _ => decide
  | 1, _ => decide
  | 2, _ => decide
  | 3, _ => decide
  | 4, _ => decide
  | 5, _ => decide
  | 6, _ => decide
  | 7, _ => decide
  | 8, _ => decide
theorem leV_u64 {l : List Int} (h : bytesOk l) (h8 : l.length ≤ 8) : 0 ≤ leV l ∧ leV l ≤ 18446744073709551615 := by
  have h1 := leV_nonneg h
  have h2 := leV_lt h
  have h3 := pow256_le h8
  omega
theorem bytesOk.drop {l : List Int} (h : bytesOk l) (n : Nat) : bytesOk (l.drop n) := fun x hx => h x (List.mem_of_mem_drop hx)
theorem bytesOk.take {l : List Int} (h : bytesOk l) (n : Nat) : bytesOk (l.take n) := fun x hx => h x (List.mem_of_mem_take hx)
/-- bytes in memory -/
def BytesAt (w : World) (A : Option Addr) (L : List Int) : Prop := L = [] ∨ ∃ g o, A = some ⟨g, o, none⟩ ∧ g < w.heap.size ∧ ∀ i x, L[i]? = some x → w.cell? ⟨g, o + i, none⟩ = some (.int .u8 x)
theorem BytesAt.fr {w w' : World} {A : Option Addr} {L : List Int} (h : BytesAt w A L) (q : Fr w w') : BytesAt w' A L := by
  rcases h with h | ⟨g, o, hA, hg, h⟩
  · exact .inl h
  · exact .inr ⟨g, o, hA, Nat.lt_of_lt_of_le hg q.size, fun i x hi => q.cell (h i x hi)⟩
theorem cell_grown {w w' : World} {g : Nat} {r : Option Nat} (q : w.grownBy w' r) {p : Addr} {v : Value} (h : w.cell? p = some v) (hne : some p.block ≠ r) : w'.cell? p = some v :=
  (World.cell?_of_block (w := w) (q.block p.block (World.block_lt_of_cell? w p h) hne)).trans h
theorem BytesAt.grown {w w' : World} {A : Option Addr} {L : List Int} {r : Option Nat} (h : BytesAt w A L) (q : w.grownBy w' r) (hne : ∀ a, A = some a → some a.block ≠ r) : BytesAt w' A L := by
  rcases h with h | ⟨g, o, hA, hg, h⟩
  · exact .inl h
  · exact .inr ⟨g, o, hA, Nat.lt_of_lt_of_le hg q.size, fun i x hi => cell_grown (g := 0) q (h i x hi) (hne ⟨g, o, none⟩ hA)⟩
theorem BytesAt.toC {w : World} {A : Option Addr} {L : List Int} (h : BytesAt w A L) (hn : L.length ≤ 1099511627776) : Kd.C (Kd.int .u8) w A L.length L := by
  refine ⟨rfl, by omega, fun h0 => ?_⟩
  rcases h with h | ⟨g, o, hA, hg, hc⟩
  · subst h; simp at h0
  · refine ⟨_, hA, fun j p hj => ?_⟩
    refine ⟨[.int .u8 p], rfl, rfl, fun i u hu => ?_⟩
    have hi : i < 1 := (List.getElem?_eq_some_iff.1 hu).1
    obtain rfl : i = 0 := by omega
    simp only [List.getElem?_cons_zero, Option.some.injEq] at hu
    subst hu
    have hsz : (Kd.int .u8).sz = 1 := rfl
    rw [hsz, Lib.add_plain, Nat.mul_one, Nat.add_zero]
    exact hc j p hj
theorem BytesAt.sub {w : World} {g o : Nat} {L : List Int} (h : BytesAt w (some ⟨g, o, none⟩) L) (i n : Nat) : BytesAt w (some ⟨g, o + i, none⟩) ((L.drop i).take n) := by
  rcases h with h | ⟨g', o', e, hg, hc⟩
  · subst h; left; simp
  · injection e with e
    injection e with e1 e2
    subst e1 e2
    refine .inr ⟨g, o + i, rfl, hg, fun j x hj => ?_⟩
    rw [List.getElem?_take] at hj
    split at hj
    · rw [List.getElem?_drop] at hj
      rw [Nat.add_assoc]
      exact hc _ x hj
    · cases hj
theorem OwnB.at {w : World} {B : Nat} {A : Option Addr} {n c : Nat} {xs : List Int} (h : OwnB w B (.slice A n c) xs) : BytesAt w A xs ∧ n = xs.length ∧ xs.length ≤ c := by
  obtain ⟨h1, h2, h3⟩ := h.toC
  refine ⟨?_, h1, h2⟩
  cases xs with
  | nil => exact .inl rfl
  | cons x r =>
    right
    obtain ⟨g, c', hv, hb, hl⟩ := h.blk (by simp)
    injection hv with e1 e2 e3
    subst e1 e2 e3
    refine ⟨g, 0, rfl, hl, fun i y hi => ?_⟩
    have hi' := (List.getElem?_eq_some_iff.1 hi).1
    rw [Nat.zero_add, h.cellAt i hi', (List.getElem?_eq_some_iff.1 hi).2]
theorem fr_grown {w w' : World} (q : Fr w w') (r : Option Nat) : w.grownBy w' r := ⟨q.below.os, q.below.tape, q.below.output, q.below.size, fun k hk _ => q.below.block k hk⟩
theorem set_grown {w : World} {g : Nat} {cs : Array Value} {t : TypeId} (H : w.heap[g]? = some (.cells cs t (0, 0))) (j : Nat) (v : Value) :
    ∃ w1, w.setCell ⟨g, j, none⟩ v = w1 ∧ w1.heap[g]? = some (.cells (cs.setIfInBounds j v) t (0, 0)) ∧ w.grownBy w1 (some g) := by
  have hb : Below g w (w.setCell ⟨g, j, none⟩ v) := (Below.refl g w).setCell (Nat.le_refl _) v
  refine ⟨_, rfl, ?_, ⟨hb.os, hb.tape, hb.output, hb.size, fun k hk hn => ?_⟩⟩
  · simp [World.setCell, Array.getElem?_modify, H]
  · exact Below.heap_setCell w _ v k (fun e => hn (by rw [e]))
theorem var_grown {P : Program} {w w' : World} {n : String} {k g : Nat} {cs : Array Value} (hk : P.globalNamed n = some k) (q : w.grownBy w' (some g)) (hne : k ≠ g) (h : w.var? P n = some cs) : w'.var? P n = some cs := by
  have hlt : k < w.heap.size := by
    simp only [World.var?, hk, Option.bind_some] at h
    split at h
    · rename_i heq; exact (Array.getElem?_eq_some_iff.1 heq).1
    · cases h
  simp only [World.var?, hk, Option.bind_some] at h ⊢
  rw [q.block k hlt (fun e => hne (by injection e))]
  exact h
/-- the globals lie below every block that a walk writes into -/
theorem Ok.grown {w w' : World} (h : Ok w) {g : Nat} (hg : 4 ≤ g) (q : w.grownBy w' (some g)) : Ok w' where
  fours := var_grown gFours q (by omega) h.fours
theorem grown_fr {a b c : World} {r : Option Nat} (h : a.grownBy b r) (k : Fr b c) : a.grownBy c r := grown_trans h (fr_grown k r)
theorem leV_snoc (l : List Int) (b : Int) : leV (l ++ [b]) = leV l + b * 256 ^ l.length := by
  induction l with
  | nil => simp [leV]
  | cons x r ih =>
    simp only [List.cons_append, leV, ih, List.length_cons, Int.pow_succ, Int.mul_add]
    have : b * (256 ^ r.length * 256) = 256 * (b * 256 ^ r.length) := by
      rw [← Int.mul_assoc, Int.mul_comm]
    omega
theorem wr64 {n : Int} (h : -9223372036854775808 ≤ n ∧ n ≤ 9223372036854775807) : wrap64 n = n := by unfold wrap64; omega
theorem str_size (l : List Int) : (strOfNums l).size = l.length := by
  simp [strOfNums, ByteArray.size]
theorem getD_byte {M : List Int} (hM : bytesOk M) (i : Nat) : 0 ≤ M.getD i 0 ∧ M.getD i 0 ≤ 255 := by
  by_cases h : i < M.length
  · have := hM _ (List.getElem_mem h)
    simpa [List.getD, h] using this
  · simp [List.getD, List.getElem?_eq_none (show M.length ≤ i by omega)]
theorem results_row_tmp {P : Program} {fn : Func} {p u : Tmp} {ty : TypeId} (h : fn.results = #[.cell p ty, .tmp u]) (tmps : Array Value) (w : World) (g : Nat) (t : TypeId) (cs : Array Value) (fr : Nat × Nat) (d : TypeDesc)
    (hp : tmps.getD p undef = .pointer (some ⟨g, 0, none⟩)) (hg : w.heap[g]? = some (.cells cs t fr))
    (hu : P.underlying ty = some d) (hd : (match d with | .struct _ | .array _ _ => true | _ => false) = true) (hi : (P.info? ty).map (·.size) = some cs.size) :
    (results fn tmps).run P w = .ok (.tuple #[.agg cs, tmps.getD u undef]) w := by
  have hp' : tmps[p]?.getD undef = .pointer (some ⟨g, 0, none⟩) := by simpa using hp
  simp [results, h, hp', asAddr, run_loadVar_row w g t ty cs fr d hg hu hd hi, Result.andThen]
theorem row_own {w0 w w' : World} (f : Fr w0 w) (hw0 : Ok w0) {g : Nat} (q : w.grownBy w' (some g)) (hB : w0.heap.size ≤ g) : Fr w0 w' := f.row hw0 q (fun k hk => by injection hk with hk; omega)
theorem set_idem {w : World} {g : Nat} {cs : Array Value} {t : TypeId} {fz : Nat × Nat} (H : w.heap[g]? = some (.cells cs t fz)) (j : Nat) (v : Value) (hj : cs[j]? = some v) : w.setCell ⟨g, j, none⟩ v = w := by
  have hlt := (Array.getElem?_eq_some_iff.1 H).1
  have hg := (Array.getElem?_eq_some_iff.1 H).2
  have hc : cs.setIfInBounds j v = cs := by
    apply Array.ext_getElem?
    intro i
    by_cases hi : j = i
    · subst hi
      have hjs := (Array.getElem?_eq_some_iff.1 hj).1
      rw [Array.getElem?_setIfInBounds_self_of_lt hjs, hj]
    · rw [Array.getElem?_setIfInBounds_ne hi]
  have hh : (w.setCell ⟨g, j, none⟩ v).heap = w.heap := by
    apply Array.ext_getElem?
    intro i
    by_cases hi : i = g
    · subst hi
      rw [show (w.setCell ⟨i, j, none⟩ v).heap[i]? = some (.cells (cs.setIfInBounds j v) t fz) by simp [World.setCell, Array.getElem?_modify, H], hc, H]
    · exact Below.heap_setCell w ⟨g, j, none⟩ v i hi
  have h2 : w.setCell ⟨g, j, none⟩ v = { w with heap := (w.setCell ⟨g, j, none⟩ v).heap } := rfl
  rw [h2, hh]
theorem idemC {w : World} {g : Nat} {cs : Array Value} {t : TypeId} {fz : Nat × Nat} {j : Nat} {v : Value} (H : w.heap[g]? = some (.cells cs t fz)) (hc : w.cell? ⟨g, j, none⟩ = some v) : w.setCell ⟨g, j, none⟩ v = w :=
  set_idem H j v (by simpa [World.cell?, H] using hc)
theorem conv_str (W : World) {A : Option Addr} {L : List Int} (h : BytesAt W A L) (hL : L.length ≤ 1073741824) (c : Nat) : (convert 22 9 (.slice A L.length c)).run Tryd.prog W = .ok (.string (strOfNums L)) W :=
  Kd.C_string (P := Tryd.prog) (src := 22) (dst := 9) (e := 5) (c := c) Tryd.underlying22 Tryd.underlying5 Tryd.underlying9 (h.toC (by omega))
theorem drop_getD {M : List Int} {i : Nat} (h : i < M.length) : M.drop i = M.getD i 0 :: M.drop (i + 1) := by
  rw [List.drop_eq_getElem_cons h]; simp [List.getD, h]
theorem set_last {w : World} {g : Nat} {cs : Array Value} {t : TypeId} (H : w.heap[g]? = some (.cells cs t (0, 0))) (j : Nat) (v : Value) :
    (w.setCell ⟨g, j, none⟩ v).heap[g]? = some (.cells (cs.setIfInBounds j v) t (0, 0)) := by
  simp [World.setCell, Array.getElem?_modify, H]
theorem sets_grown {w w1 : World} {g : Nat} (h : w.grownBy w1 (some g)) (j : Nat) (v : Value) : w.grownBy (w1.setCell ⟨g, j, none⟩ v) (some g) := by
  have hb : Below g w1 (w1.setCell ⟨g, j, none⟩ v) := (Below.refl g w1).setCell (Nat.le_refl _) v
  exact grown_trans h ⟨hb.os, hb.tape, hb.output, hb.size, fun k hk hn => Below.heap_setCell w1 _ v k (fun e => hn (by rw [e]))⟩
theorem own_grown {W W' : World} {base size n : Nat} {e : TypeId} {v : Value} {xs : List Value} (h : W.ownsRow base e size v n xs) {g : Nat} (q : W.grownBy W' (some g)) {cs : Array Value} {t : TypeId} (H : W.heap[g]? = some (.cells cs t (0, 0))) (ht : e ≠ t) : W'.ownsRow base e size v n xs :=
  World.ownsRow.kept h q (.inr (fun k => own_ne3 h H ht k.symm))
theorem own_keep {W W' : World} {base size n : Nat} {e : TypeId} {v : Value} {xs : List Value} (h : W.ownsRow base e size v n xs) {g : Nat} (q : W.grownBy W' (some g)) (hne : ∀ k, v.ownBlock = some k → k ≠ g) : W'.ownsRow base e size v n xs :=
  World.ownsRow.kept h q (.inr (fun k => hne g k rfl))
theorem grown_own {a b c : World} {r q : Option Nat} (h : a.grownBy b r) (k : b.grownBy c q) (hq : ∀ i, q = some i → a.heap.size ≤ i) : a.grownBy c r :=
  ⟨k.os.trans h.os, k.tape.trans h.tape, k.output.trans h.output, Nat.le_trans h.size k.size, fun i hi hn => (k.block i (Nat.lt_of_lt_of_le hi h.size) (fun e => by have := hq i e.symm; omega)).trans (h.block i hi hn)⟩
theorem own_cap {w : World} {B size n : Nat} {e : TypeId} {a : Option Addr} {c : Nat} {xs : List Value} (h : w.ownsRow B e size (.slice a n c) n xs) : n ≤ c := by
  rcases h.2 with ⟨hv, h1⟩ | ⟨g, cap, cur, hv, _, _, hc, _⟩
  · omega
  · injection hv with _ _ h3; omega
theorem map_one (L : List Int) : ∀ u ∈ L.map (Value.int .u8), u.oneCell' = true := fun u hu => by obtain ⟨x, _, rfl⟩ := List.mem_map.1 hu; rfl
theorem bytes_src {w : World} {A : Option Addr} {c : Nat} {L : List Int} (h : BytesAt w A L) (hn : A = none → c = 0) : Src w A L.length c (L.map (Value.int .u8)) := by
  rcases h with h | ⟨g, o, rfl, _, h⟩
  · subst h
    cases A with
    | none => exact .inl ⟨rfl, rfl, hn rfl, rfl⟩
    | some a => exact .inr ⟨a, rfl, fun j u hj => by simp at hj⟩
  · refine .inr ⟨_, rfl, fun j u hj => ?_⟩
    rw [List.getElem?_map, Option.map_eq_some_iff] at hj
    obtain ⟨x, hx, rfl⟩ := hj
    rw [Lib.add_plain]
    exact h j x hx
end Go.Proofs.YtlnaeppbhjmocaaDoor
set_option linter.unusedSimpArgs false
set_option linter.unusedVariables false
namespace Go.Proofs.YtlnaeppbhjmocaaDoor
open Go.RowKit Go.Proofs Go.Proofs.YtlnaeppbhjmocaaDoorW.PrintWords Go.Proofs.YtlnaeppbhjmocaaDoorW.PrintMore

structure Lf where
  path : ByteArray
  ty : Int
  mode : Int
  stamp : Int
  data : List Int
  tgt : ByteArray
instance : Inhabited Lf := ⟨⟨⟨#[]⟩, 0, 0, 0, [], ⟨#[]⟩⟩⟩
/-- the state of a reading: the error, or where it stands -/
abbrev Er := Except Int Nat
def Er.num : Er → Int
  | .error e => e
  | .ok _ => 0
def takeX (L : List Int) (n : Nat) : Er → List Int × Er
  | .error e => ([], .error e)
  | .ok i => if i + n ≤ L.length then ((L.drop i).take n, .ok (i + n)) else ([], .error 190)
def numX (L : List Int) (n : Nat) (low high : Int) (o : Er) : Int × Er := match takeX L n o with
  | (_, .error e) => (0, .error e)
  | (bs, .ok j) => if low ≤ leV bs ∧ leV bs ≤ high then (leV bs, .ok j) else (0, .error 191)
theorem numX_error (L : List Int) (n : Nat) (low high e : Int) : numX L n low high (.error e) = (0, .error e) := rfl
theorem takeX_ok {L : List Int} (hL : bytesOk L) (n : Nat) (o : Er) : bytesOk (takeX L n o).1 ∧ (takeX L n o).1.length ≤ n ∧ (takeX L n o).1.length ≤ L.length := by
  cases o with
  | error e => exact ⟨fun x hx => by simp [takeX] at hx, by simp [takeX], by simp [takeX]⟩
  | ok i =>
    simp only [takeX]
    split
    · exact ⟨(hL.drop i).take n, by rw [List.length_take]; omega, by rw [List.length_take, List.length_drop]; omega⟩
    · exact ⟨fun x hx => by simp at hx, by simp, by simp⟩
theorem takeX_len {L : List Int} {n : Nat} {o : Er} {bs : List Int} {j : Nat} (h : takeX L n o = (bs, .ok j)) : bs.length = n ∧ j ≤ L.length ∧ n ≤ j := by
  cases o with
  | error e => simp [takeX] at h
  | ok i =>
    simp only [takeX] at h
    split at h
    · simp only [Prod.mk.injEq, Except.ok.injEq] at h
      obtain ⟨rfl, rfl⟩ := h
      exact ⟨by rw [List.length_take, List.length_drop]; omega, by assumption, by omega⟩
    · simp at h
theorem numX_rg {L : List Int} {low high : Int} (h : low ≤ 0 ∨ True) (h0 : 0 ≤ high) (n : Nat) (o : Er) (hL : bytesOk L) : 0 ≤ (numX L n low high o).1 ∧ (numX L n low high o).1 ≤ high := by
  unfold numX
  split
  · exact ⟨Int.le_refl _, h0⟩
  · rename_i bs j hb
    have hbs : bytesOk bs := by have := (takeX_ok hL n o).1; rw [hb] at this; exact this
    split
    · rename_i hc; exact ⟨leV_nonneg hbs, hc.2⟩
    · exact ⟨Int.le_refl _, h0⟩
theorem numX_low {L : List Int} {low high : Int} {n : Nat} {o : Er} {v : Int} {j : Nat} (h : numX L n low high o = (v, .ok j)) : low ≤ v ∧ v ≤ high ∧ j ≤ L.length := by
  unfold numX at h
  split at h
  · simp at h
  · rename_i bs j' hb
    split at h
    · rename_i hc
      simp only [Prod.mk.injEq, Except.ok.injEq] at h
      obtain ⟨rfl, rfl⟩ := h
      exact ⟨hc.1, hc.2, (takeX_len hb).2.1⟩
    · simp at h

/-! ### A file's data -/
def lead0 : List Int → Nat
  | [] => 0
  | b :: r => if b = 0 then lead0 r + 1 else 0
/-- no sixteen zeros in a row -/
def no16 : List Int → Bool
  | [] => true
  | b :: r => decide (lead0 (b :: r) < 16) && no16 r
/-- is there a hole, with so many zeros ahead -/
def scan16 : Nat → List Int → Bool
  | run, [] => decide (16 ≤ run)
  | run, b :: r => if b = 0 then scan16 (run + 1) r else decide (16 ≤ run) || scan16 0 r
theorem no16_lead {l : List Int} (h : no16 l = true) : lead0 l < 16 := by
  cases l with
  | nil => simp [lead0]
  | cons b r => simp only [no16, Bool.and_eq_true, decide_eq_true_eq] at h; exact h.1
theorem scan16_iff (l : List Int) : ∀ run, scan16 run l = true ↔ (16 ≤ run + lead0 l ∨ no16 l = false) := by
  induction l with
  | nil => intro run; simp [scan16, lead0, no16]
  | cons b r ih =>
    intro run
    by_cases hb : b = 0
    · simp only [scan16, if_pos hb, ih, lead0, no16, Bool.and_eq_false_iff, decide_eq_false_iff_not]
      constructor
      · rintro (h | h)
        · left; omega
        · right; right; exact h
      · rintro (h | h | h)
        · left; omega
        · left; omega
        · right; exact h
    · simp only [scan16, if_neg hb, Bool.or_eq_true, decide_eq_true_eq, ih, lead0, no16, Bool.and_eq_false_iff, decide_eq_false_iff_not]
      constructor
      · rintro (h | h | h)
        · left; omega
        · right; right
          cases hn : no16 r with
          | false => rfl
          | true => have := no16_lead hn; omega
        · right; right; exact h
      · rintro (h | h | h)
        · left; omega
        · omega
        · right; right; exact h
theorem scan16_no (l : List Int) : scan16 0 l = !no16 l := by
  cases h : no16 l with
  | false => exact (scan16_iff l 0).2 (.inr h)
  | true =>
    have := scan16_iff l 0
    cases hs : scan16 0 l with
    | false => rfl
    | true =>
      rcases this.1 hs with h1 | h1
      · have := no16_lead h; omega
      · rw [h] at h1; cases h1
def filledB (b : List Int) (behind more : Bool) : Bool := no16 b && !b.isEmpty && !(behind && b.headD 1 == 0) && !(more && b.getLastD 1 == 0)
def orFail (o : Er) (bad : Bool) : Er := match o with
  | .error e => .error e
  | .ok j => if bad then .error 191 else .ok j
def dataX (L : List Int) (dry : Bool) (n : Int) : Nat → Int → List Int → Int → Er → List Int × Er
  | 0, _, out, _, o => (out, o)
  | _ + 1, _, out, _, .error e => (out, .error e)
  | f + 1, told, out, last, .ok i =>
    if told < n then
      let a := numX L 1 0 1 (.ok i)
      let a2 : Er := orFail a.2 (decide (a.1 = last))
      let k := numX L 4 (if a.1 = 0 then 16 else 1) (n - told) a2
      match k.2 with
      | .error e => ([], .error e)
      | .ok j =>
        if a.1 = 1 then
          let t := takeX L k.1.toNat (.ok j)
          let o' : Er := orFail t.2 (!filledB t.1 (decide (last = 0)) (decide (told + k.1 < n)))
          dataX L dry n f (told + k.1) (if dry then out else out ++ t.1) 1 o'
        else dataX L dry n f (told + k.1) (if dry then out else out ++ List.replicate k.1.toNat 0) 0 (.ok j)
    else (out, .ok i)

/-! ### Paths -/
def slash : UInt8 := 47
def pathOf (ns : List ByteArray) : ByteArray := if ns = [] then ⟨#[47]⟩ else ⟨(ns.flatMap fun n => slash :: n.data.toList).toArray⟩
def noneOf (l : List UInt8) : Bool := l.all fun c => c != 0 && c != 47
def nameB (s : ByteArray) : Bool := decide (1 ≤ s.size ∧ s.size ≤ 63) && s.data.toList != [46] && s.data.toList != [46, 46] && noneOf s.data.toList
def targetB (s : ByteArray) : Bool := decide (1 ≤ s.size ∧ s.size ≤ 127) && s.data.toList.all fun c => c != 0

theorem dataX_error (L : List Int) (dry : Bool) (n : Int) (f : Nat) (told : Int) (out : List Int) (last e : Int) : dataX L dry n f told out last (.error e) = (out, .error e) := by
  cases f <;> rfl
def dataR (L : List Int) (dry : Bool) (n : Int) (o : Er) : List Int × Er := dataX L dry n (n.toNat + 1) 0 [] (-1) o
/-- a leaf read behind one of these names (a directory or not), its names -/
def mostX (ahead : List ByteArray) (dir : Bool) : Int := if (ahead.length : Int) - (if dir then 0 else 1) > 63 then 63 else (ahead.length : Int) - (if dir then 0 else 1)
def leafX (gt : ByteArray → ByteArray → Bool) (L : List Int) (dry : Bool) (ahead : List ByteArray) (dir : Bool) (o : Er) : (Lf × List ByteArray) × Er :=
  let k := numX L 1 0 (mostX ahead dir) o
  let ty := numX L 1 1 3 k.2
  let mo := numX L 2 0 4095 ty.2
  let st := numX L 8 0 18446744073709551615 mo.2
  let nl := numX L 1 1 63 st.2
  let nm := takeX L nl.1.toNat nl.2
  match nm.2 with
  | .error e => ((⟨⟨#[]⟩, ty.1, mo.1, st.1, [], ⟨#[]⟩⟩, []), .error e)
  | .ok j =>
    let ns := ahead.take k.1.toNat ++ [strOfNums nm.1]
    if nameB (strOfNums nm.1) = false ∨ (k.1.toNat < ahead.length ∧ gt (strOfNums nm.1) (ahead.getD k.1.toNat ⟨#[]⟩) = false) ∨ 1023 < (pathOf ns).size then ((⟨pathOf ns, ty.1, mo.1, st.1, [], ⟨#[]⟩⟩, ns), .error 191)
    else if ty.1 = 1 then
      let n := numX L 4 0 16777216 (.ok j)
      let d := dataR L dry n.1 n.2
      ((⟨pathOf ns, ty.1, mo.1, st.1, d.1, ⟨#[]⟩⟩, ns), d.2)
    else if ty.1 = 3 then
      let n := numX L 1 1 127 (.ok j)
      let t := takeX L n.1.toNat n.2
      ((⟨pathOf ns, ty.1, mo.1, st.1, [], strOfNums t.1⟩, ns), orFail t.2 (!targetB (strOfNums t.1)))
    else ((⟨pathOf ns, ty.1, mo.1, st.1, [], ⟨#[]⟩⟩, ns), .ok j)
def treeX (gt : ByteArray → ByteArray → Bool) (L : List Int) (dry : Bool) : Nat → List Lf → List ByteArray → Bool → Er → List Lf × Er
  | 0, acc, _, _, o => (acc, o)
  | _ + 1, acc, _, _, .error e => (acc, .error e)
  | f + 1, acc, ahead, dir, .ok i =>
    if i < L.length ∧ L.getD i 0 ≠ 255 then
      let l := leafX gt L dry ahead dir (.ok i)
      treeX gt L dry f (acc ++ [l.1.1]) l.1.2 (decide (l.1.1.ty = 2)) l.2
    else (acc, .ok i)
end Go.Proofs.YtlnaeppbhjmocaaDoor
set_option linter.unusedSimpArgs false
set_option linter.unusedVariables false
namespace Go.Proofs.YtlnaeppbhjmocaaDoor
open Go.RowKit Go.Proofs Go.Proofs.YtlnaeppbhjmocaaDoorW.PrintWords Go.Proofs.YtlnaeppbhjmocaaDoorW.PrintMore

def okW (w : List UInt8) : Prop := w ≠ [] ∧ w ≠ [46]
instance (w : List UInt8) : Decidable (okW w) := by unfold okW; infer_instance
def partsL : List UInt8 → List UInt8 → List (List UInt8)
  | word, [] => if okW word then [word] else []
  | word, c :: r => if c = 47 then (if okW word then word :: partsL [] r else partsL [] r) else partsL (word ++ [c]) r
theorem toL (s : ByteArray) : s.toList = s.data.toList := ByteArray.toList_eq s
def toB (w : List UInt8) : ByteArray := ⟨w.toArray⟩
theorem rdOf_nat (l : List ByteArray) (i : Nat) (h : i < l.length) : rdOf ByteArray.empty l (i : Int) = l[i] := by
  unfold rdOf
  rw [Int.toNat_natCast]
  simp [List.getD, h]
theorem nameB_all {n : ByteArray} (h : nameB n = true) : okW n.data.toList ∧ (47 : UInt8) ∉ n.data.toList ∧ (0 : UInt8) ∉ n.data.toList ∧ n.size ≤ 63 ∧ n.data.toList ≠ [46, 46] := by
  unfold nameB noneOf at h
  simp only [Bool.and_eq_true, decide_eq_true_eq, bne_iff_ne, ne_eq, List.all_eq_true] at h
  obtain ⟨⟨⟨h1, h2⟩, h3⟩, h4⟩ := h
  refine ⟨⟨fun e => ?_, h2⟩, fun e => (h4 _ e).2 rfl, fun e => (h4 _ e).1 rfl, h1.2, h3⟩
  have : n.data.toList.length = n.size := rfl
  rw [e] at this
  simp at this
  omega
def pathL (ns : List ByteArray) : List UInt8 := if ns = [] then [47] else ns.flatMap fun n => slash :: n.data.toList
theorem pathOf_data (ns : List ByteArray) : (pathOf ns).data.toList = pathL ns := by
  unfold pathOf pathL
  split <;> simp
/-- a row of names behind a pointer -/
def SRow (w : World) (A : Option Addr) (l : List ByteArray) : Prop := ∀ i (h : i < l.length), ∃ g, A = some ⟨g, 0, none⟩ ∧ w.cell? ⟨g, i, none⟩ = some (.string l[i])
theorem SRow.fr {w w' : World} {A : Option Addr} {l : List ByteArray} (h : SRow w A l) (q : Fr w w') : SRow w' A l := fun i hi => by
  obtain ⟨g, hg, hc⟩ := h i hi
  exact ⟨g, hg, q.cell hc⟩
end Go.Proofs.YtlnaeppbhjmocaaDoor
set_option linter.unusedSimpArgs false
set_option linter.unusedVariables false
namespace Go.Proofs.YtlnaeppbhjmocaaDoor
open Go.RowKit Go.Proofs Go.Proofs.YtlnaeppbhjmocaaDoorW.PrintWords Go.Proofs.YtlnaeppbhjmocaaDoorW.PrintMore

end Go.Proofs.YtlnaeppbhjmocaaDoor
set_option linter.unusedSimpArgs false
set_option linter.unusedVariables false
namespace Go.Proofs.YtlnaeppbhjmocaaDoor
open Go.RowKit Go.Proofs Go.Proofs.YtlnaeppbhjmocaaDoorW.PrintWords Go.Proofs.YtlnaeppbhjmocaaDoorW.PrintMore

theorem bs_ext {a b : ByteArray} (h : a.data.toList = b.data.toList) : a = b := ByteArray.ext (Array.toList_inj.mp h)
theorem orFail_ok {o : Er} {b : Bool} {j : Nat} (h : orFail o b = .ok j) : o = .ok j ∧ b = false := by
  cases o with
  | error e => simp [orFail] at h
  | ok i => cases b <;> simp [orFail] at h ⊢; exact h
theorem mostX_rg {ahead : List ByteArray} {dir : Bool} (h : dir = true ∨ ahead ≠ []) : 0 ≤ mostX ahead dir ∧ mostX ahead dir ≤ 63 := by
  have : dir = true ∨ 0 < ahead.length := h.imp id (fun h => List.length_pos_iff.mpr h)
  unfold mostX
  cases dir <;> simp at this ⊢ <;> split <;> omega
/-- a leaf read well: its path is that of good names -/
theorem leafX_good {gt : ByteArray → ByteArray → Bool} {L : List Int} {dry : Bool} {ahead : List ByteArray} {dir : Bool} {o : Er} {lf : Lf} {ns : List ByteArray} {j : Nat} (hb : bytesOk L)
    (ha : ∀ n ∈ ahead, nameB n = true) (hne : dir = true ∨ ahead ≠ []) (h : leafX gt L dry ahead dir o = ((lf, ns), .ok j)) :
    lf.path = pathOf ns ∧ (∀ n ∈ ns, nameB n = true) ∧ ns.length ≤ 64 ∧ (pathOf ns).size ≤ 1023 ∧ ns ≠ [] := by
  unfold leafX at h
  have hk := numX_rg (L := L) (low := 0) (high := mostX ahead dir) (.inl (by omega)) (mostX_rg hne).1 1 o hb
  dsimp only at h
  obtain ⟨k, hkk⟩ : ∃ k, numX L 1 0 (mostX ahead dir) o = k := ⟨_, rfl⟩
  rw [hkk] at h hk
  have hm := (mostX_rg hne).2
  obtain ⟨st, hst⟩ : ∃ st, (numX L 8 0 18446744073709551615 (numX L 2 0 4095 (numX L 1 1 3 k.2).2).2) = st := ⟨_, rfl⟩
  rw [hst] at h
  obtain ⟨nm, hnm⟩ : ∃ nm, takeX L (numX L 1 1 63 st.2).1.toNat (numX L 1 1 63 st.2).2 = nm := ⟨_, rfl⟩
  rw [hnm] at h
  obtain ⟨nb, no⟩ := nm
  cases no with
  | error e => simp at h
  | ok i =>
    dsimp only at h
    split at h
    · simp at h
    · rename_i hc
      have hn1 : nameB (strOfNums nb) = true := by
        cases hq : nameB (strOfNums nb) with
        | true => rfl
        | false => exact absurd (.inl hq) hc
      have hn2 : (pathOf (ahead.take k.1.toNat ++ [strOfNums nb])).size ≤ 1023 := by
        apply Nat.le_of_not_lt
        intro hq
        exact hc (.inr (.inr hq))
      have key : ∀ (P : ByteArray) (N : List ByteArray), P = pathOf (ahead.take k.1.toNat ++ [strOfNums nb]) → N = ahead.take k.1.toNat ++ [strOfNums nb] →
          P = pathOf N ∧ (∀ n ∈ N, nameB n = true) ∧ N.length ≤ 64 ∧ (pathOf N).size ≤ 1023 ∧ N ≠ [] := by
        rintro P N rfl rfl
        refine ⟨rfl, fun n hn => ?_, ?_, hn2, by simp⟩
        · rcases List.mem_append.mp hn with h1 | h1
          · exact ha n (List.mem_of_mem_take h1)
          · rw [List.mem_singleton.mp h1]; exact hn1
        · rw [List.length_append, List.length_take]
          simp only [List.length_cons, List.length_nil]
          omega
      split at h
      · injection h with h1 h2
        injection h1 with h1 h3
        subst h1 h3
        exact key _ _ rfl rfl
      · split at h
        · injection h with h1 h2
          injection h1 with h1 h3
          subst h1 h3
          exact key _ _ rfl rfl
        · injection h with h1 h2
          injection h1 with h1 h3
          subst h1 h3
          exact key _ _ rfl rfl
/-- a leaf behind its first numbers -/
def leafE (gt : ByteArray → ByteArray → Bool) (L : List Int) (dry : Bool) (ahead : List ByteArray) (k : Nat) (ty mo st : Int) (nb : List Int) : Er → (Lf × List ByteArray) × Er
  | .error e => ((⟨⟨#[]⟩, ty, mo, st, [], ⟨#[]⟩⟩, []), .error e)
  | .ok j =>
    let ns := ahead.take k ++ [strOfNums nb]
    if nameB (strOfNums nb) = false ∨ (k < ahead.length ∧ gt (strOfNums nb) (ahead.getD k ⟨#[]⟩) = false) ∨ 1023 < (pathOf ns).size then ((⟨pathOf ns, ty, mo, st, [], ⟨#[]⟩⟩, ns), .error 191)
    else if ty = 1 then
      let n := numX L 4 0 16777216 (.ok j)
      let d := dataR L dry n.1 n.2
      ((⟨pathOf ns, ty, mo, st, d.1, ⟨#[]⟩⟩, ns), d.2)
    else if ty = 3 then
      let n := numX L 1 1 127 (.ok j)
      let t := takeX L n.1.toNat n.2
      ((⟨pathOf ns, ty, mo, st, [], strOfNums t.1⟩, ns), orFail t.2 (!targetB (strOfNums t.1)))
    else ((⟨pathOf ns, ty, mo, st, [], ⟨#[]⟩⟩, ns), .ok j)
end Go.Proofs.YtlnaeppbhjmocaaDoor
set_option linter.unusedSimpArgs false
set_option linter.unusedVariables false
namespace Go.Proofs.YtlnaeppbhjmocaaDoor
open Go.RowKit Go.Proofs

def RXB (w : World) (g : Nat) (A : Option Addr) (c : Nat) (L : List Int) (i : Nat) (e told : Int) (dry : Bool) : Prop := w.heap[g]? = some (.cells #[.slice A L.length c, .int .i64 i, .int .i64 e, .int .i64 told, .bool dry] 58 (0, 0))
/-- the reader's block: where it stands, or its error -/
def RX (w : World) (g : Nat) (A : Option Addr) (c : Nat) (L : List Int) (o : Er) (told : Int) (dry : Bool) : Prop := ∃ i, i ≤ L.length ∧ (∀ j, o = .ok j → i = j) ∧ (∀ e, o = .error e → e ≠ 0) ∧ RXB w g A c L i o.num told dry
theorem RX.fr {w w' : World} {g : Nat} {A : Option Addr} {c : Nat} {L : List Int} {o : Er} {told : Int} {dry : Bool} (h : RX w g A c L o told dry) (q : Fr w w') : RX w' g A c L o told dry := by
  obtain ⟨i, h1, h2, h3, h4⟩ := h
  exact ⟨i, h1, h2, h3, q.heap h4⟩
theorem RX.grown {w w' : World} {g : Nat} {A : Option Addr} {c : Nat} {L : List Int} {o : Er} {told : Int} {dry : Bool} {r : Option Nat} (h : RX w g A c L o told dry) (q : w.grownBy w' r) (hne : some g ≠ r) : RX w' g A c L o told dry := by
  obtain ⟨i, h1, h2, h3, h4⟩ := h
  exact ⟨i, h1, h2, h3, grown_blk' q h4 hne⟩

end Go.Proofs.YtlnaeppbhjmocaaDoor
set_option linter.unusedSimpArgs false
set_option linter.unusedVariables false
namespace Go.Proofs.YtlnaeppbhjmocaaDoor
open Go.RowKit Go.Proofs Go.Proofs.YtlnaeppbhjmocaaDoorW.PrintWords Go.Proofs.YtlnaeppbhjmocaaDoorW.PrintMore

end Go.Proofs.YtlnaeppbhjmocaaDoor
set_option linter.unusedSimpArgs false
set_option linter.unusedVariables false
namespace Go.Proofs.YtlnaeppbhjmocaaDoor
open Go.RowKit Go.Proofs Go.Proofs.YtlnaeppbhjmocaaDoorW.PrintWords Go.Proofs.YtlnaeppbhjmocaaDoorW.PrintMore

theorem wpList_append_run {P : Program} {ops : Array Oper} {rest : List Oper} {o : Oper} {a : Act} {Q : Exit → Act → World → Prop} {w : World} (hgd : o.guard = none) (s x : Operand) (t1 t2 : TypeId)
    (ho : o.op = .call { callee := .builtin .append, args := #[s, x], argTypes := #[t1, t2] }) {v u v' : Value} {w' : World} (hs : a.eval s = v) (hx : a.eval x = u)
    (hr : (Builtin.append_ #[t1, t2] o.type #[v, u]).run P w = .ok v' w') (h : wpList P ops Q rest (a.put o.dst v') w') : wpList P ops Q (o :: rest) a w := by
  refine wpList_plain hgd fun K hK => ?_
  unfold Oper.wp execOp
  simp only [ho, resolve, invoke, builtin, Sem.run_bind, Sem.run_pure, Result.andThen_ok, List.map_toArray, List.map_cons, List.map_nil, hs, hx, hr]
  exact hK _ _ h

end Go.Proofs.YtlnaeppbhjmocaaDoor
set_option linter.unusedSimpArgs false
set_option linter.unusedVariables false
namespace Go.Proofs.YtlnaeppbhjmocaaDoor
open Go.RowKit Go.Proofs Go.Proofs.YtlnaeppbhjmocaaDoorW.PrintWords Go.Proofs.YtlnaeppbhjmocaaDoorW.PrintMore

theorem set6all {w : World} {g : Nat} {t : TypeId} {o0 o1 o2 o3 o4 o5 : Value} (H : w.heap[g]? = some (.cells #[o0, o1, o2, o3, o4, o5] t (0, 0))) (v0 v1 v2 v3 v4 v5 : Value) :
    ∃ w', ((((((w.setCell ⟨g, 0, none⟩ v0).setCell ⟨g, 1, none⟩ v1).setCell ⟨g, 2, none⟩ v2).setCell ⟨g, 3, none⟩ v3).setCell ⟨g, 4, none⟩ v4).setCell ⟨g, 5, none⟩ v5) = w' ∧ w.grownBy w' (some g) ∧ w'.heap[g]? = some (.cells #[v0, v1, v2, v3, v4, v5] t (0, 0)) := by
  have h := set_last (set_last (set_last (set_last (set_last (set_last H 0 v0) 1 v1) 2 v2) 3 v3) 4 v4) 5 v5
  simp only [List.setIfInBounds_toArray, List.set_cons_zero, List.set_cons_succ] at h
  exact ⟨_, rfl, sets_grown (sets_grown (sets_grown (sets_grown (sets_grown (sets_grown (grown_refl w _) 0 v0) 1 v1) 2 v2) 3 v3) 4 v4) 5 v5, h⟩
/-- the names lie in block ga -/
def NR (w : World) (A : Option Addr) (ga : Nat) (ns : List ByteArray) : Prop := (ga = 0 ∨ ga < w.heap.size) ∧ ∀ i (h : i < ns.length), A = some ⟨ga, 0, none⟩ ∧ w.cell? ⟨ga, i, none⟩ = some (.string ns[i])
theorem NR.fr {w w' : World} {A : Option Addr} {ga : Nat} {ns : List ByteArray} (h : NR w A ga ns) (q : Fr w w') : NR w' A ga ns := ⟨h.1.imp id (fun k => Nat.lt_of_lt_of_le k q.size), fun i hi => ⟨(h.2 i hi).1, q.cell (h.2 i hi).2⟩⟩
theorem NR.grown {w w' : World} {A : Option Addr} {ga g : Nat} {ns : List ByteArray} (h : NR w A ga ns) (q : w.grownBy w' (some g)) (hne : ga ≠ g) : NR w' A ga ns := ⟨h.1.imp id (fun k => Nat.lt_of_lt_of_le k q.size), fun i hi =>
  ⟨(h.2 i hi).1, cell_grown (g := 0) q (h.2 i hi).2 (fun e => hne (by injection e))⟩⟩
theorem NR.at {w : World} {A : Option Addr} {ga : Nat} {ns : List ByteArray} (h : NR w A ga ns) (i : Nat) (hi : i < ns.length) : A = some ⟨ga, 0, none⟩ ∧ w.cell? ⟨ga, i, none⟩ = some (.string ns[i]) := h.2 i hi
end Go.Proofs.YtlnaeppbhjmocaaDoor
set_option linter.unusedSimpArgs false
set_option linter.unusedVariables false
namespace Go.Proofs.YtlnaeppbhjmocaaDoor
open Go.RowKit Go.Proofs Go.Proofs.YtlnaeppbhjmocaaDoorW.PrintWords Go.Proofs.YtlnaeppbhjmocaaDoorW.PrintMore

def badB (gt : ByteArray → ByteArray → Bool) (nm : ByteArray) (ns : List ByteArray) (k : Nat) (P : ByteArray) : Bool := !nameB nm || (decide (k < ns.length) && !gt nm (ns.getD k ⟨#[]⟩)) || decide (1023 < P.size)
theorem badB_iff {gt : ByteArray → ByteArray → Bool} {nm : ByteArray} {ns : List ByteArray} {k : Nat} {P : ByteArray} : badB gt nm ns k P = true ↔ (nameB nm = false ∨ (k < ns.length ∧ gt nm (ns.getD k ⟨#[]⟩) = false) ∨ 1023 < P.size) := by
  simp [badB, or_assoc]
section
variable {gt : ByteArray → ByteArray → Bool} {nm PN : ByteArray} {ns : List ByteArray} {k j : Nat} {L nb : List Int} {dry : Bool} {ty mo st : Int}
theorem leafE_bad (h : badB gt nm ns k PN = true) (hn : strOfNums nb = nm) (hp : pathOf (ns.take k ++ [nm]) = PN) : leafE gt L dry ns k ty mo st nb (.ok j) = ((⟨PN, ty, mo, st, [], ⟨#[]⟩⟩, ns.take k ++ [nm]), .error 191) := by
  subst hn; subst hp; simp only [leafE]; rw [if_pos (badB_iff.1 h)]
theorem not_bad (h : badB gt nm ns k PN = false) : ¬ (nameB nm = false ∨ (k < ns.length ∧ gt nm (ns.getD k ⟨#[]⟩) = false) ∨ 1023 < PN.size) := fun hh => by rw [badB_iff.2 hh] at h; cases h
theorem leafE_file (h : badB gt nm ns k PN = false) (hn : strOfNums nb = nm) (hp : pathOf (ns.take k ++ [nm]) = PN) : leafE gt L dry ns k 1 mo st nb (.ok j) = ((⟨PN, 1, mo, st, (dataR L dry (numX L 4 0 16777216 (.ok j)).1 (numX L 4 0 16777216 (.ok j)).2).1, ⟨#[]⟩⟩, ns.take k ++ [nm]), (dataR L dry (numX L 4 0 16777216 (.ok j)).1 (numX L 4 0 16777216 (.ok j)).2).2) := by
  subst hn; subst hp; simp only [leafE]; rw [if_neg (not_bad h), if_pos trivial]
theorem leafE_link (h : badB gt nm ns k PN = false) (hn : strOfNums nb = nm) (hp : pathOf (ns.take k ++ [nm]) = PN) : leafE gt L dry ns k 3 mo st nb (.ok j) = ((⟨PN, 3, mo, st, [], strOfNums (takeX L (numX L 1 1 127 (.ok j)).1.toNat (numX L 1 1 127 (.ok j)).2).1⟩, ns.take k ++ [nm]), orFail (takeX L (numX L 1 1 127 (.ok j)).1.toNat (numX L 1 1 127 (.ok j)).2).2 (!targetB (strOfNums (takeX L (numX L 1 1 127 (.ok j)).1.toNat (numX L 1 1 127 (.ok j)).2).1))) := by
  subst hn; subst hp; simp only [leafE]; rw [if_neg (not_bad h), if_neg (by decide), if_pos trivial]
theorem leafE_dir (h : badB gt nm ns k PN = false) (hn : strOfNums nb = nm) (hp : pathOf (ns.take k ++ [nm]) = PN) (h1 : ¬ ty = 1) (h3 : ¬ ty = 3) : leafE gt L dry ns k ty mo st nb (.ok j) = ((⟨PN, ty, mo, st, [], ⟨#[]⟩⟩, ns.take k ++ [nm]), .ok j) := by
  subst hn; subst hp; simp only [leafE]; rw [if_neg (not_bad h), if_neg h1, if_neg h3]
end
theorem OwnB.keep {w w' : World} {B : Nat} {v : Value} {xs : List Int} (h : OwnB w B v xs) {g : Nat} (q : w.grownBy w' (some g)) (hg : g < B) : OwnB w' B v xs :=
  own_keep h q (fun k hk => by have := (h.lt hk).1; omega)
def gtB (a b : ByteArray) : Bool := !(Op.bytesLess a.toList b.toList || a.toList == b.toList)

end Go.Proofs.YtlnaeppbhjmocaaDoor
set_option linter.unusedSimpArgs false
set_option linter.unusedVariables false
namespace Go.Proofs.YtlnaeppbhjmocaaDoor
open Go.RowKit Go.Proofs Go.Proofs.YtlnaeppbhjmocaaDoorW.PrintWords Go.Proofs.YtlnaeppbhjmocaaDoorW.PrintMore

theorem takeX_on {L : List Int} {n j : Nat} {o : Er} (h : (takeX L n o).2 = .ok j) : ∃ i, o = .ok i ∧ j = i + n ∧ j ≤ L.length := by
  cases o with
  | error e => simp [takeX] at h
  | ok i =>
    simp only [takeX] at h
    split at h
    · injection h with h; exact ⟨i, rfl, by omega, by omega⟩
    · cases h
theorem numX_on {L : List Int} {n j : Nat} {lo hi : Int} {o : Er} (h : (numX L n lo hi o).2 = .ok j) : ∃ i, o = .ok i ∧ j = i + n ∧ j ≤ L.length := by
  cases ht : takeX L n o with
  | mk bs o1 =>
    cases o1 with
    | error e => unfold numX at h; rw [ht] at h; cases h
    | ok j' =>
      have : j' = j := by
        unfold numX at h
        rw [ht] at h
        dsimp only at h
        split at h <;> injection h
      subst this
      exact takeX_on (n := n) (by rw [ht])
theorem orFail_on {o : Er} {b : Bool} {j : Nat} (h : orFail o b = .ok j) : o = .ok j := (orFail_ok h).1
theorem dataX_on {L : List Int} {dry : Bool} {n : Int} : ∀ (f : Nat) {told : Int} {out : List Int} {last : Int} {o : Er} {j : Nat}, (dataX L dry n f told out last o).2 = .ok j → ∃ i, o = .ok i ∧ i ≤ j ∧ (i ≤ L.length → j ≤ L.length)
  | 0, told, out, last, o, j, h => ⟨j, h, Nat.le_refl _, id⟩
  | f + 1, told, out, last, .error e, j, h => by simp [dataX] at h
  | f + 1, told, out, last, .ok i, j, h => by
    refine ⟨i, rfl, ?_⟩
    simp only [dataX] at h
    split at h
    · rename_i hlt
      obtain ⟨a, ha⟩ : ∃ a, numX L 1 0 1 (.ok i) = a := ⟨_, rfl⟩
      rw [ha] at h
      obtain ⟨k, hk⟩ : ∃ k, numX L 4 (if a.1 = 0 then 16 else 1) (n - told) (orFail a.2 (decide (a.1 = last))) = k := ⟨_, rfl⟩
      rw [hk] at h
      cases hk2 : k.2 with
      | error e => rw [hk2] at h; cases h
      | ok j1 =>
        rw [hk2] at h
        dsimp only at h
        obtain ⟨i2, e2, e3, e4⟩ := numX_on (n := 4) (j := j1) (by rw [hk]; exact hk2)
        have e5 := orFail_on e2
        obtain ⟨i3, e6, e7, e8⟩ := numX_on (n := 1) (j := i2) (by rw [ha]; exact e5)
        injection e6 with e6
        subst e6
        split at h
        · obtain ⟨i4, f1, f2, f3⟩ := dataX_on f h
          have f4 := orFail_on f1
          obtain ⟨i5, f5, f6, f7⟩ := takeX_on f4
          injection f5 with f5
          exact ⟨by omega, fun _ => f3 f7⟩
        · obtain ⟨i4, f1, f2, f3⟩ := dataX_on f h
          injection f1 with f1
          exact ⟨by omega, fun _ => f3 (by omega)⟩
    · injection h with h
      subst h
      exact ⟨Nat.le_refl _, id⟩
/-- a leaf read takes some bytes -/
theorem leafX_on {gt : ByteArray → ByteArray → Bool} {L : List Int} {dry : Bool} {ahead : List ByteArray} {dir : Bool} {o : Er} {j : Nat} (h : (leafX gt L dry ahead dir o).2 = .ok j) : ∃ i, o = .ok i ∧ i < j ∧ j ≤ L.length := by
  unfold leafX at h
  obtain ⟨k, hk⟩ : ∃ k, numX L 1 0 (mostX ahead dir) o = k := ⟨_, rfl⟩
  obtain ⟨ty, hty⟩ : ∃ q, numX L 1 1 3 k.2 = q := ⟨_, rfl⟩
  obtain ⟨mo, hmo⟩ : ∃ k, numX L 2 0 4095 ty.2 = k := ⟨_, rfl⟩
  obtain ⟨st, hst⟩ : ∃ k, numX L 8 0 18446744073709551615 mo.2 = k := ⟨_, rfl⟩
  obtain ⟨nl, hnl⟩ : ∃ k, numX L 1 1 63 st.2 = k := ⟨_, rfl⟩
  obtain ⟨nm, hnm⟩ : ∃ k, takeX L nl.1.toNat nl.2 = k := ⟨_, rfl⟩
  rw [hk] at h
  dsimp only at h
  rw [hty] at h
  rw [hmo] at h
  rw [hst] at h
  rw [hnl] at h
  rw [hnm] at h
  have key : ∀ j', nm.2 = .ok j' → ∃ i, o = .ok i ∧ i < j' ∧ j' ≤ L.length := fun j' h' => by
    obtain ⟨i1, e1, a1, b1⟩ := takeX_on (j := j') (by rw [hnm]; exact h')
    obtain ⟨i2, e2, a2, b2⟩ := numX_on (j := i1) (by rw [hnl]; exact e1)
    obtain ⟨i3, e3, a3, b3⟩ := numX_on (j := i2) (by rw [hst]; exact e2)
    obtain ⟨i4, e4, a4, b4⟩ := numX_on (j := i3) (by rw [hmo]; exact e3)
    obtain ⟨i5, e5, a5, b5⟩ := numX_on (j := i4) (by rw [hty]; exact e4)
    obtain ⟨i6, e6, a6, b6⟩ := numX_on (j := i5) (by rw [hk]; exact e5)
    exact ⟨i6, e6, by omega, b1⟩
  clear hk hty hmo hst hnl hnm
  cases hnm2 : nm.2 with
  | error e => rw [hnm2] at h; cases h
  | ok j' =>
    obtain ⟨i, e1, a1, b1⟩ := key j' hnm2
    refine ⟨i, e1, ?_⟩
    rw [hnm2] at h
    dsimp only at h
    split at h
    · cases h
    · split at h
      · obtain ⟨i2, e2, a2, b2⟩ := dataX_on _ h
        obtain ⟨i3, e3, a3, b3⟩ := numX_on e2
        injection e3 with e3
        exact ⟨by omega, b2 b3⟩
      · split at h
        · obtain ⟨i2, e2, a2, b2⟩ := takeX_on (orFail_on h)
          obtain ⟨i3, e3, a3, b3⟩ := numX_on e2
          injection e3 with e3
          exact ⟨by omega, b2⟩
        · injection h with h
          subst h
          exact ⟨a1, b1⟩
theorem treeX_error (gt : ByteArray → ByteArray → Bool) (L : List Int) (dry : Bool) (f : Nat) (acc : List Lf) (ns : List ByteArray) (dir : Bool) (e : Int) : treeX gt L dry f acc ns dir (.error e) = (acc, .error e) := by
  cases f <;> rfl
theorem treeX_stop (gt : ByteArray → ByteArray → Bool) (L : List Int) (dry : Bool) (f : Nat) (acc : List Lf) (ns : List ByteArray) (dir : Bool) (i : Nat) (h : ¬ (i < L.length ∧ L.getD i 0 ≠ 255)) : treeX gt L dry f acc ns dir (.ok i) = (acc, .ok i) := by
  cases f with
  | zero => rfl
  | succ f => simp only [treeX]; rw [if_neg h]
/-- the last leaf of a reading that goes on -/
structure Good (ns : List ByteArray) (ty : Int) : Prop where
  names : ∀ n ∈ ns, nameB n = true
  deep : ns.length ≤ 64
  size : (pathOf ns).size ≤ 1023
  dir : decide (ty = 2) = true ∨ ns ≠ []
theorem good_root : Good [] 2 := ⟨fun n h => by simp at h, by simp, by simp [pathOf, ByteArray.size], .inl rfl⟩
theorem leafX_Good {gt : ByteArray → ByteArray → Bool} {L : List Int} {dry : Bool} {ahead : List ByteArray} {ty : Int} {o : Er} {lf : Lf} {ns : List ByteArray} {j : Nat} (hb : bytesOk L) (ha : Good ahead ty)
    (h : leafX gt L dry ahead (decide (ty = 2)) o = ((lf, ns), .ok j)) : lf.path = pathOf ns ∧ Good ns lf.ty := by
  obtain ⟨h1, h2, h3, h4, h5⟩ := leafX_good hb ha.names ha.dir h
  exact ⟨h1, h2, h3, h4, .inr h5⟩

/-! ### Leaves in memory -/
theorem bytes_cell {w : World} {gb ob : Nat} {L : List Int} (hA : BytesAt w (some ⟨gb, ob, none⟩) L) (i : Nat) (h : i < L.length) : w.cell? ⟨gb, ob + i, none⟩ = some (.int .u8 (L.getD i 0)) := by
  rcases hA with h' | ⟨g', o', e, _, h'⟩
  · rw [h'] at h; simp at h
  · injection e with e; injection e with e1 e2; subst e1 e2
    rw [show L.getD i 0 = L[i] by simp [List.getD, h]]; exact h' i _ (List.getElem?_eq_getElem h)
def lcell (p : Lf × Value) : List Value := [.string p.1.path, .int .i64 p.1.ty, .int .i64 p.1.mode, .int .u64 p.1.stamp, p.2, .string p.1.tgt]
def lflat (tv : List (Lf × Value)) : List Value := (tv.map lcell).flatten
theorem lflat_snoc (tv : List (Lf × Value)) (p : Lf × Value) : lflat (tv ++ [p]) = lflat tv ++ lcell p := by simp [lflat]
theorem lcell_len (tv : List (Lf × Value)) : ∀ c ∈ tv.map lcell, c.length = 6 := fun c hc => by obtain ⟨p, _, rfl⟩ := List.mem_map.1 hc; rfl
theorem lflat_length (tv : List (Lf × Value)) : (lflat tv).length = tv.length * 6 := by
  have := flat_length (lcell_len tv); simpa [lflat] using this
/-- each leaf's data, a row of the call's own -/
def LO (w : World) (B : Nat) (tv : List (Lf × Value)) : Prop := ∀ p ∈ tv, OwnB w B p.2 p.1.data
theorem LO.nil (w : World) (B : Nat) : LO w B [] := fun p h => by simp at h
theorem LO.fr {w w' : World} {B : Nat} {tv : List (Lf × Value)} (h : LO w B tv) (q : Fr w w') : LO w' B tv := fun p hp => (h p hp).fr q
theorem LO.cells {w w' : World} {B g : Nat} {tv : List (Lf × Value)} {cs : Array Value} {t : TypeId} (h : LO w B tv) (q : w.grownBy w' (some g)) (H : w.heap[g]? = some (.cells cs t (0, 0))) (ht : 5 ≠ t) : LO w' B tv := fun p hp => own_grown (h p hp) q H ht
theorem LO.own {w w' : World} {B b s n : Nat} {tv : List (Lf × Value)} {e : TypeId} {v : Value} {xs : List Value} (h : LO w B tv) (q : w.grownBy w' v.ownBlock) (O : w.ownsRow b e s v n xs) (ht : 5 ≠ e) : LO w' B tv := fun p hp => World.ownsRow.kept (h p hp) q (own_ne2 (h p hp) O ht)
theorem LO.snoc {w : World} {B : Nat} {tv : List (Lf × Value)} {p : Lf × Value} (h : LO w B tv) (hp : OwnB w B p.2 p.1.data) : LO w B (tv ++ [p]) := fun q hq => by
  rcases List.mem_append.1 hq with h1 | h1
  · exact h q h1
  · rw [List.mem_singleton.1 h1]; exact hp
theorem LO.low {w : World} {B B' : Nat} {tv : List (Lf × Value)} (h : LO w B tv) (hb : B' ≤ B) : LO w B' tv := fun p hp => (h p hp).low hb
theorem info_leaf : ∃ i, Tryd.prog.info? 45 = some i ∧ i.zero = some (.agg #[.string ⟨#[]⟩, .int .i64 0, .int .i64 0, .int .u64 0, .slice none 0 0, .string ⟨#[]⟩]) ∧ i.size = 6 ∧ i.bytes = 80 := by
  have : (Tryd.prog.info? 45).map (fun i => (i.zero, i.size, i.bytes)) = some (some (.agg #[.string ⟨#[]⟩, .int .i64 0, .int .i64 0, .int .u64 0, .slice none 0 0, .string ⟨#[]⟩]), 6, 80) := by kernel_rfl
  obtain ⟨i, hi, he⟩ := Option.map_eq_some_iff.1 this
  injection he with e1 e2
  injection e2 with e2 e3
  exact ⟨i, hi, e1, e2, e3⟩

/-! ### A whole parcel -/
def rootLf (m s : Int) : Lf := ⟨⟨#[47]⟩, 2, m, s, [], ⟨#[]⟩⟩
def headB (L : List Int) : Bool := decide (5 ≤ L.length) && L.take 5 == [80, 82, 67, 76, 1]
def endE (crc : List Int → Int) (L : List Int) (t : List Lf) (sb : List Int) : Er → List Lf × Int
  | .error e => ([], e)
  | .ok j => if sb = le (crc (L.take (j - 4))) 4 then (if j < L.length then ([], 190) else (t, 0)) else ([], 192)
def endX (crc : List Int → Int) (L : List Int) (t : List Lf) (o : Er) : List Lf × Int := endE crc L t (takeX L 4 (takeX L 1 o).2).1 (takeX L 4 (takeX L 1 o).2).2
theorem endX_E (crc : List Int → Int) (L : List Int) (t : List Lf) (o : Er) : endX crc L t o = endE crc L t (takeX L 4 (takeX L 1 o).2).1 (takeX L 4 (takeX L 1 o).2).2 := rfl
def treeR (L : List Int) (m s : Int × Er) : List Lf × Er := treeX gtB L false (L.length + 1) [rootLf m.1 s.1] [] true s.2
def readX (crc : List Int → Int) (L : List Int) : List Lf × Int :=
  if headB L = true then
    endX crc L (treeR L (numX L 2 0 4095 (.ok 5)) (numX L 8 0 18446744073709551615 (numX L 2 0 4095 (.ok 5)).2)).1 (treeR L (numX L 2 0 4095 (.ok 5)) (numX L 8 0 18446744073709551615 (numX L 2 0 4095 (.ok 5)).2)).2
  else ([], 190)
end Go.Proofs.YtlnaeppbhjmocaaDoor
set_option linter.unusedSimpArgs false
set_option linter.unusedVariables false
namespace Go.Proofs.YtlnaeppbhjmocaaDoor
open Go.RowKit Go.Proofs Go.Proofs.YtlnaeppbhjmocaaDoorW.PrintWords Go.Proofs.YtlnaeppbhjmocaaDoorW.PrintMore

end Go.Proofs.YtlnaeppbhjmocaaDoor
set_option linter.unusedSimpArgs false
set_option linter.unusedVariables false
namespace Go.Proofs.YtlnaeppbhjmocaaDoor
def crcBit (x : Nat) : Nat := if x % 2 = 1 then x / 2 ^^^ 3988292384 else x / 2
def crcTab : List Nat := [0, 498536548, 997073096, 651767980, 1994146192, 1802195444, 1303535960, 1342533948, 3988292384, 4027552580, 3604390888, 3412177804, 2607071920, 2262029012, 2685067896, 3183342108]
theorem xor_half (a b : Nat) : (a ^^^ b) / 2 = a / 2 ^^^ b / 2 := by
  have h := Nat.shiftRight_xor_distrib (a := a) (b := b) (i := 1)
  simpa [Nat.shiftRight_succ, Nat.shiftRight_zero] using h
theorem xor_odd (a b : Nat) : (a ^^^ b) % 2 = (a % 2 + b % 2) % 2 := by
  have h := Nat.xor_mod_two_eq_one (a := a) (b := b)
  rcases Nat.mod_two_eq_zero_or_one a with ha | ha <;> rcases Nat.mod_two_eq_zero_or_one b with hb | hb <;> rcases Nat.mod_two_eq_zero_or_one (a ^^^ b) with hc | hc <;> rw [ha, hb, hc] at h <;> rw [ha, hb, hc] <;> simp at h ⊢
theorem crc_bit_any (x : Nat) (c : Nat) : crcBit (x ^^^ c) = crcBit x ^^^ crcBit c := by
  unfold crcBit
  rw [xor_odd, xor_half]
  rcases Nat.mod_two_eq_zero_or_one x with ha | ha <;> rcases Nat.mod_two_eq_zero_or_one c with hb | hb <;> rw [ha, hb]
  · simp
  · simp [Nat.xor_assoc]
  · simp only [Nat.zero_mod, Nat.add_zero, Nat.one_mod, if_true, Nat.reduceMod, Nat.reduceEqDiff, if_false, reduceIte, Nat.zero_ne_one]
    rw [Nat.xor_assoc, Nat.xor_comm (c / 2), Nat.xor_assoc]
  · simp only [Nat.reduceAdd, Nat.reduceMod, reduceIte, Nat.zero_ne_one]
    rw [Nat.xor_assoc, ← Nat.xor_assoc 3988292384, Nat.xor_comm 3988292384, Nat.xor_assoc (c / 2), Nat.xor_self, Nat.xor_zero]
theorem crc_even (h : Nat) : crcBit (2 * h) = h := by
  unfold crcBit; rw [if_neg (by omega)]; omega
theorem split16 (x : Nat) : x = (16 * (x / 16)) ^^^ (x % 16) := by
  have h : x % 16 < 2 ^ 4 := by omega
  have h2 : 2 ^ 4 * (x / 16) + x % 16 = 2 ^ 4 * (x / 16) ||| x % 16 := Nat.two_pow_add_eq_or_of_lt h _
  have h3 : (16 * (x / 16)) ^^^ (x % 16) = 16 * (x / 16) ||| x % 16 := by
    apply Nat.eq_of_testBit_eq
    intro i
    rw [Nat.testBit_xor, Nat.testBit_or]
    by_cases hi : i < 4
    · have : (16 * (x / 16)).testBit i = false := by
        have := Nat.testBit_two_pow_mul (i := 4) (a := x / 16) (j := i)
        simp at this
        rw [this]; simp; omega
      rw [this]; simp
    · have : (x % 16).testBit i = false := Nat.testBit_lt_two_pow (Nat.lt_of_lt_of_le h (Nat.pow_le_pow_right (by decide) (by omega)))
      rw [this]; simp
  rw [h3]
  have : x = 16 * (x / 16) + x % 16 := by omega
  simp only [Nat.reducePow] at h2
  omega
theorem crc_four (x : Nat) : crcBit (crcBit (crcBit (crcBit x))) = x / 16 ^^^ crcTab.getD (x % 16) 0 := by
  have key : ∀ l : Nat, l < 16 → crcBit (crcBit (crcBit (crcBit l))) = crcTab.getD l 0 := by decide
  conv => lhs; rw [split16 x]
  rw [crc_bit_any, crc_bit_any, crc_bit_any, crc_bit_any, key (x % 16) (Nat.mod_lt _ (by decide))]
  congr 1
  rw [show 16 * (x / 16) = 2 * (8 * (x / 16)) by omega, crc_even, show 8 * (x / 16) = 2 * (4 * (x / 16)) by omega, crc_even, show 4 * (x / 16) = 2 * (2 * (x / 16)) by omega, crc_even, crc_even]
end Go.Proofs.YtlnaeppbhjmocaaDoor
