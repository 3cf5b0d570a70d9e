/- The sum of bytes bit by bit, and four bits at a time: the same, in plain Lean. No conditions. -/
import Derived.Test.YtlnaeppbhjmocaaDoorT7
import Derived.StillTail
import Derived.BigQuiet
import Derived.Lib.QuietBelow
import Derived.KernelRfl
import Derived.OrdersHeld
import Derived.Deep.RegionHeld3
import Derived.Test.YtlnaeppbhjmocaaDoorShelf
import Derived.WalkKit
import Derived.WalkSpells
import Derived.WalkLawsBesides
import Derived.Deep.QuietTactic
import Derived.Deep.DeepFit
import Derived.Lib.Hide
import Derived.Lib.ItoaLen
import Derived.Laws.AppendOwnNone
import Derived.Deep.DeepCutAuto
set_option linter.unusedSectionVars false
set_option linter.unnecessarySimpa false
set_option linter.unusedSimpArgs false
set_option linter.unusedVariables false
namespace Go.Proofs.YtlnaeppbhjmocaaDoor.Reg
open Go Go.RowKit Go.Sort

section
variable {P : Program} {ops : Array Oper} {md : Region.Mode} {C : World → Prop}

/-- each of the operations e .. n - 1 is waited for by one behind it, up to n -/
def sinkE (md : Region.Mode) (ops : Array Oper) (e n : Nat) : Bool :=
  (List.range n).all fun i => decide (i < e) || (List.range (n + 1)).any fun j => decide (i < j) && Region.waitsFor md ops j i

structure Inv (md : Region.Mode) (ops : Array Oper) (e n : Nat) (listed : Array Bool) : Prop extends HeadInv md ops n listed where
  early : ∀ k, k < e → listed.getD k true = true

theorem tail_waits_e {e n : Nat} {listed : Array Bool} (hs : sinkE md ops e n = true) (hc : Region.chainB md ops n = true) (inv : Inv md ops e n listed) :
    ∀ (d i : Nat), n - i = d → i < n → listed.getD i true = false → ∀ t, n ≤ t → t ∉ Region.ready md ops listed := by
  intro d
  induction d using Nat.strongRecOn with
  | _ d ih =>
    intro i hd hi hun t ht hr
    obtain ⟨_, ot, hot, hall⟩ := mem_ready.1 hr
    have htlt : t < ops.size := (Array.getElem?_eq_some_iff.1 hot).1
    by_cases htn : t = n
    · subst htn
      have h1 := List.all_eq_true.1 hs i (List.mem_range.2 hi)
      simp only [Bool.or_eq_true, decide_eq_true_eq] at h1
      rcases h1 with h1 | h1
      · rw [inv.early i h1] at hun; cases hun
      obtain ⟨j, hj, hj2⟩ := List.any_eq_true.1 h1
      simp only [Bool.and_eq_true, decide_eq_true_eq] at hj2
      obtain ⟨oj, hoj, e, he, hb, hon⟩ := Region.waitsFor_spec hj2.2
      have hjle : j ≤ t := by have := List.mem_range.1 hj; omega
      by_cases hjt : j = t
      · subst hjt
        have : oj = ot := Option.some.inj (hoj.symm.trans hot)
        subst this
        have h2 := hall e he hb
        rw [hon, getD_both hun] at h2
        cases h2
      · cases hl : listed.getD j false with
        | true =>
          have h2 := inv.closed j oj hoj hl e he hb
          rw [hon, getD_both hun] at h2
          cases h2
        | false =>
          have hjs : j < listed.size := by rw [inv.size]; omega
          exact ih (t - j) (by omega) j rfl (by omega) (getD_in hjs hl) t (Nat.le_refl _) hr
    · have h1 := List.all_eq_true.1 hc t (List.mem_range.2 htlt)
      simp only [Bool.or_eq_true, decide_eq_true_eq] at h1
      rcases h1 with h1 | h1
      · omega
      · obtain ⟨o', ho', e, he, hb, hon⟩ := Region.waitsFor_spec h1
        have : o' = ot := Option.some.inj (ho'.symm.trans hot)
        subst this
        have h2 := hall e he hb
        rw [hon, getD_both (inv.tail (t - 1) (by omega) (by omega))] at h2
        cases h2

theorem Inv.set {e n i : Nat} {listed : Array Bool} (inv : Inv md ops e n listed) (hi : i ∈ Region.ready md ops listed) (hin : i < n) : Inv md ops e n (listed.setIfInBounds i true) where
  toHeadInv := inv.toHeadInv.set hi hin
  early k hk := by
    by_cases h : i = k
    · subst h
      have := (mem_ready.1 hi).1
      rw [inv.early i hk] at this
      cases this
    · rw [getD_set_ne true h]; exact inv.early k hk

def wpAnyH (P : Program) (md : Region.Mode) (ops : Array Oper) (C : World → Prop) (n : Nat) (L : Array Bool → Act → Prop) : Nat → Array Bool → Act → Prop
  | 0, listed, a => L listed a
  | f + 1, listed, a =>
    Region.ready md ops listed ≠ [] ∧ ∀ i ∈ Region.ready md ops listed, i < n ∧ qOp P ops C i (wpAnyH P md ops C n L f (listed.setIfInBounds i true)) a

theorem wpAny_of_headQ {n g : Nat} {L : Array Bool → Act → Prop} {Q' : Exit → Act → World → Prop} (hL : ∀ listed a w, C w → L listed a → wpAny P md ops Q' g listed a w) :
    ∀ (f : Nat) (listed : Array Bool) (a : Act) (w : World), C w → wpAnyH P md ops C n L f listed a → wpAny P md ops Q' (f + g) listed a w
  | 0, listed, a, w, hw, h => by rw [Nat.zero_add]; exact hL _ _ _ hw h
  | f + 1, listed, a, w, hw, h => by
    rw [show f + 1 + g = (f + g) + 1 by omega]
    exact ⟨fun h0 => absurd h0 h.1, fun i hi => wpOp_of_qOp hw (fun a' w' hw' h' => wpAny_of_headQ hL f _ a' w' hw' h') (h.2 i hi).2⟩

theorem wpAnyH_first {e n i : Nat} {oi : Oper} {v : Value} {L : Array Bool → Act → Prop} (hi : ops[i]? = some oi) (hsel : ∀ (j : Nat) (o : Oper) cs b, ops[j]? = some o → o.op ≠ .select cs b)
    (hs : sinkE md ops e n = true) (hc : Region.chainB md ops n = true) (hin : i < n)
    (hdone : ∀ listed a, L listed a → ∀ j ∈ Region.ready md ops listed, n ≤ j) :
    ∀ (f : Nat) (listed : Array Bool) (a : Act), Inv md ops e n listed →
      (∀ j oj, ops[j]? = some oj → j ≠ i → listed.getD j true = false → (∀ e ∈ oj.after, Region.binds md e = true → e.on ≠ i) → oi.apart ops oj = true) →
      i ∈ Region.ready md ops listed → YieldsIn P ops C oi v a →
      wpAnyH P md ops C n L f (listed.setIfInBounds i true) (a.put oi.dst v) → wpAnyH P md ops C n L (f + 1) listed a := by
  intro f
  induction f with
  | zero =>
    intro listed a inv _ hr hy H
    have hun := (mem_ready.1 hr).1
    refine ⟨fun h => (by rw [h] at hr; cases hr), fun j hj => ?_⟩
    have hjn : j < n := by
      rcases Nat.lt_or_ge j n with h | h
      · exact h
      · exact absurd hj (tail_waits_e hs hc inv _ i rfl hin hun j h)
    refine ⟨hjn, ?_⟩
    by_cases hji : j = i
    · subst hji; exact hy.qOp hi H
    · have := hdone _ _ H j (ready_mono hj hji)
      omega
  | succ f ih =>
    intro listed a inv hfree hr hy H
    have hun := (mem_ready.1 hr).1
    refine ⟨fun h => (by rw [h] at hr; cases hr), fun j hj => ?_⟩
    have hjn : j < n := by
      rcases Nat.lt_or_ge j n with h | h
      · exact h
      · exact absurd hj (tail_waits_e hs hc inv _ i rfl hin hun j h)
    refine ⟨hjn, ?_⟩
    by_cases hji : j = i
    · subst hji; exact hy.qOp hi H
    · have h1 := (H.2 j (ready_mono hj hji)).2
      obtain ⟨hjun, oj, hoj, hall⟩ := mem_ready.1 hj
      have hnot : ∀ e ∈ oj.after, Region.binds md e = true → e.on ≠ i := fun e he hb heq => by
        have h1 := hall e he hb
        rw [heq, getD_both hun] at h1
        cases h1
      have h2 := qOp_put hoj (hfree j oj hoj hji hjun hnot) (fun cs b => hsel i oi cs b hi) (fun cs b => hsel j oj cs b hoj) hy h1
      have hfree' : ∀ k ok, ops[k]? = some ok → k ≠ i → (listed.setIfInBounds j true).getD k true = false →
          (∀ e ∈ ok.after, Region.binds md e = true → e.on ≠ i) → oi.apart ops ok = true := fun k ok hk hki hun hno => by
        refine hfree k ok hk hki ?_ hno
        by_cases hjk : j = k
        · subst hjk; exact hjun
        · rw [getD_set_ne true hjk] at hun; exact hun
      refine qOp_mono (fun a' h3 => ih (listed.setIfInBounds j true) a' (inv.set hj hjn) hfree' (ready_mono hr (Ne.symm hji)) h3.1 ?_) h2
      rw [Array.setIfInBounds_comm _ _ hji]
      exact h3.2

theorem wpAnyH_lex {e n g : Nat} {Lq : Act → Prop} (hsel : Region.noSelect ops = true) (hs : sinkE md ops e n = true) (hc : Region.chainB md ops n = true) :
    ∀ (l : List Oper) (k : Nat) (listed : Array Bool) (a : Act), (∀ j, j < l.length → l[j]? = ops[k + j]?) → k + l.length = n → Inv md ops e n listed →
    Region.lexHead md ops g l.length k listed = true → wpQuiet P ops C Lq l a →
    wpAnyH P md ops C n (fun listed' a' => Region.seqB md ops g n listed' = true ∧ Lq a') l.length listed a
  | [], k, listed, a, _, hk, _, hB, h => by
    have : k = n := by simpa using hk
    subst this
    exact ⟨by simpa [Region.lexHead] using hB, h⟩
  | o :: l, k, listed, a, hl, hk, inv, hB, h => by
    have h0 : ops[k]? = some o := by simpa using (hl 0 (by simp)).symm
    simp only [List.length_cons, Region.lexHead, Bool.and_eq_true] at hB
    obtain ⟨⟨hr, hf⟩, hB'⟩ := hB
    have hkn : k < n := by simp only [List.length_cons] at hk; omega
    have hr' : k ∈ Region.ready md ops listed := by simpa using hr
    have hst : qOp P ops C k (wpQuiet P ops C Lq l) a := by unfold qOp; simp only [h0]; exact h
    obtain ⟨v, hy, hK⟩ := yieldsIn_of_qOp h0 hst
    exact wpAnyH_first h0 (Region.noSelect_spec hsel) hs hc hkn (fun listed' a' hL => seqB_ready hL.1) l.length listed a inv (Region.free_spec h0 hf) hr' hy
      (wpAnyH_lex hsel hs hc l (k + 1) _ _ (fun j hj => by have := hl (j + 1) (by simp; omega); simpa [Nat.add_assoc, Nat.add_comm 1 j] using this) (by simp only [List.length_cons] at hk; omega) (inv.set hr' hkn) hB' hK)

/-- the first e operations are copies of slots: they may be taken first, whatever comes -/
def earlyB (md : Region.Mode) (ops : Array Oper) : Nat → Nat → Array Bool → Bool
  | 0, _, _ => true
  | e + 1, k, listed => (match ops[k]? with | some ⟨_, .move _, _, _, _, none⟩ => true | _ => false) && (Region.ready md ops listed).contains k && Region.free md ops listed k && earlyB md ops e (k + 1) (listed.setIfInBounds k true)
def earlyL : Nat → Nat → Array Bool → Array Bool
  | 0, _, listed => listed
  | e + 1, k, listed => earlyL e (k + 1) (listed.setIfInBounds k true)
def earlyA : List Oper → Act → Act
  | ⟨d, .move x, _, _, _, _⟩ :: l, a => earlyA l (a.put d (a.eval x))
  | _ :: l, a => earlyA l a
  | [], a => a

def tailB (md : Region.Mode) (ops : Array Oper) (e n : Nat) : Bool :=
  Region.noSelect ops && decide (n < ops.size) && decide (e ≤ n) && sinkE md ops e n && Region.chainB md ops n && earlyB md ops e 0 (Array.replicate ops.size false) && Region.lexHead md ops (ops.size - n) (n - e) e (earlyL e 0 (Array.replicate ops.size false))

theorem wpAny_early {Q : Exit → Act → World → Prop} (hsel : Region.noSelect ops = true) (hQ : ∀ c a d v w, Q (.panic c) (a.put d v) w → Q (.panic c) a w) :
    ∀ (l : List Oper) (k fuel : Nat) (listed : Array Bool) (a : Act) (w : World), (∀ j, j < l.length → l[j]? = ops[k + j]?) → earlyB md ops l.length k listed = true →
      wpAny P md ops Q fuel (earlyL l.length k listed) (earlyA l a) w → wpAny P md ops Q (l.length + fuel) listed a w
  | [], _, fuel, _, _, _, _, _, h => by simpa [earlyL, earlyA] using h
  | o :: l, k, fuel, listed, a, w, hl, hB, h => by
    have h0 : ops[k]? = some o := by simpa using (hl 0 (by simp)).symm
    simp only [List.length_cons, earlyB, h0, Bool.and_eq_true] at hB
    obtain ⟨⟨⟨hm, hr⟩, hf⟩, hB'⟩ := hB
    obtain ⟨d, op, ty, pos, aft, gd⟩ := o
    cases gd <;> cases op <;> first | (simp at hm; done) | skip
    rename_i x
    rw [show (Oper.mk d (.move x) ty pos aft none :: l).length + fuel = (l.length + fuel) + 1 by simp only [List.length_cons]; omega]
    refine wpAny_take (oi := ⟨d, .move x, ty, pos, aft, none⟩) (v := a.eval x) h0 hsel hf hr (fun c a w h => hQ c a _ _ w h) (.inl ⟨by simp [Region.wanted], fun w => BigFrame.run_move (o := ⟨d, .move x, ty, pos, aft, none⟩) x rfl w⟩) ?_
    exact wpAny_early hsel hQ l (k + 1) fuel _ _ w (fun j hj => by have := hl (j + 1) (by simp; omega); simpa [Nat.add_assoc, Nat.add_comm 1 j] using this) hB' h

theorem inv_early {n : Nat} : ∀ (f k : Nat) (listed : Array Bool), k + f ≤ n → Inv md ops k n listed → earlyB md ops f k listed = true → Inv md ops (k + f) n (earlyL f k listed)
  | 0, _, _, _, inv, _ => inv
  | f + 1, k, listed, hk, inv, hB => by
    simp only [earlyB, Bool.and_eq_true] at hB
    obtain ⟨⟨⟨_, hr⟩, _⟩, hB'⟩ := hB
    have hr' : k ∈ Region.ready md ops listed := by simpa using hr
    have inv1 := inv.set hr' (by omega)
    have inv2 : Inv md ops (k + 1) n (listed.setIfInBounds k true) := by
      refine ⟨inv1.toHeadInv, fun j hj => ?_⟩
      by_cases h : j = k
      · subst h
        cases hs : (listed.setIfInBounds j true).getD j true with
        | true => rfl
        | false =>
          rcases Nat.lt_or_ge j listed.size with h' | h'
          · simp [h'] at hs
          · simp [h'] at hs
      · exact inv1.early j (by omega)
    have := inv_early f (k + 1) _ (by omega) inv2 hB'
    rw [show k + (f + 1) = k + 1 + f by omega]
    exact this

theorem wp_region_tail {id : Nat} {Q : Exit → Act → World → Prop} {a : Act} {w : World} {l : List Oper} (e n : Nat) (hm : P.follows .mixedOrders = true) (hB : tailB .any l.toArray e n = true)
    (hQ : ∀ c a d v w, Q (.panic c) (Act.put a d v) w → Q (.panic c) a w) (hC : C { w with drawn := w.drawn + 1 })
    (h : wpQuiet P l.toArray C (fun a' => ∀ w', C w' → wpList P l.toArray Q (l.drop n) a' w') ((l.take n).drop e) (earlyA (l.take e) a)) : (Code.region id l.toArray true).wp P Q a w := by
  simp only [tailB, Bool.and_eq_true, decide_eq_true_eq] at hB
  obtain ⟨⟨⟨⟨⟨⟨hsel, hn⟩, hen⟩, hs⟩, hc⟩, hearly⟩, hlex⟩ := hB
  have hn' : n < l.length := by simpa using hn
  have hte : (l.take e).length = e := by simp; omega
  have htl : ((l.take n).drop e).length = n - e := by simp; omega
  have hdl : (l.drop n).length = l.toArray.size - n := by simp
  have inv0 : Inv .any l.toArray 0 n (Array.replicate l.toArray.size false) :=
    ⟨⟨by simp, fun j oj _ hl => (by rw [getD_replicate_false] at hl; cases hl), fun t _ ht => getD_in (by simpa using ht) (getD_replicate_false _ _)⟩, fun k hk => by omega⟩
  have inv1 := inv_early e 0 _ (by omega) inv0 hearly
  rw [Nat.zero_add] at inv1
  have H := wpAnyH_lex (P := P) (C := C) (md := .any) (g := l.toArray.size - n) hsel hs hc ((l.take n).drop e) e _ (earlyA (l.take e) a) (fun j hj => by
    have hj' : j < n - e := by rw [htl] at hj; exact hj
    rw [List.getElem?_drop, List.getElem?_take, if_pos (by omega)]; simp) (by rw [htl]; omega) inv1 (by rw [htl]; exact hlex) h
  refine wp_region_any hm ?_
  have H2 := wpAny_of_headQ (Q' := Q) (g := l.toArray.size - n) (fun listed a' w' hw' hL => by
    obtain ⟨hq, hL⟩ := hL
    have := wpAny_of_seq (P := P) (Q' := Q) (md := .any) (l.drop n) n listed a' w' (fun j => by simp) (by rw [hdl]; exact hq) (hL w' hw')
    rw [hdl] at this
    exact this) _ _ _ _ hC H
  have H3 := wpAny_early (P := P) (Q := Q) hsel hQ (l.take e) 0 _ (Array.replicate l.toArray.size false) a { w with drawn := w.drawn + 1 } (fun j hj => by
    have hj' : j < e := by rw [hte] at hj; exact hj
    simp [hj']) (by rw [hte]; exact hearly) (by rw [hte]; exact H2)
  rw [hte, htl] at H3
  have hsz : e + (n - e + (l.toArray.size - n)) = l.toArray.size := by omega
  rw [hsz] at H3
  exact H3

/-- .. at the class of all worlds behind w with new blocks and draws -/
theorem wp_region_tail_below {id : Nat} {Q : Exit → Act → World → Prop} {a : Act} {w : World} {l : List Oper} (e n : Nat) (hm : P.follows .mixedOrders = true) (hB : tailB .any l.toArray e n = true)
    (hQ : ∀ c a d v w, Q (.panic c) (Act.put a d v) w → Q (.panic c) a w)
    (h : wpQuiet P l.toArray (fun w' => ∃ p : Regrown, w' = grow (redrawn w p.d) p.os) (fun a' => ∀ w', (∃ p : Regrown, w' = grow (redrawn w p.d) p.os) → wpList P l.toArray Q (l.drop n) a' w') ((l.take n).drop e) (earlyA (l.take e) a)) : (Code.region id l.toArray true).wp P Q a w :=
  wp_region_tail (C := fun w' => ∃ p : Regrown, w' = grow (redrawn w p.d) p.os) e n hm hB hQ ⟨⟨w.drawn + 1, #[]⟩, by rw [grow_empty]; rfl⟩ h

end
end Go.Proofs.YtlnaeppbhjmocaaDoor.Reg
namespace Go.Proofs.YtlnaeppbhjmocaaDoor.Reg
open Go Go.RowKit Go.Sort

section
variable {P : Program} {ops : Array Oper} {md : Region.Mode} {C S : World → Prop} {D : Nat} {Q : Exit → Act → World → Prop}

/-- whatever order is picked, and S holds until D has come up -/
def wpAnyT (P : Program) (md : Region.Mode) (ops : Array Oper) (Q : Exit → Act → World → Prop) (S : World → Prop) (D : Nat) : Nat → Array Bool → Act → World → Prop
  | 0, listed, a, w => Region.ready md ops listed = [] ∧ Q .normal a w
  | f + 1, listed, a, w =>
    (Region.ready md ops listed = [] → Q .normal a w) ∧
    ∀ i ∈ Region.ready md ops listed, wpOp P ops Q i (fun a' w' => ((listed.setIfInBounds i true).getD D true = false → S w') ∧ wpAnyT P md ops Q S D f (listed.setIfInBounds i true) a' w') a w

theorem wpAny_of_T : ∀ (f : Nat) (listed : Array Bool) (a : Act) (w : World), wpAnyT P md ops Q S D f listed a w → wpAny P md ops Q f listed a w
  | 0, _, _, _, h => h
  | f + 1, _, _, _, h => ⟨h.1, fun i hi => wpOp_mono (fun a' w' h' => wpAny_of_T f _ a' w' h'.2) (h.2 i hi)⟩

theorem getD_set_self {listed : Array Bool} {i : Nat} : (listed.setIfInBounds i true).getD i true = true := by
  rcases Nat.lt_or_ge i listed.size with h' | h'
  · simp [h']
  · simp [h']

def ClosedL (md : Region.Mode) (ops : Array Oper) (listed : Array Bool) : Prop := ∀ j oj, ops[j]? = some oj → listed.getD j false = true → ∀ e ∈ oj.after, Region.binds md e = true → listed.getD e.on false = true
theorem ClosedL.set {i : Nat} {listed : Array Bool} (inv : ClosedL md ops listed) (hi : i ∈ Region.ready md ops listed) : ClosedL md ops (listed.setIfInBounds i true) := by
  obtain ⟨_, oi, hoi, hall⟩ := mem_ready.1 hi
  intro j oj hj hl e he hb
  by_cases hij : i = j
  · subst hij
    have : oj = oi := Option.some.inj (hj.symm.trans hoi)
    subst this
    exact getD_set_true (hall e he hb)
  · rw [getD_set_ne false hij] at hl
    exact getD_set_true (inv j oj hj hl e he hb)
/-- D waits for i, or for one that does, and so on -/
def reach (md : Region.Mode) (ops : Array Oper) : Nat → Nat → Nat → Bool
  | 0, D, i => Region.waitsFor md ops D i
  | f + 1, D, i => Region.waitsFor md ops D i || (List.range ops.size).any fun j => Region.waitsFor md ops D j && reach md ops f j i
def Waits (md : Region.Mode) (ops : Array Oper) (D i : Nat) : Prop := ∃ f, reach md ops f D i = true
theorem reach_listed {listed : Array Bool} (hc : ClosedL md ops listed) : ∀ (f D i : Nat), reach md ops f D i = true → listed.getD D false = true → listed.getD i false = true := by
  have one : ∀ D i, Region.waitsFor md ops D i = true → listed.getD D false = true → listed.getD i false = true := fun D i h hD => by
    obtain ⟨oj, hoj, e, he, hb, hon⟩ := Region.waitsFor_spec h
    have h4 := hc D oj hoj hD e he hb
    rwa [hon] at h4
  intro f
  induction f with
  | zero => intro D i h hD; exact one D i h hD
  | succ f ih =>
    intro D i h hD
    simp only [reach, Bool.or_eq_true, List.any_eq_true, Bool.and_eq_true] at h
    rcases h with h | ⟨j, _, h1, h2⟩
    · exact one D i h hD
    · exact ih j i h2 (one D j h1 hD)
theorem Waits.not_ready {D i : Nat} {listed : Array Bool} (h : Waits md ops D i) (hc : ClosedL md ops listed) (hun : listed.getD i true = false) : D ∉ Region.ready md ops listed := fun hr => by
  obtain ⟨_, oD, hoD, hall⟩ := mem_ready.1 hr
  have one : ∀ j, Region.waitsFor md ops D j = true → listed.getD j false = true := fun j h => by
    obtain ⟨oj, hoj, e, he, hb, hon⟩ := Region.waitsFor_spec h
    have : oj = oD := Option.some.inj (hoj.symm.trans hoD)
    subst this
    have h3 := hall e he hb
    rwa [hon] at h3
  have key : listed.getD i false = true := by
    obtain ⟨f, h⟩ := h
    cases f with
    | zero => exact one i h
    | succ f =>
      simp only [reach, Bool.or_eq_true, List.any_eq_true, Bool.and_eq_true] at h
      rcases h with h | ⟨j, _, h1, h2⟩
      · exact one i h
      · exact reach_listed hc f j i h2 (one j h1)
  rw [getD_both hun] at key
  cases key

theorem wpAnyT_first {i : Nat} {oi : Oper} {v : Value} (hi : ops[i]? = some oi) (hw : Waits md ops D i) (hiD : i ≠ D)
    (hsel : ∀ (j : Nat) (o : Oper) cs b, ops[j]? = some o → o.op ≠ .select cs b) (hQ : ∀ c a w, Q (.panic c) (Act.put a oi.dst v) w → Q (.panic c) a w) :
    ∀ (f : Nat) (listed : Array Bool) (a : Act) (w : World),
      (∀ j oj, ops[j]? = some oj → j ≠ i → listed.getD j true = false → (∀ e ∈ oj.after, Region.binds md e = true → e.on ≠ i) → oi.apart ops oj = true) →
      i ∈ Region.ready md ops listed → ClosedL md ops listed → listed.getD D true = false → YieldsIf P ops S oi v a → S w →
      wpAnyT P md ops Q S D f (listed.setIfInBounds i true) (a.put oi.dst v) w → wpAnyT P md ops Q S D (f + 1) listed a w := by
  intro f
  induction f with
  | zero =>
    intro listed a w _ hr _ hD hy hS H
    refine ⟨fun h => (by rw [h] at hr; cases hr), fun j hj => ?_⟩
    by_cases hji : j = i
    · subst hji; exact hy.wpOp hi hS ⟨fun _ => hS, H⟩
    · have := ready_mono hj hji
      rw [H.1] at this
      cases this
  | succ f ih =>
    intro listed a w hfree hr hcl hD hy hS H
    have hun := (mem_ready.1 hr).1
    refine ⟨fun h => (by rw [h] at hr; cases hr), fun j hj => ?_⟩
    by_cases hji : j = i
    · subst hji; exact hy.wpOp hi hS ⟨fun _ => hS, H⟩
    · have h1 := H.2 j (ready_mono hj hji)
      obtain ⟨hjun, oj, hoj, hall⟩ := mem_ready.1 hj
      have hnot : ∀ e ∈ oj.after, Region.binds md e = true → e.on ≠ i := fun e he hb heq => by
        have h1 := hall e he hb
        rw [heq, getD_both hun] at h1
        cases h1
      have hjD : j ≠ D := fun e => by
        subst e
        exact hw.not_ready hcl hun hj
      have h2 := wpOp_putIf (S := S) hoj (hfree j oj hoj hji hjun hnot) (fun cs b => hsel i oi cs b hi) (fun cs b => hsel j oj cs b hoj) hQ hy h1
      have hfree' : ∀ k ok, ops[k]? = some ok → k ≠ i → (listed.setIfInBounds j true).getD k true = false →
          (∀ e ∈ ok.after, Region.binds md e = true → e.on ≠ i) → oi.apart ops ok = true := fun k ok hk hki hun hno => by
        refine hfree k ok hk hki ?_ hno
        by_cases hjk : j = k
        · subst hjk; exact hjun
        · rw [getD_set_ne true hjk] at hun; exact hun
      have hD' : (listed.setIfInBounds j true).getD D true = false := by rw [getD_set_ne true hjD]; exact hD
      have hD'' : ((listed.setIfInBounds i true).setIfInBounds j true).getD D true = false := by rw [getD_set_ne true hjD, getD_set_ne true hiD]; exact hD
      refine wpOp_mono (fun a' w' h3 => ?_) h2
      obtain ⟨hy', hS', h4⟩ := h3
      have hS'' := hS' hD''
      refine ⟨fun _ => hS'', ih (listed.setIfInBounds j true) a' w' hfree' (ready_mono hr (Ne.symm hji)) (hcl.set hj) hD' hy' hS'' ?_⟩
      rw [Array.setIfInBounds_comm _ _ hji]
      exact h4

end
end Go.Proofs.YtlnaeppbhjmocaaDoor.Reg
namespace Go.Proofs.YtlnaeppbhjmocaaDoor.Reg
open Go Go.RowKit Go.Sort

section
variable {P : Program} {ops : Array Oper} {md : Region.Mode} {S : World → Prop} {D : Nat} {Q : Exit → Act → World → Prop}

def lateL : List Nat → Array Bool → Array Bool
  | [], listed => listed
  | k :: qs, listed => lateL qs (listed.setIfInBounds k true)
def lateT (md : Region.Mode) (ops : Array Oper) (D : Nat) : List Nat → Array Bool → Bool
  | [], _ => true
  | k :: qs, listed => decide (k ≠ D) && reach md ops 6 D k && (Region.ready md ops listed).contains k && Region.free md ops listed k && lateT md ops D qs (listed.setIfInBounds k true)
def seqI (md : Region.Mode) (ops : Array Oper) : List Nat → Array Bool → Bool
  | [], listed => decide (Region.ready md ops listed = [])
  | k :: rest, listed => decide (Region.ready md ops listed = [k]) && seqI md ops rest (listed.setIfInBounds k true)
def wpLateT (P : Program) (ops : Array Oper) (S : World → Prop) (K : Act → Prop) : List Nat → Act → Prop
  | [], a => K a
  | k :: qs, a => ∃ o, ops[k]? = some o ∧ ∃ v, YieldsIf P ops S o v a ∧ wpLateT P ops S K qs (a.put o.dst v)
def wpMainT (P : Program) (ops : Array Oper) (Q : Exit → Act → World → Prop) (S : World → Prop) (D : Nat) : List Nat → Act → World → Prop
  | [], a, w => Q .normal a w
  | k :: rest, a, w => wpOp P ops Q k (fun a' w' => (k = D ∨ S w') ∧ wpMainT P ops Q S D rest a' w') a w

theorem wpAnyT_main : ∀ (rest : List Nat) (listed : Array Bool) (a : Act) (w : World), seqI md ops rest listed = true → wpMainT P ops Q S D rest a w → wpAnyT P md ops Q S D rest.length listed a w
  | [], _, _, _, hB, h => ⟨by simpa [seqI] using hB, h⟩
  | k :: rest, listed, a, w, hB, h => by
    simp only [seqI, Bool.and_eq_true, decide_eq_true_eq] at hB
    refine ⟨fun h1 => (by rw [hB.1] at h1; cases h1), fun i hi => ?_⟩
    rw [hB.1] at hi
    have hik : i = k := by simpa using hi
    subst hik
    refine wpOp_mono (fun a' w' h' => ⟨fun hD => h'.1.resolve_left (fun e => ?_), wpAnyT_main rest _ a' w' hB.2 h'.2⟩) h
    subst e
    rw [getD_set_self] at hD
    cases hD

theorem wpAnyT_late {K : Act → Prop} (hsel : Region.noSelect ops = true) (hQ : ∀ c a d v w, Q (.panic c) (Act.put a d v) w → Q (.panic c) a w) :
    ∀ (qs : List Nat) (fuel : Nat) (listed : Array Bool) (a : Act) (w : World), lateT md ops D qs listed = true → ClosedL md ops listed → listed.getD D true = false → S w →
      (∀ a', K a' → wpAnyT P md ops Q S D fuel (lateL qs listed) a' w) → wpLateT P ops S K qs a → wpAnyT P md ops Q S D (qs.length + fuel) listed a w
  | [], fuel, _, a, _, _, _, _, _, hK, h => by simpa [lateL] using hK a h
  | k :: qs, fuel, listed, a, w, hB, hcl, hD, hS, hK, h => by
    obtain ⟨o, h0, v, hy, h⟩ := h
    simp only [lateT, Bool.and_eq_true, decide_eq_true_eq] at hB
    obtain ⟨⟨⟨⟨hkD, hwt⟩, hr⟩, hf⟩, hB'⟩ := hB
    have hwt' : Waits md ops D k := ⟨6, hwt⟩
    rw [show (k :: qs).length + fuel = (qs.length + fuel) + 1 by simp only [List.length_cons]; omega]
    refine wpAnyT_first h0 hwt' hkD (Region.noSelect_spec hsel) (fun c a w h => hQ c a _ _ w h) _ listed a w (Region.free_spec h0 hf) (by simpa using hr) hcl hD hy hS ?_
    exact wpAnyT_late hsel hQ qs fuel _ _ w hB' (hcl.set (by simpa using hr)) (by rw [getD_set_ne true hkD]; exact hD) hS hK h

def lateB (md : Region.Mode) (ops : Array Oper) (D : Nat) (qs rest : List Nat) : Bool :=
  Region.noSelect ops && decide (D < ops.size) && decide (qs.length + rest.length = ops.size) && lateT md ops D qs (Array.replicate ops.size false) && seqI md ops rest (lateL qs (Array.replicate ops.size false))

theorem wp_region_late {id : Nat} {a : Act} {w : World} (S : World → Prop) (D : Nat) (qs rest : List Nat) (hm : P.follows .mixedOrders = true) (hB : lateB .any ops D qs rest = true) (hS : S w.drew)
    (h : wpLateT P ops S (fun a' => wpMainT P ops (NoPanic Q) S D rest a' w.drew) qs a) : (Code.region id ops true).wp P Q a w := by
  simp only [lateB, Bool.and_eq_true, decide_eq_true_eq] at hB
  obtain ⟨⟨⟨⟨hsel, hD⟩, hsz⟩, hlate⟩, hseq⟩ := hB
  refine wp_region_noPanic (wp_region_any hm (wpAny_of_T (S := S) (D := D) _ _ _ _ ?_))
  rw [← hsz]
  refine wpAnyT_late (md := .any) hsel (fun _ _ _ _ _ h => h) qs rest.length _ a _ ?_ ?_ ?_ hS (fun a' h' => wpAnyT_main rest _ a' _ ?_ h') h
  · rw [hsz]; exact hlate
  · rw [hsz]
    intro j oj _ hl
    rw [getD_replicate_false] at hl; cases hl
  · rw [hsz]
    exact getD_in (by simpa using hD) (getD_replicate_false _ _)
  · rw [hsz]; exact hseq

theorem wpLateT_step {k : Nat} {qs : List Nat} {a : Act} {o : Oper} {v : Value} {K : Act → Prop} (ho : ops[k]? = some o) (hw : Region.wanted o (yielded ops a.tmps) = true) (hr : ∀ w, S w → (execOp a.eval o).run P w = .ok (.value v) w) (h : wpLateT P ops S K qs (a.put o.dst v)) : wpLateT P ops S K (k :: qs) a :=
  ⟨o, ho, v, .inl ⟨hw, hr⟩, h⟩
/-- one step of the forced order, by its run -/
theorem wpOp_run {k : Nat} {o : Oper} {v : Value} {a : Act} {w w' : World} {K : Act → World → Prop} (ho : ops[k]? = some o) (hw : Region.wanted o (yielded ops a.tmps) = true) (hr : (execOp a.eval o).run P w = .ok (.value v) w') (h : K (a.put o.dst v) w') : wpOp P ops Q k K a w := by
  unfold wpOp
  simp only [ho, hw, if_true]
  left
  unfold Oper.wp
  rw [hr]
  exact h
theorem wpOp_skip {k : Nat} {o : Oper} {a : Act} {w w' : World} {K : Act → World → Prop} (ho : ops[k]? = some o) (hw : Region.wanted o (yielded ops a.tmps) = true) (hr : (execOp a.eval o).run P w = .ok .skip w') (h : K (a.put o.dst undef) w') : wpOp P ops Q k K a w := by
  unfold wpOp
  simp only [ho, hw, if_true]
  left
  unfold Oper.wp
  rw [hr]
  exact h
theorem wpMainT_run {k : Nat} {rest : List Nat} {o : Oper} {v : Value} {a : Act} {w w' : World} (ho : ops[k]? = some o) (hw : Region.wanted o (yielded ops a.tmps) = true) (hr : (execOp a.eval o).run P w = .ok (.value v) w') (hS : k = D ∨ S w') (h : wpMainT P ops Q S D rest (a.put o.dst v) w') : wpMainT P ops Q S D (k :: rest) a w :=
  wpOp_run ho hw hr ⟨hS, h⟩
theorem wpMainT_skip {k : Nat} {rest : List Nat} {o : Oper} {a : Act} {w w' : World} (ho : ops[k]? = some o) (hw : Region.wanted o (yielded ops a.tmps) = true) (hr : (execOp a.eval o).run P w = .ok .skip w') (hS : k = D ∨ S w') (h : wpMainT P ops Q S D rest (a.put o.dst undef) w') : wpMainT P ops Q S D (k :: rest) a w :=
  wpOp_skip ho hw hr ⟨hS, h⟩
theorem wpMainT_append {k : Nat} {rest : List Nat} {o : Oper} {a : Act} {w : World} (hk : ops[k]? = some o) (hgd : o.guard = none) (s x : Operand) (t1 t2 : TypeId)
    (ho : o.op = .call { callee := .builtin .append, args := #[s, x], argTypes := #[t1, t2] }) {v u v' : Value} {w' : World} (hs : a.eval s = v) (hx : a.eval x = u)
    (hr : (Builtin.append_ #[t1, t2] o.type #[v, u]).run P w = .ok v' w') (hS : k = D ∨ S w') (h : wpMainT P ops Q S D rest (a.put o.dst v') w') : wpMainT P ops Q S D (k :: rest) a w := by
  have hw : Region.wanted o (yielded ops a.tmps) = true := by simp [Region.wanted, hgd]
  refine wpOp_run hk hw ?_ ⟨hS, h⟩
  unfold execOp
  simp only [ho, resolve, invoke, builtin, Sem.run_bind, Sem.run_pure, Result.andThen_ok, List.map_toArray, List.map_cons, List.map_nil, hs, hx, hr]
theorem wpMainT_nil {a : Act} {w : World} (h : Q .normal a w) : wpMainT P ops (NoPanic Q) S D [] a w := NoPanic.normal h
end
end Go.Proofs.YtlnaeppbhjmocaaDoor.Reg
namespace Go.Proofs.YtlnaeppbhjmocaaDoor
open Go.RowKit Go.Proofs

theorem var_below {P : Program} {w w' : World} {n : String} {g : Nat} {cs : Array Value} (hg : P.globalNamed n = some g) (hb : Below w.heap.size w w') (h : w.var? P n = some cs) : w'.var? P n = some cs := by
  have hlt : g < w.heap.size := by
    simp only [World.var?, hg, Option.bind_some] at h
    split at h
    · rename_i heq; exact (Array.getElem?_eq_some_iff.1 heq).1
    · cases h
  exact var?_below hb hg hlt h

def foursTab : Array Value := #[.int .u32 0, .int .u32 498536548, .int .u32 997073096, .int .u32 651767980, .int .u32 1994146192, .int .u32 1802195444, .int .u32 1303535960, .int .u32 1342533948, .int .u32 3988292384, .int .u32 4027552580, .int .u32 3604390888, .int .u32 3412177804, .int .u32 2607071920, .int .u32 2262029012, .int .u32 2685067896, .int .u32 3183342108]

/-- the package-level tables are as laid -/
structure Ok (w : World) : Prop where
  fours : w.var? Tryd.prog "shale/words.fours" = some foursTab

theorem gFours : Tryd.prog.globalNamed "shale/words.fours" = some 0 := by kernel_rfl

theorem Ok.below {w w' : World} (h : Ok w) (hb : Below w.heap.size w w') : Ok w' where
  fours := var_below gFours hb h.fours

/-- w' is w with new blocks and draws; all is laid as it was. -/
structure Fr (w w' : World) : Prop where
  below : Below w.heap.size w w'
  ok : Ok w'

theorem Fr.refl {w : World} (h : Ok w) : Fr w w := ⟨Below.refl _ _, h⟩
theorem Fr.trans {a b c : World} (h : Fr a b) (k : Fr b c) : Fr a c := ⟨h.below.trans (k.below.mono h.below.size), k.ok⟩
theorem Fr.of {w w' : World} (h : Ok w) (hb : Below w.heap.size w w') : Fr w w' := ⟨hb, h.below hb⟩
theorem Fr.alloc {a w : World} (h : Fr a w) (o : Obj) : Fr a (w.alloc o) := h.trans (Fr.of h.ok ((Below.refl _ _).alloc (Nat.le_refl _) _))
theorem Fr.drew {a w : World} (h : Fr a w) : Fr a w.drew := h.trans (Fr.of h.ok (Below.refl _ _).drew)
theorem Fr.cell {w w' : World} (h : Fr w w') {p : Addr} {v : Value} (hc : w.cell? p = some v) : w'.cell? p = some v :=
  (h.below.cell (World.block_lt_of_cell? w p hc)).trans hc
theorem Fr.size {w w' : World} (h : Fr w w') : w.heap.size ≤ w'.heap.size := h.below.size
theorem Fr.heap {w w' : World} (h : Fr w w') {k : Nat} {o : Obj} (hk : w.heap[k]? = some o) : w'.heap[k]? = some o :=
  (h.below.block k (Array.getElem?_eq_some_iff.1 hk).1).trans hk
theorem Fr.grown {w : World} (h : Ok w) {w' : World} (hw : ∃ k os, w' = Sort.grow (w.drewN k) os) : Fr w w' := by
  obtain ⟨k, os, rfl⟩ := hw
  refine Fr.of h ⟨rfl, rfl, rfl, by simp [Sort.grow], fun i hi => ?_⟩
  simp [Sort.grow, Array.getElem?_append, hi]
theorem Fr.regrown {w w' : World} (h : Ok w) (hw : ∃ p : Regrown, w' = Sort.grow (redrawn w p.d) p.os) : Fr w w' := by
  obtain ⟨p, rfl⟩ := hw; exact Fr.of h (below_regrown w p.d p.os)
theorem okR {w : World} (h : Ok w) (d : Nat) (os : Array Obj) : Ok (Sort.grow (redrawn w d) os) := h.below (below_regrown w d os)
theorem qfr {P : Program} {f : FuncId} {args : Array Value} {w : World} {d : Nat} {os : Array Obj} {v : Value}
    (h : Calls P f args (Sort.grow (redrawn w d) os) fun e w' => e = .returned v ∧ Fr (Sort.grow (redrawn w d) os) w') : Calls P f args (Sort.grow (redrawn w d) os) fun e w'' => e = .returned v ∧ ∃ p : Regrown, w'' = Sort.grow (redrawn w p.d) p.os :=
  Calls.regrown_of (h.mono fun _ _ ⟨he, hb⟩ => ⟨he, hb.below⟩)

theorem boxedN {w : World} (h : Ok w) (cs : Array Value) (t : TypeId) : ∃ w1 g, w.heap.size = g ∧ w.alloc (.cells cs t) = w1 ∧ Fr w w1 ∧ g < w1.heap.size ∧ w1.heap[g]? = some (.cells cs t (0, 0)) :=
  ⟨_, _, rfl, rfl, (Fr.refl h).alloc _, by simp, heap_alloc_new w _⟩
theorem blk_cell {g j : Nat} {w : World} {cs : Array Value} {t : TypeId} {fz : Nat × Nat} {v : Value} (hg : w.heap[g]? = some (.cells cs t fz)) (hj : cs[j]? = some v) : w.cell? ⟨g, j, none⟩ = some v := by
  simp [World.cell?, hg, hj]
theorem blk3 {w : World} {g : Nat} {v0 v1 v2 : Value} {t : TypeId} {fz : Nat × Nat} (h : w.heap[g]? = some (.cells #[v0, v1, v2] t fz)) : w.cell? ⟨g, 0, none⟩ = some v0 ∧ w.cell? ⟨g, 1, none⟩ = some v1 ∧ w.cell? ⟨g, 2, none⟩ = some v2 :=
  ⟨blk_cell h rfl, blk_cell h rfl, blk_cell h rfl⟩
theorem blk6 {w : World} {g : Nat} {v0 v1 v2 v3 v4 v5 : Value} {t : TypeId} {fz : Nat × Nat} (h : w.heap[g]? = some (.cells #[v0, v1, v2, v3, v4, v5] t fz)) : w.cell? ⟨g, 0, none⟩ = some v0 ∧ w.cell? ⟨g, 1, none⟩ = some v1 ∧ w.cell? ⟨g, 2, none⟩ = some v2 ∧ w.cell? ⟨g, 3, none⟩ = some v3 ∧ w.cell? ⟨g, 4, none⟩ = some v4 ∧ w.cell? ⟨g, 5, none⟩ = some v5 :=
  ⟨blk_cell h rfl, blk_cell h rfl, blk_cell h rfl, blk_cell h rfl, blk_cell h rfl, blk_cell h rfl⟩
theorem blk_alloc {w : World} (o : Obj) : (w.alloc o).heap[w.heap.size]? = some o := heap_alloc_new w o

def U64 (n : Int) : Prop := 0 ≤ n ∧ n ≤ 18446744073709551615

theorem bs_size (l : List UInt8) : (⟨l.toArray⟩ : ByteArray).size = l.length := by simp [ByteArray.size]
/- rows of the call's own that are appended to -/
theorem Fr.row {w W W' : World} (f : Fr w W) (hw : Ok w) {row : Option Nat} (hg : W.grownBy W' row) (hr : ∀ k, row = some k → w.heap.size ≤ k) : Fr w W' := Fr.of hw (f.below.grown hg f.size hr)
theorem own_fr {W W' : World} {base size n : Nat} {e : TypeId} {v : Value} {xs : List Value} (h : W.ownsRow base e size v n xs) (q : Fr W W') : W'.ownsRow base e size v n xs :=
  h.kept (row := none) ⟨q.below.os, q.below.tape, q.below.output, q.below.size, fun k hk _ => q.below.block k hk⟩ (by cases v.ownBlock <;> simp)
theorem own_base' {W : World} {base size n : Nat} {e : TypeId} {v : Value} {xs : List Value} (h : W.ownsRow base e size v n xs) : ∀ k, v.ownBlock = some k → base ≤ k := fun k hk => (h.lt k hk).1

end Go.Proofs.YtlnaeppbhjmocaaDoor
set_option linter.unusedSimpArgs false
set_option linter.unusedVariables false
namespace Go.Proofs.YtlnaeppbhjmocaaDoor
open Go.RowKit Go.Proofs Go.Proofs.YtlnaeppbhjmocaaDoorW.PrintWords Go.Proofs.YtlnaeppbhjmocaaDoorW.PrintMore

/-- cells that lie in a row, k of each -/
def Row (w : World) (A : Option Addr) (k : Nat) (cells : List (List Value)) : Prop :=
  cells = [] ∨ ∃ g o, A = some ⟨g, o, none⟩ ∧ g < w.heap.size ∧ ∀ i c, cells[i]? = some c → ∀ j v, j < k → c[j]? = some v → w.cell? ⟨g, o + i * k + j, none⟩ = some v
theorem Row.fr {w w' : World} {A : Option Addr} {k : Nat} {cells : List (List Value)} (h : Row w A k cells) (q : Fr w w') : Row w' A k cells := by
  rcases h with h | ⟨g, o, hA, hg, h⟩
  · exact .inl h
  · exact .inr ⟨g, o, hA, Nat.lt_of_lt_of_le hg q.size, fun i c hi j v hj hv => q.cell (h i c hi j v hj hv)⟩
def le (x : Int) : Nat → List Int
  | 0 => []
  | n + 1 => x % 256 :: le (x / 256) n
theorem le_length (x : Int) (n : Nat) : (le x n).length = n := by
  induction n generalizing x with
  | zero => rfl
  | succ n ih => simp [le, ih]
theorem le_mem (x : Int) (n : Nat) : ∀ b ∈ le x n, 0 ≤ b ∧ b ≤ 255 := by
  induction n generalizing x with
  | zero => simp [le]
  | succ n ih =>
    intro b hb
    simp only [le, List.mem_cons] at hb
    rcases hb with rfl | hb
    · omega
    · exact ih _ b hb
def bytesI (s : ByteArray) : List Int := s.data.toList.map fun c => (c.toNat : Int)
theorem u64_in {x : Int} (h : U64 x) : IntKind.u64.wrap x = x := IntWalk.u64_in x h
theorem bytesI_length (s : ByteArray) : (bytesI s).length = s.size := by simp [bytesI]
/-- a row of bytes of the call's own -/
def OwnB (w : World) (B : Nat) (v : Value) (xs : List Int) : Prop := w.ownsRow B 5 1 v xs.length (xs.map (Value.int .u8))
theorem OwnB.fr {w w' : World} {B : Nat} {v : Value} {xs : List Int} (h : OwnB w B v xs) (q : Fr w w') : OwnB w' B v xs := by
  refine World.ownsRow.kept (row := none) h ⟨q.below.os, q.below.tape, q.below.output, q.below.size, fun k hk _ => q.below.block k hk⟩ (by cases v.ownBlock <;> simp)
theorem OwnB.low {w : World} {B B' : Nat} {v : Value} {xs : List Int} (h : OwnB w B v xs) (hb : B' ≤ B) : OwnB w B' v xs := by
  obtain ⟨h1, h2⟩ := h
  refine ⟨h1, ?_⟩
  rcases h2 with h2 | ⟨g, cap, cur, hv, hg, r⟩
  · exact .inl h2
  · exact .inr ⟨g, cap, cur, hv, by omega, r⟩
theorem OwnB.ofR {w : World} {B : Nat} {ok : Nat → Prop} {v : Value} {xs : List Int} (h : Kd.R (Kd.int .u8) 5 w B ok v xs) : OwnB w B v xs := Kd.own_of_R h
theorem OwnB.nil (w : World) (B : Nat) : OwnB w B (.slice none 0 0) [] := ⟨by simp, .inl ⟨rfl, rfl⟩⟩
theorem OwnB.form {w : World} {B : Nat} {v : Value} {xs : List Int} (h : OwnB w B v xs) : ∃ a c, v = .slice a xs.length c := by
  rcases h.2 with ⟨hv, h0⟩ | ⟨g, cap, cur, hv, _⟩
  · rw [h0]; exact ⟨none, 0, hv⟩
  · exact ⟨_, cap, hv⟩
theorem OwnB.blk {w : World} {B : Nat} {v : Value} {xs : List Int} (h : OwnB w B v xs) (hp : 0 < xs.length) : ∃ g c, v = .slice (some ⟨g, 0, none⟩) xs.length c ∧ B ≤ g ∧ g < w.heap.size := by
  obtain ⟨g, c, he, hb, hl⟩ := World.ownsRow.form h hp
  exact ⟨g, c, he, hb, hl⟩
theorem OwnB.cellAt {w : World} {B g n c : Nat} {xs : List Int} (h : OwnB w B (.slice (some ⟨g, 0, none⟩) n c) xs) (j : Nat) (hj : j < xs.length) : w.cell? ⟨g, j, none⟩ = some (.int .u8 xs[j]) := by
  have hn : n = xs.length := by obtain ⟨a, c', he⟩ := h.form; injection he
  subst hn
  rw [World.ownsRow.cellAt h j (by omega)]
  simp [hj]
theorem OwnB.frozen {w : World} {B g n c : Nat} {xs : List Int} (h : OwnB w B (.slice (some ⟨g, 0, none⟩) n c) xs) (j : Nat) : w.frozen? ⟨g, j, none⟩ = false := by
  have hn : n = xs.length := by obtain ⟨a, c', he⟩ := h.form; injection he
  subst hn
  exact World.ownsRow.frozenAt h j
theorem grown_trans {a b c : World} {r : Option Nat} (h : a.grownBy b r) (k : b.grownBy c r) : a.grownBy c r :=
  ⟨k.os.trans h.os, k.tape.trans h.tape, k.output.trans h.output, Nat.le_trans h.size k.size, fun i hi hn => (k.block i (Nat.lt_of_lt_of_le hi h.size) hn).trans (h.block i hi hn)⟩
theorem grown_refl (a : World) (r : Option Nat) : a.grownBy a r := ⟨rfl, rfl, rfl, Nat.le_refl _, fun _ _ _ => rfl⟩
theorem OwnB.toC {w : World} {B : Nat} {A : Option Addr} {n c : Nat} {xs : List Int} (h : OwnB w B (.slice A n c) xs) : n = xs.length ∧ xs.length ≤ c ∧ Kd.C (Kd.int .u8) w A xs.length xs := by
  have hR : Kd.R (Kd.int .u8) 5 w B (fun _ => True) (.slice A n c) xs := Kd.R_of_own h (fun _ _ => trivial)
  obtain ⟨A', c', he, hl, hC⟩ := Kd.R_reads hR
  injection he with e1 e2 e3
  subst e1; subst e2; subst e3
  exact ⟨rfl, hl, hC⟩
theorem own_ne {w : World} {B : Nat} {v : Value} {xs : List Int} (h : OwnB w B v xs) {g : Nat} {cs : Array Value} {t : TypeId} (hg : w.heap[g]? = some (.cells cs t (0, 0))) (ht : 5 ≠ t) : some g ≠ v.ownBlock := by
  rintro e
  rcases h.2 with ⟨rfl, _⟩ | ⟨g', cap, cur, rfl, _, hg', _⟩
  · cases e
  · injection e with e
    subst e
    rw [hg] at hg'
    injection hg' with h1
    injection h1 with _ h2
    exact ht h2.symm
theorem grown_blk' {w w' : World} {r : Option Nat} (q : w.grownBy w' r) {g : Nat} {o : Obj} (hg : w.heap[g]? = some o) (hr : some g ≠ r) : w'.heap[g]? = some o :=
  (q.block g (Array.getElem?_eq_some_iff.1 hg).1 hr).trans hg
theorem info_byte : ∃ i, Tryd.prog.info? 5 = some i ∧ i.zero = some (.int .u8 0) ∧ i.size = 1 ∧ i.bytes = 1 := by
  have : (Tryd.prog.info? 5).map (fun i => (i.zero, i.size, i.bytes)) = some (some (.int .u8 0), 1, 1) := by kernel_rfl
  obtain ⟨i, hi, he⟩ := Option.map_eq_some_iff.1 this
  injection he with e1 e2
  injection e2 with e2 e3
  exact ⟨i, hi, e1, e2, e3⟩
theorem OwnB.lt {w : World} {B : Nat} {v : Value} {xs : List Int} (h : OwnB w B v xs) {k : Nat} (hk : v.ownBlock = some k) : B ≤ k ∧ k < w.heap.size := World.ownsRow.lt h k hk
theorem frR2 {w : World} (h : Ok w) (d : Nat) (os : Array Obj) : Fr w (Sort.grow (redrawn w d) os) := Fr.regrown h ⟨⟨d, os⟩, rfl⟩
theorem flat_length {k : Nat} : ∀ {cells : List (List Value)}, (∀ c ∈ cells, c.length = k) → cells.flatten.length = cells.length * k
  | [], _ => by simp
  | c :: cs, h => by
    rw [List.flatten_cons, List.length_append, h c List.mem_cons_self, flat_length (fun c hc => h c (List.mem_cons_of_mem _ hc)), List.length_cons, Nat.add_mul]; omega
theorem flat_get {k : Nat} : ∀ {cells : List (List Value)} (_ : ∀ c ∈ cells, c.length = k) {i j : Nat} {c : List Value} (_ : cells[i]? = some c) (_ : j < k), cells.flatten[i * k + j]? = c[j]?
  | [], _, i, _, _, h, _ => by simp at h
  | x :: cs, hl, 0, j, c, h, hj => by
    simp at h; subst h
    rw [List.flatten_cons, Nat.zero_mul, Nat.zero_add, List.getElem?_append_left (by rw [hl x List.mem_cons_self]; exact hj)]
  | x :: cs, hl, i + 1, j, c, h, hj => by
    have hx := hl x List.mem_cons_self
    rw [List.flatten_cons, List.getElem?_append_right (by rw [hx, Nat.add_mul]; omega), hx, show (i + 1) * k + j - k = i * k + j by rw [Nat.add_mul]; omega]
    exact flat_get (fun c hc => hl c (List.mem_cons_of_mem _ hc)) (by simpa using h) hj
theorem own_Row {w : World} {base n cap k g : Nat} {e : TypeId} {cells : List (List Value)} {xs : List Value} (hl : ∀ c ∈ cells, c.length = k) (h : w.ownsRow base e k (.slice (some ⟨g, 0, none⟩) n cap) n (cells.flatten ++ xs)) : Row w (some ⟨g, 0, none⟩) k cells := by
  have hg := h.lt g rfl
  refine .inr ⟨g, 0, rfl, hg.2, fun i c hi j v hj hv => ?_⟩
  have h1 : i < cells.length := (List.getElem?_eq_some_iff.1 hi).1
  have h2 : i * k + j < cells.length * k := by
    have : (i + 1) * k ≤ cells.length * k := Nat.mul_le_mul_right _ h1
    rw [Nat.add_mul] at this; omega
  have := h.cells (g := g) rfl (i * k + j) v (by rw [List.getElem?_append_left (by rw [flat_length hl]; exact h2), flat_get hl hi hj]; exact hv)
  rw [Lib.add_plain] at this
  rw [← this]; congr 2; omega
theorem own_ne2 {w : World} {b1 b2 s1 s2 n1 n2 : Nat} {e1 e2 : TypeId} {v1 v2 : Value} {x1 x2 : List Value} (h1 : w.ownsRow b1 e1 s1 v1 n1 x1) (h2 : w.ownsRow b2 e2 s2 v2 n2 x2) (hne : e1 ≠ e2) : v1.ownBlock = none ∨ v1.ownBlock ≠ v2.ownBlock := by
  rcases h1.2 with ⟨rfl, _⟩ | ⟨g, cap, cur, rfl, _, hg, _⟩
  · exact .inl rfl
  · right
    rcases h2.2 with ⟨rfl, _⟩ | ⟨g', cap', cur', rfl, _, hg', _⟩
    · simp [Value.ownBlock]
    · intro e
      injection e with e
      dsimp only at e
      subst e
      rw [hg] at hg'
      injection hg' with hg'
      injection hg' with _ h3
      exact hne h3
theorem own_ne3 {w : World} {B size n : Nat} {e : TypeId} {v : Value} {xs : List Value} (h : w.ownsRow B e size v n xs) {g : Nat} {cs : Array Value} {t : TypeId} (hg : w.heap[g]? = some (.cells cs t (0, 0))) (ht : e ≠ t) : some g ≠ v.ownBlock := by
  rintro e'
  rcases h.2 with ⟨rfl, _⟩ | ⟨g', cap, cur, rfl, _, hg', _⟩
  · cases e'
  · injection e' with e'
    subst e'
    rw [hg] at hg'
    injection hg' with hg'
    injection hg' with _ h3
    exact ht h3.symm
theorem own_form {w : World} {B size n : Nat} {e : TypeId} {v : Value} {xs : List Value} (h : w.ownsRow B e size v n xs) : ∃ a c, v = .slice a n c := by
  rcases h.2 with ⟨hv, h0⟩ | ⟨g, cap, cur, hv, _⟩
  · rw [h0]; exact ⟨none, 0, hv⟩
  · exact ⟨_, cap, hv⟩
/-- the source of an append: nil, or cells in a row -/
def Src (w : World) (A : Option Addr) (m c : Nat) (news : List Value) : Prop := (A = none ∧ m = 0 ∧ c = 0 ∧ news = []) ∨ ∃ a, A = some a ∧ ∀ j u, news[j]? = some u → w.cell? (a.add j) = some u
theorem append_src {T e : TypeId} {i : TypeInfo} {z : Value} {size bytes : Nat} (ht : Tryd.prog.underlying T = some (.slice e)) (hi : Tryd.prog.info? e = some i) (hz : i.zero = some z) (hsize : i.size = size) (hby : i.bytes = bytes) (hzs : z.cells.size = size) (hsz : 0 < size)
    (ty : TypeId) {w : World} {base : Nat} {v : Value} {n : Nat} {xs : List Value} (hown : w.ownsRow base e size v n xs) (A : Option Addr) (m c : Nat) (news : List Value) (hs : Src w A m c news) (hl : news.length = m * size) (h1 : ∀ u ∈ news, u.oneCell' = true)
    (h63 : n + m ≤ maxLen) (hbytes : (n + m) * bytes ≤ 140737488355328) (hbase : base ≤ w.heap.size) :
    ∃ v' w', (Builtin.append_ #[T, T] ty #[v, .slice A m c]).run Tryd.prog w = .ok v' w' ∧ w'.ownsRow base e size v' (n + m) (xs ++ news) ∧ w.grownBy w' v.ownBlock ∧ (v'.ownBlock = v.ownBlock ∨ v'.ownBlock = some w.heap.size) := by
  rcases hs with ⟨rfl, rfl, rfl, rfl⟩ | ⟨a, rfl, hc⟩
  · refine ⟨v, w, run_append_owned_none (P := Tryd.prog) (w := w) base T ty e i size ht hi v n xs hown, by simpa using hown, grown_refl w _, .inl rfl⟩
  · obtain ⟨v', w', hr, h2, h3, _, h4⟩ := run_append_own_at (P := Tryd.prog) (w := w) base T ty e i z size bytes ht hi hz hsize hby hzs hsz v n xs hown a m c news hl hc h1 h63 hbytes hbase
    exact ⟨v', w', hr, h2, h3, h4⟩
theorem Src.lit {w : World} {g : Nat} {cs : Array Value} {t : TypeId} {fz : Nat × Nat} (H : w.heap[g]? = some (.cells cs t fz)) (m c : Nat) : Src w (some ⟨g, 0, none⟩) m c cs.toList :=
  .inr ⟨_, rfl, fun j u hj => by rw [Lib.add_plain, Nat.zero_add]; exact blk_cell H (by simpa using hj)⟩
theorem unfroz {w : World} {g : Nat} {cs : Array Value} {t : TypeId} (H : w.heap[g]? = some (.cells cs t (0, 0))) (j : Nat) : w.frozen? ⟨g, j, none⟩ = false := by
  simp [World.frozen?, H]
theorem set_own {w0 w : World} {g : Nat} {cs : Array Value} {t : TypeId} (f : Fr w0 w) (hw0 : Ok w0) (hB : w0.heap.size ≤ g) (H : w.heap[g]? = some (.cells cs t (0, 0))) (j : Nat) (v : Value) :
    ∃ w1, w.setCell ⟨g, j, none⟩ v = w1 ∧ w1.heap[g]? = some (.cells (cs.setIfInBounds j v) t (0, 0)) ∧ Fr w0 w1 ∧ w.grownBy w1 (some g) := by
  have hb : Below g w (w.setCell ⟨g, j, none⟩ v) := (Below.refl g w).setCell (Nat.le_refl _) v
  refine ⟨_, rfl, ?_, Fr.of hw0 (f.below.trans (hb.mono hB)), ⟨hb.os, hb.tape, hb.output, hb.size, fun k hk hn => ?_⟩⟩
  · simp [World.setCell, Array.getElem?_modify, H]
  · exact Below.heap_setCell w _ v k (fun e => hn (by rw [e]))
theorem own_low {w : World} {B B' size n : Nat} {e : TypeId} {v : Value} {xs : List Value} (h : w.ownsRow B e size v n xs) (hb : B' ≤ B) : w.ownsRow B' e size v n xs := by
  obtain ⟨h1, h2⟩ := h
  refine ⟨h1, ?_⟩
  rcases h2 with h2 | ⟨g, cap, cur, hv, hg, r⟩
  · exact .inl h2
  · exact .inr ⟨g, cap, cur, hv, by omega, r⟩
theorem own_at {w : World} {base n cap k g m : Nat} {e : TypeId} {xs ys : List Value} (hm : xs.length = m) (h : w.ownsRow base e k (.slice (some ⟨g, 0, none⟩) n cap) n (xs ++ ys)) (j : Nat) (u : Value) (hj : ys[j]? = some u) : w.cell? ⟨g, m + j, none⟩ = some u := by
  have := h.cells (g := g) rfl (m + j) u (by rw [List.getElem?_append_right (by omega), hm, show m + j - m = j by omega]; exact hj)
  rwa [Lib.add_plain, Nat.zero_add] at this
def bytesOk (l : List Int) : Prop := ∀ x ∈ l, 0 ≤ x ∧ x ≤ 255
theorem bytesOk.drop {l : List Int} (h : bytesOk l) (n : Nat) : bytesOk (l.drop n) := fun x hx => h x (List.mem_of_mem_drop hx)
theorem bytesOk.take {l : List Int} (h : bytesOk l) (n : Nat) : bytesOk (l.take n) := fun x hx => h x (List.mem_of_mem_take hx)
/-- bytes in memory -/
def BytesAt (w : World) (A : Option Addr) (L : List Int) : Prop := L = [] ∨ ∃ g o, A = some ⟨g, o, none⟩ ∧ g < w.heap.size ∧ ∀ i x, L[i]? = some x → w.cell? ⟨g, o + i, none⟩ = some (.int .u8 x)
theorem BytesAt.fr {w w' : World} {A : Option Addr} {L : List Int} (h : BytesAt w A L) (q : Fr w w') : BytesAt w' A L := by
  rcases h with h | ⟨g, o, hA, hg, h⟩
  · exact .inl h
  · exact .inr ⟨g, o, hA, Nat.lt_of_lt_of_le hg q.size, fun i x hi => q.cell (h i x hi)⟩
theorem cell_grown {w w' : World} {g : Nat} {r : Option Nat} (q : w.grownBy w' r) {p : Addr} {v : Value} (h : w.cell? p = some v) (hne : some p.block ≠ r) : w'.cell? p = some v :=
  (World.cell?_of_block (w := w) (q.block p.block (World.block_lt_of_cell? w p h) hne)).trans h
theorem BytesAt.grown {w w' : World} {A : Option Addr} {L : List Int} {r : Option Nat} (h : BytesAt w A L) (q : w.grownBy w' r) (hne : ∀ a, A = some a → some a.block ≠ r) : BytesAt w' A L := by
  rcases h with h | ⟨g, o, hA, hg, h⟩
  · exact .inl h
  · exact .inr ⟨g, o, hA, Nat.lt_of_lt_of_le hg q.size, fun i x hi => cell_grown (g := 0) q (h i x hi) (hne ⟨g, o, none⟩ hA)⟩
theorem BytesAt.toC {w : World} {A : Option Addr} {L : List Int} (h : BytesAt w A L) (hn : L.length ≤ 1099511627776) : Kd.C (Kd.int .u8) w A L.length L := by
  refine ⟨rfl, by omega, fun h0 => ?_⟩
  rcases h with h | ⟨g, o, hA, hg, hc⟩
  · subst h; simp at h0
  · refine ⟨_, hA, fun j p hj => ?_⟩
    refine ⟨[.int .u8 p], rfl, rfl, fun i u hu => ?_⟩
    have hi : i < 1 := (List.getElem?_eq_some_iff.1 hu).1
    obtain rfl : i = 0 := by omega
    simp only [List.getElem?_cons_zero, Option.some.injEq] at hu
    subst hu
    have hsz : (Kd.int .u8).sz = 1 := rfl
    rw [hsz, Lib.add_plain, Nat.mul_one, Nat.add_zero]
    exact hc j p hj
theorem BytesAt.sub {w : World} {g o : Nat} {L : List Int} (h : BytesAt w (some ⟨g, o, none⟩) L) (i n : Nat) : BytesAt w (some ⟨g, o + i, none⟩) ((L.drop i).take n) := by
  rcases h with h | ⟨g', o', e, hg, hc⟩
  · subst h; left; simp
  · injection e with e
    injection e with e1 e2
    subst e1 e2
    refine .inr ⟨g, o + i, rfl, hg, fun j x hj => ?_⟩
    rw [List.getElem?_take] at hj
    split at hj
    · rw [List.getElem?_drop] at hj
      rw [Nat.add_assoc]
      exact hc _ x hj
    · cases hj
theorem OwnB.at {w : World} {B : Nat} {A : Option Addr} {n c : Nat} {xs : List Int} (h : OwnB w B (.slice A n c) xs) : BytesAt w A xs ∧ n = xs.length ∧ xs.length ≤ c := by
  obtain ⟨h1, h2, h3⟩ := h.toC
  refine ⟨?_, h1, h2⟩
  cases xs with
  | nil => exact .inl rfl
  | cons x r =>
    right
    obtain ⟨g, c', hv, hb, hl⟩ := h.blk (by simp)
    injection hv with e1 e2 e3
    subst e1 e2 e3
    refine ⟨g, 0, rfl, hl, fun i y hi => ?_⟩
    have hi' := (List.getElem?_eq_some_iff.1 hi).1
    rw [Nat.zero_add, h.cellAt i hi', (List.getElem?_eq_some_iff.1 hi).2]
theorem var_grown {P : Program} {w w' : World} {n : String} {k g : Nat} {cs : Array Value} (hk : P.globalNamed n = some k) (q : w.grownBy w' (some g)) (hne : k ≠ g) (h : w.var? P n = some cs) : w'.var? P n = some cs := by
  have hlt : k < w.heap.size := by
    simp only [World.var?, hk, Option.bind_some] at h
    split at h
    · rename_i heq; exact (Array.getElem?_eq_some_iff.1 heq).1
    · cases h
  simp only [World.var?, hk, Option.bind_some] at h ⊢
  rw [q.block k hlt (fun e => hne (by injection e))]
  exact h
/-- the globals lie below every block that a walk writes into -/
theorem Ok.grown {w w' : World} (h : Ok w) {g : Nat} (hg : 4 ≤ g) (q : w.grownBy w' (some g)) : Ok w' where
  fours := var_grown gFours q (by omega) h.fours
theorem wr64 {n : Int} (h : -9223372036854775808 ≤ n ∧ n ≤ 9223372036854775807) : wrap64 n = n := by unfold wrap64; omega
theorem getD_byte {M : List Int} (hM : bytesOk M) (i : Nat) : 0 ≤ M.getD i 0 ∧ M.getD i 0 ≤ 255 := by
  by_cases h : i < M.length
  · have := hM _ (List.getElem_mem h)
    simpa [List.getD, h] using this
  · simp [List.getD, List.getElem?_eq_none (show M.length ≤ i by omega)]
theorem set_idem {w : World} {g : Nat} {cs : Array Value} {t : TypeId} {fz : Nat × Nat} (H : w.heap[g]? = some (.cells cs t fz)) (j : Nat) (v : Value) (hj : cs[j]? = some v) : w.setCell ⟨g, j, none⟩ v = w := by
  have hlt := (Array.getElem?_eq_some_iff.1 H).1
  have hg := (Array.getElem?_eq_some_iff.1 H).2
  have hc : cs.setIfInBounds j v = cs := by
    apply Array.ext_getElem?
    intro i
    by_cases hi : j = i
    · subst hi
      have hjs := (Array.getElem?_eq_some_iff.1 hj).1
      rw [Array.getElem?_setIfInBounds_self_of_lt hjs, hj]
    · rw [Array.getElem?_setIfInBounds_ne hi]
  have hh : (w.setCell ⟨g, j, none⟩ v).heap = w.heap := by
    apply Array.ext_getElem?
    intro i
    by_cases hi : i = g
    · subst hi
      rw [show (w.setCell ⟨i, j, none⟩ v).heap[i]? = some (.cells (cs.setIfInBounds j v) t fz) by simp [World.setCell, Array.getElem?_modify, H], hc, H]
    · exact Below.heap_setCell w ⟨g, j, none⟩ v i hi
  have h2 : w.setCell ⟨g, j, none⟩ v = { w with heap := (w.setCell ⟨g, j, none⟩ v).heap } := rfl
  rw [h2, hh]
theorem idemC {w : World} {g : Nat} {cs : Array Value} {t : TypeId} {fz : Nat × Nat} {j : Nat} {v : Value} (H : w.heap[g]? = some (.cells cs t fz)) (hc : w.cell? ⟨g, j, none⟩ = some v) : w.setCell ⟨g, j, none⟩ v = w :=
  set_idem H j v (by simpa [World.cell?, H] using hc)
theorem drop_getD {M : List Int} {i : Nat} (h : i < M.length) : M.drop i = M.getD i 0 :: M.drop (i + 1) := by
  rw [List.drop_eq_getElem_cons h]; simp [List.getD, h]
theorem own_grown {W W' : World} {base size n : Nat} {e : TypeId} {v : Value} {xs : List Value} (h : W.ownsRow base e size v n xs) {g : Nat} (q : W.grownBy W' (some g)) {cs : Array Value} {t : TypeId} (H : W.heap[g]? = some (.cells cs t (0, 0))) (ht : e ≠ t) : W'.ownsRow base e size v n xs :=
  World.ownsRow.kept h q (.inr (fun k => own_ne3 h H ht k.symm))
theorem own_keep {W W' : World} {base size n : Nat} {e : TypeId} {v : Value} {xs : List Value} (h : W.ownsRow base e size v n xs) {g : Nat} (q : W.grownBy W' (some g)) (hne : ∀ k, v.ownBlock = some k → k ≠ g) : W'.ownsRow base e size v n xs :=
  World.ownsRow.kept h q (.inr (fun k => hne g k rfl))
theorem grown_own {a b c : World} {r q : Option Nat} (h : a.grownBy b r) (k : b.grownBy c q) (hq : ∀ i, q = some i → a.heap.size ≤ i) : a.grownBy c r :=
  ⟨k.os.trans h.os, k.tape.trans h.tape, k.output.trans h.output, Nat.le_trans h.size k.size, fun i hi hn => (k.block i (Nat.lt_of_lt_of_le hi h.size) (fun e => by have := hq i e.symm; omega)).trans (h.block i hi hn)⟩
theorem own_cap {w : World} {B size n : Nat} {e : TypeId} {a : Option Addr} {c : Nat} {xs : List Value} (h : w.ownsRow B e size (.slice a n c) n xs) : n ≤ c := by
  rcases h.2 with ⟨hv, h1⟩ | ⟨g, cap, cur, hv, _, _, hc, _⟩
  · omega
  · injection hv with _ _ h3; omega
theorem map_one (L : List Int) : ∀ u ∈ L.map (Value.int .u8), u.oneCell' = true := fun u hu => by obtain ⟨x, _, rfl⟩ := List.mem_map.1 hu; rfl
theorem bytes_src {w : World} {A : Option Addr} {c : Nat} {L : List Int} (h : BytesAt w A L) (hn : A = none → c = 0) : Src w A L.length c (L.map (Value.int .u8)) := by
  rcases h with h | ⟨g, o, rfl, _, h⟩
  · subst h
    cases A with
    | none => exact .inl ⟨rfl, rfl, hn rfl, rfl⟩
    | some a => exact .inr ⟨a, rfl, fun j u hj => by simp at hj⟩
  · refine .inr ⟨_, rfl, fun j u hj => ?_⟩
    rw [List.getElem?_map, Option.map_eq_some_iff] at hj
    obtain ⟨x, hx, rfl⟩ := hj
    rw [Lib.add_plain]
    exact h j x hx
end Go.Proofs.YtlnaeppbhjmocaaDoor
set_option linter.unusedSimpArgs false
set_option linter.unusedVariables false
namespace Go.Proofs.YtlnaeppbhjmocaaDoor
open Go.RowKit Go.Proofs Go.Proofs.YtlnaeppbhjmocaaDoorW.PrintWords Go.Proofs.YtlnaeppbhjmocaaDoorW.PrintMore

structure Lf where
  path : ByteArray
  ty : Int
  mode : Int
  stamp : Int
  data : List Int
  tgt : ByteArray
instance : Inhabited Lf := ⟨⟨⟨#[]⟩, 0, 0, 0, [], ⟨#[]⟩⟩⟩
/-- the state of a reading: the error, or where it stands -/
abbrev Er := Except Int Nat
def Er.num : Er → Int
  | .error e => e
  | .ok _ => 0
/-! ### A file's data -/
def lead0 : List Int → Nat
  | [] => 0
  | b :: r => if b = 0 then lead0 r + 1 else 0
/-! ### Paths -/
def slash : UInt8 := 47
def pathOf (ns : List ByteArray) : ByteArray := if ns = [] then ⟨#[47]⟩ else ⟨(ns.flatMap fun n => slash :: n.data.toList).toArray⟩
def noneOf (l : List UInt8) : Bool := l.all fun c => c != 0 && c != 47
def nameB (s : ByteArray) : Bool := decide (1 ≤ s.size ∧ s.size ≤ 63) && s.data.toList != [46] && s.data.toList != [46, 46] && noneOf s.data.toList
def targetB (s : ByteArray) : Bool := decide (1 ≤ s.size ∧ s.size ≤ 127) && s.data.toList.all fun c => c != 0

end Go.Proofs.YtlnaeppbhjmocaaDoor
set_option linter.unusedSimpArgs false
set_option linter.unusedVariables false
namespace Go.Proofs.YtlnaeppbhjmocaaDoor
open Go.RowKit Go.Proofs Go.Proofs.YtlnaeppbhjmocaaDoorW.PrintWords Go.Proofs.YtlnaeppbhjmocaaDoorW.PrintMore

def okW (w : List UInt8) : Prop := w ≠ [] ∧ w ≠ [46]
instance (w : List UInt8) : Decidable (okW w) := by unfold okW; infer_instance
def partsL : List UInt8 → List UInt8 → List (List UInt8)
  | word, [] => if okW word then [word] else []
  | word, c :: r => if c = 47 then (if okW word then word :: partsL [] r else partsL [] r) else partsL (word ++ [c]) r
theorem partsL_word (n : List UInt8) (h : (47 : UInt8) ∉ n) : ∀ (w rest : List UInt8), partsL w (n ++ rest) = partsL (w ++ n) rest := by
  induction n with
  | nil => intro w rest; simp
  | cons c r ih =>
    intro w rest
    have hc : c ≠ 47 := fun e => h (by simp [e])
    have hr : (47 : UInt8) ∉ r := fun e => h (by simp [e])
    rw [List.cons_append, partsL, if_neg hc, ih hr]
    simp
theorem partsL_path (ns : List (List UInt8)) (h : ∀ n ∈ ns, okW n ∧ (47 : UInt8) ∉ n) : ∀ w, partsL w (ns.flatMap fun n => 47 :: n) = (if okW w then [w] else []) ++ ns := by
  induction ns with
  | nil => intro w; simp [partsL]
  | cons n r ih =>
    intro w
    have hn := h n (by simp)
    rw [List.flatMap_cons, List.cons_append, partsL, if_pos rfl, partsL_word n hn.2, List.nil_append, ih (fun m hm => h m (by simp [hm])), if_pos hn.1]
    split <;> simp
theorem bt_lt {s : ByteArray} {i : Nat} (h : i < s.size) : ∃ c : UInt8, s.data.toList.drop i = c :: s.data.toList.drop (i + 1) ∧ bt s (i : Int) = (c.toNat : Int) ∧ s.extract i (i + 1) = ⟨#[c]⟩ := by
  have h1 : i < s.data.size := h
  have h2 : i < s.data.toList.length := by simpa using h1
  refine ⟨s.data.toList[i], List.drop_eq_getElem_cons h2, ?_, ?_⟩
  · unfold bt
    rw [dif_pos (show (i : Int).toNat < s.size from h)]
    rfl
  · apply ByteArray.ext
    rw [ByteArray.data_extract]
    apply Array.ext
    · simp; omega
    · intro j hj1 hj2
      have hj : j = 0 := by simpa using hj2
      subst hj
      simp
theorem toL (s : ByteArray) : s.toList = s.data.toList := ByteArray.toList_eq s
def toB (w : List UInt8) : ByteArray := ⟨w.toArray⟩
theorem parts_j1 (k : Nat) (s : ByteArray) (l : List ByteArray) (word : ByteArray) (i : Nat) (hi : i ≤ 1048576) (hl : l.length ≤ i) :
    Pnames.shaleref16_parts.j1 (k + 1) s l word (i : Int) false = Pnames.shaleref16_parts.l0 k s (if okW word.data.toList then l ++ [word] else l) ⟨#[]⟩ ((i + 1 : Nat) : Int) := by
  simp only [Pnames.shaleref16_parts.j1, toL]
  rw [if_neg (by simp), wr64 ⟨by omega, by omega⟩, Int.natCast_add]
  by_cases h1 : word.data.toList = []
  · rw [if_pos h1, if_neg (fun h => h.1 h1)]; rfl
  · rw [if_neg h1]
    by_cases h2 : word.data.toList = [46]
    · rw [if_pos h2, if_neg (fun h => h.2 h2)]; rfl
    · rw [if_neg h2, if_pos (by omega), if_pos (show okW word.data.toList from And.intro h1 h2)]; rfl
theorem parts_l0 (s : ByteArray) (hs : s.size ≤ 1048575) : ∀ (d k : Nat) (l : List ByteArray) (word : ByteArray) (i : Nat), i + d = s.size → 2 * d + 3 ≤ k → l.length ≤ i → word.size ≤ i →
    Pnames.shaleref16_parts.l0 k s l word (i : Int) = some (l ++ (partsL word.data.toList (s.data.toList.drop i)).map toB) := by
  intro d
  induction d with
  | zero =>
    intro k l word i h hk hl hw
    obtain ⟨k, rfl⟩ : ∃ m, k = m + 3 := ⟨k - 3, by omega⟩
    have hd : s.data.toList.drop i = [] := List.drop_eq_nil_of_le (by rw [show s.data.toList.length = s.size from rfl]; omega)
    rw [Pnames.shaleref16_parts.l0, if_pos (by omega), if_neg (by omega), parts_j1 _ _ _ _ _ (by omega) hl, Pnames.shaleref16_parts.l0, if_neg (by omega), hd, partsL]
    by_cases h1 : okW word.data.toList
    · rw [if_pos h1, if_pos h1]; simp [toB]
    · rw [if_neg h1, if_neg h1]; simp
  | succ d ih =>
    intro k l word i h hk hl hw
    obtain ⟨k, rfl⟩ : ∃ m, k = m + 2 := ⟨k - 2, by omega⟩
    obtain ⟨c, hd, hb, he⟩ := bt_lt (s := s) (i := i) (by omega)
    rw [Pnames.shaleref16_parts.l0, if_pos (by omega), if_pos (by omega), if_pos (by omega), hb, hd, partsL]
    by_cases h1 : c = 47
    · subst h1
      rw [if_pos rfl, show ((((47 : UInt8).toNat : Int)) != 47) = false from by decide, parts_j1 _ _ _ _ _ (by omega) hl, ih k (if okW word.data.toList then l ++ [word] else l) ⟨#[]⟩ (i + 1) (by omega) (by omega) (by split; (rw [List.length_append]; show l.length + 1 ≤ i + 1; omega); omega) (show 0 ≤ i + 1 by omega)]
      by_cases h2 : okW word.data.toList
      · rw [if_pos h2, if_pos h2]; simp [toB]
      · rw [if_neg h2, if_neg h2]
    · have h2 : (((c.toNat : Int)) != 47) = true := by
        simp only [bne_iff_ne, ne_eq]
        intro h
        exact h1 (UInt8.toNat_inj.mp (by simpa using (by omega : c.toNat = 47)))
      have w1 : wrap64 ((i : Int) + 1) = ((i + 1 : Nat) : Int) := by rw [wr64 ⟨by omega, by omega⟩]; omega
      rw [if_neg h1, h2]
      simp only [Pnames.shaleref16_parts.j1, w1, Int.toNat_natCast, he]
      rw [if_pos trivial, if_pos (by omega), if_pos (by omega), if_pos (by omega), if_pos (show word.size + (⟨#[c]⟩ : ByteArray).size ≤ 9223372036854775807 by (show word.size + 1 ≤ _); omega), ih k _ _ (i + 1) (by omega) (by omega) (by omega) (by rw [ByteArray.size_append]; show word.size + 1 ≤ i + 1; omega)]
      congr 3
      first | done | (rw [ByteArray.data_append]; simp)
theorem zero_l0 (s : ByteArray) (hs : s.size ≤ 1048575) (h0 : (0 : UInt8) ∉ s.data.toList) : ∀ (d k i : Nat), i + d = s.size → d < k → Pnames.shaleref16_zero.l0 k s (i : Int) = some false := by
  intro d
  induction d with
  | zero =>
    intro k i h hk
    obtain ⟨k, rfl⟩ : ∃ m, k = m + 1 := ⟨k - 1, by omega⟩
    rw [Pnames.shaleref16_zero.l0, if_neg (by omega)]
  | succ d ih =>
    intro k i h hk
    obtain ⟨k, rfl⟩ : ∃ m, k = m + 1 := ⟨k - 1, by omega⟩
    obtain ⟨c, hd, hb, he⟩ := bt_lt (s := s) (i := i) (by omega)
    have hc : c ∈ s.data.toList := List.mem_of_mem_drop (i := i) (by rw [hd]; simp)
    have w1 : wrap64 ((i : Int) + 1) = ((i + 1 : Nat) : Int) := by rw [wr64 ⟨by omega, by omega⟩]; omega
    rw [Pnames.shaleref16_zero.l0, if_pos (by omega), if_pos (by omega), hb, if_neg (fun h => h0 (by have : c = 0 := UInt8.toNat_inj.mp (by simpa using (by omega : c.toNat = 0)); rw [← this]; exact hc)), w1]
    exact ih k (i + 1) (by omega) (by omega)
theorem rdOf_nat (l : List ByteArray) (i : Nat) (h : i < l.length) : rdOf ByteArray.empty l (i : Int) = l[i] := by
  unfold rdOf
  rw [Int.toNat_natCast]
  simp [List.getD, h]
theorem names_l0 (l : List ByteArray) (hl : l.length ≤ 1048576) (h : ∀ n ∈ l, n.size ≤ 63) : ∀ (d k i : Nat), i + d = l.length → d < k → Pnames.shaleref16_names.l0 k l (i : Int) = some (l, 0) := by
  intro d
  induction d with
  | zero =>
    intro k i hh hk
    obtain ⟨k, rfl⟩ : ∃ m, k = m + 1 := ⟨k - 1, by omega⟩
    rw [Pnames.shaleref16_names.l0, if_neg (by omega)]
  | succ d ih =>
    intro k i hh hk
    obtain ⟨k, rfl⟩ : ∃ m, k = m + 1 := ⟨k - 1, by omega⟩
    have w1 : wrap64 ((i : Int) + 1) = ((i + 1 : Nat) : Int) := by rw [wr64 ⟨by omega, by omega⟩]; omega
    have h2 := h l[i] (List.getElem_mem (by omega))
    rw [Pnames.shaleref16_names.l0, if_pos (by omega), if_pos (by omega), rdOf_nat l i (by omega), if_neg (by omega), w1]
    exact ih k (i + 1) (by omega) (by omega)
theorem names18_l0 (l : List ByteArray) (hl : l.length ≤ 1048576) (h : ∀ n ∈ l, n.data.toList ≠ [46, 46]) : ∀ (d k i : Nat), i + d = l.length → d < k → Pnames.shaleref18_names.l0 k l (i : Int) = some (l, true) := by
  intro d
  induction d with
  | zero =>
    intro k i hh hk
    obtain ⟨k, rfl⟩ : ∃ m, k = m + 1 := ⟨k - 1, by omega⟩
    rw [Pnames.shaleref18_names.l0, if_neg (by omega)]
  | succ d ih =>
    intro k i hh hk
    obtain ⟨k, rfl⟩ : ∃ m, k = m + 1 := ⟨k - 1, by omega⟩
    have w1 : wrap64 ((i : Int) + 1) = ((i + 1 : Nat) : Int) := by rw [wr64 ⟨by omega, by omega⟩]; omega
    have h2 := h l[i] (List.getElem_mem (by omega))
    rw [Pnames.shaleref18_names.l0, if_pos (by omega), if_pos (by omega), rdOf_nat l i (by omega), toL, if_neg h2, w1]
    exact ih k (i + 1) (by omega) (by omega)
theorem together_l0 (l : List ByteArray) (hl : (l.flatMap fun n => slash :: n.data.toList).length ≤ 1048576) (hl2 : l.length ≤ 1048576) : ∀ (d k i : Nat) (s : ByteArray), i + d = l.length → d < k → s.data.toList = ((l.take i).flatMap fun n => slash :: n.data.toList) →
    Pnames.shaleref16_together.l0 k l s (i : Int) = some ⟨(l.flatMap fun n => slash :: n.data.toList).toArray⟩ := by
  intro d
  induction d with
  | zero =>
    intro k i s hh hk hs
    obtain ⟨k, rfl⟩ : ∃ m, k = m + 1 := ⟨k - 1, by omega⟩
    rw [Pnames.shaleref16_together.l0, if_neg (by omega)]
    rw [List.take_of_length_le (by omega)] at hs
    rw [← hs]
  | succ d ih =>
    intro k i s hh hk hs
    obtain ⟨k, rfl⟩ : ∃ m, k = m + 1 := ⟨k - 1, by omega⟩
    have w1 : wrap64 ((i : Int) + 1) = ((i + 1 : Nat) : Int) := by rw [wr64 ⟨by omega, by omega⟩]; omega
    have hsp : l.take (i + 1) = l.take i ++ [l[i]] := (List.take_append_getElem (by omega)).symm
    have hle : ((l.take (i + 1)).flatMap fun n => slash :: n.data.toList).length ≤ (l.flatMap fun n => slash :: n.data.toList).length := by
      conv => rhs; rw [← List.take_append_drop (i + 1) l]
      rw [List.flatMap_append, List.length_append]; omega
    have hnx : (s ++ ((⟨#[47]⟩ : ByteArray) ++ l[i])).data.toList = ((l.take (i + 1)).flatMap fun n => slash :: n.data.toList) := by
      rw [hsp, List.flatMap_append, ← hs, ByteArray.data_append, ByteArray.data_append]
      simp [slash]
    have hsz : (s ++ ((⟨#[47]⟩ : ByteArray) ++ l[i])).size ≤ 1048576 := by
      have h9 : (s ++ ((⟨#[47]⟩ : ByteArray) ++ l[i])).size = (s ++ ((⟨#[47]⟩ : ByteArray) ++ l[i])).data.toList.length := rfl
      rw [h9, hnx]; omega
    have hsz2 := hsz
    rw [ByteArray.size_append] at hsz2
    have hsz3 := hsz2
    rw [ByteArray.size_append] at hsz3
    rw [Pnames.shaleref16_together.l0, if_pos (by omega), if_pos (by omega), rdOf_nat l i (by omega), if_pos (by have : (⟨#[47]⟩ : ByteArray).size = 1 := rfl; omega), if_pos (by omega), w1]
    exact ih k (i + 1) _ (by omega) (by omega) hnx
theorem nameB_all {n : ByteArray} (h : nameB n = true) : okW n.data.toList ∧ (47 : UInt8) ∉ n.data.toList ∧ (0 : UInt8) ∉ n.data.toList ∧ n.size ≤ 63 ∧ n.data.toList ≠ [46, 46] := by
  unfold nameB noneOf at h
  simp only [Bool.and_eq_true, decide_eq_true_eq, bne_iff_ne, ne_eq, List.all_eq_true] at h
  obtain ⟨⟨⟨h1, h2⟩, h3⟩, h4⟩ := h
  refine ⟨⟨fun e => ?_, h2⟩, fun e => (h4 _ e).2 rfl, fun e => (h4 _ e).1 rfl, h1.2, h3⟩
  have : n.data.toList.length = n.size := rfl
  rw [e] at this
  simp at this
  omega
def pathL (ns : List ByteArray) : List UInt8 := if ns = [] then [47] else ns.flatMap fun n => slash :: n.data.toList
theorem pathOf_data (ns : List ByteArray) : (pathOf ns).data.toList = pathL ns := by
  unfold pathOf pathL
  split <;> simp
theorem pathL_head (ns : List ByteArray) : ∃ r, pathL ns = 47 :: r := by
  unfold pathL
  cases ns with
  | nil => exact ⟨[], rfl⟩
  | cons n r => rw [if_neg (by simp), List.flatMap_cons]; exact ⟨_, rfl⟩
theorem pathL_zero {ns : List ByteArray} (h : ∀ n ∈ ns, nameB n = true) : (0 : UInt8) ∉ pathL ns := by
  unfold pathL
  split
  · decide
  · intro e
    obtain ⟨n, hn, hm⟩ := List.mem_flatMap.mp e
    rcases List.mem_cons.mp hm with h1 | h1
    · revert h1; decide
    · exact (nameB_all (h n hn)).2.2.1 h1
theorem pathL_parts {ns : List ByteArray} (h : ∀ n ∈ ns, nameB n = true) : (partsL [] (pathL ns)).map toB = ns := by
  unfold pathL
  split
  · rename_i e; subst e; rfl
  · have h2 := partsL_path (ns.map fun n => n.data.toList) (fun m hm => by
      obtain ⟨n, hn, rfl⟩ := List.mem_map.mp hm
      exact ⟨(nameB_all (h n hn)).1, (nameB_all (h n hn)).2.1⟩) []
    rw [List.flatMap_map] at h2
    rw [show (ns.flatMap fun n => slash :: n.data.toList) = (ns.flatMap fun n => 47 :: n.data.toList) from rfl, h2, if_neg (fun e => e.1 rfl), List.nil_append, List.map_map]
    conv => rhs; rw [← List.map_id ns]
    refine List.map_congr_left fun n _ => ?_
    simp [toB]
theorem split_path (ns : List ByteArray) (k : Nat) (h : ∀ n ∈ ns, nameB n = true) (hd : ns.length ≤ 64) (hsz : (pathOf ns).size ≤ 1048575) (hk : 2 * 1048576 + 8 ≤ k) :
    Pnames.shaleref16_Split.f k (pathOf ns) = if 1023 < (pathOf ns).size then some ([], 161) else some (ns, 0) := by
  obtain ⟨r, hr⟩ := pathL_head ns
  have hD := pathOf_data ns
  have hlen : (pathOf ns).data.toList.length = (pathOf ns).size := rfl
  have hpos : 0 < (pathOf ns).size := by rw [← hlen, hD, hr]; simp
  obtain ⟨c, hc1, hc2, _⟩ := bt_lt (s := pathOf ns) (i := 0) hpos
  have hc : c = 47 := by rw [List.drop_zero, hD, hr] at hc1; injection hc1 with e; exact e.symm
  subst hc
  have hz := zero_l0 (pathOf ns) hsz (by rw [hD]; exact pathL_zero h) (pathOf ns).size k 0 (by omega) (by omega)
  have hp := parts_l0 (pathOf ns) hsz (pathOf ns).size k [] ⟨#[]⟩ 0 (by omega) (by omega) (by simp) (Nat.le_refl 0)
  rw [List.drop_zero, hD, List.nil_append] at hp
  rw [show (⟨#[]⟩ : ByteArray).data.toList = [] from rfl, pathL_parts h] at hp
  have hn := names_l0 ns (by omega) (fun n hn => (nameB_all (h n hn)).2.2.2.1) ns.length k 0 (by omega) (by omega)
  have hnm : Pnames.shaleref16_names.f k (pathOf ns) = if 1023 < (pathOf ns).size then some ([], 161) else some (ns, 0) := by
    unfold Pnames.shaleref16_names.f Pnames.shaleref16_zero.f Pnames.shaleref16_parts.f
    simp only [Int.ofNat_zero, Int.natCast_zero] at hz hp hn
    rw [hz, Option.bind_some, if_neg (by simp), hp, Option.bind_some, hn, if_neg (show ¬ ((ns.length : Int) > 64) by omega)]
    by_cases h9 : 1023 < (pathOf ns).size
    · rw [if_pos (by omega), if_pos h9]
    · rw [if_neg (by omega), if_neg h9]
  have hc3 : bt (pathOf ns) 0 = 47 := hc2
  unfold Pnames.shaleref16_Split.f
  rw [toL, if_neg (by rw [hD, hr]; simp), if_pos (by omega), hc3, if_pos rfl, hnm]
  by_cases h9 : 1023 < (pathOf ns).size
  · rw [if_pos h9]; rfl
  · rw [if_neg h9]; rfl
theorem names_path (ns : List ByteArray) (k : Nat) (h : ∀ n ∈ ns, nameB n = true) (hd : ns.length ≤ 64) (hsz : (pathOf ns).size ≤ 1048575) (hk : 2 * 1048576 + 9 ≤ k) :
    Pnames.shaleref18_names.f k (pathOf ns) = if 1023 < (pathOf ns).size then some ([], false) else some (ns, true) := by
  obtain ⟨k, rfl⟩ : ∃ m, k = m + 1 := ⟨k - 1, by omega⟩
  have hs1 := split_path ns (k + 1) h hd hsz (by omega)
  have hs2 := split_path ns k h hd hsz (by omega)
  unfold Pnames.shaleref18_names.f Pnames.shaleref16_Clean.f
  rw [hs1]
  by_cases h9 : 1023 < (pathOf ns).size
  · rw [if_pos h9, if_pos h9, Option.bind_some, if_neg (by decide), Option.bind_some, if_neg (by decide), Pnames.shaleref18_names.j0, if_pos rfl]
  · have ht : Pnames.shaleref16_trimmed.f (k + 1) ns = some ns := by
      unfold Pnames.shaleref16_trimmed.f
      rw [Pnames.shaleref16_trimmed.l0]
      cases ns with
      | nil => rfl
      | cons n r =>
        have hn := (nameB_all (h n (by simp))).2.2.2.2
        rw [if_pos (by rw [List.length_cons]; omega), if_pos (by rw [List.length_cons]; omega), show rdOf ByteArray.empty (n :: r) 0 = n from rfl, toL, if_neg hn]
    have hg : Pnames.shaleref16_together.f (k + 1) ns = some (pathOf ns) := by
      unfold Pnames.shaleref16_together.f pathOf
      by_cases he : ns = []
      · subst he; rfl
      · have hl : ns.length ≠ 0 := fun e => he (List.length_eq_zero_iff.mp e)
        rw [if_neg he, if_neg (by omega)]
        refine together_l0 ns ?_ (by omega) ns.length (k + 1) 0 ⟨#[]⟩ (by omega) (by omega) (by simp)
        have := pathOf_data ns
        unfold pathL at this
        rw [if_neg he] at this
        rw [← this]
        show (pathOf ns).size ≤ _
        omega
    rw [if_neg h9, if_neg h9, Option.bind_some, if_pos rfl, ht, Option.bind_some, hg, Option.bind_some, Option.bind_some, if_pos rfl, Pnames.shaleref18_names.j0, if_neg (by simp), hs2, if_neg h9, Option.bind_some]
    exact names18_l0 ns (by omega) (fun n hn => (nameB_all (h n hn)).2.2.2.2) ns.length k 0 (by omega) (by omega)
/-- a row of names behind a pointer -/
def SRow (w : World) (A : Option Addr) (l : List ByteArray) : Prop := ∀ i (h : i < l.length), ∃ g, A = some ⟨g, 0, none⟩ ∧ w.cell? ⟨g, i, none⟩ = some (.string l[i])
theorem SRow.fr {w w' : World} {A : Option Addr} {l : List ByteArray} (h : SRow w A l) (q : Fr w w') : SRow w' A l := fun i hi => by
  obtain ⟨g, hg, hc⟩ := h i hi
  exact ⟨g, hg, q.cell hc⟩
theorem names_run (p : ByteArray) (ns : List ByteArray) (b : Bool) (k : Nat) (h : Pnames.shaleref18_names.f k p = some (ns, b)) (w : World) (hw : Ok w) :
    Calls Tryd.prog 51 #[.string p] w fun e w' => ∃ A c, e = .returned (.tuple #[.slice A ns.length c, .bool b]) ∧ SRow w' A ns ∧ Fr w w' ∧ (∀ a, A = some a → w.heap.size ≤ a.block) := by
  refine (Pnames.shaleref18_names.calls k p ns b w h).mono ?_
  rintro e w' ⟨v, rfl, hR, hb⟩
  obtain ⟨A, c, rfl, hlc, hC⟩ := YtlnaeppbhjmocaaDoorW.PrintWords.Kd.R_reads hR
  obtain ⟨inner, hown⟩ := YtlnaeppbhjmocaaDoorW.PrintWords.Kd.R_own hR
  refine ⟨A, c, rfl, fun i hi => ?_, Fr.of hw hb, fun a e => ?_⟩
  · obtain ⟨ad, rfl, hc⟩ := YtlnaeppbhjmocaaDoorW.PrintWords.Kd.at_string hC (i : Int) (by omega) (by omega)
    rw [rdOf_nat ns i hi, Int.toNat_natCast] at hc
    obtain ⟨g, cap, hg, _⟩ := hown.form (by omega)
    injection hg with hg
    injection hg with hg
    subst hg
    refine ⟨g, rfl, ?_⟩
    rw [Lib.add_plain] at hc
    simpa using hc
  · subst e
    rcases hown.2 with ⟨h1, _⟩ | ⟨g, cap, cur, h1, h2, _⟩
    · cases h1
    · injection h1 with h1
      injection h1 with h1
      subst h1
      exact h2
end Go.Proofs.YtlnaeppbhjmocaaDoor
set_option linter.unusedSimpArgs false
set_option linter.unusedVariables false
namespace Go.Proofs.YtlnaeppbhjmocaaDoor
open Go.RowKit Go.Proofs Go.Proofs.YtlnaeppbhjmocaaDoorW.PrintWords Go.Proofs.YtlnaeppbhjmocaaDoorW.PrintMore

end Go.Proofs.YtlnaeppbhjmocaaDoor
set_option linter.unusedSimpArgs false
set_option linter.unusedVariables false
namespace Go.Proofs.YtlnaeppbhjmocaaDoor
open Go.RowKit Go.Proofs Go.Proofs.YtlnaeppbhjmocaaDoorW.PrintWords Go.Proofs.YtlnaeppbhjmocaaDoorW.PrintMore

theorem bs_ext {a b : ByteArray} (h : a.data.toList = b.data.toList) : a = b := ByteArray.ext (Array.toList_inj.mp h)
end Go.Proofs.YtlnaeppbhjmocaaDoor
set_option linter.unusedSimpArgs false
set_option linter.unusedVariables false
namespace Go.Proofs.YtlnaeppbhjmocaaDoor
open Go.RowKit Go.Proofs

def RXB (w : World) (g : Nat) (A : Option Addr) (c : Nat) (L : List Int) (i : Nat) (e told : Int) (dry : Bool) : Prop := w.heap[g]? = some (.cells #[.slice A L.length c, .int .i64 i, .int .i64 e, .int .i64 told, .bool dry] 58 (0, 0))
/-- the reader's block: where it stands, or its error -/
def RX (w : World) (g : Nat) (A : Option Addr) (c : Nat) (L : List Int) (o : Er) (told : Int) (dry : Bool) : Prop := ∃ i, i ≤ L.length ∧ (∀ j, o = .ok j → i = j) ∧ (∀ e, o = .error e → e ≠ 0) ∧ RXB w g A c L i o.num told dry
theorem RX.fr {w w' : World} {g : Nat} {A : Option Addr} {c : Nat} {L : List Int} {o : Er} {told : Int} {dry : Bool} (h : RX w g A c L o told dry) (q : Fr w w') : RX w' g A c L o told dry := by
  obtain ⟨i, h1, h2, h3, h4⟩ := h
  exact ⟨i, h1, h2, h3, q.heap h4⟩
theorem RX.grown {w w' : World} {g : Nat} {A : Option Addr} {c : Nat} {L : List Int} {o : Er} {told : Int} {dry : Bool} {r : Option Nat} (h : RX w g A c L o told dry) (q : w.grownBy w' r) (hne : some g ≠ r) : RX w' g A c L o told dry := by
  obtain ⟨i, h1, h2, h3, h4⟩ := h
  exact ⟨i, h1, h2, h3, grown_blk' q h4 hne⟩

end Go.Proofs.YtlnaeppbhjmocaaDoor
set_option linter.unusedSimpArgs false
set_option linter.unusedVariables false
namespace Go.Proofs.YtlnaeppbhjmocaaDoor
open Go.RowKit Go.Proofs Go.Proofs.YtlnaeppbhjmocaaDoorW.PrintWords Go.Proofs.YtlnaeppbhjmocaaDoorW.PrintMore

theorem rd_nat (b : List Int) (i : Nat) : rd b (i : Int) = b.getD i 0 := by unfold rd; rw [Int.toNat_natCast]
end Go.Proofs.YtlnaeppbhjmocaaDoor
set_option linter.unusedSimpArgs false
set_option linter.unusedVariables false
namespace Go.Proofs.YtlnaeppbhjmocaaDoor
open Go.RowKit Go.Proofs Go.Proofs.YtlnaeppbhjmocaaDoorW.PrintWords Go.Proofs.YtlnaeppbhjmocaaDoorW.PrintMore

theorem wpList_append_run {P : Program} {ops : Array Oper} {rest : List Oper} {o : Oper} {a : Act} {Q : Exit → Act → World → Prop} {w : World} (hgd : o.guard = none) (s x : Operand) (t1 t2 : TypeId)
    (ho : o.op = .call { callee := .builtin .append, args := #[s, x], argTypes := #[t1, t2] }) {v u v' : Value} {w' : World} (hs : a.eval s = v) (hx : a.eval x = u)
    (hr : (Builtin.append_ #[t1, t2] o.type #[v, u]).run P w = .ok v' w') (h : wpList P ops Q rest (a.put o.dst v') w') : wpList P ops Q (o :: rest) a w := by
  refine wpList_plain hgd fun K hK => ?_
  unfold Oper.wp execOp
  simp only [ho, resolve, invoke, builtin, Sem.run_bind, Sem.run_pure, Result.andThen_ok, List.map_toArray, List.map_cons, List.map_nil, hs, hx, hr]
  exact hK _ _ h

end Go.Proofs.YtlnaeppbhjmocaaDoor
set_option linter.unusedSimpArgs false
set_option linter.unusedVariables false
namespace Go.Proofs.YtlnaeppbhjmocaaDoor
open Go.RowKit Go.Proofs Go.Proofs.YtlnaeppbhjmocaaDoorW.PrintWords Go.Proofs.YtlnaeppbhjmocaaDoorW.PrintMore

/-- the names lie in block ga -/
def NR (w : World) (A : Option Addr) (ga : Nat) (ns : List ByteArray) : Prop := (ga = 0 ∨ ga < w.heap.size) ∧ ∀ i (h : i < ns.length), A = some ⟨ga, 0, none⟩ ∧ w.cell? ⟨ga, i, none⟩ = some (.string ns[i])
theorem NR.fr {w w' : World} {A : Option Addr} {ga : Nat} {ns : List ByteArray} (h : NR w A ga ns) (q : Fr w w') : NR w' A ga ns := ⟨h.1.imp id (fun k => Nat.lt_of_lt_of_le k q.size), fun i hi => ⟨(h.2 i hi).1, q.cell (h.2 i hi).2⟩⟩
theorem NR.grown {w w' : World} {A : Option Addr} {ga g : Nat} {ns : List ByteArray} (h : NR w A ga ns) (q : w.grownBy w' (some g)) (hne : ga ≠ g) : NR w' A ga ns := ⟨h.1.imp id (fun k => Nat.lt_of_lt_of_le k q.size), fun i hi =>
  ⟨(h.2 i hi).1, cell_grown (g := 0) q (h.2 i hi).2 (fun e => hne (by injection e))⟩⟩
theorem NR.at {w : World} {A : Option Addr} {ga : Nat} {ns : List ByteArray} (h : NR w A ga ns) (i : Nat) (hi : i < ns.length) : A = some ⟨ga, 0, none⟩ ∧ w.cell? ⟨ga, i, none⟩ = some (.string ns[i]) := h.2 i hi
end Go.Proofs.YtlnaeppbhjmocaaDoor
set_option linter.unusedSimpArgs false
set_option linter.unusedVariables false
namespace Go.Proofs.YtlnaeppbhjmocaaDoor
open Go.RowKit Go.Proofs Go.Proofs.YtlnaeppbhjmocaaDoorW.PrintWords Go.Proofs.YtlnaeppbhjmocaaDoorW.PrintMore

theorem OwnB.keep {w w' : World} {B : Nat} {v : Value} {xs : List Int} (h : OwnB w B v xs) {g : Nat} (q : w.grownBy w' (some g)) (hg : g < B) : OwnB w' B v xs :=
  own_keep h q (fun k hk => by have := (h.lt hk).1; omega)
end Go.Proofs.YtlnaeppbhjmocaaDoor
set_option linter.unusedSimpArgs false
set_option linter.unusedVariables false
namespace Go.Proofs.YtlnaeppbhjmocaaDoor
open Go.RowKit Go.Proofs Go.Proofs.YtlnaeppbhjmocaaDoorW.PrintWords Go.Proofs.YtlnaeppbhjmocaaDoorW.PrintMore

/-! ### Leaves in memory -/
theorem bytes_cell {w : World} {gb ob : Nat} {L : List Int} (hA : BytesAt w (some ⟨gb, ob, none⟩) L) (i : Nat) (h : i < L.length) : w.cell? ⟨gb, ob + i, none⟩ = some (.int .u8 (L.getD i 0)) := by
  rcases hA with h' | ⟨g', o', e, _, h'⟩
  · rw [h'] at h; simp at h
  · injection e with e; injection e with e1 e2; subst e1 e2
    rw [show L.getD i 0 = L[i] by simp [List.getD, h]]; exact h' i _ (List.getElem?_eq_getElem h)
def lcell (p : Lf × Value) : List Value := [.string p.1.path, .int .i64 p.1.ty, .int .i64 p.1.mode, .int .u64 p.1.stamp, p.2, .string p.1.tgt]
def lflat (tv : List (Lf × Value)) : List Value := (tv.map lcell).flatten
theorem lflat_snoc (tv : List (Lf × Value)) (p : Lf × Value) : lflat (tv ++ [p]) = lflat tv ++ lcell p := by simp [lflat]
theorem lcell_len (tv : List (Lf × Value)) : ∀ c ∈ tv.map lcell, c.length = 6 := fun c hc => by obtain ⟨p, _, rfl⟩ := List.mem_map.1 hc; rfl
theorem lflat_length (tv : List (Lf × Value)) : (lflat tv).length = tv.length * 6 := by
  have := flat_length (lcell_len tv); simpa [lflat] using this
/-- each leaf's data, a row of the call's own -/
def LO (w : World) (B : Nat) (tv : List (Lf × Value)) : Prop := ∀ p ∈ tv, OwnB w B p.2 p.1.data
theorem LO.nil (w : World) (B : Nat) : LO w B [] := fun p h => by simp at h
theorem LO.fr {w w' : World} {B : Nat} {tv : List (Lf × Value)} (h : LO w B tv) (q : Fr w w') : LO w' B tv := fun p hp => (h p hp).fr q
theorem LO.cells {w w' : World} {B g : Nat} {tv : List (Lf × Value)} {cs : Array Value} {t : TypeId} (h : LO w B tv) (q : w.grownBy w' (some g)) (H : w.heap[g]? = some (.cells cs t (0, 0))) (ht : 5 ≠ t) : LO w' B tv := fun p hp => own_grown (h p hp) q H ht
theorem LO.own {w w' : World} {B b s n : Nat} {tv : List (Lf × Value)} {e : TypeId} {v : Value} {xs : List Value} (h : LO w B tv) (q : w.grownBy w' v.ownBlock) (O : w.ownsRow b e s v n xs) (ht : 5 ≠ e) : LO w' B tv := fun p hp => World.ownsRow.kept (h p hp) q (own_ne2 (h p hp) O ht)
theorem LO.snoc {w : World} {B : Nat} {tv : List (Lf × Value)} {p : Lf × Value} (h : LO w B tv) (hp : OwnB w B p.2 p.1.data) : LO w B (tv ++ [p]) := fun q hq => by
  rcases List.mem_append.1 hq with h1 | h1
  · exact h q h1
  · rw [List.mem_singleton.1 h1]; exact hp
theorem LO.low {w : World} {B B' : Nat} {tv : List (Lf × Value)} (h : LO w B tv) (hb : B' ≤ B) : LO w B' tv := fun p hp => (h p hp).low hb
theorem info_leaf : ∃ i, Tryd.prog.info? 45 = some i ∧ i.zero = some (.agg #[.string ⟨#[]⟩, .int .i64 0, .int .i64 0, .int .u64 0, .slice none 0 0, .string ⟨#[]⟩]) ∧ i.size = 6 ∧ i.bytes = 80 := by
  have : (Tryd.prog.info? 45).map (fun i => (i.zero, i.size, i.bytes)) = some (some (.agg #[.string ⟨#[]⟩, .int .i64 0, .int .i64 0, .int .u64 0, .slice none 0 0, .string ⟨#[]⟩]), 6, 80) := by kernel_rfl
  obtain ⟨i, hi, he⟩ := Option.map_eq_some_iff.1 this
  injection he with e1 e2
  injection e2 with e2 e3
  exact ⟨i, hi, e1, e2, e3⟩

end Go.Proofs.YtlnaeppbhjmocaaDoor
set_option linter.unusedSimpArgs false
set_option linter.unusedVariables false
namespace Go.Proofs.YtlnaeppbhjmocaaDoor
open Go.RowKit Go.Proofs Go.Proofs.YtlnaeppbhjmocaaDoorW.PrintWords Go.Proofs.YtlnaeppbhjmocaaDoorW.PrintMore

end Go.Proofs.YtlnaeppbhjmocaaDoor
set_option linter.unusedSimpArgs false
set_option linter.unusedVariables false
namespace Go.Proofs.YtlnaeppbhjmocaaDoor
def crcBit (x : Nat) : Nat := if x % 2 = 1 then x / 2 ^^^ 3988292384 else x / 2
def crcTab : List Nat := [0, 498536548, 997073096, 651767980, 1994146192, 1802195444, 1303535960, 1342533948, 3988292384, 4027552580, 3604390888, 3412177804, 2607071920, 2262029012, 2685067896, 3183342108]
theorem xor_half (a b : Nat) : (a ^^^ b) / 2 = a / 2 ^^^ b / 2 := by
  have h := Nat.shiftRight_xor_distrib (a := a) (b := b) (i := 1)
  simpa [Nat.shiftRight_succ, Nat.shiftRight_zero] using h
theorem xor_odd (a b : Nat) : (a ^^^ b) % 2 = (a % 2 + b % 2) % 2 := by
  have h := Nat.xor_mod_two_eq_one (a := a) (b := b)
  rcases Nat.mod_two_eq_zero_or_one a with ha | ha <;> rcases Nat.mod_two_eq_zero_or_one b with hb | hb <;> rcases Nat.mod_two_eq_zero_or_one (a ^^^ b) with hc | hc <;> rw [ha, hb, hc] at h <;> rw [ha, hb, hc] <;> simp at h ⊢
theorem crc_bit_any (x : Nat) (c : Nat) : crcBit (x ^^^ c) = crcBit x ^^^ crcBit c := by
  unfold crcBit
  rw [xor_odd, xor_half]
  rcases Nat.mod_two_eq_zero_or_one x with ha | ha <;> rcases Nat.mod_two_eq_zero_or_one c with hb | hb <;> rw [ha, hb]
  · simp
  · simp [Nat.xor_assoc]
  · simp only [Nat.zero_mod, Nat.add_zero, Nat.one_mod, if_true, Nat.reduceMod, Nat.reduceEqDiff, if_false, reduceIte, Nat.zero_ne_one]
    rw [Nat.xor_assoc, Nat.xor_comm (c / 2), Nat.xor_assoc]
  · simp only [Nat.reduceAdd, Nat.reduceMod, reduceIte, Nat.zero_ne_one]
    rw [Nat.xor_assoc, ← Nat.xor_assoc 3988292384, Nat.xor_comm 3988292384, Nat.xor_assoc (c / 2), Nat.xor_self, Nat.xor_zero]
theorem crc_even (h : Nat) : crcBit (2 * h) = h := by
  unfold crcBit; rw [if_neg (by omega)]; omega
theorem split16 (x : Nat) : x = (16 * (x / 16)) ^^^ (x % 16) := by
  have h : x % 16 < 2 ^ 4 := by omega
  have h2 : 2 ^ 4 * (x / 16) + x % 16 = 2 ^ 4 * (x / 16) ||| x % 16 := Nat.two_pow_add_eq_or_of_lt h _
  have h3 : (16 * (x / 16)) ^^^ (x % 16) = 16 * (x / 16) ||| x % 16 := by
    apply Nat.eq_of_testBit_eq
    intro i
    rw [Nat.testBit_xor, Nat.testBit_or]
    by_cases hi : i < 4
    · have : (16 * (x / 16)).testBit i = false := by
        have := Nat.testBit_two_pow_mul (i := 4) (a := x / 16) (j := i)
        simp at this
        rw [this]; simp; omega
      rw [this]; simp
    · have : (x % 16).testBit i = false := Nat.testBit_lt_two_pow (Nat.lt_of_lt_of_le h (Nat.pow_le_pow_right (by decide) (by omega)))
      rw [this]; simp
  rw [h3]
  have : x = 16 * (x / 16) + x % 16 := by omega
  simp only [Nat.reducePow] at h2
  omega
theorem crc_four (x : Nat) : crcBit (crcBit (crcBit (crcBit x))) = x / 16 ^^^ crcTab.getD (x % 16) 0 := by
  have key : ∀ l : Nat, l < 16 → crcBit (crcBit (crcBit (crcBit l))) = crcTab.getD l 0 := by decide
  conv => lhs; rw [split16 x]
  rw [crc_bit_any, crc_bit_any, crc_bit_any, crc_bit_any, key (x % 16) (Nat.mod_lt _ (by decide))]
  congr 1
  rw [show 16 * (x / 16) = 2 * (8 * (x / 16)) by omega, crc_even, show 8 * (x / 16) = 2 * (4 * (x / 16)) by omega, crc_even, show 4 * (x / 16) = 2 * (2 * (x / 16)) by omega, crc_even, crc_even]
end Go.Proofs.YtlnaeppbhjmocaaDoor
