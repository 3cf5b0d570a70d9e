/- A region that draws its order: some operations only look at the world and may come up late (their indices are listed); the others come up in one order alone, and what the first ones look at stands until the last of them. No conditions. -/
import Derived.StillTail
import Derived.BigQuiet
import Derived.Lib.QuietBelow
import Derived.KernelRfl
import Derived.OrdersHeld
import Derived.Deep.RegionHeld3
/- A region that draws its order: its first operations only read or call what yields one value in a class of worlds; those behind them come up in one order alone. No conditions. -/
namespace Go.Proofs.YtefkklgelmbaiaaDoor.Reg
open Go Go.RowKit Go.Sort

section
variable {P : Program} {ops : Array Oper} {md : Region.Mode} {C : World → Prop}

/-- each of the operations e .. n - 1 is waited for by one behind it, up to n -/
def sinkE (md : Region.Mode) (ops : Array Oper) (e n : Nat) : Bool :=
  (List.range n).all fun i => decide (i < e) || (List.range (n + 1)).any fun j => decide (i < j) && Region.waitsFor md ops j i

structure Inv (md : Region.Mode) (ops : Array Oper) (e n : Nat) (listed : Array Bool) : Prop extends HeadInv md ops n listed where
  early : ∀ k, k < e → listed.getD k true = true

theorem tail_waits_e {e n : Nat} {listed : Array Bool} (hs : sinkE md ops e n = true) (hc : Region.chainB md ops n = true) (inv : Inv md ops e n listed) :
    ∀ (d i : Nat), n - i = d → i < n → listed.getD i true = false → ∀ t, n ≤ t → t ∉ Region.ready md ops listed := by
  intro d
  induction d using Nat.strongRecOn with
  | _ d ih =>
    intro i hd hi hun t ht hr
    obtain ⟨_, ot, hot, hall⟩ := mem_ready.1 hr
    have htlt : t < ops.size := (Array.getElem?_eq_some_iff.1 hot).1
    by_cases htn : t = n
    · subst htn
      have h1 := List.all_eq_true.1 hs i (List.mem_range.2 hi)
      simp only [Bool.or_eq_true, decide_eq_true_eq] at h1
      rcases h1 with h1 | h1
      · rw [inv.early i h1] at hun; cases hun
      obtain ⟨j, hj, hj2⟩ := List.any_eq_true.1 h1
      simp only [Bool.and_eq_true, decide_eq_true_eq] at hj2
      obtain ⟨oj, hoj, e, he, hb, hon⟩ := Region.waitsFor_spec hj2.2
      have hjle : j ≤ t := by have := List.mem_range.1 hj; omega
      by_cases hjt : j = t
      · subst hjt
        have : oj = ot := Option.some.inj (hoj.symm.trans hot)
        subst this
        have h2 := hall e he hb
        rw [hon, getD_both hun] at h2
        cases h2
      · cases hl : listed.getD j false with
        | true =>
          have h2 := inv.closed j oj hoj hl e he hb
          rw [hon, getD_both hun] at h2
          cases h2
        | false =>
          have hjs : j < listed.size := by rw [inv.size]; omega
          exact ih (t - j) (by omega) j rfl (by omega) (getD_in hjs hl) t (Nat.le_refl _) hr
    · have h1 := List.all_eq_true.1 hc t (List.mem_range.2 htlt)
      simp only [Bool.or_eq_true, decide_eq_true_eq] at h1
      rcases h1 with h1 | h1
      · omega
      · obtain ⟨o', ho', e, he, hb, hon⟩ := Region.waitsFor_spec h1
        have : o' = ot := Option.some.inj (ho'.symm.trans hot)
        subst this
        have h2 := hall e he hb
        rw [hon, getD_both (inv.tail (t - 1) (by omega) (by omega))] at h2
        cases h2

theorem Inv.set {e n i : Nat} {listed : Array Bool} (inv : Inv md ops e n listed) (hi : i ∈ Region.ready md ops listed) (hin : i < n) : Inv md ops e n (listed.setIfInBounds i true) where
  toHeadInv := inv.toHeadInv.set hi hin
  early k hk := by
    by_cases h : i = k
    · subst h
      have := (mem_ready.1 hi).1
      rw [inv.early i hk] at this
      cases this
    · rw [getD_set_ne true h]; exact inv.early k hk

def wpAnyH (P : Program) (md : Region.Mode) (ops : Array Oper) (C : World → Prop) (n : Nat) (L : Array Bool → Act → Prop) : Nat → Array Bool → Act → Prop
  | 0, listed, a => L listed a
  | f + 1, listed, a =>
    Region.ready md ops listed ≠ [] ∧ ∀ i ∈ Region.ready md ops listed, i < n ∧ qOp P ops C i (wpAnyH P md ops C n L f (listed.setIfInBounds i true)) a

theorem wpAny_of_headQ {n g : Nat} {L : Array Bool → Act → Prop} {Q' : Exit → Act → World → Prop} (hL : ∀ listed a w, C w → L listed a → wpAny P md ops Q' g listed a w) :
    ∀ (f : Nat) (listed : Array Bool) (a : Act) (w : World), C w → wpAnyH P md ops C n L f listed a → wpAny P md ops Q' (f + g) listed a w
  | 0, listed, a, w, hw, h => by rw [Nat.zero_add]; exact hL _ _ _ hw h
  | f + 1, listed, a, w, hw, h => by
    rw [show f + 1 + g = (f + g) + 1 by omega]
    exact ⟨fun h0 => absurd h0 h.1, fun i hi => wpOp_of_qOp hw (fun a' w' hw' h' => wpAny_of_headQ hL f _ a' w' hw' h') (h.2 i hi).2⟩

theorem wpAnyH_first {e n i : Nat} {oi : Oper} {v : Value} {L : Array Bool → Act → Prop} (hi : ops[i]? = some oi) (hsel : ∀ (j : Nat) (o : Oper) cs b, ops[j]? = some o → o.op ≠ .select cs b)
    (hs : sinkE md ops e n = true) (hc : Region.chainB md ops n = true) (hin : i < n)
    (hdone : ∀ listed a, L listed a → ∀ j ∈ Region.ready md ops listed, n ≤ j) :
    ∀ (f : Nat) (listed : Array Bool) (a : Act), Inv md ops e n listed →
      (∀ j oj, ops[j]? = some oj → j ≠ i → listed.getD j true = false → (∀ e ∈ oj.after, Region.binds md e = true → e.on ≠ i) → oi.apart ops oj = true) →
      i ∈ Region.ready md ops listed → YieldsIn P ops C oi v a →
      wpAnyH P md ops C n L f (listed.setIfInBounds i true) (a.put oi.dst v) → wpAnyH P md ops C n L (f + 1) listed a := by
  intro f
  induction f with
  | zero =>
    intro listed a inv _ hr hy H
    have hun := (mem_ready.1 hr).1
    refine ⟨fun h => (by rw [h] at hr; cases hr), fun j hj => ?_⟩
    have hjn : j < n := by
      rcases Nat.lt_or_ge j n with h | h
      · exact h
      · exact absurd hj (tail_waits_e hs hc inv _ i rfl hin hun j h)
    refine ⟨hjn, ?_⟩
    by_cases hji : j = i
    · subst hji; exact hy.qOp hi H
    · have := hdone _ _ H j (ready_mono hj hji)
      omega
  | succ f ih =>
    intro listed a inv hfree hr hy H
    have hun := (mem_ready.1 hr).1
    refine ⟨fun h => (by rw [h] at hr; cases hr), fun j hj => ?_⟩
    have hjn : j < n := by
      rcases Nat.lt_or_ge j n with h | h
      · exact h
      · exact absurd hj (tail_waits_e hs hc inv _ i rfl hin hun j h)
    refine ⟨hjn, ?_⟩
    by_cases hji : j = i
    · subst hji; exact hy.qOp hi H
    · have h1 := (H.2 j (ready_mono hj hji)).2
      obtain ⟨hjun, oj, hoj, hall⟩ := mem_ready.1 hj
      have hnot : ∀ e ∈ oj.after, Region.binds md e = true → e.on ≠ i := fun e he hb heq => by
        have h1 := hall e he hb
        rw [heq, getD_both hun] at h1
        cases h1
      have h2 := qOp_put hoj (hfree j oj hoj hji hjun hnot) (fun cs b => hsel i oi cs b hi) (fun cs b => hsel j oj cs b hoj) hy h1
      have hfree' : ∀ k ok, ops[k]? = some ok → k ≠ i → (listed.setIfInBounds j true).getD k true = false →
          (∀ e ∈ ok.after, Region.binds md e = true → e.on ≠ i) → oi.apart ops ok = true := fun k ok hk hki hun hno => by
        refine hfree k ok hk hki ?_ hno
        by_cases hjk : j = k
        · subst hjk; exact hjun
        · rw [getD_set_ne true hjk] at hun; exact hun
      refine qOp_mono (fun a' h3 => ih (listed.setIfInBounds j true) a' (inv.set hj hjn) hfree' (ready_mono hr (Ne.symm hji)) h3.1 ?_) h2
      rw [Array.setIfInBounds_comm _ _ hji]
      exact h3.2

theorem wpAnyH_lex {e n g : Nat} {Lq : Act → Prop} (hsel : Region.noSelect ops = true) (hs : sinkE md ops e n = true) (hc : Region.chainB md ops n = true) :
    ∀ (l : List Oper) (k : Nat) (listed : Array Bool) (a : Act), (∀ j, j < l.length → l[j]? = ops[k + j]?) → k + l.length = n → Inv md ops e n listed →
    Region.lexHead md ops g l.length k listed = true → wpQuiet P ops C Lq l a →
    wpAnyH P md ops C n (fun listed' a' => Region.seqB md ops g n listed' = true ∧ Lq a') l.length listed a
  | [], k, listed, a, _, hk, _, hB, h => by
    have : k = n := by simpa using hk
    subst this
    exact ⟨by simpa [Region.lexHead] using hB, h⟩
  | o :: l, k, listed, a, hl, hk, inv, hB, h => by
    have h0 : ops[k]? = some o := by simpa using (hl 0 (by simp)).symm
    simp only [List.length_cons, Region.lexHead, Bool.and_eq_true] at hB
    obtain ⟨⟨hr, hf⟩, hB'⟩ := hB
    have hkn : k < n := by simp only [List.length_cons] at hk; omega
    have hr' : k ∈ Region.ready md ops listed := by simpa using hr
    have hst : qOp P ops C k (wpQuiet P ops C Lq l) a := by unfold qOp; simp only [h0]; exact h
    obtain ⟨v, hy, hK⟩ := yieldsIn_of_qOp h0 hst
    exact wpAnyH_first h0 (Region.noSelect_spec hsel) hs hc hkn (fun listed' a' hL => seqB_ready hL.1) l.length listed a inv (Region.free_spec h0 hf) hr' hy
      (wpAnyH_lex hsel hs hc l (k + 1) _ _ (fun j hj => by have := hl (j + 1) (by simp; omega); simpa [Nat.add_assoc, Nat.add_comm 1 j] using this) (by simp only [List.length_cons] at hk; omega) (inv.set hr' hkn) hB' hK)

/-- the first e operations are copies of slots: they may be taken first, whatever comes -/
def earlyB (md : Region.Mode) (ops : Array Oper) : Nat → Nat → Array Bool → Bool
  | 0, _, _ => true
  | e + 1, k, listed => (match ops[k]? with | some ⟨_, .move _, _, _, _, none⟩ => true | _ => false) && (Region.ready md ops listed).contains k && Region.free md ops listed k && earlyB md ops e (k + 1) (listed.setIfInBounds k true)
def earlyL : Nat → Nat → Array Bool → Array Bool
  | 0, _, listed => listed
  | e + 1, k, listed => earlyL e (k + 1) (listed.setIfInBounds k true)
def earlyA : List Oper → Act → Act
  | ⟨d, .move x, _, _, _, _⟩ :: l, a => earlyA l (a.put d (a.eval x))
  | _ :: l, a => earlyA l a
  | [], a => a

def tailB (md : Region.Mode) (ops : Array Oper) (e n : Nat) : Bool :=
  Region.noSelect ops && decide (n < ops.size) && decide (e ≤ n) && sinkE md ops e n && Region.chainB md ops n && earlyB md ops e 0 (Array.replicate ops.size false) && Region.lexHead md ops (ops.size - n) (n - e) e (earlyL e 0 (Array.replicate ops.size false))

theorem wpAny_early {Q : Exit → Act → World → Prop} (hsel : Region.noSelect ops = true) (hQ : ∀ c a d v w, Q (.panic c) (a.put d v) w → Q (.panic c) a w) :
    ∀ (l : List Oper) (k fuel : Nat) (listed : Array Bool) (a : Act) (w : World), (∀ j, j < l.length → l[j]? = ops[k + j]?) → earlyB md ops l.length k listed = true →
      wpAny P md ops Q fuel (earlyL l.length k listed) (earlyA l a) w → wpAny P md ops Q (l.length + fuel) listed a w
  | [], _, fuel, _, _, _, _, _, h => by simpa [earlyL, earlyA] using h
  | o :: l, k, fuel, listed, a, w, hl, hB, h => by
    have h0 : ops[k]? = some o := by simpa using (hl 0 (by simp)).symm
    simp only [List.length_cons, earlyB, h0, Bool.and_eq_true] at hB
    obtain ⟨⟨⟨hm, hr⟩, hf⟩, hB'⟩ := hB
    obtain ⟨d, op, ty, pos, aft, gd⟩ := o
    cases gd <;> cases op <;> first | (simp at hm; done) | skip
    rename_i x
    rw [show (Oper.mk d (.move x) ty pos aft none :: l).length + fuel = (l.length + fuel) + 1 by simp only [List.length_cons]; omega]
    refine wpAny_take (oi := ⟨d, .move x, ty, pos, aft, none⟩) (v := a.eval x) h0 hsel hf hr (fun c a w h => hQ c a _ _ w h) (.inl ⟨by simp [Region.wanted], fun w => BigFrame.run_move (o := ⟨d, .move x, ty, pos, aft, none⟩) x rfl w⟩) ?_
    exact wpAny_early hsel hQ l (k + 1) fuel _ _ w (fun j hj => by have := hl (j + 1) (by simp; omega); simpa [Nat.add_assoc, Nat.add_comm 1 j] using this) hB' h

theorem inv_early {n : Nat} : ∀ (f k : Nat) (listed : Array Bool), k + f ≤ n → Inv md ops k n listed → earlyB md ops f k listed = true → Inv md ops (k + f) n (earlyL f k listed)
  | 0, _, _, _, inv, _ => inv
  | f + 1, k, listed, hk, inv, hB => by
    simp only [earlyB, Bool.and_eq_true] at hB
    obtain ⟨⟨⟨_, hr⟩, _⟩, hB'⟩ := hB
    have hr' : k ∈ Region.ready md ops listed := by simpa using hr
    have inv1 := inv.set hr' (by omega)
    have inv2 : Inv md ops (k + 1) n (listed.setIfInBounds k true) := by
      refine ⟨inv1.toHeadInv, fun j hj => ?_⟩
      by_cases h : j = k
      · subst h
        cases hs : (listed.setIfInBounds j true).getD j true with
        | true => rfl
        | false =>
          rcases Nat.lt_or_ge j listed.size with h' | h'
          · simp [h'] at hs
          · simp [h'] at hs
      · exact inv1.early j (by omega)
    have := inv_early f (k + 1) _ (by omega) inv2 hB'
    rw [show k + (f + 1) = k + 1 + f by omega]
    exact this

theorem wp_region_tail {id : Nat} {Q : Exit → Act → World → Prop} {a : Act} {w : World} {l : List Oper} (e n : Nat) (hm : P.follows .mixedOrders = true) (hB : tailB .any l.toArray e n = true)
    (hQ : ∀ c a d v w, Q (.panic c) (Act.put a d v) w → Q (.panic c) a w) (hC : C { w with drawn := w.drawn + 1 })
    (h : wpQuiet P l.toArray C (fun a' => ∀ w', C w' → wpList P l.toArray Q (l.drop n) a' w') ((l.take n).drop e) (earlyA (l.take e) a)) : (Code.region id l.toArray true).wp P Q a w := by
  simp only [tailB, Bool.and_eq_true, decide_eq_true_eq] at hB
  obtain ⟨⟨⟨⟨⟨⟨hsel, hn⟩, hen⟩, hs⟩, hc⟩, hearly⟩, hlex⟩ := hB
  have hn' : n < l.length := by simpa using hn
  have hte : (l.take e).length = e := by simp; omega
  have htl : ((l.take n).drop e).length = n - e := by simp; omega
  have hdl : (l.drop n).length = l.toArray.size - n := by simp
  have inv0 : Inv .any l.toArray 0 n (Array.replicate l.toArray.size false) :=
    ⟨⟨by simp, fun j oj _ hl => (by rw [getD_replicate_false] at hl; cases hl), fun t _ ht => getD_in (by simpa using ht) (getD_replicate_false _ _)⟩, fun k hk => by omega⟩
  have inv1 := inv_early e 0 _ (by omega) inv0 hearly
  rw [Nat.zero_add] at inv1
  have H := wpAnyH_lex (P := P) (C := C) (md := .any) (g := l.toArray.size - n) hsel hs hc ((l.take n).drop e) e _ (earlyA (l.take e) a) (fun j hj => by
    have hj' : j < n - e := by rw [htl] at hj; exact hj
    rw [List.getElem?_drop, List.getElem?_take, if_pos (by omega)]; simp) (by rw [htl]; omega) inv1 (by rw [htl]; exact hlex) h
  refine wp_region_any hm ?_
  have H2 := wpAny_of_headQ (Q' := Q) (g := l.toArray.size - n) (fun listed a' w' hw' hL => by
    obtain ⟨hq, hL⟩ := hL
    have := wpAny_of_seq (P := P) (Q' := Q) (md := .any) (l.drop n) n listed a' w' (fun j => by simp) (by rw [hdl]; exact hq) (hL w' hw')
    rw [hdl] at this
    exact this) _ _ _ _ hC H
  have H3 := wpAny_early (P := P) (Q := Q) hsel hQ (l.take e) 0 _ (Array.replicate l.toArray.size false) a { w with drawn := w.drawn + 1 } (fun j hj => by
    have hj' : j < e := by rw [hte] at hj; exact hj
    simp [hj']) (by rw [hte]; exact hearly) (by rw [hte]; exact H2)
  rw [hte, htl] at H3
  have hsz : e + (n - e + (l.toArray.size - n)) = l.toArray.size := by omega
  rw [hsz] at H3
  exact H3

/-- .. at the class of all worlds behind w with new blocks and draws -/
theorem wp_region_tail_below {id : Nat} {Q : Exit → Act → World → Prop} {a : Act} {w : World} {l : List Oper} (e n : Nat) (hm : P.follows .mixedOrders = true) (hB : tailB .any l.toArray e n = true)
    (hQ : ∀ c a d v w, Q (.panic c) (Act.put a d v) w → Q (.panic c) a w)
    (h : wpQuiet P l.toArray (fun w' => ∃ p : Regrown, w' = grow (redrawn w p.d) p.os) (fun a' => ∀ w', (∃ p : Regrown, w' = grow (redrawn w p.d) p.os) → wpList P l.toArray Q (l.drop n) a' w') ((l.take n).drop e) (earlyA (l.take e) a)) : (Code.region id l.toArray true).wp P Q a w :=
  wp_region_tail (C := fun w' => ∃ p : Regrown, w' = grow (redrawn w p.d) p.os) e n hm hB hQ ⟨⟨w.drawn + 1, #[]⟩, by rw [grow_empty]; rfl⟩ h

end
end Go.Proofs.YtefkklgelmbaiaaDoor.Reg
/- A region that draws its order: its first e operations look at the world (a load) and may come up late; then quiet operations and calls; then one new block; then a fixed order. No conditions. -/
namespace Go.Proofs.YtefkklgelmbaiaaDoor.Reg
open Go Go.RowKit Go.Sort

section
variable {P : Program} {ops : Array Oper} {md : Region.Mode} {C S : World → Prop} {D : Nat} {Q : Exit → Act → World → Prop}

/-- whatever order is picked, and S holds until D has come up -/
def wpAnyT (P : Program) (md : Region.Mode) (ops : Array Oper) (Q : Exit → Act → World → Prop) (S : World → Prop) (D : Nat) : Nat → Array Bool → Act → World → Prop
  | 0, listed, a, w => Region.ready md ops listed = [] ∧ Q .normal a w
  | f + 1, listed, a, w =>
    (Region.ready md ops listed = [] → Q .normal a w) ∧
    ∀ i ∈ Region.ready md ops listed, wpOp P ops Q i (fun a' w' => ((listed.setIfInBounds i true).getD D true = false → S w') ∧ wpAnyT P md ops Q S D f (listed.setIfInBounds i true) a' w') a w

theorem wpAny_of_T : ∀ (f : Nat) (listed : Array Bool) (a : Act) (w : World), wpAnyT P md ops Q S D f listed a w → wpAny P md ops Q f listed a w
  | 0, _, _, _, h => h
  | f + 1, _, _, _, h => ⟨h.1, fun i hi => wpOp_mono (fun a' w' h' => wpAny_of_T f _ a' w' h'.2) (h.2 i hi)⟩

theorem getD_set_up {listed : Array Bool} {i j : Nat} (h : listed.getD j true = true) : (listed.setIfInBounds i true).getD j true = true := by
  by_cases e : i = j
  · subst e
    rcases Nat.lt_or_ge i listed.size with h' | h'
    · simp [h']
    · simp [h']
  · rw [getD_set_ne true e]; exact h
theorem getD_set_self {listed : Array Bool} {i : Nat} : (listed.setIfInBounds i true).getD i true = true := by
  rcases Nat.lt_or_ge i listed.size with h' | h'
  · simp [h']
  · simp [h']

theorem wpAnyT_of_any : ∀ (f : Nat) (listed : Array Bool) (a : Act) (w : World), listed.getD D true = true → wpAny P md ops Q f listed a w → wpAnyT P md ops Q S D f listed a w
  | 0, _, _, _, _, h => h
  | f + 1, listed, _, _, hD, h => ⟨h.1, fun i hi => wpOp_mono (fun a' w' h' => ⟨fun e => (by rw [getD_set_up hD] at e; cases e), wpAnyT_of_any f _ a' w' (getD_set_up hD) h'⟩) (h.2 i hi)⟩
theorem wpAnyT_of_any_D {f : Nat} {listed : Array Bool} {a : Act} {w : World} (hr : Region.ready md ops listed = [D]) (h : wpAny P md ops Q (f + 1) listed a w) : wpAnyT P md ops Q S D (f + 1) listed a w :=
  ⟨h.1, fun i hi => by
    have : i = D := by rw [hr] at hi; simpa using hi
    subst this
    exact wpOp_mono (fun a' w' h' => ⟨fun e => (by rw [getD_set_self] at e; cases e), wpAnyT_of_any f _ a' w' getD_set_self h'⟩) (h.2 i hi)⟩

def ClosedL (md : Region.Mode) (ops : Array Oper) (listed : Array Bool) : Prop := ∀ j oj, ops[j]? = some oj → listed.getD j false = true → ∀ e ∈ oj.after, Region.binds md e = true → listed.getD e.on false = true
theorem ClosedL.set {i : Nat} {listed : Array Bool} (inv : ClosedL md ops listed) (hi : i ∈ Region.ready md ops listed) : ClosedL md ops (listed.setIfInBounds i true) := by
  obtain ⟨_, oi, hoi, hall⟩ := mem_ready.1 hi
  intro j oj hj hl e he hb
  by_cases hij : i = j
  · subst hij
    have : oj = oi := Option.some.inj (hj.symm.trans hoi)
    subst this
    exact getD_set_true (hall e he hb)
  · rw [getD_set_ne false hij] at hl
    exact getD_set_true (inv j oj hj hl e he hb)
/-- D waits for i, or for one that does -/
def Waits (md : Region.Mode) (ops : Array Oper) (D i : Nat) : Prop := Region.waitsFor md ops D i = true ∨ ∃ k, Region.waitsFor md ops D k = true ∧ Region.waitsFor md ops k i = true
theorem Waits.not_ready {D i : Nat} {listed : Array Bool} (h : Waits md ops D i) (hc : ClosedL md ops listed) (hun : listed.getD i true = false) : D ∉ Region.ready md ops listed := fun hr => by
  obtain ⟨_, oD, hoD, hall⟩ := mem_ready.1 hr
  rcases h with h | ⟨k, h1, h2⟩
  · obtain ⟨oj, hoj, e, he, hb, hon⟩ := Region.waitsFor_spec h
    have : oj = oD := Option.some.inj (hoj.symm.trans hoD)
    subst this
    have h3 := hall e he hb
    rw [hon, getD_both hun] at h3
    cases h3
  · obtain ⟨oj, hoj, e, he, hb, hon⟩ := Region.waitsFor_spec h1
    have : oj = oD := Option.some.inj (hoj.symm.trans hoD)
    subst this
    have h3 := hall e he hb
    rw [hon] at h3
    obtain ⟨ok, hok, e', he', hb', hon'⟩ := Region.waitsFor_spec h2
    have h4 := hc k ok hok h3 e' he' hb'
    rw [hon', getD_both hun] at h4
    cases h4

theorem wpAnyT_first {i : Nat} {oi : Oper} {v : Value} (hi : ops[i]? = some oi) (hw : Waits md ops D i) (hiD : i ≠ D)
    (hsel : ∀ (j : Nat) (o : Oper) cs b, ops[j]? = some o → o.op ≠ .select cs b) (hQ : ∀ c a w, Q (.panic c) (Act.put a oi.dst v) w → Q (.panic c) a w) :
    ∀ (f : Nat) (listed : Array Bool) (a : Act) (w : World),
      (∀ j oj, ops[j]? = some oj → j ≠ i → listed.getD j true = false → (∀ e ∈ oj.after, Region.binds md e = true → e.on ≠ i) → oi.apart ops oj = true) →
      i ∈ Region.ready md ops listed → ClosedL md ops listed → listed.getD D true = false → YieldsIf P ops S oi v a → S w →
      wpAnyT P md ops Q S D f (listed.setIfInBounds i true) (a.put oi.dst v) w → wpAnyT P md ops Q S D (f + 1) listed a w := by
  intro f
  induction f with
  | zero =>
    intro listed a w _ hr _ hD hy hS H
    refine ⟨fun h => (by rw [h] at hr; cases hr), fun j hj => ?_⟩
    by_cases hji : j = i
    · subst hji; exact hy.wpOp hi hS ⟨fun _ => hS, H⟩
    · have := ready_mono hj hji
      rw [H.1] at this
      cases this
  | succ f ih =>
    intro listed a w hfree hr hcl hD hy hS H
    have hun := (mem_ready.1 hr).1
    refine ⟨fun h => (by rw [h] at hr; cases hr), fun j hj => ?_⟩
    by_cases hji : j = i
    · subst hji; exact hy.wpOp hi hS ⟨fun _ => hS, H⟩
    · have h1 := H.2 j (ready_mono hj hji)
      obtain ⟨hjun, oj, hoj, hall⟩ := mem_ready.1 hj
      have hnot : ∀ e ∈ oj.after, Region.binds md e = true → e.on ≠ i := fun e he hb heq => by
        have h1 := hall e he hb
        rw [heq, getD_both hun] at h1
        cases h1
      have hjD : j ≠ D := fun e => by
        subst e
        exact hw.not_ready hcl hun hj
      have h2 := wpOp_putIf (S := S) hoj (hfree j oj hoj hji hjun hnot) (fun cs b => hsel i oi cs b hi) (fun cs b => hsel j oj cs b hoj) hQ hy h1
      have hfree' : ∀ k ok, ops[k]? = some ok → k ≠ i → (listed.setIfInBounds j true).getD k true = false →
          (∀ e ∈ ok.after, Region.binds md e = true → e.on ≠ i) → oi.apart ops ok = true := fun k ok hk hki hun hno => by
        refine hfree k ok hk hki ?_ hno
        by_cases hjk : j = k
        · subst hjk; exact hjun
        · rw [getD_set_ne true hjk] at hun; exact hun
      have hD' : (listed.setIfInBounds j true).getD D true = false := by rw [getD_set_ne true hjD]; exact hD
      have hD'' : ((listed.setIfInBounds i true).setIfInBounds j true).getD D true = false := by rw [getD_set_ne true hjD, getD_set_ne true hiD]; exact hD
      refine wpOp_mono (fun a' w' h3 => ?_) h2
      obtain ⟨hy', hS', h4⟩ := h3
      have hS'' := hS' hD''
      refine ⟨fun _ => hS'', ih (listed.setIfInBounds j true) a' w' hfree' (ready_mono hr (Ne.symm hji)) (hcl.set hj) hD' hy' hS'' ?_⟩
      rw [Array.setIfInBounds_comm _ _ hji]
      exact h4

theorem wpAnyT_of_headQ {n g : Nat} {L : Array Bool → Act → Prop} (hCS : ∀ w, C w → S w) (hL : ∀ listed a w, C w → L listed a → wpAnyT P md ops Q S D g listed a w) :
    ∀ (f : Nat) (listed : Array Bool) (a : Act) (w : World), C w → Reg.wpAnyH P md ops C n L f listed a → wpAnyT P md ops Q S D (f + g) listed a w
  | 0, listed, a, w, hw, h => by rw [Nat.zero_add]; exact hL _ _ _ hw h
  | f + 1, listed, a, w, hw, h => by
    rw [show f + 1 + g = (f + g) + 1 by omega]
    exact ⟨fun h0 => absurd h0 h.1, fun i hi => wpOp_of_qOp hw (fun a' w' hw' h' => ⟨fun _ => hCS w' hw', wpAnyT_of_headQ hCS hL f _ a' w' hw' h'⟩) (h.2 i hi).2⟩

/-- the first operations, each of which yields one value wherever S holds -/
def wpEarlyT (P : Program) (ops : Array Oper) (S : World → Prop) (K : Act → Prop) : List Oper → Act → Prop
  | [], a => K a
  | o :: l, a => ∃ v, (Region.wanted o (yielded ops a.tmps) = true ∧ ∀ w, S w → (execOp a.eval o).run P w = .ok (.value v) w) ∧ wpEarlyT P ops S K l (a.put o.dst v)

def earlyT (md : Region.Mode) (ops : Array Oper) (D : Nat) : Nat → Nat → Array Bool → Bool
  | 0, _, _ => true
  | e + 1, k, listed => decide (k ≠ D) && (Region.waitsFor md ops D k || (List.range ops.size).any fun j => Region.waitsFor md ops D j && Region.waitsFor md ops j k) && (Region.ready md ops listed).contains k && Region.free md ops listed k && earlyT md ops D e (k + 1) (listed.setIfInBounds k true)

theorem wpAnyT_early {K : Act → Prop} (hsel : Region.noSelect ops = true) (hQ : ∀ c a d v w, Q (.panic c) (Act.put a d v) w → Q (.panic c) a w) :
    ∀ (l : List Oper) (k fuel : Nat) (listed : Array Bool) (a : Act) (w : World), (∀ j, j < l.length → l[j]? = ops[k + j]?) → earlyT md ops D l.length k listed = true → ClosedL md ops listed → listed.getD D true = false → S w →
      (∀ a', K a' → wpAnyT P md ops Q S D fuel (earlyL l.length k listed) a' w) → wpEarlyT P ops S K l a → wpAnyT P md ops Q S D (l.length + fuel) listed a w
  | [], _, fuel, _, a, _, _, _, _, _, _, hK, h => by simpa [earlyL] using hK a h
  | o :: l, k, fuel, listed, a, w, hl, hB, hcl, hD, hS, hK, h => by
    have h0 : ops[k]? = some o := by simpa using (hl 0 (by simp)).symm
    simp only [List.length_cons, earlyT, Bool.and_eq_true, decide_eq_true_eq] at hB
    obtain ⟨⟨⟨⟨hkD, hwt⟩, hr⟩, hf⟩, hB'⟩ := hB
    have hwt' : Waits md ops D k := by
      simp only [Bool.or_eq_true, List.any_eq_true, Bool.and_eq_true] at hwt
      rcases hwt with h | ⟨j, _, h⟩
      · exact .inl h
      · exact .inr ⟨j, h⟩
    obtain ⟨v, hy, h⟩ := h
    rw [show (o :: l).length + fuel = (l.length + fuel) + 1 by simp only [List.length_cons]; omega]
    refine wpAnyT_first h0 hwt' hkD (Region.noSelect_spec hsel) (fun c a w h => hQ c a _ _ w h) _ listed a w (Region.free_spec h0 hf) (by simpa using hr) hcl hD (.inl hy) hS ?_
    exact wpAnyT_early hsel hQ l (k + 1) fuel _ _ w (fun j hj => by have := hl (j + 1) (by simp; omega); simpa [Nat.add_assoc, Nat.add_comm 1 j] using this) hB' (hcl.set (by simpa using hr)) (by rw [getD_set_ne true hkD]; exact hD) hS hK h

theorem inv_earlyT {n : Nat} : ∀ (f k : Nat) (listed : Array Bool), k + f ≤ n → Inv md ops k n listed → earlyT md ops D f k listed = true → Inv md ops (k + f) n (earlyL f k listed)
  | 0, _, _, _, inv, _ => inv
  | f + 1, k, listed, hk, inv, hB => by
    simp only [earlyT, Bool.and_eq_true, decide_eq_true_eq] at hB
    obtain ⟨⟨⟨_, hr⟩, _⟩, hB'⟩ := hB
    have hr' : k ∈ Region.ready md ops listed := by simpa using hr
    have inv1 := inv.set hr' (by omega)
    have inv2 : Inv md ops (k + 1) n (listed.setIfInBounds k true) := by
      refine ⟨inv1.toHeadInv, fun j hj => ?_⟩
      by_cases h : j = k
      · subst h; exact getD_set_self
      · exact inv1.early j (by omega)
    have := inv_earlyT f (k + 1) _ (by omega) inv2 hB'
    rw [show k + (f + 1) = k + 1 + f by omega]
    exact this

def tailTB (md : Region.Mode) (ops : Array Oper) (e n : Nat) : Bool :=
  Region.noSelect ops && decide (n + 1 < ops.size) && decide (e ≤ n) && sinkE md ops e n && Region.chainB md ops n && earlyT md ops (n + 1) e 0 (Array.replicate ops.size false) && Region.lexHead md ops (ops.size - n) (n - e) e (earlyL e 0 (Array.replicate ops.size false))

/-- what the operation that makes the block leaves, and what follows it -/
def BlockThen (P : Program) (ops : Array Oper) (on : Oper) (K : Act → World → Prop) (a : Act) (w : World) : Prop :=
  Region.wanted on (yielded ops a.tmps) = true ∧ ∃ v o, (execOp a.eval on).run P w = .ok (.value v) (w.alloc o) ∧ K (a.put on.dst v) (w.alloc o)

theorem wp_region_tailT {id : Nat} {a : Act} {w : World} {l : List Oper} (e n : Nat) (hm : P.follows .mixedOrders = true) (hB : tailTB .any l.toArray e n = true)
    (on : Oper) (hon : l[n]? = some on) (hC : C { w with drawn := w.drawn + 1 }) (hCS : ∀ w, C w → S w) (hSa : ∀ w o, S w → S (w.alloc o))
    (h : wpEarlyT P l.toArray S (fun a1 => wpQuiet P l.toArray C (fun a' => ∀ w', C w' → BlockThen P l.toArray on (wpList P l.toArray (NoPanic Q) (l.drop (n + 1))) a' w') ((l.take n).drop e) a1) (l.take e) a) : (Code.region id l.toArray true).wp P Q a w := by
  simp only [tailTB, Bool.and_eq_true, decide_eq_true_eq] at hB
  obtain ⟨⟨⟨⟨⟨⟨hsel, hn⟩, hen⟩, hs⟩, hc⟩, hearly⟩, hlex⟩ := hB
  have hn' : n + 1 < l.length := by simpa using hn
  have hte : (l.take e).length = e := by simp; omega
  have htl : ((l.take n).drop e).length = n - e := by simp; omega
  have hdl : (l.drop (n + 1)).length = l.toArray.size - (n + 1) := by simp
  have inv0 : Inv .any l.toArray 0 n (Array.replicate l.toArray.size false) :=
    ⟨⟨by simp, fun j oj _ hl => (by rw [getD_replicate_false] at hl; cases hl), fun t _ ht => getD_in (by simpa using ht) (getD_replicate_false _ _)⟩, fun k hk => by omega⟩
  have inv1 := inv_earlyT (D := n + 1) e 0 _ (by omega) inv0 hearly
  rw [Nat.zero_add] at inv1
  refine wp_region_noPanic (wp_region_any hm (wpAny_of_T (S := S) (D := n + 1) _ _ _ _ ?_))
  have hsz : e + (n - e + (l.toArray.size - n)) = l.toArray.size := by omega
  have H3 := wpAnyT_early (P := P) (md := .any) (Q := NoPanic Q) (S := S) (D := n + 1) hsel (fun _ _ _ _ _ h => h) (l.take e) 0 (n - e + (l.toArray.size - n)) (Array.replicate l.toArray.size false) a { w with drawn := w.drawn + 1 } (fun j hj => by
    have hj' : j < e := by rw [hte] at hj; exact hj
    simp [hj']) (by rw [hte]; exact hearly) inv0.closed (getD_in (by simpa using hn) (getD_replicate_false _ _)) (hCS _ hC) (fun a1 h1 => ?_) h
  · rw [hte, hsz] at H3
    exact H3
  · rw [hte]
    have H := wpAnyH_lex (P := P) (C := C) (md := .any) (g := l.toArray.size - n) hsel hs hc ((l.take n).drop e) e _ a1 (fun j hj => by
      have hj' : j < n - e := by rw [htl] at hj; exact hj
      rw [List.getElem?_drop, List.getElem?_take, if_pos (by omega)]; simp) (by rw [htl]; omega) inv1 (by rw [htl]; exact hlex) h1
    rw [htl] at H
    refine wpAnyT_of_headQ hCS (fun listed a' w' hw' hL => ?_) _ _ _ _ hC H
    obtain ⟨hq, hL⟩ := hL
    obtain ⟨hwant, v, o, hrun, hrest⟩ := hL w' hw'
    rw [show l.toArray.size - n = (l.toArray.size - (n + 1)) + 1 by omega] at hq ⊢
    simp only [Region.seqB, Bool.and_eq_true, decide_eq_true_eq] at hq
    obtain ⟨hr, hq⟩ := hq
    have hany := wpAny_of_seq (P := P) (Q' := NoPanic Q) (md := .any) (l.drop (n + 1)) (n + 1) (listed.setIfInBounds n true) _ _ (fun j => by simp) (by rw [hdl]; exact hq) hrest
    rw [hdl] at hany
    have hg : l.toArray.size - (n + 1) = (l.toArray.size - (n + 1) - 1) + 1 := by omega
    refine ⟨fun h0 => (by rw [hr] at h0; cases h0), fun i hi => ?_⟩
    have : i = n := by rw [hr] at hi; simpa using hi
    subst this
    have hT : wpAnyT P .any l.toArray (NoPanic Q) S (i + 1) (l.toArray.size - (i + 1)) (listed.setIfInBounds i true) (a'.put on.dst v) (w'.alloc o) := by
      rw [hg] at hany hq ⊢
      simp only [Region.seqB, Bool.and_eq_true, decide_eq_true_eq] at hq
      exact wpAnyT_of_any_D hq.1 hany
    unfold wpOp
    simp only [List.getElem?_toArray, hon, hwant, if_true]
    refine .inl ?_
    unfold Oper.wp
    rw [hrun]
    exact ⟨fun _ => hSa _ _ (hCS _ hw'), hT⟩
/-- .. at the class of all worlds behind w with new blocks and draws; S: a cell of w holds its value -/
theorem wp_region_tailT_below {id : Nat} {a : Act} {w : World} {l : List Oper} (e n : Nat) (p : Addr) (v : Value) (hm : P.follows .mixedOrders = true) (hB : tailTB .any l.toArray e n = true)
    (on : Oper) (hon : l[n]? = some on) (hp : w.cell? p = some v)
    (h : wpEarlyT P l.toArray (fun w' => w'.cell? p = some v) (fun a1 => wpQuiet P l.toArray (fun w' => ∃ r : Regrown, w' = grow (redrawn w r.d) r.os) (fun a' => ∀ w', (∃ r : Regrown, w' = grow (redrawn w r.d) r.os) → BlockThen P l.toArray on (wpList P l.toArray (NoPanic Q) (l.drop (n + 1))) a' w') ((l.take n).drop e) a1) (l.take e) a) : (Code.region id l.toArray true).wp P Q a w :=
  wp_region_tailT (C := fun w' => ∃ r : Regrown, w' = grow (redrawn w r.d) r.os) (S := fun w' => w'.cell? p = some v) e n hm hB on hon ⟨⟨w.drawn + 1, #[]⟩, by rw [grow_empty]; rfl⟩
    (fun w' ⟨r, e⟩ => by subst e; exact cell_regrown hp r.d r.os) (fun w' o h => by rw [World.cell?_alloc_old _ _ _ (Nat.ne_of_lt (World.block_lt_of_cell? w' p h))]; exact h) h
end
end Go.Proofs.YtefkklgelmbaiaaDoor.Reg
namespace Go.Proofs.YtefkklgelmbaiaaDoor.Reg
open Go Go.RowKit Go.Sort

section
variable {P : Program} {ops : Array Oper} {md : Region.Mode} {S : World → Prop} {D : Nat} {Q : Exit → Act → World → Prop}

def lateL : List Nat → Array Bool → Array Bool
  | [], listed => listed
  | k :: qs, listed => lateL qs (listed.setIfInBounds k true)
def lateT (md : Region.Mode) (ops : Array Oper) (D : Nat) : List Nat → Array Bool → Bool
  | [], _ => true
  | k :: qs, listed => decide (k ≠ D) && (Region.waitsFor md ops D k || (List.range ops.size).any fun j => Region.waitsFor md ops D j && Region.waitsFor md ops j k) && (Region.ready md ops listed).contains k && Region.free md ops listed k && lateT md ops D qs (listed.setIfInBounds k true)
def seqI (md : Region.Mode) (ops : Array Oper) : List Nat → Array Bool → Bool
  | [], listed => decide (Region.ready md ops listed = [])
  | k :: rest, listed => decide (Region.ready md ops listed = [k]) && seqI md ops rest (listed.setIfInBounds k true)
def wpLateT (P : Program) (ops : Array Oper) (S : World → Prop) (K : Act → Prop) : List Nat → Act → Prop
  | [], a => K a
  | k :: qs, a => ∃ o, ops[k]? = some o ∧ ∃ v, YieldsIf P ops S o v a ∧ wpLateT P ops S K qs (a.put o.dst v)
def wpMainT (P : Program) (ops : Array Oper) (Q : Exit → Act → World → Prop) (S : World → Prop) (D : Nat) : List Nat → Act → World → Prop
  | [], a, w => Q .normal a w
  | k :: rest, a, w => wpOp P ops Q k (fun a' w' => (k = D ∨ S w') ∧ wpMainT P ops Q S D rest a' w') a w

theorem wpAnyT_main : ∀ (rest : List Nat) (listed : Array Bool) (a : Act) (w : World), seqI md ops rest listed = true → wpMainT P ops Q S D rest a w → wpAnyT P md ops Q S D rest.length listed a w
  | [], _, _, _, hB, h => ⟨by simpa [seqI] using hB, h⟩
  | k :: rest, listed, a, w, hB, h => by
    simp only [seqI, Bool.and_eq_true, decide_eq_true_eq] at hB
    refine ⟨fun h1 => (by rw [hB.1] at h1; cases h1), fun i hi => ?_⟩
    rw [hB.1] at hi
    have hik : i = k := by simpa using hi
    subst hik
    refine wpOp_mono (fun a' w' h' => ⟨fun hD => h'.1.resolve_left (fun e => ?_), wpAnyT_main rest _ a' w' hB.2 h'.2⟩) h
    subst e
    rw [getD_set_self] at hD
    cases hD

theorem wpAnyT_late {K : Act → Prop} (hsel : Region.noSelect ops = true) (hQ : ∀ c a d v w, Q (.panic c) (Act.put a d v) w → Q (.panic c) a w) :
    ∀ (qs : List Nat) (fuel : Nat) (listed : Array Bool) (a : Act) (w : World), lateT md ops D qs listed = true → ClosedL md ops listed → listed.getD D true = false → S w →
      (∀ a', K a' → wpAnyT P md ops Q S D fuel (lateL qs listed) a' w) → wpLateT P ops S K qs a → wpAnyT P md ops Q S D (qs.length + fuel) listed a w
  | [], fuel, _, a, _, _, _, _, _, hK, h => by simpa [lateL] using hK a h
  | k :: qs, fuel, listed, a, w, hB, hcl, hD, hS, hK, h => by
    obtain ⟨o, h0, v, hy, h⟩ := h
    simp only [lateT, Bool.and_eq_true, decide_eq_true_eq] at hB
    obtain ⟨⟨⟨⟨hkD, hwt⟩, hr⟩, hf⟩, hB'⟩ := hB
    have hwt' : Waits md ops D k := by
      simp only [Bool.or_eq_true, List.any_eq_true, Bool.and_eq_true] at hwt
      rcases hwt with h | ⟨j, _, h⟩
      · exact .inl h
      · exact .inr ⟨j, h⟩
    rw [show (k :: qs).length + fuel = (qs.length + fuel) + 1 by simp only [List.length_cons]; omega]
    refine wpAnyT_first h0 hwt' hkD (Region.noSelect_spec hsel) (fun c a w h => hQ c a _ _ w h) _ listed a w (Region.free_spec h0 hf) (by simpa using hr) hcl hD hy hS ?_
    exact wpAnyT_late hsel hQ qs fuel _ _ w hB' (hcl.set (by simpa using hr)) (by rw [getD_set_ne true hkD]; exact hD) hS hK h

def lateB (md : Region.Mode) (ops : Array Oper) (D : Nat) (qs rest : List Nat) : Bool :=
  Region.noSelect ops && decide (D < ops.size) && decide (qs.length + rest.length = ops.size) && lateT md ops D qs (Array.replicate ops.size false) && seqI md ops rest (lateL qs (Array.replicate ops.size false))

theorem wp_region_late {id : Nat} {a : Act} {w : World} (S : World → Prop) (D : Nat) (qs rest : List Nat) (hm : P.follows .mixedOrders = true) (hB : lateB .any ops D qs rest = true) (hS : S w.drew)
    (h : wpLateT P ops S (fun a' => wpMainT P ops (NoPanic Q) S D rest a' w.drew) qs a) : (Code.region id ops true).wp P Q a w := by
  simp only [lateB, Bool.and_eq_true, decide_eq_true_eq] at hB
  obtain ⟨⟨⟨⟨hsel, hD⟩, hsz⟩, hlate⟩, hseq⟩ := hB
  refine wp_region_noPanic (wp_region_any hm (wpAny_of_T (S := S) (D := D) _ _ _ _ ?_))
  rw [← hsz]
  refine wpAnyT_late (md := .any) hsel (fun _ _ _ _ _ h => h) qs rest.length _ a _ ?_ ?_ ?_ hS (fun a' h' => wpAnyT_main rest _ a' _ ?_ h') h
  · rw [hsz]; exact hlate
  · rw [hsz]
    intro j oj _ hl
    rw [getD_replicate_false] at hl; cases hl
  · rw [hsz]
    exact getD_in (by simpa using hD) (getD_replicate_false _ _)
  · rw [hsz]; exact hseq

theorem wpLateT_step {k : Nat} {qs : List Nat} {a : Act} {o : Oper} {v : Value} {K : Act → Prop} (ho : ops[k]? = some o) (hw : Region.wanted o (yielded ops a.tmps) = true) (hr : ∀ w, S w → (execOp a.eval o).run P w = .ok (.value v) w) (h : wpLateT P ops S K qs (a.put o.dst v)) : wpLateT P ops S K (k :: qs) a :=
  ⟨o, ho, v, .inl ⟨hw, hr⟩, h⟩
/-- one step of the forced order, by its run -/
theorem wpOp_run {k : Nat} {o : Oper} {v : Value} {a : Act} {w w' : World} {K : Act → World → Prop} (ho : ops[k]? = some o) (hw : Region.wanted o (yielded ops a.tmps) = true) (hr : (execOp a.eval o).run P w = .ok (.value v) w') (h : K (a.put o.dst v) w') : wpOp P ops Q k K a w := by
  unfold wpOp
  simp only [ho, hw, if_true]
  left
  unfold Oper.wp
  rw [hr]
  exact h
theorem wpOp_skip {k : Nat} {o : Oper} {a : Act} {w w' : World} {K : Act → World → Prop} (ho : ops[k]? = some o) (hw : Region.wanted o (yielded ops a.tmps) = true) (hr : (execOp a.eval o).run P w = .ok .skip w') (h : K (a.put o.dst undef) w') : wpOp P ops Q k K a w := by
  unfold wpOp
  simp only [ho, hw, if_true]
  left
  unfold Oper.wp
  rw [hr]
  exact h
theorem wpMainT_run {k : Nat} {rest : List Nat} {o : Oper} {v : Value} {a : Act} {w w' : World} (ho : ops[k]? = some o) (hw : Region.wanted o (yielded ops a.tmps) = true) (hr : (execOp a.eval o).run P w = .ok (.value v) w') (hS : k = D ∨ S w') (h : wpMainT P ops Q S D rest (a.put o.dst v) w') : wpMainT P ops Q S D (k :: rest) a w :=
  wpOp_run ho hw hr ⟨hS, h⟩
theorem wpMainT_skip {k : Nat} {rest : List Nat} {o : Oper} {a : Act} {w w' : World} (ho : ops[k]? = some o) (hw : Region.wanted o (yielded ops a.tmps) = true) (hr : (execOp a.eval o).run P w = .ok .skip w') (hS : k = D ∨ S w') (h : wpMainT P ops Q S D rest (a.put o.dst undef) w') : wpMainT P ops Q S D (k :: rest) a w :=
  wpOp_skip ho hw hr ⟨hS, h⟩
theorem wpMainT_append {k : Nat} {rest : List Nat} {o : Oper} {a : Act} {w : World} (hk : ops[k]? = some o) (hgd : o.guard = none) (s x : Operand) (t1 t2 : TypeId)
    (ho : o.op = .call { callee := .builtin .append, args := #[s, x], argTypes := #[t1, t2] }) {v u v' : Value} {w' : World} (hs : a.eval s = v) (hx : a.eval x = u)
    (hr : (Builtin.append_ #[t1, t2] o.type #[v, u]).run P w = .ok v' w') (hS : k = D ∨ S w') (h : wpMainT P ops Q S D rest (a.put o.dst v') w') : wpMainT P ops Q S D (k :: rest) a w := by
  have hw : Region.wanted o (yielded ops a.tmps) = true := by simp [Region.wanted, hgd]
  refine wpOp_run hk hw ?_ ⟨hS, h⟩
  unfold execOp
  simp only [ho, resolve, invoke, builtin, Sem.run_bind, Sem.run_pure, Result.andThen_ok, List.map_toArray, List.map_cons, List.map_nil, hs, hx, hr]
theorem wpMainT_nil {a : Act} {w : World} (h : Q .normal a w) : wpMainT P ops (NoPanic Q) S D [] a w := NoPanic.normal h
end
end Go.Proofs.YtefkklgelmbaiaaDoor.Reg
