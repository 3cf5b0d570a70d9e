/- A region that draws its order: its first operations only read or call what yields one value in a class of worlds; those behind them come up in one order alone. No conditions. -/
import Derived.StillTail
import Derived.BigQuiet
import Derived.Lib.QuietBelow
import Derived.KernelRfl
namespace Go.Proofs.YtioapjnaopnhaaaDoor.Reg
open Go Go.RowKit Go.Sort

section
variable {P : Program} {ops : Array Oper} {md : Region.Mode} {C : World → Prop}

/-- each of the operations e .. n - 1 is waited for by one behind it, up to n -/
def sinkE (md : Region.Mode) (ops : Array Oper) (e n : Nat) : Bool :=
  (List.range n).all fun i => decide (i < e) || (List.range (n + 1)).any fun j => decide (i < j) && Region.waitsFor md ops j i

structure Inv (md : Region.Mode) (ops : Array Oper) (e n : Nat) (listed : Array Bool) : Prop extends HeadInv md ops n listed where
  early : ∀ k, k < e → listed.getD k true = true

theorem tail_waits_e {e n : Nat} {listed : Array Bool} (hs : sinkE md ops e n = true) (hc : Region.chainB md ops n = true) (inv : Inv md ops e n listed) :
    ∀ (d i : Nat), n - i = d → i < n → listed.getD i true = false → ∀ t, n ≤ t → t ∉ Region.ready md ops listed := by
  intro d
  induction d using Nat.strongRecOn with
  | _ d ih =>
    intro i hd hi hun t ht hr
    obtain ⟨_, ot, hot, hall⟩ := mem_ready.1 hr
    have htlt : t < ops.size := (Array.getElem?_eq_some_iff.1 hot).1
    by_cases htn : t = n
    · subst htn
      have h1 := List.all_eq_true.1 hs i (List.mem_range.2 hi)
      simp only [Bool.or_eq_true, decide_eq_true_eq] at h1
      rcases h1 with h1 | h1
      · rw [inv.early i h1] at hun; cases hun
      obtain ⟨j, hj, hj2⟩ := List.any_eq_true.1 h1
      simp only [Bool.and_eq_true, decide_eq_true_eq] at hj2
      obtain ⟨oj, hoj, e, he, hb, hon⟩ := Region.waitsFor_spec hj2.2
      have hjle : j ≤ t := by have := List.mem_range.1 hj; omega
      by_cases hjt : j = t
      · subst hjt
        have : oj = ot := Option.some.inj (hoj.symm.trans hot)
        subst this
        have h2 := hall e he hb
        rw [hon, getD_both hun] at h2
        cases h2
      · cases hl : listed.getD j false with
        | true =>
          have h2 := inv.closed j oj hoj hl e he hb
          rw [hon, getD_both hun] at h2
          cases h2
        | false =>
          have hjs : j < listed.size := by rw [inv.size]; omega
          exact ih (t - j) (by omega) j rfl (by omega) (getD_in hjs hl) t (Nat.le_refl _) hr
    · have h1 := List.all_eq_true.1 hc t (List.mem_range.2 htlt)
      simp only [Bool.or_eq_true, decide_eq_true_eq] at h1
      rcases h1 with h1 | h1
      · omega
      · obtain ⟨o', ho', e, he, hb, hon⟩ := Region.waitsFor_spec h1
        have : o' = ot := Option.some.inj (ho'.symm.trans hot)
        subst this
        have h2 := hall e he hb
        rw [hon, getD_both (inv.tail (t - 1) (by omega) (by omega))] at h2
        cases h2

theorem Inv.set {e n i : Nat} {listed : Array Bool} (inv : Inv md ops e n listed) (hi : i ∈ Region.ready md ops listed) (hin : i < n) : Inv md ops e n (listed.setIfInBounds i true) where
  toHeadInv := inv.toHeadInv.set hi hin
  early k hk := by
    by_cases h : i = k
    · subst h
      have := (mem_ready.1 hi).1
      rw [inv.early i hk] at this
      cases this
    · rw [getD_set_ne true h]; exact inv.early k hk

def wpAnyH (P : Program) (md : Region.Mode) (ops : Array Oper) (C : World → Prop) (n : Nat) (L : Array Bool → Act → Prop) : Nat → Array Bool → Act → Prop
  | 0, listed, a => L listed a
  | f + 1, listed, a =>
    Region.ready md ops listed ≠ [] ∧ ∀ i ∈ Region.ready md ops listed, i < n ∧ qOp P ops C i (wpAnyH P md ops C n L f (listed.setIfInBounds i true)) a

theorem wpAny_of_headQ {n g : Nat} {L : Array Bool → Act → Prop} {Q' : Exit → Act → World → Prop} (hL : ∀ listed a w, C w → L listed a → wpAny P md ops Q' g listed a w) :
    ∀ (f : Nat) (listed : Array Bool) (a : Act) (w : World), C w → wpAnyH P md ops C n L f listed a → wpAny P md ops Q' (f + g) listed a w
  | 0, listed, a, w, hw, h => by rw [Nat.zero_add]; exact hL _ _ _ hw h
  | f + 1, listed, a, w, hw, h => by
    rw [show f + 1 + g = (f + g) + 1 by omega]
    exact ⟨fun h0 => absurd h0 h.1, fun i hi => wpOp_of_qOp hw (fun a' w' hw' h' => wpAny_of_headQ hL f _ a' w' hw' h') (h.2 i hi).2⟩

theorem wpAnyH_first {e n i : Nat} {oi : Oper} {v : Value} {L : Array Bool → Act → Prop} (hi : ops[i]? = some oi) (hsel : ∀ (j : Nat) (o : Oper) cs b, ops[j]? = some o → o.op ≠ .select cs b)
    (hs : sinkE md ops e n = true) (hc : Region.chainB md ops n = true) (hin : i < n)
    (hdone : ∀ listed a, L listed a → ∀ j ∈ Region.ready md ops listed, n ≤ j) :
    ∀ (f : Nat) (listed : Array Bool) (a : Act), Inv md ops e n listed →
      (∀ j oj, ops[j]? = some oj → j ≠ i → listed.getD j true = false → (∀ e ∈ oj.after, Region.binds md e = true → e.on ≠ i) → oi.apart ops oj = true) →
      i ∈ Region.ready md ops listed → YieldsIn P ops C oi v a →
      wpAnyH P md ops C n L f (listed.setIfInBounds i true) (a.put oi.dst v) → wpAnyH P md ops C n L (f + 1) listed a := by
  intro f
  induction f with
  | zero =>
    intro listed a inv _ hr hy H
    have hun := (mem_ready.1 hr).1
    refine ⟨fun h => (by rw [h] at hr; cases hr), fun j hj => ?_⟩
    have hjn : j < n := by
      rcases Nat.lt_or_ge j n with h | h
      · exact h
      · exact absurd hj (tail_waits_e hs hc inv _ i rfl hin hun j h)
    refine ⟨hjn, ?_⟩
    by_cases hji : j = i
    · subst hji; exact hy.qOp hi H
    · have := hdone _ _ H j (ready_mono hj hji)
      omega
  | succ f ih =>
    intro listed a inv hfree hr hy H
    have hun := (mem_ready.1 hr).1
    refine ⟨fun h => (by rw [h] at hr; cases hr), fun j hj => ?_⟩
    have hjn : j < n := by
      rcases Nat.lt_or_ge j n with h | h
      · exact h
      · exact absurd hj (tail_waits_e hs hc inv _ i rfl hin hun j h)
    refine ⟨hjn, ?_⟩
    by_cases hji : j = i
    · subst hji; exact hy.qOp hi H
    · have h1 := (H.2 j (ready_mono hj hji)).2
      obtain ⟨hjun, oj, hoj, hall⟩ := mem_ready.1 hj
      have hnot : ∀ e ∈ oj.after, Region.binds md e = true → e.on ≠ i := fun e he hb heq => by
        have h1 := hall e he hb
        rw [heq, getD_both hun] at h1
        cases h1
      have h2 := qOp_put hoj (hfree j oj hoj hji hjun hnot) (fun cs b => hsel i oi cs b hi) (fun cs b => hsel j oj cs b hoj) hy h1
      have hfree' : ∀ k ok, ops[k]? = some ok → k ≠ i → (listed.setIfInBounds j true).getD k true = false →
          (∀ e ∈ ok.after, Region.binds md e = true → e.on ≠ i) → oi.apart ops ok = true := fun k ok hk hki hun hno => by
        refine hfree k ok hk hki ?_ hno
        by_cases hjk : j = k
        · subst hjk; exact hjun
        · rw [getD_set_ne true hjk] at hun; exact hun
      refine qOp_mono (fun a' h3 => ih (listed.setIfInBounds j true) a' (inv.set hj hjn) hfree' (ready_mono hr (Ne.symm hji)) h3.1 ?_) h2
      rw [Array.setIfInBounds_comm _ _ hji]
      exact h3.2

theorem wpAnyH_lex {e n g : Nat} {Lq : Act → Prop} (hsel : Region.noSelect ops = true) (hs : sinkE md ops e n = true) (hc : Region.chainB md ops n = true) :
    ∀ (l : List Oper) (k : Nat) (listed : Array Bool) (a : Act), (∀ j, j < l.length → l[j]? = ops[k + j]?) → k + l.length = n → Inv md ops e n listed →
    Region.lexHead md ops g l.length k listed = true → wpQuiet P ops C Lq l a →
    wpAnyH P md ops C n (fun listed' a' => Region.seqB md ops g n listed' = true ∧ Lq a') l.length listed a
  | [], k, listed, a, _, hk, _, hB, h => by
    have : k = n := by simpa using hk
    subst this
    exact ⟨by simpa [Region.lexHead] using hB, h⟩
  | o :: l, k, listed, a, hl, hk, inv, hB, h => by
    have h0 : ops[k]? = some o := by simpa using (hl 0 (by simp)).symm
    simp only [List.length_cons, Region.lexHead, Bool.and_eq_true] at hB
    obtain ⟨⟨hr, hf⟩, hB'⟩ := hB
    have hkn : k < n := by simp only [List.length_cons] at hk; omega
    have hr' : k ∈ Region.ready md ops listed := by simpa using hr
    have hst : qOp P ops C k (wpQuiet P ops C Lq l) a := by unfold qOp; simp only [h0]; exact h
    obtain ⟨v, hy, hK⟩ := yieldsIn_of_qOp h0 hst
    exact wpAnyH_first h0 (Region.noSelect_spec hsel) hs hc hkn (fun listed' a' hL => seqB_ready hL.1) l.length listed a inv (Region.free_spec h0 hf) hr' hy
      (wpAnyH_lex hsel hs hc l (k + 1) _ _ (fun j hj => by have := hl (j + 1) (by simp; omega); simpa [Nat.add_assoc, Nat.add_comm 1 j] using this) (by simp only [List.length_cons] at hk; omega) (inv.set hr' hkn) hB' hK)

/-- the first e operations are copies of slots: they may be taken first, whatever comes -/
def earlyB (md : Region.Mode) (ops : Array Oper) : Nat → Nat → Array Bool → Bool
  | 0, _, _ => true
  | e + 1, k, listed => (match ops[k]? with | some ⟨_, .move _, _, _, _, none⟩ => true | _ => false) && (Region.ready md ops listed).contains k && Region.free md ops listed k && earlyB md ops e (k + 1) (listed.setIfInBounds k true)
def earlyL : Nat → Nat → Array Bool → Array Bool
  | 0, _, listed => listed
  | e + 1, k, listed => earlyL e (k + 1) (listed.setIfInBounds k true)
def earlyA : List Oper → Act → Act
  | ⟨d, .move x, _, _, _, _⟩ :: l, a => earlyA l (a.put d (a.eval x))
  | _ :: l, a => earlyA l a
  | [], a => a

def tailB (md : Region.Mode) (ops : Array Oper) (e n : Nat) : Bool :=
  Region.noSelect ops && decide (n < ops.size) && decide (e ≤ n) && sinkE md ops e n && Region.chainB md ops n && earlyB md ops e 0 (Array.replicate ops.size false) && Region.lexHead md ops (ops.size - n) (n - e) e (earlyL e 0 (Array.replicate ops.size false))

theorem wpAny_early {Q : Exit → Act → World → Prop} (hsel : Region.noSelect ops = true) (hQ : ∀ c a d v w, Q (.panic c) (a.put d v) w → Q (.panic c) a w) :
    ∀ (l : List Oper) (k fuel : Nat) (listed : Array Bool) (a : Act) (w : World), (∀ j, j < l.length → l[j]? = ops[k + j]?) → earlyB md ops l.length k listed = true →
      wpAny P md ops Q fuel (earlyL l.length k listed) (earlyA l a) w → wpAny P md ops Q (l.length + fuel) listed a w
  | [], _, fuel, _, _, _, _, _, h => by simpa [earlyL, earlyA] using h
  | o :: l, k, fuel, listed, a, w, hl, hB, h => by
    have h0 : ops[k]? = some o := by simpa using (hl 0 (by simp)).symm
    simp only [List.length_cons, earlyB, h0, Bool.and_eq_true] at hB
    obtain ⟨⟨⟨hm, hr⟩, hf⟩, hB'⟩ := hB
    obtain ⟨d, op, ty, pos, aft, gd⟩ := o
    cases gd <;> cases op <;> first | (simp at hm; done) | skip
    rename_i x
    rw [show (Oper.mk d (.move x) ty pos aft none :: l).length + fuel = (l.length + fuel) + 1 by simp only [List.length_cons]; omega]
    refine wpAny_take (oi := ⟨d, .move x, ty, pos, aft, none⟩) (v := a.eval x) h0 hsel hf hr (fun c a w h => hQ c a _ _ w h) (.inl ⟨by simp [Region.wanted], fun w => BigFrame.run_move (o := ⟨d, .move x, ty, pos, aft, none⟩) x rfl w⟩) ?_
    exact wpAny_early hsel hQ l (k + 1) fuel _ _ w (fun j hj => by have := hl (j + 1) (by simp; omega); simpa [Nat.add_assoc, Nat.add_comm 1 j] using this) hB' h

theorem inv_early {n : Nat} : ∀ (f k : Nat) (listed : Array Bool), k + f ≤ n → Inv md ops k n listed → earlyB md ops f k listed = true → Inv md ops (k + f) n (earlyL f k listed)
  | 0, _, _, _, inv, _ => inv
  | f + 1, k, listed, hk, inv, hB => by
    simp only [earlyB, Bool.and_eq_true] at hB
    obtain ⟨⟨⟨_, hr⟩, _⟩, hB'⟩ := hB
    have hr' : k ∈ Region.ready md ops listed := by simpa using hr
    have inv1 := inv.set hr' (by omega)
    have inv2 : Inv md ops (k + 1) n (listed.setIfInBounds k true) := by
      refine ⟨inv1.toHeadInv, fun j hj => ?_⟩
      by_cases h : j = k
      · subst h
        cases hs : (listed.setIfInBounds j true).getD j true with
        | true => rfl
        | false =>
          rcases Nat.lt_or_ge j listed.size with h' | h'
          · simp [h'] at hs
          · simp [h'] at hs
      · exact inv1.early j (by omega)
    have := inv_early f (k + 1) _ (by omega) inv2 hB'
    rw [show k + (f + 1) = k + 1 + f by omega]
    exact this

theorem wp_region_tail {id : Nat} {Q : Exit → Act → World → Prop} {a : Act} {w : World} {l : List Oper} (e n : Nat) (hm : P.follows .mixedOrders = true) (hB : tailB .any l.toArray e n = true)
    (hQ : ∀ c a d v w, Q (.panic c) (Act.put a d v) w → Q (.panic c) a w) (hC : C { w with drawn := w.drawn + 1 })
    (h : wpQuiet P l.toArray C (fun a' => ∀ w', C w' → wpList P l.toArray Q (l.drop n) a' w') ((l.take n).drop e) (earlyA (l.take e) a)) : (Code.region id l.toArray true).wp P Q a w := by
  simp only [tailB, Bool.and_eq_true, decide_eq_true_eq] at hB
  obtain ⟨⟨⟨⟨⟨⟨hsel, hn⟩, hen⟩, hs⟩, hc⟩, hearly⟩, hlex⟩ := hB
  have hn' : n < l.length := by simpa using hn
  have hte : (l.take e).length = e := by simp; omega
  have htl : ((l.take n).drop e).length = n - e := by simp; omega
  have hdl : (l.drop n).length = l.toArray.size - n := by simp
  have inv0 : Inv .any l.toArray 0 n (Array.replicate l.toArray.size false) :=
    ⟨⟨by simp, fun j oj _ hl => (by rw [getD_replicate_false] at hl; cases hl), fun t _ ht => getD_in (by simpa using ht) (getD_replicate_false _ _)⟩, fun k hk => by omega⟩
  have inv1 := inv_early e 0 _ (by omega) inv0 hearly
  rw [Nat.zero_add] at inv1
  have H := wpAnyH_lex (P := P) (C := C) (md := .any) (g := l.toArray.size - n) hsel hs hc ((l.take n).drop e) e _ (earlyA (l.take e) a) (fun j hj => by
    have hj' : j < n - e := by rw [htl] at hj; exact hj
    rw [List.getElem?_drop, List.getElem?_take, if_pos (by omega)]; simp) (by rw [htl]; omega) inv1 (by rw [htl]; exact hlex) h
  refine wp_region_any hm ?_
  have H2 := wpAny_of_headQ (Q' := Q) (g := l.toArray.size - n) (fun listed a' w' hw' hL => by
    obtain ⟨hq, hL⟩ := hL
    have := wpAny_of_seq (P := P) (Q' := Q) (md := .any) (l.drop n) n listed a' w' (fun j => by simp) (by rw [hdl]; exact hq) (hL w' hw')
    rw [hdl] at this
    exact this) _ _ _ _ hC H
  have H3 := wpAny_early (P := P) (Q := Q) hsel hQ (l.take e) 0 _ (Array.replicate l.toArray.size false) a { w with drawn := w.drawn + 1 } (fun j hj => by
    have hj' : j < e := by rw [hte] at hj; exact hj
    simp [hj']) (by rw [hte]; exact hearly) (by rw [hte]; exact H2)
  rw [hte, htl] at H3
  have hsz : e + (n - e + (l.toArray.size - n)) = l.toArray.size := by omega
  rw [hsz] at H3
  exact H3

/-- .. at the class of all worlds behind w with new blocks and draws -/
theorem wp_region_tail_below {id : Nat} {Q : Exit → Act → World → Prop} {a : Act} {w : World} {l : List Oper} (e n : Nat) (hm : P.follows .mixedOrders = true) (hB : tailB .any l.toArray e n = true)
    (hQ : ∀ c a d v w, Q (.panic c) (Act.put a d v) w → Q (.panic c) a w)
    (h : wpQuiet P l.toArray (fun w' => ∃ p : Regrown, w' = grow (redrawn w p.d) p.os) (fun a' => ∀ w', (∃ p : Regrown, w' = grow (redrawn w p.d) p.os) → wpList P l.toArray Q (l.drop n) a' w') ((l.take n).drop e) (earlyA (l.take e) a)) : (Code.region id l.toArray true).wp P Q a w :=
  wp_region_tail (C := fun w' => ∃ p : Regrown, w' = grow (redrawn w p.d) p.os) e n hm hB hQ ⟨⟨w.drawn + 1, #[]⟩, by rw [grow_empty]; rfl⟩ h

end
end Go.Proofs.YtioapjnaopnhaaaDoor.Reg
