/- strings.ContainsAny(s, "/\x00") at every string s, bytes that are no UTF-8 among them (the shelf has it on ASCII alone). -/
import Derived.StillTail
import Derived.BigQuiet
import Derived.Lib.QuietBelow
import Derived.KernelRfl
import Derived.Test.YtefkklgelmbaiaaDoorShelf
import Derived.WalkKit
import Derived.WalkSpells
import Derived.WalkLawsBesides
import Derived.Deep.QuietTactic
import Derived.Deep.RegionHeld3
import Derived.Deep.DeepFit
import Derived.Lib.Hide
import Derived.Lib.ItoaLen
import Derived.Test.YtefkklgelmbaiaaDoorPPackx3
import Derived.Test.YtefkklgelmbaiaaDoorPgoodChunksx1
import Derived.Test.YtefkklgelmbaiaaDoorPgoodBlockx1
import Derived.IntWalk
import Derived.OrdersHeld
import Derived.Laws.RangeString
import Derived.Laws.Runes
import Derived.Laws.Strings3
import Derived.Lib.DecodeN
import Derived.Lib.IndexAny
import Derived.Lib.IndexBytes
import Derived.Deep.LoopGhost
import Derived.WalkMore
namespace Go.Proofs.YtefkklgelmbaiaaDoor.Reg
open Go Go.RowKit Go.Sort

section
variable {P : Program} {ops : Array Oper} {md : Region.Mode} {C : World → Prop}

/-- each of the operations e .. n - 1 is waited for by one behind it, up to n -/
def sinkE (md : Region.Mode) (ops : Array Oper) (e n : Nat) : Bool :=
  (List.range n).all fun i => decide (i < e) || (List.range (n + 1)).any fun j => decide (i < j) && Region.waitsFor md ops j i

structure Inv (md : Region.Mode) (ops : Array Oper) (e n : Nat) (listed : Array Bool) : Prop extends HeadInv md ops n listed where
  early : ∀ k, k < e → listed.getD k true = true

theorem tail_waits_e {e n : Nat} {listed : Array Bool} (hs : sinkE md ops e n = true) (hc : Region.chainB md ops n = true) (inv : Inv md ops e n listed) :
    ∀ (d i : Nat), n - i = d → i < n → listed.getD i true = false → ∀ t, n ≤ t → t ∉ Region.ready md ops listed := by
  intro d
  induction d using Nat.strongRecOn with
  | _ d ih =>
    intro i hd hi hun t ht hr
    obtain ⟨_, ot, hot, hall⟩ := mem_ready.1 hr
    have htlt : t < ops.size := (Array.getElem?_eq_some_iff.1 hot).1
    by_cases htn : t = n
    · subst htn
      have h1 := List.all_eq_true.1 hs i (List.mem_range.2 hi)
      simp only [Bool.or_eq_true, decide_eq_true_eq] at h1
      rcases h1 with h1 | h1
      · rw [inv.early i h1] at hun; cases hun
      obtain ⟨j, hj, hj2⟩ := List.any_eq_true.1 h1
      simp only [Bool.and_eq_true, decide_eq_true_eq] at hj2
      obtain ⟨oj, hoj, e, he, hb, hon⟩ := Region.waitsFor_spec hj2.2
      have hjle : j ≤ t := by have := List.mem_range.1 hj; omega
      by_cases hjt : j = t
      · subst hjt
        have : oj = ot := Option.some.inj (hoj.symm.trans hot)
        subst this
        have h2 := hall e he hb
        rw [hon, getD_both hun] at h2
        cases h2
      · cases hl : listed.getD j false with
        | true =>
          have h2 := inv.closed j oj hoj hl e he hb
          rw [hon, getD_both hun] at h2
          cases h2
        | false =>
          have hjs : j < listed.size := by rw [inv.size]; omega
          exact ih (t - j) (by omega) j rfl (by omega) (getD_in hjs hl) t (Nat.le_refl _) hr
    · have h1 := List.all_eq_true.1 hc t (List.mem_range.2 htlt)
      simp only [Bool.or_eq_true, decide_eq_true_eq] at h1
      rcases h1 with h1 | h1
      · omega
      · obtain ⟨o', ho', e, he, hb, hon⟩ := Region.waitsFor_spec h1
        have : o' = ot := Option.some.inj (ho'.symm.trans hot)
        subst this
        have h2 := hall e he hb
        rw [hon, getD_both (inv.tail (t - 1) (by omega) (by omega))] at h2
        cases h2

theorem Inv.set {e n i : Nat} {listed : Array Bool} (inv : Inv md ops e n listed) (hi : i ∈ Region.ready md ops listed) (hin : i < n) : Inv md ops e n (listed.setIfInBounds i true) where
  toHeadInv := inv.toHeadInv.set hi hin
  early k hk := by
    by_cases h : i = k
    · subst h
      have := (mem_ready.1 hi).1
      rw [inv.early i hk] at this
      cases this
    · rw [getD_set_ne true h]; exact inv.early k hk

def wpAnyH (P : Program) (md : Region.Mode) (ops : Array Oper) (C : World → Prop) (n : Nat) (L : Array Bool → Act → Prop) : Nat → Array Bool → Act → Prop
  | 0, listed, a => L listed a
  | f + 1, listed, a =>
    Region.ready md ops listed ≠ [] ∧ ∀ i ∈ Region.ready md ops listed, i < n ∧ qOp P ops C i (wpAnyH P md ops C n L f (listed.setIfInBounds i true)) a

theorem wpAny_of_headQ {n g : Nat} {L : Array Bool → Act → Prop} {Q' : Exit → Act → World → Prop} (hL : ∀ listed a w, C w → L listed a → wpAny P md ops Q' g listed a w) :
    ∀ (f : Nat) (listed : Array Bool) (a : Act) (w : World), C w → wpAnyH P md ops C n L f listed a → wpAny P md ops Q' (f + g) listed a w
  | 0, listed, a, w, hw, h => by rw [Nat.zero_add]; exact hL _ _ _ hw h
  | f + 1, listed, a, w, hw, h => by
    rw [show f + 1 + g = (f + g) + 1 by omega]
    exact ⟨fun h0 => absurd h0 h.1, fun i hi => wpOp_of_qOp hw (fun a' w' hw' h' => wpAny_of_headQ hL f _ a' w' hw' h') (h.2 i hi).2⟩

theorem wpAnyH_first {e n i : Nat} {oi : Oper} {v : Value} {L : Array Bool → Act → Prop} (hi : ops[i]? = some oi) (hsel : ∀ (j : Nat) (o : Oper) cs b, ops[j]? = some o → o.op ≠ .select cs b)
    (hs : sinkE md ops e n = true) (hc : Region.chainB md ops n = true) (hin : i < n)
    (hdone : ∀ listed a, L listed a → ∀ j ∈ Region.ready md ops listed, n ≤ j) :
    ∀ (f : Nat) (listed : Array Bool) (a : Act), Inv md ops e n listed →
      (∀ j oj, ops[j]? = some oj → j ≠ i → listed.getD j true = false → (∀ e ∈ oj.after, Region.binds md e = true → e.on ≠ i) → oi.apart ops oj = true) →
      i ∈ Region.ready md ops listed → YieldsIn P ops C oi v a →
      wpAnyH P md ops C n L f (listed.setIfInBounds i true) (a.put oi.dst v) → wpAnyH P md ops C n L (f + 1) listed a := by
  intro f
  induction f with
  | zero =>
    intro listed a inv _ hr hy H
    have hun := (mem_ready.1 hr).1
    refine ⟨fun h => (by rw [h] at hr; cases hr), fun j hj => ?_⟩
    have hjn : j < n := by
      rcases Nat.lt_or_ge j n with h | h
      · exact h
      · exact absurd hj (tail_waits_e hs hc inv _ i rfl hin hun j h)
    refine ⟨hjn, ?_⟩
    by_cases hji : j = i
    · subst hji; exact hy.qOp hi H
    · have := hdone _ _ H j (ready_mono hj hji)
      omega
  | succ f ih =>
    intro listed a inv hfree hr hy H
    have hun := (mem_ready.1 hr).1
    refine ⟨fun h => (by rw [h] at hr; cases hr), fun j hj => ?_⟩
    have hjn : j < n := by
      rcases Nat.lt_or_ge j n with h | h
      · exact h
      · exact absurd hj (tail_waits_e hs hc inv _ i rfl hin hun j h)
    refine ⟨hjn, ?_⟩
    by_cases hji : j = i
    · subst hji; exact hy.qOp hi H
    · have h1 := (H.2 j (ready_mono hj hji)).2
      obtain ⟨hjun, oj, hoj, hall⟩ := mem_ready.1 hj
      have hnot : ∀ e ∈ oj.after, Region.binds md e = true → e.on ≠ i := fun e he hb heq => by
        have h1 := hall e he hb
        rw [heq, getD_both hun] at h1
        cases h1
      have h2 := qOp_put hoj (hfree j oj hoj hji hjun hnot) (fun cs b => hsel i oi cs b hi) (fun cs b => hsel j oj cs b hoj) hy h1
      have hfree' : ∀ k ok, ops[k]? = some ok → k ≠ i → (listed.setIfInBounds j true).getD k true = false →
          (∀ e ∈ ok.after, Region.binds md e = true → e.on ≠ i) → oi.apart ops ok = true := fun k ok hk hki hun hno => by
        refine hfree k ok hk hki ?_ hno
        by_cases hjk : j = k
        · subst hjk; exact hjun
        · rw [getD_set_ne true hjk] at hun; exact hun
      refine qOp_mono (fun a' h3 => ih (listed.setIfInBounds j true) a' (inv.set hj hjn) hfree' (ready_mono hr (Ne.symm hji)) h3.1 ?_) h2
      rw [Array.setIfInBounds_comm _ _ hji]
      exact h3.2

theorem wpAnyH_lex {e n g : Nat} {Lq : Act → Prop} (hsel : Region.noSelect ops = true) (hs : sinkE md ops e n = true) (hc : Region.chainB md ops n = true) :
    ∀ (l : List Oper) (k : Nat) (listed : Array Bool) (a : Act), (∀ j, j < l.length → l[j]? = ops[k + j]?) → k + l.length = n → Inv md ops e n listed →
    Region.lexHead md ops g l.length k listed = true → wpQuiet P ops C Lq l a →
    wpAnyH P md ops C n (fun listed' a' => Region.seqB md ops g n listed' = true ∧ Lq a') l.length listed a
  | [], k, listed, a, _, hk, _, hB, h => by
    have : k = n := by simpa using hk
    subst this
    exact ⟨by simpa [Region.lexHead] using hB, h⟩
  | o :: l, k, listed, a, hl, hk, inv, hB, h => by
    have h0 : ops[k]? = some o := by simpa using (hl 0 (by simp)).symm
    simp only [List.length_cons, Region.lexHead, Bool.and_eq_true] at hB
    obtain ⟨⟨hr, hf⟩, hB'⟩ := hB
    have hkn : k < n := by simp only [List.length_cons] at hk; omega
    have hr' : k ∈ Region.ready md ops listed := by simpa using hr
    have hst : qOp P ops C k (wpQuiet P ops C Lq l) a := by unfold qOp; simp only [h0]; exact h
    obtain ⟨v, hy, hK⟩ := yieldsIn_of_qOp h0 hst
    exact wpAnyH_first h0 (Region.noSelect_spec hsel) hs hc hkn (fun listed' a' hL => seqB_ready hL.1) l.length listed a inv (Region.free_spec h0 hf) hr' hy
      (wpAnyH_lex hsel hs hc l (k + 1) _ _ (fun j hj => by have := hl (j + 1) (by simp; omega); simpa [Nat.add_assoc, Nat.add_comm 1 j] using this) (by simp only [List.length_cons] at hk; omega) (inv.set hr' hkn) hB' hK)

/-- the first e operations are copies of slots: they may be taken first, whatever comes -/
def earlyB (md : Region.Mode) (ops : Array Oper) : Nat → Nat → Array Bool → Bool
  | 0, _, _ => true
  | e + 1, k, listed => (match ops[k]? with | some ⟨_, .move _, _, _, _, none⟩ => true | _ => false) && (Region.ready md ops listed).contains k && Region.free md ops listed k && earlyB md ops e (k + 1) (listed.setIfInBounds k true)
def earlyL : Nat → Nat → Array Bool → Array Bool
  | 0, _, listed => listed
  | e + 1, k, listed => earlyL e (k + 1) (listed.setIfInBounds k true)
def earlyA : List Oper → Act → Act
  | ⟨d, .move x, _, _, _, _⟩ :: l, a => earlyA l (a.put d (a.eval x))
  | _ :: l, a => earlyA l a
  | [], a => a

def tailB (md : Region.Mode) (ops : Array Oper) (e n : Nat) : Bool :=
  Region.noSelect ops && decide (n < ops.size) && decide (e ≤ n) && sinkE md ops e n && Region.chainB md ops n && earlyB md ops e 0 (Array.replicate ops.size false) && Region.lexHead md ops (ops.size - n) (n - e) e (earlyL e 0 (Array.replicate ops.size false))

theorem wpAny_early {Q : Exit → Act → World → Prop} (hsel : Region.noSelect ops = true) (hQ : ∀ c a d v w, Q (.panic c) (a.put d v) w → Q (.panic c) a w) :
    ∀ (l : List Oper) (k fuel : Nat) (listed : Array Bool) (a : Act) (w : World), (∀ j, j < l.length → l[j]? = ops[k + j]?) → earlyB md ops l.length k listed = true →
      wpAny P md ops Q fuel (earlyL l.length k listed) (earlyA l a) w → wpAny P md ops Q (l.length + fuel) listed a w
  | [], _, fuel, _, _, _, _, _, h => by simpa [earlyL, earlyA] using h
  | o :: l, k, fuel, listed, a, w, hl, hB, h => by
    have h0 : ops[k]? = some o := by simpa using (hl 0 (by simp)).symm
    simp only [List.length_cons, earlyB, h0, Bool.and_eq_true] at hB
    obtain ⟨⟨⟨hm, hr⟩, hf⟩, hB'⟩ := hB
    obtain ⟨d, op, ty, pos, aft, gd⟩ := o
    cases gd <;> cases op <;> first | (simp at hm; done) | skip
    rename_i x
    rw [show (Oper.mk d (.move x) ty pos aft none :: l).length + fuel = (l.length + fuel) + 1 by simp only [List.length_cons]; omega]
    refine wpAny_take (oi := ⟨d, .move x, ty, pos, aft, none⟩) (v := a.eval x) h0 hsel hf hr (fun c a w h => hQ c a _ _ w h) (.inl ⟨by simp [Region.wanted], fun w => BigFrame.run_move (o := ⟨d, .move x, ty, pos, aft, none⟩) x rfl w⟩) ?_
    exact wpAny_early hsel hQ l (k + 1) fuel _ _ w (fun j hj => by have := hl (j + 1) (by simp; omega); simpa [Nat.add_assoc, Nat.add_comm 1 j] using this) hB' h

theorem inv_early {n : Nat} : ∀ (f k : Nat) (listed : Array Bool), k + f ≤ n → Inv md ops k n listed → earlyB md ops f k listed = true → Inv md ops (k + f) n (earlyL f k listed)
  | 0, _, _, _, inv, _ => inv
  | f + 1, k, listed, hk, inv, hB => by
    simp only [earlyB, Bool.and_eq_true] at hB
    obtain ⟨⟨⟨_, hr⟩, _⟩, hB'⟩ := hB
    have hr' : k ∈ Region.ready md ops listed := by simpa using hr
    have inv1 := inv.set hr' (by omega)
    have inv2 : Inv md ops (k + 1) n (listed.setIfInBounds k true) := by
      refine ⟨inv1.toHeadInv, fun j hj => ?_⟩
      by_cases h : j = k
      · subst h
        cases hs : (listed.setIfInBounds j true).getD j true with
        | true => rfl
        | false =>
          rcases Nat.lt_or_ge j listed.size with h' | h'
          · simp [h'] at hs
          · simp [h'] at hs
      · exact inv1.early j (by omega)
    have := inv_early f (k + 1) _ (by omega) inv2 hB'
    rw [show k + (f + 1) = k + 1 + f by omega]
    exact this

theorem wp_region_tail {id : Nat} {Q : Exit → Act → World → Prop} {a : Act} {w : World} {l : List Oper} (e n : Nat) (hm : P.follows .mixedOrders = true) (hB : tailB .any l.toArray e n = true)
    (hQ : ∀ c a d v w, Q (.panic c) (Act.put a d v) w → Q (.panic c) a w) (hC : C { w with drawn := w.drawn + 1 })
    (h : wpQuiet P l.toArray C (fun a' => ∀ w', C w' → wpList P l.toArray Q (l.drop n) a' w') ((l.take n).drop e) (earlyA (l.take e) a)) : (Code.region id l.toArray true).wp P Q a w := by
  simp only [tailB, Bool.and_eq_true, decide_eq_true_eq] at hB
  obtain ⟨⟨⟨⟨⟨⟨hsel, hn⟩, hen⟩, hs⟩, hc⟩, hearly⟩, hlex⟩ := hB
  have hn' : n < l.length := by simpa using hn
  have hte : (l.take e).length = e := by simp; omega
  have htl : ((l.take n).drop e).length = n - e := by simp; omega
  have hdl : (l.drop n).length = l.toArray.size - n := by simp
  have inv0 : Inv .any l.toArray 0 n (Array.replicate l.toArray.size false) :=
    ⟨⟨by simp, fun j oj _ hl => (by rw [getD_replicate_false] at hl; cases hl), fun t _ ht => getD_in (by simpa using ht) (getD_replicate_false _ _)⟩, fun k hk => by omega⟩
  have inv1 := inv_early e 0 _ (by omega) inv0 hearly
  rw [Nat.zero_add] at inv1
  have H := wpAnyH_lex (P := P) (C := C) (md := .any) (g := l.toArray.size - n) hsel hs hc ((l.take n).drop e) e _ (earlyA (l.take e) a) (fun j hj => by
    have hj' : j < n - e := by rw [htl] at hj; exact hj
    rw [List.getElem?_drop, List.getElem?_take, if_pos (by omega)]; simp) (by rw [htl]; omega) inv1 (by rw [htl]; exact hlex) h
  refine wp_region_any hm ?_
  have H2 := wpAny_of_headQ (Q' := Q) (g := l.toArray.size - n) (fun listed a' w' hw' hL => by
    obtain ⟨hq, hL⟩ := hL
    have := wpAny_of_seq (P := P) (Q' := Q) (md := .any) (l.drop n) n listed a' w' (fun j => by simp) (by rw [hdl]; exact hq) (hL w' hw')
    rw [hdl] at this
    exact this) _ _ _ _ hC H
  have H3 := wpAny_early (P := P) (Q := Q) hsel hQ (l.take e) 0 _ (Array.replicate l.toArray.size false) a { w with drawn := w.drawn + 1 } (fun j hj => by
    have hj' : j < e := by rw [hte] at hj; exact hj
    simp [hj']) (by rw [hte]; exact hearly) (by rw [hte]; exact H2)
  rw [hte, htl] at H3
  have hsz : e + (n - e + (l.toArray.size - n)) = l.toArray.size := by omega
  rw [hsz] at H3
  exact H3

/-- .. at the class of all worlds behind w with new blocks and draws -/
theorem wp_region_tail_below {id : Nat} {Q : Exit → Act → World → Prop} {a : Act} {w : World} {l : List Oper} (e n : Nat) (hm : P.follows .mixedOrders = true) (hB : tailB .any l.toArray e n = true)
    (hQ : ∀ c a d v w, Q (.panic c) (Act.put a d v) w → Q (.panic c) a w)
    (h : wpQuiet P l.toArray (fun w' => ∃ p : Regrown, w' = grow (redrawn w p.d) p.os) (fun a' => ∀ w', (∃ p : Regrown, w' = grow (redrawn w p.d) p.os) → wpList P l.toArray Q (l.drop n) a' w') ((l.take n).drop e) (earlyA (l.take e) a)) : (Code.region id l.toArray true).wp P Q a w :=
  wp_region_tail (C := fun w' => ∃ p : Regrown, w' = grow (redrawn w p.d) p.os) e n hm hB hQ ⟨⟨w.drawn + 1, #[]⟩, by rw [grow_empty]; rfl⟩ h

end
end Go.Proofs.YtefkklgelmbaiaaDoor.Reg
namespace Go.Proofs.YtefkklgelmbaiaaDoor
open Go.RowKit Go.Proofs

theorem var_below {P : Program} {w w' : World} {n : String} {g : Nat} {cs : Array Value} (hg : P.globalNamed n = some g) (hb : Below w.heap.size w w') (h : w.var? P n = some cs) : w'.var? P n = some cs := by
  have hlt : g < w.heap.size := by
    simp only [World.var?, hg, Option.bind_some] at h
    split at h
    · rename_i heq; exact (Array.getElem?_eq_some_iff.1 heq).1
    · cases h
  exact var?_below hb hg hlt h

/-- the package-level tables are as laid -/
structure Ok (w : World) : Prop where
  fType : w.var? Tryd.prog "shale/node.fieldType" = some #[.int .i64 0, .int .i64 1]
  fParent : w.var? Tryd.prog "shale/node.fieldParent" = some #[.int .i64 1, .int .i64 4]
  fSize : w.var? Tryd.prog "shale/node.fieldSize" = some #[.int .i64 5, .int .i64 4]
  fMode : w.var? Tryd.prog "shale/node.fieldMode" = some #[.int .i64 9, .int .i64 2]
  fStamp : w.var? Tryd.prog "shale/node.fieldStamp" = some #[.int .i64 11, .int .i64 8]
  fShadow : w.var? Tryd.prog "shale/node.fieldShadow" = some #[.int .i64 19, .int .i64 4]

theorem gFType : Tryd.prog.globalNamed "shale/node.fieldType" = some 0 := by kernel_rfl
theorem gFParent : Tryd.prog.globalNamed "shale/node.fieldParent" = some 1 := by kernel_rfl
theorem gFSize : Tryd.prog.globalNamed "shale/node.fieldSize" = some 2 := by kernel_rfl
theorem gFMode : Tryd.prog.globalNamed "shale/node.fieldMode" = some 3 := by kernel_rfl
theorem gFStamp : Tryd.prog.globalNamed "shale/node.fieldStamp" = some 4 := by kernel_rfl
theorem gFShadow : Tryd.prog.globalNamed "shale/node.fieldShadow" = some 5 := by kernel_rfl

theorem Ok.below {w w' : World} (h : Ok w) (hb : Below w.heap.size w w') : Ok w' where
  fType := var_below gFType hb h.fType
  fParent := var_below gFParent hb h.fParent
  fSize := var_below gFSize hb h.fSize
  fMode := var_below gFMode hb h.fMode
  fStamp := var_below gFStamp hb h.fStamp
  fShadow := var_below gFShadow hb h.fShadow

/-- w' is w with new blocks and draws; all is laid as it was. -/
structure Fr (w w' : World) : Prop where
  below : Below w.heap.size w w'
  ok : Ok w'

theorem Fr.refl {w : World} (h : Ok w) : Fr w w := ⟨Below.refl _ _, h⟩
theorem Fr.trans {a b c : World} (h : Fr a b) (k : Fr b c) : Fr a c := ⟨h.below.trans (k.below.mono h.below.size), k.ok⟩
theorem Fr.of {w w' : World} (h : Ok w) (hb : Below w.heap.size w w') : Fr w w' := ⟨hb, h.below hb⟩
theorem Fr.alloc {a w : World} (h : Fr a w) (o : Obj) : Fr a (w.alloc o) := h.trans (Fr.of h.ok ((Below.refl _ _).alloc (Nat.le_refl _) _))
theorem Fr.drew {a w : World} (h : Fr a w) : Fr a w.drew := h.trans (Fr.of h.ok (Below.refl _ _).drew)
theorem Fr.cell {w w' : World} (h : Fr w w') {p : Addr} {v : Value} (hc : w.cell? p = some v) : w'.cell? p = some v :=
  (h.below.cell (World.block_lt_of_cell? w p hc)).trans hc
theorem Fr.size {w w' : World} (h : Fr w w') : w.heap.size ≤ w'.heap.size := h.below.size
theorem Fr.heap {w w' : World} (h : Fr w w') {k : Nat} {o : Obj} (hk : w.heap[k]? = some o) : w'.heap[k]? = some o :=
  (h.below.block k (Array.getElem?_eq_some_iff.1 hk).1).trans hk
theorem Fr.grown {w : World} (h : Ok w) {w' : World} (hw : ∃ k os, w' = Sort.grow (w.drewN k) os) : Fr w w' := by
  obtain ⟨k, os, rfl⟩ := hw
  refine Fr.of h ⟨rfl, rfl, rfl, by simp [Sort.grow], fun i hi => ?_⟩
  simp [Sort.grow, Array.getElem?_append, hi]
theorem Fr.regrown {w w' : World} (h : Ok w) (hw : ∃ p : Regrown, w' = Sort.grow (redrawn w p.d) p.os) : Fr w w' := by
  obtain ⟨p, rfl⟩ := hw; exact Fr.of h (below_regrown w p.d p.os)
theorem okR {w : World} (h : Ok w) (d : Nat) (os : Array Obj) : Ok (Sort.grow (redrawn w d) os) := h.below (below_regrown w d os)
theorem qfr {P : Program} {f : FuncId} {args : Array Value} {w : World} {d : Nat} {os : Array Obj} {v : Value}
    (h : Calls P f args (Sort.grow (redrawn w d) os) fun e w' => e = .returned v ∧ Fr (Sort.grow (redrawn w d) os) w') : Calls P f args (Sort.grow (redrawn w d) os) fun e w'' => e = .returned v ∧ ∃ p : Regrown, w'' = Sort.grow (redrawn w p.d) p.os :=
  Calls.regrown_of (h.mono fun _ _ ⟨he, hb⟩ => ⟨he, hb.below⟩)

theorem boxedN {w : World} (h : Ok w) (cs : Array Value) (t : TypeId) : ∃ w1 g, w.heap.size = g ∧ w.alloc (.cells cs t) = w1 ∧ Fr w w1 ∧ g < w1.heap.size ∧ w1.heap[g]? = some (.cells cs t (0, 0)) :=
  ⟨_, _, rfl, rfl, (Fr.refl h).alloc _, by simp, heap_alloc_new w _⟩
theorem blk_cell {g j : Nat} {w : World} {cs : Array Value} {t : TypeId} {fz : Nat × Nat} {v : Value} (hg : w.heap[g]? = some (.cells cs t fz)) (hj : cs[j]? = some v) : w.cell? ⟨g, j, none⟩ = some v := by
  simp [World.cell?, hg, hj]
theorem blk1 {w : World} {g : Nat} {v0 : Value} {t : TypeId} {fz : Nat × Nat} (h : w.heap[g]? = some (.cells #[v0] t fz)) : w.cell? ⟨g, 0, none⟩ = some v0 := blk_cell h rfl
theorem blk2 {w : World} {g : Nat} {v0 v1 : Value} {t : TypeId} {fz : Nat × Nat} (h : w.heap[g]? = some (.cells #[v0, v1] t fz)) : w.cell? ⟨g, 0, none⟩ = some v0 ∧ w.cell? ⟨g, 1, none⟩ = some v1 :=
  ⟨blk_cell h rfl, blk_cell h rfl⟩
theorem blk3 {w : World} {g : Nat} {v0 v1 v2 : Value} {t : TypeId} {fz : Nat × Nat} (h : w.heap[g]? = some (.cells #[v0, v1, v2] t fz)) : w.cell? ⟨g, 0, none⟩ = some v0 ∧ w.cell? ⟨g, 1, none⟩ = some v1 ∧ w.cell? ⟨g, 2, none⟩ = some v2 :=
  ⟨blk_cell h rfl, blk_cell h rfl, blk_cell h rfl⟩
theorem blk4 {w : World} {g : Nat} {v0 v1 v2 v3 : Value} {t : TypeId} {fz : Nat × Nat} (h : w.heap[g]? = some (.cells #[v0, v1, v2, v3] t fz)) : w.cell? ⟨g, 0, none⟩ = some v0 ∧ w.cell? ⟨g, 1, none⟩ = some v1 ∧ w.cell? ⟨g, 2, none⟩ = some v2 ∧ w.cell? ⟨g, 3, none⟩ = some v3 :=
  ⟨blk_cell h rfl, blk_cell h rfl, blk_cell h rfl, blk_cell h rfl⟩
theorem blk6 {w : World} {g : Nat} {v0 v1 v2 v3 v4 v5 : Value} {t : TypeId} {fz : Nat × Nat} (h : w.heap[g]? = some (.cells #[v0, v1, v2, v3, v4, v5] t fz)) : w.cell? ⟨g, 0, none⟩ = some v0 ∧ w.cell? ⟨g, 1, none⟩ = some v1 ∧ w.cell? ⟨g, 2, none⟩ = some v2 ∧ w.cell? ⟨g, 3, none⟩ = some v3 ∧ w.cell? ⟨g, 4, none⟩ = some v4 ∧ w.cell? ⟨g, 5, none⟩ = some v5 :=
  ⟨blk_cell h rfl, blk_cell h rfl, blk_cell h rfl, blk_cell h rfl, blk_cell h rfl, blk_cell h rfl⟩
theorem blk8 {w : World} {g : Nat} {v0 v1 v2 v3 v4 v5 v6 v7 : Value} {t : TypeId} {fz : Nat × Nat} (h : w.heap[g]? = some (.cells #[v0, v1, v2, v3, v4, v5, v6, v7] t fz)) : w.cell? ⟨g, 0, none⟩ = some v0 ∧ w.cell? ⟨g, 1, none⟩ = some v1 ∧ w.cell? ⟨g, 2, none⟩ = some v2 ∧ w.cell? ⟨g, 3, none⟩ = some v3 ∧ w.cell? ⟨g, 4, none⟩ = some v4 ∧ w.cell? ⟨g, 5, none⟩ = some v5 ∧ w.cell? ⟨g, 6, none⟩ = some v6 ∧ w.cell? ⟨g, 7, none⟩ = some v7 :=
  ⟨blk_cell h rfl, blk_cell h rfl, blk_cell h rfl, blk_cell h rfl, blk_cell h rfl, blk_cell h rfl, blk_cell h rfl, blk_cell h rfl⟩
def I64 (n : Int) : Prop := -9223372036854775808 ≤ n ∧ n ≤ 9223372036854775807
def U64 (n : Int) : Prop := 0 ≤ n ∧ n ≤ 18446744073709551615

/- rows of the call's own that are appended to -/
theorem Fr.row {w W W' : World} (f : Fr w W) (hw : Ok w) {row : Option Nat} (hg : W.grownBy W' row) (hr : ∀ k, row = some k → w.heap.size ≤ k) : Fr w W' := Fr.of hw (f.below.grown hg f.size hr)
theorem own_some {W : World} {base size n : Nat} {e : TypeId} {v : Value} {xs : List Value} (h : W.ownsRow base e size v n xs) (hv : v ≠ .slice none 0 0) : ∃ g cap, v = .slice (some ⟨g, 0, none⟩) n cap ∧ base ≤ g ∧ g < W.heap.size ∧ n ≤ cap := by
  rcases h.2 with ⟨h1, _⟩ | ⟨g, cap, cur, hv', hb, hg, hn, _⟩
  · exact absurd h1 hv
  · exact ⟨g, cap, hv', hb, (Array.getElem?_eq_some_iff.1 hg).1, hn⟩
theorem own_fr {W W' : World} {base size n : Nat} {e : TypeId} {v : Value} {xs : List Value} (h : W.ownsRow base e size v n xs) (q : Fr W W') : W'.ownsRow base e size v n xs :=
  h.kept (row := none) ⟨q.below.os, q.below.tape, q.below.output, q.below.size, fun k hk _ => q.below.block k hk⟩ (by cases v.ownBlock <;> simp)
section
variable {P : Program} {w : World} {d : Nat} {f : Field} {fs : List Field} {xs ys : Array Value} {a b : Value} {r s : Bool}
/-- two structs, compared field by field -/
theorem eq_field (hn : f.name ≠ "_") (ha : (part f.type xs f.offset).run P w = .ok a w) (hb : (part f.type ys f.offset).run P w = .ok b w) (he : (Op.equalIn d f.type a b).run P w = .ok r w)
    (hr : (Op.eqFields d xs ys fs).run P w = .ok s w) : (Op.eqFields d xs ys (f :: fs)).run P w = .ok (r && s) w := by
  rw [Op.eqFields]
  simp only [if_pos hn, Sem.run_bind, ha, hb, he, Result.andThen_ok]
  cases r
  · simp
  · simpa using hr
theorem eq_done : (Op.eqFields d xs ys []).run P w = .ok true w := by simp [Op.eqFields]
theorem eq_struct {t : TypeId} {gs : Array Field} (hu : P.underlying t = some (.struct gs)) (hp : P.stoodInHeld t = false) (h : (Op.eqFields d xs ys gs.toList).run P w = .ok r w) : (Op.equalIn (d + 1) t (.agg xs) (.agg ys)).run P w = .ok r w := by
  have hf : P.fieldsOf t = gs := by simp [Program.fieldsOf, hu]
  rw [run_equalIn_struct (P := P) w d t xs ys (by rw [hf]; exact hu) hp, hf]
  exact h
end
end Go.Proofs.YtefkklgelmbaiaaDoor
set_option linter.unusedSimpArgs false
set_option linter.unusedVariables false
namespace Go.Proofs.YtefkklgelmbaiaaDoor
open Go.RowKit Go.Proofs

structure Blk where
  st : Int
  hd : Int
  real : Bool
  live : Int
  deriving DecidableEq
structure Chk where
  c : Int
  b : Int
  p : Int
  n : Int
  deriving DecidableEq
structure Nod where
  ty : Int
  par : Int
  name : ByteArray
  size : Int
  mode : Int
  stamp : Int
  shadow : Int
  tgt : ByteArray
  deriving DecidableEq
structure Obj' where
  id : Int
  head : Bool
  nd : Nod
  pb : Int
  pp : Int
  cs : List Chk
  deriving DecidableEq
structure St where
  floor : Int
  next : Int
  cur : Int
  last : Int
  bs : List Blk
  os : List Obj'
instance : Inhabited Blk := ⟨⟨0, 0, false, 0⟩⟩
instance : Inhabited Chk := ⟨⟨0, 0, 0, 0⟩⟩
instance : Inhabited Nod := ⟨⟨0, 0, ⟨#[]⟩, 0, 0, 0, 0, ⟨#[]⟩⟩⟩
instance : Inhabited Obj' := ⟨⟨0, false, default, 0, 0, []⟩⟩
def Blk.wf (b : Blk) : Prop := I64 b.st ∧ U64 b.hd ∧ I64 b.live
def Chk.wf (c : Chk) : Prop := I64 c.c ∧ I64 c.b ∧ I64 c.p ∧ I64 c.n
def Nod.wf (n : Nod) : Prop := I64 n.ty ∧ I64 n.par ∧ I64 n.size ∧ I64 n.mode ∧ U64 n.stamp ∧ I64 n.shadow ∧ n.name.size ≤ 1099511627776 ∧ n.tgt.size ≤ 1099511627776
def Obj'.wf (o : Obj') : Prop := I64 o.id ∧ o.nd.wf ∧ I64 o.pb ∧ I64 o.pp ∧ (∀ c ∈ o.cs, c.wf) ∧ o.cs.length ≤ 1099511627776
def St.wf (s : St) : Prop := U64 s.floor ∧ U64 s.next ∧ I64 s.cur ∧ I64 s.last ∧ (∀ b ∈ s.bs, b.wf) ∧ (∀ o ∈ s.os, o.wf) ∧ s.bs.length ≤ 1099511627776 ∧ s.os.length ≤ 1099511627776

/-! ### In memory -/
def bcells (b : Blk) : List Value := [.int .i64 b.st, .int .u64 b.hd, .bool b.real, .int .i64 b.live]
def ccells (c : Chk) : List Value := [.int .i64 c.c, .int .i64 c.b, .int .i64 c.p, .int .i64 c.n]
def ocells (o : Obj') (a : Option Addr) (c : Nat) : List Value := [.int .i64 o.id, .bool o.head, .int .i64 o.nd.ty, .int .i64 o.nd.par, .string o.nd.name, .int .i64 o.nd.size, .int .i64 o.nd.mode, .int .u64 o.nd.stamp, .int .i64 o.nd.shadow, .string o.nd.tgt, .int .i64 o.pb, .int .i64 o.pp, .slice a o.cs.length c]
/-- cells that lie in a row, k of each -/
def Row (w : World) (A : Option Addr) (k : Nat) (cells : List (List Value)) : Prop :=
  cells = [] ∨ ∃ g o, A = some ⟨g, o, none⟩ ∧ g < w.heap.size ∧ ∀ i c, cells[i]? = some c → ∀ j v, j < k → c[j]? = some v → w.cell? ⟨g, o + i * k + j, none⟩ = some v
theorem Row.fr {w w' : World} {A : Option Addr} {k : Nat} {cells : List (List Value)} (h : Row w A k cells) (q : Fr w w') : Row w' A k cells := by
  rcases h with h | ⟨g, o, hA, hg, h⟩
  · exact .inl h
  · exact .inr ⟨g, o, hA, Nat.lt_of_lt_of_le hg q.size, fun i c hi j v hj hv => q.cell (h i c hi j v hj hv)⟩
def BRow (w : World) (A : Option Addr) (bs : List Blk) : Prop := Row w A 4 (bs.map bcells)
def CRow (w : World) (A : Option Addr) (cs : List Chk) : Prop := Row w A 4 (cs.map ccells)
theorem BRow.fr {w w' : World} {A : Option Addr} {bs : List Blk} (h : BRow w A bs) (q : Fr w w') : BRow w' A bs := Row.fr h q
theorem CRow.fr {w w' : World} {A : Option Addr} {cs : List Chk} (h : CRow w A cs) (q : Fr w w') : CRow w' A cs := Row.fr h q
/-- where the objects' own rows of chunks lie, and their capacities -/
abbrev Al := Nat → Option Addr × Nat
def ORow (w : World) (A : Option Addr) (al : Al) (os : List Obj') : Prop :=
  (os = [] ∨ ∃ g o0, A = some ⟨g, o0, none⟩ ∧ g < w.heap.size ∧ ∀ i o, os[i]? = some o → ∀ j v, j < 13 → (ocells o (al i).1 (al i).2)[j]? = some v → w.cell? ⟨g, o0 + i * 13 + j, none⟩ = some v) ∧
  ∀ i o, os[i]? = some o → CRow w (al i).1 o.cs ∧ o.cs.length ≤ (al i).2
theorem ORow.fr {w w' : World} {A : Option Addr} {al : Al} {os : List Obj'} (h : ORow w A al os) (q : Fr w w') : ORow w' A al os := by
  obtain ⟨h, h2⟩ := h
  refine ⟨?_, fun i o hi => ⟨(h2 i o hi).1.fr q, (h2 i o hi).2⟩⟩
  rcases h with h | ⟨g, o0, hA, hg, h⟩
  · exact .inl h
  · exact .inr ⟨g, o0, hA, Nat.lt_of_lt_of_le hg q.size, fun i c hi j v hj hv => q.cell (h i c hi j v hj hv)⟩

theorem BRow.get {w : World} {A : Option Addr} {bs : List Blk} (h : BRow w A bs) {i : Nat} (hi : i < bs.length) : ∃ g o, A = some ⟨g, o, none⟩ ∧
    w.cell? ⟨g, o + i * 4, none⟩ = some (.int .i64 bs[i].st) ∧ w.cell? ⟨g, o + i * 4 + 1, none⟩ = some (.int .u64 bs[i].hd) ∧ w.cell? ⟨g, o + i * 4 + 2, none⟩ = some (.bool bs[i].real) ∧ w.cell? ⟨g, o + i * 4 + 3, none⟩ = some (.int .i64 bs[i].live) := by
  rcases h with h | ⟨g, o, hA, _, h⟩
  · have := congrArg List.length h; simp at this; subst this; simp at hi
  · have hc : (bs.map bcells)[i]? = some (bcells bs[i]) := by simp [hi]
    exact ⟨g, o, hA, h i _ hc 0 _ (by omega) rfl, h i _ hc 1 _ (by omega) rfl, h i _ hc 2 _ (by omega) rfl, h i _ hc 3 _ (by omega) rfl⟩
theorem CRow.get {w : World} {A : Option Addr} {cs : List Chk} (h : CRow w A cs) {i : Nat} (hi : i < cs.length) : ∃ g o, A = some ⟨g, o, none⟩ ∧
    w.cell? ⟨g, o + i * 4, none⟩ = some (.int .i64 cs[i].c) ∧ w.cell? ⟨g, o + i * 4 + 1, none⟩ = some (.int .i64 cs[i].b) ∧ w.cell? ⟨g, o + i * 4 + 2, none⟩ = some (.int .i64 cs[i].p) ∧ w.cell? ⟨g, o + i * 4 + 3, none⟩ = some (.int .i64 cs[i].n) := by
  rcases h with h | ⟨g, o, hA, _, h⟩
  · have := congrArg List.length h; simp at this; subst this; simp at hi
  · have hc : (cs.map ccells)[i]? = some (ccells cs[i]) := by simp [hi]
    exact ⟨g, o, hA, h i _ hc 0 _ (by omega) rfl, h i _ hc 1 _ (by omega) rfl, h i _ hc 2 _ (by omega) rfl, h i _ hc 3 _ (by omega) rfl⟩
theorem ORow.get {w : World} {A : Option Addr} {al : Al} {os : List Obj'} (h : ORow w A al os) {i : Nat} (hi : i < os.length) : ∃ g o, A = some ⟨g, o, none⟩ ∧
    w.cell? ⟨g, o + i * 13, none⟩ = some (.int .i64 os[i].id) ∧ w.cell? ⟨g, o + i * 13 + 1, none⟩ = some (.bool os[i].head) ∧ w.cell? ⟨g, o + i * 13 + 2, none⟩ = some (.int .i64 os[i].nd.ty) ∧ w.cell? ⟨g, o + i * 13 + 3, none⟩ = some (.int .i64 os[i].nd.par) ∧
    w.cell? ⟨g, o + i * 13 + 4, none⟩ = some (.string os[i].nd.name) ∧ w.cell? ⟨g, o + i * 13 + 5, none⟩ = some (.int .i64 os[i].nd.size) ∧ w.cell? ⟨g, o + i * 13 + 6, none⟩ = some (.int .i64 os[i].nd.mode) ∧ w.cell? ⟨g, o + i * 13 + 7, none⟩ = some (.int .u64 os[i].nd.stamp) ∧
    w.cell? ⟨g, o + i * 13 + 8, none⟩ = some (.int .i64 os[i].nd.shadow) ∧ w.cell? ⟨g, o + i * 13 + 9, none⟩ = some (.string os[i].nd.tgt) ∧ w.cell? ⟨g, o + i * 13 + 10, none⟩ = some (.int .i64 os[i].pb) ∧ w.cell? ⟨g, o + i * 13 + 11, none⟩ = some (.int .i64 os[i].pp) ∧
    w.cell? ⟨g, o + i * 13 + 12, none⟩ = some (.slice (al i).1 os[i].cs.length (al i).2) ∧ CRow w (al i).1 os[i].cs ∧ os[i].cs.length ≤ (al i).2 := by
  obtain ⟨h, h2⟩ := h
  obtain ⟨h3, h4⟩ := h2 i os[i] (by simp [hi])
  rcases h with h | ⟨g, o, hA, _, h⟩
  · subst h; simp at hi
  · have hc : os[i]? = some os[i] := by simp [hi]
    exact ⟨g, o, hA, h i _ hc 0 _ (by omega) rfl, h i _ hc 1 _ (by omega) rfl, h i _ hc 2 _ (by omega) rfl, h i _ hc 3 _ (by omega) rfl, h i _ hc 4 _ (by omega) rfl, h i _ hc 5 _ (by omega) rfl, h i _ hc 6 _ (by omega) rfl, h i _ hc 7 _ (by omega) rfl, h i _ hc 8 _ (by omega) rfl, h i _ hc 9 _ (by omega) rfl, h i _ hc 10 _ (by omega) rfl, h i _ hc 11 _ (by omega) rfl, h i _ hc 12 _ (by omega) rfl, h3, h4⟩

/-! ### What may be packed -/
def placeB (b p : Int) : Bool := decide (0 ≤ b ∧ b < 4096 ∧ 0 ≤ p ∧ p < 256)
def blockB (b : Blk) : Bool := decide (0 ≤ b.st ∧ b.st ≤ 6 ∧ b.hd ≤ 281474976710655 ∧ 0 ≤ b.live ∧ b.live ≤ 256)
def chunksB : Int → List Chk → Bool
  | _, [] => true
  | last, x :: r => decide (last < x.c ∧ x.c ≤ 1048575) && placeB x.b x.p && decide (0 ≤ x.n ∧ x.n ≤ 2048) && chunksB x.c r
def noneOf (l : List UInt8) : Bool := l.all fun c => c != 0 && c != 47
def noZero (l : List UInt8) : Bool := l.all fun c => c != 0
def nameL (s : ByteArray) : Int := if 1 ≤ s.size ∧ s.size ≤ 63 ∧ s.data.toList ≠ [46] ∧ s.data.toList ≠ [46, 46] ∧ noneOf s.data.toList = true then 0 else 81
def targetB (ty : Int) (s : ByteArray) : Bool := if ty = 3 then decide (1 ≤ s.size ∧ s.size ≤ 127) && noZero s.data.toList else decide (s.data.toList = [])
def checkL (n : Nod) : Int :=
  if ¬ (1 ≤ n.ty ∧ n.ty ≤ 3 ∧ 0 ≤ n.par ∧ n.par ≤ 1048575) then 80
  else if nameL n.name ≠ 0 then 81
  else if ¬ (0 ≤ n.size ∧ n.size ≤ 2147483648 ∧ (n.ty = 1 ∨ n.size = 0) ∧ 0 ≤ n.mode ∧ n.mode ≤ 4095 ∧ 0 ≤ n.shadow ∧ n.shadow ≠ 1 ∧ n.shadow ≤ 1048575) then 80
  else if targetB n.ty n.tgt = false then 82 else 0
def Nod.zero : Nod := ⟨0, 0, ⟨#[]⟩, 0, 0, 0, 0, ⟨#[]⟩⟩
def objB (o : Obj') : Bool := decide (2 ≤ o.id ∧ o.id ≤ 1048575 ∧ o.cs.length ≤ 65536) && chunksB (-1) o.cs &&
  (if o.head then decide (checkL o.nd = 0 ∧ o.nd.shadow = 0) && placeB o.pb o.pp else decide (o.nd = Nod.zero ∧ o.pb = 0 ∧ o.pp = 0))
def objsB : Int → List Obj' → Bool
  | _, [] => true
  | last, x :: r => decide (last < x.id) && objB x && objsB x.id r
def mayB (s : St) : Bool := decide (s.floor ≤ 281474976710655 ∧ s.next ≤ 281474976710656 ∧ (s.bs.length : Int) ≤ 4096 ∧ -1 ≤ s.cur ∧ s.cur < s.bs.length ∧ -1 ≤ s.last ∧ s.last < s.bs.length ∧ (s.os.length : Int) ≤ 1048575) && s.bs.all blockB && objsB 0 s.os

end Go.Proofs.YtefkklgelmbaiaaDoor
set_option linter.unusedSimpArgs false
set_option linter.unusedVariables false
namespace Go.Proofs.YtefkklgelmbaiaaDoor
open Go.RowKit Go.Proofs Go.Proofs.YtefkklgelmbaiaaDoorW.PrintWords Go.Proofs.YtefkklgelmbaiaaDoorW.PrintMore PPack PgoodChunks PgoodBlock

abbrev bs (l : List UInt8) : ByteArray := ⟨l.toArray⟩
theorem bt_mid (a r : List UInt8) (c : UInt8) : bt (bs (a ++ c :: r)) (a.length : Int) = (c.toNat : Int) := by
  have h : ((a.length : Int)).toNat < (bs (a ++ c :: r)).size := by simp [ByteArray.size]
  unfold bt
  rw [dif_pos h]
  have : (bs (a ++ c :: r))[((a.length : Int)).toNat]'h = c := by
    show (a ++ c :: r).toArray[((a.length : Int)).toNat] = c
    simp
  rw [this]
theorem u8_iff (c d : UInt8) (k : Int) (h : (d.toNat : Int) = k) : ((c.toNat : Int) = k ↔ c = d) := by
  constructor
  · intro e
    apply UInt8.toNat_inj.1
    omega
  · rintro rfl
    exact h
theorem size_bs (l : List UInt8) : ((bs l).size : Int) = (l.length : Int) := by simp [ByteArray.size]
theorem bs_data (s : ByteArray) : bs s.data.toList = s := by simp
theorem w64 {i : Int} {n : Nat} (h0 : 0 ≤ i) (h : i ≤ (n : Int)) (hn : n ≤ 1099511627776) : wrap64 (i + 1) = i + 1 := by
  unfold wrap64; omega

theorem name_from : ∀ (r a : List UInt8) (k : Nat), r.length < k → (a ++ r).length ≤ 1099511627776 → shaleref08_Name.l0 k (bs (a ++ r)) (a.length : Int) = some (if noneOf r = true then 0 else 81)
  | [], a, k, hk, hn => by
    obtain ⟨k, rfl⟩ : ∃ m, k = m + 1 := ⟨k - 1, by simp at hk; omega⟩
    simp only [shaleref08_Name.l0]
    rw [size_bs, if_neg (by simp)]
    simp [noneOf]
  | c :: r, a, k, hk, hn => by
    obtain ⟨k, rfl⟩ : ∃ m, k = m + 1 := ⟨k - 1, by simp at hk; omega⟩
    simp only [List.length_cons, List.length_append] at hk hn
    have hw : wrap64 ((a.length : Int) + 1) = (a.length : Int) + 1 := w64 (n := a.length) (by omega) (by omega) (by omega)
    simp only [shaleref08_Name.l0]
    rw [size_bs, if_pos (by simp; omega), if_pos (by omega), bt_mid, hw]
    have h0 := u8_iff c 0 0 rfl
    have h47 := u8_iff c 47 47 rfl
    by_cases e0 : c = 0
    · rw [if_pos (h0.2 e0)]; subst e0; simp [noneOf]
    · rw [if_neg (fun h => e0 (h0.1 h))]
      by_cases e47 : c = 47
      · rw [if_pos (h47.2 e47)]; subst e47; simp [noneOf]
      · rw [if_neg (fun h => e47 (h47.1 h))]
        have ih := name_from r (a ++ [c]) k (by omega) (by simp; omega)
        rw [List.append_assoc, List.singleton_append, List.length_append, List.length_singleton] at ih
        rw [show ((a.length + 1 : Nat) : Int) = (a.length : Int) + 1 by omega] at ih
        rw [ih]
        simp [noneOf, e0, e47]
theorem name_f (s : ByteArray) (hn : s.size ≤ 1099511627776) (k : Nat) (hk : s.size + 2 ≤ k) : shaleref08_Name.f k s = some (nameL s) := by
  obtain ⟨k, rfl⟩ : ∃ m, k = m + 1 := ⟨k - 1, by omega⟩
  have hl := name_from s.data.toList [] k (by rw [Array.length_toList]; show s.size < k; omega) (by simpa using hn)
  rw [List.nil_append, bs_data, List.length_nil, show ((0 : Nat) : Int) = 0 from rfl] at hl
  have htl : s.toList = s.data.toList := Lib.toList_data s
  have j0 : ∀ b : Bool, shaleref08_Name.j0 (k + 1) s b = some (if b = true then 81 else if noneOf s.data.toList = true then 0 else 81) := fun b => by
    simp only [shaleref08_Name.j0, hl]; cases b <;> rfl
  unfold shaleref08_Name.f
  rw [j0 true, j0 (s.toList == [46, 46]), htl, if_pos (rfl : true = true)]
  have hno : ∀ h : ¬ (1 ≤ s.size ∧ s.size ≤ 63 ∧ s.data.toList ≠ [46] ∧ s.data.toList ≠ [46, 46] ∧ noneOf s.data.toList = true), nameL s = 81 := fun h => if_neg h
  by_cases h1 : (s.size : Int) < 1
  · rw [if_pos h1, hno (by omega)]
  rw [if_neg h1]
  by_cases h2 : (s.size : Int) > 63
  · rw [if_pos h2, hno (by omega)]
  rw [if_neg h2]
  by_cases h3 : s.data.toList = [46]
  · rw [if_pos h3, hno (fun h => h.2.2.1 h3)]
  rw [if_neg h3]
  by_cases h4 : s.data.toList = [46, 46]
  · rw [if_pos (by rw [h4]; rfl), hno (fun h => h.2.2.2.1 h4)]
  rw [if_neg (by simpa using h4)]
  by_cases h5 : noneOf s.data.toList = true
  · rw [if_pos h5]; unfold nameL; rw [if_pos ⟨by omega, by omega, h3, h4, h5⟩]
  · rw [if_neg h5, hno (fun h => h5 h.2.2.2.2)]

theorem target_from : ∀ (r a : List UInt8) (k : Nat), r.length < k → (a ++ r).length ≤ 1099511627776 → shaleref08_target.l0 k (bs (a ++ r)) (a.length : Int) = some (noZero r)
  | [], a, k, hk, hn => by
    obtain ⟨k, rfl⟩ : ∃ m, k = m + 1 := ⟨k - 1, by simp at hk; omega⟩
    simp only [shaleref08_target.l0]
    rw [size_bs, if_neg (by simp)]
    simp [noZero]
  | c :: r, a, k, hk, hn => by
    obtain ⟨k, rfl⟩ : ∃ m, k = m + 1 := ⟨k - 1, by simp at hk; omega⟩
    simp only [List.length_cons, List.length_append] at hk hn
    have hw : wrap64 ((a.length : Int) + 1) = (a.length : Int) + 1 := w64 (n := a.length) (by omega) (by omega) (by omega)
    simp only [shaleref08_target.l0]
    rw [size_bs, if_pos (by simp; omega), if_pos (by omega), bt_mid, hw]
    have h0 := u8_iff c 0 0 rfl
    by_cases e0 : c = 0
    · rw [if_pos (h0.2 e0)]; subst e0; simp [noZero]
    · rw [if_neg (fun h => e0 (h0.1 h))]
      have ih := target_from r (a ++ [c]) k (by omega) (by simp; omega)
      rw [List.append_assoc, List.singleton_append, List.length_append, List.length_singleton] at ih
      rw [show ((a.length + 1 : Nat) : Int) = (a.length : Int) + 1 by omega] at ih
      rw [ih]
      simp [noZero, e0]
theorem target_f (ty : Int) (s : ByteArray) (hn : s.size ≤ 1099511627776) (k : Nat) (hk : s.size + 2 ≤ k) : shaleref08_target.f k ty s = some (targetB ty s) := by
  obtain ⟨k, rfl⟩ : ∃ m, k = m + 1 := ⟨k - 1, by omega⟩
  have hl := target_from s.data.toList [] k (by rw [Array.length_toList]; show s.size < k; omega) (by simpa using hn)
  rw [List.nil_append, bs_data, List.length_nil, show ((0 : Nat) : Int) = 0 from rfl] at hl
  have htl : s.toList = s.data.toList := Lib.toList_data s
  have j0 : ∀ b : Bool, shaleref08_target.j0 (k + 1) s b = some (!b && noZero s.data.toList) := fun b => by
    simp only [shaleref08_target.j0, hl]; cases b <;> rfl
  unfold shaleref08_target.f targetB
  rw [j0 true, j0 (decide _), htl]
  by_cases h0 : ty = 3
  · rw [if_pos h0, if_pos h0]
    by_cases h1 : (s.size : Int) < 1
    · rw [if_pos h1, decide_eq_false (p := 1 ≤ s.size ∧ s.size ≤ 127) (by omega)]; rfl
    rw [if_neg h1]
    by_cases h2 : (s.size : Int) > 127
    · rw [decide_eq_true h2, decide_eq_false (p := 1 ≤ s.size ∧ s.size ≤ 127) (by omega)]; rfl
    · rw [decide_eq_false h2, decide_eq_true (p := 1 ≤ s.size ∧ s.size ≤ 127) (by omega)]; rfl
  · rw [if_neg h0, if_neg h0]
    congr 1
    rw [Bool.eq_iff_iff]; simp

set_option maxHeartbeats 3200000 in
theorem check_f (n : Nod) (h : n.wf) (k : Nat) (hk : n.name.size + n.tgt.size + 6 ≤ k) : shaleref08_Check.f k n.ty n.par n.name n.size n.mode n.stamp n.shadow n.tgt = some (checkL n) := by
  obtain ⟨k, rfl⟩ : ∃ m, k = m + 2 := ⟨k - 2, by omega⟩
  obtain ⟨_, _, _, _, _, _, hn1, hn2⟩ := h
  have hN : shaleref08_Name.f (k + 1) n.name = some (nameL n.name) := name_f _ hn1 _ (by omega)
  have hT : shaleref08_target.f k n.ty n.tgt = some (targetB n.ty n.tgt) := target_f _ _ hn2 _ (by omega)
  have j1 : ∀ b : Bool, shaleref08_Check.j1 (k + 1) b n.ty n.par n.name n.size n.mode n.stamp n.shadow n.tgt = some (if b = true then 80 else if targetB n.ty n.tgt = false then 82 else 0) := fun b => by
    simp only [shaleref08_Check.j1, hT, Option.bind_some]
    cases b <;> cases targetB n.ty n.tgt <;> rfl
  have j0 : ∀ b : Bool, shaleref08_Check.j0 (k + 2) b n.ty n.par n.name n.size n.mode n.stamp n.shadow n.tgt = some (if b = true then 80 else if nameL n.name ≠ 0 then 81 else
      if ¬ (0 ≤ n.size ∧ n.size ≤ 2147483648 ∧ (n.ty = 1 ∨ n.size = 0) ∧ 0 ≤ n.mode ∧ n.mode ≤ 4095 ∧ 0 ≤ n.shadow ∧ n.shadow ≠ 1 ∧ n.shadow ≤ 1048575) then 80 else if targetB n.ty n.tgt = false then 82 else 0) := fun b => by
    simp only [shaleref08_Check.j0, hN, Option.bind_some, j1]
    cases b
    · by_cases e : nameL n.name = 0
      · simp only [Bool.false_eq_true, if_false, e, if_true, ne_eq, not_true_eq_false]
        repeat' split
        all_goals (try simp only [decide_eq_true_eq] at *)
        all_goals first | rfl | (exfalso; omega)
      · simp only [Bool.false_eq_true, if_false, e, ne_eq, not_false_eq_true, if_true]
    · rfl
  unfold shaleref08_Check.f checkL
  simp only [j0, if_true, decide_eq_true_eq]
  repeat' split
  all_goals (try simp only [decide_eq_true_eq] at *)
  all_goals first | rfl | (exfalso; omega)

theorem u64_in {x : Int} (h : U64 x) : IntKind.u64.wrap x = x := IntWalk.u64_in x h
end Go.Proofs.YtefkklgelmbaiaaDoor
namespace Go.Proofs.YtefkklgelmbaiaaDoor.Reg
open Go Go.RowKit Go.Sort

section
variable {P : Program} {ops : Array Oper} {md : Region.Mode} {C S : World → Prop} {D : Nat} {Q : Exit → Act → World → Prop}

/-- whatever order is picked, and S holds until D has come up -/
def wpAnyT (P : Program) (md : Region.Mode) (ops : Array Oper) (Q : Exit → Act → World → Prop) (S : World → Prop) (D : Nat) : Nat → Array Bool → Act → World → Prop
  | 0, listed, a, w => Region.ready md ops listed = [] ∧ Q .normal a w
  | f + 1, listed, a, w =>
    (Region.ready md ops listed = [] → Q .normal a w) ∧
    ∀ i ∈ Region.ready md ops listed, wpOp P ops Q i (fun a' w' => ((listed.setIfInBounds i true).getD D true = false → S w') ∧ wpAnyT P md ops Q S D f (listed.setIfInBounds i true) a' w') a w

theorem wpAny_of_T : ∀ (f : Nat) (listed : Array Bool) (a : Act) (w : World), wpAnyT P md ops Q S D f listed a w → wpAny P md ops Q f listed a w
  | 0, _, _, _, h => h
  | f + 1, _, _, _, h => ⟨h.1, fun i hi => wpOp_mono (fun a' w' h' => wpAny_of_T f _ a' w' h'.2) (h.2 i hi)⟩

theorem getD_set_self {listed : Array Bool} {i : Nat} : (listed.setIfInBounds i true).getD i true = true := by
  rcases Nat.lt_or_ge i listed.size with h' | h'
  · simp [h']
  · simp [h']

def ClosedL (md : Region.Mode) (ops : Array Oper) (listed : Array Bool) : Prop := ∀ j oj, ops[j]? = some oj → listed.getD j false = true → ∀ e ∈ oj.after, Region.binds md e = true → listed.getD e.on false = true
theorem ClosedL.set {i : Nat} {listed : Array Bool} (inv : ClosedL md ops listed) (hi : i ∈ Region.ready md ops listed) : ClosedL md ops (listed.setIfInBounds i true) := by
  obtain ⟨_, oi, hoi, hall⟩ := mem_ready.1 hi
  intro j oj hj hl e he hb
  by_cases hij : i = j
  · subst hij
    have : oj = oi := Option.some.inj (hj.symm.trans hoi)
    subst this
    exact getD_set_true (hall e he hb)
  · rw [getD_set_ne false hij] at hl
    exact getD_set_true (inv j oj hj hl e he hb)
/-- D waits for i, or for one that does -/
def Waits (md : Region.Mode) (ops : Array Oper) (D i : Nat) : Prop := Region.waitsFor md ops D i = true ∨ ∃ k, Region.waitsFor md ops D k = true ∧ Region.waitsFor md ops k i = true
theorem Waits.not_ready {D i : Nat} {listed : Array Bool} (h : Waits md ops D i) (hc : ClosedL md ops listed) (hun : listed.getD i true = false) : D ∉ Region.ready md ops listed := fun hr => by
  obtain ⟨_, oD, hoD, hall⟩ := mem_ready.1 hr
  rcases h with h | ⟨k, h1, h2⟩
  · obtain ⟨oj, hoj, e, he, hb, hon⟩ := Region.waitsFor_spec h
    have : oj = oD := Option.some.inj (hoj.symm.trans hoD)
    subst this
    have h3 := hall e he hb
    rw [hon, getD_both hun] at h3
    cases h3
  · obtain ⟨oj, hoj, e, he, hb, hon⟩ := Region.waitsFor_spec h1
    have : oj = oD := Option.some.inj (hoj.symm.trans hoD)
    subst this
    have h3 := hall e he hb
    rw [hon] at h3
    obtain ⟨ok, hok, e', he', hb', hon'⟩ := Region.waitsFor_spec h2
    have h4 := hc k ok hok h3 e' he' hb'
    rw [hon', getD_both hun] at h4
    cases h4

theorem wpAnyT_first {i : Nat} {oi : Oper} {v : Value} (hi : ops[i]? = some oi) (hw : Waits md ops D i) (hiD : i ≠ D)
    (hsel : ∀ (j : Nat) (o : Oper) cs b, ops[j]? = some o → o.op ≠ .select cs b) (hQ : ∀ c a w, Q (.panic c) (Act.put a oi.dst v) w → Q (.panic c) a w) :
    ∀ (f : Nat) (listed : Array Bool) (a : Act) (w : World),
      (∀ j oj, ops[j]? = some oj → j ≠ i → listed.getD j true = false → (∀ e ∈ oj.after, Region.binds md e = true → e.on ≠ i) → oi.apart ops oj = true) →
      i ∈ Region.ready md ops listed → ClosedL md ops listed → listed.getD D true = false → YieldsIf P ops S oi v a → S w →
      wpAnyT P md ops Q S D f (listed.setIfInBounds i true) (a.put oi.dst v) w → wpAnyT P md ops Q S D (f + 1) listed a w := by
  intro f
  induction f with
  | zero =>
    intro listed a w _ hr _ hD hy hS H
    refine ⟨fun h => (by rw [h] at hr; cases hr), fun j hj => ?_⟩
    by_cases hji : j = i
    · subst hji; exact hy.wpOp hi hS ⟨fun _ => hS, H⟩
    · have := ready_mono hj hji
      rw [H.1] at this
      cases this
  | succ f ih =>
    intro listed a w hfree hr hcl hD hy hS H
    have hun := (mem_ready.1 hr).1
    refine ⟨fun h => (by rw [h] at hr; cases hr), fun j hj => ?_⟩
    by_cases hji : j = i
    · subst hji; exact hy.wpOp hi hS ⟨fun _ => hS, H⟩
    · have h1 := H.2 j (ready_mono hj hji)
      obtain ⟨hjun, oj, hoj, hall⟩ := mem_ready.1 hj
      have hnot : ∀ e ∈ oj.after, Region.binds md e = true → e.on ≠ i := fun e he hb heq => by
        have h1 := hall e he hb
        rw [heq, getD_both hun] at h1
        cases h1
      have hjD : j ≠ D := fun e => by
        subst e
        exact hw.not_ready hcl hun hj
      have h2 := wpOp_putIf (S := S) hoj (hfree j oj hoj hji hjun hnot) (fun cs b => hsel i oi cs b hi) (fun cs b => hsel j oj cs b hoj) hQ hy h1
      have hfree' : ∀ k ok, ops[k]? = some ok → k ≠ i → (listed.setIfInBounds j true).getD k true = false →
          (∀ e ∈ ok.after, Region.binds md e = true → e.on ≠ i) → oi.apart ops ok = true := fun k ok hk hki hun hno => by
        refine hfree k ok hk hki ?_ hno
        by_cases hjk : j = k
        · subst hjk; exact hjun
        · rw [getD_set_ne true hjk] at hun; exact hun
      have hD' : (listed.setIfInBounds j true).getD D true = false := by rw [getD_set_ne true hjD]; exact hD
      have hD'' : ((listed.setIfInBounds i true).setIfInBounds j true).getD D true = false := by rw [getD_set_ne true hjD, getD_set_ne true hiD]; exact hD
      refine wpOp_mono (fun a' w' h3 => ?_) h2
      obtain ⟨hy', hS', h4⟩ := h3
      have hS'' := hS' hD''
      refine ⟨fun _ => hS'', ih (listed.setIfInBounds j true) a' w' hfree' (ready_mono hr (Ne.symm hji)) (hcl.set hj) hD' hy' hS'' ?_⟩
      rw [Array.setIfInBounds_comm _ _ hji]
      exact h4

end
end Go.Proofs.YtefkklgelmbaiaaDoor.Reg
set_option linter.unusedSimpArgs false
set_option linter.unusedVariables false
namespace Go.Proofs.YtefkklgelmbaiaaDoor
open Go.RowKit Go.Proofs Go.Proofs.YtefkklgelmbaiaaDoorW.PrintWords Go.Proofs.YtefkklgelmbaiaaDoorW.PrintMore

/-- a row of bytes of the call's own -/
def OwnB (w : World) (B : Nat) (v : Value) (xs : List Int) : Prop := w.ownsRow B 5 1 v xs.length (xs.map (Value.int .u8))
theorem OwnB.fr {w w' : World} {B : Nat} {v : Value} {xs : List Int} (h : OwnB w B v xs) (q : Fr w w') : OwnB w' B v xs := by
  refine World.ownsRow.kept (row := none) h ⟨q.below.os, q.below.tape, q.below.output, q.below.size, fun k hk _ => q.below.block k hk⟩ (by cases v.ownBlock <;> simp)
theorem OwnB.nil (w : World) (B : Nat) : OwnB w B (.slice none 0 0) [] := ⟨by simp, .inl ⟨rfl, rfl⟩⟩
theorem OwnB.form {w : World} {B : Nat} {v : Value} {xs : List Int} (h : OwnB w B v xs) : ∃ a c, v = .slice a xs.length c := by
  rcases h.2 with ⟨hv, h0⟩ | ⟨g, cap, cur, hv, _⟩
  · rw [h0]; exact ⟨none, 0, hv⟩
  · exact ⟨_, cap, hv⟩

theorem check08_any (n : Nod) (h : n.wf) (w : World) (hw : Ok w) :
    Calls Tryd.prog 32 #[.agg #[.int .i64 n.ty, .int .i64 n.par, .string n.name, .int .i64 n.size, .int .i64 n.mode, .int .u64 n.stamp, .int .i64 n.shadow, .string n.tgt]] w fun e w' => e = .returned (.int .i64 (checkL n)) ∧ Fr w w' :=
  (PPack.shaleref08_Check.calls _ _ _ _ _ _ _ _ _ _ w (check_f n h _ (Nat.le_refl _))).mono fun _ _ ⟨he, hb⟩ => ⟨he, Fr.of hw hb⟩
theorem goodPlace_f (b p : Int) : PgoodChunks.point_goodPlace.f b p = some (placeB b p) := by
  unfold PgoodChunks.point_goodPlace.f placeB
  repeat' split
  all_goals (congr 1; rw [Bool.eq_iff_iff]; simp; try omega)
theorem goodPlace_any (b p : Int) (w : World) (hw : Ok w) : Calls Tryd.prog 51 #[.agg #[.int .i64 b, .int .i64 p]] w fun e w' => e = .returned (.bool (placeB b p)) ∧ Fr w w' :=
  (PgoodChunks.point_goodPlace.calls b p _ w (goodPlace_f b p)).mono fun _ _ ⟨he, hb⟩ => ⟨he, Fr.of hw hb⟩
theorem goodBlock_f (b : Blk) : PgoodBlock.point_goodBlock.f b.st b.hd b.real b.live = some (blockB b) := by
  unfold PgoodBlock.point_goodBlock.f blockB
  repeat' split
  all_goals (congr 1; rw [Bool.eq_iff_iff]; simp; try omega)
theorem goodBlock_any (b : Blk) (w : World) (hw : Ok w) : Calls Tryd.prog 34 #[.agg #[.int .i64 b.st, .int .u64 b.hd, .bool b.real, .int .i64 b.live]] w fun e w' => e = .returned (.bool (blockB b)) ∧ Fr w w' :=
  (PgoodBlock.point_goodBlock.calls _ _ _ _ _ w (goodBlock_f b)).mono fun _ _ ⟨he, hb⟩ => ⟨he, Fr.of hw hb⟩

def chS (c : Chk) : PgoodChunks.S59 := ⟨c.c, ⟨⟨c.b, c.p⟩, c.n⟩⟩
theorem chunks_from (all : List Chk) (hall : all.length ≤ 1099511627776) : ∀ (r a : List Chk) (last : Int) (k : Nat), all = a ++ r → r.length < k →
    PgoodChunks.point_goodChunks.l0 k (all.map chS) last (all.map chS) (all.length : Int) (a.length : Int) = some (chunksB last r && decide ((all.length : Int) ≤ 65536))
  | [], a, last, k, he, hk => by
    obtain ⟨k, rfl⟩ : ∃ m, k = m + 1 := ⟨k - 1, by simp at hk; omega⟩
    simp only [PgoodChunks.point_goodChunks.l0]
    rw [if_neg (by subst he; simp)]
    simp [chunksB]
  | x :: r, a, last, k, he, hk => by
    obtain ⟨k, rfl⟩ : ∃ m, k = m + 1 := ⟨k - 1, by simp at hk; omega⟩
    have hl : all.length = a.length + (r.length + 1) := by subst he; simp
    have hx : PgoodChunks.rd_T59 (all.map chS) (a.length : Int) = chS x := by
      unfold PgoodChunks.rd_T59
      rw [Int.toNat_natCast, List.getD_eq_getElem?_getD]
      subst he
      simp
    simp only [List.length_cons] at hk
    simp only [PgoodChunks.point_goodChunks.l0]
    rw [if_pos (by omega), if_pos (by omega), if_pos (by rw [List.length_map]; omega), hx, goodPlace_f]
    have ih := chunks_from all hall r (a ++ [x]) x.c k (by subst he; simp) (by omega)
    rw [List.length_append, List.length_singleton, show ((a.length + 1 : Nat) : Int) = (a.length : Int) + 1 by omega] at ih
    rw [w64 (n := a.length) (by omega) (by omega) (by omega)]
    have y0 : (chS x).f0 = x.c := rfl
    have y1 : (chS x).f1.f0.f0 = x.b := rfl
    have y2 : (chS x).f1.f0.f1 = x.p := rfl
    have y3 : (chS x).f1.f1 = x.n := rfl
    clear hx
    generalize chS x = y at *
    simp only [Option.bind_some]
    rw [y0] at *
    rw [y1, y2, ih]
    simp only [chunksB]
    by_cases h1 : x.c ≤ last
    · rw [if_pos h1, decide_eq_false (p := last < x.c ∧ x.c ≤ 1048575) (by omega)]; rfl
    rw [if_neg h1]
    by_cases h2 : x.c > 1048575
    · rw [if_pos h2, decide_eq_false (p := last < x.c ∧ x.c ≤ 1048575) (by omega)]; rfl
    rw [if_neg h2, decide_eq_true (p := last < x.c ∧ x.c ≤ 1048575) (by omega)]
    cases placeB x.b x.p
    · rfl
    rw [if_pos rfl]
    by_cases h3 : y.f1.f1 < 0
    · rw [if_pos h3, decide_eq_false (p := 0 ≤ x.n ∧ x.n ≤ 2048) (by omega)]; rfl
    rw [if_neg h3]
    by_cases h4 : y.f1.f1 > 2048
    · rw [if_pos h4, decide_eq_false (p := 0 ≤ x.n ∧ x.n ≤ 2048) (by omega)]; rfl
    rw [if_neg h4, decide_eq_true (p := 0 ≤ x.n ∧ x.n ≤ 2048) (by omega)]
    rfl
theorem CRow.toC {w : World} {A : Option Addr} {cs : List Chk} (h : CRow w A cs) (hn : cs.length ≤ 1099511627776) : Kd.C PgoodChunks.k59 w A (cs.map chS).length (cs.map chS) := by
  refine ⟨rfl, by rw [List.length_map]; omega, fun h0 => ?_⟩
  rw [List.length_map] at h0
  rcases h with h | ⟨g, o, hA, hg, hc⟩
  · have := congrArg List.length h; simp at this; subst this; simp at h0
  · refine ⟨_, hA, fun j p hj => ?_⟩
    simp only [List.getElem?_map, Option.map_eq_some_iff] at hj
    obtain ⟨x, hx, rfl⟩ := hj
    refine ⟨ccells x, rfl, PgoodChunks.k59_mk w (chS x), fun i u hu => ?_⟩
    have hi : i < 4 := (List.getElem?_eq_some_iff.1 hu).1
    have hsz : PgoodChunks.k59.sz = 4 := rfl
    rw [hsz, Lib.add_plain, ← Nat.add_assoc]
    exact hc j (ccells x) (by simp [hx]) i u hi hu
theorem goodChunks_any (A : Option Addr) (c : Nat) (cs : List Chk) (w : World) (hw : Ok w) (h : CRow w A cs) (hc : cs.length ≤ c) (hn : cs.length ≤ 1099511627776) :
    Calls Tryd.prog 49 #[.slice A cs.length c] w fun e w' => e = .returned (.bool (chunksB (-1) cs && decide ((cs.length : Int) ≤ 65536))) ∧ Fr w w' := by
  have hf : PgoodChunks.point_goodChunks.f (cs.length + 1) (cs.map chS) = some (chunksB (-1) cs && decide ((cs.length : Int) ≤ 65536)) := by
    have := chunks_from cs hn cs [] (-1) (cs.length + 1) rfl (by omega)
    unfold PgoodChunks.point_goodChunks.f
    rw [List.length_map]
    exact this
  have := PgoodChunks.point_goodChunks.calls _ A c (cs.map chS) _ w (h.toC hn) (by rw [List.length_map]; exact hc) hf
  rw [List.length_map] at this
  exact this.mono fun _ _ ⟨he, hb⟩ => ⟨he, Fr.of hw hb⟩
end Go.Proofs.YtefkklgelmbaiaaDoor
set_option linter.unusedSimpArgs false
set_option linter.unusedVariables false
namespace Go.Proofs.YtefkklgelmbaiaaDoor
open Go.RowKit Go.Proofs

theorem getbang (s : ByteArray) (i : Nat) (h : i < s.size) : s.get! i = s[i]'h := by
  simp [ByteArray.get!, getElem!_pos, h]
  rfl
/-- what a byte from 128 on begins -/
theorem decode_high (s : ByteArray) (i : Nat) (h : i < s.size) (hb : 128 ≤ (s[i]'h).toNat) :
    ∃ r n : Nat, Utf8.decode s i = (r, n) ∧ 128 ≤ r ∧ Utf8.valid r = true ∧ 1 ≤ n ∧ i + n ≤ s.size ∧ ∀ j (hj : j < s.size), i ≤ j → j < i + n → 128 ≤ (s[j]'hj).toNat := by
  have hd := Lib.decode_at s i
  have e0 := getbang s i h
  have v : ∀ c : Nat, (c < 55296 ∨ (57344 ≤ c ∧ c ≤ 1114111)) → Utf8.valid (c : Int) = true := fun c hc => by
    rw [validRune_eq]; unfold validRune; rw [decide_eq_true]; omega
  have one : ∀ j (hj : j < s.size), i ≤ j → j < i + 1 → 128 ≤ (s[j]'hj).toNat := fun j hj h1 h2 => by
    obtain rfl : j = i := by omega
    exact hb
  have nxt : ∀ k, i + k < s.size → (s.get! (i + k)).toNat / 64 = 2 → ∀ (hj : i + k < s.size), 128 ≤ (s[i + k]'hj).toNat := fun k hk h2 hj => by
    rw [getbang s (i + k) hk] at h2; omega
  rw [e0] at hd
  unfold Lib.decodeN at hd
  rw [if_neg (by omega)] at hd
  split at hd
  · rename_i c
    split at hd
    · refine ⟨_, _, hd, by omega, v _ (by omega), by omega, by omega, fun j hj h1 h2 => ?_⟩
      by_cases e : j = i
      · subst e; exact hb
      · obtain rfl : j = i + 1 := by omega
        exact nxt 1 (by omega) c.2.2 hj
    · exact ⟨_, _, hd, by omega, v _ (by omega), by omega, by omega, one⟩
  split at hd
  · rename_i c
    split at hd
    · refine ⟨_, _, hd, by omega, v _ (by omega), by omega, by omega, fun j hj h1 h2 => ?_⟩
      have hj3 : j = i ∨ j = i + 1 ∨ j = i + 2 := by omega
      rcases hj3 with rfl | rfl | rfl
      · exact hb
      · exact nxt 1 (by omega) c.2.1.2 hj
      · exact nxt 2 (by omega) c.2.2.2 hj
    · exact ⟨_, _, hd, by omega, v _ (by omega), by omega, by omega, one⟩
  split at hd
  · rename_i c
    split at hd
    · refine ⟨_, _, hd, by omega, v _ (by omega), by omega, by omega, fun j hj h1 h2 => ?_⟩
      have hj3 : j = i ∨ j = i + 1 ∨ j = i + 2 ∨ j = i + 3 := by omega
      rcases hj3 with rfl | rfl | rfl | rfl
      · exact hb
      · exact nxt 1 (by omega) c.2.1.2 hj
      · exact nxt 2 (by omega) c.2.2.1.2 hj
      · exact nxt 3 (by omega) c.2.2.2.2 hj
    · exact ⟨_, _, hd, by omega, v _ (by omega), by omega, by omega, one⟩
  · exact ⟨_, _, hd, by omega, v _ (by omega), by omega, by omega, one⟩

def sl0 : ByteArray := ⟨#[47, 0]⟩
theorem fr_iter {w0 w : World} (f : Fr w0 w) (s : ByteArray) (p : Nat) : Fr w0 (w.iter s p) := f.alloc _

set_option maxHeartbeats 1600000 in
set_option maxRecDepth 1000000 in
theorem indexRune_bad (w : World) (hw : Ok w) : Calls Tryd.prog 67 #[.string ⟨#[47, 0]⟩, .int .i32 65533] w fun e w' => e = .returned (.int .i64 (-1)) ∧ Fr w w' := by
  have f := Fr.refl hw
  have n0 := fun ty => run_next_ascii (P := Tryd.prog) w sl0 0 ty (by decide) (by decide)
  have n1 := fun ty => run_next_ascii (P := Tryd.prog) w sl0 1 ty (by decide) (by decide)
  have n2 := fun ty => run_next_end (P := Tryd.prog) w sl0 2 ty (by decide)
  have b0 : ((sl0[0]'(by decide)).toNat : Int) = 47 := rfl
  have b1 : ((sl0[1]'(by decide)).toNat : Int) = 0 := rfl
  rw [b0] at n0
  rw [b1] at n1
  unfold sl0 at *
  clear b0 b1
  go_enter Tryd.func67, Tryd.ntmps67
  go_wp2_with fail
  go_loopg [5, 6] 2 (fun q _ _ W => ∃ i : Nat, Hid (q = 2 - i ∧ i ≤ 2) ∧ W = w.iter ⟨#[47, 0]⟩ i)
  case atStart => exact ⟨0, Lib.hid ⟨rfl, by omega⟩, rfl⟩
  case round =>
    obtain ⟨i, hq, rfl⟩ := hrel
    obtain ⟨rfl, hi⟩ := hq.out
    clear hq
    have h3 : i = 0 ∨ i = 1 ∨ i = 2 := by omega
    clear hi
    rcases h3 with rfl | rfl | rfl
    · go_wp2_with fail
      go_roundg 1
      case measure => omega
      case rel => exact ⟨1, Lib.hid ⟨rfl, by omega⟩, rfl⟩
    · go_wp2_with fail
      go_roundg 0
      case measure => omega
      case rel => exact ⟨2, Lib.hid ⟨rfl, by omega⟩, rfl⟩
    · go_wp2_with fail
      go_ret
      exact ⟨rfl, fr_iter f _ _⟩

theorem ib_none (s : ByteArray) (b : UInt8) (hs : s.data.toList = []) (w : World) (hw : Ok w) : Calls Tryd.prog 75 #[.string s, .int .u8 b.toNat] w fun e w' => e = .returned (.int .i64 (-1)) ∧ Fr w w' :=
  (Tryd.strings_IndexByte s b.toNat w).mono fun _ _ ⟨he, hw'⟩ => ⟨by rw [he, hs]; rfl, by rw [hw']; exact Fr.refl hw⟩
set_option maxHeartbeats 1600000 in
set_option maxRecDepth 1000000 in
theorem indexRune_high (r : Nat) (h128 : 128 ≤ r) (hv : Utf8.valid (r : Int) = true) (w : World) (hw : Ok w) : Calls Tryd.prog 67 #[.string ⟨#[47, 0]⟩, .int .i32 r] w fun e w' => e = .returned (.int .i64 (-1)) ∧ Fr w w' := by
  by_cases hbad : r = 65533
  · subst hbad; exact indexRune_bad w hw
  · have f := Fr.refl hw
    obtain ⟨z2, z4, z5⟩ := encode_facts r hv (by omega)
    have hvr : Lib.validRune (r : Int) = true := by
      have := hv
      rw [validRune_eq] at this
      exact this
    have hmax : r ≤ 1114111 := by
      have := hv
      rw [validRune_eq] at this
      unfold validRune at this
      have := of_decide_eq_true this
      omega
    have hb : ((r : Int) == 65533) = false := by rw [beq_eq_false_iff_ne]; omega
    have h0 : (0 : Int) ≤ (r : Int) := by omega
    have h1 : ¬ ((r : Int) < 128) := by omega
    have hd : decide ((r : Int) < 128) = false := decide_eq_false h1
    clear hbad h1
    obtain ⟨rs, hrs⟩ : ∃ rs, Utf8.encode (r : Int) = rs := ⟨_, rfl⟩
    rw [hrs] at z2 z4 z5
    have Z5 := Lib.hid z5
    clear z5
    have s3 : rs.size = 2 ∨ rs.size = 3 ∨ rs.size = 4 := by omega
    clear z2 z4
    have HV := Lib.hid hv
    clear hv
    rcases s3 with hs | hs | hs
    · have h12 : 1 < rs.size := by omega
      obtain ⟨b, hbx⟩ : ∃ b : UInt8, (rs[1]'h12) = b := ⟨_, rfl⟩
      have hx : 128 ≤ b.toNat := by
        have := Z5.out (by omega)
        rw [← hbx]
        have e : rs.size - 1 = 1 := by omega
        simpa only [e] using this
      have hsz : ((rs.size : Int)) = 2 := by omega
      have hne : ((((⟨#[47, 0]⟩ : ByteArray)[1]'(by decide)).toNat : Int) != (b.toNat : Int)) = true := by
        have : (((⟨#[47, 0]⟩ : ByteArray)[1]'(by decide)).toNat : Int) = 0 := rfl
        rw [this]; simp; omega
      have h12' : (1 : Int) < (rs.size : Int) := by omega
      go_enter Tryd.func67, Tryd.ntmps67
      go_wp2_with (go_at_call 76; refine (Tryd.utf8_ValidRune _ _).mono ?_; rintro e w' ⟨rfl, rfl⟩)
      go_step3
      go_wp2_with fail
      refine wp_loop_rounds 1 ?_
      rw [rounds_succ]
      go_wp2_with fail
      go_step3
      go_wp2_with fail
      refine wp_region_quiet_below (by kernel_rfl) (by kernel_rfl) ?_
      repeat (go_big_quiet_step (fail))
      refine wpQuiet_nil ?_
      intro wq hwq
      have q := Fr.regrown f.ok hwq
      clear hwq
      replace f := f.trans q
      clear q
      go_wp2_with fail
      refine wp_region_quiet_below (by kernel_rfl) (by kernel_rfl) ?_
      repeat (go_big_quiet_step (first | (go_at_call 75; exact qfr (ib_none _ b (by rfl) _ (okR f.ok _ _)))))
      refine wpQuiet_nil ?_
      intro wq hwq
      have q := Fr.regrown f.ok hwq
      clear hwq
      replace f := f.trans q
      clear q
      go_wp2_with fail
      rw [Exit.noGoto_ret]
      go_wp2_with fail
      rw [Exit.noGoto_ret]
      go_ret
      exact ⟨rfl, f⟩
    · go_enter Tryd.func67, Tryd.ntmps67
      go_wp2_with (go_at_call 76; refine (Tryd.utf8_ValidRune _ _).mono ?_; rintro e w' ⟨rfl, rfl⟩)
      go_step3
      go_wp2_with fail
      refine wp_loop_rounds 1 ?_
      rw [rounds_succ]
      go_wp2_with fail
      rw [Exit.noGoto_ret]
      go_ret
      exact ⟨rfl, f⟩
    · go_enter Tryd.func67, Tryd.ntmps67
      go_wp2_with (go_at_call 76; refine (Tryd.utf8_ValidRune _ _).mono ?_; rintro e w' ⟨rfl, rfl⟩)
      go_step3
      go_wp2_with fail
      refine wp_loop_rounds 1 ?_
      rw [rounds_succ]
      go_wp2_with fail
      rw [Exit.noGoto_ret]
      go_ret
      exact ⟨rfl, f⟩

/-- the iterator's next step, wherever the iterator lies -/
def nextW (W : World) (g : Nat) (s : ByteArray) (p : Nat) : World := { W with heap := W.heap.setIfInBounds g (.stringIter s p) }
theorem run_next_at {P : Program} (W : World) (g : Nat) (s : ByteArray) (pos : Nat) (ty : TypeId) (H : W.heap[g]? = some (.stringIter s pos)) (h : pos < s.size) :
    (Instr.next (.pointer (some ⟨g, 0, none⟩)) true ty).run P W = .ok (.tuple #[.bool true, .int .i64 pos, .int .i32 ((Utf8.decode s pos).1 : Nat)]) (nextW W g s (pos + (Utf8.decode s pos).2)) := by
  simp only [Instr.next, getObj, setObj, Sem.run_bind, Sem.run, H, Result.andThen, h, if_true]
  simp [goInt, Sem.run, H, nextW]
theorem run_next_at_end {P : Program} (W : World) (g : Nat) (s : ByteArray) (pos : Nat) (ty : TypeId) (H : W.heap[g]? = some (.stringIter s pos)) (h : ¬ pos < s.size) :
    (Instr.next (.pointer (some ⟨g, 0, none⟩)) true ty).run P W = .ok (.tuple #[.bool false]) W := by
  simp [Instr.next, getObj, Sem.run, H, h]
theorem fr_next {w W : World} {g : Nat} (f : Fr w W) (hw : Ok w) (hg : w.heap.size ≤ g) (s : ByteArray) (p : Nat) : Fr w (nextW W g s p) :=
  Fr.of hw ⟨f.below.os, f.below.tape, f.below.output, by have := f.below.size; simpa [nextW] using this, fun k hk => by
    have h1 := f.below.block k hk
    simp only [nextW]
    rw [Array.getElem?_setIfInBounds_ne (by omega)]; exact h1⟩
theorem next_heap {W : World} {g : Nat} {s : ByteArray} {q : Nat} (H : W.heap[g]? = some (.stringIter s q)) (p : Nat) : (nextW W g s p).heap[g]? = some (.stringIter s p) := by
  have hlt := (Array.getElem?_eq_some_iff.1 H).1
  simp [nextW, hlt]

/-- no byte of s ahead of i is one of the two -/
theorem noneOf_take (s : List UInt8) : Lib.NoAny s [47, 0] s.length ↔ noneOf s = true := by
  unfold noneOf Lib.NoAny
  rw [List.all_eq_true]
  constructor
  · intro h x hx
    obtain ⟨j, hj, rfl⟩ := List.getElem_of_mem hx
    have := h j s[j] hj (List.getElem?_eq_getElem hj)
    simp at this ⊢
    exact ⟨this.2, this.1⟩
  · intro h j b hj hb
    have := h b (List.mem_of_getElem? hb)
    simp at this ⊢
    exact ⟨this.2, this.1⟩

set_option maxHeartbeats 3200000 in
set_option maxRecDepth 1000000 in
theorem indexAny_short (s : ByteArray) (h8 : s.size ≤ 8) (w : World) (hw : Ok w) : Calls Tryd.prog 65 #[.string s, .string ⟨#[47, 0]⟩] w fun e w' => (∃ i : Int, e = .returned (.int .i64 i) ∧ decide (0 ≤ i) = !noneOf s.data.toList) ∧ Fr w w' := by
  have f := Fr.refl hw
  have h8z : decide ((8 : Int) < (s.size : Int)) = false := decide_eq_false (by omega)
  obtain ⟨g, hg⟩ : ∃ g, w.heap.size = g := ⟨_, rfl⟩
  have H0 : (w.iter s 0).heap[g]? = some (.stringIter s 0) := by rw [← hg]; exact World.iter_heap w s 0
  obtain ⟨wi, hwi⟩ : ∃ wi, w.iter s 0 = wi := ⟨_, rfl⟩
  have fi : Fr w wi := by rw [← hwi]; exact fr_iter f s 0
  rw [hwi] at H0
  have hgw : w.heap.size ≤ g := by omega
  go_enter Tryd.func65, Tryd.ntmps65
  go_wp2_with (go_at_call 68; refine (Tryd.strings_shouldUseASCIISet _ _).mono ?_; rintro e w' ⟨rfl, hw'⟩; rw [hw', h8z])
  go_loopg [9, 10] s.size (fun q _ _ W => ∃ i : Nat, Hid (q = s.size - i ∧ i ≤ s.size) ∧ W.heap[g]? = some (.stringIter s i) ∧ Fr w W ∧ Hid (Lib.NoAny s.data.toList [47, 0] i))
  case atStart => exact ⟨0, Lib.hid ⟨rfl, by omega⟩, H0, fi, Lib.hid (Lib.NoAny.zero _ _)⟩
  case round =>
    clear H0 fi
    obtain ⟨i, hq, H, f, HN⟩ := hrel
    obtain ⟨rfl, hi⟩ := hq.out
    clear hq
    by_cases hlt : i < s.size
    · have hnx := fun ty => run_next_at (P := Tryd.prog) wr g s i ty H hlt
      by_cases hx : (s[i]'hlt).toNat < 128
      · rw [decode_ascii s i hlt hx] at hnx
        dsimp only at hnx
        have f5 := fr_next f hw hgw s (i + 1)
        have H5 := next_heap H (i + 1)
        obtain ⟨w5, hw5⟩ : ∃ w5, nextW wr g s (i + 1) = w5 := ⟨_, rfl⟩
        rw [hw5] at f5 H5
        rw [hw5] at hnx
        obtain ⟨c, hc⟩ : ∃ c : UInt8, s[i]'hlt = c := ⟨_, rfl⟩
        rw [hc] at hnx hx
        have hmem : c ∈ s.data.toList := by rw [← hc]; exact Array.getElem_mem_toList (xs := s.data) hlt
        have hget : s.data.toList[i]? = some c := by rw [← hc]; exact Lib.data_getElem? s i hlt
        have hHit : (c = 47 ∨ c = 0) → Hid (noneOf s.data.toList = false) := fun h => Lib.hid (by
          cases hn : noneOf s.data.toList with
          | false => rfl
          | true =>
            unfold noneOf at hn
            have := List.all_eq_true.1 hn c hmem
            rcases h with rfl | rfl <;> simp at this)
        have hMiss : ¬ (c = 47 ∨ c = 0) → Hid (Lib.NoAny s.data.toList [47, 0] (i + 1)) := fun h => Lib.hid (HN.out.succ hget (by simp; exact not_or.1 h))
        have e47 : Lib.indexByte [47, 0] 47 = 0 := by decide
        have e0 : Lib.indexByte [47, 0] 0 = 1 := by decide
        have eN : ¬ (c = 47 ∨ c = 0) → Lib.indexByte [47, 0] c = -1 := fun h => by
          have h1 : (47 == c) = false := by rw [beq_eq_false_iff_ne]; exact fun e => h (.inl e.symm)
          have h2 : (0 == c) = false := by rw [beq_eq_false_iff_ne]; exact fun e => h (.inr e.symm)
          simp [Lib.indexByte, h1, h2]
        have CR : ∀ v, Lib.indexByte [47, 0] c = v → ∀ w : World, Calls Tryd.prog 67 #[.string ⟨#[47, 0]⟩, .int .i32 (c.toNat : Nat)] w fun e w' => e = .returned (.int .i64 v) ∧ w = w' := fun v hv w =>
          (Tryd.strings_IndexRune_ascii ⟨#[47, 0]⟩ c.toNat w (by omega) (by omega)).mono fun e w' ⟨he, hw'⟩ => ⟨by rw [he, ← hv]; simp, hw'.symm⟩
        clear hmem hget hc H f
        by_cases hcc : c = 47 ∨ c = 0
        · obtain ⟨v, hv, hv0⟩ : ∃ v : Int, Lib.indexByte [47, 0] c = v ∧ 0 ≤ v := by
            rcases hcc with rfl | rfl
            · exact ⟨0, e47, by omega⟩
            · exact ⟨1, e0, by omega⟩
          have CV := Lib.hid (CR v hv)
          have HZ := hHit hcc
          clear hHit hMiss e47 e0 eN CR hcc hv HN
          go_wp2_with (go_at_call 67; refine (CV.out _).mono ?_; rintro e wx ⟨rfl, rfl⟩)
          go_ret
          exact ⟨⟨i, rfl, by rw [HZ.out]; exact decide_eq_true (by omega)⟩, f5⟩
        · have CV := Lib.hid (CR (-1) (eN hcc))
          have HM := hMiss hcc
          clear hHit hMiss e47 e0 eN CR hcc HN
          go_wp2_with (go_at_call 67; refine (CV.out _).mono ?_; rintro e wx ⟨rfl, rfl⟩)
          go_roundg (s.size - (i + 1))
          case measure => omega
          case rel => exact ⟨i + 1, Lib.hid ⟨rfl, by omega⟩, H5, f5, HM⟩
      · obtain ⟨r, n, hdec, hr, hv, hn1, hin, hall⟩ := decode_high s i hlt (by omega)
        rw [hdec] at hnx
        dsimp only at hnx
        have f5 := fr_next f hw hgw s (i + n)
        have H5 := next_heap H (i + n)
        obtain ⟨w5, hw5⟩ : ∃ w5, nextW wr g s (i + n) = w5 := ⟨_, rfl⟩
        rw [hw5] at f5 H5
        rw [hw5] at hnx
        have HM : Hid (Lib.NoAny s.data.toList [47, 0] (i + n)) := Lib.hid (fun j b hj hb => by
          by_cases hji : j < i
          · exact HN.out j b hji hb
          · have hjs : j < s.size := by omega
            have h1 := hall j hjs (by omega) hj
            have h2 : s.data.toList[j]? = some (s[j]'hjs) := Lib.data_getElem? s j hjs
            rw [h2] at hb
            injection hb with hb
            rw [hb] at h1
            simp
            constructor <;> (rintro rfl; simp at h1))
        have CV := Lib.hid (indexRune_high r hr hv)
        clear hall HN H f hx hdec
        go_wp2_with (go_at_call 67; refine (CV.out _ f5.ok).mono ?_; rintro e wx ⟨rfl, q⟩; replace H5 := q.heap H5; replace f5 := f5.trans q; clear q)
        go_roundg (s.size - (i + n))
        case measure => omega
        case rel => exact ⟨i + n, Lib.hid ⟨rfl, by omega⟩, H5, f5, HM⟩
    · obtain rfl : i = s.size := by omega
      have hnx := fun ty => run_next_at_end (P := Tryd.prog) wr g s s.size ty H (by omega)
      have HZ : Hid (noneOf s.data.toList = true) := Lib.hid ((noneOf_take _).1 (by have := HN.out; rwa [show s.data.toList.length = s.size from Array.length_toList]))
      clear HN
      go_wp2_with fail
      go_ret
      exact ⟨⟨-1, rfl, by rw [HZ.out]; rfl⟩, f⟩
end Go.Proofs.YtefkklgelmbaiaaDoor
