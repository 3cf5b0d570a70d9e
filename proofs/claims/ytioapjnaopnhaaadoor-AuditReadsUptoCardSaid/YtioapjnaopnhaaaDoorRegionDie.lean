/- A region that draws its order and in which one call panics: what is picked ahead of it only reads or calls what yields one value; whatever order is picked, the call comes up and its panic goes out. No conditions. -/
import Derived.Test.YtioapjnaopnhaaaDoorRegion
import Derived.Deep.QuietTactic
namespace Go.Proofs.YtioapjnaopnhaaaDoor.Reg
open Go Go.RowKit Go.Sort

section
variable {P : Program} {ops : Array Oper} {md : Region.Mode} {C : World → Prop} {c : Nat} {ch : List PanicEntry} {R : Act → Prop}

/-- the operation enters a function that panics with this chain, in a world of the class -/
def dieUpon (P : Program) (C : World → Prop) (ch : List PanicEntry) (w : World) : Result Next → Prop
  | .ok (.enter f args) w' => w' = w ∧ Calls P f args w (fun e w'' => e = .panicked ch ∧ C w'')
  | _ => False
def DieIn (P : Program) (ops : Array Oper) (C : World → Prop) (ch : List PanicEntry) (o : Oper) (a : Act) : Prop :=
  Region.wanted o (yielded ops a.tmps) = true ∧ ∀ w, C w → dieUpon P C ch w ((execOp a.eval o).run P w)

def wpAnyD (P : Program) (md : Region.Mode) (ops : Array Oper) (C : World → Prop) (c : Nat) (ch : List PanicEntry) (R : Act → Prop) : Nat → Array Bool → Act → Prop
  | 0, _, _ => False
  | f + 1, listed, a =>
    Region.ready md ops listed ≠ [] ∧ ∀ i ∈ Region.ready md ops listed,
      (i = c → ∃ oc, ops[c]? = some oc ∧ DieIn P ops C ch oc a ∧ R a) ∧ (i ≠ c → qOp P ops C i (wpAnyD P md ops C c ch R f (listed.setIfInBounds i true)) a)

theorem wpOp_of_die {oc : Oper} {a : Act} {K' : Act → World → Prop} {Q' : Exit → Act → World → Prop} {w : World} (hoc : ops[c]? = some oc) (hC : C w) (hd : DieIn P ops C ch oc a)
    (hR : ∀ w, C w → Q' (.panic ch) a w) : wpOp P ops Q' c K' a w := by
  obtain ⟨hw, hd⟩ := hd
  unfold wpOp
  simp only [hoc, hw, if_true]
  refine .inl ?_
  have h3 := hd w hC
  unfold Oper.wp
  generalize (execOp a.eval oc).run P w = r at *
  cases r with
  | ok n w' =>
    cases n <;> simp only [dieUpon] at h3 <;> simp only [Oper.upon]
    case enter f args =>
      obtain ⟨e1, hc⟩ := h3
      rw [e1]
      exact hc.mono fun e w'' ⟨he, hw''⟩ => by subst he; exact hR _ hw''
  | halt x w' => simp only [dieUpon] at h3

theorem wpAny_of_die {Q' : Exit → Act → World → Prop} (hR : ∀ a w, C w → R a → Q' (.panic ch) a w) :
    ∀ (f : Nat) (listed : Array Bool) (a : Act) (w : World), C w → wpAnyD P md ops C c ch R f listed a → wpAny P md ops Q' f listed a w
  | 0, _, _, _, _, h => h.elim
  | f + 1, listed, a, w, hw, h => ⟨fun h0 => absurd h0 h.1, fun i hi => by
      by_cases hic : i = c
      · subst hic
        obtain ⟨oc, hoc, hd, hr⟩ := (h.2 i hi).1 rfl
        exact wpOp_of_die hoc hw hd (fun w hw => hR a w hw hr)
      · exact wpOp_of_qOp hw (fun a' w' hw' h' => wpAny_of_die hR f _ a' w' hw' h') ((h.2 i hi).2 hic)⟩

theorem wpAnyD_more : ∀ (f g : Nat) (listed : Array Bool) (a : Act), wpAnyD P md ops C c ch R f listed a → wpAnyD P md ops C c ch R (f + g) listed a
  | 0, _, _, _, h => h.elim
  | f + 1, g, listed, a, h => by
    rw [show f + 1 + g = (f + g) + 1 by omega]
    exact ⟨h.1, fun i hi => ⟨(h.2 i hi).1, fun hic => qOp_mono (fun a' h' => wpAnyD_more f g _ a' h') ((h.2 i hi).2 hic)⟩⟩

theorem wpAnyD_first {i : Nat} {oi : Oper} {v : Value} (hi : ops[i]? = some oi) (hic : i ≠ c) (hsel : ∀ (j : Nat) (o : Oper) cs b, ops[j]? = some o → o.op ≠ .select cs b)
    (hRput : ∀ (i : Nat) (oi : Oper), ops[i]? = some oi → ∀ a v, R (Act.put a oi.dst v) → R a) :
    ∀ (f : Nat) (listed : Array Bool) (a : Act),
      (∀ j oj, ops[j]? = some oj → j ≠ i → listed.getD j true = false → (∀ e ∈ oj.after, Region.binds md e = true → e.on ≠ i) → oi.apart ops oj = true) →
      i ∈ Region.ready md ops listed → YieldsIn P ops C oi v a →
      wpAnyD P md ops C c ch R f (listed.setIfInBounds i true) (a.put oi.dst v) → wpAnyD P md ops C c ch R (f + 1) listed a := by
  intro f
  induction f with
  | zero => intro listed a _ _ _ H; exact H.elim
  | succ f ih =>
    intro listed a hfree hr hy H
    have hun := (mem_ready.1 hr).1
    refine ⟨fun h => (by rw [h] at hr; cases hr), fun j hj => ?_⟩
    obtain ⟨hjun, oj, hoj, hall⟩ := mem_ready.1 hj
    have hnot : ∀ e ∈ oj.after, Region.binds md e = true → e.on ≠ i := fun e he hb heq => by
      have h1 := hall e he hb
      rw [heq, getD_both hun] at h1
      cases h1
    by_cases hji : j = i
    · subst hji; exact ⟨fun h => absurd h hic, fun _ => hy.qOp hi H⟩
    · have hap := hfree j oj hoj hji hjun hnot
      refine ⟨fun hjc => ?_, fun hjc => ?_⟩
      · subst hjc
        obtain ⟨oc, hoc, hd, hr'⟩ := (H.2 j (ready_mono hj hji)).1 rfl
        have : oc = oj := Option.some.inj (hoc.symm.trans hoj)
        subst this
        obtain ⟨h1, _, _⟩ := Oper.apart_spec hap
        refine ⟨oc, hoc, ⟨?_, fun w hw => ?_⟩, hRput i oi hi a v hr'⟩
        · rw [← wanted_put oc a oi.dst v h1]; exact hd.1
        · rw [← execOp_put oc (fun cs b => hsel j oc cs b hoc) a oi.dst v h1]; exact hd.2 w hw
      · have h1 := (H.2 j (ready_mono hj hji)).2 hjc
        have h2 := qOp_put hoj hap (fun cs b => hsel i oi cs b hi) (fun cs b => hsel j oj cs b hoj) hy h1
        have hfree' : ∀ k ok, ops[k]? = some ok → k ≠ i → (listed.setIfInBounds j true).getD k true = false →
            (∀ e ∈ ok.after, Region.binds md e = true → e.on ≠ i) → oi.apart ops ok = true := fun k ok hk hki hun hno => by
          refine hfree k ok hk hki ?_ hno
          by_cases hjk : j = k
          · subst hjk; exact hjun
          · rw [getD_set_ne true hjk] at hun; exact hun
        refine qOp_mono (fun a' h3 => ih (listed.setIfInBounds j true) a' hfree' (ready_mono hr (Ne.symm hji)) h3.1 ?_) h2
        rw [Array.setIfInBounds_comm _ _ hji]
        exact h3.2

/-- what is picked ahead: the operations that are marked -/
def pickM : List Bool → List Oper → List Oper
  | true :: m, o :: l => o :: pickM m l
  | false :: m, _ :: l => pickM m l
  | _, _ => []
def lexD (md : Region.Mode) (ops : Array Oper) (c : Nat) : List Bool → Nat → Array Bool → Bool
  | true :: m, k, listed => decide (k ≠ c) && (Region.ready md ops listed).contains k && Region.free md ops listed k && lexD md ops c m (k + 1) (listed.setIfInBounds k true)
  | false :: m, k, listed => lexD md ops c m (k + 1) listed
  | [], _, listed => Region.ready md ops listed == [c]

theorem wpAnyD_lex {oc : Oper} (hoc : ops[c]? = some oc) (hs : Region.noSelect ops = true) (hRput : ∀ (i : Nat) (oi : Oper), ops[i]? = some oi → ∀ a v, R (Act.put a oi.dst v) → R a) :
    ∀ (m : List Bool) (l : List Oper) (k : Nat) (listed : Array Bool) (a : Act), m.length = l.length → (∀ j, j < l.length → l[j]? = ops[k + j]?) →
    lexD md ops c m k listed = true → wpQuiet P ops C (fun a' => DieIn P ops C ch oc a' ∧ R a') (pickM m l) a → wpAnyD P md ops C c ch R (m.length + 1) listed a
  | [], [], k, listed, a, _, _, hB, h => by
    simp only [lexD, beq_iff_eq] at hB
    simp only [pickM, wpQuiet] at h
    refine ⟨by rw [hB]; simp, fun i hi => ?_⟩
    rw [hB] at hi
    have : i = c := by simpa using hi
    subst this
    exact ⟨fun _ => ⟨oc, hoc, h⟩, fun h => absurd rfl h⟩
  | true :: m, o :: l, k, listed, a, hlen, hl, hB, h => by
    have h0 : ops[k]? = some o := by simpa using (hl 0 (by simp)).symm
    simp only [lexD, Bool.and_eq_true, decide_eq_true_eq] at hB
    obtain ⟨⟨⟨hkc, hr⟩, hf⟩, hB'⟩ := hB
    have hst : qOp P ops C k (wpQuiet P ops C (fun a' => DieIn P ops C ch oc a' ∧ R a') (pickM m l)) a := by unfold qOp; simp only [h0]; exact h
    obtain ⟨v, hy, hK⟩ := yieldsIn_of_qOp h0 hst
    exact wpAnyD_first h0 hkc (Region.noSelect_spec hs) hRput (m.length + 1) listed a (Region.free_spec h0 hf) (by simpa using hr) hy
      (wpAnyD_lex hoc hs hRput m l (k + 1) _ _ (by simpa using hlen) (fun j hj => by have := hl (j + 1) (by simp; omega); simpa [Nat.add_assoc, Nat.add_comm 1 j] using this) hB' hK)
  | false :: m, o :: l, k, listed, a, hlen, hl, hB, h => by
    simp only [lexD] at hB
    simp only [pickM] at h
    have := wpAnyD_lex hoc hs hRput m l (k + 1) listed a (by simpa using hlen) (fun j hj => by have := hl (j + 1) (by simp; omega); simpa [Nat.add_assoc, Nat.add_comm 1 j] using this) hB h
    exact wpAnyD_more _ 1 _ _ this
  | [], _ :: _, _, _, _, hlen, _, _, _ => by simp at hlen
  | _ :: _, [], _, _, _, hlen, _, _, _ => by simp at hlen

theorem pickM_take : ∀ (m : List Bool) (l : List Oper), pickM m (l.take m.length) = pickM m l
  | [], l => by cases l <;> rfl
  | true :: m, [] => rfl
  | false :: m, [] => rfl
  | true :: m, o :: l => by simp only [List.length_cons, List.take_succ_cons, pickM]; rw [pickM_take m l]
  | false :: m, o :: l => by simp only [List.length_cons, List.take_succ_cons, pickM]; rw [pickM_take m l]

/-- the frame's parts that a way out looks at: what is deferred, and these slots -/
def KeptAt (ks : List Nat) (A : Act) (a : Act) : Prop := a.defers = A.defers ∧ ∀ k ∈ ks, a.tmps[k]? = A.tmps[k]?
def dieB (md : Region.Mode) (ops : Array Oper) (ks : List Nat) (c : Nat) (m : List Bool) : Bool :=
  Region.noSelect ops && decide (m.length + 1 ≤ ops.size) && decide (c < ops.size) && (ops.all fun o => ks.all fun k => o.dst != some k) && lexD md ops c m 0 (Array.replicate ops.size false)

theorem KeptAt.put {ks : List Nat} {A a : Act} {d : Option Tmp} {v : Value} (hd : ∀ k ∈ ks, d ≠ some k) (h : KeptAt ks A (a.put d v)) : KeptAt ks A a := by
  cases d with
  | none => exact h
  | some d =>
    refine ⟨h.1, fun k hk => ?_⟩
    have h1 := h.2 k hk
    have hne : d ≠ k := fun e => hd k hk (by rw [e])
    simp only [Act.put] at h1
    rw [Array.getElem?_setIfInBounds_ne hne] at h1
    exact h1

theorem wp_region_dies {id : Nat} {Q : Exit → Act → World → Prop} {a : Act} {w : World} {l : List Oper} (ks : List Nat) (c : Nat) (m : List Bool) (ch : List PanicEntry) (A : Act) (hm : P.follows .mixedOrders = true) (hB : dieB .any l.toArray ks c m = true)
    (oc : Oper) (hoc : l[c]? = some oc) (hC : C { w with drawn := w.drawn + 1 }) (hQ : ∀ a' w', C w' → KeptAt ks A a' → Q (.panic ch) a' w')
    (h : wpQuiet P l.toArray C (fun a' => DieIn P l.toArray C ch oc a' ∧ KeptAt ks A a') (pickM m l) a) : (Code.region id l.toArray true).wp P Q a w := by
  simp only [dieB, Bool.and_eq_true, decide_eq_true_eq] at hB
  obtain ⟨⟨⟨⟨hsel, hml⟩, hcl⟩, hks⟩, hlex⟩ := hB
  refine wp_region_any hm (wpAny_of_die (R := KeptAt ks A) (c := c) (ch := ch) (C := C) (fun a' w' hw' hr => hQ a' w' hw' hr) _ _ _ _ hC ?_)
  have hput : ∀ (i : Nat) (oi : Oper), l.toArray[i]? = some oi → ∀ a v, KeptAt ks A (Act.put a oi.dst v) → KeptAt ks A a := fun i oi hi a v h => by
    refine KeptAt.put (fun k hk e => ?_) h
    have h1 := (Array.all_eq_true'.1 hks) oi (Array.mem_of_getElem? hi)
    have h2 := (List.all_eq_true.1 h1) k hk
    simp [e] at h2
  have hml' : m.length ≤ l.length := by simp at hml; omega
  have hp : pickM m (l.take m.length) = pickM m l := pickM_take m l
  have h1 := wpAnyD_lex (C := C) (md := .any) (ch := ch) (R := KeptAt ks A) (ops := l.toArray) (c := c) (oc := oc) (by simpa using hoc) hsel hput m (l.take m.length) 0 (Array.replicate l.toArray.size false) a
    (by simp; omega) (fun j hj => by simp at hj; simp [hj]) hlex (by rw [hp]; exact h)
  have h2 := wpAnyD_more _ (l.toArray.size - (m.length + 1)) _ _ h1
  rwa [show m.length + 1 + (l.toArray.size - (m.length + 1)) = l.toArray.size by omega] at h2
/-- .. at the class of all worlds behind w with new blocks and draws -/
theorem wp_region_dies_below {id : Nat} {Q : Exit → Act → World → Prop} {a : Act} {w : World} {l : List Oper} (ks : List Nat) (c : Nat) (m : List Bool) (ch : List PanicEntry) (hm : P.follows .mixedOrders = true) (hB : dieB .any l.toArray ks c m = true)
    (oc : Oper) (hoc : l[c]? = some oc) (hQ : ∀ a' w', (∃ p : Regrown, w' = grow (redrawn w p.d) p.os) → KeptAt ks a a' → Q (.panic ch) a' w')
    (h : wpQuiet P l.toArray (fun w' => ∃ p : Regrown, w' = grow (redrawn w p.d) p.os) (fun a' => DieIn P l.toArray (fun w' => ∃ p : Regrown, w' = grow (redrawn w p.d) p.os) ch oc a' ∧ KeptAt ks a a') (pickM m l) a) : (Code.region id l.toArray true).wp P Q a w :=
  wp_region_dies (C := fun w' => ∃ p : Regrown, w' = grow (redrawn w p.d) p.os) ks c m ch a hm hB oc hoc ⟨⟨w.drawn + 1, #[]⟩, by rw [grow_empty]; rfl⟩ hQ h
end
end Go.Proofs.YtioapjnaopnhaaaDoor.Reg
