/- PointReads: for every row of bytes whose bulk is at most 1048576 the law returns true. The row and its card. -/
import Derived.Test.YtefkklgelmbaiaaDoorZ7
import Derived.Deep.QuietTactic
import Derived.Below
import Derived.OpenShut
import Derived.Deep.DeepHandedRow
import Derived.ProofKit
namespace Go.Proofs.YtefkklgelmbaiaaDoor.Reg
open Go Go.RowKit Go.Sort

section
variable {P : Program} {ops : Array Oper} {md : Region.Mode} {C E : World → Prop} {c : Nat} {ch : List PanicEntry} {R : Act → Prop}

/-- the operation enters a function that panics with this chain, in a world of the class -/
def dieUponE (P : Program) (E : World → Prop) (ch : List PanicEntry) (w : World) : Result Next → Prop
  | .ok (.enter f args) w' => w' = w ∧ Calls P f args w (fun e w'' => e = .panicked ch ∧ E w'')
  | _ => False
def DieInE (P : Program) (ops : Array Oper) (C E : World → Prop) (ch : List PanicEntry) (o : Oper) (a : Act) : Prop :=
  Region.wanted o (yielded ops a.tmps) = true ∧ ∀ w, C w → dieUponE P E ch w ((execOp a.eval o).run P w)

def wpAnyDE (P : Program) (md : Region.Mode) (ops : Array Oper) (C E : World → Prop) (c : Nat) (ch : List PanicEntry) (R : Act → Prop) : Nat → Array Bool → Act → Prop
  | 0, _, _ => False
  | f + 1, listed, a =>
    Region.ready md ops listed ≠ [] ∧ ∀ i ∈ Region.ready md ops listed,
      (i = c → ∃ oc, ops[c]? = some oc ∧ DieInE P ops C E ch oc a ∧ R a) ∧ (i ≠ c → qOp P ops C i (wpAnyDE P md ops C E c ch R f (listed.setIfInBounds i true)) a)

theorem wpOp_of_dieE {oc : Oper} {a : Act} {K' : Act → World → Prop} {Q' : Exit → Act → World → Prop} {w : World} (hoc : ops[c]? = some oc) (hC : C w) (hd : DieInE P ops C E ch oc a)
    (hR : ∀ w, E w → Q' (.panic ch) a w) : wpOp P ops Q' c K' a w := by
  obtain ⟨hw, hd⟩ := hd
  unfold wpOp
  simp only [hoc, hw, if_true]
  refine .inl ?_
  have h3 := hd w hC
  unfold Oper.wp
  generalize (execOp a.eval oc).run P w = r at *
  cases r with
  | ok n w' =>
    cases n <;> simp only [dieUponE] at h3 <;> simp only [Oper.upon]
    case enter f args =>
      obtain ⟨e1, hc⟩ := h3
      rw [e1]
      exact hc.mono fun e w'' ⟨he, hw''⟩ => by subst he; exact hR _ hw''
  | halt x w' => simp only [dieUponE] at h3

theorem wpAny_of_dieE {Q' : Exit → Act → World → Prop} (hR : ∀ a w, E w → R a → Q' (.panic ch) a w) :
    ∀ (f : Nat) (listed : Array Bool) (a : Act) (w : World), C w → wpAnyDE P md ops C E c ch R f listed a → wpAny P md ops Q' f listed a w
  | 0, _, _, _, _, h => h.elim
  | f + 1, listed, a, w, hw, h => ⟨fun h0 => absurd h0 h.1, fun i hi => by
      by_cases hic : i = c
      · subst hic
        obtain ⟨oc, hoc, hd, hr⟩ := (h.2 i hi).1 rfl
        exact wpOp_of_dieE hoc hw hd (fun w hw => hR a w hw hr)
      · exact wpOp_of_qOp hw (fun a' w' hw' h' => wpAny_of_dieE hR f _ a' w' hw' h') ((h.2 i hi).2 hic)⟩

theorem wpAnyD_moreE : ∀ (f g : Nat) (listed : Array Bool) (a : Act), wpAnyDE P md ops C E c ch R f listed a → wpAnyDE P md ops C E c ch R (f + g) listed a
  | 0, _, _, _, h => h.elim
  | f + 1, g, listed, a, h => by
    rw [show f + 1 + g = (f + g) + 1 by omega]
    exact ⟨h.1, fun i hi => ⟨(h.2 i hi).1, fun hic => qOp_mono (fun a' h' => wpAnyD_moreE f g _ a' h') ((h.2 i hi).2 hic)⟩⟩

theorem wpAnyD_firstE {i : Nat} {oi : Oper} {v : Value} (hi : ops[i]? = some oi) (hic : i ≠ c) (hsel : ∀ (j : Nat) (o : Oper) cs b, ops[j]? = some o → o.op ≠ .select cs b)
    (hRput : ∀ (i : Nat) (oi : Oper), ops[i]? = some oi → ∀ a v, R (Act.put a oi.dst v) → R a) :
    ∀ (f : Nat) (listed : Array Bool) (a : Act),
      (∀ j oj, ops[j]? = some oj → j ≠ i → listed.getD j true = false → (∀ e ∈ oj.after, Region.binds md e = true → e.on ≠ i) → oi.apart ops oj = true) →
      i ∈ Region.ready md ops listed → YieldsIn P ops C oi v a →
      wpAnyDE P md ops C E c ch R f (listed.setIfInBounds i true) (a.put oi.dst v) → wpAnyDE P md ops C E c ch R (f + 1) listed a := by
  intro f
  induction f with
  | zero => intro listed a _ _ _ H; exact H.elim
  | succ f ih =>
    intro listed a hfree hr hy H
    have hun := (mem_ready.1 hr).1
    refine ⟨fun h => (by rw [h] at hr; cases hr), fun j hj => ?_⟩
    obtain ⟨hjun, oj, hoj, hall⟩ := mem_ready.1 hj
    have hnot : ∀ e ∈ oj.after, Region.binds md e = true → e.on ≠ i := fun e he hb heq => by
      have h1 := hall e he hb
      rw [heq, getD_both hun] at h1
      cases h1
    by_cases hji : j = i
    · subst hji; exact ⟨fun h => absurd h hic, fun _ => hy.qOp hi H⟩
    · have hap := hfree j oj hoj hji hjun hnot
      refine ⟨fun hjc => ?_, fun hjc => ?_⟩
      · subst hjc
        obtain ⟨oc, hoc, hd, hr'⟩ := (H.2 j (ready_mono hj hji)).1 rfl
        have : oc = oj := Option.some.inj (hoc.symm.trans hoj)
        subst this
        obtain ⟨h1, _, _⟩ := Oper.apart_spec hap
        refine ⟨oc, hoc, ⟨?_, fun w hw => ?_⟩, hRput i oi hi a v hr'⟩
        · rw [← wanted_put oc a oi.dst v h1]; exact hd.1
        · rw [← execOp_put oc (fun cs b => hsel j oc cs b hoc) a oi.dst v h1]; exact hd.2 w hw
      · have h1 := (H.2 j (ready_mono hj hji)).2 hjc
        have h2 := qOp_put hoj hap (fun cs b => hsel i oi cs b hi) (fun cs b => hsel j oj cs b hoj) hy h1
        have hfree' : ∀ k ok, ops[k]? = some ok → k ≠ i → (listed.setIfInBounds j true).getD k true = false →
            (∀ e ∈ ok.after, Region.binds md e = true → e.on ≠ i) → oi.apart ops ok = true := fun k ok hk hki hun hno => by
          refine hfree k ok hk hki ?_ hno
          by_cases hjk : j = k
          · subst hjk; exact hjun
          · rw [getD_set_ne true hjk] at hun; exact hun
        refine qOp_mono (fun a' h3 => ih (listed.setIfInBounds j true) a' hfree' (ready_mono hr (Ne.symm hji)) h3.1 ?_) h2
        rw [Array.setIfInBounds_comm _ _ hji]
        exact h3.2

/-- what is picked ahead: the operations that are marked -/
def pickME : List Bool → List Oper → List Oper
  | true :: m, o :: l => o :: pickME m l
  | false :: m, _ :: l => pickME m l
  | _, _ => []
def lexDE (md : Region.Mode) (ops : Array Oper) (c : Nat) : List Bool → Nat → Array Bool → Bool
  | true :: m, k, listed => decide (k ≠ c) && (Region.ready md ops listed).contains k && Region.free md ops listed k && lexDE md ops c m (k + 1) (listed.setIfInBounds k true)
  | false :: m, k, listed => lexDE md ops c m (k + 1) listed
  | [], _, listed => Region.ready md ops listed == [c]

theorem wpAnyD_lexE {oc : Oper} (hoc : ops[c]? = some oc) (hs : Region.noSelect ops = true) (hRput : ∀ (i : Nat) (oi : Oper), ops[i]? = some oi → ∀ a v, R (Act.put a oi.dst v) → R a) :
    ∀ (m : List Bool) (l : List Oper) (k : Nat) (listed : Array Bool) (a : Act), m.length = l.length → (∀ j, j < l.length → l[j]? = ops[k + j]?) →
    lexDE md ops c m k listed = true → wpQuiet P ops C (fun a' => DieInE P ops C E ch oc a' ∧ R a') (pickME m l) a → wpAnyDE P md ops C E c ch R (m.length + 1) listed a
  | [], [], k, listed, a, _, _, hB, h => by
    simp only [lexDE, beq_iff_eq] at hB
    simp only [pickME, wpQuiet] at h
    refine ⟨by rw [hB]; simp, fun i hi => ?_⟩
    rw [hB] at hi
    have : i = c := by simpa using hi
    subst this
    exact ⟨fun _ => ⟨oc, hoc, h⟩, fun h => absurd rfl h⟩
  | true :: m, o :: l, k, listed, a, hlen, hl, hB, h => by
    have h0 : ops[k]? = some o := by simpa using (hl 0 (by simp)).symm
    simp only [lexDE, Bool.and_eq_true, decide_eq_true_eq] at hB
    obtain ⟨⟨⟨hkc, hr⟩, hf⟩, hB'⟩ := hB
    have hst : qOp P ops C k (wpQuiet P ops C (fun a' => DieInE P ops C E ch oc a' ∧ R a') (pickME m l)) a := by unfold qOp; simp only [h0]; exact h
    obtain ⟨v, hy, hK⟩ := yieldsIn_of_qOp h0 hst
    exact wpAnyD_firstE h0 hkc (Region.noSelect_spec hs) hRput (m.length + 1) listed a (Region.free_spec h0 hf) (by simpa using hr) hy
      (wpAnyD_lexE hoc hs hRput m l (k + 1) _ _ (by simpa using hlen) (fun j hj => by have := hl (j + 1) (by simp; omega); simpa [Nat.add_assoc, Nat.add_comm 1 j] using this) hB' hK)
  | false :: m, o :: l, k, listed, a, hlen, hl, hB, h => by
    simp only [lexDE] at hB
    simp only [pickME] at h
    have := wpAnyD_lexE hoc hs hRput m l (k + 1) listed a (by simpa using hlen) (fun j hj => by have := hl (j + 1) (by simp; omega); simpa [Nat.add_assoc, Nat.add_comm 1 j] using this) hB h
    exact wpAnyD_moreE _ 1 _ _ this
  | [], _ :: _, _, _, _, hlen, _, _, _ => by simp at hlen
  | _ :: _, [], _, _, _, hlen, _, _, _ => by simp at hlen

theorem pickM_takeE : ∀ (m : List Bool) (l : List Oper), pickME m (l.take m.length) = pickME m l
  | [], l => by cases l <;> rfl
  | true :: m, [] => rfl
  | false :: m, [] => rfl
  | true :: m, o :: l => by simp only [List.length_cons, List.take_succ_cons, pickME]; rw [pickM_takeE m l]
  | false :: m, o :: l => by simp only [List.length_cons, List.take_succ_cons, pickME]; rw [pickM_takeE m l]

/-- the frame's parts that a way out looks at: what is deferred, and these slots -/
def KeptAtE (ks : List Nat) (A : Act) (a : Act) : Prop := a.defers = A.defers ∧ ∀ k ∈ ks, a.tmps[k]? = A.tmps[k]?
def dieBE (md : Region.Mode) (ops : Array Oper) (ks : List Nat) (c : Nat) (m : List Bool) : Bool :=
  Region.noSelect ops && decide (m.length + 1 ≤ ops.size) && decide (c < ops.size) && (ops.all fun o => ks.all fun k => o.dst != some k) && lexDE md ops c m 0 (Array.replicate ops.size false)

theorem KeptAtE.put {ks : List Nat} {A a : Act} {d : Option Tmp} {v : Value} (hd : ∀ k ∈ ks, d ≠ some k) (h : KeptAtE ks A (a.put d v)) : KeptAtE ks A a := by
  cases d with
  | none => exact h
  | some d =>
    refine ⟨h.1, fun k hk => ?_⟩
    have h1 := h.2 k hk
    have hne : d ≠ k := fun e => hd k hk (by rw [e])
    simp only [Act.put] at h1
    rw [Array.getElem?_setIfInBounds_ne hne] at h1
    exact h1

theorem wp_region_diesE {id : Nat} {Q : Exit → Act → World → Prop} {a : Act} {w : World} {l : List Oper} (ks : List Nat) (c : Nat) (m : List Bool) (ch : List PanicEntry) (A : Act) (hm : P.follows .mixedOrders = true) (hB : dieBE .any l.toArray ks c m = true)
    (oc : Oper) (hoc : l[c]? = some oc) (hC : C { w with drawn := w.drawn + 1 }) (hQ : ∀ a' w', E w' → KeptAtE ks A a' → Q (.panic ch) a' w')
    (h : wpQuiet P l.toArray C (fun a' => DieInE P l.toArray C E ch oc a' ∧ KeptAtE ks A a') (pickME m l) a) : (Code.region id l.toArray true).wp P Q a w := by
  simp only [dieBE, Bool.and_eq_true, decide_eq_true_eq] at hB
  obtain ⟨⟨⟨⟨hsel, hml⟩, hcl⟩, hks⟩, hlex⟩ := hB
  refine wp_region_any hm (wpAny_of_dieE (R := KeptAtE ks A) (c := c) (ch := ch) (C := C) (E := E) (fun a' w' hw' hr => hQ a' w' hw' hr) _ _ _ _ hC ?_)
  have hput : ∀ (i : Nat) (oi : Oper), l.toArray[i]? = some oi → ∀ a v, KeptAtE ks A (Act.put a oi.dst v) → KeptAtE ks A a := fun i oi hi a v h => by
    refine KeptAtE.put (fun k hk e => ?_) h
    have h1 := (Array.all_eq_true'.1 hks) oi (Array.mem_of_getElem? hi)
    have h2 := (List.all_eq_true.1 h1) k hk
    simp [e] at h2
  have hml' : m.length ≤ l.length := by simp at hml; omega
  have hp : pickME m (l.take m.length) = pickME m l := pickM_takeE m l
  have h1 := wpAnyD_lexE (C := C) (E := E) (md := .any) (ch := ch) (R := KeptAtE ks A) (ops := l.toArray) (c := c) (oc := oc) (by simpa using hoc) hsel hput m (l.take m.length) 0 (Array.replicate l.toArray.size false) a
    (by simp; omega) (fun j hj => by simp at hj; simp [hj]) hlex (by rw [hp]; exact h)
  have h2 := wpAnyD_moreE _ (l.toArray.size - (m.length + 1)) _ _ h1
  rwa [show m.length + 1 + (l.toArray.size - (m.length + 1)) = l.toArray.size by omega] at h2
theorem wp_region_diesF {id : Nat} {Q : Exit → Act → World → Prop} {a : Act} {w : World} {l : List Oper} (ks : List Nat) (c : Nat) (m : List Bool) (ch : List PanicEntry) (hm : P.follows .mixedOrders = true) (hB : dieBE .any l.toArray ks c m = true)
    (oc : Oper) (hoc : l[c]? = some oc) (hC : C { w with drawn := w.drawn + 1 }) (hQ : ∀ a' w', E w' → KeptAtE ks a a' → Q (.panic ch) a' w')
    (h : wpQuiet P l.toArray C (fun a' => DieInE P l.toArray C E ch oc a' ∧ KeptAtE ks a a') (pickME m l) a) : (Code.region id l.toArray true).wp P Q a w :=
  wp_region_diesE ks c m ch a hm hB oc hoc hC hQ h
end
end Go.Proofs.YtefkklgelmbaiaaDoor.Reg
set_option linter.unusedSimpArgs false
set_option linter.unusedVariables false
namespace Go.Proofs.YtefkklgelmbaiaaDoor
open Go.RowKit Go.Proofs

set_option maxHeartbeats 25600000 in
set_option maxRecDepth 100000 in
theorem pread_any (gb ob c : Nat) (L : List Int) (w : World) (hw : Ok w) (hA : BytesAt w (some ⟨gb, ob, none⟩) L) (hgl : gb < w.heap.size) (hb : bytesOk L) (hc : L.length ≤ c) (hL : L.length ≤ 1073741824) (hg : 7 ≤ w.heap.size) :
    Calls Tryd.prog 12 #[.slice (some ⟨gb, ob, none⟩) L.length c] w fun e w' => OutS w (readP L).1 (readP L).2 e w' := by
  obtain ⟨PP, hPP⟩ : ∃ P, readP L = P := ⟨_, rfl⟩
  rw [hPP]
  have HX : Hid (stP L = none → PP = (St.zero, 140)) := Lib.hid (fun h => by rw [← hPP]; unfold readP; rw [h])
  have HY : Hid (∀ s j, stP L = some (s, j) → PP = if j = L.length ∧ mayB s = true then (s, 0) else (St.zero, 140)) := Lib.hid (fun s j h => by rw [← hPP]; unfold readP; rw [h])
  have HW : Hid (∀ s j, stP L = some (s, j) → s.wf ∧ (∀ o ∈ s.os, o.nd.name.size ≤ 1073741824)) := Lib.hid (fun s j h => by
    rcases st_key L with ⟨h1, _⟩ | ⟨s', j', h1, h2⟩
    · rw [h] at h1; cases h1
    · rw [h] at h1
      injection h1 with h1
      injection h1 with h1 _
      subst h1
      have := st_rg hb hL
      rw [h2] at this
      exact ⟨this.1, this.2.1⟩)
  clear hPP
  have hmf : ∀ (fn : Fn) (first cap : Array Value) (w : World), (Instr.makeFunc fn first cap).run Tryd.prog w = .ok (.func fn first cap) w := fun _ _ _ _ => rfl
  obtain ⟨w2, g2, hg2, hw2, f2, hz2, H2⟩ := boxedN hw #[.int .u64 0, .int .u64 0, .int .i64 0, .int .i64 0, .slice none 0 0, .slice none 0 0] 26
  obtain ⟨w3, g3, hg3, hw3, f3, hz3, HE⟩ := boxedN f2.ok #[.int .i64 0] 31
  obtain ⟨w4, g4, hg4, hw4, f4, hz4, H4⟩ := boxedN f3.ok #[.slice (some ⟨gb, ob, none⟩) L.length c, .int .i64 0] 76
  have s2 := f2.size
  have s3 := f3.size
  have hB2 : w.heap.size ≤ g2 := by omega
  have hB4 : w.heap.size ≤ g4 := by omega
  have n24 : some g2 ≠ some g4 := by simp; omega
  have nE4 : some g3 ≠ some g4 := by simp; omega
  have n2E : some g2 ≠ some g3 := by simp; omega
  have h23 : g2 < g3 := by omega
  have f := f2.trans (f3.trans f4)
  replace H2 := f4.heap (f3.heap H2)
  replace HE := f4.heap HE
  have HR : PB w4 g4 (some ⟨gb, ob, none⟩) c L 0 := H4
  have hgb : gb ≠ g4 := by omega
  have hIn := Lib.hid (fun (W : World) (f : Fr w W) (i : Nat) HR hi s m h1 h2 X hX => int_or (i := i) f.ok HR hi (hA.fr f) hgb hb hc hL (show 7 ≤ g4 by omega) s m h1 h2 X hX)
  have hNu := Lib.hid (fun (W : World) (f : Fr w W) (i : Nat) HR hi s m h1 X hX => num_or (i := i) f.ok HR hi (hA.fr f) hgb hb hc hL (show 7 ≤ g4 by omega) s m h1 X hX)
  have hOb := Lib.hid (fun (Q : Ending → World → Prop) (W : World) (f : Fr w W) (i : Nat) (HR : PB W g4 (some ⟨gb, ob, none⟩) c L i) hi HNo HYes => pobj_go Q g4 gb ob c L i W f.ok HR hi (hA.fr f) hgb (Nat.lt_of_lt_of_le hgl f.size) hb hc hL (by omega) HNo HYes)
  have hDie : Hid (∀ T W v0 v1 v2 v3 v4 v5 c1, PP = (St.zero, 140) → Fr w W → T[2]? = some (.pointer (some ⟨g2, 0, none⟩)) → T[3]? = some (.pointer (some ⟨g3, 0, none⟩)) → W.heap[g2]? = some (.cells #[v0, v1, v2, v3, v4, v5] 26 (0, 0)) → W.heap[g3]? = some (.cells #[c1] 31 (0, 0)) →
      Leaves Tryd.prog Tryd.f12 T (fun e w' => OutS w PP.1 PP.2 e w') [{ target := .fn (.func 25) #[.pointer (some ⟨g2, 0, none⟩), .pointer (some ⟨g3, 0, none⟩)], args := #[] }] (.panicking [{ v := .iface 72 (.agg #[]), recovered := false }]) W) :=
    Lib.hid (fun T W v0 v1 v2 v3 v4 v5 c1 hP f h2 h3 h4 h5 => by subst hP; exact door14_bad T g2 g3 h23 w W hw f hB2 h2 h3 v0 v1 v2 v3 v4 v5 c1 h4 h5)
  have tok0 : True := trivial
  clear hA hb hc H4 f2 f3 f4 s2 s3 hz2 hz3 hz4
  go_enter_defers Tryd.func12, Tryd.ntmps12
  go_upto_block 0 with (first
    | (go_at_call 26; have _t := tok0; refine (hNu.out _ f 0 HR (Nat.zero_le _) 8 281474976710655 (by omega) (PP = (St.zero, 140)) (fun h => HX.out (by simp only [stP, h, Option.bind_none]))).mono ?_; rintro e wa ⟨q, ⟨hx, rfl⟩ | ⟨fl, j1, e1, rfl, HRa, hj1, _, _⟩⟩ <;> replace f := row_own f hw q hB4 <;> replace H2 := grown_blk' q H2 n24 <;> replace HE := grown_blk' q HE nE4 <;> try (clear q HR tok0; have HR := HRa; clear HRa; obtain ⟨c0, c1, c2, c3, c4, c5⟩ := blk6 H2; have z0 := unfroz H2 0; have z1 := unfroz H2 1; have z2 := unfroz H2 2; have z3 := unfroz H2 3; have z4 := unfroz H2 4; have z5 := unfroz H2 5; obtain ⟨ws0, hws0, H5s, fs, q⟩ := set_own f hw hB2 H2 0 (.int .u64 fl); simp only [List.setIfInBounds_toArray, List.set_cons_zero, List.set_cons_succ] at H5s; replace HE := grown_blk' q HE n2E.symm; replace HR := PB.grown HR q n24.symm; replace H2 := H5s; replace f := fs; clear H5s fs q; (have E1 := Lib.hid e1); clear e1; have tok1 : True := trivial))
    | (go_at_call 26; have _t := tok1; refine (hNu.out _ f j1 HR hj1 8 281474976710656 (by omega) (PP = (St.zero, 140)) (fun h => HX.out (by simp only [stP, E1.out, Option.bind_some, h, Option.bind_none]))).mono ?_; rintro e wa ⟨q, ⟨hx, rfl⟩ | ⟨nx, j2, e1, rfl, HRa, hj2, _, _⟩⟩ <;> replace f := row_own f hw q hB4 <;> replace H2 := grown_blk' q H2 n24 <;> replace HE := grown_blk' q HE nE4 <;> try (clear q HR tok1 c0 c1 c2 c3 c4 c5 z0 z1 z2 z3 z4 z5 hws0; have HR := HRa; clear HRa; obtain ⟨c0, c1, c2, c3, c4, c5⟩ := blk6 H2; have z0 := unfroz H2 0; have z1 := unfroz H2 1; have z2 := unfroz H2 2; have z3 := unfroz H2 3; have z4 := unfroz H2 4; have z5 := unfroz H2 5; obtain ⟨ws1, hws1, H5s, fs, q⟩ := set_own f hw hB2 H2 1 (.int .u64 nx); simp only [List.setIfInBounds_toArray, List.set_cons_zero, List.set_cons_succ] at H5s; replace HE := grown_blk' q HE n2E.symm; replace HR := PB.grown HR q n24.symm; replace H2 := H5s; replace f := fs; clear H5s fs q; (have E2 := Lib.hid e1); clear e1; have tok2 : True := trivial))
    | (go_at_call 27; have _t := tok2; refine (hIn.out _ f j2 HR hj2 4 4096 (by omega) (by omega) (PP = (St.zero, 140)) (fun h => HX.out (by simp only [stP, E1.out, E2.out, Option.bind_some, h, Option.bind_none]))).mono ?_; rintro e wa ⟨q, ⟨hx, rfl⟩ | ⟨cu, j3, e1, rfl, HRa, hj3, hcu0, hcu1⟩⟩ <;> replace f := row_own f hw q hB4 <;> replace H2 := grown_blk' q H2 n24 <;> replace HE := grown_blk' q HE nE4 <;> try (clear q HR tok2 c0 c1 c2 c3 c4 c5 z0 z1 z2 z3 z4 z5 hws1; have HR := HRa; clear HRa; obtain ⟨c0, c1, c2, c3, c4, c5⟩ := blk6 H2; have z0 := unfroz H2 0; have z1 := unfroz H2 1; have z2 := unfroz H2 2; have z3 := unfroz H2 3; have z4 := unfroz H2 4; have z5 := unfroz H2 5; obtain ⟨ws2, hws2, H5s, fs, q⟩ := set_own f hw hB2 H2 2 (.int .i64 (cu - 1)); simp only [List.setIfInBounds_toArray, List.set_cons_zero, List.set_cons_succ] at H5s; replace HE := grown_blk' q HE n2E.symm; replace HR := PB.grown HR q n24.symm; replace H2 := H5s; replace f := fs; clear H5s fs q; (have E3 := Lib.hid e1); clear e1; have tok3 : True := trivial))
    | (go_at_call 27; have _t := tok3; refine (hIn.out _ f j3 HR hj3 4 4096 (by omega) (by omega) (PP = (St.zero, 140)) (fun h => HX.out (by simp only [stP, E1.out, E2.out, E3.out, Option.bind_some, h, Option.bind_none]))).mono ?_; rintro e wa ⟨q, ⟨hx, rfl⟩ | ⟨la, j4, e1, rfl, HRa, hj4, hla0, hla1⟩⟩ <;> replace f := row_own f hw q hB4 <;> replace H2 := grown_blk' q H2 n24 <;> replace HE := grown_blk' q HE nE4 <;> try (clear q HR tok3 c0 c1 c2 c3 c4 c5 z0 z1 z2 z3 z4 z5 hws2; have HR := HRa; clear HRa; obtain ⟨c0, c1, c2, c3, c4, c5⟩ := blk6 H2; have z0 := unfroz H2 0; have z1 := unfroz H2 1; have z2 := unfroz H2 2; have z3 := unfroz H2 3; have z4 := unfroz H2 4; have z5 := unfroz H2 5; obtain ⟨ws3, hws3, H5s, fs, q⟩ := set_own f hw hB2 H2 3 (.int .i64 (la - 1)); simp only [List.setIfInBounds_toArray, List.set_cons_zero, List.set_cons_succ] at H5s; replace HE := grown_blk' q HE n2E.symm; replace HR := PB.grown HR q n24.symm; replace H2 := H5s; replace f := fs; clear H5s fs q; (have E4 := Lib.hid e1); clear e1; have tok4 : True := trivial))
    | (go_at_call 27; have _t := tok4; refine (hIn.out _ f j4 HR hj4 4 4096 (by omega) (by omega) (PP = (St.zero, 140)) (fun h => HX.out (by simp only [stP, E1.out, E2.out, E3.out, E4.out, Option.bind_some, h, Option.bind_none]))).mono ?_; rintro e wa ⟨q, ⟨hx, rfl⟩ | ⟨n, j5, e1, rfl, HRa, hj5, hn0, hn1⟩⟩ <;> replace f := row_own f hw q hB4 <;> replace H2 := grown_blk' q H2 n24 <;> replace HE := grown_blk' q HE nE4 <;> try (clear q HR tok4 c0 c1 c2 c3 c4 c5 z0 z1 z2 z3 z4 z5 hws3; have HR := HRa; clear HRa; obtain ⟨N, hN⟩ : ∃ N : Nat, n = (N : Int) := ⟨_, (Int.toNat_of_nonneg hn0).symm⟩; subst hN; (have E5 := Lib.hid e1); clear e1)))
  all_goals try (exact hDie.out _ _ _ _ _ _ _ _ _ hx f rfl rfl H2 HE)
  have HS : Hid (stP L = ((listP (blockP L) N j5).bind fun bs => (numP L 4 1048575 bs.2).bind fun m => (listP (objP L) m.1.toNat m.2).map fun os => (⟨fl, nx, cu - 1, la - 1, bs.1, os.1⟩, os.2))) := Lib.hid (by simp only [stP, E1.out, E2.out, E3.out, E4.out, E5.out, Option.bind_some, Int.toNat_natCast])
  clear hw2 hw3 hw4 hmf
  obtain ⟨iB, hiB, hzB, hsB, hyB⟩ := info_parts infoBlock
  obtain ⟨iO, hiO, hzO, hsO, hyO⟩ := info_parts infoObject
  go_cut [] from 6 to 72 (fun wc => ∃ bs j6 a d, Hid (listP (blockP L) N j5 = some (bs, j6)) ∧ j6 ≤ L.length ∧ wc.heap[g2]? = some (.cells #[.int .u64 fl, .int .u64 nx, .int .i64 (cu - 1), .int .i64 (la - 1), .slice a bs.length d, .slice none 0 0] 26 (0, 0)) ∧ wc.heap[g3]? = some (.cells #[.int .i64 0] 31 (0, 0)) ∧ Fr w wc ∧ PB wc g4 (some ⟨gb, ob, none⟩) c L j6 ∧ wc.ownsRow w.heap.size 45 4 (.slice a bs.length d) bs.length (bflat bs))
  case first =>
    go_wp2_with fail
    go_loopg [26] N (fun k v26 wc => ∃ (ii : Nat) (done : List Blk) (a : Option Addr) (d : Nat) (jj : Nat), ii + k = N ∧ done.length = ii ∧ jj ≤ L.length ∧ v26 = .int .i64 (ii : Int) ∧ Hid (listP (blockP L) N j5 = (listP (blockP L) k jj).map fun r => (done ++ r.1, r.2)) ∧
      Hid (wc.heap[g2]? = some (.cells #[.int .u64 fl, .int .u64 nx, .int .i64 (cu - 1), .int .i64 (la - 1), .slice a ii d, .slice none 0 0] 26 (0, 0))) ∧ Hid (wc.heap[g3]? = some (.cells #[.int .i64 0] 31 (0, 0))) ∧
      Hid (Fr w wc) ∧ Hid (PB wc g4 (some ⟨gb, ob, none⟩) c L jj) ∧ Hid (wc.ownsRow w.heap.size 45 4 (.slice a ii d) ii (bflat done)))
    case atStart => exact ⟨0, [], none, 0, j5, by omega, rfl, hj5, rfl, Lib.hid (by cases listP (blockP L) N j5 <;> simp), Lib.hid H2, Lib.hid HE, Lib.hid f, Lib.hid HR, Lib.hid ⟨by simp [bflat], .inl ⟨rfl, rfl⟩⟩⟩
    case round =>
      clear H2 HE f HR
      obtain ⟨ii, done, a, d, jj, hik, hdl, hjj, rfl, HL, H2, HE, f, HR, O⟩ := hrel
      replace H2 := H2.out
      replace HE := HE.out
      replace f := f.out
      replace HR := HR.out
      replace O := O.out
      have HD := Lib.hid hdl
      clear hdl
      cases gk with
      | zero =>
        have d1 : decide ((ii : Int) < (N : Int)) = false := decide_eq_false (by omega)
        have HF := Lib.hid (And.intro H2 (And.intro HE (And.intro f (And.intro HR O))))
        clear H2 HE f HR O
        go_wp2_with fail
        go_meet
        have hd' := HD.out
        subst hd'
        exact ⟨done, jj, a, d, Lib.hid (by rw [HL.out]; simp [listP]), hjj, HF.out⟩
      | succ k =>
        have d1 : decide ((ii : Int) < (N : Int)) = true := decide_eq_true (by omega)
        have hob : Hid (∀ q, (Value.slice a ii d).ownBlock = some q → q < wr.heap.size) := Lib.hid (fun q hq => (World.ownsRow.lt O q hq).2)
        have HXb : Hid (blockP L jj = none → PP = (St.zero, 140)) := Lib.hid (fun hh => HX.out (by rw [HS.out, HL.out]; simp only [listP, hh, Option.bind_none, Option.map_none]))
        have hsw := f.size
        have tok3 : True := trivial
        go_wp2_with (first
          | (go_at_call 27; have _t := tok3; refine (hIn.out _ f jj HR hjj 1 6 (by omega) (by omega) (PP = (St.zero, 140)) (fun hh => HXb.out (by simp only [blockP, hh, Option.bind_none]))).mono ?_; rintro e wa ⟨q, ⟨hx, rfl⟩ | ⟨st, p1, b1, rfl, HRa, hp1, _, _⟩⟩ <;> have fa := row_own f hw q hB4 <;> replace H2 := grown_blk' q H2 n24 <;> replace HE := grown_blk' q HE nE4 <;> replace f := fa <;> try (have hsz := q.size; replace O := own_keep O q (fun k hk e => by subst e; exact own_ne3 O HR (by decide) hk.symm); clear q tok3 HR fa; obtain ⟨w8, g8, hg8, hw8, f8, hz8, H8⟩ := boxedN f.ok #[.int .i64 st, .int .u64 0, .bool false, .int .i64 0] 45; have hB8 : w.heap.size ≤ g8 := (by omega); have hB8' : wr.heap.size ≤ g8 := (by omega); have n84 : some g8 ≠ some g4 := (by have := (Array.getElem?_eq_some_iff.1 HRa).1; simp; omega); have n82 : some g8 ≠ some g2 := (by have := (Array.getElem?_eq_some_iff.1 H2).1; simp; omega); have n8E : some g8 ≠ some g3 := (by have := (Array.getElem?_eq_some_iff.1 HE).1; simp; omega); replace H2 := f8.heap H2; replace HE := f8.heap HE; replace O := own_fr O f8; have HR := PB.fr HRa f8; replace f := f.trans f8; clear f8 hz8 HRa hsz; obtain ⟨k0, k1, k2, k3⟩ := blk4 H8; have z1 := unfroz H8 1; have z2 := unfroz H8 2; have z3 := unfroz H8 3; have i1 := idemC H8 k1; have i2 := idemC H8 k2; have i3 := idemC H8 k3; (have B1 := Lib.hid b1); clear b1; have tok4 : True := trivial))
          | (go_at_call 26; have _t := tok4; refine (hNu.out _ f p1 HR hp1 6 281474976710655 (by omega) (PP = (St.zero, 140)) (fun hh => HXb.out (by simp only [blockP, B1.out, Option.bind_some, hh, Option.bind_none]))).mono ?_; rintro e wb ⟨q, ⟨hx, rfl⟩ | ⟨hd, p2, b2, rfl, HRa, hp2, _, _⟩⟩ <;> replace f := row_own f hw q hB4 <;> replace H2 := grown_blk' q H2 n24 <;> replace HE := grown_blk' q HE nE4 <;> try (replace O := own_keep O q (fun k hk e => by subst e; exact own_ne3 O HR (by decide) hk.symm); replace H8 := grown_blk' q H8 n84; clear q HR k0 k1 k2 k3 z1 z2 z3 i1 i2 i3 tok4; obtain ⟨k0, k1, k2, k3⟩ := blk4 H8; have z1 := unfroz H8 1; obtain ⟨w9, hw9, q9, H89⟩ := setat4 H8 1 (.int .u64 hd); simp only [List.setIfInBounds_toArray, List.set_cons_zero, List.set_cons_succ] at H89; replace f := row_own f hw q9 hB8; replace O := own_keep O q9 (fun k hk => by have := hob.out k hk; omega); replace H2 := grown_blk' q9 H2 n82.symm; replace HE := grown_blk' q9 HE n8E.symm; have HR := PB.grown HRa q9 n84.symm; replace H8 := H89; (have B2 := Lib.hid b2); clear q9 H89 HRa b2; have tok5 : True := trivial))
          | (go_at_call 26; have _t := tok5; refine (hNu.out _ f p2 HR hp2 1 1 (by omega) (PP = (St.zero, 140)) (fun hh => HXb.out (by simp only [blockP, B1.out, B2.out, Option.bind_some, hh, Option.bind_none]))).mono ?_; rintro e wb ⟨q, ⟨hx, rfl⟩ | ⟨r, p3, b3, rfl, HRa, hp3, _, _⟩⟩ <;> replace f := row_own f hw q hB4 <;> replace H2 := grown_blk' q H2 n24 <;> replace HE := grown_blk' q HE nE4 <;> try (replace O := own_keep O q (fun k hk e => by subst e; exact own_ne3 O HR (by decide) hk.symm); replace H8 := grown_blk' q H8 n84; clear q HR k0 k1 k2 k3 z1 tok5; obtain ⟨rb, hrb⟩ : ∃ b, ((r : Int) == 1) = b := ⟨_, rfl⟩; obtain ⟨k0, k1, k2, k3⟩ := blk4 H8; have z2 := unfroz H8 2; obtain ⟨w10, hw10, q9, H89⟩ := setat4 H8 2 (.bool rb); simp only [List.setIfInBounds_toArray, List.set_cons_zero, List.set_cons_succ] at H89; replace f := row_own f hw q9 hB8; replace O := own_keep O q9 (fun k hk => by have := hob.out k hk; omega); replace H2 := grown_blk' q9 H2 n82.symm; replace HE := grown_blk' q9 HE n8E.symm; have HR := PB.grown HRa q9 n84.symm; replace H8 := H89; (have B3 := Lib.hid b3); clear q9 H89 HRa b3; have tok6 : True := trivial))
          | (go_at_call 27; have _t := tok6; refine (hIn.out _ f p3 HR hp3 2 256 (by omega) (by omega) (PP = (St.zero, 140)) (fun hh => HXb.out (by simp only [blockP, B1.out, B2.out, B3.out, Option.bind_some, hh, Option.map_none]))).mono ?_; rintro e wd ⟨q, ⟨hx, rfl⟩ | ⟨lv, p4, b4, rfl, HRa, hp4, _, _⟩⟩ <;> replace f := row_own f hw q hB4 <;> replace H2 := grown_blk' q H2 n24 <;> replace HE := grown_blk' q HE nE4 <;> try (replace O := own_keep O q (fun k hk e => by subst e; exact own_ne3 O HR (by decide) hk.symm); replace H8 := grown_blk' q H8 n84; clear q HR k0 k1 k2 k3 z2; have j3' := (blk4 H8).2.2.2; have z3 := unfroz H8 3; obtain ⟨w11, hw11, q9, H89⟩ := setat4 H8 3 (.int .i64 lv); simp only [List.setIfInBounds_toArray, List.set_cons_zero, List.set_cons_succ] at H89; replace f := row_own f hw q9 hB8; replace O := own_keep O q9 (fun k hk => by have := hob.out k hk; omega); replace H2 := grown_blk' q9 H2 n82.symm; replace HE := grown_blk' q9 HE n8E.symm; have HR := PB.grown HRa q9 n84.symm; replace H8 := H89; clear q9 H89 HRa; obtain ⟨k0, k1, k2, k3⟩ := blk4 H8; have s4 := (blk6 H2).2.2.2.2.1; obtain ⟨w12, g12, hg12, hw12, f12, hz12, H12⟩ := boxedN f.ok #[.int .i64 st, .int .u64 hd, .bool rb, .int .i64 lv] 45; replace H2 := f12.heap H2; replace HE := f12.heap HE; replace O := own_fr O f12; replace HR := PB.fr HR f12; replace f := f.trans f12; clear f12; obtain ⟨v13, w13, hap, O13, q13, _⟩ := append_src Tryd.underlying23 hiB hzB hsB hyB rfl (by decide) 23 O (some ⟨g12, 0, none⟩) 1 1 _ (Src.lit H12 1 1) (by simp) (by simp [Value.oneCell']) (by unfold maxLen; omega) (by omega) f.size; have m2 := own_ne3 O H2 (by decide); have mE := own_ne3 O HE (by decide); have mR := own_ne3 O HR (by decide); replace H2 := grown_blk' q13 H2 m2; replace HE := grown_blk' q13 HE mE; replace HR := PB.grown HR q13 mR; replace f := f.row hw q13 (fun k hk => (World.ownsRow.lt O k hk).1); clear O H12 m2 mE mR q13; obtain ⟨a2, d2, rfl⟩ := own_form O13; have zz4 := unfroz H2 4; have y4 := (blk6 H2).2.2.2.2.1; obtain ⟨w14, hw14, H214, f14, q14⟩ := set_own f hw hB2 H2 4 (.slice a2 (ii + 1) d2); simp only [List.setIfInBounds_toArray, List.set_cons_zero, List.set_cons_succ] at H214; replace O13 := own_grown O13 q14 H2 (by decide); replace HE := grown_blk' q14 HE n2E.symm; replace HR := PB.grown HR q14 n24.symm; (have HL2 : Hid (listP (blockP L) N j5 = (listP (blockP L) k p4).map fun r => ((done ++ [(⟨st, hd, rb, lv⟩ : Blk)]) ++ r.1, r.2)) := Lib.hid (by have hd1 : decide (r = 1) = rb := hrb; rw [HL.out]; simp only [listP, blockP, B1.out, B2.out, B3.out, b4, hd1, Option.bind_some, Option.map_some]; cases listP (blockP L) k p4 <;> simp)); (have HF := Lib.hid (And.intro H214 (And.intro HE (And.intro f14 (And.intro HR O13))))); clear H2 HE H214 f f14 HR O13 q14 b4))
          | (at_builtin; refine wpList_append_run rfl _ _ 23 23 rfl (by simp [Act.eval]) (by simp [Act.eval]) hap ?_))
        all_goals try (exact hDie.out _ _ _ _ _ _ _ _ _ hx f rfl rfl H2 HE)
        go_roundg k
        case measure => omega
        case rel => exact ⟨ii + 1, done ++ [⟨st, hd, rb, lv⟩], a2, d2, p4, by omega, by rw [List.length_append, HD.out]; rfl, hp4, by simp, HL2, Lib.hid HF.out.1, Lib.hid HF.out.2.1, Lib.hid HF.out.2.2.1, Lib.hid HF.out.2.2.2.1, Lib.hid (by rw [bflat_snoc]; exact HF.out.2.2.2.2)⟩
  case rest =>
    clear H2 HE f HR
    obtain ⟨bs, j6, a4, d4, E6, hj6, H2, HE, f, HR, O4⟩ := hcut
    go_upto_block 2 with (go_at_call 27; refine (hIn.out _ f j6 HR hj6 4 1048575 (by omega) (by omega) (PP = (St.zero, 140)) (fun hh => HX.out (by rw [HS.out, E6.out]; simp only [Option.bind_some, hh, Option.bind_none]))).mono ?_; rintro e wa ⟨q, ⟨hx, rfl⟩ | ⟨m, j7, e1, rfl, HRa, hj7, hm0, hm1⟩⟩ <;> replace f := row_own f hw q hB4 <;> replace H2 := grown_blk' q H2 n24 <;> replace HE := grown_blk' q HE nE4 <;> try (replace O4 := own_keep O4 q (fun k hk e => by subst e; exact own_ne3 O4 HR (by decide) hk.symm); clear q HR; have HR := HRa; clear HRa; obtain ⟨M, hM⟩ : ∃ M : Nat, m = (M : Int) := ⟨_, (Int.toNat_of_nonneg hm0).symm⟩; subst hM; (have E7 := Lib.hid e1); clear e1))
    all_goals try (exact hDie.out _ _ _ _ _ _ _ _ _ hx f rfl rfl H2 HE)
    have HS2 : Hid (stP L = (listP (objP L) M j7).map fun os => (⟨fl, nx, cu - 1, la - 1, bs, os.1⟩, os.2)) := Lib.hid (by rw [HS.out, E6.out]; simp only [Option.bind_some, E7.out, Int.toNat_natCast])
    go_cut [] from 6 to 72 (fun wc => ∃ os j8 a d bl, Hid (listP (objP L) M j7 = some (os, j8)) ∧ j8 ≤ L.length ∧ wc.heap[g2]? = some (.cells #[.int .u64 fl, .int .u64 nx, .int .i64 (cu - 1), .int .i64 (la - 1), .slice a4 bs.length d4, .slice a os.length d] 26 (0, 0)) ∧ wc.heap[g3]? = some (.cells #[.int .i64 0] 31 (0, 0)) ∧ Fr w wc ∧ PB wc g4 (some ⟨gb, ob, none⟩) c L j8 ∧ wc.ownsRow w.heap.size 45 4 (.slice a4 bs.length d4) bs.length (bflat bs) ∧ wc.ownsRow w.heap.size 53 13 (.slice a os.length d) os.length (orow os bl os.length).flatten ∧ CO wc w.heap.size os bl)
    case first =>
      go_wp2_with fail
      go_loopg [50] M (fun k v50 wc => ∃ (ii : Nat) (done : List Obj') (a : Option Addr) (d : Nat) (bl : Al) (jj : Nat), ii + k = M ∧ done.length = ii ∧ jj ≤ L.length ∧ v50 = .int .i64 (ii : Int) ∧ Hid (listP (objP L) M j7 = (listP (objP L) k jj).map fun r => (done ++ r.1, r.2)) ∧
        Hid (wc.heap[g2]? = some (.cells #[.int .u64 fl, .int .u64 nx, .int .i64 (cu - 1), .int .i64 (la - 1), .slice a4 bs.length d4, .slice a ii d] 26 (0, 0))) ∧ Hid (wc.heap[g3]? = some (.cells #[.int .i64 0] 31 (0, 0))) ∧
        Hid (Fr w wc) ∧ Hid (PB wc g4 (some ⟨gb, ob, none⟩) c L jj) ∧ Hid (wc.ownsRow w.heap.size 45 4 (.slice a4 bs.length d4) bs.length (bflat bs)) ∧ Hid (wc.ownsRow w.heap.size 53 13 (.slice a ii d) ii (orow done bl ii).flatten) ∧ Hid (CO wc w.heap.size done bl))
      case atStart => exact ⟨0, [], none, 0, fun _ => (none, 0), j7, by omega, rfl, hj7, rfl, Lib.hid (by cases listP (objP L) M j7 <;> simp), Lib.hid H2, Lib.hid HE, Lib.hid f, Lib.hid HR, Lib.hid O4, Lib.hid ⟨by simp [orow], .inl ⟨rfl, rfl⟩⟩, Lib.hid (fun j hj => by simp at hj)⟩
      case round =>
        clear H2 HE f HR O4
        obtain ⟨ii, done, a, d, bl, jj, hik, hdl, hjj, rfl, HL, H2, HE, f, HR, O4, O, OC⟩ := hrel
        replace H2 := H2.out
        replace HE := HE.out
        replace f := f.out
        replace HR := HR.out
        replace O4 := O4.out
        replace O := O.out
        replace OC := OC.out
        have HD := Lib.hid hdl
        clear hdl
        cases gk with
        | zero =>
          have d1 : decide ((ii : Int) < (M : Int)) = false := decide_eq_false (by omega)
          have HF := Lib.hid (And.intro H2 (And.intro HE (And.intro f (And.intro HR (And.intro O4 (And.intro O OC))))))
          clear H2 HE f HR O4 O OC
          go_wp2_with fail
          go_meet
          have hd' := HD.out
          subst hd'
          exact ⟨done, jj, a, d, bl, Lib.hid (by rw [HL.out]; simp [listP]), hjj, HF.out⟩
        | succ k =>
          have d1 : decide ((ii : Int) < (M : Int)) = true := decide_eq_true (by omega)
          have qd := (Fr.refl f.ok).drew
          rcases hobj : objP L jj with _ | ⟨x, p1⟩
          · have hx : PP = (St.zero, 140) := HX.out (by rw [HS2.out, HL.out]; simp only [listP, hobj, Option.bind_none, Option.map_none])
            have hN : Hid (∀ W, Fr wr W → Calls Tryd.prog 28 #[.pointer (some ⟨g4, 0, none⟩)] W fun e w' => e = .panicked [{ v := .iface 72 (.agg #[]), recovered := false }] ∧ Fr w w' ∧ w'.heap[g2]? = some (.cells #[.int .u64 fl, .int .u64 nx, .int .i64 (cu - 1), .int .i64 (la - 1), .slice a4 bs.length d4, .slice a ii d] 26 (0, 0)) ∧ w'.heap[g3]? = some (.cells #[.int .i64 0] 31 (0, 0))) := Lib.hid (fun W q => hOb.out _ W (f.trans q) jj (PB.fr HR q) hjj
              (Lib.hid fun _ w' q2 => ⟨rfl, row_own (f.trans q) hw q2 hB4, grown_blk' q2 (q.heap H2) n24, grown_blk' q2 (q.heap HE) nE4⟩) (Lib.hid fun x j w' a d h => by rw [hobj] at h; cases h))
            have hx' := Lib.hid hx
            clear hobj hx
            go_upto_region 17 with (fail)
            have c5 := (blk6 H2).2.2.2.2.2
            have r_c5 := cell_regrown c5
            refine Reg.wp_region_diesF (C := fun w' => ∃ p : Regrown, w' = Sort.grow (redrawn wr p.d) p.os) (E := fun w' => Fr w w' ∧ w'.heap[g2]? = some (.cells #[.int .u64 fl, .int .u64 nx, .int .i64 (cu - 1), .int .i64 (la - 1), .slice a4 bs.length d4, .slice a ii d] 26 (0, 0)) ∧ w'.heap[g3]? = some (.cells #[.int .i64 0] 31 (0, 0))) [2, 3] 3 [true, true, true] [{ v := .iface 72 (.agg #[]), recovered := false }] (by kernel_rfl) (by kernel_rfl) _ rfl ⟨⟨wr.drawn + 1, #[]⟩, by rw [Sort.grow_empty]; rfl⟩ ?_ ?_
            · rintro a' w' ⟨fx, h2, h3⟩ hk
              obtain ⟨hd, hk⟩ := hk
              have hT : ∀ ds, ds = [{ target := .fn (.func 25) #[.pointer (some ⟨g2, 0, none⟩), .pointer (some ⟨g3, 0, none⟩)], args := #[] }] → Leaves Tryd.prog Tryd.f12 a'.tmps (fun e w' => OutS w PP.1 PP.2 e w') ds (.panicking [{ v := .iface 72 (.agg #[]), recovered := false }]) w' := fun ds hds => by
                subst hds
                exact hDie.out a'.tmps w' _ _ _ _ _ _ _ hx'.out fx (hk 2 (by simp)) (hk 3 (by simp)) h2 h3
              exact hT _ hd
            · simp only [Reg.pickME]
              repeat (go_big_quiet_step (fail))
              refine wpQuiet_nil ?_
              refine ⟨⟨rfl, ?_⟩, rfl, ?_⟩
              · rintro w' ⟨p, rfl⟩
                simp [go_sem, Reg.dieUponE]
                exact hN.out _ (Fr.of f.ok (below_regrown wr p.d p.os))
              · intro k hk
                simp only [List.mem_cons, List.not_mem_nil, or_false] at hk
                rcases hk with rfl | rfl <;> rfl
          · have HL2 : Hid (listP (objP L) M j7 = (listP (objP L) k p1).map fun r => ((done ++ [x]) ++ r.1, r.2)) := Lib.hid (by rw [HL.out]; simp only [listP, hobj, Option.bind_some]; cases listP (objP L) k p1 <;> simp)
            have HCL : Hid (Calls Tryd.prog 28 #[.pointer (some ⟨g4, 0, none⟩)] wr.drew fun e w' => ∃ a3 d3, e = Ending.returned (.agg #[.int .i64 x.id, .bool x.head, .int .i64 x.nd.ty, .int .i64 x.nd.par, .string x.nd.name, .int .i64 x.nd.size, .int .i64 x.nd.mode, .int .u64 x.nd.stamp, .int .i64 x.nd.shadow, .string x.nd.tgt, .int .i64 x.pb, .int .i64 x.pp, .slice a3 x.cs.length d3]) ∧ p1 ≤ L.length ∧ wr.drew.grownBy w' (some g4) ∧ PB w' g4 (some ⟨gb, ob, none⟩) c L p1 ∧ w'.ownsRow wr.drew.heap.size 59 4 (.slice a3 x.cs.length d3) x.cs.length (cflat x.cs)) :=
              Lib.hid (hOb.out _ wr.drew (f.trans qd) jj (PB.fr HR qd) hjj (Lib.hid fun h => by rw [hobj] at h; cases h) (Lib.hid fun x' j' w' a d h h1 h2 h3 h4 => by
                rw [hobj] at h
                injection h with h
                injection h with hx hj
                subst hx hj
                exact ⟨a, d, rfl, h1, h2, h3, h4⟩))
            clear hobj HL
            go_upto_block 3 with (fail)
            go_cut [] from 51 to 59 (fun wc => ∃ a2 d2 bl2, p1 ≤ L.length ∧ Hid (wc.heap[g2]? = some (.cells #[.int .u64 fl, .int .u64 nx, .int .i64 (cu - 1), .int .i64 (la - 1), .slice a4 bs.length d4, .slice a2 (ii + 1) d2] 26 (0, 0))) ∧ Hid (wc.heap[g3]? = some (.cells #[.int .i64 0] 31 (0, 0))) ∧
              Hid (Fr w wc) ∧ Hid (PB wc g4 (some ⟨gb, ob, none⟩) c L p1) ∧ Hid (wc.ownsRow w.heap.size 45 4 (.slice a4 bs.length d4) bs.length (bflat bs)) ∧ Hid (wc.ownsRow w.heap.size 53 13 (.slice a2 (ii + 1) d2) (ii + 1) (orow (done ++ [x]) bl2 (ii + 1)).flatten) ∧ Hid (CO wc w.heap.size (done ++ [x]) bl2))
            case first =>
              go_upto_region 17 with (fail)
              have s5 := (blk6 (qd.heap H2)).2.2.2.2.2
              refine Reg.wp_region_late (fun w' => w'.cell? ⟨g2, 5, none⟩ = some (.slice a ii d)) 7 [0, 1, 2] [3, 4, 5, 6, 7] (by kernel_rfl) (by kernel_rfl) s5 ?_
              iterate 3
                refine Reg.wpLateT_step (v := ?_) rfl ?_ (fun w' hS => ?_) ?_
                rotate_left
                · simp [Region.wanted]
                · go_simp
                  try (first | rfl | exact ⟨rfl, rfl⟩)
              refine Reg.wpMainT_enter (fn := 28) (args := #[.pointer (some ⟨g4, 0, none⟩)]) rfl (by simp [Region.wanted]) ?_ HCL.out ?_
              · go_simp
                try (first | rfl | exact ⟨rfl, rfl⟩)
              rintro e wx ⟨a3, d3, rfl, hp1, q, HRx, Ox⟩
              have fx := row_own (f.trans qd) hw q hB4
              replace H2 := grown_blk' q (qd.heap H2) n24
              replace HE := grown_blk' q (qd.heap HE) nE4
              have hRd := PB.fr HR qd
              replace O4 := own_keep (own_fr O4 qd) q (fun k hk e => by subst e; exact own_ne3 (own_fr O4 qd) hRd (by decide) hk.symm)
              replace O := own_keep (own_fr O qd) q (fun k hk e => by subst e; exact own_ne3 (own_fr O qd) hRd (by decide) hk.symm)
              replace OC : CO wx w.heap.size done bl := fun j hj => own_keep (own_fr (OC j hj) qd) q (fun k hk e => by subst e; exact own_ne3 (own_fr (OC j hj) qd) hRd (by decide) hk.symm)
              replace Ox := own_low Ox (show w.heap.size ≤ wr.drew.heap.size from (f.trans qd).size)
              have s18 := (blk6 H2).2.2.2.2.2
              refine ⟨_, rfl, .inr s18, ?_⟩
              obtain ⟨w18, g18, hg18, hw18, f18, hz18, H18⟩ := boxedN fx.ok #[.int .i64 x.id, .bool x.head, .int .i64 x.nd.ty, .int .i64 x.nd.par, .string x.nd.name, .int .i64 x.nd.size, .int .i64 x.nd.mode, .int .u64 x.nd.stamp, .int .i64 x.nd.shadow, .string x.nd.tgt, .int .i64 x.pb, .int .i64 x.pp, .slice a3 x.cs.length d3] 53
              replace H2 := f18.heap H2
              replace HE := f18.heap HE
              replace O4 := own_fr O4 f18
              replace O := own_fr O f18
              replace OC := OC.fr f18
              replace Ox := own_fr Ox f18
              replace HRx := PB.fr HRx f18
              have f19 := fx.trans f18
              have s19 := (blk6 H2).2.2.2.2.2
              obtain ⟨v19, w19, hap, O19, q19, _⟩ := append_src Tryd.underlying24 hiO hzO hsO hyO rfl (by decide) 24 O (some ⟨g18, 0, none⟩) 1 1 _ (Src.lit H18 1 1) (by simp) (by simp [Value.oneCell']) (by unfold maxLen; omega) (by omega) f19.size
              have m2 := own_ne3 O H2 (by decide)
              have mE := own_ne3 O HE (by decide)
              have mR := own_ne3 O HRx (by decide)
              replace H2 := grown_blk' q19 H2 m2
              replace HE := grown_blk' q19 HE mE
              replace HRx := PB.grown HRx q19 mR
              replace O4 := World.ownsRow.kept O4 q19 (own_ne2 O4 O (by decide))
              replace OC := OC.own q19 O (by decide)
              replace Ox := World.ownsRow.kept Ox q19 (own_ne2 Ox O (by decide))
              have f20 := f19.row hw q19 (fun k hk => (World.ownsRow.lt O k hk).1)
              obtain ⟨a2, d2, rfl⟩ := own_form O19
              have s20 := (blk6 H2).2.2.2.2.2
              have z20 := unfroz H2 5
              obtain ⟨w21, hw21, H221, f21, q21⟩ := set_own f20 hw hB2 H2 5 (.slice a2 (ii + 1) d2)
              simp only [List.setIfInBounds_toArray, List.set_cons_zero, List.set_cons_succ] at H221
              refine Reg.wpMainT_run (v := (.slice (some ⟨g18, 0, none⟩) 1 1)) (w' := w18) rfl (by simp [Region.wanted]) ?_ (.inr s19) ?_
              · go_simp
                try (first | rfl | exact ⟨rfl, rfl⟩)
              refine Reg.wpMainT_append rfl rfl _ _ 24 24 rfl (by simp [Act.eval, Act.put]; try rfl) (by simp [Act.eval, Act.put]; try rfl) hap (.inr s20) ?_
              refine Reg.wpMainT_run (v := (.pointer (some ⟨g2, 5, none⟩))) (w' := w19) rfl (by simp [Region.wanted]) ?_ (.inr s20) ?_
              · go_simp
                try (first | rfl | exact ⟨rfl, rfl⟩)
              refine Reg.wpMainT_skip (w' := w21) rfl (by simp [Region.wanted]) ?_ (.inl rfl) ?_
              · go_simp
                try (first | rfl | exact ⟨rfl, rfl⟩)
              refine Reg.wpMainT_nil ?_
              have hsn : (orow (done ++ [x]) (upd bl done.length a3 d3) (ii + 1)).flatten = (orow done bl ii).flatten ++ ocells x a3 d3 := by
                rw [← HD.out, orow_snoc, List.flatten_append]; simp
              have HF : Hid (p1 ≤ L.length ∧ Hid (w21.heap[g2]? = some (.cells #[.int .u64 fl, .int .u64 nx, .int .i64 (cu - 1), .int .i64 (la - 1), .slice a4 bs.length d4, .slice a2 (ii + 1) d2] 26 (0, 0))) ∧ Hid (w21.heap[g3]? = some (.cells #[.int .i64 0] 31 (0, 0))) ∧
                  Hid (Fr w w21) ∧ Hid (PB w21 g4 (some ⟨gb, ob, none⟩) c L p1) ∧ Hid (w21.ownsRow w.heap.size 45 4 (.slice a4 bs.length d4) bs.length (bflat bs)) ∧ Hid (w21.ownsRow w.heap.size 53 13 (.slice a2 (ii + 1) d2) (ii + 1) (orow (done ++ [x]) (upd bl done.length a3 d3) (ii + 1)).flatten) ∧ Hid (CO w21 w.heap.size (done ++ [x]) (upd bl done.length a3 d3))) :=
                Lib.hid ⟨hp1, Lib.hid H221, Lib.hid (grown_blk' q21 HE n2E.symm), Lib.hid f21, Lib.hid (PB.grown HRx q21 n24.symm), Lib.hid (own_grown O4 q21 H2 (by decide)), Lib.hid (by rw [hsn]; exact own_grown O19 q21 H2 (by decide)), Lib.hid ((OC.grown q21 H2 (by decide)).snoc (own_grown Ox q21 H2 (by decide)))⟩
              go_wp2_with fail
              go_meet
              exact ⟨_, _, _, HF.out⟩
            case rest =>
              obtain ⟨a2, d2, bl2, hp1, F1, F2, F3, F4, F5, F6, F7⟩ := hcut
              clear H2 HE f HR O4 O OC d1 qd HCL
              go_wp2
              go_roundg k
              case measure => omega
              case rel => exact ⟨ii + 1, done ++ [x], a2, d2, bl2, p1, by omega, by rw [List.length_append, HD.out]; rfl, hp1, by simp, HL2, F1, F2, F3, F4, F5, F6, F7⟩
    case rest =>
      clear H2 HE f HR O4
      obtain ⟨os, j8, a5, d5, bl, E8, hj8, H2, HE, f, HR, O4, O5, OC⟩ := hcut
      have hst : stP L = some (⟨fl, nx, cu - 1, la - 1, bs, os⟩, j8) := by rw [HS2.out, E8.out]; rfl
      have hPP := HY.out _ _ hst
      obtain ⟨hwf, hnm⟩ := HW.out _ _ hst
      have hB := own_BRow O4
      have hO := own_ORow O5 OC
      obtain ⟨y0, y1⟩ := blk2 HR
      by_cases hlen : j8 = L.length
      · have d3 : ((j8 : Int) == (L.length : Int)) = true := by rw [hlen]; simp
        obtain ⟨mb, hmb⟩ : ∃ mb, mayB ⟨fl, nx, cu - 1, la - 1, bs, os⟩ = mb := ⟨_, rfl⟩
        have hG := good_any ⟨fl, nx, cu - 1, la - 1, bs, os⟩ a4 d4 a5 d5 bl wc f.ok hB hO hwf hnm
        rw [hmb] at hG
        have hG' := Lib.hid hG
        obtain ⟨c0, c1, c2, c3, c4, c5⟩ := blk6 H2
        cases mb with
        | false =>
          have hx : PP = (St.zero, 140) := by rw [hPP, if_neg (fun h => by rw [hmb] at h; cases h.2)]
          have hx' := Lib.hid hx
          clear hx hPP hG hmb hst hwf hnm hB hO O4 O5 OC hlen
          go_wp2_with (first
            | (go_at_call 19; refine hG'.out.mono ?_; rintro e wx ⟨rfl, q⟩; replace H2 := q.heap H2; replace HE := q.heap HE; replace f := f.trans q; clear q)
            | (go_at_call 29; refine (must_no _).mono ?_; rintro e wx ⟨he, rfl⟩; unfold gaveUp at he; subst he))
          exact hDie.out _ _ _ _ _ _ _ _ _ hx'.out f rfl rfl H2 HE
        | true =>
          have hx : PP = (⟨fl, nx, cu - 1, la - 1, bs, os⟩, 0) := by rw [hPP, if_pos ⟨hlen, hmb⟩]
          have hx' := Lib.hid hx
          have HBO := Lib.hid (And.intro hB hO)
          clear hx hPP hG hmb hst hwf hnm hB hO O4 O5 OC hlen
          go_wp2_with (first
            | (go_at_call 19; refine hG'.out.mono ?_; rintro e wx ⟨rfl, q⟩; replace H2 := q.heap H2; replace HE := q.heap HE; replace f := f.trans q; clear c0 c1 c2 c3 c4 c5 y0 y1; obtain ⟨c0, c1, c2, c3, c4, c5⟩ := blk6 H2; have z0 := unfroz H2 0; have z1 := unfroz H2 1; have z2 := unfroz H2 2; have z3 := unfroz H2 3; have z4 := unfroz H2 4; have z5 := unfroz H2 5; have i0 := idemC H2 c0; have i1 := idemC H2 c1; have i2 := idemC H2 c2; have i3 := idemC H2 c3; have i4 := idemC H2 c4; have i5 := idemC H2 c5; have k0 := blk1 HE; have zE := unfroz HE 0; have iE := idemC HE k0; (have HBO2 := Lib.hid (And.intro (HBO.out.1.fr q) (HBO.out.2.fr q))); clear q)
            | (go_at_call 29; refine (must_yes _).mono ?_; rintro e wx ⟨rfl, rfl⟩))
          have hT : ∀ T ds, T[2]? = some (.pointer (some ⟨g2, 0, none⟩)) → T[3]? = some (.pointer (some ⟨g3, 0, none⟩)) → ds = [{ target := .fn (.func 25) #[.pointer (some ⟨g2, 0, none⟩), .pointer (some ⟨g3, 0, none⟩)], args := #[] }] → Leaves Tryd.prog Tryd.f12 T (fun e w' => OutS w PP.1 PP.2 e w') ds .returning wx := fun T ds h1 h2 hds => by
            subst hds
            have hxx := hx'.out
            subst hxx
            exact door14_ok T g2 g3 w wx ⟨fl, nx, cu - 1, la - 1, bs, os⟩ a4 d4 a5 d5 bl f HBO2.out.1 HBO2.out.2 h1 h2 H2 HE
          exact hT _ _ rfl rfl rfl
      · have d3 : ((j8 : Int) == (L.length : Int)) = false := by simpa using (fun h => hlen (by omega) : ¬ (j8 : Int) = (L.length : Int))
        have hx : PP = (St.zero, 140) := by rw [hPP, if_neg (fun h => hlen h.1)]
        have hx' := Lib.hid hx
        clear hx hPP hst hwf hnm hB hO O4 O5 OC hlen
        go_wp2_with (go_at_call 29; refine (must_no _).mono ?_; rintro e wx ⟨he, rfl⟩; unfold gaveUp at he; subst he)
        exact hDie.out _ _ _ _ _ _ _ _ _ hx'.out f rfl rfl H2 HE
end Go.Proofs.YtefkklgelmbaiaaDoor
set_option linter.unusedSimpArgs false
set_option linter.unusedVariables false
namespace Go.Proofs.YtefkklgelmbaiaaDoor
open Go.RowKit Go.Proofs Go.Proofs.YtefkklgelmbaiaaDoorW.PrintWords Go.Proofs.YtefkklgelmbaiaaDoorW.PrintMore

theorem same_at {w : World} (hw : Ok w) {A A' : Option Addr} {c c' : Nat} {xs : List Int} (h : BytesAt w A xs) (h' : BytesAt w A' xs) (hc : xs.length ≤ c) (hc' : xs.length ≤ c') (hL : xs.length ≤ 1073741824) :
    Calls Tryd.prog 9 #[.slice A xs.length c, .slice A' xs.length c'] w fun e w' => e = .returned (.bool true) ∧ Fr w w' := by
  refine (Psame.shalelaw14_same.calls A c xs A' c' xs true w (h.toC (by omega)) hc (h'.toC (by omega)) hc' ?_).mono fun e w' ⟨he, hb⟩ => ⟨he, Fr.of hw hb.below⟩
  unfold Psame.shalelaw14_same.f
  simp
theorem map_one (L : List Int) : ∀ u ∈ L.map (Value.int .u8), u.oneCell' = true := fun u hu => by obtain ⟨x, _, rfl⟩ := List.mem_map.1 hu; rfl
theorem bytes_src {w : World} {A : Option Addr} {c : Nat} {L : List Int} (h : BytesAt w A L) (hn : A = none → c = 0) : Src w A L.length c (L.map (Value.int .u8)) := by
  rcases h with h | ⟨g, o, rfl, _, h⟩
  · subst h
    cases A with
    | none => exact .inl ⟨rfl, rfl, hn rfl, rfl⟩
    | some a => exact .inr ⟨a, rfl, fun j u hj => by simp at hj⟩
  · refine .inr ⟨_, rfl, fun j u hj => ?_⟩
    rw [List.getElem?_map, Option.map_eq_some_iff] at hj
    obtain ⟨x, hx, rfl⟩ := hj
    rw [Lib.add_plain]
    exact h j x hx
theorem own_full {w : World} {B g n cap : Nat} {e : TypeId} {L : List Int} {u v : Value} (h : w.ownsRow B e 1 (.slice (some ⟨g, 0, none⟩) n cap) n (L.map (Value.int .u8) ++ [u, v])) : BytesAt w (some ⟨g, 0, none⟩) L ∧ w.cell? ⟨g, L.length, none⟩ = some u ∧ w.cell? ⟨g, L.length + 1, none⟩ = some v := by
  have hlt := h.lt g rfl
  refine ⟨.inr ⟨g, 0, rfl, hlt.2, fun i x hi => ?_⟩, ?_, ?_⟩
  · have hil := (List.getElem?_eq_some_iff.1 hi).1
    have := h.cells (g := g) rfl i (.int .u8 x) (by rw [List.getElem?_append_left (by simpa using hil), List.getElem?_map, hi]; rfl)
    rwa [Lib.add_plain] at this
  · have := h.cells (g := g) rfl L.length u (by rw [List.getElem?_append_right (by simp)]; simp)
    rwa [Lib.add_plain, Nat.zero_add] at this
  · have := h.cells (g := g) rfl (L.length + 1) v (by rw [List.getElem?_append_right (by simp)]; simp)
    rwa [Lib.add_plain, Nat.zero_add] at this

set_option maxHeartbeats 12800000 in
set_option maxRecDepth 100000 in
theorem law_PointReads (A : Option Addr) (c : Nat) (L : List Int) (w : World) (hw : Ok w) (hA : BytesAt w A L) (hb : bytesOk L) (hc : L.length ≤ c) (hL : L.length ≤ 1073741000) (hg : 7 ≤ w.heap.size) (hAc : A = none → c = 0) :
    Calls Tryd.prog 4 #[.slice A L.length c] w fun e w' => e = .returned (.bool true) ∧ Fr w w' := by
  have hst : (readR L).1.wf ∧ (∀ o ∈ (readR L).1.os, o.cs.length ≤ 65536) := by
    have h := st_rg hb (by omega)
    have hz : St.zero.wf ∧ (∀ o ∈ St.zero.os, o.cs.length ≤ 65536) := ⟨⟨⟨by decide, by decide⟩, ⟨by decide, by decide⟩, ⟨by decide, by decide⟩, ⟨by decide, by decide⟩, fun b hb => by simp [St.zero] at hb, fun b hb => by simp [St.zero] at hb, by decide, by decide⟩, fun o ho => by simp [St.zero] at ho⟩
    unfold readR
    split
    · exact hz
    · split
      · exact ⟨h.1, h.2.2.1⟩
      · exact hz
  have hR := read14_go _ A c L w hw hA hb hc (by omega) hg (Lib.hid fun e w' h => h)
  have hP := fun W (f : Fr w W) gb c' (h1 : BytesAt W (some ⟨gb, 0, none⟩) L) h2 h3 => pread_any gb 0 c' L W f.ok h1 h2 hb h3 (by omega) (Nat.le_trans hg f.size)
  rw [read_same] at hP
  obtain ⟨⟨s, er⟩, hs⟩ : ∃ p, readR L = p := ⟨_, rfl⟩
  rw [hs] at hst hR hP
  dsimp only at hst hR hP
  have HR := Lib.hid hR
  have HP := Lib.hid hP
  have HS := Lib.hid (fun A1 B1 A2 B2 c1 d1 c2 d2 al bl W hW h1 h2 h3 h4 => same13_true s A1 B1 A2 B2 c1 d1 c2 d2 al bl W hW h1 h2 h3 h4 hst.1 (fun o ho => by have := hst.2 o ho; omega))
  obtain ⟨iy, hiy, hzy, hsy, hyy⟩ := info_byte
  have f0 := Fr.refl hw
  have hE : ((er : Int) == er) = true := by simp
  have hcast : decide ((L.length : Int) < (L.length + 2 : Nat)) = true := by simp; omega
  clear hs hst hR hP
  have hAA := Lib.hid hA
  go_enter Tryd.func4, Tryd.ntmps4
  go_upto_region 2 with (go_at_call 11; refine HR.out.mono ?_; rintro e w1 ⟨a1, b1, a2, b2, al, rfl, f, hB1, hO1⟩; obtain ⟨w3, g3, hg3, hw3, q, hz3, H3⟩ := boxedN f.ok #[.int .u64 s.floor, .int .u64 s.next, .int .i64 s.cur, .int .i64 s.last, .slice a1 s.bs.length b1, .slice a2 s.os.length b2] 26; have hw1 := f.ok; obtain ⟨x0, x1, x2, x3, x4, x5⟩ := blk6 H3; have z0 := unfroz H3 0; have z1 := unfroz H3 1; have z2 := unfroz H3 2; have z3 := unfroz H3 3; have z4 := unfroz H3 4; have z5 := unfroz H3 5; have i0 := idemC H3 x0; have i1 := idemC H3 x1; have i2 := idemC H3 x2; have i3 := idemC H3 x3; have i4 := idemC H3 x4; have i5 := idemC H3 x5)
  clear z0 z1 z2 z3 z4 z5 i0 i1 i2 i3 i4 i5
  obtain ⟨w4, g4, hg4, hw4, q4, hz4, H4⟩ := boxedN q.ok #[] 5
  have hB4 : w1.heap.size ≤ g4 := by rw [← hg4]; exact q.size
  replace H3 := q4.heap H3
  replace q := q.trans q4
  clear q4
  have O4 : w4.ownsRow w1.heap.size 5 1 (.slice (some ⟨g4, 0, none⟩) 0 0) 0 [] := ⟨by simp, .inr ⟨g4, 0, #[], rfl, hB4, H4, by omega, by simp, by simp, by simp⟩⟩
  obtain ⟨v5, w5, hap1, O5, q5, _⟩ := append_src Tryd.underlying27 hiy hzy hsy hyy rfl (by decide) 27 O4 A L.length c (L.map (Value.int .u8)) (bytes_src (hAA.out.fr (f.trans q)) hAc) (by simp) (map_one L) (by unfold maxLen; omega) (by omega) q.size
  simp only [Nat.zero_add, List.nil_append] at O5
  have m1 := own_ne3 O4 H3 (by decide)
  replace H3 := grown_blk' q5 H3 m1
  replace q := q.row hw1 q5 (fun k hk => (World.ownsRow.lt O4 k hk).1)
  clear m1 q5 O4 H4
  obtain ⟨a5, c5, rfl⟩ := own_form O5
  obtain ⟨w6, g6, hg6, hw6, q6, hz6, H6⟩ := boxedN q.ok #[.int .u8 92, .int .u8 197] 5
  replace H3 := q6.heap H3
  replace q := q.trans q6
  replace O5 := own_fr O5 q6
  clear q6
  obtain ⟨v7, w7, hap2, O7, q7, _⟩ := append_src Tryd.underlying27 hiy hzy hsy hyy rfl (by decide) 27 O5 (some ⟨g6, 0, none⟩) 2 2 _ (Src.lit H6 2 2) (by simp) (by simp [Value.oneCell']) (by unfold maxLen; omega) (by omega) q.size
  have m1 := own_ne3 O5 H3 (by decide)
  replace H3 := grown_blk' q7 H3 m1
  replace q := q.row hw1 q7 (fun k hk => (World.ownsRow.lt O5 k hk).1)
  clear m1 q7 O5 H6
  obtain ⟨g7, c7, rfl, hBg7, hlt7, hcap7⟩ := own_some O7 (by rintro rfl; have := O7.2; rcases this with ⟨_, h⟩ | ⟨g, cap, cur, h, _⟩; omega; cases h)
  obtain ⟨hF, u0, u1⟩ := own_full O7
  have hFF := Lib.hid hF
  obtain ⟨x0, x1, x2, x3, x4, x5⟩ := blk6 H3
  have hl0 : (0 : Int) ≤ (L.length : Int) := by omega
  have hl7 : (L.length : Int) ≤ (c7 : Int) := by omega
  have tok0 : True := trivial
  clear hF O7 hz3 hz4 hz6
  go_wp2_with (first
    | (at_builtin; have _t := tok0; refine wpList_append_run rfl _ _ 27 27 rfl (by simp [Act.eval]) (by simp [Act.eval]) hap1 ?_; clear hap1 tok0; have tok1 : True := trivial)
    | (at_builtin; have _t := tok1; refine wpList_append_run rfl _ _ 27 27 rfl (by simp [Act.eval]) (by simp [Act.eval]) hap2 ?_; clear hap2 tok1)
    | (go_at_call 12; refine (HP.out _ (f.trans q) g7 c7 hFF.out hlt7 (by omega)).mono ?_; rintro e w8 ⟨a8, b8, a9, b9, bl, rfl, q8, hB8, hO8⟩; replace H3 := q8.heap H3; replace q := q.trans q8; obtain ⟨w9, g9, hg9, hw9, q9, hz9, H9⟩ := boxedN q.ok #[.int .u64 s.floor, .int .u64 s.next, .int .i64 s.cur, .int .i64 s.last, .slice a8 s.bs.length b8, .slice a9 s.os.length b9] 26; replace H3 := q9.heap H3; replace q := q.trans q9; replace u0 := (q8.trans q9).cell u0; replace u1 := (q8.trans q9).cell u1; (have hF2 := Lib.hid (hFF.out.fr (q8.trans q9))); replace hB8 := hB8.fr q9; replace hO8 := hO8.fr q9; clear q8 q9; obtain ⟨x0, x1, x2, x3, x4, x5⟩ := blk6 H3; obtain ⟨y0, y1, y2, y3, y4, y5⟩ := blk6 H9; have z0 := unfroz H9 0; have z1 := unfroz H9 1; have z2 := unfroz H9 2; have z3 := unfroz H9 3; have z4 := unfroz H9 4; have z5 := unfroz H9 5; have i0 := idemC H9 y0; have i1 := idemC H9 y1; have i2 := idemC H9 y2; have i3 := idemC H9 y3; have i4 := idemC H9 y4; have i5 := idemC H9 y5)
    | (go_at_call 8; clear z0 z1 z2 z3 z4 z5 i0 i1 i2 i3 i4 i5; refine (no_any _ _ q.ok).mono ?_; rintro e wa ⟨rfl, r⟩; replace H3 := r.heap H3; replace H9 := r.heap H9; replace q := q.trans r; replace u0 := r.cell u0; replace u1 := r.cell u1; (have hF3 := Lib.hid (hF2.out.fr r)); replace hB8 := hB8.fr r; replace hO8 := hO8.fr r; clear r; obtain ⟨x0, x1, x2, x3, x4, x5⟩ := blk6 H3; obtain ⟨y0, y1, y2, y3, y4, y5⟩ := blk6 H9)
    | (go_at_call 13; refine (HS.out _ _ _ _ _ _ _ _ _ _ _ q.ok hB8 (hB1.fr q) hO8 (hO1.fr q)).mono ?_; rintro e wb ⟨rfl, r⟩; replace q := q.trans r; replace u0 := r.cell u0; replace u1 := r.cell u1; (have hF4 := Lib.hid (hF3.out.fr r)); clear r)
    | (go_at_call 9; refine (same_at q.ok hF4.out (hAA.out.fr (f.trans q)) (by omega) hc (by omega)).mono ?_; rintro e wd ⟨rfl, r⟩; replace q := q.trans r; replace u0 := r.cell u0; replace u1 := r.cell u1; clear r))
  go_ret
  exact ⟨rfl, f.trans q⟩
end Go.Proofs.YtefkklgelmbaiaaDoor
namespace Go.Proofs.YtefkklgelmbaiaaDoor
open Go.ChangeShapes Go.WideShapes Go.RowKit

section
variable {H : Type} {enc : TypeId × Value → H} {P : Program}

theorem post_of_below {f : Func} {s : ChangeSpec} {apart fresh handsOn again : Bool} {W W' : World} {args : Array Value} {v : Value} {ds gs : List (DataW H)} {before pa pv : List MemPlace}
    (hW : DataW.Whole enc P f.params.toList s.vars apart W args.toList ds gs before)
    (hres : ∀ (b : Nat) (sp : Nat → Bool) (hd : Bool), DataW.TrodAll enc P W' b sp hd f.resultTypes.toList (v.resultList f.resultTypes.size) (s.fn H (ds ++ gs)).results [])
    (hargs : ∀ sp : Nat → Bool, (∀ p ∈ before, sp p.block = true) → DataW.TrodAll enc P W' 0 sp true f.params.toList args.toList (s.fn H (ds ++ gs)).args pa)
    (hvars : ∀ sp : Nat → Bool, (∀ p ∈ before, sp p.block = true) → DataW.TrodVars enc P W' sp s.vars (s.fn H (ds ++ gs)).vars pv)
    (hps : before = pa ++ pv) (hB : Below W.heap.size W W')
    (hok : ∀ (j : Nat) (t : TypeId) (r : Value), f.resultTypes[j]? = some t → (v.resultList f.resultTypes.size)[j]? = some r → Value.okWide P W' .any 0 t r) :
    s.post enc P f apart fresh handsOn again W args v W' := by
  have hold : ∀ p ∈ before, (fun b => decide (b < W.heap.size)) p.block = true := fun p hp => by simpa using hW.lt p hp
  have hlt : ∀ p ∈ before, p.block < W.heap.size := fun p hp => by simpa using hW.lt p hp
  refine ⟨ds, gs, before, [], pa, pv, hW, hres _ _ _, hargs _ hold, hvars _ hold, hB.frame _, fun _ => ?_⟩
  obtain ⟨_, _, _, _, _, hz, hn⟩ := hW
  refine ⟨hok, _, _, ([] ++ pa) ++ pv, ⟨[] ++ pa, pv, trodAll_append (hargs _ (fun _ _ => rfl)) (hres _ _ _), hvars _ (fun _ _ => rfl), rfl, ?_, ?_⟩, ?_⟩
  · intro b off hp
    have hm : MemPlace.cell b off ∈ before := by rw [hps]; simpa using hp
    rw [hB.frozen (p := ⟨b, off, none⟩) (hlt _ hm)]
    exact hz b off hm
  · intro ha
    have := hn ha
    rw [hps] at this
    simpa using this
  · intro p hp _
    rw [hps]
    simpa using hp

/-- the arguments read as they did -/
theorem trodAll_below (hl : laidOutB P = true) {W W' : World} (hB : Below W.heap.size W W') {sp : Nat → Bool} : ∀ {ts : List TypeId} {vs : List Value} {ds : List (DataW H)} {ps : List MemPlace},
    (∀ t ∈ ts, P.readableRec t = true ∧ t < P.types.size) → DataW.TrodAll enc P W 0 (fun _ => true) true ts vs ds ps → (∀ p ∈ ps, p.block < W.heap.size) → (∀ p ∈ ps, sp p.block = true) →
    DataW.TrodAll enc P W' 0 sp true ts vs ds ps
  | [], _, _, _, _, h, _, _ => by
    obtain ⟨rfl, rfl, rfl⟩ := trodAll_nil h
    exact trodAll_mk0
  | t :: ts, _, _, _, hr, h, hlt, hs => by
    obtain ⟨v, vs1, d, ds1, a, b, rfl, rfl, rfl, h1, h2⟩ := trodAll_cons h
    obtain ⟨hr1, hr2⟩ := hr t List.mem_cons_self
    exact trodAll_cons_mk (WideElems.Trod_stays hl hr1 hr2 h1 (fun p hp => hB.same (hlt p (List.mem_append_left _ hp))) (fun p hp => hs p (List.mem_append_left _ hp)))
      (trodAll_below hl hB (fun t ht => hr t (List.mem_cons_of_mem _ ht)) h2 (fun p hp => hlt p (List.mem_append_right _ hp)) (fun p hp => hs p (List.mem_append_right _ hp)))
end
end Go.Proofs.YtefkklgelmbaiaaDoor
set_option linter.unusedSimpArgs false
set_option linter.unusedVariables false
namespace Go.Proofs.YtefkklgelmbaiaaDoor.pointReads
open Go.ChangeShapes Go.WideShapes Go.ChangeAt Go.RowKit

theorem own : ownKnob Tryd.prog.godebug = none := by kernel_rfl
theorem laidOut : laidOutB Tryd.prog = true := by kernel_rfl

set_option maxRecDepth 100000 in
theorem field_of_reads {w : World} {name : String} {g : Nat} {a b : Int} (hg : Tryd.prog.globalNamed name = some g) (hty : (Tryd.prog.globals[g]?).map (·.type) = some 103)
    (h : Lib.VarReads Tryd.prog w name (.agg [.lit (.int .i64 a), .lit (.int .i64 b)])) : w.var? Tryd.prog name = some #[.int .i64 a, .int .i64 b] := by
  have hc1 : Tryd.prog.cellsOf 3 = 1 := by kernel_rfl
  have hc2 : Tryd.prog.cellsOf 103 = 2 := by kernel_rfl
  obtain ⟨g', t', cs, fuel, p, hg', ht', hvar, hd⟩ := h
  obtain rfl := Option.some.inj (hg.symm.trans hg')
  obtain rfl := Option.some.inj (hty.symm.trans ht')
  rw [hvar]
  obtain ⟨cs⟩ := cs
  obtain ⟨xs, n, rfl, hx, hl, hxs, hf⟩ := DataW.trod_struct Tryd.underlying103 hd
  dsimp only at hl hf
  rw [hc2] at hl
  match xs, hxs, cs, hl with
  | [x0, x1], _, [c0, c1], _ =>
    have h0 := hf 0 _ rfl
    have h1 := hf 1 _ rfl
    simp [hc1] at h0 h1
    obtain ⟨n0, e0, rfl, _⟩ := DataW.trod_int Tryd.underlying3 h0
    obtain ⟨n1, e1, rfl, _⟩ := DataW.trod_int Tryd.underlying3 h1
    simp at e0 e1 hx
    obtain ⟨⟨rfl, rfl⟩, _⟩ := hx
    rw [e0, e1]

theorem sizeOf {W : World} (h : W.ShapedOpen Tryd.prog) : 7 ≤ W.heap.size := by
  obtain ⟨m, hm⟩ := Tryd.laysM219.s1_3 W h
  exact World.block_lt_of_cell? W _ hm
theorem open_u8s {H : Type} {enc : TypeId × Value → H} {w : World} {base : Nat} {sp : Nat → Bool} {held : Bool} {fuel : Nat} {cs : List Value} {x : DataW H × List MemPlace} (h : DataW.trod enc Tryd.prog w base sp held fuel 27 cs = some x) :
    ∃ (L : List Int) (A : Option Addr) (c : Nat), cs = [.slice A L.length c] ∧ BytesAt w A L ∧ bytesOk L ∧ L.length ≤ c ∧ (A = none → c = 0) ∧ L.length ≤ Rows.uptoBulk x.1 := by
  have hc1 : Tryd.prog.cellsOf 5 = 1 := by kernel_rfl
  obtain ⟨L, A, c, h1, hR, h3, h4, h5, h6⟩ := open_rows (fun a : Int => [Value.int .u8 a]) (fun _ => rfl) (by decide) Tryd.underlying27 hc1 (fun a _ => 0 ≤ a ∧ a ≤ 255)
    (fun h => by
      obtain ⟨a, e0, rfl, w0⟩ := DataW.trod_int Tryd.underlying5 h
      refine ⟨a, ?_, e0⟩
      have := w0
      simp [Lit.wf, IntKind.min, IntKind.max, IntKind.signed, IntKind.bits] at this
      omega) h
  refine ⟨L, A, c, h1, ?_, fun a ha => (h6 a ha).choose_spec.1, h3, h4, h5⟩
  rcases hR with h | ⟨g, o, rfl, hg, hc⟩
  · left; simpa using h
  · refine .inr ⟨g, o, rfl, hg, fun i a hi => ?_⟩
    have := hc i [.int .u8 a] (by simp [hi]) 0 (.int .u8 a) Nat.zero_lt_one rfl
    simpa using this

theorem okOf {W : World} (h : laidMetH Tryd.prog Rows.pointReadsUptoRow.laid W) : Ok W where
  fType := field_of_reads gFType (by kernel_rfl) (Lib.laidMet.reads (show laidMet Tryd.prog Rows.pointReadsUptoRow.laid W from h) List.mem_cons_self)
  fParent := field_of_reads gFParent (by kernel_rfl) (Lib.laidMet.reads (show laidMet Tryd.prog Rows.pointReadsUptoRow.laid W from h) (List.mem_cons_of_mem _ List.mem_cons_self))
  fSize := field_of_reads gFSize (by kernel_rfl) (Lib.laidMet.reads (show laidMet Tryd.prog Rows.pointReadsUptoRow.laid W from h) (List.mem_cons_of_mem _ (List.mem_cons_of_mem _ List.mem_cons_self)))
  fMode := field_of_reads gFMode (by kernel_rfl) (Lib.laidMet.reads (show laidMet Tryd.prog Rows.pointReadsUptoRow.laid W from h) (List.mem_cons_of_mem _ (List.mem_cons_of_mem _ (List.mem_cons_of_mem _ List.mem_cons_self))))
  fStamp := field_of_reads gFStamp (by kernel_rfl) (Lib.laidMet.reads (show laidMet Tryd.prog Rows.pointReadsUptoRow.laid W from h) (List.mem_cons_of_mem _ (List.mem_cons_of_mem _ (List.mem_cons_of_mem _ (List.mem_cons_of_mem _ List.mem_cons_self)))))
  fShadow := field_of_reads gFShadow (by kernel_rfl) (Lib.laidMet.reads (show laidMet Tryd.prog Rows.pointReadsUptoRow.laid W from h) (List.mem_cons_of_mem _ (List.mem_cons_of_mem _ (List.mem_cons_of_mem _ (List.mem_cons_of_mem _ (List.mem_cons_of_mem _ List.mem_cons_self))))))

set_option maxRecDepth 100000 in
theorem contract (H : Type) (enc : TypeId × Value → H) (W : World) (base : Nat) (args : Array Value) (ds gs : List (DataW H)) (before : List MemPlace)
    (hval : ∀ (j : Nat) t v, Tryd.f4.params[j]? = some t → args[j]? = some v → Value.okWide Tryd.prog W .any base t v)
    (hW : DataW.Whole enc Tryd.prog Tryd.f4.params.toList Rows.pointReadsSpec.vars false W args.toList ds gs before) (hS : Rows.uptoSmall H (ds ++ gs) = true) (hL : laidMetH Tryd.prog Rows.pointReadsUptoRow.laid W) (hSh : W.ShapedOpen Tryd.prog) :
    Calls Tryd.prog 4 args W fun e W' => ∃ v, e = .returned v ∧ Rows.pointReadsSpec.post enc Tryd.prog Tryd.f4 false true false false W args v W' := by
  have hW' := hW
  obtain ⟨p, q, hA0, hV, rfl, hfz, hnd⟩ := hW
  have hA : DataW.TrodAll enc Tryd.prog W 0 (fun _ => true) true Tryd.f4.params.toList args.toList ds p := hA0
  rw [Tryd.params4] at hA hval
  obtain ⟨v0, vs0, d0, ds0, p0, q0, hargs, rfl, rfl, h0, r0⟩ := trodAll_cons hA
  obtain ⟨rfl, rfl, rfl⟩ := trodAll_nil r0
  obtain rfl : args = #[v0] := by cases args; simp_all
  obtain ⟨rfl, rfl⟩ := trodVars_none hV
  clear hA0
  simp only [List.append_nil] at hW'
  have hsz : Rows.uptoBulk d0 ≤ 1048576 := by
    have : Rows.uptoBulkAll ([d0] ++ []) ≤ 1048576 := by simpa [Rows.uptoSmall] using hS
    simp only [List.append_nil, Rows.uptoBulkAll] at this
    omega
  obtain ⟨A, n, c, rfl⟩ := okWide_slice Tryd.underlying27 (hval 0 27 v0 rfl rfl)
  obtain ⟨fuel, h⟩ := h0
  obtain ⟨L, A', c', e, hA', hb, hc, hAc, hbl⟩ := open_u8s h
  simp only [Value.cells] at e
  injection e with e _
  injection e with e1 e2 e3
  subst e1 e2 e3
  dsimp only at hbl
  have walk : Calls Tryd.prog 4 #[.slice A L.length c] W fun e w' => e = .returned (.bool true) ∧ Fr W w' :=
    law_PointReads A c L W (okOf hL) hA' hb hc (by omega) (sizeOf hSh) hAc
  refine walk.mono fun e W' ⟨he, hg⟩ => ?_
  subst he
  have hlt : ∀ x ∈ p0 ++ ([] : List MemPlace), x.block < W.heap.size := fun x hx => by simpa using hW'.lt x (by simpa using hx)
  exact ⟨_, rfl, post_of_below (pa := p0 ++ []) (pv := []) hW' (fun _ _ _ => trodAll_cons_mk (shut_bool Tryd.underlying4 _) trodAll_mk0)
    (fun sp hsp => trodAll_below laidOut hg.below (by rw [Tryd.params4]; simp only [List.mem_cons, List.not_mem_nil, or_false, forall_eq]; exact ⟨by kernel_rfl, of_decide_eq_true (by kernel_rfl)⟩) (by rw [Tryd.params4]; exact hA) hlt (fun x hx => hsp x (by simpa using hx)))
    (fun _ _ => rfl) (by simp) hg.below (ok_one (by kernel_rfl) rfl (okWide_bool_mk Tryd.underlying4 _))⟩

/-- A WORLD FOR THE WITNESS: the settled one, the listed variables as they are laid. -/
def cellsOfData : DataW Unit → Array Value
  | .agg l => (l.map fun d => match d with
    | .lit (.int k z) => Value.int k z
    | .lit (.string s) => Value.string ⟨s.toArray⟩
    | _ => Value.bool false).toArray
  | _ => #[]
def layAt (d : DataW Unit) : Obj → Obj
  | .cells _ t frozen => .cells (cellsOfData d) t frozen
  | o => o
noncomputable def laidWorld (os : Os) : World :=
  { World.holding Tryd.prog os ⟨#[], #[], []⟩ with heap := ((((((World.holding Tryd.prog os ⟨#[], #[], []⟩).heap.modify 0 (layAt Rows.laid_shale_node_fieldType)).modify 1 (layAt Rows.laid_shale_node_fieldParent)).modify 2 (layAt Rows.laid_shale_node_fieldSize)).modify 3 (layAt Rows.laid_shale_node_fieldMode)).modify 4 (layAt Rows.laid_shale_node_fieldStamp)).modify 5 (layAt Rows.laid_shale_node_fieldShadow) }
def wArgs : Array Value := #[.slice none 0 0]
theorem laid_met (os : Os) : laidMet Tryd.prog Rows.pointReadsUptoRow.laid ((laidWorld os).forCall (fun _ _ => 0) ⟨#[], wArgs, []⟩).memory :=
  laidMet_of_run' 8 (by kernel_rfl) (by kernel_rfl)
theorem reads (os : Os) {H : Type} (enc : TypeId × Value → H) : ∃ places, DataW.whole enc Tryd.prog ((laidWorld os).forCall (fun _ _ => 0) ⟨#[], wArgs, []⟩).memory Tryd.f4.params.toList Rows.pointReadsSpec.vars false wArgs.toList 8 = some ([.nil], [], places) :=
  ⟨[], by kernel_rfl⟩

set_option maxRecDepth 100000 in
theorem lifted (os : Os) (started : os.Started) (H : Type) (enc : TypeId × Value → H) (F : Stop.Interp) :
    ReturnsInHanded {} Tryd.checked os 4 .any ((Rows.OpenSpec.upto Rows.pointReadsSpec).preRow enc Tryd.prog Tryd.f4 Rows.pointReadsUptoRow.domain false Rows.pointReadsUptoRow.laid) (((Rows.OpenSpec.upto Rows.pointReadsSpec).at F).post enc Tryd.prog Tryd.f4 false true false false) := by
  obtain ⟨places, hx⟩ := reads os enc
  refine returnsInHanded_of_row (C := Tryd.checked) (s := Rows.OpenSpec.upto Rows.pointReadsSpec) own started (by kernel_rfl) Tryd.func4
    (witness_row_at (enc := enc) (C := Tryd.checked) false (laidWorld os) wArgs rfl (by kernel_rfl) (by kernel_rfl) (by kernel_rfl)
      (OpenSpec.preRow_of_cond 8 hx (by kernel_rfl) (fun k hk => by cases hk; kernel_rfl) (by kernel_rfl) (laid_met os))) ?_
  intro W base args ds gs before hval hW _ hcond _ hL hSh _
  exact contract H enc W base args ds gs before hval hW (hcond _ rfl) hL hSh

theorem said : Rows.PointReadsUptoSaid :=
  OpenClaim.holds_of_cond 4 Tryd.f4 rfl rfl rfl rfl rfl rfl rfl ⟨rfl, rfl, rfl, rfl, rfl⟩ rfl rfl rfl rfl rfl (by kernel_rfl) Tryd.func4 (by kernel_rfl)
    (of_decide_eq_true (by kernel_rfl)) (by unfold Func.isWrapper; first | (rw [if_pos (by decide +kernel)]; kernel_rfl) | (rw [if_neg (by decide +kernel)]; exact ⟨rfl, rfl⟩))
    (fun os started H enc _ F => by rw [OpenClaim.pre_eq_preRow]; exact lifted os started H enc F)

theorem plain (f : FuncId) (fn : Func) (hf : Tryd.pinned.checked.prog.funcNamed "shale/shalelaw14.PointReads" = some f) (hfn : Tryd.pinned.checked.prog.funcs[f]? = some fn) :
    true = Tryd.pinned.checked.prog.looks [] ∧ ∀ (j : Nat) t, fn.params[j]? = some t → Tryd.pinned.checked.prog.wantsStandIn t = false := by
  obtain rfl : f = 4 := Option.some.inj ((show Tryd.prog.funcNamed "shale/shalelaw14.PointReads" = some 4 by kernel_rfl).symm.trans hf) |>.symm
  obtain rfl : fn = Tryd.f4 := (Option.some.inj (Tryd.func4.symm.trans hfn)).symm
  refine ⟨by kernel_rfl, fun j t ht => ?_⟩
  rw [Tryd.params4] at ht
  obtain rfl : t = 27 := by simpa using Array.mem_of_getElem? ht
  exact (show Tryd.prog.wantsStandIn 27 = false by kernel_rfl)

theorem card : Rows.PointReadsUptoCardSaid :=
  Claim7.holds_tied_plain_at .later [] _ _ _ _ said (fun _ h => by cases h) (by kernel_rfl) (fun _ h => by cases h) pointReadsUpto_row_tie rfl ⟨rfl, rfl⟩ (by kernel_rfl) rfl plain (by kernel_rfl)
end Go.Proofs.YtefkklgelmbaiaaDoor.pointReads
