/- From the row's premises to the walks': the listed tables, and a report as argument. -/
import Derived.Test.YtioapjnaopnhaaaDoorAuditShowsWalk
import Derived.Test.YtioapjnaopnhaaaDoorCards
import Derived.Test.YtioapjnaopnhaaaDoorTie
import Derived.ProofKit
import Derived.WideShapes
import Derived.Deep.DeepHandedRow
import Derived.Lib.LaidU8
import Derived.OpenShut
import Derived.Deep.Slices
set_option linter.unusedSimpArgs false
set_option linter.unusedVariables false
instance : Inhabited Go.Proofs.YtioapjnaopnhaaaDoor.Fnd := ⟨⟨0, 0, 0, 0⟩⟩
namespace Go.Proofs.YtioapjnaopnhaaaDoor
open Go.ChangeShapes Go.WideShapes Go.ChangeAt Go.RowKit

theorem tab_of_reads {P : Program} {w : World} {name : String} {k : IntKind} {zs : List Int} {g : Nat} {t e : TypeId} {n : Nat}
    (hg : P.globalNamed name = some g) (hty : (P.globals[g]?).map (·.type) = some t) (ht : P.underlying t = some (.array n e)) (he : P.underlying e = some (.int k)) (hce : P.cellsOf e = 1) (hct : P.cellsOf t = n)
    (h : Lib.VarReads P w name (Lib.tabData k zs)) : Lib.TabIs P w name k zs := by
  obtain ⟨g', t', cs, fuel, p, hg', ht', hvar, hd⟩ := h
  obtain rfl := Option.some.inj (hg.symm.trans hg')
  obtain rfl := Option.some.inj (hty.symm.trans ht')
  unfold Lib.TabIs
  rw [hvar, ← Lib.cells_of_tab ht he hce hct hd]

/-- an array of strings, read -/
theorem strs_of_tab {H : Type} {enc : TypeId × Value → H} {P : Program} {w : World} {base : Nat} {sp : Nat → Bool} {held : Bool} {fuel : Nat} {t e : TypeId} {n : Nat} {cs : List Value} {zs : List (List UInt8)} {p : List MemPlace}
    (ht : P.underlying t = some (.array n e)) (he : P.underlying e = some .string) (hce : P.cellsOf e = 1) (hct : P.cellsOf t = n)
    (h : DataW.trod enc P w base sp held fuel t cs = some (.agg (zs.map fun z => .lit (.string z)), p)) : cs = zs.map fun z => Value.string ⟨z.toArray⟩ := by
  obtain ⟨xs, m, rfl, hx, hl, hxl, hall⟩ := DataW.trod_array ht h
  have hxs : xs.map (·.1) = zs.map fun z => (DataW.lit (.string z) : DataW H) := by
    have := congrArg Prod.fst hx
    simpa using this.symm
  have hzl : zs.length = n := by
    have := congrArg List.length hxs
    simp at this
    omega
  apply List.ext_getElem?
  intro i
  by_cases hi : i < n
  · have h1 := hall i hi
    obtain ⟨b, hb⟩ : ∃ b, xs[i]? = some b := ⟨xs[i]'(by omega), List.getElem?_eq_getElem (by omega)⟩
    rw [hb, hce, Nat.mul_one] at h1
    obtain ⟨s, hcz, rfl, _⟩ := DataW.trod_string he h1
    have h2 : cs[i]? = some (.string s) := by
      have := congrArg (·[0]?) hcz
      simpa [List.getElem?_take, List.getElem?_drop] using this
    have h3 : (xs.map (·.1))[i]? = some (DataW.lit (.string s.data.toList) : DataW H) := by simp [hb]
    rw [hxs] at h3
    simp only [List.getElem?_map, Option.map_eq_some_iff, DataW.lit.injEq, Lit.string.injEq] at h3
    obtain ⟨z', hz', rfl⟩ := h3
    simp [h2, hz']
  · rw [List.getElem?_eq_none (by omega), List.getElem?_eq_none (by simp; omega)]

theorem strs_of_reads {P : Program} {w : World} {name : String} {zs : List (List UInt8)} {g : Nat} {t e : TypeId} {n : Nat}
    (hg : P.globalNamed name = some g) (hty : (P.globals[g]?).map (·.type) = some t) (ht : P.underlying t = some (.array n e)) (he : P.underlying e = some .string) (hce : P.cellsOf e = 1) (hct : P.cellsOf t = n)
    (h : Lib.VarReads P w name (.agg (zs.map fun z => .lit (.string z)))) : w.var? P name = some (zs.map fun z => Value.string ⟨z.toArray⟩).toArray := by
  obtain ⟨g', t', cs, fuel, p, hg', ht', hvar, hd⟩ := h
  obtain rfl := Option.some.inj (hg.symm.trans hg')
  obtain rfl := Option.some.inj (hty.symm.trans ht')
  rw [hvar, ← strs_of_tab ht he hce hct hd]

theorem okPow {w : World} (h : Lib.VarReads Tryd.prog w "internal/strconv.uint64pow10" Rows.laid_internal_strconv_uint64pow10) : Lib.TabIs Tryd.prog w "internal/strconv.uint64pow10" .u64 Lib.pow10Tab :=
  tab_of_reads gPow (t := 98) (e := 22) (n := 20) (by kernel_rfl) (by kernel_rfl) (by kernel_rfl) (by kernel_rfl) (by kernel_rfl) h
theorem okWords {w : World} (h : Lib.VarReads Tryd.prog w "shale/audit.words" Rows.laid_shale_audit_words) : w.var? Tryd.prog "shale/audit.words" = some auditWords :=
  strs_of_reads gWords (t := 73) (e := 9) (n := 10) (zs := wordsL) (by kernel_rfl) (by kernel_rfl) (by kernel_rfl) (by kernel_rfl) (by kernel_rfl) h

section
variable {H : Type} {enc : TypeId × Value → H} {w : World} {base : Nat} {sp : Nat → Bool} {held : Bool}

set_option maxRecDepth 100000 in
theorem open_fnd {fuel : Nat} {cs : List Value} {x : DataW H × List MemPlace} (h : DataW.trod enc Tryd.prog w base sp held fuel 29 cs = some x) :
    ∃ f : Fnd, f.wf ∧ cs = fcells f ∧ x = (.agg [.lit (.int .i64 f.k), .agg [.lit (.int .i64 f.b), .lit (.int .i64 f.p)], .lit (.int .i64 f.o)], []) := by
  have hc1 : Tryd.prog.cellsOf 3 = 1 := by kernel_rfl
  have hc2 : Tryd.prog.cellsOf 27 = 2 := by kernel_rfl
  have hc4 : Tryd.prog.cellsOf 29 = 4 := by kernel_rfl
  obtain ⟨xs, n, rfl, rfl, hl, hx, hf⟩ := DataW.trod_struct Tryd.underlying29 h
  rw [hc4] at hl
  match xs, hx, cs, hl with
  | [x0, x1, x2], _, [c0, c1, c2, c3], _ =>
    have h0 := hf 0 _ rfl
    have h1 := hf 1 _ rfl
    have h2 := hf 2 _ rfl
    simp [hc1, hc2] at h0 h1 h2
    obtain ⟨k, e0, rfl, w0⟩ := DataW.trod_int Tryd.underlying3 h0
    obtain ⟨o, e2, rfl, w2⟩ := DataW.trod_int Tryd.underlying3 h2
    obtain ⟨ys, m, _, rfl, hl1, hy, hg⟩ := DataW.trod_struct Tryd.underlying27 h1
    match ys, hy with
    | [y0, y1], _ =>
      have g0 := hg 0 _ rfl
      have g1 := hg 1 _ rfl
      simp [hc1] at g0 g1
      obtain ⟨b, e3, rfl, w3⟩ := DataW.trod_int Tryd.underlying3 g0
      obtain ⟨p, e4, rfl, w4⟩ := DataW.trod_int Tryd.underlying3 g1
      simp at e0 e2 e3 e4
      subst e0 e2 e3 e4
      exact ⟨⟨k, b, p, o⟩, ⟨bounds_i64 w0, bounds_i64 w3, bounds_i64 w4, bounds_i64 w2⟩, rfl, by simp⟩

/-- a report's slice as the reading gives it -/
def SliceOk (w : World) (fs : List Fnd) : Option Addr → Nat → Prop
  | none, c => fs = [] ∧ c = 0
  | some ad, c => FRow w (some ad) fs ∧ (∀ j u, (frow fs)[j]? = some u → w.cell? (ad.add j) = some u) ∧ fs.length ≤ c

theorem open_fnds {fuel : Nat} {cs : List Value} {x : DataW H × List MemPlace} (h : DataW.trod enc Tryd.prog w base sp held fuel 23 cs = some x) :
    ∃ (fs : List Fnd) (a : Option Addr) (c : Nat), (∀ f ∈ fs, f.wf) ∧ cs = [.slice a fs.length c] ∧ SliceOk w fs a c ∧ (x.1 = .nil ∧ fs = [] ∨ ∃ es sp', x.1 = .slice es sp' ∧ es.length = fs.length) := by
  have hc4 : Tryd.prog.cellsOf 29 = 4 := by kernel_rfl
  rcases Deep.open_slice Tryd.underlying23 h with ⟨rfl, rfl⟩ | ⟨ad, len, cap, m, n, D, Pl, rfl, hb, hl, hm, hmm, rfl, hx⟩
  · exact ⟨[], none, 0, by simp, rfl, ⟨rfl, rfl⟩, .inl ⟨rfl, rfl⟩⟩
  rw [hc4] at hx
  have hle : len ≤ m := by rw [hmm]; split <;> omega
  have key : ∀ i, i < len → ∃ f : Fnd, f.wf ∧ w.cells? base (ad.add (i * 4)) 4 = some (fcells f) := fun i hi => by
    obtain ⟨cs', h1, h2⟩ := hx i (by omega)
    obtain ⟨f, hf, rfl, _⟩ := open_fnd h2
    exact ⟨f, hf, h1⟩
  clear hx
  obtain ⟨F, hF⟩ := Deep.choose_lt (α := Fnd) (p := fun i f => f.wf ∧ w.cells? base (ad.add (i * 4)) 4 = some (fcells f)) key
  refine ⟨(List.range len).map F, some ad, cap, ?_, by simp, ?_, .inr ⟨_, _, rfl, by simp⟩⟩
  · intro f hf
    obtain ⟨i, hi, rfl⟩ := List.mem_map.1 hf
    exact (hF i (by simpa using hi)).1
  have cellsF : ∀ i, i < len → ∀ j, j < 4 → w.cell? (ad.add (i * 4 + j)) = (fcells (F i))[j]? := fun i hi j hj => by
    have := (World.cells?_some (hF i hi).2).2.2 j hj
    rwa [Deep.add_add] at this
  have all : ∀ j u, (frow ((List.range len).map F))[j]? = some u → w.cell? (ad.add j) = some u := fun j u hj => by
    have hlt : j < ((List.range len).map F).length * 4 := by rw [← frow_length]; exact (List.getElem?_eq_some_iff.1 hj).1
    simp at hlt
    have h1 := frow_get ((List.range len).map F) (j / 4) (j % 4) (F (j / 4)) (by simp [show j / 4 < len by omega]) (by omega)
    rw [show j / 4 * 4 + j % 4 = j by omega, hj] at h1
    rw [h1, ← cellsF (j / 4) (by omega) (j % 4) (by omega), show j / 4 * 4 + j % 4 = j by omega]
  refine ⟨?_, all, by simpa using hl⟩
  cases len with
  | zero => exact .inl rfl
  | succ len =>
    right
    obtain ⟨b, o, spot⟩ := ad
    have h0 := cellsF 0 (by omega) 0 (by omega)
    have hspot : spot = none := by simpa [Addr.add] using World.cell?_spot h0
    subst hspot
    refine ⟨b, o, rfl, World.block_lt_of_cell? w _ (by simpa [fcells] using h0), fun i f hi => ?_⟩
    have hi' : i < len + 1 := by have := (List.getElem?_eq_some_iff.1 hi).1; simpa using this
    obtain rfl : F i = f := by simpa [hi'] using hi
    have a0 := cellsF i hi' 0 (by omega)
    have a1 := cellsF i hi' 1 (by omega)
    have a2 := cellsF i hi' 2 (by omega)
    have a3 := cellsF i hi' 3 (by omega)
    rw [Lib.add_plain] at a0 a1 a2 a3
    exact ⟨a0, by rw [Nat.add_assoc]; exact a1, by rw [Nat.add_assoc]; exact a2, by rw [Nat.add_assoc]; exact a3⟩

set_option maxRecDepth 100000 in
theorem open_rep {base' : Nat} {v : Value} {d : DataW H} {ps : List MemPlace} (hval : Value.okWide Tryd.prog w .any base' 25 v) (h : DataW.Trod enc Tryd.prog w base sp held 25 v d ps) :
    ∃ (r : Rep) (a : Option Addr) (c : Nat), r.wf ∧ v = repV r a c ∧ SliceOk w r.fs a c ∧ r.fs.length ≤ Rows.uptoBulk d := by
  have hc1 : Tryd.prog.cellsOf 3 = 1 := by kernel_rfl
  have hcu : Tryd.prog.cellsOf 22 = 1 := by kernel_rfl
  have hcb : Tryd.prog.cellsOf 4 = 1 := by kernel_rfl
  have hcs : Tryd.prog.cellsOf 23 = 1 := by kernel_rfl
  have hc7 : Tryd.prog.cellsOf 25 = 7 := by kernel_rfl
  obtain ⟨cs, rfl, hsz⟩ := okWide_struct Tryd.underlying25 hval
  obtain ⟨fuel, h⟩ := h
  obtain ⟨xs, n, rfl, hd, hl, hx, hf⟩ := DataW.trod_struct Tryd.underlying25 h
  obtain ⟨cs⟩ := cs
  simp only [Value.cells] at hl hf
  rw [hc7] at hl
  match xs, hx, cs, hl with
  | [x0, x1, x2, x3, x4, x5, x6], _, [c0, c1, c2, c3, c4, c5, c6], _ =>
    have h0 := hf 0 _ rfl
    have h1 := hf 1 _ rfl
    have h2 := hf 2 _ rfl
    have h3 := hf 3 _ rfl
    have h4 := hf 4 _ rfl
    have h5 := hf 5 _ rfl
    have h6 := hf 6 _ rfl
    simp [hc1, hcu, hcb, hcs] at h0 h1 h2 h3 h4 h5 h6
    obtain ⟨fl, e0, rfl, w0⟩ := DataW.trod_int Tryd.underlying22 h0
    obtain ⟨ct, e1, rfl, w1⟩ := DataW.trod_int Tryd.underlying3 h1
    obtain ⟨lv, e2, rfl, w2⟩ := DataW.trod_int Tryd.underlying3 h2
    obtain ⟨us, e3, rfl, w3⟩ := DataW.trod_int Tryd.underlying3 h3
    obtain ⟨bd, e4, rfl, w4⟩ := DataW.trod_int Tryd.underlying3 h4
    obtain ⟨sv, e5, rfl⟩ := DataW.trod_bool Tryd.underlying4 h5
    obtain ⟨fs, a, c, hwf, e6, hs, hlen⟩ := open_fnds h6
    simp at e0 e1 e2 e3 e4 e5 e6
    subst e0 e1 e2 e3 e4 e5 e6
    refine ⟨⟨fl, ct, lv, us, bd, sv, fs⟩, a, c, ⟨bounds_u64 w0, bounds_i64 w1, bounds_i64 w2, bounds_i64 w3, bounds_i64 w4, hwf⟩, rfl, hs, ?_⟩
    have hd1 := congrArg Prod.fst hd
    simp at hd1
    subst hd1
    rcases hlen with ⟨_, rfl⟩ | ⟨es, sp', hx6, hlen⟩
    · simp
    · simp only [hx6, Rows.uptoBulk, Rows.uptoBulkAll]
      have : es.length ≤ Rows.uptoBulkAll es := by
        clear hlen hx6
        induction es with
        | nil => simp [Rows.uptoBulkAll]
        | cons x r ih =>
          have h1 : 1 ≤ Rows.uptoBulk x := by cases x with
            | lit l => cases l <;> simp [Rows.uptoBulk]
            | _ => simp [Rows.uptoBulk]
          simp only [Rows.uptoBulkAll, List.length_cons]; omega
      omega
end
end Go.Proofs.YtioapjnaopnhaaaDoor
