/- PointPacks: for every state whose bulk is at most 1048576 the law returns true. The row and its card. -/
import Derived.Below
import Derived.OpenShut
import Derived.Deep.DeepHandedRow
import Derived.ProofKit
import Derived.Test.YtefkklgelmbaiaaDoorMCopy
import Derived.Test.YtefkklgelmbaiaaDoorCards
import Derived.Test.YtefkklgelmbaiaaDoorTie
import Derived.WideShapes
import Derived.Lib.LaidU8
import Derived.Deep.Slices
/- No conditions: what every row of this kind needs: the post by 'Below' alone (the law returns one value, leaves its arguments and makes new blocks). -/
namespace Go.Proofs.YtefkklgelmbaiaaDoor
open Go.ChangeShapes Go.WideShapes Go.RowKit

section
variable {H : Type} {enc : TypeId × Value → H} {P : Program}

theorem post_of_below {f : Func} {s : ChangeSpec} {apart fresh handsOn again : Bool} {W W' : World} {args : Array Value} {v : Value} {ds gs : List (DataW H)} {before pa pv : List MemPlace}
    (hW : DataW.Whole enc P f.params.toList s.vars apart W args.toList ds gs before)
    (hres : ∀ (b : Nat) (sp : Nat → Bool) (hd : Bool), DataW.TrodAll enc P W' b sp hd f.resultTypes.toList (v.resultList f.resultTypes.size) (s.fn H (ds ++ gs)).results [])
    (hargs : ∀ sp : Nat → Bool, (∀ p ∈ before, sp p.block = true) → DataW.TrodAll enc P W' 0 sp true f.params.toList args.toList (s.fn H (ds ++ gs)).args pa)
    (hvars : ∀ sp : Nat → Bool, (∀ p ∈ before, sp p.block = true) → DataW.TrodVars enc P W' sp s.vars (s.fn H (ds ++ gs)).vars pv)
    (hps : before = pa ++ pv) (hB : Below W.heap.size W W')
    (hok : ∀ (j : Nat) (t : TypeId) (r : Value), f.resultTypes[j]? = some t → (v.resultList f.resultTypes.size)[j]? = some r → Value.okWide P W' .any 0 t r) :
    s.post enc P f apart fresh handsOn again W args v W' := by
  have hold : ∀ p ∈ before, (fun b => decide (b < W.heap.size)) p.block = true := fun p hp => by simpa using hW.lt p hp
  have hlt : ∀ p ∈ before, p.block < W.heap.size := fun p hp => by simpa using hW.lt p hp
  refine ⟨ds, gs, before, [], pa, pv, hW, hres _ _ _, hargs _ hold, hvars _ hold, hB.frame _, fun _ => ?_⟩
  obtain ⟨_, _, _, _, _, hz, hn⟩ := hW
  refine ⟨hok, _, _, ([] ++ pa) ++ pv, ⟨[] ++ pa, pv, trodAll_append (hargs _ (fun _ _ => rfl)) (hres _ _ _), hvars _ (fun _ _ => rfl), rfl, ?_, ?_⟩, ?_⟩
  · intro b off hp
    have hm : MemPlace.cell b off ∈ before := by rw [hps]; simpa using hp
    rw [hB.frozen (p := ⟨b, off, none⟩) (hlt _ hm)]
    exact hz b off hm
  · intro ha
    have := hn ha
    rw [hps] at this
    simpa using this
  · intro p hp _
    rw [hps]
    simpa using hp

/-- the arguments read as they did -/
theorem trodAll_below (hl : laidOutB P = true) {W W' : World} (hB : Below W.heap.size W W') {sp : Nat → Bool} : ∀ {ts : List TypeId} {vs : List Value} {ds : List (DataW H)} {ps : List MemPlace},
    (∀ t ∈ ts, P.readableRec t = true ∧ t < P.types.size) → DataW.TrodAll enc P W 0 (fun _ => true) true ts vs ds ps → (∀ p ∈ ps, p.block < W.heap.size) → (∀ p ∈ ps, sp p.block = true) →
    DataW.TrodAll enc P W' 0 sp true ts vs ds ps
  | [], _, _, _, _, h, _, _ => by
    obtain ⟨rfl, rfl, rfl⟩ := trodAll_nil h
    exact trodAll_mk0
  | t :: ts, _, _, _, hr, h, hlt, hs => by
    obtain ⟨v, vs1, d, ds1, a, b, rfl, rfl, rfl, h1, h2⟩ := trodAll_cons h
    obtain ⟨hr1, hr2⟩ := hr t List.mem_cons_self
    exact trodAll_cons_mk (WideElems.Trod_stays hl hr1 hr2 h1 (fun p hp => hB.same (hlt p (List.mem_append_left _ hp))) (fun p hp => hs p (List.mem_append_left _ hp)))
      (trodAll_below hl hB (fun t ht => hr t (List.mem_cons_of_mem _ ht)) h2 (fun p hp => hlt p (List.mem_append_right _ hp)) (fun p hp => hs p (List.mem_append_right _ hp)))
end
end Go.Proofs.YtefkklgelmbaiaaDoor
/- From the row's premises to the walk's: the listed tables, and a state as argument. -/
set_option linter.unusedSimpArgs false
set_option linter.unusedVariables false
namespace Go.Proofs.YtefkklgelmbaiaaDoor
open Go.ChangeShapes Go.WideShapes Go.ChangeAt Go.RowKit

/-! ### Bulk -/
section
variable {H : Type}
theorem bulk_pos (x : DataW H) : 1 ≤ Rows.uptoBulk x := by
  cases x with
  | lit l => cases l <;> simp [Rows.uptoBulk]
  | _ => simp [Rows.uptoBulk]
theorem bulk_len (es : List (DataW H)) : es.length ≤ Rows.uptoBulkAll es := by
  induction es with
  | nil => simp [Rows.uptoBulkAll]
  | cons x r ih => have := bulk_pos x; simp only [Rows.uptoBulkAll, List.length_cons]; omega
theorem bulk_get {es : List (DataW H)} {i : Nat} {e : DataW H} (h : es[i]? = some e) : Rows.uptoBulk e ≤ Rows.uptoBulkAll es := by
  induction es generalizing i with
  | nil => simp at h
  | cons x r ih =>
    cases i with
    | zero => simp at h; subst h; simp only [Rows.uptoBulkAll]; omega
    | succ i => have := ih (by simpa using h); simp only [Rows.uptoBulkAll]; omega
end

section
variable {H : Type} {enc : TypeId × Value → H} {w : World} {base : Nat} {sp : Nat → Bool} {held : Bool}

/-- a slice of structs of k cells -/
theorem open_rows {α : Type} [Inhabited α] {Ts e : TypeId} {k : Nat} (f : α → List Value) (hf : ∀ a, (f a).length = k) (hk : 0 < k) (ht : Tryd.prog.underlying Ts = some (.slice e)) (hc : Tryd.prog.cellsOf e = k) (Q : α → DataW H → Prop)
    (hopen : ∀ {fuel : Nat} {cs : List Value} {x : DataW H × List MemPlace}, DataW.trod enc Tryd.prog w base sp held fuel e cs = some x → ∃ a, Q a x.1 ∧ cs = f a)
    {fuel : Nat} {cs : List Value} {x : DataW H × List MemPlace} (h : DataW.trod enc Tryd.prog w base sp held fuel Ts cs = some x) :
    ∃ (l : List α) (A : Option Addr) (c : Nat), cs = [.slice A l.length c] ∧ Row w A k (l.map f) ∧ l.length ≤ c ∧ (A = none → c = 0) ∧ l.length ≤ Rows.uptoBulk x.1 ∧ ∀ a ∈ l, ∃ d, Q a d ∧ Rows.uptoBulk d ≤ Rows.uptoBulk x.1 := by
  rcases Deep.open_slice ht h with ⟨rfl, rfl⟩ | ⟨ad, len, cap, m, n, D, Pl, rfl, hb, hl, hm, hmm, rfl, hx⟩
  · exact ⟨[], none, 0, rfl, .inl rfl, Nat.le_refl _, fun _ => rfl, by simp, fun a ha => by cases ha⟩
  rw [hc] at hx
  have hle : len ≤ m := by rw [hmm]; split <;> omega
  have key : ∀ i, i < len → ∃ a : α, Q a (D i) ∧ w.cells? base (ad.add (i * k)) k = some (f a) := fun i hi => by
    obtain ⟨cs', h1, h2⟩ := hx i (by omega)
    obtain ⟨a, ha, rfl⟩ := hopen h2
    exact ⟨a, ha, h1⟩
  clear hx
  obtain ⟨F, hF⟩ := Deep.choose_lt (α := α) (p := fun i a => Q a (D i) ∧ w.cells? base (ad.add (i * k)) k = some (f a)) key
  have hbulk : Rows.uptoBulkAll ((List.range len).map D) ≤ Rows.uptoBulk (DataW.slice ((List.range len).map D) ((List.range (m - len)).map fun j => D (len + j))) := by
    simp only [Rows.uptoBulk]; omega
  refine ⟨(List.range len).map F, some ad, cap, by simp, ?_, by simpa using hl, (fun e => by cases e), ?_, ?_⟩
  · cases len with
    | zero => exact .inl rfl
    | succ len =>
      right
      have cellsF : ∀ i, i < len + 1 → ∀ j, j < k → w.cell? (ad.add (i * k + j)) = (f (F i))[j]? := fun i hi j hj => by
        have := (World.cells?_some (hF i hi).2).2.2 j hj
        rwa [Deep.add_add] at this
      obtain ⟨b, o, spot⟩ := ad
      have h0 := cellsF 0 (by omega) 0 hk
      obtain ⟨v0, hv0⟩ : ∃ v, (f (F 0))[0]? = some v := ⟨_, List.getElem?_eq_getElem (by rw [hf]; exact hk)⟩
      rw [hv0] at h0
      have hspot : spot = none := by simpa [Addr.add] using World.cell?_spot h0
      subst hspot
      refine ⟨b, o, rfl, by simpa [Addr.add] using World.block_lt_of_cell? w _ h0, fun i c hi j v hj hv => ?_⟩
      have hi' : i < len + 1 := by have := (List.getElem?_eq_some_iff.1 hi).1; simpa using this
      have hce : c = f (F i) := by
        simp only [List.getElem?_map, List.getElem?_range hi', Option.map_some, Option.some.injEq] at hi
        exact hi.symm
      subst hce
      have := cellsF i hi' j hj
      rw [Lib.add_plain, hv] at this
      rw [Nat.add_assoc]; exact this
  · have := bulk_len ((List.range len).map D)
    simp only [List.length_map, List.length_range] at this ⊢
    omega
  · intro a ha
    obtain ⟨i, hi, rfl⟩ := List.mem_map.1 ha
    have hi' : i < len := by simpa using hi
    refine ⟨D i, (hF i hi').1, ?_⟩
    exact Nat.le_trans (bulk_get (es := (List.range len).map D) (i := i) (e := D i) (by simp [hi'])) hbulk

set_option maxRecDepth 100000 in
theorem open_blk {fuel : Nat} {cs : List Value} {x : DataW H × List MemPlace} (h : DataW.trod enc Tryd.prog w base sp held fuel 45 cs = some x) : ∃ b : Blk, b.wf ∧ cs = bcells b := by
  have hc1 : Tryd.prog.cellsOf 3 = 1 := by kernel_rfl
  have hcu : Tryd.prog.cellsOf 22 = 1 := by kernel_rfl
  have hcb : Tryd.prog.cellsOf 4 = 1 := by kernel_rfl
  have hc4 : Tryd.prog.cellsOf 45 = 4 := by kernel_rfl
  obtain ⟨xs, n, rfl, rfl, hl, hx, hf⟩ := DataW.trod_struct Tryd.underlying45 h
  rw [hc4] at hl
  match xs, hx, cs, hl with
  | [x0, x1, x2, x3], _, [c0, c1, c2, c3], _ =>
    have h0 := hf 0 _ rfl
    have h1 := hf 1 _ rfl
    have h2 := hf 2 _ rfl
    have h3 := hf 3 _ rfl
    simp [hc1, hcu, hcb] at h0 h1 h2 h3
    obtain ⟨a, e0, rfl, w0⟩ := DataW.trod_int Tryd.underlying3 h0
    obtain ⟨b, e1, rfl, w1⟩ := DataW.trod_int Tryd.underlying22 h1
    obtain ⟨c, e2, rfl⟩ := DataW.trod_bool Tryd.underlying4 h2
    obtain ⟨d, e3, rfl, w3⟩ := DataW.trod_int Tryd.underlying3 h3
    simp at e0 e1 e2 e3
    subst e0 e1 e2 e3
    exact ⟨⟨a, b, c, d⟩, ⟨bounds_i64 w0, bounds_u64 w1, bounds_i64 w3⟩, rfl⟩
set_option maxRecDepth 100000 in
theorem open_place {fuel : Nat} {cs : List Value} {x : DataW H × List MemPlace} (h : DataW.trod enc Tryd.prog w base sp held fuel 50 cs = some x) : ∃ b p : Int, I64 b ∧ I64 p ∧ cs = [.int .i64 b, .int .i64 p] := by
  have hc1 : Tryd.prog.cellsOf 3 = 1 := by kernel_rfl
  have hc2 : Tryd.prog.cellsOf 50 = 2 := by kernel_rfl
  obtain ⟨xs, n, rfl, rfl, hl, hx, hf⟩ := DataW.trod_struct Tryd.underlying50 h
  rw [hc2] at hl
  match xs, hx, cs, hl with
  | [x0, x1], _, [c0, c1], _ =>
    have h0 := hf 0 _ rfl
    have h1 := hf 1 _ rfl
    simp [hc1] at h0 h1
    obtain ⟨a, e0, rfl, w0⟩ := DataW.trod_int Tryd.underlying3 h0
    obtain ⟨b, e1, rfl, w1⟩ := DataW.trod_int Tryd.underlying3 h1
    simp at e0 e1
    subst e0 e1
    exact ⟨a, b, bounds_i64 w0, bounds_i64 w1, rfl⟩
set_option maxRecDepth 100000 in
theorem open_piece {fuel : Nat} {cs : List Value} {x : DataW H × List MemPlace} (h : DataW.trod enc Tryd.prog w base sp held fuel 57 cs = some x) : ∃ b p n : Int, I64 b ∧ I64 p ∧ I64 n ∧ cs = [.int .i64 b, .int .i64 p, .int .i64 n] := by
  have hc1 : Tryd.prog.cellsOf 3 = 1 := by kernel_rfl
  have hc2 : Tryd.prog.cellsOf 50 = 2 := by kernel_rfl
  have hc3 : Tryd.prog.cellsOf 57 = 3 := by kernel_rfl
  obtain ⟨xs, n, rfl, rfl, hl, hx, hf⟩ := DataW.trod_struct Tryd.underlying57 h
  rw [hc3] at hl
  match xs, hx, cs, hl with
  | [x0, x1], _, [c0, c1, c2], _ =>
    have h0 := hf 0 _ rfl
    have h1 := hf 1 _ rfl
    simp [hc1, hc2] at h0 h1
    obtain ⟨b, p, wb, wp, e0⟩ := open_place h0
    obtain ⟨c, e1, rfl, w1⟩ := DataW.trod_int Tryd.underlying3 h1
    simp at e0 e1
    obtain ⟨e0, e2⟩ := e0
    subst e0 e1 e2
    exact ⟨b, p, c, wb, wp, bounds_i64 w1, rfl⟩
set_option maxRecDepth 100000 in
theorem open_chk {fuel : Nat} {cs : List Value} {x : DataW H × List MemPlace} (h : DataW.trod enc Tryd.prog w base sp held fuel 59 cs = some x) : ∃ c : Chk, c.wf ∧ cs = ccells c := by
  have hc1 : Tryd.prog.cellsOf 3 = 1 := by kernel_rfl
  have hc3 : Tryd.prog.cellsOf 57 = 3 := by kernel_rfl
  have hc4 : Tryd.prog.cellsOf 59 = 4 := by kernel_rfl
  obtain ⟨xs, n, rfl, rfl, hl, hx, hf⟩ := DataW.trod_struct Tryd.underlying59 h
  rw [hc4] at hl
  match xs, hx, cs, hl with
  | [x0, x1], _, [c0, c1, c2, c3], _ =>
    have h0 := hf 0 _ rfl
    have h1 := hf 1 _ rfl
    simp [hc1, hc3] at h0 h1
    obtain ⟨a, e0, rfl, w0⟩ := DataW.trod_int Tryd.underlying3 h0
    obtain ⟨b, p, n, wb, wp, wn, e1⟩ := open_piece h1
    simp at e0 e1
    obtain ⟨e1, e2, e3⟩ := e1
    subst e0 e1 e2 e3
    exact ⟨⟨a, b, p, n⟩, ⟨bounds_i64 w0, wb, wp, wn⟩, rfl⟩
set_option maxRecDepth 100000 in
theorem open_nod {fuel : Nat} {cs : List Value} {x : DataW H × List MemPlace} (h : DataW.trod enc Tryd.prog w base sp held fuel 48 cs = some x) :
    ∃ n : Nod, (I64 n.ty ∧ I64 n.par ∧ I64 n.size ∧ I64 n.mode ∧ U64 n.stamp ∧ I64 n.shadow) ∧ cs = ncells n ∧ n.name.size ≤ Rows.uptoBulk x.1 ∧ n.tgt.size ≤ Rows.uptoBulk x.1 := by
  have hc1 : Tryd.prog.cellsOf 3 = 1 := by kernel_rfl
  have hcu : Tryd.prog.cellsOf 22 = 1 := by kernel_rfl
  have hcs : Tryd.prog.cellsOf 9 = 1 := by kernel_rfl
  have hc8 : Tryd.prog.cellsOf 48 = 8 := by kernel_rfl
  obtain ⟨xs, n, rfl, rfl, hl, hx, hf⟩ := DataW.trod_struct Tryd.underlying48 h
  rw [hc8] at hl
  match xs, hx, cs, hl with
  | [x0, x1, x2, x3, x4, x5, x6, x7], _, [c0, c1, c2, c3, c4, c5, c6, c7], _ =>
    have h0 := hf 0 _ rfl
    have h1 := hf 1 _ rfl
    have h2 := hf 2 _ rfl
    have h3 := hf 3 _ rfl
    have h4 := hf 4 _ rfl
    have h5 := hf 5 _ rfl
    have h6 := hf 6 _ rfl
    have h7 := hf 7 _ rfl
    simp [hc1, hcu, hcs] at h0 h1 h2 h3 h4 h5 h6 h7
    obtain ⟨a, e0, rfl, w0⟩ := DataW.trod_int Tryd.underlying3 h0
    obtain ⟨b, e1, rfl, w1⟩ := DataW.trod_int Tryd.underlying3 h1
    obtain ⟨nm, e2, rfl, _⟩ := DataW.trod_string Tryd.underlying9 h2
    obtain ⟨d, e3, rfl, w3⟩ := DataW.trod_int Tryd.underlying3 h3
    obtain ⟨e, e4, rfl, w4⟩ := DataW.trod_int Tryd.underlying3 h4
    obtain ⟨f, e5, rfl, w5⟩ := DataW.trod_int Tryd.underlying22 h5
    obtain ⟨g, e6, rfl, w6⟩ := DataW.trod_int Tryd.underlying3 h6
    obtain ⟨tg, e7, rfl, _⟩ := DataW.trod_string Tryd.underlying9 h7
    simp at e0 e1 e2 e3 e4 e5 e6 e7
    subst e0 e1 e2 e3 e4 e5 e6 e7
    refine ⟨⟨a, b, nm, d, e, f, g, tg⟩, ⟨bounds_i64 w0, bounds_i64 w1, bounds_i64 w3, bounds_i64 w4, bounds_u64 w5, bounds_i64 w6⟩, rfl, ?_, ?_⟩
    · simp only [List.map_cons, Rows.uptoBulk, Rows.uptoBulkAll, Array.length_toList, ByteArray.size]; omega
    · simp only [List.map_cons, Rows.uptoBulk, Rows.uptoBulkAll, Array.length_toList, ByteArray.size]; omega

abbrev ObX := Obj' × Option Addr × Nat
def ObXok (w : World) (x : ObX) (d : DataW H) : Prop :=
  I64 x.1.id ∧ (I64 x.1.nd.ty ∧ I64 x.1.nd.par ∧ I64 x.1.nd.size ∧ I64 x.1.nd.mode ∧ U64 x.1.nd.stamp ∧ I64 x.1.nd.shadow) ∧ I64 x.1.pb ∧ I64 x.1.pp ∧ (∀ c ∈ x.1.cs, c.wf) ∧
  x.1.nd.name.size ≤ Rows.uptoBulk d ∧ x.1.nd.tgt.size ≤ Rows.uptoBulk d ∧ x.1.cs.length ≤ Rows.uptoBulk d ∧ CRow w x.2.1 x.1.cs ∧ x.1.cs.length ≤ x.2.2 ∧ (x.2.1 = none → x.2.2 = 0)
set_option maxRecDepth 100000 in
theorem open_obj {fuel : Nat} {cs : List Value} {x : DataW H × List MemPlace} (h : DataW.trod enc Tryd.prog w base sp held fuel 53 cs = some x) : ∃ y : ObX, ObXok w y x.1 ∧ cs = ocells y.1 y.2.1 y.2.2 := by
  have hc1 : Tryd.prog.cellsOf 3 = 1 := by kernel_rfl
  have hcb : Tryd.prog.cellsOf 4 = 1 := by kernel_rfl
  have hc2 : Tryd.prog.cellsOf 50 = 2 := by kernel_rfl
  have hc8 : Tryd.prog.cellsOf 48 = 8 := by kernel_rfl
  have hcs : Tryd.prog.cellsOf 51 = 1 := by kernel_rfl
  have hc4 : Tryd.prog.cellsOf 59 = 4 := by kernel_rfl
  have hc13 : Tryd.prog.cellsOf 53 = 13 := by kernel_rfl
  obtain ⟨xs, n, rfl, rfl, hl, hx, hf⟩ := DataW.trod_struct Tryd.underlying53 h
  rw [hc13] at hl
  match xs, hx, cs, hl with
  | [x0, x1, x2, x3, x4], _, [c0, c1, c2, c3, c4, c5, c6, c7, c8, c9, c10, c11, c12], _ =>
    have h0 := hf 0 _ rfl
    have h1 := hf 1 _ rfl
    have h2 := hf 2 _ rfl
    have h3 := hf 3 _ rfl
    have h4 := hf 4 _ rfl
    simp [hc1, hcb, hc2, hc8, hcs] at h0 h1 h2 h3 h4
    obtain ⟨id, e0, rfl, w0⟩ := DataW.trod_int Tryd.underlying3 h0
    obtain ⟨hd, e1, rfl⟩ := DataW.trod_bool Tryd.underlying4 h1
    obtain ⟨nd, hnd, e2, hn1, hn2⟩ := open_nod h2
    obtain ⟨b, p, wb, wp, e3⟩ := open_place h3
    obtain ⟨l, A, c, e4, hR, hlc, hA, hlen, hwf⟩ := open_rows ccells (fun _ => rfl) (by decide) Tryd.underlying51 hc4 (fun c _ => c.wf) (fun h => open_chk h) h4
    unfold ncells at e2
    simp at e0 e1 e2 e3 e4
    obtain ⟨e2, e5, e6, e7, e8, e9, e10, e11⟩ := e2
    obtain ⟨e3, e12⟩ := e3
    subst e0 e1 e2 e3 e4 e5 e6 e7 e8 e9 e10 e11 e12
    refine ⟨(⟨id, hd, nd, b, p, l⟩, A, c), ⟨bounds_i64 w0, hnd, wb, wp, fun c hc => (hwf c hc).choose_spec.1, ?_, ?_, ?_, hR, hlc, hA⟩, rfl⟩
    · simp only [List.map_cons, Rows.uptoBulk, Rows.uptoBulkAll]; omega
    · simp only [List.map_cons, Rows.uptoBulk, Rows.uptoBulkAll]; omega
    · simp only [List.map_cons, Rows.uptoBulk, Rows.uptoBulkAll]; omega

def stV (s : St) (A1 : Option Addr) (c1 : Nat) (A2 : Option Addr) (c2 : Nat) : Value := .agg #[.int .u64 s.floor, .int .u64 s.next, .int .i64 s.cur, .int .i64 s.last, .slice A1 s.bs.length c1, .slice A2 s.os.length c2]
set_option maxRecDepth 100000 in
theorem open_state {base' : Nat} {v : Value} {d : DataW H} {ps : List MemPlace} (hval : Value.okWide Tryd.prog w .any base' 26 v) (h : DataW.Trod enc Tryd.prog w base sp held 26 v d ps) (hb : Rows.uptoBulk d ≤ 1048576) :
    ∃ (s : St) (A1 : Option Addr) (c1 : Nat) (A2 : Option Addr) (c2 : Nat) (al : Al), v = stV s A1 c1 A2 c2 ∧ s.wf ∧ BRow w A1 s.bs ∧ ORow w A2 al s.os ∧ (∀ o ∈ s.os, o.nd.name.size ≤ 1048576 ∧ o.cs.length ≤ 1048576) ∧ s.os.length ≤ 1048576 ∧ (A1 = none → c1 = 0) ∧ (∀ i, i < s.os.length → (al i).1 = none → (al i).2 = 0) := by
  have hc1 : Tryd.prog.cellsOf 3 = 1 := by kernel_rfl
  have hcu : Tryd.prog.cellsOf 22 = 1 := by kernel_rfl
  have hcB : Tryd.prog.cellsOf 23 = 1 := by kernel_rfl
  have hcO : Tryd.prog.cellsOf 24 = 1 := by kernel_rfl
  have hc4 : Tryd.prog.cellsOf 45 = 4 := by kernel_rfl
  have hc13 : Tryd.prog.cellsOf 53 = 13 := by kernel_rfl
  have hc6 : Tryd.prog.cellsOf 26 = 6 := by kernel_rfl
  obtain ⟨cs, rfl, hsz⟩ := okWide_struct Tryd.underlying26 hval
  obtain ⟨fuel, h⟩ := h
  obtain ⟨xs, n, rfl, hd, hl, hx, hf⟩ := DataW.trod_struct Tryd.underlying26 h
  obtain ⟨cs⟩ := cs
  simp only [Value.cells] at hl hf
  rw [hc6] at hl
  match xs, hx, cs, hl with
  | [x0, x1, x2, x3, x4, x5], _, [c0, c1, c2, c3, c4, c5], _ =>
    have h0 := hf 0 _ rfl
    have h1 := hf 1 _ rfl
    have h2 := hf 2 _ rfl
    have h3 := hf 3 _ rfl
    have h4 := hf 4 _ rfl
    have h5 := hf 5 _ rfl
    simp [hc1, hcu, hcB, hcO] at h0 h1 h2 h3 h4 h5
    obtain ⟨fl, e0, rfl, w0⟩ := DataW.trod_int Tryd.underlying22 h0
    obtain ⟨nx, e1, rfl, w1⟩ := DataW.trod_int Tryd.underlying22 h1
    obtain ⟨cu, e2, rfl, w2⟩ := DataW.trod_int Tryd.underlying3 h2
    obtain ⟨la, e3, rfl, w3⟩ := DataW.trod_int Tryd.underlying3 h3
    obtain ⟨bs, A1, c1, e4, hR1, hl1, hA1, hb1, hwf1⟩ := open_rows bcells (fun _ => rfl) (by decide) Tryd.underlying23 hc4 (fun b _ => b.wf) (fun h => open_blk h) h4
    obtain ⟨os, A2, c2, e5, hR2, hl2, hA2, hb2, hwf2⟩ := open_rows (α := ObX) (fun y => ocells y.1 y.2.1 y.2.2) (fun _ => rfl) (by decide) Tryd.underlying24 hc13 (fun y d => ObXok w y d) (fun h => open_obj h) h5
    simp at e0 e1 e2 e3 e4 e5
    subst e0 e1 e2 e3 e4 e5
    have hd1 := congrArg Prod.fst hd
    simp at hd1
    subst hd1
    simp only [Rows.uptoBulk, Rows.uptoBulkAll] at hb
    have ha : ∀ (i : Nat) (o : Obj'), (os.map (·.1))[i]? = some o → ∃ y : ObX, y ∈ os ∧ os[i]? = some y ∧ y.1 = o := by
      intro i o hi
      rw [List.getElem?_map, Option.map_eq_some_iff] at hi
      obtain ⟨y, hy, rfl⟩ := hi
      exact ⟨y, List.mem_of_getElem? hy, hy, rfl⟩
    refine ⟨⟨fl, nx, cu, la, bs, os.map (·.1)⟩, A1, c1, A2, c2, fun i => (os.getD i default).2, by simp [stV], ⟨bounds_u64 w0, bounds_u64 w1, bounds_i64 w2, bounds_i64 w3, fun b hb => (hwf1 b hb).choose_spec.1, ?_, ?_, ?_⟩, hR1, ⟨?_, ?_⟩, ?_, ?_, hA1, ?_⟩
    · intro o ho
      obtain ⟨y, hy, rfl⟩ := List.mem_map.1 ho
      obtain ⟨d, ⟨k1, ⟨k2, k3, k4, k5, k6, k7⟩, k8, k9, k10, k11, k12, k13, _⟩, hle⟩ := hwf2 y hy
      exact ⟨k1, ⟨k2, k3, k4, k5, k6, k7, by omega, by omega⟩, k8, k9, k10, by omega⟩
    · show bs.length ≤ _
      omega
    · show (os.map (·.1)).length ≤ _
      simp only [List.length_map]; omega
    · rcases hR2 with h | ⟨g, o, e, hg, h⟩
      · left; simpa using h
      · right
        refine ⟨g, o, e, hg, fun i ob hi j v hj hv => ?_⟩
        obtain ⟨y, _, hy, rfl⟩ := ha i ob hi
        have hgd : os.getD i default = y := by simp [List.getD, hy]
        simp only [hgd] at hv
        exact h i (ocells y.1 y.2.1 y.2.2) (by simp [hy]) j v hj hv
    · intro i ob hi
      obtain ⟨y, hm, hy, rfl⟩ := ha i ob hi
      have hgd : os.getD i default = y := by simp [List.getD, hy]
      simp only [hgd]
      obtain ⟨d, ⟨_, _, _, _, _, _, _, _, k14, k15, _⟩, _⟩ := hwf2 y hm
      exact ⟨k14, k15⟩
    · intro o ho
      obtain ⟨y, hy, rfl⟩ := List.mem_map.1 ho
      obtain ⟨d, ⟨k1, _, k8, k9, k10, k11, k12, k13, _⟩, hle⟩ := hwf2 y hy
      exact ⟨by omega, by omega⟩
    · simp only [List.length_map]; omega
    · intro i hi
      simp only [List.length_map] at hi
      have hy : os[i]? = some os[i] := List.getElem?_eq_getElem hi
      have hgd : os.getD i default = os[i] := by simp [List.getD, hy]
      simp only [hgd]
      obtain ⟨d, ⟨_, _, _, _, _, _, _, _, _, _, k16⟩, _⟩ := hwf2 os[i] (List.getElem_mem hi)
      exact k16
end
end Go.Proofs.YtefkklgelmbaiaaDoor
set_option linter.unusedSimpArgs false
set_option linter.unusedVariables false
namespace Go.Proofs.YtefkklgelmbaiaaDoor.pointPacks
open Go.ChangeShapes Go.WideShapes Go.ChangeAt Go.RowKit

theorem own : ownKnob Tryd.prog.godebug = none := by kernel_rfl
theorem laidOut : laidOutB Tryd.prog = true := by kernel_rfl

set_option maxRecDepth 100000 in
theorem field_of_reads {w : World} {name : String} {g : Nat} {a b : Int} (hg : Tryd.prog.globalNamed name = some g) (hty : (Tryd.prog.globals[g]?).map (·.type) = some 103)
    (h : Lib.VarReads Tryd.prog w name (.agg [.lit (.int .i64 a), .lit (.int .i64 b)])) : w.var? Tryd.prog name = some #[.int .i64 a, .int .i64 b] := by
  have hc1 : Tryd.prog.cellsOf 3 = 1 := by kernel_rfl
  have hc2 : Tryd.prog.cellsOf 103 = 2 := by kernel_rfl
  obtain ⟨g', t', cs, fuel, p, hg', ht', hvar, hd⟩ := h
  obtain rfl := Option.some.inj (hg.symm.trans hg')
  obtain rfl := Option.some.inj (hty.symm.trans ht')
  rw [hvar]
  obtain ⟨cs⟩ := cs
  obtain ⟨xs, n, rfl, hx, hl, hxs, hf⟩ := DataW.trod_struct Tryd.underlying103 hd
  dsimp only at hl hf
  rw [hc2] at hl
  match xs, hxs, cs, hl with
  | [x0, x1], _, [c0, c1], _ =>
    have h0 := hf 0 _ rfl
    have h1 := hf 1 _ rfl
    simp [hc1] at h0 h1
    obtain ⟨n0, e0, rfl, _⟩ := DataW.trod_int Tryd.underlying3 h0
    obtain ⟨n1, e1, rfl, _⟩ := DataW.trod_int Tryd.underlying3 h1
    simp at e0 e1 hx
    obtain ⟨⟨rfl, rfl⟩, _⟩ := hx
    rw [e0, e1]

theorem okOf {W : World} (h : laidMetH Tryd.prog Rows.pointPacksUptoRow.laid W) : Ok W where
  fType := field_of_reads gFType (by kernel_rfl) (Lib.laidMet.reads (show laidMet Tryd.prog Rows.pointPacksUptoRow.laid W from h) List.mem_cons_self)
  fParent := field_of_reads gFParent (by kernel_rfl) (Lib.laidMet.reads (show laidMet Tryd.prog Rows.pointPacksUptoRow.laid W from h) (List.mem_cons_of_mem _ List.mem_cons_self))
  fSize := field_of_reads gFSize (by kernel_rfl) (Lib.laidMet.reads (show laidMet Tryd.prog Rows.pointPacksUptoRow.laid W from h) (List.mem_cons_of_mem _ (List.mem_cons_of_mem _ List.mem_cons_self)))
  fMode := field_of_reads gFMode (by kernel_rfl) (Lib.laidMet.reads (show laidMet Tryd.prog Rows.pointPacksUptoRow.laid W from h) (List.mem_cons_of_mem _ (List.mem_cons_of_mem _ (List.mem_cons_of_mem _ List.mem_cons_self))))
  fStamp := field_of_reads gFStamp (by kernel_rfl) (Lib.laidMet.reads (show laidMet Tryd.prog Rows.pointPacksUptoRow.laid W from h) (List.mem_cons_of_mem _ (List.mem_cons_of_mem _ (List.mem_cons_of_mem _ (List.mem_cons_of_mem _ List.mem_cons_self)))))
  fShadow := field_of_reads gFShadow (by kernel_rfl) (Lib.laidMet.reads (show laidMet Tryd.prog Rows.pointPacksUptoRow.laid W from h) (List.mem_cons_of_mem _ (List.mem_cons_of_mem _ (List.mem_cons_of_mem _ (List.mem_cons_of_mem _ (List.mem_cons_of_mem _ List.mem_cons_self))))))

set_option maxRecDepth 100000 in
theorem contract (H : Type) (enc : TypeId × Value → H) (W : World) (base : Nat) (args : Array Value) (ds gs : List (DataW H)) (before : List MemPlace)
    (hval : ∀ (j : Nat) t v, Tryd.f3.params[j]? = some t → args[j]? = some v → Value.okWide Tryd.prog W .any base t v)
    (hW : DataW.Whole enc Tryd.prog Tryd.f3.params.toList Rows.pointPacksSpec.vars false W args.toList ds gs before) (hS : Rows.uptoSmall H (ds ++ gs) = true) (hL : laidMetH Tryd.prog Rows.pointPacksUptoRow.laid W) :
    Calls Tryd.prog 3 args W fun e W' => ∃ v, e = .returned v ∧ Rows.pointPacksSpec.post enc Tryd.prog Tryd.f3 false true false false W args v W' := by
  have hW' := hW
  obtain ⟨p, q, hA0, hV, rfl, hfz, hnd⟩ := hW
  have hA : DataW.TrodAll enc Tryd.prog W 0 (fun _ => true) true Tryd.f3.params.toList args.toList ds p := hA0
  rw [Tryd.params3] at hA hval
  obtain ⟨v0, vs0, d0, ds0, p0, q0, hargs, rfl, rfl, h0, r0⟩ := trodAll_cons hA
  obtain ⟨rfl, rfl, rfl⟩ := trodAll_nil r0
  obtain rfl : args = #[v0] := by cases args; simp_all
  obtain ⟨rfl, rfl⟩ := trodVars_none hV
  clear hA0
  simp only [List.append_nil] at hW'
  have hsz : Rows.uptoBulk d0 ≤ 1048576 := by
    have : Rows.uptoBulkAll ([d0] ++ []) ≤ 1048576 := by simpa [Rows.uptoSmall] using hS
    simp only [List.append_nil, Rows.uptoBulkAll] at this
    omega
  obtain ⟨s, A1, c1, A2, c2, al, rfl, hwf, hB, hO, hnc, hos, hA1, hal⟩ := open_state (hval 0 26 v0 rfl rfl) h0 hsz
  have walk : Calls Tryd.prog 3 #[stV s A1 c1 A2 c2] W fun e w' => e = .returned (.bool true) ∧ Fr W w' :=
    law_PointPacks s A1 c1 A2 c2 al W (okOf hL) hB hO hwf (fun o ho => by have := (hnc o ho).1; omega) (fun o ho => by have := (hnc o ho).2; omega) (by omega) hA1 hal
  refine walk.mono fun e W' ⟨he, hg⟩ => ?_
  subst he
  have hlt : ∀ x ∈ p0 ++ ([] : List MemPlace), x.block < W.heap.size := fun x hx => by simpa using hW'.lt x (by simpa using hx)
  exact ⟨_, rfl, post_of_below (pa := p0 ++ []) (pv := []) hW' (fun _ _ _ => trodAll_cons_mk (shut_bool Tryd.underlying4 _) trodAll_mk0)
    (fun sp hsp => trodAll_below laidOut hg.below (by rw [Tryd.params3]; simp only [List.mem_cons, List.not_mem_nil, or_false, forall_eq]; exact ⟨by kernel_rfl, of_decide_eq_true (by kernel_rfl)⟩) (by rw [Tryd.params3]; exact hA) hlt (fun x hx => hsp x (by simpa using hx)))
    (fun _ _ => rfl) (by simp) hg.below (ok_one (by kernel_rfl) rfl (okWide_bool_mk Tryd.underlying4 _))⟩

/-- A WORLD FOR THE WITNESS: the settled one, the listed variables as they are laid. -/
def cellsOfData : DataW Unit → Array Value
  | .agg l => (l.map fun d => match d with
    | .lit (.int k z) => Value.int k z
    | .lit (.string s) => Value.string ⟨s.toArray⟩
    | _ => Value.bool false).toArray
  | _ => #[]
def layAt (d : DataW Unit) : Obj → Obj
  | .cells _ t frozen => .cells (cellsOfData d) t frozen
  | o => o
noncomputable def laidWorld (os : Os) : World :=
  { World.holding Tryd.prog os ⟨#[], #[], []⟩ with heap := ((((((World.holding Tryd.prog os ⟨#[], #[], []⟩).heap.modify 0 (layAt Rows.laid_shale_node_fieldType)).modify 1 (layAt Rows.laid_shale_node_fieldParent)).modify 2 (layAt Rows.laid_shale_node_fieldSize)).modify 3 (layAt Rows.laid_shale_node_fieldMode)).modify 4 (layAt Rows.laid_shale_node_fieldStamp)).modify 5 (layAt Rows.laid_shale_node_fieldShadow) }
def wArgs : Array Value := #[.agg #[.int .u64 0, .int .u64 0, .int .i64 0, .int .i64 0, .slice none 0 0, .slice none 0 0]]
theorem laid_met (os : Os) : laidMet Tryd.prog Rows.pointPacksUptoRow.laid ((laidWorld os).forCall (fun _ _ => 0) ⟨#[], wArgs, []⟩).memory :=
  laidMet_of_run' 8 (by kernel_rfl) (by kernel_rfl)
theorem reads (os : Os) {H : Type} (enc : TypeId × Value → H) : ∃ places, DataW.whole enc Tryd.prog ((laidWorld os).forCall (fun _ _ => 0) ⟨#[], wArgs, []⟩).memory Tryd.f3.params.toList Rows.pointPacksSpec.vars false wArgs.toList 8 = some ([.agg [.lit (.int .u64 0), .lit (.int .u64 0), .lit (.int .i64 0), .lit (.int .i64 0), .nil, .nil]], [], places) :=
  ⟨[], by kernel_rfl⟩

set_option maxRecDepth 100000 in
theorem lifted (os : Os) (started : os.Started) (H : Type) (enc : TypeId × Value → H) (F : Stop.Interp) :
    ReturnsInHanded {} Tryd.checked os 3 .any ((Rows.OpenSpec.upto Rows.pointPacksSpec).preRow enc Tryd.prog Tryd.f3 Rows.pointPacksUptoRow.domain false Rows.pointPacksUptoRow.laid) (((Rows.OpenSpec.upto Rows.pointPacksSpec).at F).post enc Tryd.prog Tryd.f3 false true false false) := by
  obtain ⟨places, hx⟩ := reads os enc
  refine returnsInHanded_of_row (C := Tryd.checked) (s := Rows.OpenSpec.upto Rows.pointPacksSpec) own started (by kernel_rfl) Tryd.func3
    (witness_row_at (enc := enc) (C := Tryd.checked) false (laidWorld os) wArgs rfl (by kernel_rfl) (by kernel_rfl) (by kernel_rfl)
      (OpenSpec.preRow_of_cond 8 hx (by kernel_rfl) (fun k hk => by cases hk; kernel_rfl) (by kernel_rfl) (laid_met os))) ?_
  intro W base args ds gs before hval hW _ hcond _ hL _ _
  exact contract H enc W base args ds gs before hval hW (hcond _ rfl) hL

theorem said : Rows.PointPacksUptoSaid :=
  OpenClaim.holds_of_cond 3 Tryd.f3 rfl rfl rfl rfl rfl rfl rfl ⟨rfl, rfl, rfl, rfl, rfl⟩ rfl rfl rfl rfl rfl (by kernel_rfl) Tryd.func3 (by kernel_rfl)
    (of_decide_eq_true (by kernel_rfl)) (by unfold Func.isWrapper; first | (rw [if_pos (by decide +kernel)]; kernel_rfl) | (rw [if_neg (by decide +kernel)]; exact ⟨rfl, rfl⟩))
    (fun os started H enc _ F => by rw [OpenClaim.pre_eq_preRow]; exact lifted os started H enc F)

theorem plain (f : FuncId) (fn : Func) (hf : Tryd.pinned.checked.prog.funcNamed "shale/shalelaw14.PointPacks" = some f) (hfn : Tryd.pinned.checked.prog.funcs[f]? = some fn) :
    true = Tryd.pinned.checked.prog.looks [] ∧ ∀ (j : Nat) t, fn.params[j]? = some t → Tryd.pinned.checked.prog.wantsStandIn t = false := by
  obtain rfl : f = 3 := Option.some.inj ((show Tryd.prog.funcNamed "shale/shalelaw14.PointPacks" = some 3 by kernel_rfl).symm.trans hf) |>.symm
  obtain rfl : fn = Tryd.f3 := (Option.some.inj (Tryd.func3.symm.trans hfn)).symm
  refine ⟨by kernel_rfl, fun j t ht => ?_⟩
  rw [Tryd.params3] at ht
  obtain rfl : t = 26 := by simpa using Array.mem_of_getElem? ht
  exact (show Tryd.prog.wantsStandIn 26 = false by kernel_rfl)

theorem card : Rows.PointPacksUptoCardSaid :=
  Claim7.holds_tied_plain_at .later [] _ _ _ _ said (fun _ h => by cases h) (by kernel_rfl) (fun _ h => by cases h) pointPacksUpto_row_tie rfl ⟨rfl, rfl⟩ (by kernel_rfl) rfl plain (by kernel_rfl)
end Go.Proofs.YtefkklgelmbaiaaDoor.pointPacks
