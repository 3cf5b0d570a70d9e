/- A header read from bytes: the document's (shaleref08.Read) by its contract. -/
import Derived.Test.YtefkklgelmbaiaaDoorZ3
import Derived.Laws.AppendOwnNone
import Derived.Test.YtefkklgelmbaiaaDoorPsamex1
import Derived.Test.YtefkklgelmbaiaaDoorPnox1
import Derived.Test.YtefkklgelmbaiaaDoorCards
import Derived.Test.YtefkklgelmbaiaaDoorTie
import Derived.ProofKit
import Derived.WideShapes
import Derived.Deep.DeepHandedRow
import Derived.Lib.LaidU8
import Derived.OpenShut
import Derived.Deep.Slices
import Derived.Test.YtefkklgelmbaiaaDoorPgetx1
import Derived.Test.YtefkklgelmbaiaaDoorPGetx1
import Derived.Laws.Bits64b
set_option linter.unusedSimpArgs false
set_option linter.unusedVariables false
namespace Go.Proofs.YtefkklgelmbaiaaDoor
open Go.RowKit Go.Proofs

/-! ### Rows of cells -/
theorem flat_length {k : Nat} : ∀ {cells : List (List Value)}, (∀ c ∈ cells, c.length = k) → cells.flatten.length = cells.length * k
  | [], _ => by simp
  | c :: cs, h => by
    rw [List.flatten_cons, List.length_append, h c List.mem_cons_self, flat_length (fun c hc => h c (List.mem_cons_of_mem _ hc)), List.length_cons, Nat.add_mul]; omega
theorem flat_get {k : Nat} : ∀ {cells : List (List Value)} (_ : ∀ c ∈ cells, c.length = k) {i j : Nat} {c : List Value} (_ : cells[i]? = some c) (_ : j < k), cells.flatten[i * k + j]? = c[j]?
  | [], _, i, _, _, h, _ => by simp at h
  | x :: cs, hl, 0, j, c, h, hj => by
    simp at h; subst h
    rw [List.flatten_cons, Nat.zero_mul, Nat.zero_add, List.getElem?_append_left (by rw [hl x List.mem_cons_self]; exact hj)]
  | x :: cs, hl, i + 1, j, c, h, hj => by
    have hx := hl x List.mem_cons_self
    rw [List.flatten_cons, List.getElem?_append_right (by rw [hx, Nat.add_mul]; omega), hx, show (i + 1) * k + j - k = i * k + j by rw [Nat.add_mul]; omega]
    exact flat_get (fun c hc => hl c (List.mem_cons_of_mem _ hc)) (by simpa using h) hj
theorem Row.flat {w : World} {g o k : Nat} {cells : List (List Value)} (h : Row w (some ⟨g, o, none⟩) k cells) (hk : 0 < k) (hl : ∀ c ∈ cells, c.length = k) : ∀ j u, cells.flatten[j]? = some u → w.cell? ((⟨g, o, none⟩ : Addr).add j) = some u := by
  intro j u hj
  have hlt : j < cells.length * k := by rw [← flat_length hl]; exact (List.getElem?_eq_some_iff.1 hj).1
  have hi : j / k < cells.length := by rw [Nat.div_lt_iff_lt_mul hk]; exact hlt
  have hmod := Nat.mod_lt j hk
  have hdm : j / k * k + j % k = j := by rw [Nat.mul_comm]; exact Nat.div_add_mod j k
  rcases h with h | ⟨g', o', e, _, h⟩
  · subst h; simp at hj
  · injection e with e; injection e with e1 e2; subst e1 e2
    have hc : cells[j / k]? = some cells[j / k] := List.getElem?_eq_getElem hi
    have h2 := flat_get hl hc hmod
    rw [hdm, hj] at h2
    rw [Lib.add_plain, ← hdm, ← Nat.add_assoc]
    exact h _ _ hc _ _ hmod h2.symm
theorem own_Row {w : World} {base n cap k g : Nat} {e : TypeId} {cells : List (List Value)} {xs : List Value} (hl : ∀ c ∈ cells, c.length = k) (h : w.ownsRow base e k (.slice (some ⟨g, 0, none⟩) n cap) n (cells.flatten ++ xs)) : Row w (some ⟨g, 0, none⟩) k cells := by
  have hg := h.lt g rfl
  refine .inr ⟨g, 0, rfl, hg.2, fun i c hi j v hj hv => ?_⟩
  have h1 : i < cells.length := (List.getElem?_eq_some_iff.1 hi).1
  have h2 : i * k + j < cells.length * k := by
    have : (i + 1) * k ≤ cells.length * k := Nat.mul_le_mul_right _ h1
    rw [Nat.add_mul] at this; omega
  have := h.cells (g := g) rfl (i * k + j) v (by rw [List.getElem?_append_left (by rw [flat_length hl]; exact h2), flat_get hl hi hj]; exact hv)
  rw [Lib.add_plain] at this
  rw [← this]; congr 2; omega
theorem own_ne2 {w : World} {b1 b2 s1 s2 n1 n2 : Nat} {e1 e2 : TypeId} {v1 v2 : Value} {x1 x2 : List Value} (h1 : w.ownsRow b1 e1 s1 v1 n1 x1) (h2 : w.ownsRow b2 e2 s2 v2 n2 x2) (hne : e1 ≠ e2) : v1.ownBlock = none ∨ v1.ownBlock ≠ v2.ownBlock := by
  rcases h1.2 with ⟨rfl, _⟩ | ⟨g, cap, cur, rfl, _, hg, _⟩
  · exact .inl rfl
  · right
    rcases h2.2 with ⟨rfl, _⟩ | ⟨g', cap', cur', rfl, _, hg', _⟩
    · simp [Value.ownBlock]
    · intro e
      injection e with e
      dsimp only at e
      subst e
      rw [hg] at hg'
      injection hg' with hg'
      injection hg' with _ h3
      exact hne h3
theorem own_ne3 {w : World} {B size n : Nat} {e : TypeId} {v : Value} {xs : List Value} (h : w.ownsRow B e size v n xs) {g : Nat} {cs : Array Value} {t : TypeId} (hg : w.heap[g]? = some (.cells cs t (0, 0))) (ht : e ≠ t) : some g ≠ v.ownBlock := by
  rintro e'
  rcases h.2 with ⟨rfl, _⟩ | ⟨g', cap, cur, rfl, _, hg', _⟩
  · cases e'
  · injection e' with e'
    subst e'
    rw [hg] at hg'
    injection hg' with hg'
    injection hg' with _ h3
    exact ht h3.symm
theorem own_form {w : World} {B size n : Nat} {e : TypeId} {v : Value} {xs : List Value} (h : w.ownsRow B e size v n xs) : ∃ a c, v = .slice a n c := by
  rcases h.2 with ⟨hv, h0⟩ | ⟨g, cap, cur, hv, _⟩
  · rw [h0]; exact ⟨none, 0, hv⟩
  · exact ⟨_, cap, hv⟩
/-- the source of an append: nil, or cells in a row -/
def Src (w : World) (A : Option Addr) (m c : Nat) (news : List Value) : Prop := (A = none ∧ m = 0 ∧ c = 0 ∧ news = []) ∨ ∃ a, A = some a ∧ ∀ j u, news[j]? = some u → w.cell? (a.add j) = some u
theorem append_src {T e : TypeId} {i : TypeInfo} {z : Value} {size bytes : Nat} (ht : Tryd.prog.underlying T = some (.slice e)) (hi : Tryd.prog.info? e = some i) (hz : i.zero = some z) (hsize : i.size = size) (hby : i.bytes = bytes) (hzs : z.cells.size = size) (hsz : 0 < size)
    (ty : TypeId) {w : World} {base : Nat} {v : Value} {n : Nat} {xs : List Value} (hown : w.ownsRow base e size v n xs) (A : Option Addr) (m c : Nat) (news : List Value) (hs : Src w A m c news) (hl : news.length = m * size) (h1 : ∀ u ∈ news, u.oneCell' = true)
    (h63 : n + m ≤ maxLen) (hbytes : (n + m) * bytes ≤ 140737488355328) (hbase : base ≤ w.heap.size) :
    ∃ v' w', (Builtin.append_ #[T, T] ty #[v, .slice A m c]).run Tryd.prog w = .ok v' w' ∧ w'.ownsRow base e size v' (n + m) (xs ++ news) ∧ w.grownBy w' v.ownBlock ∧ (v'.ownBlock = v.ownBlock ∨ v'.ownBlock = some w.heap.size) := by
  rcases hs with ⟨rfl, rfl, rfl, rfl⟩ | ⟨a, rfl, hc⟩
  · refine ⟨v, w, run_append_owned_none (P := Tryd.prog) (w := w) base T ty e i size ht hi v n xs hown, by simpa using hown, grown_refl w _, .inl rfl⟩
  · obtain ⟨v', w', hr, h2, h3, _, h4⟩ := run_append_own_at (P := Tryd.prog) (w := w) base T ty e i z size bytes ht hi hz hsize hby hzs hsz v n xs hown a m c news hl hc h1 h63 hbytes hbase
    exact ⟨v', w', hr, h2, h3, h4⟩
theorem Src.lit {w : World} {g : Nat} {cs : Array Value} {t : TypeId} {fz : Nat × Nat} (H : w.heap[g]? = some (.cells cs t fz)) (m c : Nat) : Src w (some ⟨g, 0, none⟩) m c cs.toList :=
  .inr ⟨_, rfl, fun j u hj => by rw [Lib.add_plain, Nat.zero_add]; exact blk_cell H (by simpa using hj)⟩
theorem infoBlock : (Tryd.prog.info? 45).map (fun i => (i.zero, i.size, i.bytes)) = some (some (.agg #[.int .i64 0, .int .u64 0, .bool false, .int .i64 0]), 4, 32) := by kernel_rfl
theorem infoChunk : (Tryd.prog.info? 59).map (fun i => (i.zero, i.size, i.bytes)) = some (some (.agg #[.int .i64 0, .int .i64 0, .int .i64 0, .int .i64 0]), 4, 32) := by kernel_rfl
theorem infoObject : (Tryd.prog.info? 53).map (fun i => (i.zero, i.size, i.bytes)) = some (some (.agg #[.int .i64 0, .bool false, .int .i64 0, .int .i64 0, .string ⟨#[]⟩, .int .i64 0, .int .i64 0, .int .u64 0, .int .i64 0, .string ⟨#[]⟩, .int .i64 0, .int .i64 0, .slice none 0 0]), 13, 136) := by kernel_rfl
theorem unfroz {w : World} {g : Nat} {cs : Array Value} {t : TypeId} (H : w.heap[g]? = some (.cells cs t (0, 0))) (j : Nat) : w.frozen? ⟨g, j, none⟩ = false := by
  simp [World.frozen?, H]
theorem set_own {w0 w : World} {g : Nat} {cs : Array Value} {t : TypeId} (f : Fr w0 w) (hw0 : Ok w0) (hB : w0.heap.size ≤ g) (H : w.heap[g]? = some (.cells cs t (0, 0))) (j : Nat) (v : Value) :
    ∃ w1, w.setCell ⟨g, j, none⟩ v = w1 ∧ w1.heap[g]? = some (.cells (cs.setIfInBounds j v) t (0, 0)) ∧ Fr w0 w1 ∧ w.grownBy w1 (some g) := by
  have hb : Below g w (w.setCell ⟨g, j, none⟩ v) := (Below.refl g w).setCell (Nat.le_refl _) v
  refine ⟨_, rfl, ?_, Fr.of hw0 (f.below.trans (hb.mono hB)), ⟨hb.os, hb.tape, hb.output, hb.size, fun k hk hn => ?_⟩⟩
  · simp [World.setCell, Array.getElem?_modify, H]
  · exact Below.heap_setCell w _ v k (fun e => hn (by rw [e]))

theorem bcells_len (bs : List Blk) : ∀ c ∈ bs.map bcells, c.length = 4 := fun c h => by obtain ⟨b, _, rfl⟩ := List.mem_map.1 h; rfl
theorem ccells_len (cs : List Chk) : ∀ c ∈ cs.map ccells, c.length = 4 := fun c h => by obtain ⟨b, _, rfl⟩ := List.mem_map.1 h; rfl
def bflat (bs : List Blk) : List Value := (bs.map bcells).flatten
def cflat (cs : List Chk) : List Value := (cs.map ccells).flatten
theorem BRow.src {w : World} {A : Option Addr} {bs : List Blk} (h : BRow w A bs) {c : Nat} (hn : A = none → c = 0) : Src w A bs.length c (bflat bs) := by
  rcases h with hb | ⟨g, o, e, hg, h⟩
  · have hb : bs = [] := by simpa using hb
    subst hb
    cases A with
    | none => exact .inl ⟨rfl, rfl, hn rfl, rfl⟩
    | some a => exact .inr ⟨a, rfl, fun j u hj => by simp [bflat] at hj⟩
  · subst e
    exact .inr ⟨_, rfl, Row.flat (.inr ⟨g, o, rfl, hg, h⟩) (by decide) (bcells_len bs)⟩
theorem CRow.src {w : World} {A : Option Addr} {cs : List Chk} (h : CRow w A cs) {c : Nat} (hn : A = none → c = 0) : Src w A cs.length c (cflat cs) := by
  rcases h with hb | ⟨g, o, e, hg, h⟩
  · have hb : cs = [] := by simpa using hb
    subst hb
    cases A with
    | none => exact .inl ⟨rfl, rfl, hn rfl, rfl⟩
    | some a => exact .inr ⟨a, rfl, fun j u hj => by simp [cflat] at hj⟩
  · subst e
    exact .inr ⟨_, rfl, Row.flat (.inr ⟨g, o, rfl, hg, h⟩) (by decide) (ccells_len cs)⟩
def Obj'.nil : Obj' := ⟨0, false, Nod.zero, 0, 0, []⟩
def orow (os : List Obj') (bl : Al) (i : Nat) : List (List Value) := (List.range i).map fun j => ocells (os.getD j Obj'.nil) (bl j).1 (bl j).2
theorem orow_succ (os : List Obj') (bl : Al) (i : Nat) : orow os bl (i + 1) = orow os bl i ++ [ocells (os.getD i Obj'.nil) (bl i).1 (bl i).2] := by
  unfold orow; rw [List.range_succ, List.map_append]; rfl
theorem orow_len (os : List Obj') (bl : Al) (i : Nat) : ∀ c ∈ orow os bl i, c.length = 13 := fun c h => by obtain ⟨b, _, rfl⟩ := List.mem_map.1 h; rfl
theorem orow_length (os : List Obj') (bl : Al) (i : Nat) : (orow os bl i).length = i := by unfold orow; simp
theorem own_low {w : World} {B B' size n : Nat} {e : TypeId} {v : Value} {xs : List Value} (h : w.ownsRow B e size v n xs) (hb : B' ≤ B) : w.ownsRow B' e size v n xs := by
  obtain ⟨h1, h2⟩ := h
  refine ⟨h1, ?_⟩
  rcases h2 with h2 | ⟨g, cap, cur, hv, hg, r⟩
  · exact .inl h2
  · exact .inr ⟨g, cap, cur, hv, by omega, r⟩
def upd (bl : Al) (i : Nat) (a : Option Addr) (c : Nat) : Al := fun j => if j = i then (a, c) else bl j
theorem upd_self (bl : Al) (i : Nat) (a : Option Addr) (c : Nat) : upd bl i a c i = (a, c) := if_pos rfl
theorem upd_ne (bl : Al) (i : Nat) (a : Option Addr) (c : Nat) (j : Nat) (h : j ≠ i) : upd bl i a c j = bl j := if_neg h
def roomC : List Value := [.int .i64 79, .int .i64 0, .int .i64 0, .int .i64 0, .int .i64 80, .int .i64 0, .int .i64 0, .int .i64 0]
def CRows (w : World) (B : Nat) (os : List Obj') (bl : Al) (i : Nat) : Prop := ∀ j, j < i → (hj : j < os.length) → w.ownsRow B 59 4 (.slice (bl j).1 (os[j].cs.length + 2) (bl j).2) (os[j].cs.length + 2) (cflat os[j].cs ++ roomC)
theorem CRows.fr {w w' : World} {B : Nat} {os : List Obj'} {bl : Al} {i : Nat} (h : CRows w B os bl i) (q : Fr w w') : CRows w' B os bl i := fun j hj hl => own_fr (h j hj hl) q
end Go.Proofs.YtefkklgelmbaiaaDoor
set_option linter.unusedSimpArgs false
set_option linter.unusedVariables false
namespace Go.Proofs.YtefkklgelmbaiaaDoor
open Go.RowKit Go.Proofs

theorem no_any (x : Int) (w : World) (hw : Ok w) : Calls Tryd.prog 8 #[.int .i64 x] w fun e w' => e = .returned (.int .i64 x) ∧ Fr w w' :=
  (Pno.shalelaw14_no.calls x x w rfl).mono fun e w' ⟨he, hb⟩ => ⟨he, Fr.of hw hb.below⟩

end Go.Proofs.YtefkklgelmbaiaaDoor
set_option linter.unusedSimpArgs false
set_option linter.unusedVariables false
namespace Go.Proofs.YtefkklgelmbaiaaDoor
open Go.ChangeShapes Go.WideShapes Go.ChangeAt Go.RowKit

/-! ### Bulk -/
section
variable {H : Type}
theorem bulk_pos (x : DataW H) : 1 ≤ Rows.uptoBulk x := by
  cases x with
  | lit l => cases l <;> simp [Rows.uptoBulk]
  | _ => simp [Rows.uptoBulk]
theorem bulk_len (es : List (DataW H)) : es.length ≤ Rows.uptoBulkAll es := by
  induction es with
  | nil => simp [Rows.uptoBulkAll]
  | cons x r ih => have := bulk_pos x; simp only [Rows.uptoBulkAll, List.length_cons]; omega
theorem bulk_get {es : List (DataW H)} {i : Nat} {e : DataW H} (h : es[i]? = some e) : Rows.uptoBulk e ≤ Rows.uptoBulkAll es := by
  induction es generalizing i with
  | nil => simp at h
  | cons x r ih =>
    cases i with
    | zero => simp at h; subst h; simp only [Rows.uptoBulkAll]; omega
    | succ i => have := ih (by simpa using h); simp only [Rows.uptoBulkAll]; omega
end

section
variable {H : Type} {enc : TypeId × Value → H} {w : World} {base : Nat} {sp : Nat → Bool} {held : Bool}

/-- a slice of structs of k cells -/
theorem open_rows {α : Type} [Inhabited α] {Ts e : TypeId} {k : Nat} (f : α → List Value) (hf : ∀ a, (f a).length = k) (hk : 0 < k) (ht : Tryd.prog.underlying Ts = some (.slice e)) (hc : Tryd.prog.cellsOf e = k) (Q : α → DataW H → Prop)
    (hopen : ∀ {fuel : Nat} {cs : List Value} {x : DataW H × List MemPlace}, DataW.trod enc Tryd.prog w base sp held fuel e cs = some x → ∃ a, Q a x.1 ∧ cs = f a)
    {fuel : Nat} {cs : List Value} {x : DataW H × List MemPlace} (h : DataW.trod enc Tryd.prog w base sp held fuel Ts cs = some x) :
    ∃ (l : List α) (A : Option Addr) (c : Nat), cs = [.slice A l.length c] ∧ Row w A k (l.map f) ∧ l.length ≤ c ∧ (A = none → c = 0) ∧ l.length ≤ Rows.uptoBulk x.1 ∧ ∀ a ∈ l, ∃ d, Q a d ∧ Rows.uptoBulk d ≤ Rows.uptoBulk x.1 := by
  rcases Deep.open_slice ht h with ⟨rfl, rfl⟩ | ⟨ad, len, cap, m, n, D, Pl, rfl, hb, hl, hm, hmm, rfl, hx⟩
  · exact ⟨[], none, 0, rfl, .inl rfl, Nat.le_refl _, fun _ => rfl, by simp, fun a ha => by cases ha⟩
  rw [hc] at hx
  have hle : len ≤ m := by rw [hmm]; split <;> omega
  have key : ∀ i, i < len → ∃ a : α, Q a (D i) ∧ w.cells? base (ad.add (i * k)) k = some (f a) := fun i hi => by
    obtain ⟨cs', h1, h2⟩ := hx i (by omega)
    obtain ⟨a, ha, rfl⟩ := hopen h2
    exact ⟨a, ha, h1⟩
  clear hx
  obtain ⟨F, hF⟩ := Deep.choose_lt (α := α) (p := fun i a => Q a (D i) ∧ w.cells? base (ad.add (i * k)) k = some (f a)) key
  have hbulk : Rows.uptoBulkAll ((List.range len).map D) ≤ Rows.uptoBulk (DataW.slice ((List.range len).map D) ((List.range (m - len)).map fun j => D (len + j))) := by
    simp only [Rows.uptoBulk]; omega
  refine ⟨(List.range len).map F, some ad, cap, by simp, ?_, by simpa using hl, (fun e => by cases e), ?_, ?_⟩
  · cases len with
    | zero => exact .inl rfl
    | succ len =>
      right
      have cellsF : ∀ i, i < len + 1 → ∀ j, j < k → w.cell? (ad.add (i * k + j)) = (f (F i))[j]? := fun i hi j hj => by
        have := (World.cells?_some (hF i hi).2).2.2 j hj
        rwa [Deep.add_add] at this
      obtain ⟨b, o, spot⟩ := ad
      have h0 := cellsF 0 (by omega) 0 hk
      obtain ⟨v0, hv0⟩ : ∃ v, (f (F 0))[0]? = some v := ⟨_, List.getElem?_eq_getElem (by rw [hf]; exact hk)⟩
      rw [hv0] at h0
      have hspot : spot = none := by simpa [Addr.add] using World.cell?_spot h0
      subst hspot
      refine ⟨b, o, rfl, by simpa [Addr.add] using World.block_lt_of_cell? w _ h0, fun i c hi j v hj hv => ?_⟩
      have hi' : i < len + 1 := by have := (List.getElem?_eq_some_iff.1 hi).1; simpa using this
      have hce : c = f (F i) := by
        simp only [List.getElem?_map, List.getElem?_range hi', Option.map_some, Option.some.injEq] at hi
        exact hi.symm
      subst hce
      have := cellsF i hi' j hj
      rw [Lib.add_plain, hv] at this
      rw [Nat.add_assoc]; exact this
  · have := bulk_len ((List.range len).map D)
    simp only [List.length_map, List.length_range] at this ⊢
    omega
  · intro a ha
    obtain ⟨i, hi, rfl⟩ := List.mem_map.1 ha
    have hi' : i < len := by simpa using hi
    refine ⟨D i, (hF i hi').1, ?_⟩
    exact Nat.le_trans (bulk_get (es := (List.range len).map D) (i := i) (e := D i) (by simp [hi'])) hbulk

end
end Go.Proofs.YtefkklgelmbaiaaDoor
set_option linter.unusedSimpArgs false
set_option linter.unusedVariables false
namespace Go.Proofs.YtefkklgelmbaiaaDoor
open Go.RowKit Go.Proofs Go.Proofs.YtefkklgelmbaiaaDoorW.PrintWords Go.Proofs.YtefkklgelmbaiaaDoorW.PrintMore

def leV : List Int → Int
  | [] => 0
  | b :: r => b + 256 * leV r
def bytesOk (l : List Int) : Prop := ∀ x ∈ l, 0 ≤ x ∧ x ≤ 255
theorem leV_nonneg {l : List Int} (h : bytesOk l) : 0 ≤ leV l := by
  induction l with
  | nil => simp [leV]
  | cons b r ih => have := ih (fun x hx => h x (List.mem_cons_of_mem _ hx)); have := h b List.mem_cons_self; simp only [leV]; omega
theorem leV_lt {l : List Int} (h : bytesOk l) : leV l < 256 ^ l.length := by
  induction l with
  | nil => simp [leV]
  | cons b r ih =>
    have h1 := ih (fun x hx => h x (List.mem_cons_of_mem _ hx))
    have h2 := h b List.mem_cons_self
    simp only [leV, List.length_cons, Int.pow_succ]
    omega
theorem pow256_le {n : Nat} (h : n ≤ 8) : (256 : Int) ^ n ≤ 18446744073709551616 := by
  match n, h with
  | 0, _ => decide
  | 1, _ => decide
  | 2, _ => decide
  | 3, _ => decide
  | 4, _ => decide
  | 5, _ => decide
  | 6, _ => decide
  | 7, _ => decide
  | 8, _ => decide
theorem leV_u64 {l : List Int} (h : bytesOk l) (h8 : l.length ≤ 8) : 0 ≤ leV l ∧ leV l ≤ 18446744073709551615 := by
  have h1 := leV_nonneg h
  have h2 := leV_lt h
  have h3 := pow256_le h8
  omega
theorem bytesOk.drop {l : List Int} (h : bytesOk l) (n : Nat) : bytesOk (l.drop n) := fun x hx => h x (List.mem_of_mem_drop hx)
theorem bytesOk.take {l : List Int} (h : bytesOk l) (n : Nat) : bytesOk (l.take n) := fun x hx => h x (List.mem_of_mem_take hx)

/-- a number of some bytes at a place, at most 'most' -/
def numP (L : List Int) (size : Nat) (most : Int) (i : Nat) : Option (Int × Nat) :=
  if i + size ≤ L.length ∧ leV ((L.drop i).take size) ≤ most then some (leV ((L.drop i).take size), i + size) else none
theorem numP_le {L : List Int} {size : Nat} {most : Int} {i : Nat} {v : Int} {j : Nat} (hL : bytesOk L) (h : numP L size most i = some (v, j)) : 0 ≤ v ∧ v ≤ most ∧ j = i + size ∧ j ≤ L.length := by
  unfold numP at h
  split at h
  · rename_i hc
    injection h with h
    injection h with h1 h2
    subst h1 h2
    exact ⟨leV_nonneg ((hL.drop i).take size), hc.2, rfl, hc.1⟩
  · cases h

/-- bytes in memory -/
def BytesAt (w : World) (A : Option Addr) (L : List Int) : Prop := L = [] ∨ ∃ g o, A = some ⟨g, o, none⟩ ∧ g < w.heap.size ∧ ∀ i x, L[i]? = some x → w.cell? ⟨g, o + i, none⟩ = some (.int .u8 x)
theorem BytesAt.fr {w w' : World} {A : Option Addr} {L : List Int} (h : BytesAt w A L) (q : Fr w w') : BytesAt w' A L := by
  rcases h with h | ⟨g, o, hA, hg, h⟩
  · exact .inl h
  · exact .inr ⟨g, o, hA, Nat.lt_of_lt_of_le hg q.size, fun i x hi => q.cell (h i x hi)⟩
theorem cell_grown {w w' : World} {g : Nat} {r : Option Nat} (q : w.grownBy w' r) {p : Addr} {v : Value} (h : w.cell? p = some v) (hne : some p.block ≠ r) : w'.cell? p = some v :=
  (World.cell?_of_block (w := w) (q.block p.block (World.block_lt_of_cell? w p h) hne)).trans h
theorem BytesAt.grown {w w' : World} {A : Option Addr} {L : List Int} {r : Option Nat} (h : BytesAt w A L) (q : w.grownBy w' r) (hne : ∀ a, A = some a → some a.block ≠ r) : BytesAt w' A L := by
  rcases h with h | ⟨g, o, hA, hg, h⟩
  · exact .inl h
  · exact .inr ⟨g, o, hA, Nat.lt_of_lt_of_le hg q.size, fun i x hi => cell_grown (g := 0) q (h i x hi) (hne ⟨g, o, none⟩ hA)⟩
theorem BytesAt.toC {w : World} {A : Option Addr} {L : List Int} (h : BytesAt w A L) (hn : L.length ≤ 1099511627776) : Kd.C (Kd.int .u8) w A L.length L := by
  refine ⟨rfl, by omega, fun h0 => ?_⟩
  rcases h with h | ⟨g, o, hA, hg, hc⟩
  · subst h; simp at h0
  · refine ⟨_, hA, fun j p hj => ?_⟩
    refine ⟨[.int .u8 p], rfl, rfl, fun i u hu => ?_⟩
    have hi : i < 1 := (List.getElem?_eq_some_iff.1 hu).1
    obtain rfl : i = 0 := by omega
    simp only [List.getElem?_cons_zero, Option.some.injEq] at hu
    subst hu
    have hsz : (Kd.int .u8).sz = 1 := rfl
    rw [hsz, Lib.add_plain, Nat.mul_one, Nat.add_zero]
    exact hc j p hj
theorem BytesAt.sub {w : World} {g o : Nat} {L : List Int} (h : BytesAt w (some ⟨g, o, none⟩) L) (i n : Nat) : BytesAt w (some ⟨g, o + i, none⟩) ((L.drop i).take n) := by
  rcases h with h | ⟨g', o', e, hg, hc⟩
  · subst h; left; simp
  · injection e with e
    injection e with e1 e2
    subst e1 e2
    refine .inr ⟨g, o + i, rfl, hg, fun j x hj => ?_⟩
    rw [List.getElem?_take] at hj
    split at hj
    · rw [List.getElem?_drop] at hj
      rw [Nat.add_assoc]
      exact hc _ x hj
    · cases hj
theorem OwnB.at {w : World} {B : Nat} {A : Option Addr} {n c : Nat} {xs : List Int} (h : OwnB w B (.slice A n c) xs) : BytesAt w A xs ∧ n = xs.length ∧ xs.length ≤ c := by
  obtain ⟨h1, h2, h3⟩ := h.toC
  refine ⟨?_, h1, h2⟩
  cases xs with
  | nil => exact .inl rfl
  | cons x r =>
    right
    obtain ⟨g, c', hv, hb, hl⟩ := h.blk (by simp)
    injection hv with e1 e2 e3
    subst e1 e2 e3
    refine ⟨g, 0, rfl, hl, fun i y hi => ?_⟩
    have hi' := (List.getElem?_eq_some_iff.1 hi).1
    rw [Nat.zero_add, h.cellAt i hi', (List.getElem?_eq_some_iff.1 hi).2]
end Go.Proofs.YtefkklgelmbaiaaDoor
set_option linter.unusedSimpArgs false
set_option linter.unusedVariables false
namespace Go.Proofs.YtefkklgelmbaiaaDoor
open Go.RowKit Go.Proofs

/-- the reader's block -/
def RB (w : World) (g : Nat) (A : Option Addr) (c : Nat) (L : List Int) (i : Nat) (ok : Bool) : Prop := w.heap[g]? = some (.cells #[.slice A L.length c, .int .i64 i, .bool ok] 68 (0, 0))
theorem fr_grown {w w' : World} (q : Fr w w') (r : Option Nat) : w.grownBy w' r := ⟨q.below.os, q.below.tape, q.below.output, q.below.size, fun k hk _ => q.below.block k hk⟩
theorem set_grown {w : World} {g : Nat} {cs : Array Value} {t : TypeId} (H : w.heap[g]? = some (.cells cs t (0, 0))) (j : Nat) (v : Value) :
    ∃ w1, w.setCell ⟨g, j, none⟩ v = w1 ∧ w1.heap[g]? = some (.cells (cs.setIfInBounds j v) t (0, 0)) ∧ w.grownBy w1 (some g) := by
  have hb : Below g w (w.setCell ⟨g, j, none⟩ v) := (Below.refl g w).setCell (Nat.le_refl _) v
  refine ⟨_, rfl, ?_, ⟨hb.os, hb.tape, hb.output, hb.size, fun k hk hn => ?_⟩⟩
  · simp [World.setCell, Array.getElem?_modify, H]
  · exact Below.heap_setCell w _ v k (fun e => hn (by rw [e]))
theorem var_grown {P : Program} {w w' : World} {n : String} {k g : Nat} {cs : Array Value} (hk : P.globalNamed n = some k) (q : w.grownBy w' (some g)) (hne : k ≠ g) (h : w.var? P n = some cs) : w'.var? P n = some cs := by
  have hlt : k < w.heap.size := by
    simp only [World.var?, hk, Option.bind_some] at h
    split at h
    · rename_i heq; exact (Array.getElem?_eq_some_iff.1 heq).1
    · cases h
  simp only [World.var?, hk, Option.bind_some] at h ⊢
  rw [q.block k hlt (fun e => hne (by injection e))]
  exact h
/-- the globals lie below every block that a walk writes into -/
theorem Ok.grown {w w' : World} (h : Ok w) {g : Nat} (hg : 7 ≤ g) (q : w.grownBy w' (some g)) : Ok w' where
  fType := var_grown gFType q (by omega) h.fType
  fParent := var_grown gFParent q (by omega) h.fParent
  fSize := var_grown gFSize q (by omega) h.fSize
  fMode := var_grown gFMode q (by omega) h.fMode
  fStamp := var_grown gFStamp q (by omega) h.fStamp
  fShadow := var_grown gFShadow q (by omega) h.fShadow
set_option maxHeartbeats 3200000 in
set_option maxRecDepth 100000 in
theorem take_yes (g gb ob c : Nat) (L : List Int) (i n : Nat) (w : World) (hw : Ok w) (H : RB w g (some ⟨gb, ob, none⟩) c L i true) (hi : i + n ≤ L.length) (hc : L.length ≤ c) (hL : L.length ≤ 1099511627776) (hg : 7 ≤ g) :
    Calls Tryd.prog 39 #[.pointer (some ⟨g, 0, none⟩), .int .i64 n] w fun e w' => ∃ o' c', e = .returned (.slice (some ⟨gb, o', none⟩) n c') ∧ n ≤ c' ∧ (n = 0 ∨ o' = ob + i) ∧ w.grownBy w' (some g) ∧ RB w' g (some ⟨gb, ob, none⟩) c L (i + n) true := by
  unfold RB at *
  have f := Fr.refl hw
  obtain ⟨c0, c1, c2⟩ := blk3 H
  have w1 : IntKind.i64.wrap ((L.length : Int) - (i : Int)) = (L.length : Int) - (i : Int) := IntWalk.i64_in _ ⟨by omega, by omega⟩
  have d1 : decide (((L.length : Int) - (i : Int)) < (n : Int)) = false := decide_eq_false (by omega)
  go_enter Tryd.func39, Tryd.ntmps39
  go_wp2
  have r_c0 := cell_regrown c0
  have r_c1 := cell_regrown c1
  have r_c2 := cell_regrown c2
  refine wp_region_quiet_below (by kernel_rfl) (by kernel_rfl) ?_
  repeat (go_big_quiet_step (fail))
  refine wpQuiet_nil ?_
  intro wq hwq
  have q := Fr.regrown f.ok hwq
  clear hwq r_c0 r_c1 r_c2
  replace c0 := q.cell c0
  replace c1 := q.cell c1
  replace c2 := q.cell c2
  replace H := q.heap H
  replace f := f.trans q
  clear q
  clear w1 d1
  have w2 : IntKind.i64.wrap ((i : Int) + (n : Int)) = (i : Int) + (n : Int) := IntWalk.i64_in _ ⟨by omega, by omega⟩
  have w3 : IntKind.i64.wrap ((i : Int) + (n : Int) - (n : Int)) = (i : Int) := by rw [IntWalk.i64_in _ ⟨by omega, by omega⟩]; omega
  have z1 := unfroz H 1
  obtain ⟨wb, hwb, HB, gr⟩ := set_grown H 1 (.int .i64 ((i : Int) + (n : Int)))
  simp only [List.setIfInBounds_toArray, List.set_cons_zero, List.set_cons_succ] at HB
  obtain ⟨e0, e1, e2⟩ := blk3 HB
  have h1 : (i : Int) ≤ (i : Int) + (n : Int) := by omega
  have h2 : (i : Int) + (n : Int) ≤ (c : Int) := by omega
  have h3 : (0 : Int) ≤ (i : Int) := by omega
  have gr2 := grown_trans (fr_grown f (some g)) gr
  have f2 := Fr.refl (hw.grown hg gr2)
  go_wp2
  clear w2 z1 hwb c0 c1 c2
  have r_e0 := cell_regrown e0
  have r_e1 := cell_regrown e1
  have r_e2 := cell_regrown e2
  refine wp_region_quiet_below (by kernel_rfl) (by kernel_rfl) ?_
  repeat (go_big_quiet_step (fail))
  refine wpQuiet_nil ?_
  intro wq hwq
  have q := Fr.regrown f2.ok hwq
  clear hwq r_e0 r_e1 r_e2
  replace e0 := q.cell e0
  replace e1 := q.cell e1
  replace e2 := q.cell e2
  replace HB := q.heap HB
  replace f2 := f2.trans q
  clear q
  have HE := Lib.hid (And.intro (grown_trans gr2 (fr_grown f2 (some g))) HB)
  clear gr gr2 f f2 HB
  by_cases hci : c = i
  · have hci2 : (c : Int) = (i : Int) := by omega
    go_wp2
    all_goals (go_ret; exact ⟨_, _, rfl, by omega, .inl (by omega), HE.out.1, (by have := HE.out.2; rw [hci] at this; first | exact this | (rw [Int.natCast_add]; exact this))⟩)
  · have hci2 : ¬ (c : Int) = (i : Int) := by omega
    go_wp2
    go_ret
    exact ⟨_, _, rfl, by omega, .inr rfl, HE.out.1, HE.out.2⟩
set_option maxHeartbeats 3200000 in
set_option maxRecDepth 100000 in
theorem take_no (g : Nat) (A : Option Addr) (c : Nat) (L : List Int) (i n : Nat) (ok : Bool) (w : World) (hw : Ok w) (H : RB w g A c L i ok) (hi : i ≤ L.length) (hn : n ≤ 1099511627776) (hno : ok = false ∨ L.length < i + n) (hL : L.length ≤ 1099511627776) :
    Calls Tryd.prog 39 #[.pointer (some ⟨g, 0, none⟩), .int .i64 n] w fun e w' => e = .returned (.slice none 0 0) ∧ w.grownBy w' (some g) ∧ RB w' g A c L i false := by
  unfold RB at *
  have f := Fr.refl hw
  obtain ⟨c0, c1, c2⟩ := blk3 H
  have w1 : IntKind.i64.wrap ((L.length : Int) - (i : Int)) = (L.length : Int) - (i : Int) := IntWalk.i64_in _ ⟨by omega, by omega⟩
  cases ok with
  | false =>
    have z1 := unfroz H 2
    go_enter Tryd.func39, Tryd.ntmps39
    go_wp2
    have r_c0 := cell_regrown c0
    have r_c1 := cell_regrown c1
    have r_c2 := cell_regrown c2
    refine wp_region_quiet_below (by kernel_rfl) (by kernel_rfl) ?_
    repeat (go_big_quiet_step (fail))
    refine wpQuiet_nil ?_
    intro wq hwq
    have q := Fr.regrown f.ok hwq
    clear hwq r_c0 r_c1 r_c2
    replace c0 := q.cell c0
    replace c1 := q.cell c1
    replace c2 := q.cell c2
    replace H := q.heap H
    replace f := f.trans q
    clear q
    have z1 := unfroz H 2
    obtain ⟨wb, hwb, HB, gr⟩ := set_grown H 2 (.bool false)
    simp only [List.setIfInBounds_toArray, List.set_cons_zero, List.set_cons_succ] at HB
    go_wp2
    go_ret
    exact ⟨rfl, grown_trans (fr_grown f _) gr, HB⟩
  | true =>
    have d1 : decide (((L.length : Int) - (i : Int)) < (n : Int)) = true := decide_eq_true (by rcases hno with h | h; cases h; omega)
    go_enter Tryd.func39, Tryd.ntmps39
    go_wp2
    have r_c0 := cell_regrown c0
    have r_c1 := cell_regrown c1
    have r_c2 := cell_regrown c2
    refine wp_region_quiet_below (by kernel_rfl) (by kernel_rfl) ?_
    repeat (go_big_quiet_step (fail))
    refine wpQuiet_nil ?_
    intro wq hwq
    have q := Fr.regrown f.ok hwq
    clear hwq r_c0 r_c1 r_c2
    replace c0 := q.cell c0
    replace c1 := q.cell c1
    replace c2 := q.cell c2
    replace H := q.heap H
    replace f := f.trans q
    clear q
    have z1 := unfroz H 2
    obtain ⟨wb, hwb, HB, gr⟩ := set_grown H 2 (.bool false)
    simp only [List.setIfInBounds_toArray, List.set_cons_zero, List.set_cons_succ] at HB
    go_wp2
    go_ret
    exact ⟨rfl, grown_trans (fr_grown f _) gr, HB⟩

/-- the value of the bytes from k on -/
theorem leV_step {l : List Int} {k : Nat} (h : k < l.length) : leV (l.drop k) = l[k] + 256 * leV (l.drop (k + 1)) := by
  rw [List.drop_eq_getElem_cons h]; rfl
theorem u64_256 {l : List Int} (hb : bytesOk l) (h8 : l.length ≤ 8) {k : Nat} (h : k < l.length) : IntKind.u64.wrap (256 * leV (l.drop (k + 1))) = 256 * leV (l.drop (k + 1)) ∧ IntKind.u64.wrap (256 * leV (l.drop (k + 1)) + l[k]) = leV (l.drop k) ∧ IntKind.u64.wrap l[k] = l[k] := by
  have h1 := leV_u64 (hb.drop k) (by rw [List.length_drop]; omega)
  have h2 := leV_step h
  have h3 := leV_nonneg (hb.drop (k + 1))
  have h4 := hb _ (List.getElem_mem h)
  rw [h2] at h1
  refine ⟨u64_in ⟨by omega, by omega⟩, ?_, u64_in ⟨by omega, by omega⟩⟩
  rw [h2, u64_in ⟨by omega, by omega⟩]; omega

/-- what the reader holds: where it stands, or that it failed -/
def RR (w : World) (g : Nat) (A : Option Addr) (c : Nat) (L : List Int) (o : Option Nat) : Prop := ∃ i, i ≤ L.length ∧ (∀ j, o = some j → i = j) ∧ RB w g A c L i o.isSome
def numR (L : List Int) (size : Nat) (most : Int) : Option Nat → Int × Option Nat
  | none => (0, none)
  | some i => match numP L size most i with
    | some (v, j) => (v, some j)
    | none => (0, none)

set_option maxHeartbeats 6400000 in
set_option maxRecDepth 100000 in
theorem number_go (g gb ob c : Nat) (L : List Int) (o : Option Nat) (size : Nat) (most : Int) (w : World) (hw : Ok w) (H : RR w g (some ⟨gb, ob, none⟩) c L o) (hA : BytesAt w (some ⟨gb, ob, none⟩) L) (hgb : gb ≠ g) (hb : bytesOk L) (hs : 1 ≤ size ∧ size ≤ 8) (hm : 0 ≤ most ∧ most ≤ 281474976710656) (hc : L.length ≤ c) (hL : L.length ≤ 1073741824) (hg : 7 ≤ g) :
    Calls Tryd.prog 23 #[.pointer (some ⟨g, 0, none⟩), .int .i64 size, .int .u64 most] w fun e w' => e = .returned (.int .i64 (numR L size most o).1) ∧ w.grownBy w' (some g) ∧ RR w' g (some ⟨gb, ob, none⟩) c L (numR L size most o).2 := by
  obtain ⟨i, hi, hoi, HB⟩ := H
  by_cases hok : o = some i ∧ i + size ≤ L.length
  · obtain ⟨rfl, hle⟩ := hok
    obtain ⟨bs, hbs⟩ : ∃ bs, (L.drop i).take size = bs := ⟨_, rfl⟩
    have hbl : bs.length = size := by rw [← hbs, List.length_take, List.length_drop]; omega
    have hbb : bytesOk bs := by rw [← hbs]; exact (hb.drop i).take size
    have hsub := hA.sub i size
    rw [hbs] at hsub
    have hnp : numP L size most i = if leV bs ≤ most then some (leV bs, i + size) else none := by
      unfold numP; rw [hbs]
      by_cases h : leV bs ≤ most
      · rw [if_pos h, if_pos ⟨hle, h⟩]
      · rw [if_neg h, if_neg (fun k => h k.2)]
    have hcells : ∀ j (h : j < bs.length), w.cell? ⟨gb, ob + i + j, none⟩ = some (.int .u8 bs[j]) := by
      rcases hsub with h | ⟨g', o', e, _, h⟩
      · intro j hj; rw [h] at hj; simp at hj
      · injection e with e; injection e with e1 e2; subst e1 e2
        intro j hj; exact h j _ (List.getElem?_eq_getElem hj)
    have HS := Lib.hid hcells
    have HU := Lib.hid (fun k h => u64_256 hbb (by omega) (k := k) h)
    have HV := leV_u64 hbb (by omega)
    clear hcells hsub hbs
    have HT := Lib.hid (take_yes g gb ob c L i size w hw HB hle hc (by omega) hg)
    have ws : IntKind.i64.wrap ((bs.length : Int) - 1) = (bs.length : Int) - 1 := IntWalk.i64_in _ ⟨by omega, by omega⟩
    subst hbl
    go_enter Tryd.func23, Tryd.ntmps23
    go_wp2_with (go_at_call 39; refine HT.out.mono ?_; rintro e wx ⟨o', c', rfl, hc', ho', gr, HR⟩; obtain rfl : o' = ob + i := (by omega))
    have HC : Hid (∀ j (h : j < bs.length), wx.cell? ⟨gb, ob + i + j, none⟩ = some (.int .u8 bs[j])) := Lib.hid (fun j h => cell_grown (g := 0) gr (HS.out j h) (fun e => hgb (by injection e)))
    go_loopg [8, 9] bs.length (fun k v8 v9 wc => k ≤ bs.length ∧ v8 = .int .u64 (leV (bs.drop k)) ∧ v9 = .int .i64 ((k : Int) - 1) ∧ wc = wx)
    case atStart => exact ⟨Nat.le_refl _, by rw [List.drop_length]; rfl, rfl, rfl⟩
    case round =>
      obtain ⟨hk, rfl, rfl, rfl⟩ := hrel
      cases gk with
      | zero =>
        have d4 : decide ((0 : Int) ≤ ((0 : Nat) : Int) - 1) = false := decide_eq_false (by omega)
        rw [List.drop_zero]
        unfold RB at HR
        by_cases hmost : leV bs ≤ most
        · rw [if_pos hmost] at hnp
          have hr : numR L bs.length most (some i) = (leV bs, some (i + bs.length)) := by simp only [numR, hnp]
          have HR9 := Lib.hid hr
          have d7 : decide (most < leV bs) = false := decide_eq_false (by omega)
          have wv : IntKind.i64.wrap (leV bs) = leV bs := IntWalk.i64_in _ ⟨by omega, by omega⟩
          obtain ⟨c0, c1, c2⟩ := blk3 HR
          clear hnp hr
          go_wp2
          go_ret
          exact ⟨(by rw [HR9.out]; rfl), gr, by rw [HR9.out]; exact ⟨i + bs.length, hle, fun j e => (by injection e), HR⟩⟩
        · rw [if_neg hmost] at hnp
          have hr : numR L bs.length most (some i) = (0, none) := by simp only [numR, hnp]
          have HR9 := Lib.hid hr
          have d7 : decide (most < leV bs) = true := decide_eq_true (by omega)
          obtain ⟨c0, c1, c2⟩ := blk3 HR
          have z2 := unfroz HR 2
          obtain ⟨wy, hwy, HY, gr2⟩ := set_grown HR 2 (.bool false)
          simp only [List.setIfInBounds_toArray, List.set_cons_zero, List.set_cons_succ] at HY
          obtain ⟨e0, e1, e2⟩ := blk3 HY
          clear hnp hr
          go_wp2
          go_ret
          exact ⟨(by rw [HR9.out]; rfl), grown_trans gr gr2, by rw [HR9.out]; exact ⟨i + bs.length, hle, fun j e => (by cases e), HY⟩⟩
      | succ k =>
        have d4 : decide ((0 : Int) ≤ ((k + 1 : Nat) : Int) - 1) = true := decide_eq_true (by omega)
        obtain ⟨u1, u2, u3⟩ := HU.out k (by omega)
        have e0 := HC.out k (by omega)
        have hk1 : ((k + 1 : Nat) : Int) - 1 = (k : Int) := by omega
        rw [hk1] at d4
        rw [hk1]
        have wk : IntKind.i64.wrap ((k : Int) - 1) = (k : Int) - 1 := IntWalk.i64_in _ ⟨by omega, by omega⟩
        have hkn : (k : Int) < (bs.length : Int) := by omega
        have hk0 : (0 : Int) ≤ (k : Int) := by omega
        go_wp2
        go_roundg k
        case measure => omega
        case rel => exact ⟨by omega, rfl, rfl, rfl⟩
  · have hr : numR L size most o = (0, none) := by
      cases o with
      | none => rfl
      | some j =>
        obtain rfl := hoi j rfl
        have hno : ¬ i + size ≤ L.length := fun h => hok ⟨rfl, h⟩
        have hnp : numP L size most i = none := by unfold numP; rw [if_neg (fun k => hno k.1)]
        simp only [numR, hnp]
    rw [hr]
    have hno : o.isSome = false ∨ L.length < i + size := by
      cases o with
      | none => exact .inl rfl
      | some j =>
        obtain rfl := hoi j rfl
        right
        by_cases h : i + size ≤ L.length
        · exact absurd ⟨rfl, h⟩ hok
        · omega
    have HT := Lib.hid (take_no g (some ⟨gb, ob, none⟩) c L i size o.isSome w hw HB hi (by omega) hno (by omega))
    have d7 : decide (most < 0) = false := decide_eq_false (by omega)
    clear hr hno hok hoi HB hA
    go_enter Tryd.func23, Tryd.ntmps23
    go_wp2_with (go_at_call 39; refine HT.out.mono ?_; rintro e wx ⟨rfl, gr, HR⟩; unfold RB at HR; obtain ⟨c0, c1, c2⟩ := blk3 HR)
    go_loopg [8, 9] 0 (fun k v8 v9 wc => v8 = .int .u64 0 ∧ v9 = .int .i64 (-1) ∧ wc = wx)
    case atStart => exact ⟨rfl, rfl, rfl⟩
    case round =>
      obtain ⟨rfl, rfl, rfl⟩ := hrel
      go_wp2
      go_ret
      exact ⟨rfl, gr, i, hi, fun j e => (by cases e), HR⟩
set_option maxHeartbeats 3200000 in
set_option maxRecDepth 100000 in
theorem number_nil (g : Nat) (A : Option Addr) (c : Nat) (o : Option Nat) (size : Nat) (most : Int) (w : World) (hw : Ok w) (H : RR w g A c [] o) (hs : 1 ≤ size ∧ size ≤ 8) (hm : 0 ≤ most ∧ most ≤ 281474976710656) :
    Calls Tryd.prog 23 #[.pointer (some ⟨g, 0, none⟩), .int .i64 size, .int .u64 most] w fun e w' => e = .returned (.int .i64 (numR [] size most o).1) ∧ w.grownBy w' (some g) ∧ RR w' g A c [] (numR [] size most o).2 := by
  obtain ⟨i, hi, hoi, HB⟩ := H
  have hr : numR [] size most o = (0, none) := by
    cases o with
    | none => rfl
    | some j =>
      have hnp : numP [] size most j = none := by unfold numP; rw [if_neg (fun k => by have := k.1; simp at this; omega)]
      simp only [numR, hnp]
  rw [hr]
  have hi0 : i = 0 := by simpa using hi
  have HT := Lib.hid (take_no g A c [] i size o.isSome w hw HB hi (by omega) (.inr (by simp; omega)) (by simp))
  have d7 : decide (most < 0) = false := decide_eq_false (by omega)
  clear hr hoi HB hi0
  go_enter Tryd.func23, Tryd.ntmps23
  go_wp2_with (go_at_call 39; refine HT.out.mono ?_; rintro e wx ⟨rfl, gr, HR⟩; unfold RB at HR; obtain ⟨c0, c1, c2⟩ := blk3 HR)
  go_loopg [8, 9] 0 (fun k v8 v9 wc => v8 = .int .u64 0 ∧ v9 = .int .i64 (-1) ∧ wc = wx)
  case atStart => exact ⟨rfl, rfl, rfl⟩
  case round =>
    obtain ⟨rfl, rfl, rfl⟩ := hrel
    go_wp2
    go_ret
    exact ⟨rfl, gr, i, hi, fun j e => (by cases e), HR⟩
theorem number_any (g : Nat) (A : Option Addr) (c : Nat) (L : List Int) (o : Option Nat) (size : Nat) (most : Int) (w : World) (hw : Ok w) (H : RR w g A c L o) (hA : BytesAt w A L) (hgb : ∀ a, A = some a → a.block ≠ g) (hb : bytesOk L) (hs : 1 ≤ size ∧ size ≤ 8) (hm : 0 ≤ most ∧ most ≤ 281474976710656) (hc : L.length ≤ c) (hL : L.length ≤ 1073741824) (hg : 7 ≤ g) :
    Calls Tryd.prog 23 #[.pointer (some ⟨g, 0, none⟩), .int .i64 size, .int .u64 most] w fun e w' => e = .returned (.int .i64 (numR L size most o).1) ∧ w.grownBy w' (some g) ∧ RR w' g A c L (numR L size most o).2 := by
  rcases hA with h | ⟨gb, ob, rfl, hlt, h⟩
  · subst h
    exact number_nil g A c o size most w hw H hs hm
  · exact number_go g gb ob c L o size most w hw H (.inr ⟨gb, ob, rfl, hlt, h⟩) (hgb _ rfl) hb hs hm hc hL hg
/-- taking some bytes, or none -/
def takeR (L : List Int) (n : Nat) : Option Nat → List Int × Option Nat
  | none => ([], none)
  | some i => if i + n ≤ L.length then ((L.drop i).take n, some (i + n)) else ([], none)
theorem take_any (g : Nat) (A : Option Addr) (c : Nat) (L : List Int) (o : Option Nat) (n : Nat) (w : World) (hw : Ok w) (H : RR w g A c L o) (hA : BytesAt w A L) (hgb : ∀ a, A = some a → a.block ≠ g) (hn : n ≤ 1099511627776) (hn0 : L = [] → o = none) (hc : L.length ≤ c) (hL : L.length ≤ 1073741824) (hg : 7 ≤ g) :
    Calls Tryd.prog 39 #[.pointer (some ⟨g, 0, none⟩), .int .i64 n] w fun e w' => ∃ B d, e = .returned (.slice B (takeR L n o).1.length d) ∧ (takeR L n o).1.length ≤ d ∧ BytesAt w' B (takeR L n o).1 ∧ w.grownBy w' (some g) ∧ RR w' g A c L (takeR L n o).2 := by
  obtain ⟨i, hi, hoi, HB⟩ := H
  have hno : (takeR L n o = ([], none) ∧ (o.isSome = false ∨ L.length < i + n)) ∨ (o = some i ∧ i + n ≤ L.length) := by
    cases o with
    | none => exact .inl ⟨rfl, .inl rfl⟩
    | some j =>
      obtain rfl := hoi j rfl
      by_cases h : i + n ≤ L.length
      · exact .inr ⟨rfl, h⟩
      · exact .inl ⟨by simp only [takeR, if_neg h], .inr (by omega)⟩
  rcases hno with ⟨hr, hno⟩ | ⟨rfl, hle⟩
  · rw [hr]
    refine (take_no g A c L i n o.isSome w hw HB hi hn hno (by omega)).mono ?_
    rintro e w' ⟨rfl, gr, HR⟩
    exact ⟨none, 0, rfl, Nat.zero_le _, .inl rfl, gr, i, hi, fun j e => (by cases e), HR⟩
  · rcases hA with h | ⟨gb, ob, rfl, hlt, h⟩
    · exact absurd (hn0 h) (by simp)
    · have hr : takeR L n (some i) = ((L.drop i).take n, some (i + n)) := by simp only [takeR, if_pos hle]
      have hA : BytesAt w (some ⟨gb, ob, none⟩) L := .inr ⟨gb, ob, rfl, hlt, h⟩
      have hl : ((L.drop i).take n).length = n := by rw [List.length_take, List.length_drop]; omega
      rw [hr]
      refine (take_yes g gb ob c L i n w hw HB hle hc (by omega) hg).mono ?_
      rintro e w' ⟨o', d, rfl, hd, ho', gr, HR⟩
      refine ⟨some ⟨gb, o', none⟩, d, by rw [hl], by rw [hl]; exact hd, ?_, gr, i + n, hle, fun j e => (by injection e), HR⟩
      have hA' := hA.grown gr (fun a e => by injection e with e; subst e; intro e; injection e with e; exact hgb _ rfl e)
      rcases ho' with h0 | h0
      · subst h0; left; simp
      · subst h0; exact hA'.sub i n
end Go.Proofs.YtefkklgelmbaiaaDoor
set_option linter.unusedSimpArgs false
set_option linter.unusedVariables false
namespace Go.Proofs.YtefkklgelmbaiaaDoor
open Go.RowKit Go.Proofs

theorem RR.fr {w w' : World} {g : Nat} {A : Option Addr} {c : Nat} {L : List Int} {o : Option Nat} (h : RR w g A c L o) (q : Fr w w') : RR w' g A c L o := by
  obtain ⟨i, h1, h2, h3⟩ := h
  exact ⟨i, h1, h2, q.heap h3⟩
theorem RR.grown {w w' : World} {g : Nat} {A : Option Addr} {c : Nat} {L : List Int} {o : Option Nat} {r : Option Nat} (h : RR w g A c L o) (q : w.grownBy w' r) (hne : some g ≠ r) : RR w' g A c L o := by
  obtain ⟨i, h1, h2, h3⟩ := h
  exact ⟨i, h1, h2, grown_blk' q h3 hne⟩
/-- what is written in a block that was not there counts as new -/
theorem grown_new {a b c : World} {r : Option Nat} {g1 : Nat} (h : a.grownBy b r) (k : b.grownBy c (some g1)) (hg : a.heap.size ≤ g1) : a.grownBy c r :=
  ⟨k.os.trans h.os, k.tape.trans h.tape, k.output.trans h.output, Nat.le_trans h.size k.size, fun i hi hn => (k.block i (Nat.lt_of_lt_of_le hi h.size) (fun e => by injection e with e; omega)).trans (h.block i hi hn)⟩
theorem grown_fr {a b c : World} {r : Option Nat} (h : a.grownBy b r) (k : Fr b c) : a.grownBy c r := grown_trans h (fr_grown k r)

def placeR (L : List Int) (o : Option Nat) : (Int × Int) × Option Nat :=
  (((numR L 2 4095 o).1, (numR L 2 255 (numR L 2 4095 o).2).1), (numR L 2 255 (numR L 2 4095 o).2).2)

set_option maxHeartbeats 3200000 in
set_option maxRecDepth 100000 in
theorem place14_any (g : Nat) (A : Option Addr) (c : Nat) (L : List Int) (o : Option Nat) (w : World) (hw : Ok w) (H : RR w g A c L o) (hA : BytesAt w A L) (hgb : ∀ a, A = some a → a.block ≠ g) (hb : bytesOk L) (hc : L.length ≤ c) (hL : L.length ≤ 1073741824) (hg : 7 ≤ g) :
    Calls Tryd.prog 41 #[.pointer (some ⟨g, 0, none⟩)] w fun e w' => e = .returned (.agg #[.int .i64 (placeR L o).1.1, .int .i64 (placeR L o).1.2]) ∧ w.grownBy w' (some g) ∧ RR w' g A c L (placeR L o).2 := by
  obtain ⟨w1, g1, hg1, hw1, f1, hz1, H1⟩ := boxedN hw #[.int .i64 0, .int .i64 0] 50
  have hlt : g < w.heap.size := by obtain ⟨_, _, _, h⟩ := H; exact (Array.getElem?_eq_some_iff.1 h).1
  have hgg : g1 ≠ g := by omega
  have hN1 := Lib.hid (number_any g A c L o 2 4095 w1 f1.ok (H.fr f1) (hA.fr f1) hgb hb (by omega) (by omega) hc hL hg)
  have hN2 := Lib.hid (fun W hW h1 h2 => number_any g A c L (numR L 2 4095 o).2 2 255 W hW h1 h2 hgb hb (by omega) (by omega) hc hL hg)
  have gr := fr_grown f1 (some g)
  replace hA := hA.fr f1
  have hok1 := f1.ok
  clear f1
  have tok0 : True := trivial
  go_enter Tryd.func41, Tryd.ntmps41
  go_wp2_with (first
    | (go_at_call 23; have _t := tok0; refine hN1.out.mono ?_; rintro e wx ⟨rfl, q, HR⟩; have hok2 := hok1.grown hg q; have hA2 := hA.grown q (fun a e => by intro k; injection k with k; exact hgb a e k); replace H1 := grown_blk' q H1 (by simpa using hgg); replace gr := grown_trans gr q; clear q tok0; have tok1 : True := trivial)
    | (go_at_call 23; have _t := tok1; refine (hN2.out _ hok2 HR hA2).mono ?_; rintro e wy ⟨rfl, q, HR2⟩; replace H1 := grown_blk' q H1 (by simpa using hgg); replace gr := grown_trans gr q; clear q tok1; obtain ⟨c0, c1⟩ := blk2 H1; have z0 := unfroz H1 0; obtain ⟨wa, hwa, Ha, gra⟩ := set_grown H1 0 (.int .i64 (numR L 2 4095 o).1); simp only [List.setIfInBounds_toArray, List.set_cons_zero, List.set_cons_succ] at Ha; have ca := (blk2 Ha).2; have za := unfroz Ha 1; obtain ⟨wb, hwb, Hb, grb⟩ := set_grown Ha 1 (.int .i64 (numR L 2 255 (numR L 2 4095 o).2).1); simp only [List.setIfInBounds_toArray, List.set_cons_zero, List.set_cons_succ] at Hb))
  refine bodyPost_ret (results_cell_row rfl _ _ g1 50 _ (0, 0) _ rfl Hb Tryd.underlying50 rfl (by kernel_rfl)) rfl ?_
  exact ⟨rfl, grown_new (grown_new gr gra (by omega)) grb (by omega), (HR2.grown gra (by simpa using hgg.symm)).grown grb (by simpa using hgg.symm)⟩
end Go.Proofs.YtefkklgelmbaiaaDoor
set_option linter.unusedSimpArgs false
set_option linter.unusedVariables false
namespace Go.Proofs.YtefkklgelmbaiaaDoor
open Go.RowKit Go.Proofs Go.Proofs.YtefkklgelmbaiaaDoorW.PrintWords Go.Proofs.YtefkklgelmbaiaaDoorW.PrintLast Go.Proofs.YtefkklgelmbaiaaDoorW.PrintMore

theorem leV_snoc (l : List Int) (b : Int) : leV (l ++ [b]) = leV l + b * 256 ^ l.length := by
  induction l with
  | nil => simp [leV]
  | cons x r ih =>
    simp only [List.cons_append, leV, ih, List.length_cons, Int.pow_succ, Int.mul_add]
    have : b * (256 ^ r.length * 256) = 256 * (b * 256 ^ r.length) := by
      rw [← Int.mul_assoc, Int.mul_comm]
    omega
theorem or_step {M : List Int} (hM : bytesOk M) {a i size : Nat} (hi : i < size) (hs : size ≤ 8) (hl : a + size ≤ M.length) :
    Go.bits .or .u64 (leV ((M.drop a).take i)) (shl .u64 (M.getD (a + i) 0) (8 * (i : Int))) = leV ((M.drop a).take (i + 1)) := by
  have hlen : ((M.drop a).take i).length = i := by rw [List.length_take, List.length_drop]; omega
  have hb := hM _ (List.getElem_mem (show a + i < M.length by omega))
  have hg : M.getD (a + i) 0 = M[a + i] := by simp [List.getD, show a + i < M.length by omega]
  have hsn : (M.drop a).take (i + 1) = (M.drop a).take i ++ [M[a + i]] := by
    rw [List.take_succ_eq_append_getElem (by rw [List.length_drop]; omega)]
    simp
  have hx0 := leV_nonneg ((hM.drop a).take i)
  have hx1 := leV_lt ((hM.drop a).take i)
  rw [hlen] at hx1
  rw [hg, hsn, leV_snoc, hlen]
  obtain ⟨x, hx⟩ : ∃ x : Nat, leV ((M.drop a).take i) = (x : Int) := ⟨_, (Int.toNat_of_nonneg hx0).symm⟩
  obtain ⟨b, hbn⟩ : ∃ b : Nat, M[a + i] = (b : Int) := ⟨_, (Int.toNat_of_nonneg hb.1).symm⟩
  rw [hx] at hx0 hx1 ⊢
  rw [hbn] at hb ⊢
  have hb255 : b ≤ 255 := by omega
  have hpow : (256 : Int) ^ i = ((2 ^ (8 * i) : Nat) : Int) := by
    rw [Nat.pow_mul]; simp
  have hxl : x < 2 ^ (8 * i) := by
    rw [hpow] at hx1; exact_mod_cast hx1
  have hp56 : 2 ^ (8 * i) ≤ 2 ^ 56 := Nat.pow_le_pow_right (by decide) (by omega)
  have hmul : b * 2 ^ (8 * i) ≤ 255 * 2 ^ 56 := Nat.mul_le_mul hb255 hp56
  have hsh : shl .u64 (b : Int) (8 * (i : Int)) = ((b * 2 ^ (8 * i) : Nat) : Int) := by
    unfold shl
    have h8 : (8 * (i : Int)).toNat = 8 * i := by omega
    have hbits : IntKind.u64.bits = 64 := rfl
    rw [h8, hbits, Nat.min_eq_left (by omega)]
    have : (b : Int) * 2 ^ (8 * i) = ((b * 2 ^ (8 * i) : Nat) : Int) := by simp
    rw [this]
    exact u64_in ⟨by omega, by omega⟩
  rw [hsh, bits_or_u64_nat _ _ (by omega) (by omega), hpow]
  have hor : x ||| b * 2 ^ (8 * i) = x + b * 2 ^ (8 * i) := by
    rw [Nat.or_comm, Nat.mul_comm, ← Nat.two_pow_add_eq_or_of_lt hxl, Nat.add_comm]
  rw [hor]
  simp

theorem wr64 {n : Int} (h : -9223372036854775808 ≤ n ∧ n ≤ 9223372036854775807) : wrap64 n = n := by unfold wrap64; omega
theorem idx_facts (M : List Int) (hM : bytesOk M) (a size i : Nat) (hs : size ≤ 8) (hl : a + size ≤ M.length) (hL : M.length ≤ 1073741824) (h : i < size) :
    wrap64 ((a : Int) + (i : Int)) = (((a + i : Nat)) : Int) ∧ wrap64 (8 * (i : Int)) = 8 * (i : Int) ∧ wrap64 ((i : Int) + 1) = ((i + 1 : Nat) : Int) ∧ IntKind.u64.wrap (8 * (i : Int)) = 8 * (i : Int) ∧ rd M (((a + i : Nat)) : Int) = M.getD (a + i) 0 ∧ IntKind.u64.wrap (M.getD (a + i) 0) = M.getD (a + i) 0 := by
  have hb := hM _ (List.getElem_mem (show a + i < M.length by omega))
  have hg : M.getD (a + i) 0 = M[a + i] := by simp [List.getD, show a + i < M.length by omega]
  have e1 : wrap64 ((a : Int) + (i : Int)) = (((a + i : Nat)) : Int) := by rw [wr64 ⟨by omega, by omega⟩]; omega
  have e2 : wrap64 (8 * (i : Int)) = 8 * (i : Int) := wr64 ⟨by omega, by omega⟩
  have e3 : wrap64 ((i : Int) + 1) = ((i + 1 : Nat) : Int) := by rw [wr64 ⟨by omega, by omega⟩]; omega
  have e4 : IntKind.u64.wrap (8 * (i : Int)) = 8 * (i : Int) := u64_in ⟨by omega, by omega⟩
  have e5 : rd M (((a + i : Nat)) : Int) = M.getD (a + i) 0 := by unfold rd; rw [Int.toNat_natCast]
  refine ⟨e1, e2, e3, e4, e5, ?_⟩
  rw [hg]
  exact u64_in ⟨hb.1, by omega⟩
theorem get_step (M : List Int) (hM : bytesOk M) (a size i k : Nat) (hs : size ≤ 8) (hl : a + size ≤ M.length) (hL : M.length ≤ 1073741824) (h : i < size) :
    Pget.shaleref08_get.l0 (k + 1) M a size (leV ((M.drop a).take i)) (i : Int) = Pget.shaleref08_get.l0 k M a size (leV ((M.drop a).take (i + 1))) ((i + 1 : Nat) : Int) := by
  obtain ⟨e1, e2, e3, e4, e5, e6⟩ := idx_facts M hM a size i hs hl hL h
  have hor := or_step hM h hs hl
  simp only [Pget.shaleref08_get.l0]
  rw [if_pos (show (i : Int) < size by omega), e1, if_pos (by omega), if_pos (by omega), e2, e4, if_pos (by omega), e3, e5, e6, hor]
theorem get_last (M : List Int) (a size k : Nat) (v : Int) : Pget.shaleref08_get.l0 (k + 1) M a size v (size : Int) = some v := by
  simp only [Pget.shaleref08_get.l0]
  rw [if_neg (by omega)]
theorem get_from (M : List Int) (hM : bytesOk M) (a size : Nat) (hs : size ≤ 8) (hl : a + size ≤ M.length) (hL : M.length ≤ 1073741824) : ∀ (d i k : Nat), i + d = size → d < k →
    Pget.shaleref08_get.l0 k M a size (leV ((M.drop a).take i)) (i : Int) = some (leV ((M.drop a).take size)) := by
  intro d
  induction d with
  | zero =>
    intro i k he hk
    obtain ⟨k, rfl⟩ : ∃ m, k = m + 1 := ⟨k - 1, by omega⟩
    obtain rfl : i = size := by omega
    exact get_last M a i k _
  | succ d ih =>
    intro i k he hk
    obtain ⟨k, rfl⟩ : ∃ m, k = m + 1 := ⟨k - 1, by omega⟩
    rw [get_step M hM a size i k hs hl hL (by omega)]
    exact ih (i + 1) k (by omega) (by omega)
theorem get_any (A : Option Addr) (c : Nat) (M : List Int) (hM : bytesOk M) (a size : Nat) (hs : size ≤ 8) (hl : a + size ≤ M.length) (hc : M.length ≤ c) (hL : M.length ≤ 1073741824) (w : World) (hw : Ok w) (hA : BytesAt w A M) :
    Calls Tryd.prog 56 #[.slice A M.length c, .int .i64 a, .int .i64 size] w fun e w' => e = .returned (.int .u64 (leV ((M.drop a).take size))) ∧ Fr w w' := by
  have hf : Pget.shaleref08_get.f (size + 1) M a size = some (leV ((M.drop a).take size)) := by
    have := get_from M hM a size hs hl hL size 0 (size + 1) (by omega) (by omega)
    unfold Pget.shaleref08_get.f
    simpa [leV] using this
  exact (Pget.shaleref08_get.calls _ A c M _ _ _ w (hA.toC (by omega)) hc hf).mono fun e w' ⟨he, hb⟩ => ⟨he, Fr.of hw hb.below⟩

theorem Get_step (M : List Int) (hM : bytesOk M) (a size i k : Nat) (hs : size ≤ 8) (hl : a + size ≤ M.length) (hL : M.length ≤ 1073741824) (h : i < size) :
    PGet.words_Get.l0 (k + 1) M a (leV ((M.drop a).take i)) size (i : Int) = PGet.words_Get.l0 k M a (leV ((M.drop a).take (i + 1))) size ((i + 1 : Nat) : Int) := by
  obtain ⟨e1, e2, e3, e4, e5, e6⟩ := idx_facts M hM a size i hs hl hL h
  have hor := or_step hM h hs hl
  simp only [PGet.words_Get.l0]
  rw [if_pos (show (i : Int) < size by omega), e1, if_pos (by omega), if_pos (by omega), e2, if_pos (by omega), e3, e5, e6, hor]
theorem Get_last (M : List Int) (a size k : Nat) (v : Int) : PGet.words_Get.l0 (k + 1) M a v size (size : Int) = some (v, 0) := by
  simp only [PGet.words_Get.l0]
  rw [if_neg (by omega)]
theorem Get_from (M : List Int) (hM : bytesOk M) (a size : Nat) (hs : size ≤ 8) (hl : a + size ≤ M.length) (hL : M.length ≤ 1073741824) : ∀ (d i k : Nat), i + d = size → d < k →
    PGet.words_Get.l0 k M a (leV ((M.drop a).take i)) size (i : Int) = some ((leV ((M.drop a).take size)), 0) := by
  intro d
  induction d with
  | zero =>
    intro i k he hk
    obtain ⟨k, rfl⟩ : ∃ m, k = m + 1 := ⟨k - 1, by omega⟩
    obtain rfl : i = size := by omega
    exact Get_last M a i k _
  | succ d ih =>
    intro i k he hk
    obtain ⟨k, rfl⟩ : ∃ m, k = m + 1 := ⟨k - 1, by omega⟩
    rw [Get_step M hM a size i k hs hl hL (by omega)]
    exact ih (i + 1) k (by omega) (by omega)
theorem Get_yes (A : Option Addr) (c : Nat) (M : List Int) (hM : bytesOk M) (a size : Nat) (h1 : 1 ≤ size) (hs : size ≤ 8) (hl : a + size ≤ M.length) (hc : M.length ≤ c) (hL : M.length ≤ 1073741824) (w : World) (hw : Ok w) (hA : BytesAt w A M) :
    Calls Tryd.prog 42 #[.slice A M.length c, .int .i64 a, .int .i64 size] w fun e w' => e = .returned (.tuple #[.int .u64 (leV ((M.drop a).take size)), .int .i64 0]) ∧ Fr w w' := by
  have hf : PGet.words_Get.f (size + 3) M a size = some (leV ((M.drop a).take size), 0) := by
    have := Get_from M hM a size hs hl hL size 0 (size + 1) (by omega) (by omega)
    unfold PGet.words_Get.f
    rw [if_neg (by omega), decide_eq_false (by omega)]
    simp only [PGet.words_Get.j0]
    rw [if_neg (by decide), if_neg (by omega), decide_eq_false (by rw [wr64 ⟨by omega, by omega⟩]; omega)]
    simp only [PGet.words_Get.j1]
    rw [if_neg (by decide)]
    simpa [leV] using this
  exact (PGet.words_Get.calls _ A c M _ _ _ _ w (hA.toC (by omega)) hc hf).mono fun e w' ⟨he, hb⟩ => ⟨he, Fr.of hw hb.below⟩
theorem Get_no (A : Option Addr) (c : Nat) (M : List Int) (a size : Nat) (h1 : 1 ≤ size) (hs : size ≤ 8) (hl : M.length < a + size) (ha : a ≤ M.length) (hc : M.length ≤ c) (hL : M.length ≤ 1073741824) (w : World) (hw : Ok w) (hA : BytesAt w A M) :
    Calls Tryd.prog 42 #[.slice A M.length c, .int .i64 a, .int .i64 size] w fun e w' => e = .returned (.tuple #[.int .u64 0, .int .i64 10]) ∧ Fr w w' := by
  have hf : PGet.words_Get.f 3 M a size = some (0, 10) := by
    unfold PGet.words_Get.f
    rw [if_neg (by omega), decide_eq_false (by omega)]
    simp only [PGet.words_Get.j0]
    rw [if_neg (by decide), if_neg (by omega), decide_eq_true (by rw [wr64 ⟨by omega, by omega⟩]; omega)]
    simp only [PGet.words_Get.j1, if_true]
  exact (PGet.words_Get.calls _ A c M _ _ _ _ w (hA.toC (by omega)) hc hf).mono fun e w' ⟨he, hb⟩ => ⟨he, Fr.of hw hb.below⟩
end Go.Proofs.YtefkklgelmbaiaaDoor
set_option linter.unusedSimpArgs false
set_option linter.unusedVariables false
namespace Go.Proofs.YtefkklgelmbaiaaDoor
open Go.RowKit Go.Proofs Go.Proofs.YtefkklgelmbaiaaDoorW.PrintWords Go.Proofs.YtefkklgelmbaiaaDoorW.PrintMore

def nodeOf (M : List Int) (k : Nat) : Nod :=
  ⟨M.getD 0 0, leV ((M.drop 1).take 4), strOfNums ((M.drop 24).take k), leV ((M.drop 5).take 4), leV ((M.drop 9).take 2), leV ((M.drop 11).take 8), leV ((M.drop 19).take 4), strOfNums (M.drop (25 + k))⟩
/-- a header read from bytes, and its error -/
def readNL (M : List Int) : Nod × Int :=
  if M.length < 24 then (Nod.zero, 80)
  else if M.length < 25 + (M.getD 23 0).toNat then (Nod.zero, 80)
  else if M.length ≠ 25 + (M.getD 23 0).toNat + (M.getD (24 + (M.getD 23 0).toNat) 0).toNat then (Nod.zero, 80)
  else if checkL (nodeOf M (M.getD 23 0).toNat) = 0 then (nodeOf M (M.getD 23 0).toNat, 0) else (Nod.zero, checkL (nodeOf M (M.getD 23 0).toNat))
theorem str_size (l : List Int) : (strOfNums l).size = l.length := by
  simp [strOfNums, ByteArray.size]
theorem leV_4 {l : List Int} (h : bytesOk l) {n : Nat} (hn : l.length ≤ n) (h4 : n ≤ 4) : 0 ≤ leV l ∧ leV l ≤ 4294967295 := by
  have h1 := leV_nonneg h
  have h2 := leV_lt h
  have h3 : (256 : Int) ^ l.length ≤ 4294967296 := by
    have : l.length = 0 ∨ l.length = 1 ∨ l.length = 2 ∨ l.length = 3 ∨ l.length = 4 := by omega
    rcases this with e | e | e | e | e <;> rw [e] <;> decide
  omega
theorem getD_byte {M : List Int} (hM : bytesOk M) (i : Nat) : 0 ≤ M.getD i 0 ∧ M.getD i 0 ≤ 255 := by
  by_cases h : i < M.length
  · have := hM _ (List.getElem_mem h)
    simpa [List.getD, h] using this
  · simp [List.getD, List.getElem?_eq_none (show M.length ≤ i by omega)]
theorem nodeOf_wf {M : List Int} (hM : bytesOk M) (hL : M.length ≤ 1073741824) (k : Nat) : (nodeOf M k).wf ∧ (nodeOf M k).name.size ≤ 1073741824 := by
  have t4 : ∀ i, 0 ≤ leV ((M.drop i).take 4) ∧ leV ((M.drop i).take 4) ≤ 4294967295 := fun i => leV_4 ((hM.drop i).take 4) (n := 4) (by rw [List.length_take]; omega) (by omega)
  have t2 : 0 ≤ leV ((M.drop 9).take 2) ∧ leV ((M.drop 9).take 2) ≤ 4294967295 := leV_4 ((hM.drop 9).take 2) (n := 2) (by rw [List.length_take]; omega) (by omega)
  have t8 := leV_u64 ((hM.drop 11).take 8) (by rw [List.length_take]; omega)
  have h0 := getD_byte hM 0
  have hn : (strOfNums ((M.drop 24).take k)).size ≤ 1073741824 := by rw [str_size, List.length_take, List.length_drop]; omega
  have ht : (strOfNums (M.drop (25 + k))).size ≤ 1073741824 := by rw [str_size, List.length_drop]; omega
  have a1 := t4 1
  have a5 := t4 5
  have a19 := t4 19
  unfold nodeOf
  refine ⟨⟨⟨?_, ?_⟩, ⟨?_, ?_⟩, ⟨?_, ?_⟩, ⟨?_, ?_⟩, t8, ⟨?_, ?_⟩, ?_, ?_⟩, hn⟩ <;> dsimp only <;> omega
theorem store8 {wb w : World} {g : Nat} {T : TypeId} {o0 o1 o2 o3 o4 o5 o6 o7 : Value} (v0 v1 v2 v3 v4 v5 v6 v7 : Value) (hwb : Ok wb) (f : Fr wb w) (hB : wb.heap.size ≤ g) (H : w.heap[g]? = some (.cells #[o0, o1, o2, o3, o4, o5, o6, o7] T (0, 0))) :
    ∃ w', ((((((((w.setCell ⟨g, 0, none⟩ v0).setCell ⟨g, 1, none⟩ v1).setCell ⟨g, 2, none⟩ v2).setCell ⟨g, 3, none⟩ v3).setCell ⟨g, 4, none⟩ v4).setCell ⟨g, 5, none⟩ v5).setCell ⟨g, 6, none⟩ v6).setCell ⟨g, 7, none⟩ v7) = w' ∧ Fr wb w' ∧ w'.heap[g]? = some (.cells #[v0, v1, v2, v3, v4, v5, v6, v7] T (0, 0)) := by
  obtain ⟨w1, e1, H1, f1, _⟩ := set_own f hwb hB H 0 v0
  obtain ⟨w2, e2, H2, f2, _⟩ := set_own f1 hwb hB H1 1 v1
  obtain ⟨w3, e3, H3, f3, _⟩ := set_own f2 hwb hB H2 2 v2
  obtain ⟨w4, e4, H4, f4, _⟩ := set_own f3 hwb hB H3 3 v3
  obtain ⟨w5, e5, H5, f5, _⟩ := set_own f4 hwb hB H4 4 v4
  obtain ⟨w6, e6, H6, f6, _⟩ := set_own f5 hwb hB H5 5 v5
  obtain ⟨w7, e7, H7, f7, _⟩ := set_own f6 hwb hB H6 6 v6
  obtain ⟨w8, e8, H8, f8, _⟩ := set_own f7 hwb hB H7 7 v7
  simp only [List.setIfInBounds_toArray, List.set_cons_zero, List.set_cons_succ] at H8
  exact ⟨w8, by rw [e1, e2, e3, e4, e5, e6, e7, e8], f8, H8⟩
theorem st8 {wb w : World} {g : Nat} {T : TypeId} {o0 o1 o2 o3 o4 o5 o6 o7 v0 v1 v2 v3 v4 v5 v6 v7 : Value} (hwb : Ok wb) (f : Fr wb w) (H : w.heap[g]? = some (.cells #[o0, o1, o2, o3, o4, o5, o6, o7] T (0, 0))) (hB : wb.heap.size ≤ g) :
    ((((((((w.setCell ⟨g, 0, none⟩ v0).setCell ⟨g, 1, none⟩ v1).setCell ⟨g, 2, none⟩ v2).setCell ⟨g, 3, none⟩ v3).setCell ⟨g, 4, none⟩ v4).setCell ⟨g, 5, none⟩ v5).setCell ⟨g, 6, none⟩ v6).setCell ⟨g, 7, none⟩ v7).heap[g]? = some (.cells #[v0, v1, v2, v3, v4, v5, v6, v7] T (0, 0)) := by
  obtain ⟨w', e, _, h⟩ := store8 v0 v1 v2 v3 v4 v5 v6 v7 hwb f hB H
  rw [e]; exact h
theorem alloc_call {w1 W0 wx : World} {o : Obj} (q : Fr (W0.alloc o) wx) (f : Fr w1 W0) : wx.heap[W0.heap.size]? = some o ∧ w1.heap.size ≤ W0.heap.size := ⟨q.heap (heap_alloc_new W0 o), f.size⟩
theorem alloc_call' {w1 wx : World} {o : Obj} (q : Fr (w1.alloc o).drew wx) (f : Ok w1) : wx.heap[w1.heap.size]? = some o ∧ w1.heap.size ≤ w1.heap.size := ⟨q.heap (heap_alloc_new w1 o), Nat.le_refl _⟩
theorem fr8 {wb w : World} {g : Nat} {T : TypeId} {o0 o1 o2 o3 o4 o5 o6 o7 v0 v1 v2 v3 v4 v5 v6 v7 : Value} (hwb : Ok wb) (f : Fr wb w) (H : w.heap[g]? = some (.cells #[o0, o1, o2, o3, o4, o5, o6, o7] T (0, 0))) (hB : wb.heap.size ≤ g) :
    Fr wb ((((((((w.setCell ⟨g, 0, none⟩ v0).setCell ⟨g, 1, none⟩ v1).setCell ⟨g, 2, none⟩ v2).setCell ⟨g, 3, none⟩ v3).setCell ⟨g, 4, none⟩ v4).setCell ⟨g, 5, none⟩ v5).setCell ⟨g, 6, none⟩ v6).setCell ⟨g, 7, none⟩ v7) := by
  obtain ⟨w', e, h, _⟩ := store8 v0 v1 v2 v3 v4 v5 v6 v7 hwb f hB H
  rw [e]; exact h
theorem results_row_tmp {P : Program} {fn : Func} {p u : Tmp} {ty : TypeId} (h : fn.results = #[.cell p ty, .tmp u]) (tmps : Array Value) (w : World) (g : Nat) (t : TypeId) (cs : Array Value) (fr : Nat × Nat) (d : TypeDesc)
    (hp : tmps.getD p undef = .pointer (some ⟨g, 0, none⟩)) (hg : w.heap[g]? = some (.cells cs t fr))
    (hu : P.underlying ty = some d) (hd : (match d with | .struct _ | .array _ _ => true | _ => false) = true) (hi : (P.info? ty).map (·.size) = some cs.size) :
    (results fn tmps).run P w = .ok (.tuple #[.agg cs, tmps.getD u undef]) w := by
  have hp' : tmps[p]?.getD undef = .pointer (some ⟨g, 0, none⟩) := by simpa using hp
  simp [results, h, hp', asAddr, run_loadVar_row w g t ty cs fr d hg hu hd hi, Result.andThen]

set_option maxHeartbeats 6400000 in
set_option maxRecDepth 100000 in
theorem read08_short (A : Option Addr) (c : Nat) (M : List Int) (hM : bytesOk M) (hc : M.length ≤ c) (hL : M.length ≤ 1073741824) (w : World) (hw : Ok w) (hA : BytesAt w A M) (hs : M.length < 24 ∨ M.length < 25 + (M.getD 23 0).toNat ∨ M.length ≠ 25 + (M.getD 23 0).toNat + (M.getD (24 + (M.getD 23 0).toNat) 0).toNat) :
    Calls Tryd.prog 40 #[.slice A M.length c] w fun e w' => e = .returned (.tuple #[.agg #[.int .i64 0, .int .i64 0, .string ⟨#[]⟩, .int .i64 0, .int .i64 0, .int .u64 0, .int .i64 0, .string ⟨#[]⟩], .int .i64 80]) ∧ Fr w w' := by
  obtain ⟨w1, g1, hg1, hw1, f1, hz1, H1⟩ := boxedN hw #[.int .i64 0, .int .i64 0, .string ⟨#[]⟩, .int .i64 0, .int .i64 0, .int .u64 0, .int .i64 0, .string ⟨#[]⟩] 48
  obtain ⟨w2, hw2, f2, H2⟩ := store8 (.int .i64 0) (.int .i64 0) (.string ⟨#[]⟩) (.int .i64 0) (.int .i64 0) (.int .u64 0) (.int .i64 0) (.string ⟨#[]⟩) hw f1 (by omega) H1
  have z0 := unfroz H1 0; have z1 := unfroz H1 1; have z2 := unfroz H1 2; have z3 := unfroz H1 3; have z4 := unfroz H1 4; have z5 := unfroz H1 5; have z6 := unfroz H1 6; have z7 := unfroz H1 7
  obtain ⟨c0, c1, c2, c3, c4, c5, c6, c7⟩ := blk8 H1
  by_cases h24 : M.length < 24
  · have d1 : decide ((M.length : Int) < 24) = true := decide_eq_true (by omega)
    go_enter Tryd.func40, Tryd.ntmps40
    go_wp2
    refine bodyPost_ret (results_row_tmp rfl _ _ g1 48 _ (0, 0) _ rfl H2 Tryd.underlying48 rfl (by kernel_rfl)) rfl ?_
    exact ⟨rfl, f2⟩
  · obtain ⟨k, hk⟩ : ∃ k : Nat, M.getD 23 0 = (k : Int) := ⟨_, (Int.toNat_of_nonneg (getD_byte hM 23).1).symm⟩
    have hk255 : k ≤ 255 := by have := (getD_byte hM 23).2; omega
    rw [hk, Int.toNat_natCast] at hs
    obtain ⟨m, hm⟩ : ∃ m : Nat, M.getD (24 + k) 0 = (m : Int) := ⟨_, (Int.toNat_of_nonneg (getD_byte hM (24 + k)).1).symm⟩
    have hm255 : m ≤ 255 := by have := (getD_byte hM (24 + k)).2; omega
    rw [hm, Int.toNat_natCast] at hs
    rcases hA with hA | ⟨gb, ob, rfl, hgb, hA⟩
    · subst hA; simp at h24
    have b23 : w1.cell? ⟨gb, ob + 23, none⟩ = some (.int .u8 (k : Int)) := by
      rw [f1.cell (hA 23 M[23] (List.getElem?_eq_getElem (by omega))), ← hk]; simp [List.getD, show 23 < M.length by omega]
    have d1 : decide ((M.length : Int) < 24) = false := decide_eq_false (by omega)
    have wk : IntKind.i64.wrap (k : Int) = (k : Int) := IntWalk.i64_in _ ⟨by omega, by omega⟩
    have wk2 : IntKind.i64.wrap (24 + (k : Int)) = 24 + (k : Int) := IntWalk.i64_in _ ⟨by omega, by omega⟩
    have wk3 : IntKind.i64.wrap (24 + (k : Int) + 1) = 24 + (k : Int) + 1 := IntWalk.i64_in _ ⟨by omega, by omega⟩
    have hl23 : (23 : Int) < (M.length : Int) := by omega
    by_cases h25 : M.length < 25 + k
    · have d2 : decide ((M.length : Int) < 24 + (k : Int) + 1) = true := decide_eq_true (by omega)
      go_enter Tryd.func40, Tryd.ntmps40
      go_wp2
      refine bodyPost_ret (results_row_tmp rfl _ _ g1 48 _ (0, 0) _ rfl H2 Tryd.underlying48 rfl (by kernel_rfl)) rfl ?_
      exact ⟨rfl, f2⟩
    · have d2 : decide ((M.length : Int) < 24 + (k : Int) + 1) = false := decide_eq_false (by omega)
      have hne : ¬ M.length = 25 + k + m := by omega
      have b24 : w1.cell? ⟨gb, ob + (24 + k), none⟩ = some (.int .u8 (m : Int)) := by
        rw [f1.cell (hA (24 + k) M[24 + k] (List.getElem?_eq_getElem (by omega))), ← hm]; simp [List.getD, show 24 + k < M.length by omega]
      have wm : IntKind.i64.wrap (m : Int) = (m : Int) := IntWalk.i64_in _ ⟨by omega, by omega⟩
      have wm2 : IntKind.i64.wrap (24 + (k : Int) + 1 + (m : Int)) = 24 + (k : Int) + 1 + (m : Int) := IntWalk.i64_in _ ⟨by omega, by omega⟩
      have hi1 : (0 : Int) ≤ 24 + (k : Int) := by omega
      have hi2 : 24 + (k : Int) < (M.length : Int) := by omega
      have hi3 : (24 + (k : Int)).toNat = 24 + k := by omega
      have d3 : ((M.length : Int) != 24 + (k : Int) + 1 + (m : Int)) = true := by simp; omega
      have d4 : ¬ (M.length : Int) = 24 + (k : Int) + 1 + (m : Int) := by omega
      go_enter Tryd.func40, Tryd.ntmps40
      go_wp2
      refine bodyPost_ret (results_row_tmp rfl _ _ g1 48 _ (0, 0) _ rfl H2 Tryd.underlying48 rfl (by kernel_rfl)) rfl ?_
      exact ⟨rfl, f2⟩

set_option maxHeartbeats 25600000 in
set_option maxRecDepth 100000 in
theorem read08_good (A : Option Addr) (c : Nat) (M : List Int) (hM : bytesOk M) (hc : M.length ≤ c) (hL : M.length ≤ 1073741824) (w : World) (hw : Ok w) (hA : BytesAt w A M) (k m : Nat) (hk : M.getD 23 0 = (k : Int)) (hm : M.getD (24 + k) 0 = (m : Int)) (hlen : M.length = 25 + k + m) :
    Calls Tryd.prog 40 #[.slice A M.length c] w fun e w' => e = .returned (if checkL (nodeOf M k) = 0 then .tuple #[.agg #[.int .i64 (nodeOf M k).ty, .int .i64 (nodeOf M k).par, .string (nodeOf M k).name, .int .i64 (nodeOf M k).size, .int .i64 (nodeOf M k).mode, .int .u64 (nodeOf M k).stamp, .int .i64 (nodeOf M k).shadow, .string (nodeOf M k).tgt], .int .i64 0] else .tuple #[.agg #[.int .i64 0, .int .i64 0, .string ⟨#[]⟩, .int .i64 0, .int .i64 0, .int .u64 0, .int .i64 0, .string ⟨#[]⟩], .int .i64 (checkL (nodeOf M k))]) ∧ Fr w w' := by
  have hk255 : k ≤ 255 := by have := (getD_byte hM 23).2; omega
  have hm255 : m ≤ 255 := by have := (getD_byte hM (24 + k)).2; omega
  have hwf := nodeOf_wf hM hL k
  obtain ⟨w1, g1, hg1, hw1, f1, hz1, H1⟩ := boxedN hw #[.int .i64 0, .int .i64 0, .string ⟨#[]⟩, .int .i64 0, .int .i64 0, .int .u64 0, .int .i64 0, .string ⟨#[]⟩] 48
  rcases hA with hA | ⟨gb, ob, rfl, hgb, hA⟩
  · subst hA; simp at hlen; omega
  have hA1 : BytesAt w1 (some ⟨gb, ob, none⟩) M := (BytesAt.fr (.inr ⟨gb, ob, rfl, hgb, hA⟩) f1)
  have b23 : w1.cell? ⟨gb, ob + 23, none⟩ = some (.int .u8 (k : Int)) := by
    rw [f1.cell (hA 23 M[23] (List.getElem?_eq_getElem (by omega))), ← hk]; simp [List.getD, show 23 < M.length by omega]
  have b24 : w1.cell? ⟨gb, ob + (24 + k), none⟩ = some (.int .u8 (m : Int)) := by
    rw [f1.cell (hA (24 + k) M[24 + k] (List.getElem?_eq_getElem (by omega))), ← hm]; simp [List.getD, show 24 + k < M.length by omega]
  have b0 : w1.cell? ⟨gb, ob, none⟩ = some (.int .u8 (M.getD 0 0)) := by
    have := f1.cell (hA 0 M[0] (List.getElem?_eq_getElem (by omega)))
    rw [Nat.add_zero] at this
    rw [this]; simp [List.getD, show 0 < M.length by omega]
  have hb0 := getD_byte hM 0
  have wb0 : IntKind.i64.wrap (M.getD 0 0) = M.getD 0 0 := IntWalk.i64_in _ ⟨by omega, by omega⟩
  have t4 : ∀ i, IntKind.i64.wrap (leV ((M.drop i).take 4)) = leV ((M.drop i).take 4) := fun i => by
    have := leV_4 ((hM.drop i).take 4) (n := 4) (by rw [List.length_take]; omega) (by omega)
    exact IntWalk.i64_in _ ⟨by omega, by omega⟩
  have t1 := t4 1
  have t5 := t4 5
  have t19 := t4 19
  have t9 : IntKind.i64.wrap (leV ((M.drop 9).take 2)) = leV ((M.drop 9).take 2) := by
    have := leV_4 ((hM.drop 9).take 2) (n := 2) (by rw [List.length_take]; omega) (by omega)
    exact IntWalk.i64_in _ ⟨by omega, by omega⟩
  clear t4
  have d1 : decide ((M.length : Int) < 24) = false := decide_eq_false (by omega)
  have wk : IntKind.i64.wrap (k : Int) = (k : Int) := IntWalk.i64_in _ ⟨by omega, by omega⟩
  have wk2 : IntKind.i64.wrap (24 + (k : Int)) = 24 + (k : Int) := IntWalk.i64_in _ ⟨by omega, by omega⟩
  have wk3 : IntKind.i64.wrap (24 + (k : Int) + 1) = 24 + (k : Int) + 1 := IntWalk.i64_in _ ⟨by omega, by omega⟩
  have wk5 : IntKind.i64.wrap (25 + (k : Int)) = 25 + (k : Int) := IntWalk.i64_in _ ⟨by omega, by omega⟩
  have hl23 : (23 : Int) < (M.length : Int) := by omega
  have d2 : decide ((M.length : Int) < 24 + (k : Int) + 1) = false := decide_eq_false (by omega)
  have wm : IntKind.i64.wrap (m : Int) = (m : Int) := IntWalk.i64_in _ ⟨by omega, by omega⟩
  have wm2 : IntKind.i64.wrap (24 + (k : Int) + 1 + (m : Int)) = 24 + (k : Int) + 1 + (m : Int) := IntWalk.i64_in _ ⟨by omega, by omega⟩
  have hi1 : (0 : Int) ≤ 24 + (k : Int) := by omega
  have hi2 : 24 + (k : Int) < (M.length : Int) := by omega
  have hi3 : (24 + (k : Int)).toNat = 24 + k := by omega
  have d4 : (M.length : Int) = 24 + (k : Int) + 1 + (m : Int) := by omega
  have d3 : ((M.length : Int) != 24 + (k : Int) + 1 + (m : Int)) = false := by simp; omega
  replace d4 := Lib.hid d4
  have hgt := (fun (a size : Nat) (h8 : size ≤ 8) (hl : a + size ≤ M.length) (W : World) (f : Fr w1 W) => get_any (some ⟨gb, ob, none⟩) c M hM a size h8 hl hc hL W f.ok (hA1.fr f))
  have hv : (nodeOf M k).ty = M.getD 0 0 ∧ (nodeOf M k).par = leV ((M.drop 1).take 4) ∧ (nodeOf M k).size = leV ((M.drop 5).take 4) ∧ (nodeOf M k).mode = leV ((M.drop 9).take 2) ∧ (nodeOf M k).stamp = leV ((M.drop 11).take 8) ∧ (nodeOf M k).shadow = leV ((M.drop 19).take 4) := ⟨rfl, rfl, rfl, rfl, rfl, rfl⟩
  obtain ⟨p0, hp0⟩ : ∃ p, leV ((M.drop 1).take 4) = p := ⟨_, rfl⟩
  have hG0 : ∀ W, Fr w1 W → Calls Tryd.prog 56 #[.slice (some ⟨gb, ob, none⟩) M.length c, .int .i64 1, .int .i64 4] W fun e w' => e = .returned (.int .u64 p0) ∧ Fr W w' := fun W f => by rw [← hp0]; exact hgt 1 4 (by omega) (by omega) W f
  rw [hp0] at hv t1
  obtain ⟨p1, hp1⟩ : ∃ p, leV ((M.drop 5).take 4) = p := ⟨_, rfl⟩
  have hG1 : ∀ W, Fr w1 W → Calls Tryd.prog 56 #[.slice (some ⟨gb, ob, none⟩) M.length c, .int .i64 5, .int .i64 4] W fun e w' => e = .returned (.int .u64 p1) ∧ Fr W w' := fun W f => by rw [← hp1]; exact hgt 5 4 (by omega) (by omega) W f
  rw [hp1] at hv t5
  obtain ⟨p2, hp2⟩ : ∃ p, leV ((M.drop 9).take 2) = p := ⟨_, rfl⟩
  have hG2 : ∀ W, Fr w1 W → Calls Tryd.prog 56 #[.slice (some ⟨gb, ob, none⟩) M.length c, .int .i64 9, .int .i64 2] W fun e w' => e = .returned (.int .u64 p2) ∧ Fr W w' := fun W f => by rw [← hp2]; exact hgt 9 2 (by omega) (by omega) W f
  rw [hp2] at hv t9
  obtain ⟨p3, hp3⟩ : ∃ p, leV ((M.drop 11).take 8) = p := ⟨_, rfl⟩
  have hG3 : ∀ W, Fr w1 W → Calls Tryd.prog 56 #[.slice (some ⟨gb, ob, none⟩) M.length c, .int .i64 11, .int .i64 8] W fun e w' => e = .returned (.int .u64 p3) ∧ Fr W w' := fun W f => by rw [← hp3]; exact hgt 11 8 (by omega) (by omega) W f
  rw [hp3] at hv
  obtain ⟨p4, hp4⟩ : ∃ p, leV ((M.drop 19).take 4) = p := ⟨_, rfl⟩
  have hG4 : ∀ W, Fr w1 W → Calls Tryd.prog 56 #[.slice (some ⟨gb, ob, none⟩) M.length c, .int .i64 19, .int .i64 4] W fun e w' => e = .returned (.int .u64 p4) ∧ Fr W w' := fun W f => by rw [← hp4]; exact hgt 19 4 (by omega) (by omega) W f
  rw [hp4] at hv t19
  obtain ⟨p9, hp9⟩ : ∃ p, M.getD 0 0 = p := ⟨_, rfl⟩
  rw [hp9] at hv wb0 b0
  clear hgt
  have h25 : 25 + k ≤ M.length := by omega
  have HS1 := Lib.hid (fun (W : World) (c' : Nat) (f : Fr w1 W) => show (convert 27 9 (.slice (some ⟨gb, ob + 24, none⟩) k c')).run Tryd.prog W = .ok (.string (nodeOf M k).name) W from by
    have h := (BytesAt.sub (hA1.fr f) 24 k).toC (by rw [List.length_take, List.length_drop]; omega)
    have hl : ((M.drop 24).take k).length = k := by rw [List.length_take, List.length_drop]; omega
    have := Kd.C_string (P := Tryd.prog) (src := 27) (dst := 9) (e := 5) (c := c') Tryd.underlying27 Tryd.underlying5 Tryd.underlying9 h
    rw [hl] at this
    exact this)
  have HT : Hid ((nodeOf M k).tgt = strOfNums (M.drop (25 + k))) := Lib.hid rfl
  have hsub1 : ∀ W, Fr w1 W → (convert 27 9 (.slice (some ⟨gb, ob + 24, none⟩) k (c - 24))).run Tryd.prog W = .ok (.string (nodeOf M k).name) W := fun W f => by
    have h := (BytesAt.sub (hA1.fr f) 24 k).toC (by rw [List.length_take, List.length_drop]; omega)
    have hl : ((M.drop 24).take k).length = k := by rw [List.length_take, List.length_drop]; omega
    have := Kd.C_string (P := Tryd.prog) (src := 27) (dst := 9) (e := 5) (c := c - 24) Tryd.underlying27 Tryd.underlying5 Tryd.underlying9 h
    rw [hl] at this
    exact this
  have hsub2 : ∀ W, Fr w1 W → (convert 27 9 (.slice (some ⟨gb, ob + (25 + k), none⟩) (M.length - (25 + k)) (c - (25 + k)))).run Tryd.prog W = .ok (.string (nodeOf M k).tgt) W := fun W f => by
    obtain ⟨n, hn⟩ : ∃ n, M.length - (25 + k) = n := ⟨_, rfl⟩
    rw [hn]
    have hl : ((M.drop (25 + k)).take n).length = n := by rw [List.length_take, List.length_drop]; omega
    have hall : (M.drop (25 + k)).take n = M.drop (25 + k) := List.take_of_length_le (by rw [List.length_drop]; omega)
    have h := (BytesAt.sub (hA1.fr f) (25 + k) n).toC (by rw [hl]; omega)
    have := Kd.C_string (P := Tryd.prog) (src := 27) (dst := 9) (e := 5) (c := c - (25 + k)) Tryd.underlying27 Tryd.underlying5 Tryd.underlying9 h
    rw [hl, hall] at this
    exact this
  have hcell : ∀ W, Fr w1 W → W.cell? ⟨gb, ob, none⟩ = some (.int .u8 p9) := fun W f => f.cell b0
  obtain ⟨N, hN⟩ : ∃ N, nodeOf M k = N := ⟨_, rfl⟩
  rw [hN] at hsub1 hsub2 hwf hv HS1 HT ⊢
  clear hN
  obtain ⟨hv0, hv1, hv2, hv3, hv4, hv5⟩ := hv
  subst hv0 hv1 hv2 hv3 hv4 hv5
  have HM := Lib.hid hlen
  clear hlen hp0 hp1 hp2 hp3 hp4 hp9
  have hS0 : Fr w1 w1.drew := (Fr.refl f1.ok).drew
  have hw1ok := f1.ok
  have hgg : w.heap.size ≤ w1.heap.size := f1.size
  go_enter Tryd.func40, Tryd.ntmps40
  go_wp2
  clear b23 b24 b0 wk wk3 d1 d2 d3 d4 hi1 hi2 hi3 hl23 wm wm2 hb0 hw1
  have hl0 : (0 : Int) < (M.length : Int) := by omega
  have hl0' : 0 < M.length := by omega
  have hb24 : (24 : Int) ≤ 24 + (k : Int) := by omega
  have hb24c : 24 + (k : Int) ≤ (c : Int) := by omega
  have hb25 : 25 + (k : Int) ≤ (M.length : Int) := by omega
  have hb25' : (0 : Int) ≤ 25 + (k : Int) := by omega
  have hc24 : ¬ c = 24 := by omega
  have hn24 : (24 + (k : Int)).toNat = 24 + k := by omega
  have hn25 : (25 + (k : Int)).toNat = 25 + k := by omega
  have hfz : ∀ (W : World) (g j : Nat), W.heap[g]? = some (.cells #[.int .i64 0, .int .i64 0, .string ⟨#[]⟩, .int .i64 0, .int .i64 0, .int .u64 0, .int .i64 0, .string ⟨#[]⟩] 48 (0, 0)) → W.frozen? ⟨g, j, none⟩ = false := fun W g j h => unfroz h j
  have hk0 : ∀ (W : World) (g : Nat), W.heap[g]? = some (.cells #[.int .i64 0, .int .i64 0, .string ⟨#[]⟩, .int .i64 0, .int .i64 0, .int .u64 0, .int .i64 0, .string ⟨#[]⟩] 48 (0, 0)) → W.cell? ⟨g, 0, none⟩ = some (.int .i64 0) := fun W g h => blk_cell h rfl
  have hk1 : ∀ (W : World) (g : Nat), W.heap[g]? = some (.cells #[.int .i64 0, .int .i64 0, .string ⟨#[]⟩, .int .i64 0, .int .i64 0, .int .u64 0, .int .i64 0, .string ⟨#[]⟩] 48 (0, 0)) → W.cell? ⟨g, 1, none⟩ = some (.int .i64 0) := fun W g h => blk_cell h rfl
  have hk2 : ∀ (W : World) (g : Nat), W.heap[g]? = some (.cells #[.int .i64 0, .int .i64 0, .string ⟨#[]⟩, .int .i64 0, .int .i64 0, .int .u64 0, .int .i64 0, .string ⟨#[]⟩] 48 (0, 0)) → W.cell? ⟨g, 2, none⟩ = some (.string ⟨#[]⟩) := fun W g h => blk_cell h rfl
  have hk3 : ∀ (W : World) (g : Nat), W.heap[g]? = some (.cells #[.int .i64 0, .int .i64 0, .string ⟨#[]⟩, .int .i64 0, .int .i64 0, .int .u64 0, .int .i64 0, .string ⟨#[]⟩] 48 (0, 0)) → W.cell? ⟨g, 3, none⟩ = some (.int .i64 0) := fun W g h => blk_cell h rfl
  have hk4 : ∀ (W : World) (g : Nat), W.heap[g]? = some (.cells #[.int .i64 0, .int .i64 0, .string ⟨#[]⟩, .int .i64 0, .int .i64 0, .int .u64 0, .int .i64 0, .string ⟨#[]⟩] 48 (0, 0)) → W.cell? ⟨g, 4, none⟩ = some (.int .i64 0) := fun W g h => blk_cell h rfl
  have hk5 : ∀ (W : World) (g : Nat), W.heap[g]? = some (.cells #[.int .i64 0, .int .i64 0, .string ⟨#[]⟩, .int .i64 0, .int .i64 0, .int .u64 0, .int .i64 0, .string ⟨#[]⟩] 48 (0, 0)) → W.cell? ⟨g, 5, none⟩ = some (.int .u64 0) := fun W g h => blk_cell h rfl
  have hk6 : ∀ (W : World) (g : Nat), W.heap[g]? = some (.cells #[.int .i64 0, .int .i64 0, .string ⟨#[]⟩, .int .i64 0, .int .i64 0, .int .u64 0, .int .i64 0, .string ⟨#[]⟩] 48 (0, 0)) → W.cell? ⟨g, 6, none⟩ = some (.int .i64 0) := fun W g h => blk_cell h rfl
  have hk7 : ∀ (W : World) (g : Nat), W.heap[g]? = some (.cells #[.int .i64 0, .int .i64 0, .string ⟨#[]⟩, .int .i64 0, .int .i64 0, .int .u64 0, .int .i64 0, .string ⟨#[]⟩] 48 (0, 0)) → W.cell? ⟨g, 7, none⟩ = some (.string ⟨#[]⟩) := fun W g h => blk_cell h rfl
  go_cut [5] from 36 to 64 (fun v5 wc => ∃ g5, v5 = .pointer (some ⟨g5, 0, none⟩) ∧ wc.heap[g5]? = some (.cells #[.int .i64 N.ty, .int .i64 N.par, .string N.name, .int .i64 N.size, .int .i64 N.mode, .int .u64 N.stamp, .int .i64 N.shadow, .string N.tgt] 48 (0, 0)) ∧ Fr w1 wc)
  case first =>
    by_cases hcm : c = 25 + k
    · have hm0 : M.length - (25 + k) = 0 := by omega
      have hdr : M.drop (25 + k) = [] := List.drop_eq_nil_of_le (by omega)
      have hc0 := fun (W : World) => (BytesAt.toC (w := W) (A := some ⟨gb, ob, none⟩) (L := []) (.inl rfl) (by simp))
      have hs1 : ∀ (W : World) (c' : Nat), Fr w1 W → (convert 27 9 (.slice (some ⟨gb, ob + 24, none⟩) k c')).run Tryd.prog W = .ok (.string N.name) W := fun W c' f => HS1.out W c' f
      have hs2 : ∀ (W : World) (c' : Nat), Fr w1 W → (convert 27 9 (.slice (some ⟨gb, ob, none⟩) (M.length - (25 + k)) c')).run Tryd.prog W = .ok (.string N.tgt) W := fun W c' f => by
        rw [hm0]
        have h := Kd.C_string (P := Tryd.prog) (src := 27) (dst := 9) (e := 5) (c := c') Tryd.underlying27 Tryd.underlying5 Tryd.underlying9 (hc0 W)
        rw [HT.out, hdr]
        exact h
      have hs3 : ∀ (W : World) (c' : Nat), Fr w1 W → (convert 27 9 (.slice (some ⟨gb, ob, none⟩) 0 c')).run Tryd.prog W = .ok (.string N.tgt) W := fun W c' f => by
        have h := hs2 W c' f
        rwa [hm0] at h
      clear hsub1 hsub2 hm0 hdr hc0
      subst hcm
      have tok0 : True := trivial
      go_region_held3 (fun w' => Fr w1 w') (first | (with_reducible exact hK) | (with_reducible exact hS0) | (with_reducible exact Fr.alloc (by assumption) _) | (with_reducible exact Fr.drew (Fr.alloc (Fr.refl hw1ok) _)) | (with_reducible exact fr8 hw1ok (by assumption) hbk hgk) | go_keep)
        (first
          | (go_at_call 56; have _t := tok0; refine (hG0 _ (by assumption)).mono ?_; clear tok0 _t; have tok1 : True := trivial; rintro e wx ⟨rfl, q⟩; have hK := Fr.trans (by assumption) q; (first | replace hbk := q.heap hbk | (have hbg := alloc_call (o := .cells #[.int .i64 0, .int .i64 0, .string ⟨#[]⟩, .int .i64 0, .int .i64 0, .int .u64 0, .int .i64 0, .string ⟨#[]⟩] 48) q (by assumption); obtain ⟨hbk, hgk⟩ := hbg) | (have hbg := alloc_call' (o := .cells #[.int .i64 0, .int .i64 0, .string ⟨#[]⟩, .int .i64 0, .int .i64 0, .int .u64 0, .int .i64 0, .string ⟨#[]⟩] 48) q hw1ok; obtain ⟨hbk, hgk⟩ := hbg) | skip))
          | (go_at_call 56; have _t := tok1; refine (hG1 _ (by assumption)).mono ?_; clear tok1 _t; have tok2 : True := trivial; rintro e wx ⟨rfl, q⟩; have hK := Fr.trans (by assumption) q; (first | replace hbk := q.heap hbk | (have hbg := alloc_call (o := .cells #[.int .i64 0, .int .i64 0, .string ⟨#[]⟩, .int .i64 0, .int .i64 0, .int .u64 0, .int .i64 0, .string ⟨#[]⟩] 48) q (by assumption); obtain ⟨hbk, hgk⟩ := hbg) | (have hbg := alloc_call' (o := .cells #[.int .i64 0, .int .i64 0, .string ⟨#[]⟩, .int .i64 0, .int .i64 0, .int .u64 0, .int .i64 0, .string ⟨#[]⟩] 48) q hw1ok; obtain ⟨hbk, hgk⟩ := hbg) | skip))
          | (go_at_call 56; have _t := tok2; refine (hG2 _ (by assumption)).mono ?_; clear tok2 _t; have tok3 : True := trivial; rintro e wx ⟨rfl, q⟩; have hK := Fr.trans (by assumption) q; (first | replace hbk := q.heap hbk | (have hbg := alloc_call (o := .cells #[.int .i64 0, .int .i64 0, .string ⟨#[]⟩, .int .i64 0, .int .i64 0, .int .u64 0, .int .i64 0, .string ⟨#[]⟩] 48) q (by assumption); obtain ⟨hbk, hgk⟩ := hbg) | (have hbg := alloc_call' (o := .cells #[.int .i64 0, .int .i64 0, .string ⟨#[]⟩, .int .i64 0, .int .i64 0, .int .u64 0, .int .i64 0, .string ⟨#[]⟩] 48) q hw1ok; obtain ⟨hbk, hgk⟩ := hbg) | skip))
          | (go_at_call 56; have _t := tok3; refine (hG3 _ (by assumption)).mono ?_; clear tok3 _t; have tok4 : True := trivial; rintro e wx ⟨rfl, q⟩; have hK := Fr.trans (by assumption) q; (first | replace hbk := q.heap hbk | (have hbg := alloc_call (o := .cells #[.int .i64 0, .int .i64 0, .string ⟨#[]⟩, .int .i64 0, .int .i64 0, .int .u64 0, .int .i64 0, .string ⟨#[]⟩] 48) q (by assumption); obtain ⟨hbk, hgk⟩ := hbg) | (have hbg := alloc_call' (o := .cells #[.int .i64 0, .int .i64 0, .string ⟨#[]⟩, .int .i64 0, .int .i64 0, .int .u64 0, .int .i64 0, .string ⟨#[]⟩] 48) q hw1ok; obtain ⟨hbk, hgk⟩ := hbg) | skip))
          | (go_at_call 56; have _t := tok4; refine (hG4 _ (by assumption)).mono ?_; clear tok4 _t; have tok5 : True := trivial; rintro e wx ⟨rfl, q⟩; have hK := Fr.trans (by assumption) q; (first | replace hbk := q.heap hbk | (have hbg := alloc_call (o := .cells #[.int .i64 0, .int .i64 0, .string ⟨#[]⟩, .int .i64 0, .int .i64 0, .int .u64 0, .int .i64 0, .string ⟨#[]⟩] 48) q (by assumption); obtain ⟨hbk, hgk⟩ := hbg) | (have hbg := alloc_call' (o := .cells #[.int .i64 0, .int .i64 0, .string ⟨#[]⟩, .int .i64 0, .int .i64 0, .int .u64 0, .int .i64 0, .string ⟨#[]⟩] 48) q hw1ok; obtain ⟨hbk, hgk⟩ := hbg) | skip)))
      all_goals
        go_wp2_with fail
        go_meet
        refine ⟨_, rfl, ?_, by assumption⟩
        first | (with_reducible exact st8 hw1ok hK hbk hgk) | (with_reducible exact heap_alloc_new _ _)
    · have tok0 : True := trivial
      go_region_held3 (fun w' => Fr w1 w') (first | (with_reducible exact hK) | (with_reducible exact hS0) | (with_reducible exact Fr.alloc (by assumption) _) | (with_reducible exact Fr.drew (Fr.alloc (Fr.refl hw1ok) _)) | (with_reducible exact fr8 hw1ok (by assumption) hbk hgk) | go_keep)
        (first
          | (go_at_call 56; have _t := tok0; refine (hG0 _ (by assumption)).mono ?_; clear tok0 _t; have tok1 : True := trivial; rintro e wx ⟨rfl, q⟩; have hK := Fr.trans (by assumption) q; (first | replace hbk := q.heap hbk | (have hbg := alloc_call (o := .cells #[.int .i64 0, .int .i64 0, .string ⟨#[]⟩, .int .i64 0, .int .i64 0, .int .u64 0, .int .i64 0, .string ⟨#[]⟩] 48) q (by assumption); obtain ⟨hbk, hgk⟩ := hbg) | (have hbg := alloc_call' (o := .cells #[.int .i64 0, .int .i64 0, .string ⟨#[]⟩, .int .i64 0, .int .i64 0, .int .u64 0, .int .i64 0, .string ⟨#[]⟩] 48) q hw1ok; obtain ⟨hbk, hgk⟩ := hbg) | skip))
          | (go_at_call 56; have _t := tok1; refine (hG1 _ (by assumption)).mono ?_; clear tok1 _t; have tok2 : True := trivial; rintro e wx ⟨rfl, q⟩; have hK := Fr.trans (by assumption) q; (first | replace hbk := q.heap hbk | (have hbg := alloc_call (o := .cells #[.int .i64 0, .int .i64 0, .string ⟨#[]⟩, .int .i64 0, .int .i64 0, .int .u64 0, .int .i64 0, .string ⟨#[]⟩] 48) q (by assumption); obtain ⟨hbk, hgk⟩ := hbg) | (have hbg := alloc_call' (o := .cells #[.int .i64 0, .int .i64 0, .string ⟨#[]⟩, .int .i64 0, .int .i64 0, .int .u64 0, .int .i64 0, .string ⟨#[]⟩] 48) q hw1ok; obtain ⟨hbk, hgk⟩ := hbg) | skip))
          | (go_at_call 56; have _t := tok2; refine (hG2 _ (by assumption)).mono ?_; clear tok2 _t; have tok3 : True := trivial; rintro e wx ⟨rfl, q⟩; have hK := Fr.trans (by assumption) q; (first | replace hbk := q.heap hbk | (have hbg := alloc_call (o := .cells #[.int .i64 0, .int .i64 0, .string ⟨#[]⟩, .int .i64 0, .int .i64 0, .int .u64 0, .int .i64 0, .string ⟨#[]⟩] 48) q (by assumption); obtain ⟨hbk, hgk⟩ := hbg) | (have hbg := alloc_call' (o := .cells #[.int .i64 0, .int .i64 0, .string ⟨#[]⟩, .int .i64 0, .int .i64 0, .int .u64 0, .int .i64 0, .string ⟨#[]⟩] 48) q hw1ok; obtain ⟨hbk, hgk⟩ := hbg) | skip))
          | (go_at_call 56; have _t := tok3; refine (hG3 _ (by assumption)).mono ?_; clear tok3 _t; have tok4 : True := trivial; rintro e wx ⟨rfl, q⟩; have hK := Fr.trans (by assumption) q; (first | replace hbk := q.heap hbk | (have hbg := alloc_call (o := .cells #[.int .i64 0, .int .i64 0, .string ⟨#[]⟩, .int .i64 0, .int .i64 0, .int .u64 0, .int .i64 0, .string ⟨#[]⟩] 48) q (by assumption); obtain ⟨hbk, hgk⟩ := hbg) | (have hbg := alloc_call' (o := .cells #[.int .i64 0, .int .i64 0, .string ⟨#[]⟩, .int .i64 0, .int .i64 0, .int .u64 0, .int .i64 0, .string ⟨#[]⟩] 48) q hw1ok; obtain ⟨hbk, hgk⟩ := hbg) | skip))
          | (go_at_call 56; have _t := tok4; refine (hG4 _ (by assumption)).mono ?_; clear tok4 _t; have tok5 : True := trivial; rintro e wx ⟨rfl, q⟩; have hK := Fr.trans (by assumption) q; (first | replace hbk := q.heap hbk | (have hbg := alloc_call (o := .cells #[.int .i64 0, .int .i64 0, .string ⟨#[]⟩, .int .i64 0, .int .i64 0, .int .u64 0, .int .i64 0, .string ⟨#[]⟩] 48) q (by assumption); obtain ⟨hbk, hgk⟩ := hbg) | (have hbg := alloc_call' (o := .cells #[.int .i64 0, .int .i64 0, .string ⟨#[]⟩, .int .i64 0, .int .i64 0, .int .u64 0, .int .i64 0, .string ⟨#[]⟩] 48) q hw1ok; obtain ⟨hbk, hgk⟩ := hbg) | skip)))
      all_goals
        go_wp2_with fail
        go_meet
        refine ⟨_, rfl, ?_, by assumption⟩
        first | (with_reducible exact st8 hw1ok hK hbk hgk) | (with_reducible exact heap_alloc_new _ _)
  case rest =>
    obtain ⟨g5, rfl, H5, fc⟩ := hcut
    replace H1 := fc.heap H1
    have f := f1.trans fc
    have hg1B : w.heap.size ≤ g1 := by omega
    clear hsub1 hsub2 hcell hS0 hb24 hb24c hb25 hb25' hc24 hn24 hn25 hl0 hl0' hfz hk0 hk1 hk2 hk3 hk4 hk5 hk6 hk7 hG0 hG1 hG2 hG3 hG4 t1 t5 t9 t19 wb0 wk2 wk5
    obtain ⟨c0, c1, c2, c3, c4, c5, c6, c7⟩ := blk8 H5
    cases hck : decide (checkL N = 0) with
    | true =>
      have hck' := of_decide_eq_true hck
      have HE := Lib.hid hck'
      clear hck hck'
      go_upto_region 10 with (go_at_call 32; refine (check08_any N hwf.1 _ f.ok).mono ?_; rw [HE.out]; rintro e wx ⟨rfl, q⟩; replace H1 := q.heap H1; replace H5 := q.heap H5; replace f := f.trans q; clear q; obtain ⟨c0, c1, c2, c3, c4, c5, c6, c7⟩ := blk8 H5)
      have z0 := unfroz H1 0; have z1 := unfroz H1 1; have z2 := unfroz H1 2; have z3 := unfroz H1 3; have z4 := unfroz H1 4; have z5 := unfroz H1 5; have z6 := unfroz H1 6; have z7 := unfroz H1 7
      obtain ⟨e0, e1, e2, e3, e4, e5, e6, e7⟩ := blk8 H1
      obtain ⟨w8, hw8, f8, H8⟩ := store8 (.int .i64 N.ty) (.int .i64 N.par) (.string N.name) (.int .i64 N.size) (.int .i64 N.mode) (.int .u64 N.stamp) (.int .i64 N.shadow) (.string N.tgt) hw f hg1B H1
      go_wp2
      refine bodyPost_ret (results_row_tmp rfl _ _ g1 48 _ (0, 0) _ rfl H8 Tryd.underlying48 rfl (by kernel_rfl)) rfl ?_
      exact ⟨(by first | rfl | (rw [if_pos HE.out]; rfl)), f8⟩
    | false =>
      have hck' := of_decide_eq_false hck
      have HNE := Lib.hid hck'
      clear hck
      obtain ⟨ee, hee⟩ : ∃ ee, checkL N = ee := ⟨_, rfl⟩
      have hne : (ee != 0) = true := by simp; omega
      have HE := Lib.hid hee
      clear hck' hee
      go_upto_region 10 with (go_at_call 32; refine (check08_any N hwf.1 _ f.ok).mono ?_; rw [HE.out]; rintro e wx ⟨rfl, q⟩; replace H1 := q.heap H1; replace f := f.trans q; clear q)
      have z0 := unfroz H1 0; have z1 := unfroz H1 1; have z2 := unfroz H1 2; have z3 := unfroz H1 3; have z4 := unfroz H1 4; have z5 := unfroz H1 5; have z6 := unfroz H1 6; have z7 := unfroz H1 7
      obtain ⟨e0, e1, e2, e3, e4, e5, e6, e7⟩ := blk8 H1
      obtain ⟨w8, hw8, f8, H8⟩ := store8 (.int .i64 0) (.int .i64 0) (.string ⟨#[]⟩) (.int .i64 0) (.int .i64 0) (.int .u64 0) (.int .i64 0) (.string ⟨#[]⟩) hw f hg1B H1
      go_wp2
      refine bodyPost_ret (results_row_tmp rfl _ _ g1 48 _ (0, 0) _ rfl H8 Tryd.underlying48 rfl (by kernel_rfl)) rfl ?_
      exact ⟨(by first | rfl | (rw [HE.out]; rfl) | (rw [if_neg HNE.out, HE.out]; rfl)), f8⟩
end Go.Proofs.YtefkklgelmbaiaaDoor
