/- ParcelBursts and ParcelCanon: their cards, side by side: for all arguments whose bulk is at most 1048576 the laws return true. -/
import Derived.Test.YtlnaeppbhjmocaaDoorU12
import Derived.Below
import Derived.OpenShut
import Derived.Deep.DeepHandedRow
import Derived.ProofKit
import Derived.Deep.DeepWitnessRowRef
import Derived.MakeChecks
set_option linter.unusedSectionVars false
set_option linter.unnecessarySimpa false
set_option linter.unusedSimpArgs false
set_option linter.unusedVariables false
set_option linter.unusedSimpArgs false
set_option linter.unusedVariables false
namespace Go.Proofs.YtlnaeppbhjmocaaDoor
open Go.RowKit Go.Proofs

/-! ### A row that was read well: its form; its beginnings -/
theorem readX_err {crc : List Int → Int} {L : List Int} (h : (readX crc L).2 ≠ 0) : (readX crc L).1 = [] := by
  unfold readX at h ⊢
  split
  · rename_i h1
    rw [if_pos h1, endX_E] at h
    rw [endX_E]
    revert h
    generalize (takeX L 4 _).2 = o
    generalize (takeX L 4 _).1 = sb
    generalize (treeR L _ _).1 = t
    intro h
    cases o with
    | error e => rfl
    | ok j =>
      simp only [endE] at h ⊢
      split at h
      · rename_i h2
        rw [if_pos h2]
        split at h
        · rename_i h3; rw [if_pos h3]
        · exact absurd rfl h
      · rename_i h2; rw [if_neg h2]
  · rfl
theorem readX_ok {crc : List Int → Int} {L : List Int} {t : List Lf} (h : readX crc L = (t, 0)) (ht : t ≠ []) : headB L = true ∧ ∃ j, treeR L (numX L 2 0 4095 (.ok 5)) (numX L 8 0 18446744073709551615 (numX L 2 0 4095 (.ok 5)).2) = (t, .ok j) ∧ j + 5 = L.length ∧ L.drop (j + 1) = le (crc (L.take (j + 1))) 4 := by
  unfold readX at h
  split at h
  · rename_i h1
    refine ⟨h1, ?_⟩
    rw [endX_E] at h
    obtain ⟨tr, htr⟩ : ∃ tr, treeR L (numX L 2 0 4095 (.ok 5)) (numX L 8 0 18446744073709551615 (numX L 2 0 4095 (.ok 5)).2) = tr := ⟨_, rfl⟩
    rw [htr] at h
    cases ho : (takeX L 4 (takeX L 1 tr.2).2).2 with
    | error e =>
      rw [ho] at h
      simp only [endE, Prod.mk.injEq] at h
      exact absurd h.1.symm ht
    | ok k =>
      rw [ho] at h
      simp only [endE] at h
      split at h
      · rename_i h2
        split at h
        · simp only [Prod.mk.injEq] at h; exact absurd h.1.symm ht
        · rename_i h3
          obtain ⟨i, e1, e2, e3⟩ := takeX_on ho
          obtain ⟨j, f1, f2, f3⟩ := takeX_on e1
          refine ⟨j, ?_, by omega, ?_⟩
          · rw [htr, ← f1]
            simp only [Prod.mk.injEq] at h
            rw [← h.1]
          · rw [e1] at h2
            have hk : k - 4 = j + 1 := by omega
            rw [hk] at h2
            rw [← h2]
            simp only [takeX]
            rw [if_pos (by omega), f2]
            exact (List.take_of_length_le (by rw [List.length_drop]; omega)).symm
      · simp only [Prod.mk.injEq] at h; exact absurd h.1.symm ht
  · simp only [Prod.mk.injEq] at h
    exact absurd h.1.symm ht
end Go.Proofs.YtlnaeppbhjmocaaDoor
set_option linter.unusedSimpArgs false
set_option linter.unusedVariables false
namespace Go.Proofs.YtlnaeppbhjmocaaDoor
open Go.RowKit Go.Proofs

theorem restB_all : ∀ (r : List Lf) (ahead : List ByteArray) (dir : Bool), restB ahead dir r = true → ∀ l ∈ r, okL l = true ∧ namesP l.path.data.toList = some (nmL l) ∧ nmL l ≠ [] := by
  intro r
  induction r with
  | nil => intro _ _ _ l hl; cases hl
  | cons x r ih =>
    intro ahead dir h l hl
    rw [restB, Bool.and_eq_true, Bool.and_eq_true, Bool.and_eq_true] at h
    obtain ⟨⟨⟨h1, h2⟩, h3⟩, h4⟩ := h
    rcases List.mem_cons.1 hl with e | e
    · subst e
      refine ⟨h2, ?_, ?_⟩
      · unfold nmL
        cases hq : namesP l.path.data.toList with
        | none => rw [hq] at h1; cases h1
        | some ns => rfl
      · simp only [stepX, Bool.and_eq_true] at h3
        exact behind_ne ltB h3.1.1
    · exact ih _ _ h4 l e
theorem last_63 {l : Lf} {ns : List ByteArray} (h : namesP l.path.data.toList = some ns) (hne : ns ≠ []) : (ns.getLastD ⟨#[]⟩).size ≤ 63 := by
  have hg := (namesP_good h).2.1
  have hl : ns.getLastD ⟨#[]⟩ ∈ ns := by
    rw [List.getLastD_eq_getLast?, List.getLast?_eq_some_getLast hne]
    exact List.getLast_mem hne
  exact (nameB_all (hg _ hl)).2.2.2.1
theorem pieces_ok : ∀ (r : List Lf), (∀ l ∈ r, okL l = true ∧ namesP l.path.data.toList = some (nmL l) ∧ nmL l ≠ []) → (∀ l ∈ r, bytesOk l.data) →
    bytesOk (r.flatMap fun y => pieceB y (nmL y)) ∧ (r.flatMap fun y => pieceB y (nmL y)).length ≤ (r.map fun l => 256 + 6 * l.data.length).sum := by
  intro r
  induction r with
  | nil => intro _ _; exact ⟨fun x hx => (by cases hx), by simp⟩
  | cons l r ih =>
    intro h hd
    obtain ⟨h1, h2, h3⟩ := h l List.mem_cons_self
    have hp := piece_ok h1 (hd l List.mem_cons_self) (namesP_good h2).2.2.1 (last_63 h2 h3)
    obtain ⟨i1, i2⟩ := ih (fun x hx => h x (List.mem_cons_of_mem _ hx)) (fun x hx => hd x (List.mem_cons_of_mem _ hx))
    rw [List.flatMap_cons, List.map_cons, List.sum_cons, List.length_append]
    exact ⟨bytesOk_app hp.1 i1, by have := hp.2; omega⟩
theorem packX_bytes {t : List Lf} {L : List Int} (h : packX t = (L, 0)) (hd : ∀ l ∈ t, bytesOk l.data) : bytesOk L ∧ L.length ≤ 20 + (t.map fun l => 256 + 6 * l.data.length).sum ∧ 20 ≤ L.length := by
  obtain ⟨x, r, rfl, h1, h2, h3, h4, rfl⟩ := packX_ok h
  obtain ⟨p1, p2⟩ := pieces_ok r (restB_all r _ _ h4) (fun l hl => hd l (List.mem_cons_of_mem _ hl))
  have hb : bytesOk (headX x) := by
    unfold headX
    refine bytesOk_app (bytesOk_app (fun z hz => ?_) (le_mem _ _)) (le_mem _ _)
    simp at hz
    omega
  have hl : (headX x).length = 15 := by
    unfold headX
    simp only [List.length_append, le_length, List.length_cons, List.length_nil]
  unfold bodyX
  refine ⟨bytesOk_app (bytesOk_app (bytesOk_app hb p1) (bytesOk_one (by decide))) (le_mem _ _), ?_, ?_⟩
  · simp only [List.length_append, le_length, List.length_cons, List.length_nil, hl, List.map_cons, List.sum_cons]
    omega
  · simp only [List.length_append, le_length, List.length_cons, List.length_nil, hl]
    omega
/-- a tree argument that is not beyond the bounds -/
structure TIn (w : World) (A : Option Addr) (c : Nat) (tv : List (Lf × Value)) : Prop where
  at_ : LAt w A tv
  cap : tv.length ≤ c
  len : tv.length ≤ 1048576
  path : ∀ p ∈ tv, p.1.path.size ≤ 1048575
  stamp : ∀ p ∈ tv, 0 ≤ p.1.stamp ∧ p.1.stamp ≤ 18446744073709551615
  sum : (tv.map fun p => 256 + 6 * p.1.data.length).sum ≤ 536870912
  bytes : ∀ p ∈ tv, bytesOk p.1.data
theorem TIn.pack {w0 w : World} {A : Option Addr} {c : Nat} {tv : List (Lf × Value)} (h : TIn w0 A c tv) (q : Fr w0 w) (hB0 : 0 < w0.heap.size) :
    Calls Tryd.prog 21 #[.slice A tv.length c] w fun e w' => ∃ v, e = .returned (.tuple #[v, .int .i64 (packX (tv.map Prod.fst)).2]) ∧ OwnB w' w.heap.size v (packX (tv.map Prod.fst)).1 ∧ Fr w w' :=
  pack_any A c tv w q.ok (h.at_.fr q) h.cap (by have := h.len; omega) h.path h.stamp h.sum h.bytes (by have := q.size; omega)
theorem BytesAt.take {w : World} {A : Option Addr} {L : List Int} (h : BytesAt w A L) (k : Nat) : BytesAt w A (L.take k) := by
  rcases h with h | ⟨g, o, hA, hg, h⟩
  · exact .inl (by rw [h]; simp)
  · refine .inr ⟨g, o, hA, hg, fun i x hx => h i x ?_⟩
    rw [List.getElem?_take] at hx
    split at hx
    · exact hx
    · cases hx
theorem own_nz {w : World} {B n c : Nat} {a : Option Addr} {xs : List Int} (h : OwnB w B (.slice a n c) xs) : a = none → c = 0 := fun e => by
  subst e
  rcases h.2 with ⟨hv, _⟩ | ⟨g, cap, cur, hv, _⟩
  · injection hv
  · cases hv
theorem tree_nil {w : World} {B : Nat} {v : Value} (h : TreeAt w B v []) : ∃ a c, v = .slice a 0 c := by
  obtain ⟨a, tv, c, rfl, h1, _⟩ := h
  have : tv = [] := by simpa using h1
  subst this
  exact ⟨a, c, rfl⟩

end Go.Proofs.YtlnaeppbhjmocaaDoor
set_option linter.unusedSimpArgs false
set_option linter.unusedVariables false
namespace Go.Proofs.YtlnaeppbhjmocaaDoor
open Go.ChangeShapes Go.WideShapes Go.ChangeAt Go.RowKit

instance : Inhabited (Lf × Value) := ⟨(default, .bool false)⟩
section
variable {H : Type} {enc : TypeId × Value → H} {w : World} {base : Nat} {sp : Nat → Bool} {held : Bool}

theorem bulk_sum {α : Type} (F : Nat → α) (g : α → Nat) (D : Nat → DataW H) : ∀ n, (∀ i, i < n → g (F i) ≤ Rows.uptoBulk (D i)) → (((List.range n).map F).map g).sum ≤ Rows.uptoBulkAll ((List.range n).map D) := by
  have happ : ∀ a b : List (DataW H), Rows.uptoBulkAll (a ++ b) = Rows.uptoBulkAll a + Rows.uptoBulkAll b := by
    intro a b
    induction a with
    | nil => simp [Rows.uptoBulkAll]
    | cons x r ih => simp only [List.cons_append, Rows.uptoBulkAll, ih]; omega
  intro n
  induction n with
  | zero => intro _; simp
  | succ n ih =>
    intro h
    have h1 := ih (fun i hi => h i (by omega))
    have h2 := h n (by omega)
    rw [List.range_succ, List.map_append, List.map_append, List.map_append, List.sum_append, happ]
    simp only [List.map_cons, List.map_nil, List.sum_cons, List.sum_nil, Rows.uptoBulkAll]
    omega
/-- a slice of structs of k cells, with the sum of a measure -/
theorem open_rows2 {α : Type} [Inhabited α] {Ts e : TypeId} {k : Nat} (f : α → List Value) (hf : ∀ a, (f a).length = k) (hk : 0 < k) (ht : Tryd.prog.underlying Ts = some (.slice e)) (hc : Tryd.prog.cellsOf e = k) (Q : α → DataW H → Prop) (g : α → Nat) (hg : ∀ a d, Q a d → g a ≤ Rows.uptoBulk d)
    (hopen : ∀ {fuel : Nat} {cs : List Value} {x : DataW H × List MemPlace}, DataW.trod enc Tryd.prog w base sp held fuel e cs = some x → ∃ a, Q a x.1 ∧ cs = f a)
    {fuel : Nat} {cs : List Value} {x : DataW H × List MemPlace} (h : DataW.trod enc Tryd.prog w base sp held fuel Ts cs = some x) :
    ∃ (l : List α) (A : Option Addr) (c : Nat), cs = [.slice A l.length c] ∧ Row w A k (l.map f) ∧ l.length ≤ c ∧ (A = none → c = 0) ∧ l.length ≤ Rows.uptoBulk x.1 ∧ (l.map g).sum ≤ Rows.uptoBulk x.1 ∧ ∀ a ∈ l, ∃ d, Q a d ∧ Rows.uptoBulk d ≤ Rows.uptoBulk x.1 := by
  rcases Deep.open_slice ht h with ⟨rfl, rfl⟩ | ⟨ad, len, cap, m, n, D, Pl, rfl, hb, hl, hm, hmm, rfl, hx⟩
  · exact ⟨[], none, 0, rfl, .inl rfl, Nat.le_refl _, fun _ => rfl, by simp, by simp, fun a ha => by cases ha⟩
  rw [hc] at hx
  have hle : len ≤ m := by rw [hmm]; split <;> omega
  have key : ∀ i, i < len → ∃ a : α, Q a (D i) ∧ w.cells? base (ad.add (i * k)) k = some (f a) := fun i hi => by
    obtain ⟨cs', h1, h2⟩ := hx i (by omega)
    obtain ⟨a, ha, rfl⟩ := hopen h2
    exact ⟨a, ha, h1⟩
  clear hx
  obtain ⟨F, hF⟩ := Deep.choose_lt (α := α) (p := fun i a => Q a (D i) ∧ w.cells? base (ad.add (i * k)) k = some (f a)) key
  have hbulk : Rows.uptoBulkAll ((List.range len).map D) ≤ Rows.uptoBulk (DataW.slice ((List.range len).map D) ((List.range (m - len)).map fun j => D (len + j))) := by
    simp only [Rows.uptoBulk]; omega
  refine ⟨(List.range len).map F, some ad, cap, by simp, ?_, by simpa using hl, (fun e => by cases e), ?_, Nat.le_trans (bulk_sum F g D len (fun i hi => hg _ _ (hF i hi).1)) hbulk, ?_⟩
  · cases len with
    | zero => exact .inl rfl
    | succ len =>
      right
      have cellsF : ∀ i, i < len + 1 → ∀ j, j < k → w.cell? (ad.add (i * k + j)) = (f (F i))[j]? := fun i hi j hj => by
        have := (World.cells?_some (hF i hi).2).2.2 j hj
        rwa [Deep.add_add] at this
      obtain ⟨b, o, spot⟩ := ad
      have h0 := cellsF 0 (by omega) 0 hk
      obtain ⟨v0, hv0⟩ : ∃ v, (f (F 0))[0]? = some v := ⟨_, List.getElem?_eq_getElem (by rw [hf]; exact hk)⟩
      rw [hv0] at h0
      have hspot : spot = none := by simpa [Addr.add] using World.cell?_spot h0
      subst hspot
      refine ⟨b, o, rfl, by simpa [Addr.add] using World.block_lt_of_cell? w _ h0, fun i c hi j v hj hv => ?_⟩
      have hi' : i < len + 1 := by have := (List.getElem?_eq_some_iff.1 hi).1; simpa using this
      have hce : c = f (F i) := by
        simp only [List.getElem?_map, List.getElem?_range hi', Option.map_some, Option.some.injEq] at hi
        exact hi.symm
      subst hce
      have := cellsF i hi' j hj
      rw [Lib.add_plain, hv] at this
      rw [Nat.add_assoc]; exact this
  · have := bulk_len ((List.range len).map D)
    simp only [List.length_map, List.length_range] at this ⊢
    omega
  · intro a ha
    obtain ⟨i, hi, rfl⟩ := List.mem_map.1 ha
    have hi' : i < len := by simpa using hi
    refine ⟨D i, (hF i hi').1, ?_⟩
    exact Nat.le_trans (bulk_get (es := (List.range len).map D) (i := i) (e := D i) (by simp [hi'])) hbulk
def LfOk (w : World) (p : Lf × Value) (d : DataW H) : Prop :=
  p.1.path.size + 1 ≤ Rows.uptoBulk d ∧ (0 ≤ p.1.stamp ∧ p.1.stamp ≤ 18446744073709551615) ∧ (∃ a c, p.2 = .slice a p.1.data.length c ∧ BytesAt w a p.1.data ∧ p.1.data.length ≤ c ∧ (a = none → c = 0)) ∧ bytesOk p.1.data ∧ p.1.data.length ≤ Rows.uptoBulk d
set_option maxRecDepth 100000 in
theorem open_leaf {fuel : Nat} {cs : List Value} {x : DataW H × List MemPlace} (h : DataW.trod enc Tryd.prog w base sp held fuel 45 cs = some x) : ∃ p : Lf × Value, LfOk w p x.1 ∧ cs = lcell p := by
  have hc1 : Tryd.prog.cellsOf 3 = 1 := by kernel_rfl
  have hcu : Tryd.prog.cellsOf 43 = 1 := by kernel_rfl
  have hcs : Tryd.prog.cellsOf 9 = 1 := by kernel_rfl
  have hcB : Tryd.prog.cellsOf 22 = 1 := by kernel_rfl
  have hc6 : Tryd.prog.cellsOf 45 = 6 := by kernel_rfl
  obtain ⟨xs, n, rfl, rfl, hl, hx, hf⟩ := DataW.trod_struct Tryd.underlying45 h
  rw [hc6] at hl
  match xs, hx, cs, hl with
  | [x0, x1, x2, x3, x4, x5], _, [c0, c1, c2, c3, c4, c5], _ =>
    have h0 := hf 0 _ rfl
    have h1 := hf 1 _ rfl
    have h2 := hf 2 _ rfl
    have h3 := hf 3 _ rfl
    have h4 := hf 4 _ rfl
    have h5 := hf 5 _ rfl
    simp [hc1, hcu, hcs, hcB] at h0 h1 h2 h3 h4 h5
    obtain ⟨pa, e0, rfl, _⟩ := DataW.trod_string Tryd.underlying9 h0
    obtain ⟨ty, e1, rfl, w1⟩ := DataW.trod_int Tryd.underlying3 h1
    obtain ⟨mo, e2, rfl, w2⟩ := DataW.trod_int Tryd.underlying3 h2
    obtain ⟨st, e3, rfl, w3⟩ := DataW.trod_int Tryd.underlying43 h3
    obtain ⟨L, A, c, e4, hB, hb, hlc, hA, hlen⟩ := open_u8s h4
    obtain ⟨tg, e5, rfl, _⟩ := DataW.trod_string Tryd.underlying9 h5
    simp at e0 e1 e2 e3 e4 e5
    subst e0 e1 e2 e3 e4 e5
    have hst : 0 ≤ st ∧ st ≤ 18446744073709551615 := by
      have := w3
      simp [Lit.wf, IntKind.min, IntKind.max, IntKind.signed, IntKind.bits] at this
      omega
    refine ⟨(⟨pa, ty, mo, st, L, tg⟩, .slice A L.length c), ⟨?_, hst, ⟨A, c, rfl, hB, hlc, hA⟩, hb, ?_⟩, rfl⟩
    · have := bulk_pos x4.1
      simp only [List.map_cons, Rows.uptoBulk, Rows.uptoBulkAll, Array.length_toList, ByteArray.size]; omega
    · simp only [List.map_cons, Rows.uptoBulk, Rows.uptoBulkAll]; omega
/-- a tree as an argument -/
theorem open_tree {fuel : Nat} {cs : List Value} {x : DataW H × List MemPlace} (h : DataW.trod enc Tryd.prog w base sp held fuel 26 cs = some x) (hb : Rows.uptoBulk x.1 ≤ 1048576) :
    ∃ (tv : List (Lf × Value)) (A : Option Addr) (c : Nat), cs = [.slice A tv.length c] ∧ TIn w A c tv ∧ (A = none → c = 0) := by
  have hc6 : Tryd.prog.cellsOf 45 = 6 := by kernel_rfl
  obtain ⟨tv, A, c, h1, hR, hlc, hA, hlen, hsum, hall⟩ := open_rows2 lcell (fun _ => rfl) (by decide) Tryd.underlying26 hc6 (fun p d => LfOk w p d) (fun p => p.1.data.length) (fun p d q => q.2.2.2.2) (fun h => open_leaf h) h
  refine ⟨tv, A, c, h1, ⟨⟨hR, fun p hp => ?_⟩, hlc, by omega, fun p hp => ?_, fun p hp => ?_, ?_, fun p hp => ?_⟩, hA⟩
  · obtain ⟨d, q, _⟩ := hall p hp
    exact q.2.2.1
  · obtain ⟨d, q, hd⟩ := hall p hp
    have := q.1
    omega
  · obtain ⟨d, q, hd⟩ := hall p hp
    exact q.2.1
  · have hs : ∀ l : List (Lf × Value), (l.map fun p => 256 + 6 * p.1.data.length).sum = 256 * l.length + 6 * (l.map fun p => p.1.data.length).sum := by
      intro l
      induction l with
      | nil => rfl
      | cons y r ih => simp only [List.map_cons, List.sum_cons, List.length_cons, ih]; omega
    rw [hs]
    omega
  · obtain ⟨d, q, hd⟩ := hall p hp
    exact q.2.2.2.1
end
end Go.Proofs.YtlnaeppbhjmocaaDoor
set_option linter.unusedSimpArgs false
set_option linter.unusedVariables false
namespace Go.Proofs.YtlnaeppbhjmocaaDoor
open Go.RowKit Go.Proofs

theorem crcIt_xor (n : Nat) : ∀ a b : Nat, crcIt n (a ^^^ b) = crcIt n a ^^^ crcIt n b := by
  induction n with
  | zero => intro a b; rfl
  | succ n ih => intro a b; simp only [crcIt, crc_bit_any, ih]
theorem crcIt_add (n : Nat) : ∀ m x : Nat, crcIt (n + m) x = crcIt m (crcIt n x) := by
  induction n with
  | zero => intro m x; rw [Nat.zero_add]; rfl
  | succ n ih => intro m x; rw [show n + 1 + m = (n + m) + 1 by omega]; simp only [crcIt, ih]
theorem crcIt_shift (n : Nat) : ∀ x : Nat, crcIt n (2 ^ n * x) = x := by
  induction n with
  | zero => intro x; simp [crcIt]
  | succ n ih =>
    intro x
    have : 2 ^ (n + 1) * x = 2 * (2 ^ n * x) := by rw [Nat.pow_succ, Nat.mul_comm (2 ^ n) 2, Nat.mul_assoc]
    rw [crcIt, this, crc_even, ih]
theorem add_xor (b v : Nat) (h : b < 256) : b + 256 * v = b ^^^ 256 * v := by
  have h2 : 2 ^ 8 * v + b = 2 ^ 8 * v ||| b := Nat.two_pow_add_eq_or_of_lt h _
  have h3 : b ^^^ 2 ^ 8 * v = 2 ^ 8 * v ||| b := by
    apply Nat.eq_of_testBit_eq
    intro i
    rw [Nat.testBit_xor, Nat.testBit_or]
    by_cases hi : i < 8
    · have : (2 ^ 8 * v).testBit i = false := by
        have := Nat.testBit_two_pow_mul (i := 8) (a := v) (j := i)
        rw [this]; simp; omega
      rw [this]; simp
    · have : b.testBit i = false := Nat.testBit_lt_two_pow (Nat.lt_of_lt_of_le h (Nat.pow_le_pow_right (n := 2) (by decide) (show 8 ≤ i by omega)))
      rw [this]; simp
  rw [show (256 : Nat) = 2 ^ 8 by decide, h3, ← h2]
  omega
/-- the bytes as a number, the lowest first -/
def leN : List Int → Nat
  | [] => 0
  | b :: r => b.toNat + 256 * leN r
theorem crcReg_it {L : List Int} (hL : bytesOk L) : ∀ s : Nat, crcReg L s = crcIt (8 * L.length) (s ^^^ leN L) := by
  induction L with
  | nil => intro s; simp [crcReg, leN, crcIt]
  | cons b r ih =>
    intro s
    have hb := hL b List.mem_cons_self
    rw [crcReg, ih (fun x hx => hL x (List.mem_cons_of_mem _ hx)), crcByte, leN, List.length_cons, show 8 * (r.length + 1) = 8 + 8 * r.length by omega, crcIt_add, add_xor _ _ (by omega)]
    have e := crcIt_shift 8 (leN r)
    rw [show (2 : Nat) ^ 8 = 256 by decide] at e
    rw [← Nat.xor_assoc, crcIt_xor 8 _ (256 * leN r), e]
theorem leN_le (v : Nat) : ∀ n, leN (le (v : Int) n) = v % 256 ^ n := by
  intro n
  induction n generalizing v with
  | zero => simp [le, leN, Nat.mod_one]
  | succ n ih =>
    have e : ((v : Int) / 256) = ((v / 256 : Nat) : Int) := by omega
    rw [le, leN, e, ih]
    have h1 : ((v : Int) % 256).toNat = v % 256 := by omega
    rw [h1, Nat.pow_succ, Nat.mul_comm (256 ^ n) 256, Nat.mod_mul]
theorem le_bytes (v : Nat) (n : Nat) : bytesOk (le (v : Int) n) := by
  intro b hb
  induction n generalizing v with
  | zero => simp [le] at hb
  | succ n ih =>
    rw [le] at hb
    rcases List.mem_cons.mp hb with e | e
    · omega
    · have e2 : ((v : Int) / 256) = ((v / 256 : Nat) : Int) := by omega
      rw [e2] at e
      exact ih _ e
/-- whatever has its sum behind it has one register -/
theorem crc_whole {m : List Int} (hm : bytesOk m) : crcReg (m ++ le (crcN m : Int) 4) 4294967295 = crcIt 32 4294967295 := by
  have h := crcN_lt hm
  rw [crcReg_app, crcReg_it (le_bytes _ 4), leN_le, show (256 : Nat) ^ 4 = 4294967296 by decide, Nat.mod_eq_of_lt h]
  have hl : (le (crcN m : Int) 4).length = 4 := by simp [le]
  rw [hl]
  congr 1
  unfold crcN
  rw [← Nat.xor_assoc, Nat.xor_self, Nat.zero_xor]
theorem crcBit_pos {x : Nat} (h : x < 4294967296) (h0 : x ≠ 0) : crcBit x ≠ 0 := by
  unfold crcBit
  split
  · intro e
    have h2 : x / 2 = 3988292384 := by
      have h3 : x / 2 ^^^ 3988292384 ^^^ 3988292384 = 0 ^^^ 3988292384 := by rw [e]
      rw [Nat.xor_assoc, Nat.xor_self, Nat.xor_zero, Nat.zero_xor] at h3
      exact h3
    omega
  · omega
theorem crcIt_pos (n : Nat) : ∀ x : Nat, x < 4294967296 → x ≠ 0 → crcIt n x ≠ 0 := by
  induction n with
  | zero => intro x _ h; exact h
  | succ n ih => intro x h h0; exact ih _ (crcBit_lt h) (crcBit_pos h h0)
theorem burst {A B : List Int} (hA : bytesOk A) (hB : bytesOk B) (hl : A.length = B.length) (h : crcReg A 4294967295 = crcReg B 4294967295) {p d : Nat} (hp : p ≤ 8 * A.length) (hd : d < 4294967296) (hx : leN A ^^^ leN B = 2 ^ p * d) : d = 0 := by
  rw [crcReg_it hA, crcReg_it hB, ← hl] at h
  have h1 : crcIt (8 * A.length) (leN A ^^^ leN B) = 0 := by
    have e : leN A ^^^ leN B = (4294967295 ^^^ leN A) ^^^ (4294967295 ^^^ leN B) := by
      rw [Nat.xor_comm 4294967295 (leN A), Nat.xor_assoc, ← Nat.xor_assoc 4294967295, Nat.xor_self, Nat.zero_xor]
    rw [e, crcIt_xor, h, Nat.xor_self]
  rw [hx, show 8 * A.length = p + (8 * A.length - p) by omega, crcIt_add, crcIt_shift] at h1
  by_cases h0 : d = 0
  · exact h0
  · exact absurd h1 (crcIt_pos _ _ hd h0)
/-- one bit of one byte is turned -/
theorem leN_flip (L : List Int) (hL : bytesOk L) : ∀ (k j : Nat), k < L.length → j < 8 → leN (L.set k (((L.getD k 0).toNat ^^^ 2 ^ j : Nat) : Int)) = leN L ^^^ 2 ^ (8 * k + j) := by
  induction L with
  | nil => intro k j h; simp at h
  | cons b r ih =>
    intro k j hk hj
    have hb := hL b List.mem_cons_self
    have h2 : (2 : Nat) ^ j < 256 := Nat.lt_of_lt_of_le (Nat.pow_lt_pow_right (by decide) hj) (by decide)
    cases k with
    | zero =>
      have hx : b.toNat ^^^ 2 ^ j < 256 := Nat.xor_lt_two_pow (n := 8) (by omega) h2
      simp only [List.set_cons_zero, List.getD_cons_zero, leN, Int.toNat_natCast]
      rw [add_xor _ _ hx, add_xor _ _ (show b.toNat < 256 by omega), show 8 * 0 + j = j by omega]
      rw [Nat.xor_assoc, Nat.xor_comm (2 ^ j), ← Nat.xor_assoc]
    | succ k =>
      have hr : bytesOk r := fun x hx => hL x (List.mem_cons_of_mem _ hx)
      simp only [List.set_cons_succ, List.getD_cons_succ, leN]
      rw [ih hr k j (by simpa using hk) hj, add_xor _ _ (show b.toNat < 256 by omega), add_xor _ _ (show b.toNat < 256 by omega)]
      have e : 2 ^ (8 * (k + 1) + j) = 256 * 2 ^ (8 * k + j) := by rw [show 8 * (k + 1) + j = (8 * k + j) + 8 by omega, Nat.pow_add, Nat.mul_comm]
      have e2 : 256 * (leN r ^^^ 2 ^ (8 * k + j)) = 256 * leN r ^^^ 256 * 2 ^ (8 * k + j) := by
        have := Nat.shiftLeft_xor_distrib (a := leN r) (b := 2 ^ (8 * k + j)) (i := 8)
        simp only [Nat.shiftLeft_eq] at this
        rw [show (2 : Nat) ^ 8 = 256 by decide] at this
        rw [Nat.mul_comm 256, Nat.mul_comm 256, Nat.mul_comm 256]
        exact this
      rw [e, e2, Nat.xor_assoc]
theorem leN_inj : ∀ (A B : List Int), bytesOk A → bytesOk B → A.length = B.length → leN A = leN B → A = B := by
  intro A
  induction A with
  | nil => intro B _ _ hl _; cases B with
    | nil => rfl
    | cons b r => simp at hl
  | cons a r ih =>
    intro B hA hB hl h
    cases B with
    | nil => simp at hl
    | cons b s =>
      have ha := hA a List.mem_cons_self
      have hb := hB b List.mem_cons_self
      simp only [leN] at h
      have h1 : a = b := by omega
      have h2 : leN r = leN s := by omega
      rw [h1, ih s (fun x hx => hA x (List.mem_cons_of_mem _ hx)) (fun x hx => hB x (List.mem_cons_of_mem _ hx)) (by simpa using hl) h2]
/-! ### Bits turned within 32 neighbours -/
/-- k bits from the place p on, those turned that 'bits' tells -/
def flipS (R : List Int) (p bits : Nat) : Nat → List Int
  | 0 => R
  | k + 1 => if p + k < 8 * R.length ∧ bits.testBit k = true then (flipS R p bits k).set ((p + k) / 8) ((((flipS R p bits k).getD ((p + k) / 8) 0).toNat ^^^ 2 ^ ((p + k) % 8) : Nat) : Int) else flipS R p bits k
def maskS (n p bits : Nat) : Nat → Nat
  | 0 => 0
  | k + 1 => if p + k < n ∧ bits.testBit k = true then maskS n p bits k ^^^ 2 ^ k else maskS n p bits k
theorem flipS_len (R : List Int) (p bits : Nat) : ∀ k, (flipS R p bits k).length = R.length := by
  intro k
  induction k with
  | zero => rfl
  | succ k ih => rw [flipS]; split <;> simp [ih]
theorem bytes_set {L : List Int} (hL : bytesOk L) (k j : Nat) (hk : k < L.length) (hj : j < 8) : bytesOk (L.set k (((L.getD k 0).toNat ^^^ 2 ^ j : Nat) : Int)) := by
  intro x hx
  rcases List.mem_or_eq_of_mem_set hx with h | h
  · exact hL x h
  · have hb := hL (L.getD k 0) (by simp [List.getD, hk])
    have h2 : (2 : Nat) ^ j < 256 := Nat.lt_of_lt_of_le (Nat.pow_lt_pow_right (by decide) hj) (by decide)
    have := Nat.xor_lt_two_pow (x := (L.getD k 0).toNat) (y := 2 ^ j) (n := 8) (by omega) h2
    omega
theorem flipS_ok {R : List Int} (hR : bytesOk R) (p bits : Nat) : ∀ k, bytesOk (flipS R p bits k) := by
  intro k
  induction k with
  | zero => exact hR
  | succ k ih =>
    rw [flipS]
    split
    · rename_i h
      exact bytes_set ih _ _ (by rw [flipS_len]; omega) (by omega)
    · exact ih
theorem maskS_lt (n p bits : Nat) : ∀ k, maskS n p bits k < 2 ^ k := by
  intro k
  induction k with
  | zero => simp [maskS]
  | succ k ih =>
    have h2 : (2 : Nat) ^ k < 2 ^ (k + 1) := Nat.pow_lt_pow_right (by decide) (by omega)
    rw [maskS]
    split
    · exact Nat.xor_lt_two_pow (Nat.lt_trans ih h2) h2
    · omega
theorem flipS_leN {R : List Int} (hR : bytesOk R) (p bits : Nat) : ∀ k, leN (flipS R p bits k) = leN R ^^^ 2 ^ p * maskS (8 * R.length) p bits k := by
  intro k
  induction k with
  | zero => simp [flipS, maskS]
  | succ k ih =>
    rw [flipS, maskS]
    by_cases h : p + k < 8 * R.length ∧ bits.testBit k = true
    · rw [if_pos h, if_pos h, leN_flip _ (flipS_ok hR p bits k) _ _ (by rw [flipS_len]; omega) (by omega), ih]
      have e : 8 * ((p + k) / 8) + (p + k) % 8 = p + k := by omega
      have e2 : 2 ^ p * (maskS (8 * R.length) p bits k ^^^ 2 ^ k) = 2 ^ p * maskS (8 * R.length) p bits k ^^^ 2 ^ (p + k) := by
        have := Nat.shiftLeft_xor_distrib (a := maskS (8 * R.length) p bits k) (b := 2 ^ k) (i := p)
        simp only [Nat.shiftLeft_eq] at this
        rw [Nat.mul_comm, this, Nat.mul_comm, ← Nat.pow_add, Nat.add_comm k p]
      rw [e, e2, Nat.xor_assoc]
    · rw [if_neg h, if_neg h, ih]
/-- turned bits are found out -/
theorem flip_found {R R' : List Int} (hR : bytesOk R) (p bits : Nat) (hp : p ≤ 8 * R.length) (he : flipS R p bits 32 = R') (hne : R' ≠ R) (h : crcReg R 4294967295 = crcReg R' 4294967295) : False := by
  have hl := flipS_leN hR p bits 32
  have hm := maskS_lt (8 * R.length) p bits 32
  have hok := flipS_ok hR p bits 32
  have hln := flipS_len R p bits 32
  rw [he] at hl hok hln
  have h0 : maskS (8 * R.length) p bits 32 = 0 := by
    refine burst hR hok hln.symm h hp hm ?_
    rw [hl, ← Nat.xor_assoc, Nat.xor_self, Nat.zero_xor]
  rw [h0, Nat.mul_zero, Nat.xor_zero] at hl
  exact hne (leN_inj R' R hok hR hln hl)
end Go.Proofs.YtlnaeppbhjmocaaDoor
set_option linter.unusedSimpArgs false
set_option linter.unusedVariables false
namespace Go.Proofs.YtlnaeppbhjmocaaDoor
open Go.RowKit Go.Proofs

theorem treeX_acc (gt : ByteArray → ByteArray → Bool) (L : List Int) (dry : Bool) : ∀ (f : Nat) (acc : List Lf) (ns : List ByteArray) (dir : Bool) (o : Er), acc.length ≤ (treeX gt L dry f acc ns dir o).1.length := by
  intro f
  induction f with
  | zero => intro acc ns dir o; cases o <;> simp [treeX]
  | succ f ih =>
    intro acc ns dir o
    cases o with
    | error e => simp [treeX]
    | ok i =>
      simp only [treeX]
      split
      · refine Nat.le_trans ?_ (ih _ _ _ _)
        simp
      · simp
/-- an error is none that is no error -/
def okE (o : Er) : Prop := ∀ e, o = .error e → e ≠ 0
theorem okE_ok (i : Nat) : okE (.ok i) := fun e h => by cases h
theorem okE_err {e : Int} (h : e ≠ 0) : okE (.error e) := fun e' h' => by injection h' with h'; rw [← h']; exact h
theorem takeX_okE {L : List Int} {n : Nat} {o : Er} (h : okE o) : okE (takeX L n o).2 := by
  cases o with
  | error e => exact h
  | ok i =>
    simp only [takeX]
    split
    · exact okE_ok _
    · exact okE_err (by decide)
theorem numX_okE {L : List Int} {n : Nat} {lo hi : Int} {o : Er} (h : okE o) : okE (numX L n lo hi o).2 := by
  have h1 := takeX_okE (L := L) (n := n) h
  unfold numX
  cases ht : takeX L n o with
  | mk bs o1 =>
    rw [ht] at h1
    cases o1 with
    | error e => exact h1
    | ok j =>
      dsimp only
      split
      · exact okE_ok _
      · exact okE_err (by decide)
theorem orFail_okE {o : Er} {b : Bool} (h : okE o) : okE (orFail o b) := by
  cases o with
  | error e => exact h
  | ok j =>
    unfold orFail
    dsimp only
    split
    · exact okE_err (by decide)
    · exact okE_ok _
theorem dataX_okE {L : List Int} {dry : Bool} {n : Int} : ∀ (f : Nat) (told : Int) (out : List Int) (last : Int) (o : Er), okE o → okE (dataX L dry n f told out last o).2 := by
  intro f
  induction f with
  | zero => intro told out last o h; cases o <;> exact h
  | succ f ih =>
    intro told out last o h
    cases o with
    | error e => exact h
    | ok i =>
      simp only [dataX]
      split
      · have h2 := numX_okE (L := L) (n := 4) (lo := if (numX L 1 0 1 (.ok i)).1 = 0 then 16 else 1) (hi := n - told) (orFail_okE (b := decide ((numX L 1 0 1 (.ok i)).1 = last)) (numX_okE (L := L) (n := 1) (lo := 0) (hi := 1) h))
        revert h2
        generalize numX L 4 (if (numX L 1 0 1 (.ok i)).1 = 0 then 16 else 1) (n - told) (orFail (numX L 1 0 1 (.ok i)).2 (decide ((numX L 1 0 1 (.ok i)).1 = last))) = k
        intro h2
        obtain ⟨kv, ko⟩ := k
        cases ko with
        | error e => exact h2
        | ok j =>
          dsimp only
          split
          · exact ih _ _ _ _ (orFail_okE (takeX_okE (okE_ok _)))
          · exact ih _ _ _ _ (okE_ok _)
      · exact h
theorem leafX_okE {gt : ByteArray → ByteArray → Bool} {L : List Int} {dry : Bool} {ahead : List ByteArray} {dir : Bool} {o : Er} (h : okE o) : okE (leafX gt L dry ahead dir o).2 := by
  unfold leafX
  dsimp only
  have h6 := takeX_okE (L := L) (n := (numX L 1 1 63 (numX L 8 0 18446744073709551615 (numX L 2 0 4095 (numX L 1 1 3 (numX L 1 0 (mostX ahead dir) o).2).2).2).2).1.toNat) (numX_okE (L := L) (n := 1) (lo := 1) (hi := 63) (numX_okE (L := L) (n := 8) (lo := 0) (hi := 18446744073709551615) (numX_okE (L := L) (n := 2) (lo := 0) (hi := 4095) (numX_okE (L := L) (n := 1) (lo := 1) (hi := 3) (numX_okE (L := L) (n := 1) (lo := 0) (hi := mostX ahead dir) h)))))
  split
  · rename_i e he
    rw [he] at h6
    exact h6
  · split
    · exact okE_err (by decide)
    · split
      · exact dataX_okE _ _ _ _ _ (numX_okE (okE_ok _))
      · split
        · exact orFail_okE (takeX_okE (numX_okE (okE_ok _)))
        · exact okE_ok _
theorem treeX_okE {gt : ByteArray → ByteArray → Bool} {L : List Int} {dry : Bool} : ∀ (f : Nat) (acc : List Lf) (ns : List ByteArray) (dir : Bool) (o : Er), okE o → okE (treeX gt L dry f acc ns dir o).2 := by
  intro f
  induction f with
  | zero => intro acc ns dir o h; cases o <;> exact h
  | succ f ih =>
    intro acc ns dir o h
    cases o with
    | error e => exact h
    | ok i =>
      simp only [treeX]
      split
      · exact ih _ _ _ _ (leafX_okE h)
      · exact h
theorem readX_some {crc : List Int → Int} {L : List Int} {t : List Lf} (h : readX crc L = (t, 0)) : t ≠ [] := by
  unfold readX at h
  split at h
  · rw [endX_E] at h
    obtain ⟨tr, htr⟩ : ∃ tr, treeR L (numX L 2 0 4095 (.ok 5)) (numX L 8 0 18446744073709551615 (numX L 2 0 4095 (.ok 5)).2) = tr := ⟨_, rfl⟩
    have hl : 1 ≤ tr.1.length := by
      rw [← htr]
      unfold treeR
      exact treeX_acc gtB L false _ [_] _ _ _
    have hb : okE (takeX L 4 (takeX L 1 tr.2).2).2 := by
      refine takeX_okE (takeX_okE ?_)
      rw [← htr]
      unfold treeR
      exact treeX_okE _ _ _ _ _ (numX_okE (numX_okE (okE_ok 5)))
    rw [htr] at h
    revert h hb
    generalize takeX L 4 (takeX L 1 tr.2).2 = q
    obtain ⟨sb, o⟩ := q
    intro h hb
    cases o with
    | error e =>
      simp only [endE, Prod.mk.injEq] at h
      exact absurd h.2 (hb e rfl)
    | ok j =>
      simp only [endE] at h
      split at h
      · split at h
        · simp at h
        · simp only [Prod.mk.injEq] at h
          rw [← h.1]
          intro e
          rw [e] at hl
          simp at hl
      · simp at h
  · simp at h
theorem burst_refused {t : List Lf} {L R : List Int} (h : packX t = (L, 0)) (hd : ∀ l ∈ t, bytesOk l.data) (p bits : Nat) (hp : p ≤ 8 * L.length) (he : flipS L p bits 32 = R) (hne : R ≠ L) : (readX crcI R).2 ≠ 0 := by
  intro h0
  obtain ⟨⟨t2, e2⟩, hr⟩ : ∃ q, readX crcI R = q := ⟨_, rfl⟩
  rw [hr] at h0
  dsimp only at h0
  subst h0
  have hLb := (packX_bytes h hd).1
  have hRb : bytesOk R := by rw [← he]; exact flipS_ok hLb p bits 32
  obtain ⟨_, j, _, h3, h4⟩ := readX_ok hr (readX_some hr)
  have hR : R = R.take (j + 1) ++ le (crcI (R.take (j + 1))) 4 := by
    rw [← h4, List.take_append_drop]
  obtain ⟨x, r, rfl, _, _, _, _, hL⟩ := packX_ok h
  have c1 : crcReg L 4294967295 = crcIt 32 4294967295 := by
    have hb : bytesOk (bodyX x r) := fun z hz => hLb z (by rw [hL]; exact List.mem_append_left _ hz)
    rw [hL]
    exact crc_whole hb
  have c2 : crcReg R 4294967295 = crcIt 32 4294967295 := by
    rw [hR]
    exact crc_whole (hRb.take _)
  exact flip_found hLb p bits hp he hne (by rw [c1, c2])
end Go.Proofs.YtlnaeppbhjmocaaDoor
set_option linter.unusedSimpArgs false
set_option linter.unusedVariables false
namespace Go.Proofs.YtlnaeppbhjmocaaDoor
open Go.RowKit Go.Proofs Go.Proofs.YtlnaeppbhjmocaaDoorW.PrintWords Go.Proofs.YtlnaeppbhjmocaaDoorW.PrintMore

theorem nums_back {l : List Int} (h : bytesOk l) : bytesI (strOfNums l) = l := by
  unfold bytesI strOfNums
  simp only [List.map_map]
  refine (List.map_congr_left (fun x hx => ?_)).trans (List.map_id l)
  have := h x hx
  simp only [Function.comp_apply, UInt8.toNat_ofNat', id_eq]
  omega
theorem same_false {w : World} (hw : Ok w) {A A' : Option Addr} {c c' : Nat} {xs ys : List Int} (h : BytesAt w A xs) (h' : BytesAt w A' ys) (hc : xs.length ≤ c) (hc' : ys.length ≤ c') (hL : xs.length ≤ 1099511627776) (hL' : ys.length ≤ 1099511627776) (hx : bytesOk xs) (hy : bytesOk ys) (hne : xs ≠ ys) :
    Calls Tryd.prog 22 #[.slice A xs.length c, .slice A' ys.length c'] w fun e w' => e = .returned (.bool false) ∧ Fr w w' := by
  refine (Psame.shalelaw18_same.calls A c xs A' c' ys false w (h.toC (by omega)) hc (h'.toC (by omega)) hc' ?_).mono fun e w' ⟨he, hb⟩ => ⟨he, Fr.of hw hb.below⟩
  unfold Psame.shalelaw18_same.f
  congr 1
  rw [beq_eq_false_iff_ne]
  intro e
  apply hne
  rw [← nums_back hx, ← nums_back hy]
  unfold bytesI
  rw [toL, toL] at e
  rw [e]
/-- a row, copied behind an empty one -/
theorem copy_row (W : World) (hW : Ok W) (a : Option Addr) (d : Nat) (L : List Int) (hL : BytesAt W a L) (hn : a = none → d = 0) (hl : L.length ≤ 1073741824) :
    ∃ g1 w1 a2 d2 w2, W.heap.size = g1 ∧ W.alloc (.cells #[] 5) = w1 ∧ (Builtin.append_ #[22, 22] 22 #[.slice (some ⟨g1, 0, none⟩) 0 0, .slice a L.length d]).run Tryd.prog w1 = .ok (.slice a2 L.length d2) w2 ∧
      OwnB w2 W.heap.size (.slice a2 L.length d2) L ∧ Fr W w2 := by
  have O1 := OwnB.empty W W.heap.size (Nat.le_refl _)
  obtain ⟨w1, hw1⟩ : ∃ w1, W.alloc (.cells #[] 5) = w1 := ⟨_, rfl⟩
  have q1 : W.grownBy w1 none := by rw [← hw1]; exact World.grownBy_alloc _ _ none
  rw [hw1] at O1
  have f1 := fr_of_grown hW q1
  obtain ⟨v2, w2, hap, O2, q2, i2⟩ := append_row 22 W.heap.size (some ⟨W.heap.size, 0, none⟩) 0 [] L a d w1 O1 (hL.fr f1) hn (by simp; omega) q1.size
  rw [List.nil_append] at O2
  simp only [List.length_nil] at hap
  obtain ⟨a2, d2, rfl⟩ := O2.form
  exact ⟨_, w1, a2, d2, w2, rfl, hw1, hap, O2, Fr.row f1 hW q2 (fun k e => (World.ownsRow.lt O1 k e).1)⟩
/-- one byte of a row of one's own is another -/
theorem OwnB.set {w : World} {B g n c : Nat} {xs : List Int} (h : OwnB w B (.slice (some ⟨g, 0, none⟩) n c) xs) (k : Nat) (z : Int) : OwnB (w.setCell ⟨g, k, none⟩ (.int .u8 z)) B (.slice (some ⟨g, 0, none⟩) n c) (xs.set k z) := by
  obtain ⟨h1, h2⟩ := h
  refine ⟨by simp, ?_⟩
  rcases h2 with ⟨hv, _⟩ | ⟨g', cap, cur, hv, hb, hg, hn, hm, hs, ht⟩
  · cases hv
  · injection hv with e1 e2 e3
    injection e1 with e1
    injection e1 with e1
    subst e1 e2 e3
    refine .inr ⟨g, c, cur.setIfInBounds k (.int .u8 z), by rw [List.length_set], hb, ?_, by rw [List.length_set]; exact hn, hm, by simpa using hs, ?_⟩
    · simp [World.setCell, Array.getElem?_modify, hg]
    · rw [Array.toList_setIfInBounds, List.length_set, List.take_set, ht, List.map_set]
theorem fr_setCell {w0 w : World} (hw0 : Ok w0) (f : Fr w0 w) {g : Nat} (hg : w0.heap.size ≤ g) (k : Nat) (v : Value) : Fr w0 (w.setCell ⟨g, k, none⟩ v) :=
  Fr.of hw0 (f.below.setCell hg v)
theorem bytes_setCell {w : World} {A : Option Addr} {L : List Int} (h : BytesAt w A L) {g : Nat} (hne : ∀ a, A = some a → a.block ≠ g) (k : Nat) (v : Value) : BytesAt (w.setCell ⟨g, k, none⟩ v) A L := by
  rcases h with h | ⟨gA, o, hA, hg, h⟩
  · exact .inl h
  · have hk := hne _ hA
    refine .inr ⟨gA, o, hA, by simpa [World.setCell] using hg, fun i x hx => ?_⟩
    have h1 := h i x hx
    have h2 := Below.heap_setCell w ⟨g, k, none⟩ v gA hk
    unfold World.cell? at h1 ⊢
    dsimp only at h1 ⊢
    rw [h2]
    exact h1
theorem flipS_stop (R : List Int) (p bits i : Nat) (h : 8 * R.length ≤ p + i) : ∀ k, flipS R p bits (i + k) = flipS R p bits i := by
  intro k
  induction k with
  | zero => rfl
  | succ k ih => rw [← Nat.add_assoc, flipS, if_neg (by omega), ih]

theorem xor_byte {b : Int} (hb : 0 ≤ b ∧ b ≤ 255) (j : Nat) (hj : j < 8) : Go.bits .xor .u8 b (2 ^ j % 256) = ((b.toNat ^^^ 2 ^ j : Nat) : Int) := by
  have h2 : (2 : Nat) ^ j < 256 := Nat.lt_of_lt_of_le (Nat.pow_lt_pow_right (by decide) hj) (by decide)
  have h1 : (2 : Int) ^ j % 256 = ((2 ^ j : Nat) : Int) := by
    rw [Int.natCast_pow, Int.emod_eq_of_lt]
    · rfl
    · exact Int.pow_nonneg (by decide)
    · have : ((2 ^ j : Nat) : Int) < 256 := by omega
      rw [Int.natCast_pow] at this
      exact this
  obtain ⟨n, rfl⟩ : ∃ n : Nat, b = (n : Int) := ⟨b.toNat, by omega⟩
  rw [h1, Int.toNat_natCast]
  have ha' : n % 2 ^ IntKind.u8.bits = n := Nat.mod_eq_of_lt (show n < 256 by omega)
  have hb' : 2 ^ j % 2 ^ IntKind.u8.bits = 2 ^ j := Nat.mod_eq_of_lt h2
  simp only [Go.bits, BitVec.ofInt_natCast, BitVec.toNat_xor, BitVec.toNat_ofNat, ha', hb']
  have := Nat.xor_lt_two_pow (x := n) (y := 2 ^ j) (n := 8) (by omega) h2
  rw [IntKind.wrap_u8]; omega
theorem flipS_step {L R : List Int} {p bt i kk jj : Nat} (h1 : flipS L p bt i = R) (h2 : (p + i) / 8 = kk ∧ (p + i) % 8 = jj) (h3 : p + i < 8 * L.length) (h4 : bt.testBit i = true) (hk : kk < R.length) : flipS L p bt (i + 1) = R.set kk ((((R[kk]).toNat ^^^ 2 ^ jj : Nat)) : Int) := by
  rw [flipS, if_pos ⟨h3, h4⟩, h1, h2.1, h2.2]
  congr 3
  simp [List.getD, hk]
theorem and_one (a i : Nat) (ha : a < 4294967296) : (Go.bits .and .u32 ((a : Int) / 2 ^ i) 1 == 1) = a.testBit i := by
  have h1 : ((a : Int) / 2 ^ i) = ((a / 2 ^ i : Nat) : Int) := by rw [Int.natCast_ediv, Int.natCast_pow]; rfl
  have h2 : a / 2 ^ i < 4294967296 := by
    have := Nat.div_le_self a (2 ^ i)
    omega
  have h3 : Go.bits .and .u32 ((a / 2 ^ i : Nat) : Int) 1 = (((a / 2 ^ i) &&& 1 : Nat) : Int) :=
    (bits_nat .u32 32 (by decide) (fun n h0 h1 => by rw [IntKind.wrap_u32]; omega) (a / 2 ^ i) 1 h2 (by decide)).1
  rw [h1, h3, Nat.and_one_is_mod, Nat.testBit_eq_decide_div_mod_eq]
  rw [Bool.eq_iff_iff]
  simp only [beq_iff_eq, decide_eq_true_eq]
  omega
set_option maxRecDepth 100000 in
set_option maxHeartbeats 6400000 in
theorem law_Bursts (A : Option Addr) (c : Nat) (tv : List (Lf × Value)) (pl bits : Int) (w : World) (hw : Ok w) (hg : 4 ≤ w.heap.size) (hT : TIn w A c tv) (hbits : 0 ≤ bits ∧ bits ≤ 4294967295) :
    Calls Tryd.prog 7 #[.slice A tv.length c, .int .i64 pl, .int .u32 bits] w fun e w' => e = .returned (.bool true) ∧ Fr w w' := by
  have hB0 : 0 < w.heap.size := by omega
  obtain ⟨⟨L, er⟩, hP⟩ : ∃ P, packX (tv.map Prod.fst) = P := ⟨_, rfl⟩
  have HPk := Lib.hid (fun W (q : Fr w W) => hT.pack q hB0)
  rw [hP] at HPk
  dsimp only at HPk
  have HHe := Lib.hid (heads_any w hw hg)
  have HNo := Lib.hid (fun x W (q : Fr w W) => no_any x W q.ok)
  by_cases he : er = 0
  · subst he
    have hd : ∀ l ∈ tv.map Prod.fst, bytesOk l.data := fun l hl => by obtain ⟨p, hp, rfl⟩ := List.mem_map.1 hl; exact hT.bytes p hp
    obtain ⟨hLb, hLl, -⟩ := packX_bytes hP hd
    have hLl2 : L.length ≤ 536870932 := by
      have h := hT.sum
      rw [List.map_map] at hLl
      have e : ((fun l : Lf => 256 + 6 * l.data.length) ∘ Prod.fst) = fun p : Lf × Value => 256 + 6 * p.1.data.length := rfl
      rw [e] at hLl
      omega
    have hE0 : ((0 : Int) != 0) = false := rfl
    have HBu := Lib.hid (fun (R : List Int) (p b : Nat) (h1 : p ≤ 8 * L.length) (h2 : flipS L p b 32 = R) (h3 : R ≠ L) => burst_refused hP hd p b h1 h2 h3)
    have HLB := Lib.hid hLb
    clear hP hd hLb hLl
    by_cases hin : 0 ≤ pl ∧ pl < 8 * (L.length : Int)
    · obtain ⟨p, rfl⟩ : ∃ p : Nat, pl = (p : Int) := ⟨pl.toNat, by omega⟩
      obtain ⟨bt, rfl⟩ : ∃ p : Nat, bits = (p : Int) := ⟨bits.toNat, by omega⟩
      have hbl : bt < 4294967296 := by omega
      have c1 : ¬ ((p : Int) < 0) := by omega
      have c2 : ¬ (8 * (L.length : Int) ≤ (p : Int)) := by omega
      have hpl : p < 8 * L.length := by omega
      clear hin hbits
      go_enter Tryd.func7, Tryd.ntmps7
      go_upto_region 6 with (first
        | (go_at_call 24; refine HHe.out.mono ?_; rintro e w1 ⟨rfl, q⟩)
        | (go_at_call 21; refine (HPk.out _ q).mono ?_; rintro e w4 ⟨v4, rfl, O4, q4⟩; replace q := q.trans q4; clear q4; go_loud (obtain ⟨a4, d4, rfl⟩ := O4.form))
        | (go_at_call 16; refine (HNo.out 0 _ q).mono ?_; rintro e w5 ⟨rfl, q5⟩; replace O4 := OwnB.fr O4 q5; replace q := q.trans q5; clear q5))
      obtain ⟨g1, w11, a2, d2, w12, hg1, hw11, hap, O12, f12⟩ := copy_row _ q.ok a4 d4 L O4.at.1 (own_nz O4) (by omega)
      obtain ⟨gr, cr, hcr, hgr1, hgr2⟩ := O12.blk (by omega)
      injection hcr with e1 _ e3
      subst e1 e3
      have hne : ∀ a, a4 = some a → a.block ≠ gr := fun a e => by
        subst e
        have := (OwnB.lt O4 (k := a.block) rfl).2
        omega
      have HNE := Lib.hid hne
      have hBA := Lib.hid (O4.at.1.fr f12)
      have hd4 := O4.at.2.2
      have hd2 := O12.at.2.2
      have hgw := Nat.le_trans q.size hgr1
      have hO12 := Lib.hid (O12.low q.size)
      replace q := q.trans f12
      clear hne O4 O12 f12 hgr1 hgr2
      go_wp2_with (first
        | (at_builtin; refine wpList_append_run rfl _ _ 22 22 rfl (by simp [Act.eval]) (by simp [Act.eval]) hap ?_))
      go_loopg [10] 32 (fun k v10 wc => ∃ i : Nat, i + k = 32 ∧ v10 = .int .i64 i ∧ Hid (OwnB wc w.heap.size (.slice (some ⟨gr, 0, none⟩) L.length d2) (flipS L p bt i)) ∧ Hid (BytesAt wc a4 L) ∧ Hid (Fr w wc))
      case atStart => exact ⟨0, rfl, rfl, hO12, hBA, Lib.hid q⟩
      case round =>
        clear q hO12 hBA hap
        obtain ⟨i, hik, rfl, HO, HB, HF⟩ := hrel
        have HFl := Lib.hid (flipS_len L p bt i)
        have HFo := Lib.hid (flipS_ok HLB.out p bt i)
        obtain ⟨R, hR⟩ : ∃ R, flipS L p bt i = R := ⟨_, rfl⟩
        rw [hR] at HO HFl HFo
        have HR := Lib.hid hR
        clear hR
        by_cases hgo : i < 32 ∧ p + i < 8 * L.length
        · obtain ⟨k, rfl⟩ : ∃ k, gk = k + 1 := ⟨gk - 1, by omega⟩
          have d1 : (i : Int) < 32 := by omega
          have d2' : (p : Int) + (i : Int) < 8 * (L.length : Int) := by omega
          have d0 : (0 : Int) ≤ (i : Int) := by omega
          obtain ⟨hgo1, hgo2⟩ := hgo
          by_cases hbt : bt.testBit i = true
          · have e0 := and_one bt i (by omega)
            rw [hbt] at e0
            obtain ⟨kk, hkk⟩ : ∃ x, (p + i) / 8 = x := ⟨_, rfl⟩
            obtain ⟨jj, hjj⟩ : ∃ x, (p + i) % 8 = x := ⟨_, rfl⟩
            have e1 : Int.tdiv ((p : Int) + (i : Int)) 8 = (kk : Int) := by rw [Int.tdiv_eq_ediv_of_nonneg (by omega)]; omega
            have e2 : Int.tmod ((p : Int) + (i : Int)) 8 = (jj : Int) := by rw [Int.tmod_eq_emod_of_nonneg (by omega)]; omega
            have hkl : kk < R.length := by have := HFl.out; omega
            have hcl := HO.out.cellAt kk hkl
            obtain ⟨b, hb⟩ : ∃ b, R[kk] = b := ⟨_, rfl⟩
            rw [hb] at hcl
            have d3 : (0 : Int) ≤ (kk : Int) := by omega
            have d4 : (kk : Int) < (L.length : Int) := by have := HFl.out; omega
            have d5 : (0 : Int) ≤ (jj : Int) := by omega
            have d6 : (jj : Int) < 8 := by omega
            have HKK := Lib.hid (And.intro hkk hjj)
            have HBB := Lib.hid hb
            have HFr := HO.out.frozen kk
            have f := Fr.refl HF.out.ok
            clear hkk hjj hb
            have hb255 : 0 ≤ b ∧ b ≤ 255 := by rw [← HBB.out]; exact HFo.out _ (List.getElem_mem hkl)
            have e3 := xor_byte hb255 jj (by omega)
            obtain ⟨z, hz⟩ : ∃ z, (b.toNat ^^^ 2 ^ jj : Nat) = z := ⟨_, rfl⟩
            rw [hz] at e3
            have HS : Hid (flipS L p bt (i + 1) = R.set kk (z : Int)) := Lib.hid (by rw [flipS_step HR.out HKK.out hgo2 hbt hkl, HBB.out, hz])
            clear hz
            go_upto_region 11 with fail
            have r_hcl := cell_regrown hcl
            refine Reg.wp_region_tail_below 0 19 (by kernel_rfl) (by kernel_rfl) (fun _ _ d _ _ h => by cases d <;> exact h) ?_
            simp only [List.take_succ_cons, List.take_zero, List.drop_succ_cons, List.drop_zero, Reg.earlyA]
            repeat (go_big_quiet_step (fail))
            refine wpQuiet_nil ?_
            intro wq hwq
            have q := Fr.regrown f.ok hwq
            clear hwq r_hcl
            replace hcl := q.cell hcl
            replace f := f.trans q
            clear q
            have zf := (HO.out.fr f).frozen kk
            have HO2 := Lib.hid (HO.out.fr f)
            go_wp2_with fail
            go_roundg k
            case measure => omega
            case rel => exact ⟨i + 1, by omega, by go_num, Lib.hid (by rw [HS.out]; exact HO2.out.set kk z), Lib.hid (bytes_setCell (HB.out.fr f) HNE.out kk _), Lib.hid (fr_setCell hw (HF.out.trans f) hgw kk _)⟩
          · have hbt2 : bt.testBit i = false := by simpa using hbt
            have e0 := and_one bt i (by omega)
            rw [hbt2] at e0
            have HS : Hid (flipS L p bt (i + 1) = R) := Lib.hid (by rw [flipS, if_neg (fun h => hbt h.2), HR.out])
            clear hbt hbt2
            go_wp2_with fail
            go_roundg k
            case measure => omega
            case rel => exact ⟨i + 1, by omega, by go_num, Lib.hid (by rw [HS.out]; exact HO.out), HB, HF⟩
        · have hend : flipS L p bt 32 = R := by
            rcases (by omega : i = 32 ∨ 8 * L.length ≤ p + i) with h | h
            · rw [h] at HR; exact HR.out
            · have := flipS_stop L p bt i h (32 - i)
              rw [show i + (32 - i) = 32 by omega] at this
              rw [this]; exact HR.out
          have HEN := Lib.hid hend
          have hRl := HFl.out
          obtain ⟨⟨t2, e2⟩, hrd⟩ : ∃ q, readX crcI R = q := ⟨_, rfl⟩
          have HLa := Lib.hid (fun W (q : Fr wr W) (O : OwnB W w.heap.size (.slice (some ⟨gr, 0, none⟩) L.length d2) R) => by
            have := large_any (some ⟨gr, 0, none⟩) d2 R W q.ok O.at.1 HFo.out (by rw [hRl]; exact hd2) (by omega) (by have := q.size; have := HF.out.size; omega)
            rw [hRl] at this
            exact this)
          have HRe := Lib.hid (fun W (q : Fr wr W) (O : OwnB W w.heap.size (.slice (some ⟨gr, 0, none⟩) L.length d2) R) => by
            have := pread_any (some ⟨gr, 0, none⟩) d2 R W q.ok O.at.1 HFo.out (by rw [hRl]; exact hd2) (by omega) (by have := q.size; have := HF.out.size; omega)
            rw [hRl, hrd] at this
            exact this)
          have hor : ¬ ((i : Int) < 32) ∨ ((i : Int) < 32 ∧ 8 * (L.length : Int) ≤ (p : Int) + (i : Int)) := by omega
          by_cases hRL : R = L
          · subst hRL
            have HSa := Lib.hid (fun W (q : Fr wr W) (O : OwnB W w.heap.size (.slice (some ⟨gr, 0, none⟩) R.length d2) R) => same_true q.ok O.at.1 (HB.out.fr q) hd2 hd4 (by omega))
            have f := Fr.refl HF.out.ok
            have O := HO.out
            clear hend hrd hRl
            rcases hor with h | ⟨h1, h2⟩
            all_goals
              go_wp2_with (first
                | (go_at_call 22; refine (HSa.out _ f O).mono ?_; rintro e w5 ⟨rfl, q5⟩; replace O := OwnB.fr O q5; replace f := f.trans q5; clear q5))
              all_goals
                go_ret
                exact ⟨rfl, HF.out.trans f⟩
          · have he2 : e2 ≠ 0 := by
              have := HBu.out R p bt (by omega) hend hRL
              rw [hrd] at this
              exact this
            have ht2 : t2 = [] := by
              have := readX_err (crc := crcI) (L := R) (by rw [hrd]; exact he2)
              rw [hrd] at this
              exact this
            subst ht2
            have e5 : (e2 != 0) = true := by simp [he2]
            have HSa := Lib.hid (fun W (q : Fr wr W) (O : OwnB W w.heap.size (.slice (some ⟨gr, 0, none⟩) L.length d2) R) => by
              have := same_false q.ok O.at.1 (HB.out.fr q) (by rw [hRl]; exact hd2) hd4 (by omega) (by omega) HFo.out HLB.out hRL
              rw [hRl] at this
              exact this)
            have f := Fr.refl HF.out.ok
            have O := HO.out
            clear hend hrd he2 hRL hRl
            rcases hor with h | ⟨h1, h2⟩
            all_goals
              go_wp2_with (first
                | (go_at_call 22; refine (HSa.out _ f O).mono ?_; rintro e w5 ⟨rfl, q5⟩; replace O := OwnB.fr O q5; replace f := f.trans q5; clear q5)
                | (go_at_call 12; refine (HLa.out _ f O).mono ?_; rintro e wx ⟨⟨n, rfl⟩, q5⟩; replace O := OwnB.fr O q5; replace f := f.trans q5; clear q5)
                | (go_at_call 15; refine (HRe.out _ f O).mono ?_; rintro e w8 ⟨v8, rfl, q8, T8⟩; replace f := f.trans q8; clear q8; go_loud (obtain ⟨a8, c8, rfl⟩ := tree_nil T8))
                | (go_at_call 16; refine (no_any e2 _ f.ok).mono ?_; rintro e w9 ⟨rfl, q9⟩; replace f := f.trans q9; clear q9))
              all_goals
                go_ret
                exact ⟨rfl, HF.out.trans f⟩
    · have hor : pl < 0 ∨ (0 ≤ pl ∧ 8 * (L.length : Int) ≤ pl) := by omega
      clear hin
      go_enter Tryd.func7, Tryd.ntmps7
      rcases hor with h | ⟨h1, h2⟩
      all_goals
        go_wp2_with (first
          | (go_at_call 24; refine HHe.out.mono ?_; rintro e w1 ⟨rfl, q⟩)
          | (go_at_call 21; refine (HPk.out _ q).mono ?_; rintro e w4 ⟨v4, rfl, O4, q4⟩; replace q := q.trans q4; clear q4; go_loud (obtain ⟨a4, d4, rfl⟩ := O4.form))
          | (go_at_call 16; refine (HNo.out 0 _ q).mono ?_; rintro e w5 ⟨rfl, q5⟩; replace q := q.trans q5; clear q5))
        exact ⟨rfl, _, results_tmp rfl _ _ _, rfl, q⟩
  · have hE0 : (er != 0) = true := by simp [he]
    clear hP
    go_enter Tryd.func7, Tryd.ntmps7
    go_wp2_with (first
      | (go_at_call 24; refine HHe.out.mono ?_; rintro e w1 ⟨rfl, q⟩)
      | (go_at_call 21; refine (HPk.out _ q).mono ?_; rintro e w4 ⟨v4, rfl, O4, q4⟩; replace q := q.trans q4; clear q4; go_loud (obtain ⟨a4, d4, rfl⟩ := O4.form))
      | (go_at_call 16; refine (HNo.out er _ q).mono ?_; rintro e w5 ⟨rfl, q5⟩; replace q := q.trans q5; clear q5))
    exact ⟨rfl, _, results_tmp rfl _ _ _, rfl, q⟩
end Go.Proofs.YtlnaeppbhjmocaaDoor
namespace Go.Proofs.YtlnaeppbhjmocaaDoor
open Go.ChangeShapes Go.WideShapes Go.RowKit

section
variable {H : Type} {enc : TypeId × Value → H} {P : Program}

theorem post_of_below {f : Func} {s : ChangeSpec} {apart fresh handsOn again : Bool} {W W' : World} {args : Array Value} {v : Value} {ds gs : List (DataW H)} {before pa pv : List MemPlace}
    (hW : DataW.Whole enc P f.params.toList s.vars apart W args.toList ds gs before)
    (hres : ∀ (b : Nat) (sp : Nat → Bool) (hd : Bool), DataW.TrodAll enc P W' b sp hd f.resultTypes.toList (v.resultList f.resultTypes.size) (s.fn H (ds ++ gs)).results [])
    (hargs : ∀ sp : Nat → Bool, (∀ p ∈ before, sp p.block = true) → DataW.TrodAll enc P W' 0 sp true f.params.toList args.toList (s.fn H (ds ++ gs)).args pa)
    (hvars : ∀ sp : Nat → Bool, (∀ p ∈ before, sp p.block = true) → DataW.TrodVars enc P W' sp s.vars (s.fn H (ds ++ gs)).vars pv)
    (hps : before = pa ++ pv) (hB : Below W.heap.size W W')
    (hok : ∀ (j : Nat) (t : TypeId) (r : Value), f.resultTypes[j]? = some t → (v.resultList f.resultTypes.size)[j]? = some r → Value.okWide P W' .any 0 t r) :
    s.post enc P f apart fresh handsOn again W args v W' := by
  have hold : ∀ p ∈ before, (fun b => decide (b < W.heap.size)) p.block = true := fun p hp => by simpa using hW.lt p hp
  have hlt : ∀ p ∈ before, p.block < W.heap.size := fun p hp => by simpa using hW.lt p hp
  refine ⟨ds, gs, before, [], pa, pv, hW, hres _ _ _, hargs _ hold, hvars _ hold, hB.frame _, fun _ => ?_⟩
  obtain ⟨_, _, _, _, _, hz, hn⟩ := hW
  refine ⟨hok, _, _, ([] ++ pa) ++ pv, ⟨[] ++ pa, pv, trodAll_append (hargs _ (fun _ _ => rfl)) (hres _ _ _), hvars _ (fun _ _ => rfl), rfl, ?_, ?_⟩, ?_⟩
  · intro b off hp
    have hm : MemPlace.cell b off ∈ before := by rw [hps]; simpa using hp
    rw [hB.frozen (p := ⟨b, off, none⟩) (hlt _ hm)]
    exact hz b off hm
  · intro ha
    have := hn ha
    rw [hps] at this
    simpa using this
  · intro p hp _
    rw [hps]
    simpa using hp

/-- the arguments read as they did -/
theorem trodAll_below (hl : laidOutB P = true) {W W' : World} (hB : Below W.heap.size W W') {sp : Nat → Bool} : ∀ {ts : List TypeId} {vs : List Value} {ds : List (DataW H)} {ps : List MemPlace},
    (∀ t ∈ ts, P.readableRec t = true ∧ t < P.types.size) → DataW.TrodAll enc P W 0 (fun _ => true) true ts vs ds ps → (∀ p ∈ ps, p.block < W.heap.size) → (∀ p ∈ ps, sp p.block = true) →
    DataW.TrodAll enc P W' 0 sp true ts vs ds ps
  | [], _, _, _, _, h, _, _ => by
    obtain ⟨rfl, rfl, rfl⟩ := trodAll_nil h
    exact trodAll_mk0
  | t :: ts, _, _, _, hr, h, hlt, hs => by
    obtain ⟨v, vs1, d, ds1, a, b, rfl, rfl, rfl, h1, h2⟩ := trodAll_cons h
    obtain ⟨hr1, hr2⟩ := hr t List.mem_cons_self
    exact trodAll_cons_mk (WideElems.Trod_stays hl hr1 hr2 h1 (fun p hp => hB.same (hlt p (List.mem_append_left _ hp))) (fun p hp => hs p (List.mem_append_left _ hp)))
      (trodAll_below hl hB (fun t ht => hr t (List.mem_cons_of_mem _ ht)) h2 (fun p hp => hlt p (List.mem_append_right _ hp)) (fun p hp => hs p (List.mem_append_right _ hp)))
end
end Go.Proofs.YtlnaeppbhjmocaaDoor
set_option linter.unusedSimpArgs false
set_option linter.unusedVariables false
namespace Go.Proofs.YtlnaeppbhjmocaaDoor.parcelBursts
open Go.ChangeShapes Go.WideShapes Go.ChangeAt Go.RowKit

theorem laidOf {W : World} (h : laidMetH Tryd.prog Rows.parcelBurstsUptoRow.laid W) : laidMet Tryd.prog Rows.parcelBurstsUptoRow.laid W := by
  rwa [MakeChecks.laidMetH_plain _ _ _ (by kernel_rfl)] at h
theorem okOf {W : World} (h : laidMetH Tryd.prog Rows.parcelBurstsUptoRow.laid W) : Ok W where
  fours := okFours (Lib.laidMet.reads (laidOf h) (List.mem_cons_of_mem _ List.mem_cons_self))

theorem rg_u32 {P : Program} {w : World} {r : Reach} {base : Nat} {t : TypeId} {n : Int} (ht : P.underlying t = some (.int .u32)) (h : Value.okWide P w r base t (.int .u32 n)) : 0 ≤ n ∧ n ≤ 4294967295 := by
  simp only [Value.okWide, ht, Cell.okWide] at h
  simp only [Cell.ok, ht] at h
  exact h.2
set_option maxRecDepth 100000 in
theorem contract (H : Type) (enc : TypeId × Value → H) (W : World) (base : Nat) (args : Array Value) (ds gs : List (DataW H)) (before : List MemPlace)
    (hval : ∀ (j : Nat) t v, Tryd.f7.params[j]? = some t → args[j]? = some v → Value.okWide Tryd.prog W .any base t v)
    (hW : DataW.Whole enc Tryd.prog Tryd.f7.params.toList Rows.parcelBurstsSpec.vars false W args.toList ds gs before) (hS : Rows.uptoSmall H (ds ++ gs) = true) (hL : laidMetH Tryd.prog Rows.parcelBurstsUptoRow.laid W) (hSh : W.ShapedOpen Tryd.prog) :
    Calls Tryd.prog 7 args W fun e W' => ∃ v, e = .returned v ∧ Rows.parcelBurstsSpec.post enc Tryd.prog Tryd.f7 false true false false W args v W' := by
  have hW' := hW
  obtain ⟨p, q, hA0, hV, rfl, hfz, hnd⟩ := hW
  have hA : DataW.TrodAll enc Tryd.prog W 0 (fun _ => true) true Tryd.f7.params.toList args.toList ds p := hA0
  rw [Tryd.params7] at hA hval
  obtain ⟨v0, vs0, d0, ds0, p0, q0, hargs, rfl, rfl, h0, r0⟩ := trodAll_cons hA
  obtain ⟨v1, vs1, d1, ds1, p1, q1, rfl, rfl, rfl, h1, r1⟩ := trodAll_cons r0
  obtain ⟨v2, vs2, d2, ds2, p2, q2, rfl, rfl, rfl, h2, r2⟩ := trodAll_cons r1
  obtain ⟨rfl, rfl, rfl⟩ := trodAll_nil r2
  obtain rfl : args = #[v0, v1, v2] := by cases args; simp_all
  obtain ⟨rfl, rfl⟩ := trodVars_none hV
  clear hA0
  simp only [List.append_nil] at hW'
  have hsz : Rows.uptoBulk d0 ≤ 1048576 := by
    have : Rows.uptoBulkAll ([d0, d1, d2] ++ []) ≤ 1048576 := by simpa [Rows.uptoSmall] using hS
    simp only [List.append_nil, Rows.uptoBulkAll] at this
    omega
  obtain ⟨A0, n0, c0, rfl⟩ := okWide_slice Tryd.underlying26 (hval 0 26 v0 rfl rfl)
  obtain ⟨x1, rfl⟩ := okWide_int Tryd.underlying3 (hval 1 3 v1 rfl rfl)
  obtain ⟨x2, rfl⟩ := okWide_int Tryd.underlying47 (hval 2 47 v2 rfl rfl)
  obtain ⟨fuel0, h0⟩ := h0
  obtain ⟨tv0, A', c', e, hT0, _⟩ := open_tree h0 hsz
  simp only [Value.cells] at e
  injection e with e _
  injection e with e1 e2 e3
  subst e1 e2 e3
  have walk : Calls Tryd.prog 7 #[.slice A0 tv0.length c0, .int .i64 x1, .int .u32 x2] W fun e w' => e = .returned (.bool true) ∧ Fr W w' :=
    law_Bursts A0 c0 tv0 x1 x2 W (okOf hL) (sizeOf hSh) hT0 (rg_u32 Tryd.underlying47 (hval 2 47 _ rfl rfl))
  refine walk.mono fun e W' ⟨he, hg⟩ => ?_
  subst he
  have hlt : ∀ x ∈ p0 ++ (p1 ++ (p2 ++ ([] : List MemPlace))), x.block < W.heap.size := fun x hx => by simpa using hW'.lt x (by simpa using hx)
  exact ⟨_, rfl, post_of_below (pa := p0 ++ (p1 ++ (p2 ++ []))) (pv := []) hW' (fun _ _ _ => trodAll_cons_mk (shut_bool Tryd.underlying4 _) trodAll_mk0)
    (fun sp hsp => trodAll_below laidOut hg.below (by rw [Tryd.params7]; simp only [List.mem_cons, List.not_mem_nil, or_false, forall_eq_or_imp, forall_eq]; exact ⟨⟨by kernel_rfl, of_decide_eq_true (by kernel_rfl)⟩, ⟨by kernel_rfl, of_decide_eq_true (by kernel_rfl)⟩, ⟨by kernel_rfl, of_decide_eq_true (by kernel_rfl)⟩⟩) (by rw [Tryd.params7]; exact hA) hlt (fun x hx => hsp x (by simpa using hx)))
    (fun _ _ => rfl) (by simp) hg.below (ok_one (by kernel_rfl) rfl (okWide_bool_mk Tryd.underlying4 _))⟩

/-- A WORLD FOR THE WITNESS: the settled one, the listed variables as they are laid. -/
def cells1 : DataW Unit → List Value
  | .lit (.int k z) => [.int k z]
  | .lit (.string s) => [.string ⟨s.toArray⟩]
  | .agg l => l.map fun d => match d with
    | .lit (.int k z) => Value.int k z
    | _ => Value.bool false
  | _ => []
def cellsOfData : DataW Unit → Array Value
  | .agg l => (l.flatMap cells1).toArray
  | _ => #[]
def layCells (cs : Array Value) : Obj → Obj
  | .cells _ t frozen => .cells cs t frozen
  | o => o
def layAt (d : DataW Unit) : Obj → Obj := layCells (cellsOfData d)
noncomputable def laidWorld (os : Os) : World :=
  let w0 := World.holding Tryd.prog os ⟨#[], #[], []⟩
  { w0 with heap := ((w0.heap.modify 3 (layAt Rows.laid_unicode_utf8_acceptRanges)).modify 0 (layAt Rows.laid_shale_words_fours)).modify 2 (layAt Rows.laid_unicode_utf8_first) }
def wArgs : Array Value := #[.slice none 0 0, .int .i64 0, .int .u32 0]
theorem laid_met (os : Os) : laidMet Tryd.prog Rows.parcelBurstsUptoRow.laid ((laidWorld os).forCall (fun _ _ => 0) ⟨#[], wArgs, []⟩).memory :=
  laidMet_of_run' 8 (by kernel_rfl) (by kernel_rfl)
theorem reads (os : Os) {H : Type} (enc : TypeId × Value → H) : ∃ places, DataW.whole enc Tryd.prog ((laidWorld os).forCall (fun _ _ => 0) ⟨#[], wArgs, []⟩).memory Tryd.f7.params.toList Rows.parcelBurstsSpec.vars false wArgs.toList 8 = some ([.nil, .lit (.int .i64 0), .lit (.int .u32 0)], [], places) :=
  ⟨[], by kernel_rfl⟩

set_option maxRecDepth 100000 in
theorem lifted (os : Os) (started : os.Started) (H : Type) (enc : TypeId × Value → H) (F : Stop.Interp) :
    ReturnsInHanded {} Tryd.checked os 7 .any ((Rows.OpenSpec.upto Rows.parcelBurstsSpec).preRow enc Tryd.prog Tryd.f7 Rows.parcelBurstsUptoRow.domain false Rows.parcelBurstsUptoRow.laid) (((Rows.OpenSpec.upto Rows.parcelBurstsSpec).at F).post enc Tryd.prog Tryd.f7 false true false false) := by
  obtain ⟨places, hx⟩ := reads os enc
  refine returnsInHanded_of_row (C := Tryd.checked) (s := Rows.OpenSpec.upto Rows.parcelBurstsSpec) own started (by kernel_rfl) Tryd.func7
    (witness_row_at (enc := enc) (C := Tryd.checked) false (laidWorld os) wArgs rfl (by kernel_rfl) (by kernel_rfl) (by kernel_rfl)
      (OpenSpec.preRow_of_cond 8 hx (by kernel_rfl) (fun k hk => by cases hk; kernel_rfl) (by kernel_rfl) (laid_met os))) ?_
  intro W base args ds gs before hval hW _ hcond _ hL hSh _
  exact contract H enc W base args ds gs before hval hW (hcond _ rfl) hL hSh

theorem said : Rows.ParcelBurstsUptoSaid :=
  OpenClaim.holds_of_cond 7 Tryd.f7 rfl rfl rfl rfl rfl rfl rfl ⟨rfl, rfl, rfl, rfl, rfl⟩ rfl rfl rfl rfl rfl (by kernel_rfl) Tryd.func7 (by kernel_rfl)
    (of_decide_eq_true (by kernel_rfl)) (by unfold Func.isWrapper; first | (rw [if_pos (by decide +kernel)]; kernel_rfl) | (rw [if_neg (by decide +kernel)]; exact ⟨rfl, rfl⟩))
    (fun os started H enc _ F => by rw [OpenClaim.pre_eq_preRow]; exact lifted os started H enc F)

theorem plain (f : FuncId) (fn : Func) (hf : Tryd.pinned.checked.prog.funcNamed "shale/shalelaw18.ParcelBursts" = some f) (hfn : Tryd.pinned.checked.prog.funcs[f]? = some fn) :
    true = Tryd.pinned.checked.prog.looks [] ∧ ∀ (j : Nat) t, fn.params[j]? = some t → Tryd.pinned.checked.prog.wantsStandIn t = false := by
  obtain rfl : f = 7 := Option.some.inj ((show Tryd.prog.funcNamed "shale/shalelaw18.ParcelBursts" = some 7 by kernel_rfl).symm.trans hf) |>.symm
  obtain rfl : fn = Tryd.f7 := (Option.some.inj (Tryd.func7.symm.trans hfn)).symm
  refine ⟨by kernel_rfl, fun j t ht => ?_⟩
  rw [Tryd.params7] at ht
  have hm : t = 26 ∨ t = 3 ∨ t = 47 := by simpa using Array.mem_of_getElem? ht
  rcases hm with rfl | rfl | rfl
  · exact (show Tryd.prog.wantsStandIn 26 = false by kernel_rfl)
  · exact (show Tryd.prog.wantsStandIn 3 = false by kernel_rfl)
  · exact (show Tryd.prog.wantsStandIn 47 = false by kernel_rfl)

theorem card : Rows.ParcelBurstsUptoCardSaid :=
  Claim7.holds_tied_plain_at .later [] _ _ _ _ said (fun _ h => by cases h) (by kernel_rfl) (fun _ h => by cases h) parcelBurstsUpto_row_tie rfl ⟨rfl, rfl⟩ (by kernel_rfl) rfl plain (by kernel_rfl)
end Go.Proofs.YtlnaeppbhjmocaaDoor.parcelBursts
set_option linter.unusedSimpArgs false
set_option linter.unusedVariables false
namespace Go.Proofs.YtlnaeppbhjmocaaDoor
open Go.RowKit Go.Proofs

theorem le_leV : ∀ bs : List Int, bytesOk bs → le (leV bs) bs.length = bs := by
  intro bs
  induction bs with
  | nil => intro _; rfl
  | cons b r ih =>
    intro h
    have hb := h b List.mem_cons_self
    have h1 : (leV (b :: r)) % 256 = b := by simp only [leV]; omega
    have h2 : (leV (b :: r)) / 256 = leV r := by simp only [leV]; omega
    rw [List.length_cons, le, h1, h2, ih (fun x hx => h x (List.mem_cons_of_mem _ hx))]
theorem take_back {L bs : List Int} {i j n : Nat} (h : takeX L n (.ok i) = (bs, .ok j)) : j = i + n ∧ j ≤ L.length ∧ bs.length = n ∧ L.drop i = bs ++ L.drop j := by
  simp only [takeX] at h
  split at h
  · rename_i hl
    simp only [Prod.mk.injEq, Except.ok.injEq] at h
    obtain ⟨rfl, rfl⟩ := h
    refine ⟨rfl, hl, by rw [List.length_take, List.length_drop]; omega, ?_⟩
    rw [← List.drop_drop, List.take_append_drop]
  · simp at h
theorem num_back {L : List Int} (hL : bytesOk L) {i j n : Nat} {lo hi v : Int} (h : numX L n lo hi (.ok i) = (v, .ok j)) : j = i + n ∧ j ≤ L.length ∧ lo ≤ v ∧ v ≤ hi ∧ 0 ≤ v ∧ L.drop i = le v n ++ L.drop j := by
  unfold numX at h
  cases ht : takeX L n (.ok i) with
  | mk bs o =>
    rw [ht] at h
    cases o with
    | error e => simp at h
    | ok j' =>
      dsimp only at h
      split at h
      · rename_i hc
        simp only [Prod.mk.injEq, Except.ok.injEq] at h
        obtain ⟨rfl, rfl⟩ := h
        obtain ⟨h1, h2, h3, h4⟩ := take_back ht
        have hb : bytesOk bs := by have := (takeX_ok hL n (.ok i)).1; rw [ht] at this; exact this
        refine ⟨h1, h2, hc.1, hc.2, leV_nonneg hb, ?_⟩
        rw [h4, ← h3, le_leV bs hb]
      · simp at h
/-- what the data behind a stretch of this kind may begin with -/
def okT (last : Int) (T : List Int) : Prop := (last = 0 → T = [] ∨ T.headD 1 ≠ 0) ∧ (last = 1 → T = [] ∨ 16 ≤ lead0 T)
theorem lead0_app (T : List Int) : ∀ bs : List Int, no16 bs = true → bs ≠ [] → (T = [] ∨ bs.getLastD 1 ≠ 0) → lead0 (bs ++ T) < 16 := by
  have h : ∀ bs : List Int, (∃ x ∈ bs, x ≠ 0) → lead0 (bs ++ T) = lead0 bs := by
    intro bs
    induction bs with
    | nil => rintro ⟨x, hx, _⟩; cases hx
    | cons b r ih =>
      rintro ⟨x, hx, h0⟩
      rw [List.cons_append, lead0, lead0]
      by_cases hb : b = 0
      · rw [if_pos hb, if_pos hb]
        rcases List.mem_cons.1 hx with e | e
        · exact absurd (e.trans hb) h0
        · rw [ih ⟨x, e, h0⟩]
      · rw [if_neg hb, if_neg hb]
  intro bs h1 h2 h3
  rcases h3 with e | e
  · rw [e, List.append_nil]; exact no16_lead h1
  · rw [h bs ⟨bs.getLastD 1, by rw [List.getLastD_eq_getLast?, List.getLast?_eq_some_getLast h2]; exact List.getLast_mem h2, e⟩]
    exact no16_lead h1
/-- the next hole comes just behind a filled stretch -/
theorem nhL_run (T : List Int) : ∀ (bs : List Int) (run k : Nat), run ≤ k → run + lead0 bs < 16 → no16 bs = true → (T = [] ∨ (16 ≤ lead0 T ∧ (bs = [] → run = 0) ∧ (bs ≠ [] → bs.getLastD 1 ≠ 0))) → (nhL (bs ++ T) run k).1 = k + bs.length := by
  intro bs
  induction bs with
  | nil =>
    intro run k hk h1 h2 h3
    rw [lead0] at h1
    rcases h3 with e | ⟨h4, h5, _⟩
    · rw [e, List.append_nil, nhL, if_neg (by omega)]; rfl
    · rw [h5 rfl, List.nil_append, nhL_hole _ _ h4]; rfl
  | cons x r ih =>
    intro run k hk h1 h2 h3
    rw [no16, Bool.and_eq_true, decide_eq_true_eq] at h2
    have h3' : T = [] ∨ (16 ≤ lead0 T ∧ (r ≠ [] → r.getLastD 1 ≠ 0)) := by
      rcases h3 with e | ⟨h4, _, h6⟩
      · exact .inl e
      · refine .inr ⟨h4, fun hr => ?_⟩
        have := h6 (by simp)
        rw [List.getLastD_eq_getLast?, List.getLast?_cons, List.getLast?_eq_some_getLast hr] at this
        rw [List.getLastD_eq_getLast?, List.getLast?_eq_some_getLast hr]
        simpa using this
    rw [List.cons_append, nhL, List.length_cons]
    by_cases hx : x = 0
    · rw [if_pos hx]
      have h1' : run + 1 + lead0 r < 16 := by rw [lead0, if_pos hx] at h1; omega
      rw [ih (run + 1) (k + 1) (by omega) h1' h2.2 ?_]
      · omega
      · rcases h3' with e | ⟨h4, h5⟩
        · exact .inl e
        · refine .inr ⟨h4, fun hr => ?_, h5⟩
          subst hr
          rcases h3 with e | ⟨_, _, h6⟩
          · rw [e] at h4; simp [lead0] at h4
          · exact absurd hx (by simpa using h6 (by simp))
    · rw [if_neg hx, if_neg (by omega)]
      rw [ih 0 (k + 1) (by omega) (by have := no16_lead h2.2; omega) h2.2 ?_]
      · omega
      · rcases h3' with e | ⟨h4, h5⟩
        · exact .inl e
        · exact .inr ⟨h4, fun _ => rfl, h5⟩
theorem lead0_rep (T : List Int) (h : T = [] ∨ T.headD 1 ≠ 0) : ∀ z : Nat, lead0 (List.replicate z 0 ++ T) = z := by
  have hl : lead0 T = 0 := by
    rcases h with e | e
    · rw [e]; rfl
    · cases T with
      | nil => rfl
      | cons x r => rw [lead0, if_neg (by simpa using e)]
  intro z
  induction z with
  | zero => simpa using hl
  | succ z ih => rw [List.replicate_succ, List.cons_append, lead0, if_pos rfl, ih]
theorem dataX_err_ne {L : List Int} {n : Int} {f : Nat} {told : Int} {out : List Int} {last e : Int} {D : List Int} {j : Nat} : dataX L false n f told out last (.error e) ≠ (D, .ok j) := by
  rw [dataX_error]
  intro h
  simp at h
/-- data that was read: the row's bytes are those of its cut -/
theorem data_back {L : List Int} (hL : bytesOk L) (n : Nat) : ∀ (f told : Nat) (out : List Int) (last : Int) (i : Nat) (D : List Int) (j : Nat), out.length = told → told ≤ n → n + 1 ≤ told + f → i ≤ L.length →
    dataX L false (n : Int) f (told : Int) out last (.ok i) = (D, .ok j) → ∃ T, D = out ++ T ∧ D.length = n ∧ okT last T ∧ bytesOk T ∧ j ≤ L.length ∧ i ≤ j ∧ ∀ g, n ≤ told + g → L.drop i = cutS D g told ++ L.drop j := by
  intro f
  induction f with
  | zero => intro told out last i D j _ _ _ _ _; omega
  | succ f ih =>
    intro told out last i D j ho ht hf hi h
    by_cases hlt : (told : Int) < (n : Int)
    · rw [dataX, if_pos hlt] at h
      dsimp only at h
      obtain ⟨⟨av, ao⟩, ha⟩ : ∃ q, numX L 1 0 1 (.ok i) = q := ⟨_, rfl⟩
      rw [ha] at h
      cases ao with
      | error e =>
        exfalso
        rw [show orFail (.error e) (decide (av = last)) = .error e from rfl, numX_error] at h
        simp at h
      | ok i1 =>
        obtain ⟨b1, b2, b3, b4, b5, b6⟩ := num_back hL ha
        dsimp only at h
        cases hl : decide (av = last) with
        | true =>
          exfalso
          rw [hl, show orFail (.ok i1) true = .error 191 from rfl, numX_error] at h
          simp at h
        | false =>
          have hne : av ≠ last := of_decide_eq_false hl
          rw [hl, show orFail (.ok i1) false = .ok i1 from rfl] at h
          obtain ⟨⟨kv, ko⟩, hk⟩ : ∃ q, numX L 4 (if av = 0 then 16 else 1) ((n : Int) - (told : Int)) (.ok i1) = q := ⟨_, rfl⟩
          rw [hk] at h
          cases ko with
          | error e => simp at h
          | ok i2 =>
            obtain ⟨c1, c2, c3, c4, c5, c6⟩ := num_back hL hk
            obtain ⟨kn, rfl⟩ : ∃ m : Nat, kv = (m : Int) := ⟨kv.toNat, by omega⟩
            dsimp only at h
            rw [Int.toNat_natCast] at h
            by_cases h1 : av = 1
            · subst h1
              rw [if_pos rfl] at h
              rw [if_neg (by decide)] at c3
              obtain ⟨⟨bs, bo⟩, hb⟩ : ∃ q, takeX L kn (.ok i2) = q := ⟨_, rfl⟩
              rw [hb] at h
              cases bo with
              | error e =>
                exfalso
                rw [show orFail (.error e) (!filledB (bs, (Except.error e : Er)).1 (decide (last = 0)) (decide ((told : Int) + (kn : Int) < (n : Int)))) = .error e from rfl] at h
                exact dataX_err_ne h
              | ok i3 =>
                obtain ⟨d1, d2, d3, d4⟩ := take_back hb
                dsimp only at h
                cases hF : filledB bs (decide (last = 0)) (decide ((told : Int) + (kn : Int) < (n : Int))) with
                | false =>
                  exfalso
                  rw [hF, show orFail (.ok i3) (!false) = .error 191 from rfl] at h
                  exact dataX_err_ne h
                | true =>
                  rw [hF, show orFail (.ok i3) (!true) = .ok i3 from rfl, if_neg (by decide)] at h
                  have hcast : (told : Int) + (kn : Int) = ((told + kn : Nat) : Int) := by omega
                  rw [hcast] at h hF
                  obtain ⟨T, e1, e2, e3, e4, e5, e6, e7⟩ := ih (told + kn) (out ++ bs) 1 i3 D j (by rw [List.length_append]; omega) (by omega) (by omega) d2 h
                  have hbb : bytesOk bs := by have := (takeX_ok hL kn (.ok i2)).1; rw [hb] at this; exact this
                  simp only [filledB, Bool.and_eq_true, Bool.not_eq_true', Bool.and_eq_false_iff, decide_eq_false_iff_not, beq_eq_false_iff_ne, List.isEmpty_eq_false_iff] at hF
                  obtain ⟨⟨⟨f1, f2⟩, f3⟩, f4⟩ := hF
                  have hTl : T.length = n - (told + kn) := by
                    have := congrArg List.length e1
                    rw [List.length_append, List.length_append] at this
                    omega
                  have hor : T = [] ∨ (16 ≤ lead0 T ∧ bs.getLastD 1 ≠ 0) := by
                    rcases e3.2 rfl with e | e
                    · exact .inl e
                    · refine .inr ⟨e, ?_⟩
                      rcases f4 with h9 | h9
                      · have hl0 := lead0_le T; omega
                      · exact h9
                  have hdr : D.drop told = bs ++ T := by rw [e1, List.append_assoc, ← ho, List.drop_left]
                  refine ⟨bs ++ T, by rw [e1, List.append_assoc], e2, ⟨fun h0 => .inr ?_, fun h1 => absurd h1.symm hne⟩, bytesOk_app hbb e4, e5, by omega, fun g hg => ?_⟩
                  · rcases f3 with h9 | h9
                    · exact absurd h0 h9
                    · cases bs with
                      | nil => exact absurd rfl f2
                      | cons x r => simpa using h9
                  · obtain ⟨g, rfl⟩ : ∃ m, g = m + 1 := ⟨g - 1, by omega⟩
                    have hlead : lead0 (D.drop told) < 16 := by
                      rw [hdr]
                      exact lead0_app T bs f1 f2 (hor.imp id And.right)
                    have hnh : (nhL (D.drop told) 0 told).1 = told + kn := by
                      rw [hdr, nhL_run T bs 0 told (by omega) (by have := no16_lead f1; omega) f1 (hor.imp id fun h => ⟨h.1, fun _ => rfl, fun _ => h.2⟩), d3]
                    rw [cutS_full D g told (by omega) hlead, hnh, Nat.add_sub_cancel_left]
                    rw [b6, c6, d4, e7 g (by omega), hdr, ← d3, List.take_left]
                    simp [le]
            · have hav : av = 0 := by omega
              subst hav
              rw [if_neg h1] at h
              rw [if_pos rfl] at c3
              have hcast : (told : Int) + (kn : Int) = ((told + kn : Nat) : Int) := by omega
              rw [hcast, if_neg (by decide)] at h
              obtain ⟨T, e1, e2, e3, e4, e5, e6, e7⟩ := ih (told + kn) (out ++ List.replicate kn 0) 0 i2 D j (by rw [List.length_append, List.length_replicate]; omega) (by omega) (by omega) c2 h
              have hlr := lead0_rep T (e3.1 rfl) kn
              have hdr : D.drop told = List.replicate kn 0 ++ T := by rw [e1, List.append_assoc, ← ho, List.drop_left]
              refine ⟨List.replicate kn 0 ++ T, by rw [e1, List.append_assoc], e2, ⟨fun h0 => absurd h0.symm hne, fun _ => .inr (by rw [hlr]; omega)⟩, bytesOk_app (fun x hx => by rw [List.eq_of_mem_replicate hx]; omega) e4, e5, by omega, fun g hg => ?_⟩
              obtain ⟨g, rfl⟩ : ∃ m, g = m + 1 := ⟨g - 1, by omega⟩
              rw [cutS_hole D g told (by omega) (by rw [hdr, hlr]; omega), hdr, hlr, b6, c6, e7 g (by omega)]
              simp [le]
    · rw [dataX, if_neg hlt] at h
      simp only [Prod.mk.injEq, Except.ok.injEq] at h
      obtain ⟨rfl, rfl⟩ := h
      refine ⟨[], by simp, by omega, ⟨fun _ => .inl rfl, fun _ => .inl rfl⟩, (fun x hx => by cases hx), hi, Nat.le_refl _, fun g hg => ?_⟩
      rw [cutS_end _ _ _ (by omega), List.nil_append]
end Go.Proofs.YtlnaeppbhjmocaaDoor
set_option linter.unusedSimpArgs false
set_option linter.unusedVariables false
namespace Go.Proofs.YtlnaeppbhjmocaaDoor
open Go.RowKit Go.Proofs

theorem nums_back2 {l : List Int} (h : bytesOk l) : bytesI (strOfNums l) = l := by
  unfold bytesI strOfNums
  simp only [List.map_map]
  refine (List.map_congr_left (fun x hx => ?_)).trans (List.map_id l)
  have := h x hx
  simp only [Function.comp_apply, UInt8.toNat_ofNat', id_eq]
  omega
theorem nums_size (l : List Int) : (strOfNums l).size = l.length := by
  unfold strOfNums
  simp [ByteArray.size]
theorem name_size {x : ByteArray} (h : nameB x = true) : 1 ≤ x.size ∧ x.size ≤ 63 ∧ isUp x = false := by
  unfold nameB at h
  simp only [Bool.and_eq_true, decide_eq_true_eq] at h
  refine ⟨h.1.1.1.1, h.1.1.1.2, ?_⟩
  have := h.1.2
  unfold isUp
  rw [beq_eq_false_iff_ne]
  simpa using this
/-- the names of a path that is made of names -/
theorem namesP_mk {ns : List ByteArray} (h : ∀ n ∈ ns, nameB n = true) (h64 : ns.length ≤ 64) (hl : (pathL ns).length ≤ 1023) : namesP (pathL ns) = some ns := by
  have hs : splitQ (pathL ns) = (ns, 0) := by
    unfold splitQ
    obtain ⟨r, hr⟩ := pathL_head ns
    rw [if_pos (by rw [hr]; rfl)]
    unfold namesQ
    rw [if_neg (pathL_zero h), if_neg (by omega), pathL_parts h, if_neg]
    rintro (h1 | h1)
    · have h2 := congrArg List.length (pathL_parts h)
      rw [List.length_map] at h2
      omega
    · rw [List.any_eq_true] at h1
      obtain ⟨x, hx, hx2⟩ := h1
      have := (name_size (h x hx)).2.1
      have := of_decide_eq_true hx2
      omega
  have hup : ns.any isUp = false := by
    rw [List.any_eq_false]
    intro x hx
    simp [(name_size (h x hx)).2.2]
  have hd : ns.dropWhile isUp = ns := by
    cases ns with
    | nil => rfl
    | cons x r => rw [List.dropWhile_cons, (name_size (h x List.mem_cons_self)).2.2]; rfl
  unfold namesP cleanQ
  rw [hs]
  simp only [if_true]
  rw [hd, if_pos ⟨trivial, rfl, hup⟩]
theorem gt_lt {a b : ByteArray} (h : gtB b a = true) : a ≠ b ∧ ltB a b = true := by
  unfold gtB at h
  simp only [Bool.not_eq_true', Bool.or_eq_false_iff, beq_eq_false_iff_ne] at h
  obtain ⟨h1, h2⟩ := h
  refine ⟨fun e => h2 (by rw [e]), ?_⟩
  unfold ltB
  rw [bl_eq] at h1 ⊢
  have h3 : ¬ b.toList < a.toList := of_decide_eq_false h1
  rw [decide_eq_true_eq]
  rcases Std.lt_trichotomy a.toList b.toList with h4 | h4 | h4
  · exact h4
  · exact absurd h4.symm h2
  · exact absurd h4 h3
theorem behind_mk {ahead : List ByteArray} {nm : ByteArray} : ∀ {k : Nat}, k ≤ ahead.length → (k < ahead.length → ltB (ahead.getD k ⟨#[]⟩) nm = true ∧ ahead.getD k ⟨#[]⟩ ≠ nm) → behindX ltB ahead (ahead.take k ++ [nm]) = true ∧ k ≤ sharedX ahead (ahead.take k ++ [nm]) := by
  induction ahead with
  | nil => intro k hk _; obtain rfl : k = 0 := by simpa using hk
           exact ⟨rfl, Nat.zero_le _⟩
  | cons x r ih =>
    intro k hk h
    cases k with
    | zero =>
      obtain ⟨h1, h2⟩ := h (by simp)
      simp only [List.getD_cons_zero] at h1 h2
      rw [List.take_zero, List.nil_append, behindX, if_neg h2]
      exact ⟨h1, Nat.zero_le _⟩
    | succ k =>
      rw [List.take_succ_cons, List.cons_append, behindX, if_pos rfl, sharedX, if_pos rfl]
      obtain ⟨i1, i2⟩ := ih (k := k) (by simpa using hk) (fun hlt => by simpa using h (by simpa using hlt))
      exact ⟨i1, by omega⟩
theorem leaf_back {L : List Int} (hL : bytesOk L) {ahead : List ByteArray} {dir : Bool} {i : Nat} {l : Lf} {ns : List ByteArray} {j : Nat} (hA : ∀ n ∈ ahead, nameB n = true)
    (h : leafX gtB L false ahead dir (.ok i) = ((l, ns), .ok j)) : namesP l.path.data.toList = some ns ∧ okL l = true ∧ stepX ltB ahead dir ns = true ∧ (∀ n ∈ ns, nameB n = true) ∧ L.drop i = pieceB l ns ++ L.drop j ∧ i < j ∧ j ≤ L.length ∧ bytesOk l.data ∧ (0 ≤ l.stamp ∧ l.stamp ≤ 18446744073709551615) := by
  unfold leafX at h
  dsimp only at h
  obtain ⟨⟨kv, ko⟩, hk⟩ : ∃ q, numX L 1 0 (mostX ahead dir) (.ok i) = q := ⟨_, rfl⟩
  rw [hk] at h
  dsimp only at h
  obtain ⟨⟨ty, tyo⟩, hty⟩ : ∃ q, numX L 1 1 3 ko = q := ⟨_, rfl⟩
  rw [hty] at h
  dsimp only at h
  obtain ⟨⟨mo, moo⟩, hmo⟩ : ∃ q, numX L 2 0 4095 tyo = q := ⟨_, rfl⟩
  rw [hmo] at h
  dsimp only at h
  obtain ⟨⟨st, so⟩, hst⟩ : ∃ q, numX L 8 0 18446744073709551615 moo = q := ⟨_, rfl⟩
  rw [hst] at h
  dsimp only at h
  obtain ⟨⟨nl, no⟩, hnl⟩ : ∃ q, numX L 1 1 63 so = q := ⟨_, rfl⟩
  rw [hnl] at h
  dsimp only at h
  obtain ⟨⟨nm, nmo⟩, hnm⟩ : ∃ q, takeX L nl.toNat no = q := ⟨_, rfl⟩
  rw [hnm] at h
  dsimp only at h
  cases nmo with
  | error e => simp at h
  | ok j6 =>
    obtain ⟨i5, rfl, -, -⟩ := takeX_on (show (takeX L nl.toNat no).2 = .ok j6 by rw [hnm])
    obtain ⟨i4, rfl, -, -⟩ := numX_on (show (numX L 1 1 63 so).2 = .ok i5 by rw [hnl])
    obtain ⟨i3, rfl, -, -⟩ := numX_on (show (numX L 8 0 18446744073709551615 moo).2 = .ok i4 by rw [hst])
    obtain ⟨i2, rfl, -, -⟩ := numX_on (show (numX L 2 0 4095 tyo).2 = .ok i3 by rw [hmo])
    obtain ⟨i1, rfl, -, -⟩ := numX_on (show (numX L 1 1 3 ko).2 = .ok i2 by rw [hty])
    obtain ⟨a1, a2, a3, a4, a5, a6⟩ := num_back hL hk
    obtain ⟨b1, b2, b3, b4, b5, b6⟩ := num_back hL hty
    obtain ⟨c1, c2, c3, c4, c5, c6⟩ := num_back hL hmo
    obtain ⟨d1, d2, d3, d4, d5, d6⟩ := num_back hL hst
    obtain ⟨e1, e2, e3, e4, e5, e6⟩ := num_back hL hnl
    obtain ⟨f1, f2, f3, f4⟩ := take_back hnm
    have hnb : bytesOk nm := by have := (takeX_ok hL nl.toNat (.ok i5)).1; rw [hnm] at this; exact this
    obtain ⟨k, rfl⟩ : ∃ k : Nat, kv = (k : Int) := ⟨kv.toNat, by omega⟩
    rw [Int.toNat_natCast] at h
    dsimp only at h
    obtain ⟨N, hN⟩ : ∃ N, strOfNums nm = N := ⟨_, rfl⟩
    have hNb : bytesI N = nm := by rw [← hN]; exact nums_back2 hnb
    have hNs : N.size = nm.length := by rw [← hN]; exact nums_size nm
    rw [hN] at h
    split at h
    · simp at h
    · rename_i hgood
      have g1 : nameB N = true := by
        cases hq : nameB N with
        | true => rfl
        | false => exact absurd (.inl hq) hgood
      have g2 : k < ahead.length → gtB N (ahead.getD k ⟨#[]⟩) = true := fun hlt => by
        cases hq : gtB N (ahead.getD k ⟨#[]⟩) with
        | true => rfl
        | false => exact absurd (.inr (.inl ⟨hlt, hq⟩)) hgood
      have g3 : (pathOf (ahead.take k ++ [N])).size ≤ 1023 := by
        rcases Nat.lt_or_ge 1023 (pathOf (ahead.take k ++ [N])).size with hq | hq
        · exact absurd (.inr (.inr hq)) hgood
        · exact hq
      clear hgood
      have hkm : k ≤ 63 ∧ k ≤ ahead.length ∧ (dir = false → k < ahead.length) := by
        unfold mostX at a4
        cases dir
        · simp only [Bool.false_eq_true, if_false] at a4
          split at a4 <;> exact ⟨by omega, by omega, fun _ => by omega⟩
        · simp only [if_true] at a4
          split at a4 <;> exact ⟨by omega, by omega, fun h => by cases h⟩
      obtain ⟨M, hM⟩ : ∃ M, ahead.take k ++ [N] = M := ⟨_, rfl⟩
      have hMl : M.length = k + 1 := by rw [← hM, List.length_append, List.length_take]; simp; omega
      have hMn : ∀ n ∈ M, nameB n = true := by
        rw [← hM]
        intro n hn
        rcases List.mem_append.1 hn with e | e
        · exact hA n (List.mem_of_mem_take e)
        · rw [List.mem_singleton.1 e]; exact g1
      have hMlast : M.getLastD ⟨#[]⟩ = N := by rw [← hM, List.getLastD_eq_getLast?, List.getLast?_append]; rfl
      obtain ⟨s1, s2⟩ := behind_mk (ahead := ahead) (nm := N) hkm.2.1 (fun hlt => ⟨(gt_lt (g2 hlt)).2, (gt_lt (g2 hlt)).1⟩)
      rw [hM] at s1 s2 g3 h
      have hstep : stepX ltB ahead dir M = true := by
        unfold stepX
        rw [s1, hMl, Nat.add_sub_cancel]
        rw [decide_eq_true s2]
        cases dir
        · have := hkm.2.2 rfl
          rw [decide_eq_true (by omega)]; rfl
        · simp
      have hpath : namesP (pathOf M).data.toList = some M := by
        rw [pathOf_data]
        refine namesP_mk hMn (by omega) ?_
        rw [← pathOf_data]
        exact g3
      have hpre : L.drop i = [((M.length - 1 : Nat) : Int), ty] ++ le mo 2 ++ le st 8 ++ [((M.getLastD ⟨#[]⟩).size : Int)] ++ bytesI (M.getLastD ⟨#[]⟩) ++ L.drop j6 := by
        rw [hMlast, hNb, hNs, hMl, Nat.add_sub_cancel, a6, b6, c6, d6, e6, f4, f3]
        rw [le_one a5 (by omega), le_one b5 (by omega), le_one e5 (by omega), Int.toNat_of_nonneg e5]
        simp only [List.append_assoc, List.cons_append, List.nil_append]
      by_cases t1 : ty = 1
      · rw [if_pos t1] at h
        obtain ⟨⟨dn, do_⟩, hdn⟩ : ∃ q, numX L 4 0 16777216 (.ok j6) = q := ⟨_, rfl⟩
        rw [hdn] at h
        dsimp only at h
        obtain ⟨⟨D, dj⟩, hD⟩ : ∃ q, dataR L false dn do_ = q := ⟨_, rfl⟩
        rw [hD] at h
        simp only [Prod.mk.injEq] at h
        obtain ⟨⟨rfl, rfl⟩, rfl⟩ := h
        unfold dataR at hD
        cases do_ with
        | error e => exact absurd hD dataX_err_ne
        | ok j7 =>
          obtain ⟨q1, q2, q3, q4, q5, q6⟩ := num_back hL hdn
          obtain ⟨m, rfl⟩ : ∃ m : Nat, dn = (m : Int) := ⟨dn.toNat, by omega⟩
          rw [Int.toNat_natCast] at hD
          obtain ⟨T, r1, r2, r3, r4, r5, r6, r7⟩ := data_back hL m (m + 1) 0 [] (-1) j7 D j rfl (Nat.zero_le _) (by omega) q2 hD
          rw [List.nil_append] at r1
          subst r1
          have hcut := cutS_eq D D.length D.length D.length 0 (by omega) (Nat.le_refl _) (Nat.le_refl _)
          refine ⟨hpath, ?_, hstep, hMn, ?_, by omega, r5, r4, ⟨d3, d4⟩⟩
          · unfold okL goodB
            dsimp only
            rw [if_pos (.inl t1), t1]
            simp only [decide_true, Bool.not_true, Bool.false_and, Bool.or_false]
            simp only [Bool.and_eq_true, Bool.not_eq_true', Bool.or_eq_false_iff, decide_eq_false_iff_not]
            exact ⟨⟨⟨by omega, by omega⟩, by omega⟩, by decide⟩
          · rw [hpre, q6, r7 m (by omega), ← r2, hcut]
            unfold pieceB pieceH pieceT cutB stretX
            dsimp only
            rw [if_pos t1]
            simp only [List.append_assoc]
      · rw [if_neg t1] at h
        by_cases t3 : ty = 3
        · rw [if_pos t3] at h
          obtain ⟨⟨dn, do_⟩, hdn⟩ : ∃ q, numX L 1 1 127 (.ok j6) = q := ⟨_, rfl⟩
          rw [hdn] at h
          dsimp only at h
          obtain ⟨⟨tb, tj⟩, htb⟩ : ∃ q, takeX L dn.toNat do_ = q := ⟨_, rfl⟩
          rw [htb] at h
          dsimp only at h
          cases tj with
          | error e => simp [orFail] at h
          | ok j8 =>
            obtain ⟨j7, rfl, -, -⟩ := takeX_on (show (takeX L dn.toNat do_).2 = .ok j8 by rw [htb])
            obtain ⟨q1, q2, q3, q4, q5, q6⟩ := num_back hL hdn
            obtain ⟨r1, r2, r3, r4⟩ := take_back htb
            have htbb : bytesOk tb := by have := (takeX_ok hL dn.toNat (.ok j7)).1; rw [htb] at this; exact this
            cases hg : targetB (strOfNums tb) with
            | false => rw [hg] at h; simp [orFail] at h
            | true =>
              rw [hg] at h
              simp only [orFail, Bool.not_true, Bool.false_eq_true, if_false, Prod.mk.injEq, Except.ok.injEq] at h
              obtain ⟨⟨rfl, rfl⟩, rfl⟩ := h
              refine ⟨hpath, ?_, hstep, hMn, ?_, by omega, r2, (fun x hx => by cases hx), ⟨d3, d4⟩⟩
              · unfold okL goodB
                dsimp only
                rw [if_neg (by omega), if_pos t3, hg]
                simp only [List.length_nil, Nat.lt_irrefl, decide_false, Bool.and_false, Bool.or_false]
                simp only [Bool.and_true, Bool.not_eq_true', Bool.or_eq_false_iff, decide_eq_false_iff_not]
                exact ⟨⟨by omega, by omega⟩, by omega⟩
              · rw [hpre, q6, r4]
                unfold pieceB pieceH pieceT
                dsimp only
                rw [if_neg t1, if_pos t3, nums_back2 htbb, nums_size, r3, le_one q5 (by omega), Int.toNat_of_nonneg q5]
                simp only [List.append_assoc, List.cons_append, List.nil_append]
        · rw [if_neg t3] at h
          simp only [Prod.mk.injEq, Except.ok.injEq] at h
          obtain ⟨⟨rfl, rfl⟩, rfl⟩ := h
          refine ⟨hpath, ?_, hstep, hMn, ?_, by omega, f2, (fun x hx => by cases hx), ⟨d3, d4⟩⟩
          · unfold okL goodB
            dsimp only
            rw [if_pos (.inr (by omega))]
            simp only [List.length_nil, Nat.lt_irrefl, decide_false, Bool.and_false, Bool.or_false]
            simp only [Bool.and_eq_true, Bool.not_eq_true', Bool.or_eq_false_iff, decide_eq_false_iff_not]
            exact ⟨⟨⟨by omega, by omega⟩, by omega⟩, by decide⟩
          · rw [hpre]
            unfold pieceB pieceH pieceT
            dsimp only
            rw [if_neg t1, if_neg t3, List.append_nil]
theorem tree_back {L : List Int} (hL : bytesOk L) : ∀ (f : Nat) (acc : List Lf) (ahead : List ByteArray) (dir : Bool) (i : Nat) (t : List Lf) (j : Nat), (∀ n ∈ ahead, nameB n = true) → L.length < f + i → i ≤ L.length →
    treeX gtB L false f acc ahead dir (.ok i) = (t, .ok j) → ∃ r, t = acc ++ r ∧ restB ahead dir r = true ∧ L.drop i = r.flatMap (fun y => pieceB y (nmL y)) ++ L.drop j ∧ j ≤ L.length ∧ ¬ (j < L.length ∧ L.getD j 0 ≠ 255) ∧ (∀ l ∈ r, bytesOk l.data ∧ (0 ≤ l.stamp ∧ l.stamp ≤ 18446744073709551615) ∧ l.data.length ≤ 16777216 ∧ l.path.size ≤ 1023) := by
  intro f
  induction f with
  | zero => intro acc ahead dir i t j _ _ _ _; omega
  | succ f ih =>
    intro acc ahead dir i t j hA hf hi h
    rw [treeX] at h
    by_cases hc : i < L.length ∧ L.getD i 0 ≠ 255
    · rw [if_pos hc] at h
      dsimp only at h
      obtain ⟨⟨⟨l, ns⟩, o⟩, hl⟩ : ∃ q, leafX gtB L false ahead dir (.ok i) = q := ⟨_, rfl⟩
      rw [hl] at h
      dsimp only at h
      cases o with
      | error e =>
        exfalso
        cases f <;> simp [treeX] at h
      | ok i2 =>
        obtain ⟨h1, h2, h3, h4, h5, h6, h7, h8, h9⟩ := leaf_back hL hA hl
        obtain ⟨r, e1, e2, e3, e4, e5, e6⟩ := ih (acc ++ [l]) ns (decide (l.ty = 2)) i2 t j h4 (by omega) h7 h
        have hnm : nmL l = ns := by unfold nmL; rw [h1]; rfl
        refine ⟨l :: r, by rw [e1]; simp, ?_, ?_, e4, e5, ?_⟩
        · rw [restB, hnm, h1, h2, h3, e2]; rfl
        · rw [List.flatMap_cons, hnm, h5, e3, List.append_assoc]
        · intro x hx
          rcases List.mem_cons.1 hx with e | e
          · rw [e]
            exact ⟨h8, h9, (okL_ty h2).2.2.2.2.1, (namesP_good h1).2.2.2⟩
          · exact e6 x e
    · rw [if_neg hc] at h
      simp only [Prod.mk.injEq, Except.ok.injEq] at h
      obtain ⟨rfl, rfl⟩ := h
      exact ⟨[], by simp, rfl, by simp, hi, hc, fun l hl => by cases hl⟩
/-- a row that was read is just what its tree is packed to -/
theorem canon {L : List Int} (hL : bytesOk L) {t : List Lf} (h : readX crcI L = (t, 0)) : packX t = (L, 0) ∧ (∀ l ∈ t, bytesOk l.data ∧ (0 ≤ l.stamp ∧ l.stamp ≤ 18446744073709551615) ∧ l.data.length ≤ 16777216 ∧ l.path.size ≤ 1023) := by
  obtain ⟨hh, j, htr, hj, hsum⟩ := readX_ok h (readX_some h)
  unfold headB at hh
  rw [Bool.and_eq_true, decide_eq_true_eq, beq_iff_eq] at hh
  obtain ⟨⟨mv, mo⟩, hm⟩ : ∃ q, numX L 2 0 4095 (.ok 5) = q := ⟨_, rfl⟩
  rw [hm] at htr
  obtain ⟨⟨sv, so⟩, hs⟩ : ∃ q, numX L 8 0 18446744073709551615 mo = q := ⟨_, rfl⟩
  dsimp only at htr
  rw [hs] at htr
  unfold treeR at htr
  dsimp only at htr
  cases so with
  | error e => simp [treeX] at htr
  | ok i2 =>
    obtain ⟨i1, rfl, -, -⟩ := numX_on (show (numX L 8 0 18446744073709551615 mo).2 = .ok i2 by rw [hs])
    obtain ⟨a1, a2, a3, a4, a5, a6⟩ := num_back hL hm
    obtain ⟨b1, b2, b3, b4, b5, b6⟩ := num_back hL hs
    obtain ⟨r, e1, e2, e3, e4, e5, e6⟩ := tree_back hL (L.length + 1) [rootLf mv sv] [] true i2 t j (fun n hn => by cases hn) (by omega) b2 htr
    have hjl : j < L.length := by omega
    have h255 : L.getD j 0 = 255 := by
      by_cases hq : L.getD j 0 = 255
      · exact hq
      · exact absurd ⟨hjl, hq⟩ e5
    have hdj : L.drop j = 255 :: L.drop (j + 1) := by
      rw [List.drop_eq_getElem_cons hjl]
      congr 1
      simpa [List.getD, hjl] using h255
    have hwhole : L = bodyX (rootLf mv sv) r ++ L.drop (j + 1) := by
      have h0 := (List.take_append_drop 5 L).symm
      rw [hh.2, a6, b6, e3, hdj] at h0
      unfold bodyX headX rootLf
      dsimp only
      simp only [List.append_assoc, List.cons_append, List.nil_append] at h0 ⊢
      exact h0
    have hbl : (bodyX (rootLf mv sv) r).length = j + 1 := by
      have := congrArg List.length hwhole
      rw [List.length_append, List.length_drop] at this
      omega
    have hbody : L.take (j + 1) = bodyX (rootLf mv sv) r := by
      rw [hwhole]
      conv => lhs; rw [← hbl]
      rw [List.take_left]
    have hok : okL (rootLf mv sv) = true := by
      unfold okL goodB rootLf
      dsimp only
      rw [if_pos (.inr rfl)]
      simp only [List.length_nil, Nat.lt_irrefl, decide_false, Bool.and_false, Bool.or_false]
      simp only [Bool.and_eq_true, Bool.not_eq_true', Bool.or_eq_false_iff, decide_eq_false_iff_not]
      exact ⟨⟨⟨by omega, by omega⟩, by omega⟩, by decide⟩
    rw [List.singleton_append] at e1
    subst e1
    refine ⟨?_, ?_⟩
    · rw [packX_good rfl rfl hok e2]
      have hbp : bodyP (rootLf mv sv) r = bodyX (rootLf mv sv) r := rfl
      rw [hbp, ← hbody, ← hsum, List.take_append_drop]
    · intro l hl
      rcases List.mem_cons.1 hl with e | e
      · rw [e]; exact ⟨fun x hx => (by cases hx), ⟨b3, b4⟩, Nat.zero_le _, (by decide : (1 : Nat) ≤ 1023)⟩
      · exact e6 l e
end Go.Proofs.YtlnaeppbhjmocaaDoor
set_option linter.unusedSimpArgs false
set_option linter.unusedVariables false
namespace Go.Proofs.YtlnaeppbhjmocaaDoor
open Go.RowKit Go.Proofs Go.Proofs.YtlnaeppbhjmocaaDoorW.PrintWords Go.Proofs.YtlnaeppbhjmocaaDoorW.PrintMore

/-- a tree that was read, as one that is handed in -/
theorem TreeAt.toLAt {w : World} {B : Nat} {v : Value} {lfs : List Lf} (h : TreeAt w B v lfs) : ∃ a tv c, v = .slice a tv.length c ∧ tv.map Prod.fst = lfs ∧ LAt w a tv ∧ tv.length ≤ c := by
  obtain ⟨a, tv, c, rfl, h1, h2, h3⟩ := h
  refine ⟨a, tv, c, rfl, h1, ⟨?_, fun p hp => ?_⟩, own_cap h2⟩
  · cases tv with
    | nil => exact .inl rfl
    | cons p r =>
      obtain ⟨g, c', hv, _, _⟩ := World.ownsRow.form h2 (by simp)
      injection hv with e1 e2 e3
      subst e1 e3
      exact own_Row (xs := []) (lcell_len (p :: r)) (by rw [List.append_nil]; exact h2)
  · have hO := h3 p hp
    obtain ⟨da, dc, hdv⟩ := hO.form
    rw [hdv] at hO
    exact ⟨da, dc, hdv, hO.at.1, hO.at.2.2, own_nz hO⟩
theorem piece_min (l : Lf) (ns : List ByteArray) : 13 ≤ (pieceB l ns).length := by
  unfold pieceB pieceH
  simp only [List.length_append, List.length_cons, List.length_nil, le_length]
  omega
theorem pieces_min : ∀ r : List Lf, 13 * r.length ≤ (r.flatMap fun y => pieceB y (nmL y)).length ∧ (r.flatMap fun y => pieceB y (nmL y)).length = (r.map fun y => (pieceB y (nmL y)).length).sum := by
  intro r
  induction r with
  | nil => exact ⟨Nat.le_refl _, rfl⟩
  | cons l r ih =>
    have := piece_min l (nmL l)
    rw [List.flatMap_cons, List.length_append, List.length_cons, List.map_cons, List.sum_cons]
    omega
theorem pack_len {t : List Lf} {L : List Int} (h : packX t = (L, 0)) (hd : ∀ l ∈ t, bytesOk l.data) : L.length + 236 ≤ (t.map fun l => 256 + 6 * l.data.length).sum := by
  obtain ⟨x, r, rfl, h1, h2, h3, h4, rfl⟩ := packX_ok h
  obtain ⟨_, p2⟩ := pieces_ok r (restB_all r _ _ h4) (fun l hl => hd l (List.mem_cons_of_mem _ hl))
  have hl : (headX x).length = 15 := by
    unfold headX
    simp only [List.length_append, le_length, List.length_cons, List.length_nil]
  unfold bodyX
  simp only [List.length_append, le_length, List.length_cons, List.length_nil, hl, List.map_cons, List.sum_cons]
  omega
/-- what was read is packed again -/
theorem again_any {R : List Int} {t : List Lf} (hR : bytesOk R) (h : readX crcI R = (t, 0)) (hl : R.length ≤ 536870800) {W : World} (hW : Ok W) {B : Nat} {v : Value} (hv : TreeAt W B v t) (hB0 : 0 < W.heap.size) :
    Calls Tryd.prog 21 #[v] W fun e w' => ∃ v', e = .returned (.tuple #[v', .int .i64 0]) ∧ OwnB w' W.heap.size v' R ∧ Fr W w' := by
  obtain ⟨hp, hall⟩ := canon hR h
  obtain ⟨a, tv, c, rfl, h1, h2, h3⟩ := hv.toLAt
  obtain ⟨x, r, hxr, hx1, hx2, hx3, hx4, hRb⟩ := packX_ok hp
  obtain ⟨pm1, pm2⟩ := pieces_min r
  have hbl : 20 + (r.flatMap fun y => pieceB y (nmL y)).length = R.length := by
    rw [hRb]
    unfold bodyX headX
    simp only [List.length_append, le_length, List.length_cons, List.length_nil]
    omega
  have hn : tv.length = r.length + 1 := by rw [← List.length_map (f := Prod.fst), h1, hxr, List.length_cons]
  have hroot : (pieceB x (nmL x)).length ≤ 13 := by
    have hnm : nmL x = [] := by
      unfold nmL
      rw [hx1]
      rfl
    unfold pieceB pieceH pieceT
    rw [hnm, if_neg (by omega), if_neg (by omega)]
    simp [le_length, bytesI]
  have hmem : ∀ p ∈ tv, p.1 ∈ t := fun p hp => by rw [← h1]; exact List.mem_map_of_mem hp
  have := pack_anyG (fun l => (pieceB l (nmL l)).length) a c tv W hW h2 h3 (by omega) (fun p hp => by have := (hall _ (hmem p hp)).2.2.2; omega) (fun p hp => (hall _ (hmem p hp)).2.1) (fun p hp _ _ _ => Nat.le_refl _)
    (by
      have e : (tv.map fun p => (pieceB p.1 (nmL p.1)).length) = (tv.map Prod.fst).map (fun l => (pieceB l (nmL l)).length) := by rw [List.map_map]; rfl
      rw [e, h1, hxr, List.map_cons, List.sum_cons]
      omega) (fun p hp => (hall _ (hmem p hp)).1) hB0
  rw [h1, hp] at this
  exact this
theorem copy_rowN (W : World) (hW : Ok W) (a : Option Addr) (d n : Nat) (L : List Int) (hLn : L.length = n) (hL : BytesAt W a L) (hn : a = none → d = 0) (hl : n ≤ 1073741824) :
    ∃ g1 w1 a2 d2 w2, W.heap.size = g1 ∧ W.alloc (.cells #[] 5) = w1 ∧ (Builtin.append_ #[22, 22] 22 #[.slice (some ⟨g1, 0, none⟩) 0 0, .slice a n d]).run Tryd.prog w1 = .ok (.slice a2 n d2) w2 ∧
      OwnB w2 W.heap.size (.slice a2 n d2) L ∧ Fr W w2 := by
  subst hLn
  exact copy_row W hW a d L hL hn hl

theorem append_rowN {w0 : World} (hw0 : Ok w0) (A : Option Addr) (c n : Nat) (xs ys : List Int) (a : Option Addr) (d m k : Nat) (w : World) (f : Fr w0 w) (hxn : xs.length = n) (hyn : ys.length = m) (hk : n + m = k) (ho : OwnB w w0.heap.size (.slice A n c) xs) (hA : BytesAt w a ys) (hn : a = none → d = 0) (hl : k ≤ 1073741824) :
    ∃ a' d' w', (Builtin.append_ #[22, 22] 22 #[.slice A n c, .slice a m d]).run Tryd.prog w = .ok (.slice a' k d') w' ∧ OwnB w' w0.heap.size (.slice a' k d') (xs ++ ys) ∧ Fr w0 w' := by
  subst hxn hyn hk
  obtain ⟨v', w', hr, O, q, _⟩ := append_row 22 w0.heap.size A c xs ys a d w ho hA hn (by omega) f.size
  obtain ⟨a', d', rfl⟩ := O.form
  rw [List.length_append] at hr O
  exact ⟨a', d', w', hr, O, Fr.row f hw0 q (fun k e => (World.ownsRow.lt ho k e).1)⟩
theorem append_oneN {w0 : World} (hw0 : Ok w0) (A : Option Addr) (c n : Nat) (xs : List Int) (y : Int) (k : Nat) (w : World) (f : Fr w0 w) (hxn : xs.length = n) (hk : n + 1 = k) (ho : OwnB w w0.heap.size (.slice A n c) xs) (hl : k ≤ 1073741824) :
    ∃ g w1 a' d' w', w.heap.size = g ∧ w.alloc (.cells #[.int .u8 y] 5) = w1 ∧ (Builtin.append_ #[22, 22] 22 #[.slice A n c, .slice (some ⟨g, 0, none⟩) 1 1]).run Tryd.prog w1 = .ok (.slice a' k d') w' ∧ OwnB w' w0.heap.size (.slice a' k d') (xs ++ [y]) ∧ Fr w0 w' := by
  subst hxn hk
  obtain ⟨w1, v', w', hw1, hr, O, q, _⟩ := append_lit 22 w0.heap.size A c xs [y] w ho (by simp; omega) f.size
  obtain ⟨a', d', rfl⟩ := O.form
  rw [List.length_append] at hr O
  exact ⟨_, w1, a', d', w', rfl, hw1, hr, O, Fr.row f hw0 q (fun k e => (World.ownsRow.lt ho k e).1)⟩

set_option maxRecDepth 100000 in
set_option maxHeartbeats 6400000 in
theorem law_Canon (A : Option Addr) (c : Nat) (tv : List (Lf × Value)) (pl x how : Int) (w : World) (hw : Ok w) (hg : 4 ≤ w.heap.size) (hT : TIn w A c tv) (hx : 0 ≤ x ∧ x ≤ 255) :
    Calls Tryd.prog 6 #[.slice A tv.length c, .int .i64 pl, .int .u8 x, .int .i64 how] w fun e w' => e = .returned (.bool true) ∧ Fr w w' := by
  have hB0 : 0 < w.heap.size := by omega
  obtain ⟨⟨L, er⟩, hP⟩ : ∃ P, packX (tv.map Prod.fst) = P := ⟨_, rfl⟩
  have HPk := Lib.hid (fun W (q : Fr w W) => hT.pack q hB0)
  rw [hP] at HPk
  dsimp only at HPk
  have HHe := Lib.hid (heads_any w hw hg)
  have HNo := Lib.hid (fun x W (q : Fr w W) => no_any x W q.ok)
  by_cases he : er = 0
  · subst he
    have hd : ∀ l ∈ tv.map Prod.fst, bytesOk l.data := fun l hl => by obtain ⟨p, hp, rfl⟩ := List.mem_map.1 hl; exact hT.bytes p hp
    obtain ⟨hLb, -, hL20⟩ := packX_bytes hP hd
    have hLl2 : L.length ≤ 536870676 := by
      have h := hT.sum
      have hLl := pack_len hP hd
      rw [List.map_map] at hLl
      have e : ((fun l : Lf => 256 + 6 * l.data.length) ∘ Prod.fst) = fun p : Lf × Value => 256 + 6 * p.1.data.length := rfl
      rw [e] at hLl
      omega
    have hE0 : ((0 : Int) != 0) = false := rfl
    have HLB := Lib.hid hLb
    have c4 : ¬ ((L.length : Int) < 4) := by omega
    clear hP hd hLb
    by_cases hin : 0 ≤ pl ∧ pl < (L.length : Int) - 4
    · obtain ⟨p, rfl⟩ : ∃ p : Nat, pl = (p : Int) := ⟨pl.toNat, by omega⟩
      have c1 : ¬ ((p : Int) < 0) := by omega
      have c2 : ¬ ((L.length : Int) - 4 ≤ (p : Int)) := by omega
      have c3 : (0 : Int) ≤ (p : Int) := by omega
      have hpl : p + 4 < L.length := by omega
      clear hin
      go_enter Tryd.func6, Tryd.ntmps6
      go_upto_region 10 with (first
        | (go_at_call 24; refine HHe.out.mono ?_; rintro e w1 ⟨rfl, q⟩)
        | (go_at_call 21; refine (HPk.out _ q).mono ?_; rintro e w4 ⟨v4, rfl, O4, q4⟩; replace q := q.trans q4; clear q4; go_loud (obtain ⟨a4, d4, rfl⟩ := O4.form))
        | (go_at_call 16; refine (HNo.out 0 _ q).mono ?_; rintro e w5 ⟨rfl, q5⟩; replace O4 := OwnB.fr O4 q5; replace q := q.trans q5; clear q5))
      obtain ⟨g4, c4', hc4, _, hg4⟩ := O4.blk (by omega)
      injection hc4 with e1 _ e3
      subst e1 e3
      have hd4 := O4.at.2.2
      have hb4 := O4.at.1
      have HB4 := Lib.hid hb4
      obtain ⟨g1, w11, a2, d2, w12, hg1, hw11, hap, O12, f12⟩ := copy_rowN _ q.ok (some ⟨g4, 0, none⟩) d4 p (L.take p) (by rw [List.length_take]; omega) (hb4.take p) (fun e => by cases e) (by omega)
      have c5 : (p : Int) ≤ (d4 : Int) := by omega
      have f := f12
      have HO := Lib.hid O12
      clear O4 O12 f12 hb4
      go_upto_region 11 with (first
        | (at_builtin; refine wpList_append_run rfl _ _ 22 22 rfl (by simp [Act.eval]) (by simp [Act.eval]) hap ?_))
      have hYl : (L.take p).length = p := by rw [List.length_take]; omega
      have hYb : bytesOk (L.take p) := HLB.out.take p
      obtain ⟨Y0, hY0⟩ : ∃ Y, L.take p = Y := ⟨_, rfl⟩
      rw [hY0] at hYl hYb HO
      have HY0 := Lib.hid (And.intro hYl hYb)
      clear hY0 hYl hYb hap
      have c6 : (p : Int) + 1 ≤ (L.length : Int) - 4 := by omega
      have c7 : (L.length : Int) - 4 ≤ (d4 : Int) := by omega
      have c8 : (p : Int) < (L.length : Int) := by omega
      by_cases h2 : how = 2
      · subst h2
        have hE2 : ((2 : Int) != 2) = false := rfl
        have hE3 : ((2 : Int) == 1) = false := rfl
        obtain ⟨m, hm⟩ : ∃ m, L.length - 4 - (p + 1) = m := ⟨_, rfl⟩
        obtain ⟨k2, hk2⟩ : ∃ k, p + m = k := ⟨_, rfl⟩
        have hZl : ((L.drop (p + 1)).take m).length = m := by rw [List.length_take, List.length_drop]; omega
        have hzb : BytesAt w12 (some ⟨g4, p + 1, none⟩) ((L.drop (p + 1)).take m) := by have := (HB4.out.fr f).sub (p + 1) m; rwa [Nat.zero_add] at this
        obtain ⟨a5, d5, w15, hap2, O15, f15⟩ := append_rowN q.ok a2 d2 p Y0 _ (some ⟨g4, p + 1, none⟩) (d4 - (p + 1)) m k2 w12 f HY0.out.1 hZl hk2 HO.out hzb (fun e => by cases e) (by omega)
        obtain ⟨X, hX⟩ : ∃ X, Y0 ++ (L.drop (p + 1)).take m = X := ⟨_, rfl⟩
        have hXb : bytesOk X := by rw [← hX]; exact bytesOk_app HY0.out.2 ((HLB.out.drop (p + 1)).take m)
        have hXl : X.length = k2 := by rw [← hX, List.length_append, hZl, HY0.out.1]; exact hk2
        have hk2l : k2 ≤ 536870700 := by omega
        rw [hX] at O15
        have F := q.trans f15
        have HSe := sealed18_any a5 d5 X hXb O15.at.2.2 (by omega) (own_nz O15) w15 F.ok O15.at.1
        rw [hXl] at HSe
        obtain ⟨R, hR⟩ : ∃ R, X ++ le (crcI X) 4 = R := ⟨_, rfl⟩
        have hRb : bytesOk R := by rw [← hR]; exact bytesOk_app hXb (le_mem _ _)
        have hRl : R.length = k2 + 4 := by rw [← hR, List.length_append, le_length, hXl]
        rw [hR] at HSe
        obtain ⟨n3, hn3⟩ : ∃ n, R.length = n := ⟨_, rfl⟩
        rw [hn3] at HSe
        have HSe := Lib.hid HSe
        obtain ⟨⟨t2, e2⟩, hrd⟩ : ∃ q, readX crcI R = q := ⟨_, rfl⟩
        have hn3l : n3 ≤ 536870800 := by omega
        have hpos15 := F.size
        have HLa := Lib.hid (fun W (q : Fr w W) (B : Nat) a d (O : OwnB W B (.slice a n3 d) R) => by
          have := large_any a d R W q.ok O.at.1 hRb O.at.2.2 (by omega) (by have := q.size; omega)
          rw [hn3] at this
          exact this)
        have HRe := Lib.hid (fun W (q : Fr w W) (B : Nat) a d (O : OwnB W B (.slice a n3 d) R) => by
          have := pread_any a d R W q.ok O.at.1 hRb O.at.2.2 (by omega) (by have := q.size; omega)
          rw [hn3, hrd] at this
          exact this)
        by_cases he2 : e2 = 0
        · subst he2
          have HAg := Lib.hid (fun W (q : Fr w W) (B : Nat) v (T : TreeAt W B v t2) => by
            have := again_any hRb hrd (by omega) q.ok T (by have := q.size; omega)
            refine Calls.mono (R' := fun e w' => ∃ a d, e = .returned (.tuple #[.slice a n3 d, .int .i64 0]) ∧ OwnB w' W.heap.size (.slice a n3 d) R ∧ Fr W w') this ?_
            rintro e w' ⟨v', h1, O, h3⟩
            obtain ⟨a, d, rfl⟩ := O.form
            rw [hn3] at h1 O
            exact ⟨a, d, h1, O, h3⟩)
          have HSa := Lib.hid (fun W (q : Fr w W) (B1 B2 : Nat) a1 d1 a2 d2 (O1 : OwnB W B1 (.slice a1 n3 d1) R) (O2 : OwnB W B2 (.slice a2 n3 d2) R) => by
            have := same_true q.ok O1.at.1 O2.at.1 O1.at.2.2 O2.at.2.2 (by omega)
            rw [hn3] at this
            exact this)
          clear hrd hn3 hRl hRb hR hXl hXb hX O15 f15 hzb hZl hk2
          go_wp2_with (first
            | (at_builtin; refine wpList_append_run rfl _ _ 22 22 rfl (by simp [Act.eval]) (by simp [Act.eval, hm]) hap2 ?_)
            | (go_at_call 25; refine HSe.out.mono ?_; rintro e w16 ⟨aR, dR, rfl, OR, q16⟩; replace F := F.trans q16; clear q16)
            | (go_at_call 12; refine (HLa.out _ F _ _ _ OR).mono ?_; rintro e wx ⟨⟨nn, rfl⟩, q5⟩; replace OR := OwnB.fr OR q5; replace F := F.trans q5; clear q5; have tok1 := trivial)
            | (go_at_call 15; refine (HRe.out _ F _ _ _ OR).mono ?_; rintro e w8 ⟨v8, rfl, q8, T8⟩; replace OR := OwnB.fr OR q8; replace F := F.trans q8; (obtain ⟨B8, T8'⟩ : ∃ B, TreeAt w8 B v8 t2 := ⟨_, T8⟩); clear T8 q8)
            | (go_at_call 16; have _t := tok1; refine (HNo.out 0 _ F).mono ?_; rintro e w9 ⟨rfl, q9⟩; replace OR := OwnB.fr OR q9; replace T8' := TreeAt.fr T8' q9; replace F := F.trans q9; clear q9 tok1)
            | (go_at_call 21; refine (HAg.out _ F _ _ T8').mono ?_; rintro e w17 ⟨a7, d7, rfl, O7, q7⟩; replace OR := OwnB.fr OR q7; replace F := F.trans q7; clear q7; have tok2 := trivial)
            | (go_at_call 16; have _t := tok2; refine (HNo.out 0 _ F).mono ?_; rintro e w9 ⟨rfl, q9⟩; replace OR := OwnB.fr OR q9; replace O7 := OwnB.fr O7 q9; replace F := F.trans q9; clear q9 tok2)
            | (go_at_call 22; refine (HSa.out _ F _ _ _ _ _ _ O7 OR).mono ?_; rintro e w10 ⟨rfl, q10⟩; replace F := F.trans q10; clear q10))
          all_goals exact ⟨rfl, _, results_tmp rfl _ _ _, rfl, F⟩
        · have ht2 : t2 = [] := by
            have := readX_err (crc := crcI) (L := R) (by rw [hrd]; exact he2)
            rw [hrd] at this
            exact this
          subst ht2
          have e5 : (e2 != 0) = true := by simp [he2]
          clear hrd hn3 hRl hRb hR hXl hXb hX O15 f15 hzb hZl hk2
          go_wp2_with (first
            | (at_builtin; refine wpList_append_run rfl _ _ 22 22 rfl (by simp [Act.eval]) (by simp [Act.eval, hm]) hap2 ?_)
            | (go_at_call 25; refine HSe.out.mono ?_; rintro e w16 ⟨aR, dR, rfl, OR, q16⟩; replace F := F.trans q16; clear q16)
            | (go_at_call 12; refine (HLa.out _ F _ _ _ OR).mono ?_; rintro e wx ⟨⟨nn, rfl⟩, q5⟩; replace OR := OwnB.fr OR q5; replace F := F.trans q5; clear q5)
            | (go_at_call 15; refine (HRe.out _ F _ _ _ OR).mono ?_; rintro e w8 ⟨v8, rfl, q8, T8⟩; replace F := F.trans q8; clear q8; go_loud (obtain ⟨a8, c8, rfl⟩ := tree_nil T8))
            | (go_at_call 16; refine (HNo.out e2 _ F).mono ?_; rintro e w9 ⟨rfl, q9⟩; replace F := F.trans q9; clear q9))
          all_goals exact ⟨rfl, _, results_tmp rfl _ _ _, rfl, F⟩
      · have hE2 : (how != 2) = true := by simp [h2]
        obtain ⟨k1, hk1⟩ : ∃ k, p + 1 = k := ⟨_, rfl⟩
        obtain ⟨gx, w13, a3, d3, w14, hgx, hw13, hap, O14, f14⟩ := append_oneN q.ok a2 d2 p Y0 x k1 w12 f HY0.out.1 hk1 HO.out (by omega)
        obtain ⟨Y1, hY1⟩ : ∃ Y, Y0 ++ [x] = Y := ⟨_, rfl⟩
        rw [hY1] at O14
        have HY1 : Hid (Y1.length = k1 ∧ bytesOk Y1) := Lib.hid (by rw [← hY1]; exact ⟨by rw [List.length_append, HY0.out.1]; exact hk1, bytesOk_app HY0.out.2 (bytesOk_one hx)⟩)
        have HO1 := Lib.hid O14
        have HK1 := Lib.hid hk1
        have hk1l : k1 ≤ L.length := by omega
        clear hk1 hY1 O14
        by_cases h1 : how = 1
        · subst h1
          have hE3 : ((1 : Int) == 1) = true := rfl
          have hcell := bytes_cell (HB4.out.fr f14) p (by omega)
          rw [Nat.zero_add] at hcell
          obtain ⟨bp, hbp⟩ : ∃ b, L.getD p 0 = b := ⟨_, rfl⟩
          rw [hbp] at hcell
          have hbr : 0 ≤ bp ∧ bp ≤ 255 := by rw [← hbp]; exact HLB.out _ (by simp [List.getD, show p < L.length by omega])
          obtain ⟨k3, hk3⟩ : ∃ k, k1 + 1 = k := ⟨_, rfl⟩
          obtain ⟨gz, w23, a6, d6, w24, hgz, hw23, hap3, O24, f24⟩ := append_oneN q.ok a3 d3 k1 Y1 bp k3 w14 f14 HY1.out.1 hk3 HO1.out (by omega)
          obtain ⟨Y2, hY2⟩ : ∃ Y, Y1 ++ [bp] = Y := ⟨_, rfl⟩
          rw [hY2] at O24
          have HY2 : Hid (Y2.length = k3 ∧ bytesOk Y2) := Lib.hid (by rw [← hY2]; exact ⟨by rw [List.length_append, HY1.out.1]; exact hk3, bytesOk_app HY1.out.2 (bytesOk_one hbr)⟩)
          have HO2 := Lib.hid O24
          have hk3l : k3 ≤ L.length + 1 := by omega
          have hk3m : k3 = p + 2 := by have := HK1.out; omega
          have HK3 := Lib.hid hk3m
          clear hk3 hk3m hY2 O24 hbp
          go_upto_region 14 with (first
            | (at_builtin; refine wpList_append_run rfl _ _ 22 22 rfl (by simp [Act.eval]) (by simp [Act.eval]) hap ?_))
          go_upto_region 15 with (first
            | (at_builtin; refine wpList_append_run rfl _ _ 22 22 rfl (by simp [Act.eval]) (by simp [Act.eval]) hap3 ?_))
          clear hap hap3 hgx hw13 hgz hw23 hcell
          have hk3q := HK3.out
          obtain ⟨m, hm⟩ : ∃ m, L.length - 4 - (p + 1) = m := ⟨_, rfl⟩
          obtain ⟨k2, hk2⟩ : ∃ k, k3 + m = k := ⟨_, rfl⟩
          have hZl : ((L.drop (p + 1)).take m).length = m := by rw [List.length_take, List.length_drop]; omega
          have hzb : BytesAt w24 (some ⟨g4, p + 1, none⟩) ((L.drop (p + 1)).take m) := by have := (HB4.out.fr f24).sub (p + 1) m; rwa [Nat.zero_add] at this
          obtain ⟨a5, d5, w15, hap2, O15, f15⟩ := append_rowN q.ok a6 d6 k3 Y2 _ (some ⟨g4, p + 1, none⟩) (d4 - (p + 1)) m k2 w24 f24 HY2.out.1 hZl hk2 HO2.out hzb (fun e => by cases e) (by omega)
          obtain ⟨X, hX⟩ : ∃ X, Y2 ++ (L.drop (p + 1)).take m = X := ⟨_, rfl⟩
          have hXb : bytesOk X := by rw [← hX]; exact bytesOk_app HY2.out.2 ((HLB.out.drop (p + 1)).take m)
          have hXl : X.length = k2 := by rw [← hX, List.length_append, hZl, HY2.out.1]; exact hk2
          have hk2l : k2 ≤ 536870700 := by omega
          rw [hX] at O15
          have F := q.trans f15
          have HSe := sealed18_any a5 d5 X hXb O15.at.2.2 (by omega) (own_nz O15) w15 F.ok O15.at.1
          rw [hXl] at HSe
          obtain ⟨R, hR⟩ : ∃ R, X ++ le (crcI X) 4 = R := ⟨_, rfl⟩
          have hRb : bytesOk R := by rw [← hR]; exact bytesOk_app hXb (le_mem _ _)
          have hRl : R.length = k2 + 4 := by rw [← hR, List.length_append, le_length, hXl]
          rw [hR] at HSe
          obtain ⟨n3, hn3⟩ : ∃ n, R.length = n := ⟨_, rfl⟩
          rw [hn3] at HSe
          have HSe := Lib.hid HSe
          obtain ⟨⟨t2, e2⟩, hrd⟩ : ∃ q, readX crcI R = q := ⟨_, rfl⟩
          have hn3l : n3 ≤ 536870800 := by omega
          have hpos15 := F.size
          have HLa := Lib.hid (fun W (q : Fr w W) (B : Nat) a d (O : OwnB W B (.slice a n3 d) R) => by
            have := large_any a d R W q.ok O.at.1 hRb O.at.2.2 (by omega) (by have := q.size; omega)
            rw [hn3] at this
            exact this)
          have HRe := Lib.hid (fun W (q : Fr w W) (B : Nat) a d (O : OwnB W B (.slice a n3 d) R) => by
            have := pread_any a d R W q.ok O.at.1 hRb O.at.2.2 (by omega) (by have := q.size; omega)
            rw [hn3, hrd] at this
            exact this)
          by_cases he2 : e2 = 0
          · subst he2
            have HAg := Lib.hid (fun W (q : Fr w W) (B : Nat) v (T : TreeAt W B v t2) => by
              have := again_any hRb hrd (by omega) q.ok T (by have := q.size; omega)
              refine Calls.mono (R' := fun e w' => ∃ a d, e = .returned (.tuple #[.slice a n3 d, .int .i64 0]) ∧ OwnB w' W.heap.size (.slice a n3 d) R ∧ Fr W w') this ?_
              rintro e w' ⟨v', h1, O, h3⟩
              obtain ⟨a, d, rfl⟩ := O.form
              rw [hn3] at h1 O
              exact ⟨a, d, h1, O, h3⟩)
            have HSa := Lib.hid (fun W (q : Fr w W) (B1 B2 : Nat) a1 d1 a2 d2 (O1 : OwnB W B1 (.slice a1 n3 d1) R) (O2 : OwnB W B2 (.slice a2 n3 d2) R) => by
              have := same_true q.ok O1.at.1 O2.at.1 O1.at.2.2 O2.at.2.2 (by omega)
              rw [hn3] at this
              exact this)
            clear hk3q hrd hn3 hRl hRb hR hXl hXb hX O15 f15 hzb hZl hk2
            go_wp2_with (first
              | (at_builtin; refine wpList_append_run rfl _ _ 22 22 rfl (by simp [Act.eval]) (by simp [Act.eval, hm]) hap2 ?_)
              | (go_at_call 25; refine HSe.out.mono ?_; rintro e w16 ⟨aR, dR, rfl, OR, q16⟩; replace F := F.trans q16; clear q16)
              | (go_at_call 12; refine (HLa.out _ F _ _ _ OR).mono ?_; rintro e wx ⟨⟨nn, rfl⟩, q5⟩; replace OR := OwnB.fr OR q5; replace F := F.trans q5; clear q5; have tok1 := trivial)
              | (go_at_call 15; refine (HRe.out _ F _ _ _ OR).mono ?_; rintro e w8 ⟨v8, rfl, q8, T8⟩; replace OR := OwnB.fr OR q8; replace F := F.trans q8; (obtain ⟨B8, T8'⟩ : ∃ B, TreeAt w8 B v8 t2 := ⟨_, T8⟩); clear T8 q8)
              | (go_at_call 16; have _t := tok1; refine (HNo.out 0 _ F).mono ?_; rintro e w9 ⟨rfl, q9⟩; replace OR := OwnB.fr OR q9; replace T8' := TreeAt.fr T8' q9; replace F := F.trans q9; clear q9 tok1)
              | (go_at_call 21; refine (HAg.out _ F _ _ T8').mono ?_; rintro e w17 ⟨a7, d7, rfl, O7, q7⟩; replace OR := OwnB.fr OR q7; replace F := F.trans q7; clear q7; have tok2 := trivial)
              | (go_at_call 16; have _t := tok2; refine (HNo.out 0 _ F).mono ?_; rintro e w9 ⟨rfl, q9⟩; replace OR := OwnB.fr OR q9; replace O7 := OwnB.fr O7 q9; replace F := F.trans q9; clear q9 tok2)
              | (go_at_call 22; refine (HSa.out _ F _ _ _ _ _ _ O7 OR).mono ?_; rintro e w10 ⟨rfl, q10⟩; replace F := F.trans q10; clear q10))
            all_goals exact ⟨rfl, _, results_tmp rfl _ _ _, rfl, F⟩
          · have ht2 : t2 = [] := by
              have := readX_err (crc := crcI) (L := R) (by rw [hrd]; exact he2)
              rw [hrd] at this
              exact this
            subst ht2
            have e5 : (e2 != 0) = true := by simp [he2]
            clear hk3q hrd hn3 hRl hRb hR hXl hXb hX O15 f15 hzb hZl hk2
            go_wp2_with (first
              | (at_builtin; refine wpList_append_run rfl _ _ 22 22 rfl (by simp [Act.eval]) (by simp [Act.eval, hm]) hap2 ?_)
              | (go_at_call 25; refine HSe.out.mono ?_; rintro e w16 ⟨aR, dR, rfl, OR, q16⟩; replace F := F.trans q16; clear q16)
              | (go_at_call 12; refine (HLa.out _ F _ _ _ OR).mono ?_; rintro e wx ⟨⟨nn, rfl⟩, q5⟩; replace OR := OwnB.fr OR q5; replace F := F.trans q5; clear q5)
              | (go_at_call 15; refine (HRe.out _ F _ _ _ OR).mono ?_; rintro e w8 ⟨v8, rfl, q8, T8⟩; replace F := F.trans q8; clear q8; go_loud (obtain ⟨a8, c8, rfl⟩ := tree_nil T8))
              | (go_at_call 16; refine (HNo.out e2 _ F).mono ?_; rintro e w9 ⟨rfl, q9⟩; replace F := F.trans q9; clear q9))
            all_goals exact ⟨rfl, _, results_tmp rfl _ _ _, rfl, F⟩
        · have hE3 : (how == 1) = false := by simp [h1]
          go_upto_region 15 with (first
            | (at_builtin; refine wpList_append_run rfl _ _ 22 22 rfl (by simp [Act.eval]) (by simp [Act.eval]) hap ?_))
          clear hap hgx hw13
          have hk1q := HK1.out
          obtain ⟨m, hm⟩ : ∃ m, L.length - 4 - (p + 1) = m := ⟨_, rfl⟩
          obtain ⟨k2, hk2⟩ : ∃ k, k1 + m = k := ⟨_, rfl⟩
          have hZl : ((L.drop (p + 1)).take m).length = m := by rw [List.length_take, List.length_drop]; omega
          have hzb : BytesAt w14 (some ⟨g4, p + 1, none⟩) ((L.drop (p + 1)).take m) := by have := (HB4.out.fr f14).sub (p + 1) m; rwa [Nat.zero_add] at this
          obtain ⟨a5, d5, w15, hap2, O15, f15⟩ := append_rowN q.ok a3 d3 k1 Y1 _ (some ⟨g4, p + 1, none⟩) (d4 - (p + 1)) m k2 w14 f14 HY1.out.1 hZl hk2 HO1.out hzb (fun e => by cases e) (by omega)
          obtain ⟨X, hX⟩ : ∃ X, Y1 ++ (L.drop (p + 1)).take m = X := ⟨_, rfl⟩
          have hXb : bytesOk X := by rw [← hX]; exact bytesOk_app HY1.out.2 ((HLB.out.drop (p + 1)).take m)
          have hXl : X.length = k2 := by rw [← hX, List.length_append, hZl, HY1.out.1]; exact hk2
          have hk2l : k2 ≤ 536870700 := by omega
          rw [hX] at O15
          have F := q.trans f15
          have HSe := sealed18_any a5 d5 X hXb O15.at.2.2 (by omega) (own_nz O15) w15 F.ok O15.at.1
          rw [hXl] at HSe
          obtain ⟨R, hR⟩ : ∃ R, X ++ le (crcI X) 4 = R := ⟨_, rfl⟩
          have hRb : bytesOk R := by rw [← hR]; exact bytesOk_app hXb (le_mem _ _)
          have hRl : R.length = k2 + 4 := by rw [← hR, List.length_append, le_length, hXl]
          rw [hR] at HSe
          obtain ⟨n3, hn3⟩ : ∃ n, R.length = n := ⟨_, rfl⟩
          rw [hn3] at HSe
          have HSe := Lib.hid HSe
          obtain ⟨⟨t2, e2⟩, hrd⟩ : ∃ q, readX crcI R = q := ⟨_, rfl⟩
          have hn3l : n3 ≤ 536870800 := by omega
          have hpos15 := F.size
          have HLa := Lib.hid (fun W (q : Fr w W) (B : Nat) a d (O : OwnB W B (.slice a n3 d) R) => by
            have := large_any a d R W q.ok O.at.1 hRb O.at.2.2 (by omega) (by have := q.size; omega)
            rw [hn3] at this
            exact this)
          have HRe := Lib.hid (fun W (q : Fr w W) (B : Nat) a d (O : OwnB W B (.slice a n3 d) R) => by
            have := pread_any a d R W q.ok O.at.1 hRb O.at.2.2 (by omega) (by have := q.size; omega)
            rw [hn3, hrd] at this
            exact this)
          by_cases he2 : e2 = 0
          · subst he2
            have HAg := Lib.hid (fun W (q : Fr w W) (B : Nat) v (T : TreeAt W B v t2) => by
              have := again_any hRb hrd (by omega) q.ok T (by have := q.size; omega)
              refine Calls.mono (R' := fun e w' => ∃ a d, e = .returned (.tuple #[.slice a n3 d, .int .i64 0]) ∧ OwnB w' W.heap.size (.slice a n3 d) R ∧ Fr W w') this ?_
              rintro e w' ⟨v', h1, O, h3⟩
              obtain ⟨a, d, rfl⟩ := O.form
              rw [hn3] at h1 O
              exact ⟨a, d, h1, O, h3⟩)
            have HSa := Lib.hid (fun W (q : Fr w W) (B1 B2 : Nat) a1 d1 a2 d2 (O1 : OwnB W B1 (.slice a1 n3 d1) R) (O2 : OwnB W B2 (.slice a2 n3 d2) R) => by
              have := same_true q.ok O1.at.1 O2.at.1 O1.at.2.2 O2.at.2.2 (by omega)
              rw [hn3] at this
              exact this)
            clear hk1q hrd hn3 hRl hRb hR hXl hXb hX O15 f15 hzb hZl hk2
            go_wp2_with (first
              | (at_builtin; refine wpList_append_run rfl _ _ 22 22 rfl (by simp [Act.eval]) (by simp [Act.eval, hm]) hap2 ?_)
              | (go_at_call 25; refine HSe.out.mono ?_; rintro e w16 ⟨aR, dR, rfl, OR, q16⟩; replace F := F.trans q16; clear q16)
              | (go_at_call 12; refine (HLa.out _ F _ _ _ OR).mono ?_; rintro e wx ⟨⟨nn, rfl⟩, q5⟩; replace OR := OwnB.fr OR q5; replace F := F.trans q5; clear q5; have tok1 := trivial)
              | (go_at_call 15; refine (HRe.out _ F _ _ _ OR).mono ?_; rintro e w8 ⟨v8, rfl, q8, T8⟩; replace OR := OwnB.fr OR q8; replace F := F.trans q8; (obtain ⟨B8, T8'⟩ : ∃ B, TreeAt w8 B v8 t2 := ⟨_, T8⟩); clear T8 q8)
              | (go_at_call 16; have _t := tok1; refine (HNo.out 0 _ F).mono ?_; rintro e w9 ⟨rfl, q9⟩; replace OR := OwnB.fr OR q9; replace T8' := TreeAt.fr T8' q9; replace F := F.trans q9; clear q9 tok1)
              | (go_at_call 21; refine (HAg.out _ F _ _ T8').mono ?_; rintro e w17 ⟨a7, d7, rfl, O7, q7⟩; replace OR := OwnB.fr OR q7; replace F := F.trans q7; clear q7; have tok2 := trivial)
              | (go_at_call 16; have _t := tok2; refine (HNo.out 0 _ F).mono ?_; rintro e w9 ⟨rfl, q9⟩; replace OR := OwnB.fr OR q9; replace O7 := OwnB.fr O7 q9; replace F := F.trans q9; clear q9 tok2)
              | (go_at_call 22; refine (HSa.out _ F _ _ _ _ _ _ O7 OR).mono ?_; rintro e w10 ⟨rfl, q10⟩; replace F := F.trans q10; clear q10))
            all_goals exact ⟨rfl, _, results_tmp rfl _ _ _, rfl, F⟩
          · have ht2 : t2 = [] := by
              have := readX_err (crc := crcI) (L := R) (by rw [hrd]; exact he2)
              rw [hrd] at this
              exact this
            subst ht2
            have e5 : (e2 != 0) = true := by simp [he2]
            clear hk1q hrd hn3 hRl hRb hR hXl hXb hX O15 f15 hzb hZl hk2
            go_wp2_with (first
              | (at_builtin; refine wpList_append_run rfl _ _ 22 22 rfl (by simp [Act.eval]) (by simp [Act.eval, hm]) hap2 ?_)
              | (go_at_call 25; refine HSe.out.mono ?_; rintro e w16 ⟨aR, dR, rfl, OR, q16⟩; replace F := F.trans q16; clear q16)
              | (go_at_call 12; refine (HLa.out _ F _ _ _ OR).mono ?_; rintro e wx ⟨⟨nn, rfl⟩, q5⟩; replace OR := OwnB.fr OR q5; replace F := F.trans q5; clear q5)
              | (go_at_call 15; refine (HRe.out _ F _ _ _ OR).mono ?_; rintro e w8 ⟨v8, rfl, q8, T8⟩; replace F := F.trans q8; clear q8; go_loud (obtain ⟨a8, c8, rfl⟩ := tree_nil T8))
              | (go_at_call 16; refine (HNo.out e2 _ F).mono ?_; rintro e w9 ⟨rfl, q9⟩; replace F := F.trans q9; clear q9))
            all_goals exact ⟨rfl, _, results_tmp rfl _ _ _, rfl, F⟩
    · have hor : pl < 0 ∨ (0 ≤ pl ∧ (L.length : Int) - 4 ≤ pl) := by omega
      clear hin
      go_enter Tryd.func6, Tryd.ntmps6
      rcases hor with h | ⟨h1, h2⟩
      all_goals
        go_wp2_with (first
          | (go_at_call 24; refine HHe.out.mono ?_; rintro e w1 ⟨rfl, q⟩)
          | (go_at_call 21; refine (HPk.out _ q).mono ?_; rintro e w4 ⟨v4, rfl, O4, q4⟩; replace q := q.trans q4; clear q4; go_loud (obtain ⟨a4, d4, rfl⟩ := O4.form))
          | (go_at_call 16; refine (HNo.out 0 _ q).mono ?_; rintro e w5 ⟨rfl, q5⟩; replace q := q.trans q5; clear q5))
        exact ⟨rfl, _, results_tmp rfl _ _ _, rfl, q⟩
  · have hE0 : (er != 0) = true := by simp [he]
    clear hP
    go_enter Tryd.func6, Tryd.ntmps6
    go_wp2_with (first
      | (go_at_call 24; refine HHe.out.mono ?_; rintro e w1 ⟨rfl, q⟩)
      | (go_at_call 21; refine (HPk.out _ q).mono ?_; rintro e w4 ⟨v4, rfl, O4, q4⟩; replace q := q.trans q4; clear q4; go_loud (obtain ⟨a4, d4, rfl⟩ := O4.form))
      | (go_at_call 16; refine (HNo.out er _ q).mono ?_; rintro e w5 ⟨rfl, q5⟩; replace q := q.trans q5; clear q5))
    exact ⟨rfl, _, results_tmp rfl _ _ _, rfl, q⟩
end Go.Proofs.YtlnaeppbhjmocaaDoor
set_option linter.unusedSimpArgs false
set_option linter.unusedVariables false
namespace Go.Proofs.YtlnaeppbhjmocaaDoor.parcelCanon
open Go.ChangeShapes Go.WideShapes Go.ChangeAt Go.RowKit

theorem laidOf {W : World} (h : laidMetH Tryd.prog Rows.parcelCanonUptoRow.laid W) : laidMet Tryd.prog Rows.parcelCanonUptoRow.laid W := by
  rwa [MakeChecks.laidMetH_plain _ _ _ (by kernel_rfl)] at h
theorem okOf {W : World} (h : laidMetH Tryd.prog Rows.parcelCanonUptoRow.laid W) : Ok W where
  fours := okFours (Lib.laidMet.reads (laidOf h) (List.mem_cons_of_mem _ List.mem_cons_self))

theorem rg_u8 {P : Program} {w : World} {r : Reach} {base : Nat} {t : TypeId} {n : Int} (ht : P.underlying t = some (.int .u8)) (h : Value.okWide P w r base t (.int .u8 n)) : 0 ≤ n ∧ n ≤ 255 := by
  simp only [Value.okWide, ht, Cell.okWide] at h
  simp only [Cell.ok, ht] at h
  exact h.2
set_option maxRecDepth 100000 in
theorem contract (H : Type) (enc : TypeId × Value → H) (W : World) (base : Nat) (args : Array Value) (ds gs : List (DataW H)) (before : List MemPlace)
    (hval : ∀ (j : Nat) t v, Tryd.f6.params[j]? = some t → args[j]? = some v → Value.okWide Tryd.prog W .any base t v)
    (hW : DataW.Whole enc Tryd.prog Tryd.f6.params.toList Rows.parcelCanonSpec.vars false W args.toList ds gs before) (hS : Rows.uptoSmall H (ds ++ gs) = true) (hL : laidMetH Tryd.prog Rows.parcelCanonUptoRow.laid W) (hSh : W.ShapedOpen Tryd.prog) :
    Calls Tryd.prog 6 args W fun e W' => ∃ v, e = .returned v ∧ Rows.parcelCanonSpec.post enc Tryd.prog Tryd.f6 false true false false W args v W' := by
  have hW' := hW
  obtain ⟨p, q, hA0, hV, rfl, hfz, hnd⟩ := hW
  have hA : DataW.TrodAll enc Tryd.prog W 0 (fun _ => true) true Tryd.f6.params.toList args.toList ds p := hA0
  rw [Tryd.params6] at hA hval
  obtain ⟨v0, vs0, d0, ds0, p0, q0, hargs, rfl, rfl, h0, r0⟩ := trodAll_cons hA
  obtain ⟨v1, vs1, d1, ds1, p1, q1, rfl, rfl, rfl, h1, r1⟩ := trodAll_cons r0
  obtain ⟨v2, vs2, d2, ds2, p2, q2, rfl, rfl, rfl, h2, r2⟩ := trodAll_cons r1
  obtain ⟨v3, vs3, d3, ds3, p3, q3, rfl, rfl, rfl, h3, r3⟩ := trodAll_cons r2
  obtain ⟨rfl, rfl, rfl⟩ := trodAll_nil r3
  obtain rfl : args = #[v0, v1, v2, v3] := by cases args; simp_all
  obtain ⟨rfl, rfl⟩ := trodVars_none hV
  clear hA0
  simp only [List.append_nil] at hW'
  have hsz : Rows.uptoBulk d0 ≤ 1048576 := by
    have : Rows.uptoBulkAll ([d0, d1, d2, d3] ++ []) ≤ 1048576 := by simpa [Rows.uptoSmall] using hS
    simp only [List.append_nil, Rows.uptoBulkAll] at this
    omega
  obtain ⟨A0, n0, c0, rfl⟩ := okWide_slice Tryd.underlying26 (hval 0 26 v0 rfl rfl)
  obtain ⟨x1, rfl⟩ := okWide_int Tryd.underlying3 (hval 1 3 v1 rfl rfl)
  obtain ⟨x2, rfl⟩ := okWide_int Tryd.underlying5 (hval 2 5 v2 rfl rfl)
  obtain ⟨x3, rfl⟩ := okWide_int Tryd.underlying3 (hval 3 3 v3 rfl rfl)
  obtain ⟨fuel0, h0⟩ := h0
  obtain ⟨tv0, A', c', e, hT0, _⟩ := open_tree h0 hsz
  simp only [Value.cells] at e
  injection e with e _
  injection e with e1 e2 e3
  subst e1 e2 e3
  have walk : Calls Tryd.prog 6 #[.slice A0 tv0.length c0, .int .i64 x1, .int .u8 x2, .int .i64 x3] W fun e w' => e = .returned (.bool true) ∧ Fr W w' :=
    law_Canon A0 c0 tv0 x1 x2 x3 W (okOf hL) (sizeOf hSh) hT0 (rg_u8 Tryd.underlying5 (hval 2 5 _ rfl rfl))
  refine walk.mono fun e W' ⟨he, hg⟩ => ?_
  subst he
  have hlt : ∀ x ∈ p0 ++ (p1 ++ (p2 ++ (p3 ++ ([] : List MemPlace)))), x.block < W.heap.size := fun x hx => by simpa using hW'.lt x (by simpa using hx)
  exact ⟨_, rfl, post_of_below (pa := p0 ++ (p1 ++ (p2 ++ (p3 ++ [])))) (pv := []) hW' (fun _ _ _ => trodAll_cons_mk (shut_bool Tryd.underlying4 _) trodAll_mk0)
    (fun sp hsp => trodAll_below laidOut hg.below (by rw [Tryd.params6]; simp only [List.mem_cons, List.not_mem_nil, or_false, forall_eq_or_imp, forall_eq]; exact ⟨⟨by kernel_rfl, of_decide_eq_true (by kernel_rfl)⟩, ⟨by kernel_rfl, of_decide_eq_true (by kernel_rfl)⟩, ⟨by kernel_rfl, of_decide_eq_true (by kernel_rfl)⟩, ⟨by kernel_rfl, of_decide_eq_true (by kernel_rfl)⟩⟩) (by rw [Tryd.params6]; exact hA) hlt (fun x hx => hsp x (by simpa using hx)))
    (fun _ _ => rfl) (by simp) hg.below (ok_one (by kernel_rfl) rfl (okWide_bool_mk Tryd.underlying4 _))⟩

/-- A WORLD FOR THE WITNESS: the settled one, the listed variables as they are laid. -/
def cells1 : DataW Unit → List Value
  | .lit (.int k z) => [.int k z]
  | .lit (.string s) => [.string ⟨s.toArray⟩]
  | .agg l => l.map fun d => match d with
    | .lit (.int k z) => Value.int k z
    | _ => Value.bool false
  | _ => []
def cellsOfData : DataW Unit → Array Value
  | .agg l => (l.flatMap cells1).toArray
  | _ => #[]
def layCells (cs : Array Value) : Obj → Obj
  | .cells _ t frozen => .cells cs t frozen
  | o => o
def layAt (d : DataW Unit) : Obj → Obj := layCells (cellsOfData d)
noncomputable def laidWorld (os : Os) : World :=
  let w0 := World.holding Tryd.prog os ⟨#[], #[], []⟩
  { w0 with heap := ((w0.heap.modify 3 (layAt Rows.laid_unicode_utf8_acceptRanges)).modify 0 (layAt Rows.laid_shale_words_fours)).modify 2 (layAt Rows.laid_unicode_utf8_first) }
def wArgs : Array Value := #[.slice none 0 0, .int .i64 0, .int .u8 0, .int .i64 0]
theorem laid_met (os : Os) : laidMet Tryd.prog Rows.parcelCanonUptoRow.laid ((laidWorld os).forCall (fun _ _ => 0) ⟨#[], wArgs, []⟩).memory :=
  laidMet_of_run' 8 (by kernel_rfl) (by kernel_rfl)
theorem reads (os : Os) {H : Type} (enc : TypeId × Value → H) : ∃ places, DataW.whole enc Tryd.prog ((laidWorld os).forCall (fun _ _ => 0) ⟨#[], wArgs, []⟩).memory Tryd.f6.params.toList Rows.parcelCanonSpec.vars false wArgs.toList 8 = some ([.nil, .lit (.int .i64 0), .lit (.int .u8 0), .lit (.int .i64 0)], [], places) :=
  ⟨[], by kernel_rfl⟩

set_option maxRecDepth 100000 in
theorem lifted (os : Os) (started : os.Started) (H : Type) (enc : TypeId × Value → H) (F : Stop.Interp) :
    ReturnsInHanded {} Tryd.checked os 6 .any ((Rows.OpenSpec.upto Rows.parcelCanonSpec).preRow enc Tryd.prog Tryd.f6 Rows.parcelCanonUptoRow.domain false Rows.parcelCanonUptoRow.laid) (((Rows.OpenSpec.upto Rows.parcelCanonSpec).at F).post enc Tryd.prog Tryd.f6 false true false false) := by
  obtain ⟨places, hx⟩ := reads os enc
  refine returnsInHanded_of_row (C := Tryd.checked) (s := Rows.OpenSpec.upto Rows.parcelCanonSpec) own started (by kernel_rfl) Tryd.func6
    (witness_row_at (enc := enc) (C := Tryd.checked) false (laidWorld os) wArgs rfl (by kernel_rfl) (by kernel_rfl) (by kernel_rfl)
      (OpenSpec.preRow_of_cond 8 hx (by kernel_rfl) (fun k hk => by cases hk; kernel_rfl) (by kernel_rfl) (laid_met os))) ?_
  intro W base args ds gs before hval hW _ hcond _ hL hSh _
  exact contract H enc W base args ds gs before hval hW (hcond _ rfl) hL hSh

theorem said : Rows.ParcelCanonUptoSaid :=
  OpenClaim.holds_of_cond 6 Tryd.f6 rfl rfl rfl rfl rfl rfl rfl ⟨rfl, rfl, rfl, rfl, rfl⟩ rfl rfl rfl rfl rfl (by kernel_rfl) Tryd.func6 (by kernel_rfl)
    (of_decide_eq_true (by kernel_rfl)) (by unfold Func.isWrapper; first | (rw [if_pos (by decide +kernel)]; kernel_rfl) | (rw [if_neg (by decide +kernel)]; exact ⟨rfl, rfl⟩))
    (fun os started H enc _ F => by rw [OpenClaim.pre_eq_preRow]; exact lifted os started H enc F)

theorem plain (f : FuncId) (fn : Func) (hf : Tryd.pinned.checked.prog.funcNamed "shale/shalelaw18.ParcelCanon" = some f) (hfn : Tryd.pinned.checked.prog.funcs[f]? = some fn) :
    true = Tryd.pinned.checked.prog.looks [] ∧ ∀ (j : Nat) t, fn.params[j]? = some t → Tryd.pinned.checked.prog.wantsStandIn t = false := by
  obtain rfl : f = 6 := Option.some.inj ((show Tryd.prog.funcNamed "shale/shalelaw18.ParcelCanon" = some 6 by kernel_rfl).symm.trans hf) |>.symm
  obtain rfl : fn = Tryd.f6 := (Option.some.inj (Tryd.func6.symm.trans hfn)).symm
  refine ⟨by kernel_rfl, fun j t ht => ?_⟩
  rw [Tryd.params6] at ht
  have hm : t = 26 ∨ t = 3 ∨ t = 5 ∨ t = 3 := by simpa using Array.mem_of_getElem? ht
  rcases hm with rfl | rfl | rfl | rfl
  · exact (show Tryd.prog.wantsStandIn 26 = false by kernel_rfl)
  · exact (show Tryd.prog.wantsStandIn 3 = false by kernel_rfl)
  · exact (show Tryd.prog.wantsStandIn 5 = false by kernel_rfl)
  · exact (show Tryd.prog.wantsStandIn 3 = false by kernel_rfl)

theorem card : Rows.ParcelCanonUptoCardSaid :=
  Claim7.holds_tied_plain_at .later [] _ _ _ _ said (fun _ h => by cases h) (by kernel_rfl) (fun _ h => by cases h) parcelCanonUpto_row_tie rfl ⟨rfl, rfl⟩ (by kernel_rfl) rfl plain (by kernel_rfl)
end Go.Proofs.YtlnaeppbhjmocaaDoor.parcelCanon
namespace Go.Proofs.YtlnaeppbhjmocaaDoor
theorem cardBursts : Rows.ParcelBurstsUptoCardSaid := parcelBursts.card
theorem cardCanon : Rows.ParcelCanonUptoCardSaid := parcelCanon.card
end Go.Proofs.YtlnaeppbhjmocaaDoor
