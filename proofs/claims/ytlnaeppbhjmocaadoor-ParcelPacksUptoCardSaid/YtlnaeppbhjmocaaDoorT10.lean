/- A region that draws its order, within a round of a range over a function: as XRegionL has it outside. No conditions. -/
import Derived.Test.YtlnaeppbhjmocaaDoorT9
import Derived.RangeFuncNested
import Derived.RangeFuncBound
import Derived.Lib.AppendStr
import Derived.Shelf.Abstract
import Derived.Shelf.RegionOpen
import Derived.OwnWalkIn
import Derived.TacticsInMore
import Derived.LoopNIn
import Derived.LoopIn
import Derived.WalkKit
import Derived.Maps.AppendAt
import Derived.OrdersIn
import Derived.RangeFuncCalls
set_option linter.unusedSectionVars false
set_option linter.unnecessarySimpa false
set_option linter.unusedSimpArgs false
set_option linter.unusedVariables false
set_option linter.unusedSimpArgs false
set_option linter.unusedVariables false
namespace Go.Proofs.YtlnaeppbhjmocaaDoor
open Go.RowKit Go.Proofs Go.Proofs.YtlnaeppbhjmocaaDoorW.PrintWords Go.Proofs.YtlnaeppbhjmocaaDoorW.PrintMore

/-- leaves in a row; each one's data lie somewhere -/
def LAt (w : World) (A : Option Addr) (tv : List (Lf × Value)) : Prop := Row w A 6 (tv.map lcell) ∧ ∀ p ∈ tv, ∃ a d, p.2 = .slice a p.1.data.length d ∧ BytesAt w a p.1.data ∧ p.1.data.length ≤ d ∧ (a = none → d = 0)
theorem LAt.fr {w w' : World} {A : Option Addr} {tv : List (Lf × Value)} (h : LAt w A tv) (q : Fr w w') : LAt w' A tv :=
  ⟨h.1.fr q, fun p hp => by obtain ⟨a, d, e, hb, hd, hz⟩ := h.2 p hp; exact ⟨a, d, e, hb.fr q, hd, hz⟩⟩
def toP (p : Lf × Value) : PPack.S45 := ⟨p.1.path, p.1.ty, p.1.mode, p.1.stamp, p.1.data, p.1.tgt⟩
theorem LAt.toPack {w : World} {A : Option Addr} {tv : List (Lf × Value)} (h : LAt w A tv) (hn : tv.length ≤ 1099511627776) (hd : ∀ p ∈ tv, p.1.data.length ≤ 1099511627776) : Kd.C PPack.k45 w A (tv.map toP).length (tv.map toP) := by
  refine ⟨rfl, by rw [List.length_map]; omega, fun h0 => ?_⟩
  rw [List.length_map] at h0
  rcases h.1 with h1 | ⟨g, o, hA, hg, h1⟩
  · have : tv = [] := by simpa using h1
    rw [this] at h0; simp at h0
  · refine ⟨_, hA, fun j p hj => ?_⟩
    rw [List.getElem?_map, Option.map_eq_some_iff] at hj
    obtain ⟨q, hq, rfl⟩ := hj
    have hm := List.mem_of_getElem? hq
    obtain ⟨da, dc, hdv, hb, hdl, _⟩ := h.2 q hm
    refine ⟨lcell q, rfl, ?_, fun i u hu => ?_⟩
    · have := PPack.k45_mk w (toP q) (A4 := da) (c4 := dc) hdl (hb.toC (hd q hm))
      unfold lcell
      rw [hdv]
      exact this
    · have hi : i < 6 := by
        have := (List.getElem?_eq_some_iff.1 hu).1
        have hl6 : (lcell q).length = 6 := rfl
        omega
      have := h1 j (lcell q) (by rw [List.getElem?_map, hq]; rfl) i u hi hu
      have hsz : PPack.k45.sz = 6 := rfl
      rw [hsz, Lib.add_plain]
      rw [show o + (j * 6 + i) = o + j * 6 + i by omega]
      exact this
theorem LAt.toAlike {w : World} {A : Option Addr} {tv : List (Lf × Value)} (h : LAt w A tv) (hn : tv.length ≤ 1099511627776) (hd : ∀ p ∈ tv, p.1.data.length ≤ 1099511627776) : Kd.C Palike.k45 w A (tv.map toS).length (tv.map toS) := by
  refine ⟨rfl, by rw [List.length_map]; omega, fun h0 => ?_⟩
  rw [List.length_map] at h0
  rcases h.1 with h1 | ⟨g, o, hA, hg, h1⟩
  · have : tv = [] := by simpa using h1
    rw [this] at h0; simp at h0
  · refine ⟨_, hA, fun j p hj => ?_⟩
    rw [List.getElem?_map, Option.map_eq_some_iff] at hj
    obtain ⟨q, hq, rfl⟩ := hj
    have hm := List.mem_of_getElem? hq
    obtain ⟨da, dc, hdv, hb, hdl, _⟩ := h.2 q hm
    refine ⟨lcell q, rfl, ?_, fun i u hu => ?_⟩
    · have := Palike.k45_mk w (toS q) (A4 := da) (c4 := dc) hdl (hb.toC (hd q hm))
      unfold lcell
      rw [hdv]
      exact this
    · have hi : i < 6 := by
        have := (List.getElem?_eq_some_iff.1 hu).1
        have hl6 : (lcell q).length = 6 := rfl
        omega
      have := h1 j (lcell q) (by rw [List.getElem?_map, hq]; rfl) i u hi hu
      have hsz : Palike.k45.sz = 6 := rfl
      rw [hsz, Lib.add_plain]
      rw [show o + (j * 6 + i) = o + j * 6 + i by omega]
      exact this

/-- the model's order of texts is that of their bytes -/
theorem bl_eq : ∀ (x y : List UInt8), Op.bytesLess x y = decide (x < y)
  | [], [] => by simp [Op.bytesLess]
  | [], _ :: _ => by simp [Op.bytesLess]
  | _ :: _, [] => by simp [Op.bytesLess]
  | a :: x, b :: y => by
    rw [Op.bytesLess, bl_eq x y, Bool.eq_iff_iff]
    simp [List.cons_lt_cons_iff]
/-! ### The bytes of a tree -/
/-- a file's data, cut -/
def cutB (L : List Int) : List Int := le (L.length : Int) 4 ++ (stretX L).flatMap (stretB L)
/-- a leaf's piece; ns: its names -/
def pieceH (l : Lf) (ns : List ByteArray) : List Int := [((ns.length - 1 : Nat) : Int), l.ty] ++ le l.mode 2 ++ le l.stamp 8 ++ [((ns.getLastD ⟨#[]⟩).size : Int)] ++ bytesI (ns.getLastD ⟨#[]⟩)
def pieceT (l : Lf) : List Int := if l.ty = 1 then cutB l.data else if l.ty = 3 then [(l.tgt.size : Int)] ++ bytesI l.tgt else []
def pieceB (l : Lf) (ns : List ByteArray) : List Int := pieceH l ns ++ pieceT l
def headX (l : Lf) : List Int := [80, 82, 67, 76, 1] ++ le l.mode 2 ++ le l.stamp 8
/-- may a leaf be, its names -/
def okL (l : Lf) : Bool := goodB l.ty l.mode l.data.length l.tgt
def nmL (l : Lf) : List ByteArray := (namesP l.path.data.toList).getD []
def ltB (a b : ByteArray) : Bool := Op.bytesLess a.toList b.toList
/-- may these leaves stand behind a leaf of these names (a directory or not) -/
def restB : List ByteArray → Bool → List Lf → Bool
  | _, _, [] => true
  | ahead, dir, l :: r => (namesP l.path.data.toList).isSome && okL l && stepX ltB ahead dir (nmL l) && restB (nmL l) (decide (l.ty = 2)) r
/-- Pack: the bytes, or the error -/
def packX (t : List Lf) : List Int × Int :=
  match t with
  | [] => ([], 190)
  | l :: r =>
    if l.path.data.toList = [47] ∧ l.ty = 2 then
      if okL l = true ∧ restB [] true r = true then
        let m := headX l ++ r.flatMap (fun x => pieceB x (nmL x)) ++ [255]
        (m ++ le (crcI m) 4, 0)
      else ([], 191)
    else ([], 190)
theorem okL_ty {l : Lf} (h : okL l = true) : 1 ≤ l.ty ∧ l.ty ≤ 3 ∧ 0 ≤ l.mode ∧ l.mode ≤ 4095 ∧ l.data.length ≤ 16777216 ∧ (l.ty ≠ 1 → l.data = []) ∧ (l.ty ≠ 3 → l.tgt = ⟨#[]⟩) ∧ (l.ty = 3 → targetB l.tgt = true) := by
  unfold okL goodB at h
  rw [Bool.and_eq_true] at h
  obtain ⟨h1, h2⟩ := h
  simp only [Bool.not_eq_true', Bool.or_eq_false_iff, decide_eq_false_iff_not, Bool.and_eq_false_iff, Bool.not_eq_false', decide_eq_true_eq] at h1
  obtain ⟨⟨⟨a1, a2⟩, a3⟩, a4⟩ := h1
  have htg : ∀ t : ByteArray, t.data.toList = [] → t = ⟨#[]⟩ := fun t e => bs_ext e
  by_cases t1 : l.ty = 1
  · rw [if_pos (.inl t1)] at h2
    exact ⟨by omega, by omega, by omega, by omega, by omega, fun e => absurd t1 e, fun _ => htg _ (by simpa using h2), fun e => by omega⟩
  · have hd : l.data = [] := by
      rcases a3 with e | e
      · exact absurd e t1
      · exact List.eq_nil_of_length_eq_zero (by omega)
    by_cases t2 : l.ty = 2
    · rw [if_pos (.inr t2)] at h2
      exact ⟨by omega, by omega, by omega, by omega, by omega, fun _ => hd, fun _ => htg _ (by simpa using h2), fun e => by omega⟩
    · rw [if_neg (by omega)] at h2
      by_cases t3 : l.ty = 3
      · rw [if_pos t3] at h2
        exact ⟨by omega, by omega, by omega, by omega, by omega, fun _ => hd, fun e => absurd t3 e, fun _ => h2⟩
      · rw [if_neg t3] at h2; cases h2
/-! ### Names -/
theorem partsL_good (s : List UInt8) : ∀ w : List UInt8, (47 : UInt8) ∉ w → ∀ x ∈ partsL w s, okW x ∧ (47 : UInt8) ∉ x ∧ ((0 : UInt8) ∈ x → (0 : UInt8) ∈ w ++ s) := by
  induction s with
  | nil =>
    intro w hw x hx
    rw [partsL] at hx
    split at hx
    · rename_i h
      obtain rfl : x = w := by simpa using hx
      exact ⟨h, hw, fun h0 => by simpa using h0⟩
    · cases hx
  | cons c r ih =>
    intro w hw x hx
    rw [partsL] at hx
    split at hx
    · split at hx
      · rename_i h
        rcases List.mem_cons.mp hx with e | e
        · subst e; exact ⟨h, hw, fun h0 => by simp [h0]⟩
        · obtain ⟨h1, h2, h3⟩ := ih [] (by simp) x e
          exact ⟨h1, h2, fun h0 => by have := h3 h0; simp at this ⊢; exact .inr (.inr this)⟩
      · obtain ⟨h1, h2, h3⟩ := ih [] (by simp) x hx
        exact ⟨h1, h2, fun h0 => by have := h3 h0; simp at this ⊢; exact .inr (.inr this)⟩
    · rename_i hc
      obtain ⟨h1, h2, h3⟩ := ih (w ++ [c]) (by simp [hw]; exact fun e => hc e.symm) x hx
      exact ⟨h1, h2, fun h0 => by have := h3 h0; simp at this ⊢; exact this⟩
/-- a leaf's names, if its path may be -/
theorem namesP_good {s : List UInt8} {ns : List ByteArray} (h : namesP s = some ns) : s = pathL ns ∧ (∀ n ∈ ns, nameB n = true) ∧ ns.length ≤ 64 ∧ s.length ≤ 1023 := by
  unfold namesP at h
  split at h
  · rename_i hc
    injection h with h
    have h4 : (splitQ s).2 = 0 := by
      have := hc.1
      unfold cleanQ at this
      split at this
      · assumption
      · rename_i h5; exact absurd this h5
    obtain ⟨g1, g2, g3, g4, g5, g6⟩ := splitQ_good h4
    have hd : (splitQ s).1.dropWhile isUp = (splitQ s).1 := by
      have h5 := hc.2.2
      revert h5
      generalize (splitQ s).1 = l
      intro h5
      cases l with
      | nil => rfl
      | cons x r =>
        rw [List.any_cons, Bool.or_eq_false_iff] at h5
        rw [List.dropWhile_cons, h5.1]
        rfl
    have hs : s = pathL ns := by
      have h6 := hc.2.1
      unfold cleanQ at h6
      rw [if_pos h4, hd, h] at h6
      exact h6.symm
    refine ⟨hs, fun n hn => ?_, by rw [← h]; exact g4, g1⟩
    rw [← h] at hn
    have hup : isUp n = false := by
      have h5 := hc.2.2
      rw [List.any_eq_false] at h5
      simpa using h5 n hn
    have hsz := g5 n hn
    rw [g3] at hn
    obtain ⟨x, hx, rfl⟩ := List.mem_map.mp hn
    obtain ⟨k1, k2, k3⟩ := partsL_good s [] (by simp) x hx
    have hx0 : (0 : UInt8) ∉ x := fun e => g2 (by simpa using k3 e)
    have hu : x ≠ [46, 46] := by
      intro e
      rw [e] at hup
      simp [isUp, toB] at hup
    have hsz2 : (toB x).size = x.length := rfl
    have hd2 : (toB x).data.toList = x := rfl
    unfold nameB
    rw [hd2]
    have h1 : decide (1 ≤ (toB x).size ∧ (toB x).size ≤ 63) = true := by
      apply decide_eq_true
      refine ⟨?_, hsz⟩
      rw [hsz2]
      exact List.length_pos_iff.mpr k1.1
    have h2 : (x != [46]) = true := by simpa using k1.2
    have h3 : (x != [46, 46]) = true := by simpa using hu
    have h7 : noneOf x = true := by
      unfold noneOf
      rw [List.all_eq_true]
      intro c hc'
      have a1 : c ≠ 0 := fun e => hx0 (e ▸ hc')
      have a2 : c ≠ 47 := fun e => k2 (e ▸ hc')
      simp [a1, a2]
    rw [h1, h2, h3, h7]
    rfl
  · cases h
end Go.Proofs.YtlnaeppbhjmocaaDoor
set_option linter.unusedSimpArgs false
set_option linter.unusedVariables false
namespace Go.Proofs.YtlnaeppbhjmocaaDoor
open Go.RowKit Go.Proofs

/-- the invariant abides new blocks, draws, and what is stored into the blocks M -/
def Abide {β : Type} (M : Nat → Prop) (J : β → World → Prop) : Prop :=
  ∀ s A B row, J s A → A.grownBy B row → (∀ r, row = some r → M r) → J s B

/-- the iterator gives xs, one by one; Kp: what it asks of a round to keep -/
def Gives {α : Type} (F : Fence) (n : Nat) (P : Program) (g : Nat) (lb : Array Value) (encs : α → Array Value) (Kp : World → World → Prop) (M : Nat → Prop) (xs : List α) (w : World) : Prop :=
  ∀ (l : Nat) (J : List α → World → Prop) (W : World), w.grownBy W none → Abide M J →
    (∀ pre x post W1, xs = pre ++ x :: post → J pre W1 → YieldAt F (n - 1) P l (encs x) W1 fun e W' => e = .returned (.bool true) ∧ J (pre ++ [x]) W' ∧ Kp W1 W') →
    J [] W → CallsIn F n P g (#[.func (.yield l) #[] #[]] ++ lb) W fun e W' => (∃ v, e = .returned v) ∧ J xs W'

/-- how a round ends: normally -/
def roundOn {α : Type} (B : Nat) (Kp : World → World → Prop) (I : List α → World → Prop) (xs : List α) (W : World) : Exit → Act → World → Prop
  | .normal, _, W' => KeepsFrom B W W' ∧ Kp W W' ∧ I xs W'
  | _, _, _ => False

set_option maxHeartbeats 800000 in
theorem wp_range {F : Fence} {n : Nat} {P : Program} {α : Type} {g : Operand} {ps : Array Tmp} {assign body : Code} {Q : Exit → Act → World → Prop} {a : Act} {w : World}
    (hro : F.round = none) (h1 : 1 ≤ n) {gf : Nat} {lb : Array Value} (hg : a.eval g = .func (.func gf) #[] lb) (hFg : F.fn gf) (eg : ∀ args w, (callFunc gf args).run P w = .ok (.enter gf args) w)
    {encs : α → Array Value} {Kp : World → World → Prop} {M : Nat → Prop} {xs : List α} (hseq : Gives F (n - 1) P gf lb encs Kp M xs w)
    (hKt : ∀ {A B C : World}, Kp A B → Kp B C → Kp A C) (hKb : ∀ (W : World) (l : Nat) (o' : Obj), w.heap.size ≤ l → Kp W (W.putObj l o')) (hM : ∀ r, M r → r < w.heap.size) (hps : ∀ x, (encs x).size = ps.size)
    (I : List α → World → Prop) (hI : ∀ s A B row, I s A → A.grownBy B row → (∀ r, row = some r → M r ∨ (w.heap.size ≤ r ∧ ∃ o : Obj, A.heap[r]? = some o ∧ o.isCells = false)) → I s B) (h0 : I [] w)
    (Ax : α → Act → World → Prop) (hAx : ∀ x a' A B r, Ax x a' A → A.grownBy B (some r) → w.heap.size ≤ r → (∃ o : Obj, A.heap[r]? = some o ∧ o.isCells = false) → Ax x a' B)
    (hassign : ∀ (l : Nat) (pre : List α) (x : α) (W : World) (K : Act → World → Prop), I pre W → (∀ a' W', KeepsFrom w.heap.size W W' → Kp W W' → I pre W' → Ax x a' W' → K a' W') →
      assign.wpIn (F.inRound l) (n - 1 - 1) P (Exit.then K (fun _ _ _ => False)) { tmps := (ps.zip (encs x)).foldl (fun t (p, v) => t.setIfInBounds p v) a.tmps, defers := [] } W)
    (hbody : ∀ (l : Nat) (pre : List α) (x : α) (post : List α) (a' : Act) (W : World), xs = pre ++ x :: post → I pre W → Ax x a' W → body.wpIn (F.inRound l) (n - 1 - 1) P (roundOn w.heap.size Kp I (pre ++ [x]) W) a' W)
    (hdone : ∀ (D : Nat) (W : World), w.heap.size ≤ D → I xs W → W.heap[D]? = some (.deferred (some [])) → Q .normal { a with defers := { target := .collected D, args := #[] } :: a.defers } W) :
    (Code.rangeFunc g ps assign body).wpIn F n P Q a w := by
  have hIp : ∀ {s : List α} {W : World} {k : Nat} {o : Obj} (o' : Obj), I s W → w.heap.size ≤ k → W.heap[k]? = some o → o.isCells = false → I s (W.putObj k o') :=
    fun {s W k o} o' hs hk ho hc => hI s W _ (some k) hs (grownBy_putObj' W k o') (fun r e => by cases e; exact .inr ⟨hk, o, ho, hc⟩)
  have hIa : ∀ {s : List α} {W : World} (o : Obj), I s W → I s (W.alloc o) := fun {s W} o hs => hI s W _ none hs (World.grownBy_alloc W o none) (fun r e => by cases e)
  refine wpIn_rangeFunc ?_
  intro fn hfn
  rw [hro]
  obtain ⟨rec, hrec⟩ : ∃ rec : LoopState → Option Code → Loop, rec = fun st pe => { state := st, pending := pe, fn, tmps := a.tmps, params := ps, assign, body, defers := w.heap.size } := ⟨_, rfl⟩
  obtain ⟨W1, hW1⟩ : ∃ W1, (w.alloc (.deferred (some []))).alloc (.loop (rec .ready none)) = W1 := ⟨_, rfl⟩
  have hL1 : W1.heap[w.heap.size + 1]? = some (.loop (rec .ready none)) := by
    rw [← hW1]; have := World.alloc_heap_new (w.alloc (.deferred (some []))) (.loop (rec .ready none)); rwa [World.size_alloc] at this
  have hK1 : W1.heap[w.heap.size]? = some (.deferred (some [])) := by
    rw [← hW1]; exact (Below.heap_alloc _ _ _ (by simp)).trans (World.alloc_heap_new w _)
  have hI1 : I [] W1 := by rw [← hW1]; exact hIa _ (hIa _ h0)
  have hb1 : w.grownBy W1 none := by
    rw [← hW1]; exact grown_trans (World.grownBy_alloc w _ none) (World.grownBy_alloc _ _ none)
  refine ⟨w.heap.size + 1, [{ target := .collected w.heap.size, args := #[] }], W1, { target := .fn (.func gf) lb, args := #[.func (.yield (w.heap.size + 1)) #[] #[]] }, W1, gf,
    #[.func (.yield (w.heap.size + 1)) #[] #[]] ++ lb, W1, ?_, ?_, ?_, ?_, fun _ => h1, ?_⟩
  · rw [← hW1, hrec]; exact run_enterLoop_outer _ _ _ _ _
  · simp only [resolve, hg]
    simp [go_sem]
  · intro f' hf'; simp [Target.leads] at hf'; subst hf'; exact hFg
  · simp [invoke, go_sem, eg]
  · have far : ∀ {A B : World} {row : Option Nat} {k : Nat} {o : Obj}, A.grownBy B row → (∀ r, row = some r → M r) → w.heap.size ≤ k → A.heap[k]? = some o → B.heap[k]? = some o := fun {A B row k o} hg' hr hk ho =>
      (hg'.block k (Array.getElem?_eq_some_iff.1 ho).1 (fun e => by have := hM k (hr k e.symm); omega)).trans ho
    refine (hseq (w.heap.size + 1)
      (fun pre W => I pre W ∧ W.heap[w.heap.size + 1]? = some (.loop (rec .ready none)) ∧ W.heap[w.heap.size]? = some (.deferred (some [])))
      W1 hb1
      (fun s A B row hs hg' hr => ⟨hI s A B row hs.1 hg' (fun r e => .inl (hr r e)), far hg' hr (by omega) hs.2.1, far hg' hr (Nat.le_refl _) hs.2.2⟩)
      ?_ ⟨hI1, hL1, hK1⟩).mono ?_
    · rintro pre x post W hxs ⟨hi, hl, hk⟩
      have hlt : w.heap.size + 1 < W.heap.size := (Array.getElem?_eq_some_iff.1 hl).1
      have hy := run_yield (P := P) (args := encs x) hl (by rw [hrec]; exact hps x)
      rw [hrec] at hy
      refine ⟨fn, _, assign, body, hy, roundIn_of_wpIn hfn (hassign _ pre x W _ hi ?_)⟩
      clear hy
      intro a' Wa hkfa hkpa hia hax
      have hl' := hkfa.same _ _ (by omega) hl rfl
      have hk' := hkfa.same _ _ (Nat.le_refl _) hk rfl
      have hlt' : w.heap.size + 1 < Wa.heap.size := (Array.getElem?_eq_some_iff.1 hl').1
      refine ⟨_, run_beginRound hl' (by rw [hrec]), ?_⟩
      have hl2 : (Wa.putObj (w.heap.size + 1) (.loop { rec .ready none with state := .busy })).heap[w.heap.size + 1]? = some (.loop { rec .ready none with state := .busy }) := World.putObj_heap_same hlt'
      have hk2 : (Wa.putObj (w.heap.size + 1) (.loop { rec .ready none with state := .busy })).heap[w.heap.size]? = some (.deferred (some [])) := (World.putObj_heap_other (by omega)).trans hk'
      have hw2 : Kp Wa (Wa.putObj (w.heap.size + 1) (.loop { rec .ready none with state := .busy })) := hKb _ _ _ (by omega)
      refine wpIn_mono (hbody _ pre x post a' _ hxs (hIp _ hia (by omega) hl' rfl) (hAx x a' _ _ _ hax (grownBy_putObj' _ _ _) (by omega) ⟨_, hl', rfl⟩)) ?_
      rintro e a3 W3 hp
      cases e with
      | normal =>
        obtain ⟨hk3, hkp3, hi3⟩ := hp
        have hl3 := hk3.same _ _ (by omega) hl2 rfl
        have hr : (Instr.endRound (w.heap.size + 1) none).run P W3 = .ok (.bool true) (W3.putObj (w.heap.size + 1) (.loop (rec .ready none))) := by
          have := run_endRound (P := P) none hl3
          rw [hrec] at this ⊢; exact this
        exact ⟨_, _, hr, rfl, ⟨hIp _ hi3 (by omega) hl3 rfl, World.putObj_heap_same (Array.getElem?_eq_some_iff.1 hl3).1, (World.putObj_heap_other (by omega)).trans (hk3.same _ _ (Nat.le_refl _) hk2 rfl)⟩, hKt hkpa (hKt (hKt hw2 hkp3) (hKb _ _ _ (by omega)))⟩
      | ret => exact hp.elim
      | exit id => exact hp.elim
      | goto t => exact hp.elim
      | panic ch => exact hp.elim
      | outgrown => exact hp.elim
    · rintro e W2 ⟨⟨v, rfl⟩, hi, hl, hk⟩
      exact ⟨none, _, by have := run_endLoop (P := P) hl (by rw [hrec]; simp); rw [hrec] at this; exact this, hdone _ _ (Nat.le_refl _) (hIp _ hi (by omega) hl rfl) ((World.putObj_heap_other (by omega)).trans hk)⟩

/-- .. where the loop's variable lies in a box of its own -/
theorem wp_range_box {F : Fence} {n : Nat} {P : Program} {α : Type} {g : Operand} {p : Tmp} {assign body : Code} {Q : Exit → Act → World → Prop} {a : Act} {w : World}
    (s : Nat) (T : TypeId) (cf : α → Array Value)
    (hro : F.round = none) (h1 : 1 ≤ n) {gf : Nat} {lb : Array Value} (hg : a.eval g = .func (.func gf) #[] lb) (hFg : F.fn gf) (eg : ∀ args w, (callFunc gf args).run P w = .ok (.enter gf args) w)
    {enc : α → Value} {Kp : World → World → Prop} {M : Nat → Prop} {xs : List α} (hseq : Gives F (n - 1) P gf lb (fun x => #[enc x]) Kp M xs w)
    (hKt : ∀ {A B C : World}, Kp A B → Kp B C → Kp A C) (hKb : ∀ (W : World) (l : Nat) (o' : Obj), w.heap.size ≤ l → Kp W (W.putObj l o')) (hM : ∀ r, M r → r < w.heap.size)
    (I : List α → World → Prop) (hI : ∀ s A B row, I s A → A.grownBy B row → (∀ r, row = some r → M r ∨ (w.heap.size ≤ r ∧ ∃ o : Obj, A.heap[r]? = some o ∧ o.isCells = false)) → I s B) (h0 : I [] w)
    (hassign : ∀ (l : Nat) (pre : List α) (x : α) (W : World) (K : Act → World → Prop), I pre W →
      (∀ (gs : Nat) W', KeepsFrom w.heap.size W W' → Kp W W' → I pre W' → w.heap.size ≤ gs → W'.heap[gs]? = some (.cells (cf x) T (0, 0)) →
        K { tmps := (a.tmps.setIfInBounds p (enc x)).setIfInBounds s (.pointer (some ⟨gs, 0, none⟩)), defers := [] } W') →
      assign.wpIn (F.inRound l) (n - 1 - 1) P (Exit.then K (fun _ _ _ => False)) { tmps := a.tmps.setIfInBounds p (enc x), defers := [] } W)
    (hbody : ∀ (l : Nat) (pre : List α) (x : α) (post : List α) (gs : Nat) (W : World), xs = pre ++ x :: post → I pre W → w.heap.size ≤ gs → W.heap[gs]? = some (.cells (cf x) T (0, 0)) →
      body.wpIn (F.inRound l) (n - 1 - 1) P (roundOn w.heap.size Kp I (pre ++ [x]) W) { tmps := (a.tmps.setIfInBounds p (enc x)).setIfInBounds s (.pointer (some ⟨gs, 0, none⟩)), defers := [] } W)
    (hdone : ∀ (D : Nat) (W : World), w.heap.size ≤ D → I xs W → W.heap[D]? = some (.deferred (some [])) → Q .normal { a with defers := { target := .collected D, args := #[] } :: a.defers } W) :
    (Code.rangeFunc g #[p] assign body).wpIn F n P Q a w :=
  have hz : ∀ (v : Value) (t : Array Value), (#[p].zip #[v]).foldl (fun t (p, v) => t.setIfInBounds p v) t = t.setIfInBounds p v := fun v t => by simp
  wp_range hro h1 hg hFg eg hseq hKt hKb hM (fun _ => rfl) I hI h0
    (fun x a' W => ∃ gs, w.heap.size ≤ gs ∧ W.heap[gs]? = some (.cells (cf x) T (0, 0)) ∧ a' = { tmps := (a.tmps.setIfInBounds p (enc x)).setIfInBounds s (.pointer (some ⟨gs, 0, none⟩)), defers := [] })
    (by
      rintro x a' A B r ⟨gs, h1, h2, h3⟩ hG hr ⟨o, ho, hc⟩
      refine ⟨gs, h1, (hG.block gs (Array.getElem?_eq_some_iff.1 h2).1 (fun e => ?_)).trans h2, h3⟩
      injection e with e
      subst e
      rw [h2] at ho
      injection ho with ho
      subst ho
      cases hc)
    (fun l pre x W K hi hK => by
      rw [hz]
      exact hassign l pre x W K hi (fun gs W' k1 k2 k3 k4 k5 => hK _ _ k1 k2 k3 ⟨gs, k4, k5, rfl⟩))
    (fun l pre x post a' W hx hi ha => by
      obtain ⟨gs, h1, h2, rfl⟩ := ha
      exact hbody l pre x post gs W hx hi h1 h2)
    hdone
end Go.Proofs.YtlnaeppbhjmocaaDoor
set_option linter.unusedSimpArgs false
set_option linter.unusedVariables false
namespace Go.Proofs.YtlnaeppbhjmocaaDoor
open Go.RowKit Go.Proofs

theorem ish_trans {w w1 : World} {r r' r'' : Option Nat} (h : Ownish w r r') (hs : w.heap.size ≤ w1.heap.size) (k : Ownish w1 r' r'') : Ownish w r r'' := by
  rcases k with e | ⟨x, e, hx⟩
  · rw [e]; exact h
  · exact .inr ⟨x, e, by omega⟩
theorem strCells_I (s : ByteArray) : Lib.strCells s = (bytesI s).map (Value.int .u8) := by
  unfold Lib.strCells bytesI
  rw [List.map_map]
  rfl
set_option maxRecDepth 100000 in
theorem append_str (ty : TypeId) (B : Nat) (A : Option Addr) (c : Nat) (xs : List Int) (s : ByteArray) (w : World) (ho : OwnB w B (.slice A xs.length c) xs) (hl : xs.length + s.size ≤ 1099511627776) (hB : B ≤ w.heap.size) :
    ∃ v' w', (Builtin.append_ #[22, 9] ty #[.slice A xs.length c, .string s]).run Tryd.prog w = .ok v' w' ∧ OwnB w' B v' (xs ++ bytesI s) ∧ w.grownBy w' (Value.slice A xs.length c).ownBlock ∧ Ownish w (Value.slice A xs.length c).ownBlock v'.ownBlock := by
  obtain ⟨i, hi, hz, hs, hby⟩ := info_byte
  obtain ⟨v', w', hr, h2, h3, h4⟩ := Lib.run_append_own_string (P := Tryd.prog) w B 22 9 ty 5 i Tryd.underlying22 Tryd.underlying9 hi hz hs hby (.slice A xs.length c) xs.length (xs.map (Value.int .u8)) ho s (by unfold maxLen; omega) (by omega) hB
  refine ⟨v', w', hr, ?_, h3, ?_⟩
  · unfold OwnB
    rw [List.length_append, List.map_append, bytesI_length, ← strCells_I]
    exact h2
  · rcases ho.2 with ⟨hv, h0⟩ | ⟨g, cap, cur, hv, hbg, hg, hnc, hcm, hcs, htake⟩
    · by_cases hm : s.size = 0
      · left; rw [h4.2 ⟨hv, hm⟩, hv]
      · right
        injection hv with e1 e2 e3
        rw [e1, e2, e3] at hr
        have hr2 := run_append_nil_string (P := Tryd.prog) w 22 9 ty 5 i (.int .u8 0) Tryd.underlying22 Tryd.underlying9 hi hz s (by omega) (by omega) (by rw [hby]; omega)
        rw [hr2] at hr
        injection hr with e4 e5
        exact ⟨w.heap.size, by rw [← e4]; rfl, Nat.le_refl _⟩
    · injection hv with e1 e2 e3
      subst e1 e3
      by_cases hroom : xs.length + s.size ≤ c
      · left
        have hr2 := Lib.run_append_room_string (P := Tryd.prog) w 22 9 ty 5 i Tryd.underlying22 Tryd.underlying9 hi hs g xs.length c cur hg s hroom (by omega)
        rw [hr2] at hr
        injection hr with e4 e5
        rw [← e4]; rfl
      · right
        have holds : ∀ j u, (xs.map (Value.int .u8))[j]? = some u → w.cell? ((⟨g, 0, none⟩ : Addr).add j) = some u := World.ownsRow.cells ho (g := g) rfl
        have hr2 := Lib.run_append_grow_string (P := Tryd.prog) w 22 9 ty 5 i (.int .u8 0) Tryd.underlying22 Tryd.underlying9 hi hz ⟨g, 0, none⟩ xs.length c (xs.map (Value.int .u8)) (by rw [hs]; simp) holds s (by omega) (by omega) (by rw [hby]; exact growslice_fits (by omega) (by omega))
        rw [hr2] at hr
        injection hr with e4 e5
        exact ⟨w.heap.size, by rw [← e4]; rfl, Nat.le_refl _⟩
/-- append of bytes that lie somewhere -/
theorem append_row (ty : TypeId) (B : Nat) (A : Option Addr) (c : Nat) (xs ys : List Int) (a : Option Addr) (d : Nat) (w : World) (ho : OwnB w B (.slice A xs.length c) xs) (hA : BytesAt w a ys) (hn : a = none → d = 0) (hl : xs.length + ys.length ≤ 1099511627776) (hB : B ≤ w.heap.size) :
    ∃ v' w', (Builtin.append_ #[22, 22] ty #[.slice A xs.length c, .slice a ys.length d]).run Tryd.prog w = .ok v' w' ∧ OwnB w' B v' (xs ++ ys) ∧ w.grownBy w' (Value.slice A xs.length c).ownBlock ∧ Ownish w (Value.slice A xs.length c).ownBlock v'.ownBlock := by
  obtain ⟨i, hi, hz, hs, hby⟩ := info_byte
  obtain ⟨v', w', hr, h2, h3, h4⟩ := append_src Tryd.underlying22 hi hz hs hby rfl (by decide) ty ho a ys.length d (ys.map (Value.int .u8)) (bytes_src hA hn) (by simp) (map_one ys) (by unfold maxLen; omega) (by omega) hB
  refine ⟨v', w', hr, ?_, h3, ?_⟩
  · unfold OwnB
    rw [List.length_append, List.map_append]
    exact h2
  · rcases h4 with e | e
    · exact .inl e
    · exact .inr ⟨_, e, Nat.le_refl _⟩
/-- append of some bytes as they stand in the text -/
theorem append_lit (ty : TypeId) (B : Nat) (A : Option Addr) (c : Nat) (xs ys : List Int) (w : World) (ho : OwnB w B (.slice A xs.length c) xs) (hl : xs.length + ys.length ≤ 1099511627776) (hB : B ≤ w.heap.size) :
    ∃ w1 v' w', w.alloc (.cells ((ys.map (Value.int .u8)).toArray) 5) = w1 ∧ (Builtin.append_ #[22, 22] ty #[.slice A xs.length c, .slice (some ⟨w.heap.size, 0, none⟩) ys.length ys.length]).run Tryd.prog w1 = .ok v' w' ∧ OwnB w' B v' (xs ++ ys) ∧ w.grownBy w' (Value.slice A xs.length c).ownBlock ∧ Ownish w (Value.slice A xs.length c).ownBlock v'.ownBlock := by
  have hg : ∀ r, w.grownBy (w.alloc (.cells ((ys.map (Value.int .u8)).toArray) 5)) r := fun r => World.grownBy_alloc _ _ r
  have ho1 : OwnB (w.alloc (.cells ((ys.map (Value.int .u8)).toArray) 5)) B (.slice A xs.length c) xs := World.ownsRow.kept ho (hg none) (by cases (Value.slice A xs.length c).ownBlock <;> simp)
  have hA : BytesAt (w.alloc (.cells ((ys.map (Value.int .u8)).toArray) 5)) (some ⟨w.heap.size, 0, none⟩) ys := by
    refine .inr ⟨w.heap.size, 0, rfl, by simp, fun i x hx => ?_⟩
    rw [Nat.zero_add]
    exact blk_cell (World.alloc_heap_new w _) (by simp [hx])
  obtain ⟨v', w', hr, h2, h3, h4⟩ := append_row ty B A c xs ys (some ⟨w.heap.size, 0, none⟩) ys.length _ ho1 hA (fun e => by cases e) hl (by simp; omega)
  exact ⟨_, v', w', rfl, hr, h2, grown_trans (hg _) h3, ish_trans (.inl rfl) (by simp) h4⟩

/-- what a piece's writer holds: the row in its box, the leaf in another -/
structure PcS (w0 W : World) (B gb gl : Nat) (r0 : Option Nat) (cs : Array Value) (v : Value) (ys : List Int) : Prop where
  box : Boxed W gb 22 v
  own : OwnB W B v ys
  grown : w0.grownBy W r0
  ish : Ownish w0 r0 v.ownBlock
  leaf : W.heap[gl]? = some (.cells cs 45 (0, 0))
  hgb : w0.heap.size ≤ gb
  hgl : w0.heap.size ≤ gl
  ne : gl ≠ gb
theorem PcS.size {w0 W : World} {B gb gl : Nat} {r0 : Option Nat} {cs : Array Value} {v : Value} {ys : List Int} (h : PcS w0 W B gb gl r0 cs v ys) : w0.heap.size ≤ W.heap.size := h.grown.size
theorem PcS.form {w0 W : World} {B gb gl : Nat} {r0 : Option Nat} {cs : Array Value} {v : Value} {ys : List Int} (h : PcS w0 W B gb gl r0 cs v ys) : ∃ a d, v = .slice a ys.length d := h.own.form
/-- what the row's appends and new blocks leave -/
theorem PcS.keep {w0 W W1 : World} {B gb gl : Nat} {r0 : Option Nat} {cs : Array Value} {v : Value} {ys : List Int} (h : PcS w0 W B gb gl r0 cs v ys) (q : W.grownBy W1 v.ownBlock) : Boxed W1 gb 22 v ∧ W1.heap[gl]? = some (.cells cs 45 (0, 0)) ∧ w0.grownBy W1 r0 := by
  refine ⟨h.box.kept q (own_ne3 h.own h.box (by decide)), ?_, grown_ish h.grown q h.ish⟩
  exact (q.block gl (Array.getElem?_eq_some_iff.1 h.leaf).1 (own_ne3 h.own h.leaf (by decide))).trans h.leaf
theorem PcS.step {w0 W W1 : World} {B gb gl : Nat} {r0 : Option Nat} {cs : Array Value} {v v1 : Value} {ys zs : List Int} (h : PcS w0 W B gb gl r0 cs v ys) (q : W.grownBy W1 v.ownBlock) (O : OwnB W1 B v1 zs) (hi : Ownish W v.ownBlock v1.ownBlock) :
    ∃ W2, W1.setCell ⟨gb, 0, none⟩ v1 = W2 ∧ PcS w0 W2 B gb gl r0 cs v1 zs := by
  obtain ⟨k1, k2, k3⟩ := h.keep q
  have g2 := grownBy_setCell' W1 gb v1
  refine ⟨_, rfl, k1.set v1, ?_, grown_own k3 g2 (fun i e => by injection e with e; have := h.hgb; omega), ish_trans h.ish h.size hi, ?_, h.hgb, h.hgl, h.ne⟩
  · exact own_grown O g2 k1 (by decide)
  · exact (g2.block gl (Array.getElem?_eq_some_iff.1 k2).1 (fun e => by injection e with e; exact h.ne e)).trans k2
theorem PcS.more {w0 W W1 : World} {B gb gl : Nat} {r0 : Option Nat} {cs : Array Value} {v : Value} {ys : List Int} (h : PcS w0 W B gb gl r0 cs v ys) {row : Option Nat} (q : W.grownBy W1 row) (hn : ∀ r, row = some r → w0.heap.size ≤ r ∧ r ≠ gb ∧ r ≠ gl ∧ v.ownBlock ≠ some r) : PcS w0 W1 B gb gl r0 cs v ys := by
  refine ⟨h.box.kept q (fun e => (hn _ e.symm).2.1 rfl), World.ownsRow.kept h.own q ?_, grown_own h.grown q (fun i e => (hn i e).1), h.ish, ?_, h.hgb, h.hgl, h.ne⟩
  · cases hv : v.ownBlock with
    | none => exact .inl rfl
    | some r => exact .inr (fun e => (hn r e.symm).2.2.2 hv)
  · exact (q.block gl (Array.getElem?_eq_some_iff.1 h.leaf).1 (fun e => (hn _ e.symm).2.2.1 rfl)).trans h.leaf
/-- a step of the loop over an iterator leaves it -/
theorem PcS.walk {w0 W W1 : World} {B gb gl : Nat} {r0 : Option Nat} {cs : Array Value} {v : Value} {ys : List Int} (h : PcS w0 W B gb gl r0 cs v ys) {row : Option Nat} (q : W.grownBy W1 row) (hn : ∀ r, row = some r → w0.heap.size ≤ r ∧ ∃ o : Obj, W.heap[r]? = some o ∧ o.isCells = false) : PcS w0 W1 B gb gl r0 cs v ys := by
  refine h.more q (fun r e => ?_)
  obtain ⟨h1, o, ho, hc⟩ := hn r e
  refine ⟨h1, fun e2 => ?_, fun e2 => ?_, fun e2 => ?_⟩
  · subst e2
    have hb : W.heap[r]? = _ := h.box
    rw [hb] at ho; injection ho with ho; subst ho; cases hc
  · subst e2
    rw [h.leaf] at ho; injection ho with ho; subst ho; cases hc
  · rcases h.own.2 with ⟨rfl, _⟩ | ⟨g', cap, cur, rfl, _, hgb', _⟩
    · cases e2
    · have : g' = r := by simpa [Value.ownBlock] using e2
      subst this
      rw [hgb'] at ho; injection ho with ho; subst ho; cases hc
/-- what an append and a store leave of the iterator's blocks and of whatever is no cells -/
theorem PcS.turns {w0 W W1 : World} {B gb gl : Nat} {r0 : Option Nat} {cs : Array Value} {v : Value} {ys : List Int} (h : PcS w0 W B gb gl r0 cs v ys) (q : W.grownBy W1 v.ownBlock) (v1 : Value) (hB0 : 0 < B) (hBw : B ≤ w0.heap.size)
    {gi : Nat} {x : Value} (hi : Boxed W gi 22 x) (hne : gi ≠ gb) {da : Option Addr} (hdB : ∀ a, da = some a → a.block < B) (B0 : Nat) :
    KeepsFrom B0 W (W1.setCell ⟨gb, 0, none⟩ v1) ∧ (W1.setCell ⟨gb, 0, none⟩ v1).heap[0]? = W.heap[0]? ∧ (W1.setCell ⟨gb, 0, none⟩ v1).heap[gi]? = W.heap[gi]? ∧ ∀ a, da = some a → (W1.setCell ⟨gb, 0, none⟩ v1).heap[a.block]? = W.heap[a.block]? := by
  have g2 := grownBy_setCell' W1 gb v1
  have hgb := h.hgb
  have hsz := h.size
  have blk : ∀ k, k < W.heap.size → some k ≠ v.ownBlock → k ≠ gb → (W1.setCell ⟨gb, 0, none⟩ v1).heap[k]? = W.heap[k]? := fun k hk h1 h2 =>
    (g2.block k (Nat.lt_of_lt_of_le hk q.size) (fun e => h2 (by injection e))).trans (q.block k hk h1)
  have low : ∀ k, k < B → some k ≠ v.ownBlock := fun k hk e => by
    have := (World.ownsRow.lt h.own k e.symm).1
    omega
  refine ⟨?_, blk 0 (by omega) (low 0 hB0) (by omega), blk gi hi.lt (own_ne3 h.own hi (by decide)) hne, fun a e => blk a.block (by have := hdB a e; omega) (low _ (hdB a e)) (by have := hdB a e; omega)⟩
  refine KeepsOthers.from (KeepsOthers.trans (KeepsOthers.of_grownBy q (fun j o e ho => ?_)) (KeepsOthers.setCell _ _ _)) B0
  rcases h.own.2 with ⟨rfl, _⟩ | ⟨g', cap, cur, rfl, _, hgb', _⟩
  · cases e
  · have : g' = j := by simpa [Value.ownBlock] using e
    subst this
    rw [hgb'] at ho; injection ho with ho; subst ho; rfl
end Go.Proofs.YtlnaeppbhjmocaaDoor
set_option linter.unusedSimpArgs false
set_option linter.unusedVariables false
namespace Go.Proofs.YtlnaeppbhjmocaaDoor
open Go.RowKit Go.Proofs Go.Shelf
attribute [local go_sem] Oper.semAt_some

/-- the iterator's three variables, from block b on: the text that is left, the separator, what is kept of it -/
structure Sbox (W : World) (b : Nat) (s : List UInt8) : Prop where
  text : Boxed W b 9 (.string ⟨s.toArray⟩)
  sep : Boxed W (b + 1) 9 (.string ⟨#[47]⟩)
  save : Boxed W (b + 2) 3 (.int .i64 0)
/-- three blocks lie as they lay -/
def Keep3 (b : Nat) (W W' : World) : Prop := ∀ k, b ≤ k → k < b + 3 → W'.heap[k]? = W.heap[k]?
theorem Keep3.trans {b : Nat} {A B C : World} (h : Keep3 b A B) (k : Keep3 b B C) : Keep3 b A C := fun i h1 h2 => (k i h1 h2).trans (h i h1 h2)
theorem Keep3.refl (b : Nat) (A : World) : Keep3 b A A := fun _ _ _ => rfl
theorem Sbox.keep {W W' : World} {b : Nat} {s : List UInt8} (h : Sbox W b s) (k : Keep3 b W W') : Sbox W' b s :=
  ⟨(k b (by omega) (by omega)).trans h.text, (k (b + 1) (by omega) (by omega)).trans h.sep, (k (b + 2) (by omega) (by omega)).trans h.save⟩
theorem Sbox.set {W : World} {b : Nat} {s : List UInt8} (h : Sbox W b s) (t : List UInt8) : Sbox (W.setCell ⟨b, 0, none⟩ (.string ⟨t.toArray⟩)) b t :=
  ⟨h.text.set _, h.sep.other (by omega) _, h.save.other (by omega) _⟩
theorem Sbox.grown {W W' : World} {b : Nat} {s : List UInt8} (h : Sbox W b s) (g : W.grownBy W' none) : Sbox W' b s :=
  ⟨h.text.kept g (by simp), h.sep.kept g (by simp), h.save.kept g (by simp)⟩
/-- how much text is left, read off the world -/
def leftT (W : World) (b : Nat) : Nat := match W.cell? ⟨b, 0, none⟩ with
  | some (.string t) => t.size
  | _ => 0
theorem leftT_eq {W : World} {b : Nat} {s : List UInt8} (h : Sbox W b s) : leftT W b = s.length := by
  unfold leftT
  rw [h.text.cell]
  rfl
theorem cut_to (s : List UInt8) (o : Nat) : (⟨s.toArray⟩ : ByteArray).extract 0 o = ⟨(s.take o).toArray⟩ := by
  apply ByteArray.ext
  rw [ByteArray.data_extract]
  simp
theorem cut_from (s : List UInt8) (o : Nat) (h : o ≤ s.length) : (⟨s.toArray⟩ : ByteArray).extract o s.length = ⟨(s.drop o).toArray⟩ := by
  apply ByteArray.ext
  rw [ByteArray.data_extract]
  simp [List.take_of_length_le]

set_option maxRecDepth 100000 in
set_option maxHeartbeats 3200000 in
theorem splitC_gives (n b : Nat) (hn : 2 ≤ n) (s : List UInt8) (hs : s.length ≤ 1048576) (w : World) (h : Sbox w b s) :
    Gives Fence.wide n Tryd.prog 107 #[.pointer (some ⟨b + 1, 0, none⟩), .pointer (some ⟨b, 0, none⟩), .pointer (some ⟨b + 2, 0, none⟩)] (fun x : List UInt8 => #[.string ⟨x.toArray⟩]) (Keep3 b) (fun r => r = b) (cutsL [] s) w := by
  intro l J W hW hJ hY h0
  have hB := h.grown hW
  have hro : Fence.wide.round = none := rfl
  have h1 : 1 ≤ n := by omega
  have hf : Fence.wide.fn 99 := trivial
  refine callsIn_of_wp Tryd.func107 rfl trivial ?_ hro
  simp only [Tryd.ntmps107, List.size_toArray, List.length_cons, List.length_nil, Nat.reduceAdd, Nat.reduceSub, Array.replicate_succ, Array.replicate_zero, List.push_toArray, List.append_toArray, List.nil_append, List.cons_append]
  have c0 := hB.text.cell
  have c1 := hB.sep.cell
  have c2 := hB.save.cell
  gi_wp2
  gi_loopw [] (fun wr => ∃ (pre : List (List UInt8)) (t : List UInt8), Hid (Sbox wr b t) ∧ Hid (cutsL [] s = pre ++ cutsL [] t) ∧ t.length ≤ 1048576 ∧ Hid (J pre wr)) (fun wr => leftT wr b)
  case atStart => exact ⟨[], s, Lib.hid hB, Lib.hid rfl, hs, Lib.hid h0⟩
  case round =>
    obtain ⟨pre, t, HS, HC, ht, HJ⟩ := hrel
    have c0 := HS.out.text.cell
    have c1 := HS.out.sep.cell
    have c2 := HS.out.save.cell
    rcases ix_or t with hx | ⟨o, hx⟩
    · have CI : ∀ W, Calls Tryd.prog 99 #[.string ⟨t.toArray⟩, .string ⟨#[47]⟩] W fun e w' => e = .returned (.int .i64 (-1)) ∧ w' = W := fun W => by
        have h := Tryd.strings_Index_one ⟨t.toArray⟩ 47 W
        rwa [show (⟨t.toArray⟩ : ByteArray).data.toList = t from by simp, hx] at h
      have hcut := HC.out
      rw [cuts_ix_no hx] at hcut
      obtain ⟨fn, tmps, assign, body, hy, hR⟩ := hY pre t [] wr hcut HJ.out
      clear hY
      gi_wp2_with (gi_at_call 99; refine (callsIn_wide.2 (CI _)).mono ?_; rintro e wq ⟨rfl, rfl⟩)
      refine hR.mono ?_
      rintro e W' ⟨rfl, hJ', hk⟩
      gi_wp2
      go_end0
      refine ⟨⟨_, rfl⟩, ?_⟩
      rw [hcut]
      exact hJ'
    · have ho := (ix_at hx).1
      have CI : ∀ W, Calls Tryd.prog 99 #[.string ⟨t.toArray⟩, .string ⟨#[47]⟩] W fun e w' => e = .returned (.int .i64 (o : Int)) ∧ w' = W := fun W => by
        have h := Tryd.strings_Index_one ⟨t.toArray⟩ 47 W
        rwa [show (⟨t.toArray⟩ : ByteArray).data.toList = t from by simp, hx] at h
      have hcut := HC.out
      rw [cuts_ix hx] at hcut
      obtain ⟨fn, tmps, assign, body, hy, hR⟩ := hY pre (t.take o) (cutsL [] (t.drop (o + 1))) wr hcut HJ.out
      clear hY
      have hw0 : IntKind.i64.wrap ((o : Int) + 0) = (o : Int) := by rw [Int.add_zero]; exact IntWalk.i64_in _ ⟨by omega, by omega⟩
      have hw1 : IntKind.i64.wrap ((o : Int) + 1) = ((o + 1 : Nat) : Int) := by rw [IntWalk.i64_in _ ⟨by omega, by omega⟩]; omega
      have hl1 : (0 : Int) ≤ (o : Int) := by omega
      have hl2 : (o : Int) ≤ (t.length : Int) := by omega
      have hl3 : (0 : Int) ≤ ((o + 1 : Nat) : Int) := by omega
      have hl4 : ((o + 1 : Nat) : Int) ≤ (t.length : Int) := by omega
      have hct := cut_to t o
      have hcf := cut_from t (o + 1) (by omega)
      gi_wp2_with (gi_at_call 99; refine (callsIn_wide.2 (CI _)).mono ?_; rintro e wq ⟨rfl, rfl⟩)
      refine hR.mono ?_
      rintro e W' ⟨rfl, hJ', hk⟩
      have HS' := HS.out.keep hk
      replace c0 := HS'.text.cell
      replace c1 := HS'.sep.cell
      have z0 := HS'.text.frozen
      gi_wp2
      go_roundw
      case rel => exact ⟨pre ++ [t.take o], t.drop (o + 1), Lib.hid (HS'.set _), Lib.hid (by rw [List.append_assoc]; exact hcut), by rw [List.length_drop]; omega, Lib.hid (hJ _ _ _ (some b) hJ' (grownBy_setCell' W' b _) (fun r e => by cases e; rfl))⟩
      case measure =>
        rw [leftT_eq (HS'.set _), leftT_eq HS.out, List.length_drop]
        omega

set_option maxRecDepth 100000 in
theorem splitSeq_any (s : List UInt8) (w : World) :
    Calls Tryd.prog 90 #[.string ⟨s.toArray⟩, .string ⟨#[47]⟩] w fun e w' => e = .returned (.func (.func 107) #[] #[.pointer (some ⟨w.heap.size + 1, 0, none⟩), .pointer (some ⟨w.heap.size, 0, none⟩), .pointer (some ⟨w.heap.size + 2, 0, none⟩)]) ∧ w.grownBy w' none ∧ w'.heap.size = w.heap.size + 3 ∧ Sbox w' w.heap.size s := by
  obtain ⟨g, hg⟩ : ∃ g, w.heap.size = g := ⟨_, rfl⟩
  obtain ⟨w1, hw1⟩ : ∃ w1, w.alloc (.cells #[.string ⟨s.toArray⟩] 9) = w1 := ⟨_, rfl⟩
  obtain ⟨w2, hw2⟩ : ∃ w2, w1.alloc (.cells #[.string ⟨#[47]⟩] 9) = w2 := ⟨_, rfl⟩
  obtain ⟨w3, hw3⟩ : ∃ w3, w2.alloc (.cells #[.int .i64 0] 3) = w3 := ⟨_, rfl⟩
  have hg1 : w1.heap.size = g + 1 := by rw [← hw1]; simp [hg]
  have hg2 : w2.heap.size = g + 2 := by rw [← hw2]; simp [hg1]
  have hg3 : w3.heap.size = g + 3 := by rw [← hw3]; simp [hg2]
  have G1 : w.grownBy w1 none := by rw [← hw1]; exact World.grownBy_alloc _ _ none
  have G2 : w1.grownBy w2 none := by rw [← hw2]; exact World.grownBy_alloc _ _ none
  have G3 : w2.grownBy w3 none := by rw [← hw3]; exact World.grownBy_alloc _ _ none
  have B1 : Boxed w1 g 9 (.string ⟨s.toArray⟩) := by rw [← hw1, ← hg]; exact Boxed.new _ _ _
  have B2 : Boxed w2 (g + 1) 9 (.string ⟨#[47]⟩) := by rw [← hw2, ← hg1]; exact Boxed.new _ _ _
  have B3 : Boxed w3 (g + 2) 3 (.int .i64 0) := by rw [← hw3, ← hg2]; exact Boxed.new _ _ _
  have HF := Lib.hid (And.intro (grown_trans (grown_trans G1 G2) G3) (And.intro hg3 (Sbox.mk ((B1.kept G2 (by simp)).kept G3 (by simp)) (B2.kept G3 (by simp)) B3)))
  clear G1 G2 G3 B1 B2 B3
  have CS : Calls Tryd.prog 100 #[.string ⟨s.toArray⟩, .string ⟨#[47]⟩, .int .i64 0] w fun e w' => e = .returned (.func (.func 107) #[] #[.pointer (some ⟨g + 1, 0, none⟩), .pointer (some ⟨g, 0, none⟩), .pointer (some ⟨g + 2, 0, none⟩)]) ∧ w' = w3 := by
    go_enter Tryd.func100, Tryd.ntmps100
    go_wp2_with fail
    exact ⟨rfl, _, results_tmp rfl _ _ _, rfl, rfl⟩
  go_enter Tryd.func90, Tryd.ntmps90
  go_wp2_with (first
    | (go_at_call 100; refine CS.mono ?_; rintro e wq ⟨rfl, rfl⟩))
  exact ⟨rfl, _, results_tmp rfl _ _ _, by rw [hg]; rfl, by rw [hg]; exact HF.out⟩
end Go.Proofs.YtlnaeppbhjmocaaDoor
set_option linter.unusedSimpArgs false
set_option linter.unusedVariables false
namespace Go.Proofs.YtlnaeppbhjmocaaDoor
open Go.RowKit Go.Proofs Go.Shelf
attribute [local go_sem] Oper.semAt_some

theorem ok_keep {W W' : World} (h : Ok W) (k : W'.heap[0]? = W.heap[0]?) : Ok W' := by
  refine ⟨?_⟩
  have := h.fours
  unfold World.var? at this ⊢
  rw [gFours] at this ⊢
  simp only [Option.bind_some] at this ⊢
  rw [k]; exact this
/-- a round keeps the tables, the iterator's variable and the data's block -/
def KeepD (b : Nat) (A : Option Addr) (W W' : World) : Prop := W'.heap[0]? = W.heap[0]? ∧ W'.heap[b]? = W.heap[b]? ∧ ∀ a, A = some a → W'.heap[a.block]? = W.heap[a.block]?
theorem KeepD.trans {b : Nat} {A : Option Addr} {X Y Z : World} (h : KeepD b A X Y) (k : KeepD b A Y Z) : KeepD b A X Z := ⟨k.1.trans h.1, k.2.1.trans h.2.1, fun a e => (k.2.2 a e).trans (h.2.2 a e)⟩
theorem cell_same {W W' : World} {g : Nat} (h : W'.heap[g]? = W.heap[g]?) (o : Nat) : W'.cell? ⟨g, o, none⟩ = W.cell? ⟨g, o, none⟩ := by
  unfold World.cell?
  simp only [h]
/-- where the data lie, if there are any -/
def datA (L : List Int) (A : Option Addr) : Option Addr := if L = [] then none else A
theorem BytesAt.keepD {b : Nat} {A : Option Addr} {L : List Int} {W W' : World} (h : BytesAt W A L) (k : KeepD b (datA L A) W W') : BytesAt W' A L := by
  by_cases hL : L = []
  · exact .inl hL
  · unfold datA at k
    rw [if_neg hL] at k
    rcases h with h | ⟨g, o, hA, hg, h⟩
    · exact .inl h
    · have hk := k.2.2 _ hA
      refine .inr ⟨g, o, hA, ?_, fun i x hx => (cell_same hk _).trans (h i x hx)⟩
      rw [Array.getElem?_eq_getElem hg] at hk
      exact (Array.getElem?_eq_some_iff.1 hk).1
theorem fr_none {W W' : World} (q : Fr W W') : W.grownBy W' none := ⟨q.below.os, q.below.tape, q.below.output, q.below.size, fun k hk _ => q.below.block k hk⟩

set_option maxRecDepth 100000 in
set_option maxHeartbeats 3200000 in
theorem stretC_gives (n b : Nat) (hn : 2 ≤ n) (A : Option Addr) (c : Nat) (L : List Int) (hc : L.length ≤ c) (hL : L.length ≤ 1073741824) (w : World) (hw : Ok w) (h : Boxed w b 22 (.slice A L.length c)) (hA : BytesAt w A L) :
    Gives Fence.wide n Tryd.prog 78 #[.pointer (some ⟨b, 0, none⟩)] (fun x : Nat × Nat × Nat => #[.agg #[.int .i64 x.1, .int .i64 x.2.1, .int .i64 x.2.2]]) (KeepD b (datA L A)) (fun _ => False) (stretX L) w := by
  intro l J W hW hJ hY h0
  have hro : Fence.wide.round = none := rfl
  have h1 : 1 ≤ n := by omega
  have hf : Fence.wide.fn 79 := trivial
  refine callsIn_of_wp Tryd.func78 rfl trivial ?_ hro
  simp only [Tryd.ntmps78, List.size_toArray, List.length_cons, List.length_nil, Nat.reduceAdd, Nat.reduceSub, Array.replicate_succ, Array.replicate_zero, List.push_toArray, List.append_toArray, List.nil_append, List.cons_append]
  gi_wp2
  gi_loopw [3] (fun p wr => ∃ (pre : List (Nat × Nat × Nat)) (i : Nat), p = .int .i64 i ∧ i ≤ L.length ∧ Hid (Boxed wr b 22 (.slice A L.length c)) ∧ Hid (BytesAt wr A L) ∧ Hid (Ok wr) ∧ Hid (stretX L = pre ++ stretS L L.length i) ∧ Hid (J pre wr)) (fun p wr => L.length - (intOf p).toNat)
  case atStart => exact ⟨[], 0, rfl, Nat.zero_le _, Lib.hid (h.kept hW (by simp)), Lib.hid (hA.grown hW (fun a e => by simp)), Lib.hid (Ok.below hw ⟨hW.os, hW.tape, hW.output, hW.size, fun k hk => hW.block k hk (by simp)⟩), Lib.hid rfl, Lib.hid h0⟩
  case round =>
    obtain ⟨pre, i, rfl, hi, HB, HA, HO, HC, HJ⟩ := hrel
    have c0 := HB.out.cell
    by_cases hlt : i < L.length
    · have d0 : (i : Int) < (L.length : Int) := by omega
      have hbd := nhL_bounds (L.drop i) 0 i (by omega)
      have hb5 := hbd.2.2.2.2 (by omega) (fun e => by have := congrArg List.length e; simp at this; omega)
      have hnx := nextHole_val A c L i hi hc hL wr HO.out HA.out
      obtain ⟨L', hL'⟩ : ∃ m, L.length = m + 1 := ⟨L.length - 1, by omega⟩
      have hst := HC.out
      rw [hL', stretS, if_pos hlt] at hst
      obtain ⟨⟨f, t⟩, hft⟩ : ∃ q, nhL (L.drop i) 0 i = q := ⟨_, rfl⟩
      rw [hft] at hbd hb5 hnx hst
      rw [stretS_more L L' L.length t (by dsimp only at hb5; omega) (by omega)] at hst
      dsimp only at hbd hb5 hnx hst
      rw [List.length_drop] at hbd
      have HST := Lib.hid hst
      have HNX := Lib.hid hnx
      obtain ⟨m1, hm1⟩ : ∃ m, f - i = m := ⟨_, rfl⟩
      obtain ⟨m2, hm2⟩ : ∃ m, t - f = m := ⟨_, rfl⟩
      have hw1 : IntKind.i64.wrap ((f : Int) - (i : Int)) = (m1 : Int) := by rw [IntWalk.i64_in _ ⟨by omega, by omega⟩]; omega
      have hw2 : IntKind.i64.wrap ((t : Int) - (f : Int)) = (m2 : Int) := by rw [IntWalk.i64_in _ ⟨by omega, by omega⟩]; omega
      have HBD := Lib.hid (And.intro hbd hb5)
      have HM := Lib.hid (And.intro hm1 hm2)
      clear hst hnx hft hm1 hm2 hbd hb5 c0 hL'
      have c0 := HB.out.cell
      have HY := Lib.hid hY
      clear hY
      have d3 : ∀ W', wr.grownBy W' none → J pre W' := fun W' g => hJ _ _ _ none HJ.out g (fun r e => by cases e)
      have HJ2 := Lib.hid d3
      clear d3
      by_cases hif : i < f
      · have d1 : (i : Int) < (f : Int) := by omega
        by_cases hft : f < t
        · have d2 : (f : Int) < (t : Int) := by omega
          have hst := HST.out
          rw [if_pos hif, if_pos hft, List.singleton_append, List.singleton_append, HM.out.1, HM.out.2] at hst
          have HS2 := Lib.hid hst
          clear hst HM
          gi_wp2_with (gi_at_call 79; refine (callsIn_wide.2 HNX.out).mono ?_; rintro e wq ⟨rfl, q⟩; go_loud (obtain ⟨fn, tmps, assign, body, hy, hR⟩ := HY.out pre (1, i, m1) _ wq HS2.out (HJ2.out _ (fr_none q))); dsimp only at hy; rw [show ((1 : Nat) : Int) = 1 from rfl] at hy)
          refine hR.mono ?_
          rintro e W1 ⟨rfl, hJ1, hk⟩
          clear hy
          obtain ⟨fn, tmps, assign, body, hy, hR⟩ := HY.out (pre ++ [(1, i, m1)]) (0, f, m2) _ W1 (by simp only [List.append_assoc, List.cons_append, List.nil_append]; exact HS2.out) hJ1
          dsimp only at hy
          rw [show ((0 : Nat) : Int) = 0 from rfl] at hy
          gi_wp2
          refine hR.mono ?_
          rintro e W2 ⟨rfl, hJ2, hk2⟩
          clear hy
          replace hk := hk.trans hk2
          have hB1 := hk.2.1.trans (HB.out.kept (fr_none q) (by simp))
          have hA1 := (HA.out.fr q).keepD hk
          have hO1 := ok_keep q.ok hk.1
          gi_wp2
          go_roundw
          case rel => exact ⟨pre ++ [(1, i, m1)] ++ [(0, f, m2)], t, rfl, by have := HBD.out; omega, Lib.hid (hB1), Lib.hid (hA1), Lib.hid (hO1), Lib.hid (by simp only [List.append_assoc, List.cons_append, List.nil_append]; exact HS2.out), Lib.hid hJ2⟩
          case measure => have := HBD.out; simp only [intOf, Int.toNat_natCast]; omega
        · have d2 : (t : Int) ≤ (f : Int) := by omega
          have hst := HST.out
          rw [if_pos hif, if_neg hft, List.singleton_append, List.nil_append, HM.out.1] at hst
          have HS2 := Lib.hid hst
          clear hst HM
          gi_wp2_with (gi_at_call 79; refine (callsIn_wide.2 HNX.out).mono ?_; rintro e wq ⟨rfl, q⟩; go_loud (obtain ⟨fn, tmps, assign, body, hy, hR⟩ := HY.out pre (1, i, m1) _ wq HS2.out (HJ2.out _ (fr_none q))); dsimp only at hy; rw [show ((1 : Nat) : Int) = 1 from rfl] at hy)
          refine hR.mono ?_
          rintro e W1 ⟨rfl, hJ2, hk⟩
          clear hy
          have hB1 := hk.2.1.trans (HB.out.kept (fr_none q) (by simp))
          have hA1 := (HA.out.fr q).keepD hk
          have hO1 := ok_keep q.ok hk.1
          gi_wp2_with (with_reducible refine ⟨fun _ h => (by cases h), ?_⟩)
          go_roundw
          case rel => exact ⟨pre ++ [(1, i, m1)], t, rfl, by have := HBD.out; omega, Lib.hid (hB1), Lib.hid (hA1), Lib.hid (hO1), Lib.hid (by simp only [List.append_assoc, List.cons_append, List.nil_append]; exact HS2.out), Lib.hid hJ2⟩
          case measure => have := HBD.out; simp only [intOf, Int.toNat_natCast]; omega
      · have d1 : (f : Int) ≤ (i : Int) := by omega
        have hft : f < t := by have := HBD.out; omega
        have d2 : (f : Int) < (t : Int) := by omega
        have hst := HST.out
        rw [if_neg hif, if_pos hft, List.nil_append, List.singleton_append, HM.out.2] at hst
        have HS2 := Lib.hid hst
        clear hst HM
        gi_wp2_with (first | (gi_at_call 79; refine (callsIn_wide.2 HNX.out).mono ?_; rintro e wq ⟨rfl, q⟩; go_loud (obtain ⟨fn, tmps, assign, body, hy, hR⟩ := HY.out pre (0, f, m2) _ wq HS2.out (HJ2.out _ (fr_none q))); dsimp only at hy; rw [show ((0 : Nat) : Int) = 0 from rfl] at hy) | (with_reducible refine ⟨fun _ h => (by cases h), ?_⟩))
        refine hR.mono ?_
        rintro e W1 ⟨rfl, hJ2, hk⟩
        clear hy
        have hB1 := hk.2.1.trans (HB.out.kept (fr_none q) (by simp))
        have hA1 := (HA.out.fr q).keepD hk
        have hO1 := ok_keep q.ok hk.1
        gi_wp2
        go_roundw
        case rel => exact ⟨pre ++ [(0, f, m2)], t, rfl, by have := HBD.out; omega, Lib.hid (hB1), Lib.hid (hA1), Lib.hid (hO1), Lib.hid (by simp only [List.append_assoc, List.cons_append, List.nil_append]; exact HS2.out), Lib.hid hJ2⟩
        case measure => have := HBD.out; simp only [intOf, Int.toNat_natCast]; omega
    · have d0 : (L.length : Int) ≤ (i : Int) := by omega
      have hst := HC.out
      rw [stretS_more L L.length 0 i (by omega) (by omega), stretS, List.append_nil] at hst
      gi_wp2
      go_end0
      exact ⟨⟨_, rfl⟩, by rw [hst]; exact HJ.out⟩

set_option maxRecDepth 100000 in
theorem stretches_any (A : Option Addr) (n c : Nat) (w : World) :
    Calls Tryd.prog 65 #[.slice A n c] w fun e w' => e = .returned (.func (.func 78) #[] #[.pointer (some ⟨w.heap.size, 0, none⟩)]) ∧ w' = w.alloc (.cells #[.slice A n c] 22) := by
  obtain ⟨g, hg⟩ : ∃ g, w.heap.size = g := ⟨_, rfl⟩
  obtain ⟨w1, hw1⟩ : ∃ w1, w.alloc (.cells #[.slice A n c] 22) = w1 := ⟨_, rfl⟩
  rw [hw1, hg]
  go_enter Tryd.func65, Tryd.ntmps65
  go_wp2_with fail
  exact ⟨rfl, _, results_tmp rfl _ _ _, rfl, rfl⟩
end Go.Proofs.YtlnaeppbhjmocaaDoor
set_option linter.unusedSimpArgs false
set_option linter.unusedVariables false
namespace Go.Proofs.YtlnaeppbhjmocaaDoor
open Go.RowKit Go.Proofs

theorem long_any (x : ByteArray) (w : World) : Calls Tryd.prog 92 #[.string x] w fun e w' => e = .returned (.bool (decide ((x.size : Int) > 63))) ∧ w' = w := by
  go_enter Tryd.func92, Tryd.ntmps92
  go_wp2_with fail
  go_ret
  exact ⟨rfl, rfl⟩

set_option maxHeartbeats 1600000 in
set_option maxRecDepth 100000 in
theorem indexFunc_any (A : Option Addr) (c : Nat) (l : List ByteArray) (hl : l.length ≤ 1048577) (w : World) (hR : SRow w A l) :
    Calls Tryd.prog 101 #[.slice A l.length c, .func (.func 92) #[] #[]] w fun e w' => ∃ i : Int, e = .returned (.int .i64 i) ∧ (decide (i ≥ 0) = l.any fun x => decide (63 < x.size)) ∧ w' = w := by
  have HR := Lib.hid hR
  clear hR
  go_enter Tryd.func101, Tryd.ntmps101
  go_wp2_with fail
  go_loopg [8] l.length (fun k v8 wc => ∃ i : Nat, i + k = l.length ∧ v8 = .int .i64 i ∧ wc = w ∧ Hid (∀ j (h : j < l.length), j < i → l[j].size ≤ 63))
  case atStart => exact ⟨0, by omega, rfl, rfl, Lib.hid (fun j h hj => by omega)⟩
  case round =>
    obtain ⟨i, hik, rfl, rfl, HN⟩ := hrel
    cases gk with
    | zero =>
      obtain rfl : i = l.length := by omega
      go_wp2_with fail
      go_ret
      refine ⟨-1, rfl, ?_, rfl⟩
      have : (l.any fun x => decide (63 < x.size)) = false := by
        rw [List.any_eq_false]
        intro x hx
        obtain ⟨j, hj, rfl⟩ := List.mem_iff_getElem.mp hx
        have := HN.out j hj hj
        simp; omega
      rw [this]
      rfl
    | succ k =>
      have hi : i < l.length := by omega
      obtain ⟨g, rfl, hc⟩ := HR.out i hi
      obtain ⟨x, hx⟩ : ∃ x, l[i] = x := ⟨_, rfl⟩
      rw [hx] at hc
      obtain ⟨bb, hbb⟩ : ∃ b, decide ((x.size : Int) > 63) = b := ⟨_, rfl⟩
      have CL : Calls Tryd.prog 92 #[.string x] wr fun e w' => e = .returned (.bool bb) ∧ w' = wr := by rw [← hbb]; exact long_any x wr
      have HB := Lib.hid hbb
      have HX := Lib.hid hx
      clear hbb hx
      have d0 : (0 : Int) ≤ (i : Int) := by omega
      have d1 : (i : Int) < (l.length : Int) := by omega
      cases bb with
      | true =>
        go_wp2_with (first
          | (go_at_call 92; refine CL.mono ?_; rintro e wq ⟨rfl, rfl⟩))
        go_ret
        refine ⟨i, rfl, ?_, rfl⟩
        have : (l.any fun x => decide (63 < x.size)) = true := by
          rw [List.any_eq_true]
          refine ⟨x, by rw [← HX.out]; exact List.getElem_mem _, ?_⟩
          have := of_decide_eq_true HB.out
          simp; omega
        rw [this]
        simp
      | false =>
        go_wp2_with (first
          | (go_at_call 92; refine CL.mono ?_; rintro e wq ⟨rfl, rfl⟩))
        go_roundg k
        case measure => omega
        case rel =>
          refine ⟨i + 1, by omega, by go_num, rfl, Lib.hid fun j hj hji => ?_⟩
          by_cases h : j = i
          · subst h
            have := of_decide_eq_false HB.out
            rw [HX.out]
            omega
          · exact HN.out j hj (by omega)

theorem contains_any (A : Option Addr) (c : Nat) (l : List ByteArray) (hl : l.length ≤ 1048577) (w : World) (hR : SRow w A l) :
    Calls Tryd.prog 91 #[.slice A l.length c, .func (.func 92) #[] #[]] w fun e w' => e = .returned (.bool (l.any fun x => decide (63 < x.size))) ∧ w' = w := by
  obtain ⟨bb, hbb⟩ : ∃ b, (l.any fun x => decide (63 < x.size)) = b := ⟨_, rfl⟩
  have CI := indexFunc_any A c l hl w hR
  rw [hbb] at CI ⊢
  go_enter Tryd.func91, Tryd.ntmps91
  go_wp2_with (first
    | (go_at_call 101; refine CI.mono ?_; rintro e wq ⟨i, rfl, hb, rfl⟩))
  go_ret
  exact ⟨rfl, rfl⟩
end Go.Proofs.YtlnaeppbhjmocaaDoor
set_option linter.unusedSimpArgs false
set_option linter.unusedVariables false
namespace Go.Proofs.YtlnaeppbhjmocaaDoor
open Go.RowKit Go.Proofs Go.Shelf
attribute [local go_sem] Oper.semAt_some

theorem infoString : (Tryd.prog.info? 9).map (fun i => (i.zero, i.size, i.bytes)) = some (some (.string ⟨#[]⟩), 1, 16) := by kernel_rfl
/-- behind 'out = append(out, ..)', out's box lying below the row's base -/
theorem box_appended {W w1 : World} {n₀ B : Nat} {t e : TypeId} {size : Nat} {v v' : Value} {k m : Nat} {xs ys : List Value} {tmp : Obj}
    (hv : Boxed W B t v) (hrow : W.ownsRow n₀ e size v k xs) (hn₀ : n₀ ≤ W.heap.size) (hB : B < n₀)
    (hown' : w1.ownsRow n₀ e size v' m ys) (hgrow : (W.alloc tmp).grownBy w1 v.ownBlock) :
    Boxed w1 B t v ∧ Boxed (w1.setCell ⟨B, 0, none⟩ v') B t v' ∧ (w1.setCell ⟨B, 0, none⟩ v').ownsRow n₀ e size v' m ys ∧ KeepsOthers W (w1.setCell ⟨B, 0, none⟩ v') ∧ (∀ b, b ≤ B → b ≤ W.heap.size → W.grownBy w1 v.ownBlock ∧ (∀ k, v.ownBlock = some k → b ≤ k)) ∧ ∀ k, k < n₀ → k ≠ B → (w1.setCell ⟨B, 0, none⟩ v').heap[k]? = W.heap[k]? := by
  have hlt : ∀ k, v.ownBlock = some k → n₀ ≤ k := fun k e => (World.ownsRow.lt hrow k e).1
  have hlt' : ∀ k, v'.ownBlock = some k → n₀ ≤ k := fun k e => (World.ownsRow.lt hown' k e).1
  have hv1 : Boxed w1 B t v := (hv.alloc tmp).kept hgrow (fun e => by have := hlt B e.symm; omega)
  have hg0 : W.grownBy w1 v.ownBlock := ⟨hgrow.os, hgrow.tape, hgrow.output, by have := hgrow.size; simp at this; omega, fun k hk hne => (hgrow.block k (by simp; omega) hne).trans (Below.heap_alloc W tmp k hk)⟩
  refine ⟨hv1, hv1.set v', hown'.kept (grownBy_setCell' w1 B v') (.inr fun e => by have := hlt' B e; omega), ?_, fun b hb1 hb2 => ⟨hg0, fun k e => by have := hlt k e; omega⟩, fun k hk hne => ?_⟩
  · refine ((KeepsOthers.alloc W tmp).trans (KeepsOthers.of_grownBy hgrow fun j o ej hj => ?_)).trans (KeepsOthers.setCell _ _ _)
    rcases (hrow.alloc tmp).2 with ⟨rfl, _⟩ | ⟨g, cap, cur, rfl, _, hgb, _⟩
    · simp [Value.ownBlock] at ej
    · obtain rfl : g = j := by simpa [Value.ownBlock] using ej
      rw [hgb] at hj; cases hj; rfl
  · refine (Below.heap_setCell _ _ _ k (fun e => hne e)).trans (hg0.block k (by omega) (fun e => by have := hlt k e.symm; omega))
theorem SRow.none (W : World) : SRow W none [] := fun i hi => by cases hi
theorem row_S {W : World} {B : Nat} {A : Option Addr} {c : Nat} {l : List (List UInt8)} (h : W.ownsRow B 9 1 (.slice A l.length c) l.length (l.map fun x => Value.string ⟨x.toArray⟩)) : SRow W A (l.map toB) := fun i hi => by
  rw [List.length_map] at hi
  rcases h.2 with ⟨h1, h2⟩ | ⟨g, cap, cur, h1, _⟩
  · omega
  · have hA : A = some ⟨g, 0, none⟩ := by injection h1
    subst hA
    refine ⟨g, rfl, ?_⟩
    have := World.ownsRow.cellAt h i (by omega)
    rw [this, List.getElem?_map, List.getElem?_eq_getElem hi]
    simp [toB]

set_option maxRecDepth 100000 in
set_option maxHeartbeats 3200000 in
theorem pnames_any (s : List UInt8) (hs : s.length ≤ 1048576) (w : World) (hw : Ok w) :
    Calls Tryd.prog 76 #[.string ⟨s.toArray⟩] w fun e w' => ∃ A c, e = .returned (.tuple #[.slice A (namesQ s).1.length c, .int .i64 (namesQ s).2]) ∧ SRow w' A (namesQ s).1 ∧ (namesQ s).1.length ≤ c ∧ Fr w w' := by
  obtain ⟨Q, hQ⟩ : ∃ Q : List ByteArray × Int, namesQ s = Q := ⟨_, rfl⟩
  rw [hQ]
  have HQ := Lib.hid hQ
  clear hQ
  obtain ⟨bz, hbz⟩ : ∃ b : Bool, decide ((0 : UInt8) ∈ s) = b := ⟨_, rfl⟩
  have CZ : ∀ W, Calls Tryd.prog 89 #[.string ⟨s.toArray⟩, .string ⟨#[0]⟩] W fun e w' => e = .returned (.bool bz) ∧ w' = W := fun W => by
    have h := Tryd.strings_Contains_one ⟨s.toArray⟩ 0 W
    rwa [← Lib.contains_iff_indexByte, show (⟨s.toArray⟩ : ByteArray).data.toList.contains 0 = bz from by rw [← hbz]; simp] at h
  have HBZ := Lib.hid hbz
  clear hbz
  obtain ⟨bl, hbl⟩ : ∃ b : Bool, decide ((s.length : Int) > 1023) = b := ⟨_, rfl⟩
  have hro : Fence.wide.round = none := rfl
  have h1 : 1 ≤ 9 := by omega
  have hf1 : Fence.wide.fn 89 := trivial
  have hf2 : Fence.wide.fn 90 := trivial
  have hf3 : Fence.wide.fn 91 := trivial
  obtain ⟨w1, g, hg, hw1, f1, hz1, H1⟩ := boxedN hw #[.slice none 0 0] 75
  refine (callsIn_wide (n := 9)).1 ?_
  refine callsIn_of_wp_marks Tryd.func76 rfl trivial ?_ hro
  simp only [Tryd.ntmps76, List.size_toArray, List.length_cons, List.length_nil, Nat.reduceAdd, Nat.reduceSub, Array.replicate_succ, Array.replicate_zero, List.push_toArray, List.append_toArray, List.nil_append, List.cons_append]
  cases bz with
  | true =>
    gi_wp2_with (first
      | (gi_at_call 89; refine (callsIn_wide.2 (CZ _)).mono ?_; rintro e wq ⟨rfl, he⟩; replace he := he.symm; subst he))
    have hq := HQ.out
    unfold namesQ at hq
    rw [if_pos (by simpa using HBZ.out)] at hq
    subst hq
    exact ⟨_, results_tmp2 rfl _ _ _, none, 0, rfl, SRow.none _, Nat.le_refl _, Fr.refl hw⟩
  | false =>
    cases bl with
    | true =>
      gi_wp2_with (first
        | (gi_at_call 89; refine (callsIn_wide.2 (CZ _)).mono ?_; rintro e wq ⟨rfl, he⟩; replace he := he.symm; subst he))
      have hq := HQ.out
      unfold namesQ at hq
      rw [if_neg (by simpa using HBZ.out), if_pos (by have := of_decide_eq_true hbl; omega)] at hq
      subst hq
      exact ⟨_, results_tmp2 rfl _ _ _, none, 0, rfl, SRow.none _, Nat.le_refl _, Fr.refl hw⟩
    | false =>
      gi_wp2_with (first
        | (gi_at_call 89; refine (callsIn_wide.2 (CZ _)).mono ?_; rintro e wq ⟨rfl, he⟩; replace he := he.symm; subst he)
        | (gi_at_call 90; refine (callsIn_wide.2 (splitSeq_any s _)).mono ?_; rintro e w2 ⟨rfl, G2, hz2, HS2⟩))
      obtain ⟨b, hb⟩ : ∃ b, w1.heap.size = b := ⟨_, rfl⟩
      rw [hb] at hz2 HS2 ⊢
      have hgb : g < b := by omega
      have hgw : w.heap.size = g := hg
      have hv0 : Boxed w2 g 75 (.slice none 0 0) := Boxed.kept H1 G2 (by simp)
      have f2 : Fr w w2 := Fr.row f1 hw G2 (fun k e => by cases e)
      obtain ⟨i0, hi, hz0, hz1', hz2'⟩ := info_parts infoString
      refine wp_range rfl h1 (gf := 107) (lb := #[.pointer (some ⟨b + 1, 0, none⟩), .pointer (some ⟨b, 0, none⟩), .pointer (some ⟨b + 2, 0, none⟩)]) rfl trivial (enters_of Tryd.func107 (by kernel_rfl) rfl)
        (splitC_gives _ b (by omega) s hs _ HS2) Keep3.trans (fun W k o' hk i h1 h2 => World.putObj_heap_other (by omega)) (fun r e => by omega) (fun _ => rfl)
        (fun pre W => ∃ v, Boxed W g 75 v ∧ W.ownsRow w2.heap.size 9 1 v (pre.filter fun x => decide (okW x)).length ((pre.filter fun x => decide (okW x)).map fun x => Value.string ⟨x.toArray⟩) ∧ Fr w W ∧ w2.heap.size ≤ W.heap.size)
        ?hI ⟨_, hv0, World.ownsRow_nil _ _ _ _, f2, Nat.le_refl _⟩
        (fun x a' W => a' = { tmps := #[.string ⟨s.toArray⟩, undef, .slice none 0 0, .int .i64 0, .pointer (some ⟨g, 0, none⟩), .string ⟨x.toArray⟩, .string ⟨s.toArray⟩, .bool false, .string ⟨s.toArray⟩, .int .i64 s.length, .bool false, .string ⟨s.toArray⟩, .func (.func 107) #[] #[.pointer (some ⟨b + 1, 0, none⟩), .pointer (some ⟨b, 0, none⟩), .pointer (some ⟨b + 2, 0, none⟩)], .string ⟨x.toArray⟩, undef, undef, undef, undef, undef, undef, undef, undef, undef, undef, undef, undef, undef, undef, undef, undef], defers := [] })
        (fun _ _ _ _ _ h _ _ _ => h) ?assign ?body ?done
      case hI =>
        rintro pre X Y row ⟨v, hv, hr, f, hsz⟩ hG hrow
        have hne : ∀ r, row = some r → w.heap.size ≤ r ∧ r ≠ g ∧ v.ownBlock ≠ some r := fun r e => by
          rcases hrow r e with h | ⟨h, o, ho, hc⟩
          · subst h
            exact ⟨by omega, by omega, fun e2 => by have := (World.ownsRow.lt hr _ e2).1; omega⟩
          · refine ⟨by omega, by omega, fun e2 => ?_⟩
            rcases hr.2 with ⟨rfl, _⟩ | ⟨g', cap, cur, rfl, _, hgb', _⟩
            · cases e2
            · have : g' = r := by simpa [Value.ownBlock] using e2
              subst this
              rw [hgb'] at ho; cases ho; cases hc
        refine ⟨v, hv.kept hG (fun e => (hne g e.symm).2.1 rfl), hr.kept hG ?_, Fr.row f hw hG (fun k e => (hne k e).1), Nat.le_trans hsz hG.size⟩
        cases hv' : v.ownBlock with
        | none => exact .inl rfl
        | some r => exact .inr fun e => (hne r e.symm).2.2 hv'
      case assign =>
        intro l pre x W K hi hK
        gi_wp2
        exact hK _ _ (KeepsFrom.refl _ _) (Keep3.refl _ _) hi rfl
      case body =>
        rintro l pre x post a' W hx ⟨v, hv, hrow, f, hsz⟩ rfl
        have hcell := hv.cell
        by_cases hk0 : x = []
        · subst hk0
          gi_wp2
          refine ⟨KeepsFrom.refl _ _, Keep3.refl _ _, v, hv, ?_, f, hsz⟩
          simpa [okW] using hrow
        · by_cases hk1 : x = [46]
          · subst hk1
            gi_wp2
            refine ⟨KeepsFrom.refl _ _, Keep3.refl _ _, v, hv, ?_, f, hsz⟩
            simpa [okW] using hrow
          · have hq0 : (x == []) = false := by simpa using hk0
            have hq1 : (x == [46]) = false := by simpa using hk1
            have hpl : (pre.filter fun x => decide (okW x)).length ≤ 1048577 := by
              have h1 := List.length_filter_le (fun x => decide (okW x)) pre
              have h2 := cuts_len s []
              rw [hx, List.length_append, List.length_cons] at h2
              omega
            gi_wp2_with (gi_at_builtin; refine wpListIn_append_own _ rfl _ _ 75 rfl w2.heap.size 9 i0 (.string ⟨#[]⟩) 1 16 Tryd.underlying75 hi hz0 hz1' hz2' rfl (by decide) _ _ _ rfl (hrow.alloc _) ⟨W.heap.size, 0, none⟩ 1 1 [.string ⟨x.toArray⟩] rfl rfl (cell_one_new _ _ _) (by simp [Value.oneCell']) (by unfold maxLen; omega) (by omega) (by simp; omega) ?_; intro v' w1 hown' hgrow _; obtain ⟨g', cap', rfl⟩ := ownsRow_succ hown'; obtain ⟨hv1, hv2, hr2, hk2, hb2, hb3⟩ := box_appended hv hrow hsz (by omega) hown' hgrow; have hc1 := hv1.cell; have hf1 := hv1.frozen)
            obtain ⟨hg0, hge⟩ := hb2 w.heap.size (by omega) (by have := f.size; omega)
            have hsz1 := hg0.size
            have hsz2 := (grownBy_setCell' w1 g (Value.slice (some ⟨g', 0, none⟩) ((pre.filter fun x => decide (okW x)).length + 1) cap')).size
            refine ⟨hk2.from _, fun k h1 h2 => hb3 k (by omega) (by omega), _, hv2, ?_, Fr.row (Fr.row f hw hg0 hge) hw (grownBy_setCell' w1 g _) (fun k e => by cases e; omega), by omega⟩
            have hfx : (pre ++ [x]).filter (fun x => decide (okW x)) = pre.filter (fun x => decide (okW x)) ++ [x] := by
              rw [List.filter_append]
              simp [okW, hk0, hk1]
            rw [hfx, List.length_append, List.map_append]
            exact hr2
      case done =>
        rintro D W hD ⟨v, hv, hrow, f, hsz⟩ hK
        rw [← parts_cuts s []] at hrow
        obtain ⟨L, hL⟩ : ∃ L, partsL [] s = L := ⟨_, rfl⟩
        have HL := Lib.hid hL
        rw [hL] at hrow
        have hLl : L.length ≤ 1048577 := by
          have h1 := parts_cuts s []
          have h2 := List.length_filter_le (fun x => decide (okW x)) (cutsL [] s)
          have h3 := cuts_len s []
          rw [← h1, hL] at h2
          omega
        clear hL
        obtain ⟨A, c, rfl⟩ := own_form hrow
        have hS := row_S hrow
        have hcell := hv.cell
        obtain ⟨bc, hbc⟩ : ∃ b, (L.map toB).any (fun x => decide (63 < x.size)) = b := ⟨_, rfl⟩
        have CF : Calls Tryd.prog 91 #[.slice A L.length c, .func (.func 92) #[] #[]] W fun e w' => e = .returned (.bool bc) ∧ w' = W := by
          have h := contains_any A c (L.map toB) (by rw [List.length_map]; omega) W hS
          rwa [List.length_map, hbc] at h
        obtain ⟨b6, hb6⟩ : ∃ b, decide ((L.length : Int) > 64) = b := ⟨_, rfl⟩
        have HB := Lib.hid (And.intro hbc hb6)
        clear hbc
        have hfin : ∀ (o' : Obj), Fr w (W.putObj D o') := fun o' => Fr.row f hw (grownBy_putObj' W D o') (fun k e => by cases e; omega)
        have hSp : ∀ (o' : Obj), SRow (W.putObj D o') A (L.map toB) := fun o' => row_S (ownsRow_putObj hrow o' hK rfl)
        have hq : Q = if 64 < L.length ∨ (L.map toB).any (fun x => decide (63 < x.size)) = true then ([], 161) else (L.map toB, 0) := by
          rw [← HQ.out]
          unfold namesQ
          rw [if_neg (by simpa using HBZ.out), if_neg (by have := of_decide_eq_false hbl; omega), HL.out]
        cases b6 with
        | true =>
          gi_wp2_with fail
          refine ⟨by simp, .inl ⟨_, _, rfl, run_takeDeferred hK, ?_⟩⟩
          have h6 : 64 < L.length := by have := of_decide_eq_true hb6; omega
          rw [if_pos (.inl h6)] at hq
          subst hq
          exact ⟨_, results_tmp2 rfl _ _ _, none, 0, rfl, SRow.none _, Nat.le_refl _, hfin _⟩
        | false =>
          have h6 : ¬ 64 < L.length := by have := of_decide_eq_false hb6; omega
          cases bc with
          | true =>
            gi_wp2_with (first
              | (gi_at_call 91; refine (callsIn_wide.2 CF).mono ?_; rintro e wq ⟨rfl, he⟩; replace he := he.symm; subst he))
            refine ⟨by simp, .inl ⟨_, _, rfl, run_takeDeferred hK, ?_⟩⟩
            rw [if_pos (.inr HB.out.1)] at hq
            subst hq
            exact ⟨_, results_tmp2 rfl _ _ _, none, 0, rfl, SRow.none _, Nat.le_refl _, hfin _⟩
          | false =>
            gi_wp2_with (first
              | (gi_at_call 91; refine (callsIn_wide.2 CF).mono ?_; rintro e wq ⟨rfl, he⟩; replace he := he.symm; subst he))
            refine ⟨by simp, .inl ⟨_, _, rfl, run_takeDeferred hK, ?_⟩⟩
            rw [if_neg (fun e => e.elim h6 (fun e => by rw [HB.out.1] at e; cases e))] at hq
            subst hq
            exact ⟨_, results_tmp2 rfl _ _ _, A, c, by rw [List.length_map]; rfl, hSp _, by rw [List.length_map]; exact own_cap hrow, hfin _⟩
end Go.Proofs.YtlnaeppbhjmocaaDoor
set_option linter.unusedSimpArgs false
set_option linter.unusedVariables false
namespace Go.Proofs.YtlnaeppbhjmocaaDoor
open Go.RowKit Go.Proofs

/-- a row of names behind a pointer, from a place on -/
def SRowO (w : World) (A : Option Addr) (l : List ByteArray) : Prop := l ≠ [] → ∃ g o, A = some ⟨g, o, none⟩ ∧ g < w.heap.size ∧ ∀ i (h : i < l.length), w.cell? ⟨g, o + i, none⟩ = some (.string l[i])
theorem SRow.off {w : World} {A : Option Addr} {l : List ByteArray} (h : SRow w A l) : SRowO w A l := fun hl => by
  have h0 : 0 < l.length := List.length_pos_iff.2 hl
  obtain ⟨g, hg, hc⟩ := h 0 h0
  refine ⟨g, 0, hg, World.block_lt_of_cell? w _ hc, fun i hi => ?_⟩
  obtain ⟨g', hg', hc'⟩ := h i hi
  rw [hg] at hg'
  have : g = g' := by injection hg' with e; injection e
  subst this
  rw [Nat.zero_add]; exact hc'
theorem SRowO.fr {w w' : World} {A : Option Addr} {l : List ByteArray} (h : SRowO w A l) (q : Fr w w') : SRowO w' A l := fun hl => by
  obtain ⟨g, o, hg, hlt, hc⟩ := h hl
  exact ⟨g, o, hg, Nat.lt_of_lt_of_le hlt q.size, fun i hi => q.cell (hc i hi)⟩
theorem prefix_slash (s : List UInt8) : Lib.hasPrefix (⟨s.toArray⟩ : ByteArray).data.toList (⟨#[47]⟩ : ByteArray).data.toList = decide (s.head? = some 47) := by
  cases s with
  | nil => rfl
  | cons c r =>
    show List.isPrefixOf [47] (c :: r) = _
    by_cases h : c = 47
    · subst h; simp [List.isPrefixOf]
    · have h2 : ((47 : UInt8) == c) = false := by simpa using fun e => h e.symm
      simp [List.isPrefixOf, h, h2]

set_option maxRecDepth 100000 in
theorem psplit_any (s : List UInt8) (hs : s.length ≤ 1048576) (w : World) (hw : Ok w) :
    Calls Tryd.prog 63 #[.string ⟨s.toArray⟩] w fun e w' => ∃ A c, e = .returned (.tuple #[.slice A (splitQ s).1.length c, .int .i64 (splitQ s).2]) ∧ SRow w' A (splitQ s).1 ∧ (splitQ s).1.length ≤ c ∧ Fr w w' := by
  obtain ⟨bp, hbp⟩ : ∃ b : Bool, decide (s.head? = some 47) = b := ⟨_, rfl⟩
  have CP : Calls Tryd.prog 75 #[.string ⟨s.toArray⟩, .string ⟨#[47]⟩] w fun e w' => e = .returned (.bool bp) ∧ w' = w := by
    have h := Tryd.strings_HasPrefix ⟨s.toArray⟩ ⟨#[47]⟩ w
    rwa [prefix_slash, hbp] at h
  have CN := pnames_any s hs w hw
  obtain ⟨Q, hQ⟩ : ∃ Q : List ByteArray × Int, splitQ s = Q := ⟨_, rfl⟩
  rw [hQ]
  unfold splitQ at hQ
  cases bp with
  | true =>
    rw [if_pos (of_decide_eq_true hbp)] at hQ
    rw [hQ] at CN
    clear hbp hQ
    go_enter Tryd.func63, Tryd.ntmps63
    go_wp2_with (first
      | (go_at_call 75; refine CP.mono ?_; rintro e wq ⟨rfl, he⟩; replace he := he.symm; subst he)
      | (go_at_call 76; refine CN.mono ?_; rintro e wq ⟨A, c, rfl, hS, hc, f⟩))
    go_ret2
    exact ⟨A, c, rfl, hS, hc, f⟩
  | false =>
    rw [if_neg (of_decide_eq_false hbp)] at hQ
    clear hbp CN
    go_enter Tryd.func63, Tryd.ntmps63
    go_wp2_with (first
      | (go_at_call 75; refine CP.mono ?_; rintro e wq ⟨rfl, he⟩; replace he := he.symm; subst he))
    go_ret2
    subst hQ
    exact ⟨none, 0, rfl, SRow.none _, Nat.le_refl _, Fr.refl hw⟩

set_option maxRecDepth 100000 in
set_option maxHeartbeats 1600000 in
theorem pclean_any (s : List UInt8) (hs : s.length ≤ 1048576) (w : World) (hw : Ok w) :
    Calls Tryd.prog 73 #[.string ⟨s.toArray⟩] w fun e w' => ∃ A c, e = .returned (.tuple #[.slice A ((splitQ s).1.dropWhile isUp).length c, .int .i64 (splitQ s).2]) ∧ SRowO w' A ((splitQ s).1.dropWhile isUp) ∧ ((splitQ s).1.dropWhile isUp).length ≤ c ∧ Fr w w' := by
  have CS := psplit_any s hs w hw
  have hq1 : (splitQ s).1.length ≤ 1048577 := by
    rcases splitQ_err (s := s) with h | h
    · have := (splitQ_good h).2.2.2.1; omega
    · rw [h.1]; simp
  obtain ⟨Q, hQ⟩ : ∃ Q : List ByteArray × Int, splitQ s = Q := ⟨_, rfl⟩
  rw [hQ] at CS hq1 ⊢
  clear hQ
  obtain ⟨⟨l, er⟩, rfl⟩ : ∃ q, q = Q := ⟨_, rfl⟩
  dsimp only at CS hq1 ⊢
  go_enter Tryd.func73, Tryd.ntmps73
  go_wp2_with (first
    | (go_at_call 63; refine CS.mono ?_; rintro e wq ⟨A, c, rfl, hS, hc, f⟩))
  go_loopg [4] l.length (fun k v4 wc => ∃ (t : List ByteArray) (B : Option Addr) (d : Nat), t.length ≤ k ∧ v4 = .slice B t.length d ∧ t.length ≤ d ∧ Hid (SRowO wq B t) ∧ Hid (t.dropWhile isUp = l.dropWhile isUp) ∧ wc = wq)
  case atStart => exact ⟨l, A, c, Nat.le_refl _, rfl, hc, Lib.hid hS.off, Lib.hid rfl, rfl⟩
  case round =>
    obtain ⟨t, B, d, htk, rfl, htd, HS, HD, rfl⟩ := hrel
    cases t with
    | nil =>
      go_wp2_with fail
      go_ret2
      have := HD.out
      rw [List.dropWhile_nil] at this
      rw [← this]
      exact ⟨B, d, rfl, fun h => absurd rfl h, Nat.zero_le _, f⟩
    | cons x r =>
      obtain ⟨g, o, rfl, hlt, hcs⟩ := HS.out (by simp)
      have hx0 : w.heap.size ≤ w.heap.size := Nat.le_refl _
      have c0 := hcs 0 (by simp)
      rw [Nat.add_zero, List.getElem_cons_zero] at c0
      have hR : ∀ i (h : i < r.length), wr.cell? ⟨g, o + 1 + i, none⟩ = some (.string r[i]) := fun i h => by
        have := hcs (i + 1) (by simp; omega)
        rw [List.getElem_cons_succ] at this
        rw [← this]; congr 2; omega
      have HR := Lib.hid hR
      clear hR hcs
      obtain ⟨bb, hbb⟩ : ∃ b, (x.toList == ([46, 46] : List UInt8)) = b := ⟨_, rfl⟩
      have hup : isUp x = bb := by unfold isUp; rw [← toL]; exact hbb
      rw [List.length_cons] at htk htd
      have d0 : (0 : Int) < ((r.length + 1 : Nat) : Int) := by omega
      have d1 : (1 : Int) ≤ ((r.length + 1 : Nat) : Int) := by omega
      cases bb with
      | false =>
        go_wp2_with fail
        go_ret2
        have := HD.out
        rw [List.dropWhile_cons, if_neg (by rw [hup]; decide)] at this
        rw [← this]
        exact ⟨_, d, rfl, fun _ => ⟨g, o, rfl, hlt, fun i hi => by
          cases i with
          | zero => simpa using c0
          | succ i => rw [List.getElem_cons_succ, ← HR.out i (by simpa using hi)]; congr 2; omega⟩, by rw [List.length_cons]; omega, f⟩
      | true =>
        have hD := HD.out
        rw [List.dropWhile_cons, if_pos hup] at hD
        cases gk with
        | zero => omega
        | succ k =>
          by_cases hd1 : d = 1
          · subst hd1
            have : r = [] := List.length_eq_zero_iff.mp (by omega)
            subst this
            go_wp2_with fail
            go_roundg k
            case measure => omega
            case rel => exact ⟨[], _, 0, Nat.zero_le _, rfl, Nat.le_refl _, Lib.hid (fun h => absurd rfl h), Lib.hid hD, rfl⟩
          · go_wp2_with fail
            go_roundg k
            case measure => omega
            case rel => exact ⟨r, _, d - 1, by omega, by go_num, by omega, Lib.hid (fun _ => ⟨g, o + 1, rfl, hlt, HR.out⟩), Lib.hid hD, rfl⟩

set_option maxRecDepth 100000 in
set_option maxHeartbeats 1600000 in
theorem pClean_any (s : List UInt8) (hs : s.length ≤ 1048576) (w : World) (hw : Ok w) :
    Calls Tryd.prog 62 #[.string ⟨s.toArray⟩] w fun e w' => e = .returned (.tuple #[.string ⟨(cleanQ s).1.toArray⟩, .int .i64 (cleanQ s).2]) ∧ Fr w w' := by
  have CC := pclean_any s hs w hw
  obtain ⟨R, hR⟩ : ∃ R, cleanQ s = R := ⟨_, rfl⟩
  rw [hR]
  unfold cleanQ at hR
  rcases splitQ_err (s := s) with h | ⟨h1, h2⟩
  · have hg := splitQ_good h
    have hsd := sum_drop (splitQ s).1 isUp
    have hdl : ((splitQ s).1.dropWhile isUp).length ≤ (splitQ s).1.length := (List.dropWhile_sublist _).length_le
    rw [if_pos h] at hR
    rw [h] at CC
    obtain ⟨l, hl⟩ : ∃ l, (splitQ s).1.dropWhile isUp = l := ⟨_, rfl⟩
    rw [hl] at CC hR hsd hdl
    have hl64 : l.length ≤ 64 := by omega
    have hsum : (l.map fun x => x.size + 1).sum ≤ 1024 := by omega
    clear hg hsd hdl hl h
    subst hR
    cases l with
    | nil =>
      have CJ : ∀ A c W, Calls Tryd.prog 74 #[.slice A 0 c, .string ⟨#[47]⟩] W fun e w' => e = .returned (.string ⟨#[]⟩) ∧ w' = W := fun A c W => Tryd.strings_Join_none A c ⟨#[47]⟩ W
      go_enter Tryd.func62, Tryd.ntmps62
      go_wp2_with (first
        | (go_at_call 73; refine CC.mono ?_; rintro e wq ⟨A, c, rfl, hS, hc, f⟩)
        | (go_at_call 74; refine (CJ _ _ _).mono ?_; rintro e wx ⟨rfl, he⟩; replace he := he.symm; subst he))
      go_ret2
      exact ⟨rfl, f⟩
    | cons x r =>
      have hne : x :: r ≠ [] := by simp
      have hjp := join_path (x :: r) hne
      have hjl : (Lib.join ((x :: r).map (·.data.toList)) [47]).length + 1 = ((x :: r).map fun x => x.size + 1).sum := by
        have := congrArg List.length hjp
        rw [pathL_len] at this
        simpa using this
      obtain ⟨J, hJ⟩ : ∃ J, Lib.join ((x :: r).map (·.data.toList)) [47] = J := ⟨_, rfl⟩
      have CJ : ∀ A c W, SRowO W A (x :: r) → (x :: r).length ≤ c → Calls Tryd.prog 74 #[.slice A (x :: r).length c, .string ⟨#[47]⟩] W fun e w' => e = .returned (.string ⟨J.toArray⟩) ∧ Below W.heap.size W w' := fun A c W hS hc => by
        obtain ⟨g, o, rfl, hlt, hcs⟩ := hS hne
        have h := Tryd.strings_Join g o c (x :: r) ⟨#[47]⟩ W (fun j y hy => by
          have hj := (List.getElem?_eq_some_iff.1 hy).1
          have hy' := (List.getElem?_eq_some_iff.1 hy).2
          rw [← hy']; exact hcs j hj) hlt (by omega) hc (by show (Lib.join _ [47]).length ≤ _; omega)
        rw [show (⟨#[47]⟩ : ByteArray).data.toList = [47] from rfl, hJ] at h
        exact h
      rw [hJ] at hjp hjl
      have hP : pathL (x :: r) = 47 :: J := by unfold pathL; rw [if_neg hne, hjp]
      have HP := Lib.hid hP
      have hsJ : (⟨J.toArray⟩ : ByteArray).size = J.length := bs_size J
      obtain ⟨SJ, hSJ⟩ : ∃ S : ByteArray, (⟨J.toArray⟩ : ByteArray) = S := ⟨_, rfl⟩
      rw [hSJ] at hsJ
      have HSJ := Lib.hid hSJ
      have hs3 : SJ.size ≤ 1023 := by omega
      have HCJ := Lib.hid CJ
      obtain ⟨m, hm⟩ : ∃ m, (x :: r).length = m := ⟨_, rfl⟩
      rw [hm] at CC
      clear hjp hjl hJ hsJ hSJ hP hsum CJ
      go_enter Tryd.func62, Tryd.ntmps62
      go_wp2_with (first
        | (go_at_call 73; refine CC.mono ?_; rintro e wq ⟨A, c, rfl, hS, hc, f⟩; have HS := Lib.hid hS; clear hS)
        | (go_at_call 74; (have hcj := HCJ.out A c wq HS.out (by omega)); rw [hm, HSJ.out] at hcj; refine hcj.mono ?_; rintro e wx ⟨rfl, hb⟩; have HB := Lib.hid hb; clear hb))
      go_ret2
      refine ⟨?_, f.trans (Fr.of f.ok HB.out)⟩
      have : (⟨#[47]⟩ : ByteArray) ++ SJ = ⟨(pathL (x :: r)).toArray⟩ := by
        rw [HP.out, ← HSJ.out]
        refine bs_ext ?_
        rw [ByteArray.data_append]
        simp
      rw [this]
      rfl
  · have hne : (splitQ s).2 ≠ 0 := by omega
    rw [if_neg hne] at hR
    obtain ⟨er, her⟩ : ∃ x, (splitQ s).2 = x := ⟨_, rfl⟩
    rw [her] at CC hR hne h2
    clear h1 her
    subst hR
    have d0 : ¬ er = 0 := hne
    go_enter Tryd.func62, Tryd.ntmps62
    go_wp2_with (first
      | (go_at_call 73; refine CC.mono ?_; rintro e wq ⟨A, c, rfl, hS, hc, f⟩))
    go_ret2
    exact ⟨rfl, f⟩

/-- what parcel.namesOf tells -/
def namesR (s : List UInt8) : List ByteArray × Bool := match namesP s with
  | some l => (l, true)
  | none => ([], false)

set_option maxRecDepth 100000 in
set_option maxHeartbeats 1600000 in
theorem namesOf_any (s : List UInt8) (hs : s.length ≤ 1048576) (w : World) (hw : Ok w) :
    Calls Tryd.prog 46 #[.string ⟨s.toArray⟩] w fun e w' => ∃ A c, e = .returned (.tuple #[.slice A (namesR s).1.length c, .bool (namesR s).2]) ∧ SRow w' A (namesR s).1 ∧ (namesR s).1.length ≤ c ∧ Fr w w' := by
  have CC := pClean_any s hs w hw
  have CS := fun W hW => psplit_any s hs W hW
  obtain ⟨R, hR⟩ : ∃ R, namesR s = R := ⟨_, rfl⟩
  rw [hR]
  unfold namesR namesP at hR
  obtain ⟨⟨cl, er⟩, hcl⟩ : ∃ q, cleanQ s = q := ⟨_, rfl⟩
  have hcq := hcl
  rw [hcl] at CC hR
  dsimp only at CC hR
  by_cases he : er = 0
  · subst he
    have h4 : (splitQ s).2 = 0 := by
      unfold cleanQ at hcq
      split at hcq
      · assumption
      · rename_i h5; exact absurd (congrArg Prod.snd hcq) h5
    by_cases hc : cl = s
    · subst hc
      have hg := splitQ_good h4
      rw [h4] at CS
      obtain ⟨l, hl⟩ : ∃ l, (splitQ cl).1 = l := ⟨_, rfl⟩
      rw [hl] at CS hR
      have hl64 : l.length ≤ 64 := by rw [← hl]; exact hg.2.2.2.1
      have HCS := Lib.hid CS
      have hq0 : (cl != cl) = false := by simp
      clear hg h4 hcq hcl hl CS
      have HR := Lib.hid hR
      clear hR
      go_enter Tryd.func46, Tryd.ntmps46
      go_wp2_with (first
        | (go_at_call 62; refine CC.mono ?_; rintro e wq ⟨rfl, f⟩)
        | (go_at_call 63; refine (HCS.out _ f.ok).mono ?_; rintro e wx ⟨A, c, rfl, hS, hc, f2⟩))
      have HS := Lib.hid hS
      have HF := Lib.hid (f.trans f2)
      clear f f2 hS HCS
      go_loopg [28] l.length (fun k v28 wc => ∃ i : Nat, i + k = l.length ∧ v28 = .int .i64 i ∧ wc = wx ∧ Hid (∀ j (h : j < l.length), j < i → isUp l[j] = false))
      case atStart => exact ⟨0, by omega, rfl, rfl, Lib.hid (fun j h hj => by omega)⟩
      case round =>
        obtain ⟨i, hik, rfl, rfl, HN⟩ := hrel
        cases gk with
        | zero =>
          obtain rfl : i = l.length := by omega
          have hr := HR.out
          rw [if_pos ⟨by trivial, by trivial, List.any_eq_false.2 fun x hx => by
            obtain ⟨j, hj, rfl⟩ := List.mem_iff_getElem.mp hx
            rw [HN.out j hj hj]; decide⟩] at hr
          dsimp only at hr
          subst hr
          go_wp2_with fail
          go_ret2
          exact ⟨A, c, rfl, HS.out, hc, HF.out⟩
        | succ k =>
          have hi : i < l.length := by omega
          obtain ⟨g, rfl, hcl⟩ := HS.out i hi
          obtain ⟨x, hx⟩ : ∃ x, l[i] = x := ⟨_, rfl⟩
          rw [hx] at hcl
          obtain ⟨bb, hbb⟩ : ∃ b, (x.toList == ([46, 46] : List UInt8)) = b := ⟨_, rfl⟩
          have hup : isUp x = bb := by unfold isUp; rw [← toL]; exact hbb
          have HX := Lib.hid (And.intro hx hup)
          clear hx hup
          have d0 : (0 : Int) ≤ (i : Int) := by omega
          have d1 : (i : Int) < (l.length : Int) := by omega
          cases bb with
          | true =>
            have hr := HR.out
            rw [if_neg (fun h => by
              have := List.any_eq_false.1 h.2.2 _ (List.getElem_mem hi)
              rw [HX.out.1] at this
              exact this HX.out.2)] at hr
            dsimp only at hr
            subst hr
            go_wp2_with fail
            go_ret2
            first
              | exact ⟨none, 0, rfl, SRow.none _, Nat.le_refl _, HF.out⟩
              | exact ⟨none, ⟨0, rfl⟩, SRow.none _, HF.out⟩
          | false =>
            go_wp2_with fail
            go_roundg k
            case measure => omega
            case rel =>
              refine ⟨i + 1, by omega, by go_num, rfl, Lib.hid fun j hj hji => ?_⟩
              by_cases h : j = i
              · subst h; rw [HX.out.1]; exact HX.out.2
              · exact HN.out j hj (by omega)
    · have hq0 : (cl == s) = false := by simpa using hc
      rw [if_neg (fun h => hc h.2.1)] at hR
      dsimp only at hR
      subst hR
      clear hcq hcl CS hc
      go_enter Tryd.func46, Tryd.ntmps46
      go_wp2_with (first
        | (go_at_call 62; refine CC.mono ?_; rintro e wq ⟨rfl, f⟩))
      go_ret2
      exact ⟨none, 0, rfl, SRow.none _, Nat.le_refl _, f⟩
  · rw [if_neg (fun h => he h.1)] at hR
    dsimp only at hR
    subst hR
    have d0 : ¬ er = 0 := he
    clear hcq hcl CS
    go_enter Tryd.func46, Tryd.ntmps46
    go_wp2_with (first
      | (go_at_call 62; refine CC.mono ?_; rintro e wq ⟨rfl, f⟩))
    all_goals (go_ret2; exact ⟨none, 0, rfl, SRow.none _, Nat.le_refl _, f⟩)
end Go.Proofs.YtlnaeppbhjmocaaDoor
set_option linter.unusedVariables false
namespace Go.Proofs.YtlnaeppbhjmocaaDoor.Reg
open Go Go.RowKit Go.Sort

section
variable {P : Program} {ops : Array Oper} {md : Region.Mode} {S : World → Prop} {D : Nat} {Q : Exit → Act → World → Prop}

theorem uponIn_of_upon {l n : Nat} {o : Oper} {a : Act} {K : Act → World → Prop} {r : Result Next} (h : o.upon P a K Q r) : o.uponIn (Fence.wide.inRound l) n P a K Q r := by
  have hd : (Fence.wide.inRound l).depth.isSome = true → 1 ≤ n := fun e => by simp [Fence.wide] at e
  unfold Oper.upon at h
  unfold Oper.uponIn
  split at h
  · exact h
  · exact h
  · exact h
  · exact ⟨hd, CallsIn.inRound l (callsIn_wide.2 h)⟩
  · refine ⟨hd, fun c cs _ => ?_⟩
    obtain ⟨v, w', r, s⟩ := h c cs
    exact ⟨v, w', r, stepsIn_wide.2 s⟩
  · exact h
  · exact h.elim
theorem wpOpIn_of {l n : Nat} (hnd : ∀ (i : Nat) (o : Oper), ops[i]? = some o → ∀ c, o.op ≠ .defer c) (hL : ¬ LetsOut Q) {i : Nat} {K : Act → World → Prop} {a : Act} {w : World} (h : wpOp P ops Q i K a w) : wpOpIn (Fence.wide.inRound l) n P ops Q i K a w := by
  unfold wpOp at h
  unfold wpOpIn
  cases ho : ops[i]? with
  | none => simp only [ho] at h; exact h
  | some o =>
    simp only [ho] at h ⊢
    by_cases hw : Region.wanted o (yielded ops a.tmps) = true
    · simp only [hw, if_true] at h ⊢
      rcases h with h | h
      · refine ⟨fun _ _ => trivial, ?_⟩
        rw [Oper.semAt_eq _ _ _ (hnd i o ho)]
        exact uponIn_of_upon h
      · exact absurd h.2 hL
    · simp only [hw] at h ⊢
      exact ⟨fun _ _ => trivial, h⟩
theorem wpAnyIn_of {l n : Nat} (hnd : ∀ (i : Nat) (o : Oper), ops[i]? = some o → ∀ c, o.op ≠ .defer c) (hL : ¬ LetsOut Q) : ∀ (fuel : Nat) (listed : Array Bool) (a : Act) (w : World), wpAny P md ops Q fuel listed a w → wpAnyIn (Fence.wide.inRound l) n P md ops Q fuel listed a w
  | 0, _, _, _, h => h
  | fuel + 1, listed, a, w, h => ⟨h.1, fun i hi => wpOpIn_of hnd hL (wpOp_mono (fun a w => wpAnyIn_of hnd hL fuel _ a w) (h.2 i hi))⟩
def noDefer (ops : Array Oper) : Bool := ops.all fun o => match o.op with | .defer _ => false | _ => true
theorem noDefer_spec (h : noDefer ops = true) : ∀ (i : Nat) (o : Oper), ops[i]? = some o → ∀ c, o.op ≠ .defer c := by
  intro i o ho c hc
  have h1 := (Array.all_eq_true'.1 h) o (Array.mem_of_getElem? ho)
  rw [hc] at h1
  cases h1
theorem wpIn_region_late {l n : Nat} {id : Nat} {a : Act} {w : World} (S : World → Prop) (D : Nat) (qs rest : List Nat) (hm : P.follows .mixedOrders = true) (hB : lateB .any ops D qs rest = true) (hN : noDefer ops = true) (hS : S w.drew)
    (hL : ∀ a w, ¬ Q .outgrown a w)
    (h : wpLateT P ops S (fun a' => wpMainT P ops (NoPanic Q) S D rest a' w.drew) qs a) : (Code.region id ops true).wpIn (Fence.wide.inRound l) n P Q a w := by
  have hLo : ¬ LetsOut (NoPanic Q) := fun ⟨a, w, h⟩ => hL a w (NoPanic.imp _ _ _ h)
  simp only [lateB, Bool.and_eq_true, decide_eq_true_eq] at hB
  obtain ⟨⟨⟨⟨hsel, hD⟩, hsz⟩, hlate⟩, hseq⟩ := hB
  refine wpIn_mono (wpIn_region_any hm (wpAnyIn_of (noDefer_spec hN) hLo _ _ _ _ (wpAny_of_T (S := S) (D := D) _ _ _ _ ?_))) (fun e a w q => NoPanic.imp e a w q)
  rw [← hsz]
  refine wpAnyT_late (md := .any) hsel (fun _ _ _ _ _ h => h) qs rest.length _ a _ ?_ ?_ ?_ hS (fun a' h' => wpAnyT_main rest _ a' _ ?_ h') h
  · rw [hsz]; exact hlate
  · rw [hsz]
    intro j oj _ hl
    rw [getD_replicate_false] at hl; cases hl
  · rw [hsz]
    exact getD_in (by simpa using hD) (getD_replicate_false _ _)
  · rw [hsz]; exact hseq
end
end Go.Proofs.YtlnaeppbhjmocaaDoor.Reg
