/- What all walks of this seat share: the relation 'new blocks and draws alone' between two worlds, the package-level tables that stay as laid, small lemmas on strings. No conditions. -/
import Derived.Test.YtefkklgelmbaiaaDoorShelf
import Derived.Test.YtefkklgelmbaiaaDoorMRegion
import Derived.WalkKit
import Derived.WalkSpells
import Derived.WalkLawsBesides
import Derived.BigQuiet
import Derived.Deep.QuietTactic
import Derived.Deep.RegionHeld3
import Derived.Deep.DeepFit
import Derived.Lib.Hide
import Derived.Lib.ItoaLen
import Derived.Lib.QuietBelow
import Derived.KernelRfl
namespace Go.Proofs.YtefkklgelmbaiaaDoor
open Go.RowKit Go.Proofs

theorem var_below {P : Program} {w w' : World} {n : String} {g : Nat} {cs : Array Value} (hg : P.globalNamed n = some g) (hb : Below w.heap.size w w') (h : w.var? P n = some cs) : w'.var? P n = some cs := by
  have hlt : g < w.heap.size := by
    simp only [World.var?, hg, Option.bind_some] at h
    split at h
    · rename_i heq; exact (Array.getElem?_eq_some_iff.1 heq).1
    · cases h
  exact var?_below hb hg hlt h

def auditWords : Array Value := #[.string ⟨#[]⟩, .string ⟨#[98, 114, 111, 107, 101, 110]⟩, .string ⟨#[102, 105, 120, 101, 100]⟩, .string ⟨#[115, 116, 97, 108, 101]⟩, .string ⟨#[114, 101, 102, 117, 115, 101, 100]⟩, .string ⟨#[112, 104, 97, 110, 116, 111, 109]⟩, .string ⟨#[108, 111, 115, 116]⟩, .string ⟨#[116, 119, 105, 99, 101]⟩, .string ⟨#[117, 110, 108, 105, 110, 107, 101, 100]⟩, .string ⟨#[98, 97, 100]⟩]

/-- the package-level tables are as laid -/
structure Ok (w : World) : Prop where
  fType : w.var? Tryd.prog "shale/node.fieldType" = some #[.int .i64 0, .int .i64 1]
  fParent : w.var? Tryd.prog "shale/node.fieldParent" = some #[.int .i64 1, .int .i64 4]
  fSize : w.var? Tryd.prog "shale/node.fieldSize" = some #[.int .i64 5, .int .i64 4]
  fMode : w.var? Tryd.prog "shale/node.fieldMode" = some #[.int .i64 9, .int .i64 2]
  fStamp : w.var? Tryd.prog "shale/node.fieldStamp" = some #[.int .i64 11, .int .i64 8]
  fShadow : w.var? Tryd.prog "shale/node.fieldShadow" = some #[.int .i64 19, .int .i64 4]

theorem gFType : Tryd.prog.globalNamed "shale/node.fieldType" = some 0 := by kernel_rfl
theorem gFParent : Tryd.prog.globalNamed "shale/node.fieldParent" = some 1 := by kernel_rfl
theorem gFSize : Tryd.prog.globalNamed "shale/node.fieldSize" = some 2 := by kernel_rfl
theorem gFMode : Tryd.prog.globalNamed "shale/node.fieldMode" = some 3 := by kernel_rfl
theorem gFStamp : Tryd.prog.globalNamed "shale/node.fieldStamp" = some 4 := by kernel_rfl
theorem gFShadow : Tryd.prog.globalNamed "shale/node.fieldShadow" = some 5 := by kernel_rfl

theorem Ok.below {w w' : World} (h : Ok w) (hb : Below w.heap.size w w') : Ok w' where
  fType := var_below gFType hb h.fType
  fParent := var_below gFParent hb h.fParent
  fSize := var_below gFSize hb h.fSize
  fMode := var_below gFMode hb h.fMode
  fStamp := var_below gFStamp hb h.fStamp
  fShadow := var_below gFShadow hb h.fShadow

/-- w' is w with new blocks and draws; all is laid as it was. -/
structure Fr (w w' : World) : Prop where
  below : Below w.heap.size w w'
  ok : Ok w'

theorem Fr.refl {w : World} (h : Ok w) : Fr w w := ⟨Below.refl _ _, h⟩
theorem Fr.trans {a b c : World} (h : Fr a b) (k : Fr b c) : Fr a c := ⟨h.below.trans (k.below.mono h.below.size), k.ok⟩
theorem Fr.of {w w' : World} (h : Ok w) (hb : Below w.heap.size w w') : Fr w w' := ⟨hb, h.below hb⟩
theorem Fr.alloc {a w : World} (h : Fr a w) (o : Obj) : Fr a (w.alloc o) := h.trans (Fr.of h.ok ((Below.refl _ _).alloc (Nat.le_refl _) _))
theorem Fr.drew {a w : World} (h : Fr a w) : Fr a w.drew := h.trans (Fr.of h.ok (Below.refl _ _).drew)
theorem Fr.cell {w w' : World} (h : Fr w w') {p : Addr} {v : Value} (hc : w.cell? p = some v) : w'.cell? p = some v :=
  (h.below.cell (World.block_lt_of_cell? w p hc)).trans hc
theorem Fr.size {w w' : World} (h : Fr w w') : w.heap.size ≤ w'.heap.size := h.below.size
theorem Fr.heap {w w' : World} (h : Fr w w') {k : Nat} {o : Obj} (hk : w.heap[k]? = some o) : w'.heap[k]? = some o :=
  (h.below.block k (Array.getElem?_eq_some_iff.1 hk).1).trans hk
theorem Fr.grown {w : World} (h : Ok w) {w' : World} (hw : ∃ k os, w' = Sort.grow (w.drewN k) os) : Fr w w' := by
  obtain ⟨k, os, rfl⟩ := hw
  refine Fr.of h ⟨rfl, rfl, rfl, by simp [Sort.grow], fun i hi => ?_⟩
  simp [Sort.grow, Array.getElem?_append, hi]
theorem Fr.regrown {w w' : World} (h : Ok w) (hw : ∃ p : Regrown, w' = Sort.grow (redrawn w p.d) p.os) : Fr w w' := by
  obtain ⟨p, rfl⟩ := hw; exact Fr.of h (below_regrown w p.d p.os)
theorem okR {w : World} (h : Ok w) (d : Nat) (os : Array Obj) : Ok (Sort.grow (redrawn w d) os) := h.below (below_regrown w d os)
theorem qfr {P : Program} {f : FuncId} {args : Array Value} {w : World} {d : Nat} {os : Array Obj} {v : Value}
    (h : Calls P f args (Sort.grow (redrawn w d) os) fun e w' => e = .returned v ∧ Fr (Sort.grow (redrawn w d) os) w') : Calls P f args (Sort.grow (redrawn w d) os) fun e w'' => e = .returned v ∧ ∃ p : Regrown, w'' = Sort.grow (redrawn w p.d) p.os :=
  Calls.regrown_of (h.mono fun _ _ ⟨he, hb⟩ => ⟨he, hb.below⟩)

theorem boxed1 {w : World} (h : Ok w) (v0 : Value) (t : TypeId) : ∃ w1 g, w.heap.size = g ∧ w.alloc (.cells #[v0] t) = w1 ∧ Fr w w1 ∧ w1.heap.size = g + 1 ∧ w1.cell? ⟨g, 0, none⟩ = some v0 := by
  refine ⟨_, _, rfl, rfl, (Fr.refl h).alloc _, by simp, ?_⟩ <;> go_simp
theorem boxed2 {w : World} (h : Ok w) (v0 v1 : Value) (t : TypeId) : ∃ w1 g, w.heap.size = g ∧ w.alloc (.cells #[v0, v1] t) = w1 ∧ Fr w w1 ∧ w1.heap.size = g + 1 ∧ w1.cell? ⟨g, 0, none⟩ = some v0 ∧ w1.cell? ⟨g, 1, none⟩ = some v1 := by
  refine ⟨_, _, rfl, rfl, (Fr.refl h).alloc _, by simp, ?_, ?_⟩ <;> go_simp
theorem boxed3 {w : World} (h : Ok w) (v0 v1 v2 : Value) (t : TypeId) : ∃ w1 g, w.heap.size = g ∧ w.alloc (.cells #[v0, v1, v2] t) = w1 ∧ Fr w w1 ∧ w1.heap.size = g + 1 ∧ w1.cell? ⟨g, 0, none⟩ = some v0 ∧ w1.cell? ⟨g, 1, none⟩ = some v1 ∧ w1.cell? ⟨g, 2, none⟩ = some v2 := by
  refine ⟨_, _, rfl, rfl, (Fr.refl h).alloc _, by simp, ?_, ?_, ?_⟩ <;> go_simp
theorem boxed4 {w : World} (h : Ok w) (v0 v1 v2 v3 : Value) (t : TypeId) : ∃ w1 g, w.heap.size = g ∧ w.alloc (.cells #[v0, v1, v2, v3] t) = w1 ∧ Fr w w1 ∧ w1.heap.size = g + 1 ∧ w1.cell? ⟨g, 0, none⟩ = some v0 ∧ w1.cell? ⟨g, 1, none⟩ = some v1 ∧ w1.cell? ⟨g, 2, none⟩ = some v2 ∧ w1.cell? ⟨g, 3, none⟩ = some v3 := by
  refine ⟨_, _, rfl, rfl, (Fr.refl h).alloc _, by simp, ?_, ?_, ?_, ?_⟩ <;> go_simp
theorem boxed5 {w : World} (h : Ok w) (v0 v1 v2 v3 v4 : Value) (t : TypeId) : ∃ w1 g, w.heap.size = g ∧ w.alloc (.cells #[v0, v1, v2, v3, v4] t) = w1 ∧ Fr w w1 ∧ w1.heap.size = g + 1 ∧ w1.cell? ⟨g, 0, none⟩ = some v0 ∧ w1.cell? ⟨g, 1, none⟩ = some v1 ∧ w1.cell? ⟨g, 2, none⟩ = some v2 ∧ w1.cell? ⟨g, 3, none⟩ = some v3 ∧ w1.cell? ⟨g, 4, none⟩ = some v4 := by
  refine ⟨_, _, rfl, rfl, (Fr.refl h).alloc _, by simp, ?_, ?_, ?_, ?_, ?_⟩ <;> go_simp
theorem boxed6 {w : World} (h : Ok w) (v0 v1 v2 v3 v4 v5 : Value) (t : TypeId) : ∃ w1 g, w.heap.size = g ∧ w.alloc (.cells #[v0, v1, v2, v3, v4, v5] t) = w1 ∧ Fr w w1 ∧ w1.heap.size = g + 1 ∧ w1.cell? ⟨g, 0, none⟩ = some v0 ∧ w1.cell? ⟨g, 1, none⟩ = some v1 ∧ w1.cell? ⟨g, 2, none⟩ = some v2 ∧ w1.cell? ⟨g, 3, none⟩ = some v3 ∧ w1.cell? ⟨g, 4, none⟩ = some v4 ∧ w1.cell? ⟨g, 5, none⟩ = some v5 := by
  refine ⟨_, _, rfl, rfl, (Fr.refl h).alloc _, by simp, ?_, ?_, ?_, ?_, ?_, ?_⟩ <;> go_simp
theorem boxed7 {w : World} (h : Ok w) (v0 v1 v2 v3 v4 v5 v6 : Value) (t : TypeId) : ∃ w1 g, w.heap.size = g ∧ w.alloc (.cells #[v0, v1, v2, v3, v4, v5, v6] t) = w1 ∧ Fr w w1 ∧ w1.heap.size = g + 1 ∧ w1.cell? ⟨g, 0, none⟩ = some v0 ∧ w1.cell? ⟨g, 1, none⟩ = some v1 ∧ w1.cell? ⟨g, 2, none⟩ = some v2 ∧ w1.cell? ⟨g, 3, none⟩ = some v3 ∧ w1.cell? ⟨g, 4, none⟩ = some v4 ∧ w1.cell? ⟨g, 5, none⟩ = some v5 ∧ w1.cell? ⟨g, 6, none⟩ = some v6 := by
  refine ⟨_, _, rfl, rfl, (Fr.refl h).alloc _, by simp, ?_, ?_, ?_, ?_, ?_, ?_, ?_⟩ <;> go_simp
theorem boxed8 {w : World} (h : Ok w) (v0 v1 v2 v3 v4 v5 v6 v7 : Value) (t : TypeId) : ∃ w1 g, w.heap.size = g ∧ w.alloc (.cells #[v0, v1, v2, v3, v4, v5, v6, v7] t) = w1 ∧ Fr w w1 ∧ w1.heap.size = g + 1 ∧ w1.cell? ⟨g, 0, none⟩ = some v0 ∧ w1.cell? ⟨g, 1, none⟩ = some v1 ∧ w1.cell? ⟨g, 2, none⟩ = some v2 ∧ w1.cell? ⟨g, 3, none⟩ = some v3 ∧ w1.cell? ⟨g, 4, none⟩ = some v4 ∧ w1.cell? ⟨g, 5, none⟩ = some v5 ∧ w1.cell? ⟨g, 6, none⟩ = some v6 ∧ w1.cell? ⟨g, 7, none⟩ = some v7 := by
  refine ⟨_, _, rfl, rfl, (Fr.refl h).alloc _, by simp, ?_, ?_, ?_, ?_, ?_, ?_, ?_, ?_⟩ <;> go_simp
theorem boxed9 {w : World} (h : Ok w) (v0 v1 v2 v3 v4 v5 v6 v7 v8 : Value) (t : TypeId) : ∃ w1 g, w.heap.size = g ∧ w.alloc (.cells #[v0, v1, v2, v3, v4, v5, v6, v7, v8] t) = w1 ∧ Fr w w1 ∧ w1.heap.size = g + 1 ∧ w1.cell? ⟨g, 0, none⟩ = some v0 ∧ w1.cell? ⟨g, 1, none⟩ = some v1 ∧ w1.cell? ⟨g, 2, none⟩ = some v2 ∧ w1.cell? ⟨g, 3, none⟩ = some v3 ∧ w1.cell? ⟨g, 4, none⟩ = some v4 ∧ w1.cell? ⟨g, 5, none⟩ = some v5 ∧ w1.cell? ⟨g, 6, none⟩ = some v6 ∧ w1.cell? ⟨g, 7, none⟩ = some v7 ∧ w1.cell? ⟨g, 8, none⟩ = some v8 := by
  refine ⟨_, _, rfl, rfl, (Fr.refl h).alloc _, by simp, ?_, ?_, ?_, ?_, ?_, ?_, ?_, ?_, ?_⟩ <;> go_simp

theorem boxedH {w : World} (h : Ok w) (cs : Array Value) (t : TypeId) : ∃ w1 g, w.heap.size = g ∧ w.alloc (.cells cs t) = w1 ∧ Fr w w1 ∧ w1.heap.size = g + 1 ∧ w1.heap[g]? = some (.cells cs t (0, 0)) :=
  ⟨_, _, rfl, rfl, (Fr.refl h).alloc _, by simp, heap_alloc_new w _⟩
theorem boxedN {w : World} (h : Ok w) (cs : Array Value) (t : TypeId) : ∃ w1 g, w.heap.size = g ∧ w.alloc (.cells cs t) = w1 ∧ Fr w w1 ∧ g < w1.heap.size ∧ w1.heap[g]? = some (.cells cs t (0, 0)) :=
  ⟨_, _, rfl, rfl, (Fr.refl h).alloc _, by simp, heap_alloc_new w _⟩
theorem blk_cell {g j : Nat} {w : World} {cs : Array Value} {t : TypeId} {fz : Nat × Nat} {v : Value} (hg : w.heap[g]? = some (.cells cs t fz)) (hj : cs[j]? = some v) : w.cell? ⟨g, j, none⟩ = some v := by
  simp [World.cell?, hg, hj]
theorem blk1 {w : World} {g : Nat} {v0 : Value} {t : TypeId} {fz : Nat × Nat} (h : w.heap[g]? = some (.cells #[v0] t fz)) : w.cell? ⟨g, 0, none⟩ = some v0 := blk_cell h rfl
theorem blk2 {w : World} {g : Nat} {v0 v1 : Value} {t : TypeId} {fz : Nat × Nat} (h : w.heap[g]? = some (.cells #[v0, v1] t fz)) : w.cell? ⟨g, 0, none⟩ = some v0 ∧ w.cell? ⟨g, 1, none⟩ = some v1 :=
  ⟨blk_cell h rfl, blk_cell h rfl⟩
theorem blk3 {w : World} {g : Nat} {v0 v1 v2 : Value} {t : TypeId} {fz : Nat × Nat} (h : w.heap[g]? = some (.cells #[v0, v1, v2] t fz)) : w.cell? ⟨g, 0, none⟩ = some v0 ∧ w.cell? ⟨g, 1, none⟩ = some v1 ∧ w.cell? ⟨g, 2, none⟩ = some v2 :=
  ⟨blk_cell h rfl, blk_cell h rfl, blk_cell h rfl⟩
theorem blk4 {w : World} {g : Nat} {v0 v1 v2 v3 : Value} {t : TypeId} {fz : Nat × Nat} (h : w.heap[g]? = some (.cells #[v0, v1, v2, v3] t fz)) : w.cell? ⟨g, 0, none⟩ = some v0 ∧ w.cell? ⟨g, 1, none⟩ = some v1 ∧ w.cell? ⟨g, 2, none⟩ = some v2 ∧ w.cell? ⟨g, 3, none⟩ = some v3 :=
  ⟨blk_cell h rfl, blk_cell h rfl, blk_cell h rfl, blk_cell h rfl⟩
theorem blk5 {w : World} {g : Nat} {v0 v1 v2 v3 v4 : Value} {t : TypeId} {fz : Nat × Nat} (h : w.heap[g]? = some (.cells #[v0, v1, v2, v3, v4] t fz)) : w.cell? ⟨g, 0, none⟩ = some v0 ∧ w.cell? ⟨g, 1, none⟩ = some v1 ∧ w.cell? ⟨g, 2, none⟩ = some v2 ∧ w.cell? ⟨g, 3, none⟩ = some v3 ∧ w.cell? ⟨g, 4, none⟩ = some v4 :=
  ⟨blk_cell h rfl, blk_cell h rfl, blk_cell h rfl, blk_cell h rfl, blk_cell h rfl⟩
theorem blk6 {w : World} {g : Nat} {v0 v1 v2 v3 v4 v5 : Value} {t : TypeId} {fz : Nat × Nat} (h : w.heap[g]? = some (.cells #[v0, v1, v2, v3, v4, v5] t fz)) : w.cell? ⟨g, 0, none⟩ = some v0 ∧ w.cell? ⟨g, 1, none⟩ = some v1 ∧ w.cell? ⟨g, 2, none⟩ = some v2 ∧ w.cell? ⟨g, 3, none⟩ = some v3 ∧ w.cell? ⟨g, 4, none⟩ = some v4 ∧ w.cell? ⟨g, 5, none⟩ = some v5 :=
  ⟨blk_cell h rfl, blk_cell h rfl, blk_cell h rfl, blk_cell h rfl, blk_cell h rfl, blk_cell h rfl⟩
theorem blk7 {w : World} {g : Nat} {v0 v1 v2 v3 v4 v5 v6 : Value} {t : TypeId} {fz : Nat × Nat} (h : w.heap[g]? = some (.cells #[v0, v1, v2, v3, v4, v5, v6] t fz)) : w.cell? ⟨g, 0, none⟩ = some v0 ∧ w.cell? ⟨g, 1, none⟩ = some v1 ∧ w.cell? ⟨g, 2, none⟩ = some v2 ∧ w.cell? ⟨g, 3, none⟩ = some v3 ∧ w.cell? ⟨g, 4, none⟩ = some v4 ∧ w.cell? ⟨g, 5, none⟩ = some v5 ∧ w.cell? ⟨g, 6, none⟩ = some v6 :=
  ⟨blk_cell h rfl, blk_cell h rfl, blk_cell h rfl, blk_cell h rfl, blk_cell h rfl, blk_cell h rfl, blk_cell h rfl⟩
theorem blk8 {w : World} {g : Nat} {v0 v1 v2 v3 v4 v5 v6 v7 : Value} {t : TypeId} {fz : Nat × Nat} (h : w.heap[g]? = some (.cells #[v0, v1, v2, v3, v4, v5, v6, v7] t fz)) : w.cell? ⟨g, 0, none⟩ = some v0 ∧ w.cell? ⟨g, 1, none⟩ = some v1 ∧ w.cell? ⟨g, 2, none⟩ = some v2 ∧ w.cell? ⟨g, 3, none⟩ = some v3 ∧ w.cell? ⟨g, 4, none⟩ = some v4 ∧ w.cell? ⟨g, 5, none⟩ = some v5 ∧ w.cell? ⟨g, 6, none⟩ = some v6 ∧ w.cell? ⟨g, 7, none⟩ = some v7 :=
  ⟨blk_cell h rfl, blk_cell h rfl, blk_cell h rfl, blk_cell h rfl, blk_cell h rfl, blk_cell h rfl, blk_cell h rfl, blk_cell h rfl⟩
theorem blk9 {w : World} {g : Nat} {v0 v1 v2 v3 v4 v5 v6 v7 v8 : Value} {t : TypeId} {fz : Nat × Nat} (h : w.heap[g]? = some (.cells #[v0, v1, v2, v3, v4, v5, v6, v7, v8] t fz)) : w.cell? ⟨g, 0, none⟩ = some v0 ∧ w.cell? ⟨g, 1, none⟩ = some v1 ∧ w.cell? ⟨g, 2, none⟩ = some v2 ∧ w.cell? ⟨g, 3, none⟩ = some v3 ∧ w.cell? ⟨g, 4, none⟩ = some v4 ∧ w.cell? ⟨g, 5, none⟩ = some v5 ∧ w.cell? ⟨g, 6, none⟩ = some v6 ∧ w.cell? ⟨g, 7, none⟩ = some v7 ∧ w.cell? ⟨g, 8, none⟩ = some v8 :=
  ⟨blk_cell h rfl, blk_cell h rfl, blk_cell h rfl, blk_cell h rfl, blk_cell h rfl, blk_cell h rfl, blk_cell h rfl, blk_cell h rfl, blk_cell h rfl⟩
theorem blk10 {w : World} {g : Nat} {v0 v1 v2 v3 v4 v5 v6 v7 v8 v9 : Value} {t : TypeId} {fz : Nat × Nat} (h : w.heap[g]? = some (.cells #[v0, v1, v2, v3, v4, v5, v6, v7, v8, v9] t fz)) : w.cell? ⟨g, 0, none⟩ = some v0 ∧ w.cell? ⟨g, 1, none⟩ = some v1 ∧ w.cell? ⟨g, 2, none⟩ = some v2 ∧ w.cell? ⟨g, 3, none⟩ = some v3 ∧ w.cell? ⟨g, 4, none⟩ = some v4 ∧ w.cell? ⟨g, 5, none⟩ = some v5 ∧ w.cell? ⟨g, 6, none⟩ = some v6 ∧ w.cell? ⟨g, 7, none⟩ = some v7 ∧ w.cell? ⟨g, 8, none⟩ = some v8 ∧ w.cell? ⟨g, 9, none⟩ = some v9 :=
  ⟨blk_cell h rfl, blk_cell h rfl, blk_cell h rfl, blk_cell h rfl, blk_cell h rfl, blk_cell h rfl, blk_cell h rfl, blk_cell h rfl, blk_cell h rfl, blk_cell h rfl⟩
theorem blk11 {w : World} {g : Nat} {v0 v1 v2 v3 v4 v5 v6 v7 v8 v9 v10 : Value} {t : TypeId} {fz : Nat × Nat} (h : w.heap[g]? = some (.cells #[v0, v1, v2, v3, v4, v5, v6, v7, v8, v9, v10] t fz)) : w.cell? ⟨g, 0, none⟩ = some v0 ∧ w.cell? ⟨g, 1, none⟩ = some v1 ∧ w.cell? ⟨g, 2, none⟩ = some v2 ∧ w.cell? ⟨g, 3, none⟩ = some v3 ∧ w.cell? ⟨g, 4, none⟩ = some v4 ∧ w.cell? ⟨g, 5, none⟩ = some v5 ∧ w.cell? ⟨g, 6, none⟩ = some v6 ∧ w.cell? ⟨g, 7, none⟩ = some v7 ∧ w.cell? ⟨g, 8, none⟩ = some v8 ∧ w.cell? ⟨g, 9, none⟩ = some v9 ∧ w.cell? ⟨g, 10, none⟩ = some v10 :=
  ⟨blk_cell h rfl, blk_cell h rfl, blk_cell h rfl, blk_cell h rfl, blk_cell h rfl, blk_cell h rfl, blk_cell h rfl, blk_cell h rfl, blk_cell h rfl, blk_cell h rfl, blk_cell h rfl⟩
theorem blk12 {w : World} {g : Nat} {v0 v1 v2 v3 v4 v5 v6 v7 v8 v9 v10 v11 : Value} {t : TypeId} {fz : Nat × Nat} (h : w.heap[g]? = some (.cells #[v0, v1, v2, v3, v4, v5, v6, v7, v8, v9, v10, v11] t fz)) : w.cell? ⟨g, 0, none⟩ = some v0 ∧ w.cell? ⟨g, 1, none⟩ = some v1 ∧ w.cell? ⟨g, 2, none⟩ = some v2 ∧ w.cell? ⟨g, 3, none⟩ = some v3 ∧ w.cell? ⟨g, 4, none⟩ = some v4 ∧ w.cell? ⟨g, 5, none⟩ = some v5 ∧ w.cell? ⟨g, 6, none⟩ = some v6 ∧ w.cell? ⟨g, 7, none⟩ = some v7 ∧ w.cell? ⟨g, 8, none⟩ = some v8 ∧ w.cell? ⟨g, 9, none⟩ = some v9 ∧ w.cell? ⟨g, 10, none⟩ = some v10 ∧ w.cell? ⟨g, 11, none⟩ = some v11 :=
  ⟨blk_cell h rfl, blk_cell h rfl, blk_cell h rfl, blk_cell h rfl, blk_cell h rfl, blk_cell h rfl, blk_cell h rfl, blk_cell h rfl, blk_cell h rfl, blk_cell h rfl, blk_cell h rfl, blk_cell h rfl⟩
theorem blk_alloc {w : World} (o : Obj) : (w.alloc o).heap[w.heap.size]? = some o := heap_alloc_new w o

theorem strE {l r : List UInt8} (h : l = r) : Ending.returned (.string ⟨l.toArray⟩) = .returned (.string ⟨r.toArray⟩) := by rw [h]
def I64 (n : Int) : Prop := -9223372036854775808 ≤ n ∧ n ≤ 9223372036854775807
def U64 (n : Int) : Prop := 0 ≤ n ∧ n ≤ 18446744073709551615

theorem bs_app (l r : List UInt8) : ((⟨l.toArray⟩ : ByteArray) ++ (⟨r.toArray⟩ : ByteArray)) = ⟨(l ++ r).toArray⟩ := by
  apply ByteArray.ext
  simp
theorem bs_lit (l : List UInt8) : (⟨l.toArray⟩ : ByteArray).data.toList = l := by simp
theorem bs_size (l : List UInt8) : (⟨l.toArray⟩ : ByteArray).size = l.length := by simp [ByteArray.size]
theorem bs_back (s : ByteArray) : (⟨s.data.toList.toArray⟩ : ByteArray) = s := by simp

/- rows of the call's own that are appended to -/
theorem Fr.row {w W W' : World} (f : Fr w W) (hw : Ok w) {row : Option Nat} (hg : W.grownBy W' row) (hr : ∀ k, row = some k → w.heap.size ≤ k) : Fr w W' := Fr.of hw (f.below.grown hg f.size hr)
theorem grown_blk {W W' : World} {row : Option Nat} {k : Nat} {o : Obj} (hg : W.grownBy W' row) (h : W.heap[k]? = some o) (hne : some k ≠ row) : W'.heap[k]? = some o :=
  (hg.block k (Array.getElem?_eq_some_iff.1 h).1 hne).trans h
theorem own_some {W : World} {base size n : Nat} {e : TypeId} {v : Value} {xs : List Value} (h : W.ownsRow base e size v n xs) (hv : v ≠ .slice none 0 0) : ∃ g cap, v = .slice (some ⟨g, 0, none⟩) n cap ∧ base ≤ g ∧ g < W.heap.size ∧ n ≤ cap := by
  rcases h.2 with ⟨h1, _⟩ | ⟨g, cap, cur, hv', hb, hg, hn, _⟩
  · exact absurd h1 hv
  · exact ⟨g, cap, hv', hb, (Array.getElem?_eq_some_iff.1 hg).1, hn⟩
theorem own_fr {W W' : World} {base size n : Nat} {e : TypeId} {v : Value} {xs : List Value} (h : W.ownsRow base e size v n xs) (q : Fr W W') : W'.ownsRow base e size v n xs :=
  h.kept (row := none) ⟨q.below.os, q.below.tape, q.below.output, q.below.size, fun k hk _ => q.below.block k hk⟩ (by cases v.ownBlock <;> simp)
theorem own_base' {W : World} {base size n : Nat} {e : TypeId} {v : Value} {xs : List Value} (h : W.ownsRow base e size v n xs) : ∀ k, v.ownBlock = some k → base ≤ k := fun k hk => (h.lt k hk).1

section
variable {P : Program} {w : World} {d : Nat} {f : Field} {fs : List Field} {xs ys : Array Value} {a b : Value} {r s : Bool}
/-- two structs, compared field by field -/
theorem eq_field (hn : f.name ≠ "_") (ha : (part f.type xs f.offset).run P w = .ok a w) (hb : (part f.type ys f.offset).run P w = .ok b w) (he : (Op.equalIn d f.type a b).run P w = .ok r w)
    (hr : (Op.eqFields d xs ys fs).run P w = .ok s w) : (Op.eqFields d xs ys (f :: fs)).run P w = .ok (r && s) w := by
  rw [Op.eqFields]
  simp only [if_pos hn, Sem.run_bind, ha, hb, he, Result.andThen_ok]
  cases r
  · simp
  · simpa using hr
theorem eq_done : (Op.eqFields d xs ys []).run P w = .ok true w := by simp [Op.eqFields]
theorem eq_struct {t : TypeId} {gs : Array Field} (hu : P.underlying t = some (.struct gs)) (hp : P.stoodInHeld t = false) (h : (Op.eqFields d xs ys gs.toList).run P w = .ok r w) : (Op.equalIn (d + 1) t (.agg xs) (.agg ys)).run P w = .ok r w := by
  have hf : P.fieldsOf t = gs := by simp [Program.fieldsOf, hu]
  rw [run_equalIn_struct (P := P) w d t xs ys (by rw [hf]; exact hu) hp, hf]
  exact h
end
end Go.Proofs.YtefkklgelmbaiaaDoor
